/- Sorting entries that bear something with them: what is borne makes no difference. Plain Lean. -/
import Derived.Test.YtanbcokkfbidbaaGreatDoorLbS
namespace Go.Proofs.YtanbcokkfbidbaaGreatDoor.Lb
open Ent
section
variable {β : Type}
def insertP (x : Ent × β) : List (Ent × β) → List (Ent × β)
  | [] => [x]
  | y :: r => if cmp x.1 y.1 < 0 then y :: insertP x r else x :: y :: r
def sortP : List (Ent × β) → List (Ent × β) → List (Ent × β)
  | acc, [] => acc
  | acc, x :: r => sortP (insertP x acc) r
theorem insertP_fst (x : Ent × β) : ∀ r : List (Ent × β), (insertP x r).map (·.1) = insertR x.1 (r.map (·.1))
  | [] => rfl
  | y :: r => by
    unfold insertP insertR
    rw [List.map_cons]
    dsimp only
    split
    · next h => rw [List.map_cons, insertP_fst x r]
    · next h => rfl
theorem sortP_fst : ∀ (l acc : List (Ent × β)), (sortP acc l).map (·.1) = sortR (acc.map (·.1)) (l.map (·.1))
  | [], _ => rfl
  | x :: l, acc => by unfold sortP; rw [sortP_fst l, insertP_fst]; rfl
theorem sortP_snoc : ∀ (l acc : List (Ent × β)) (x : Ent × β), sortP acc (l ++ [x]) = insertP x (sortP acc l)
  | [], _, _ => rfl
  | y :: l, acc, x => by rw [List.cons_append]; unfold sortP; exact sortP_snoc l _ x
theorem insertP_perm (x : Ent × β) : ∀ r : List (Ent × β), (insertP x r).Perm (x :: r)
  | [] => .refl _
  | y :: r => by
    unfold insertP
    split
    · exact ((insertP_perm x r).cons y).trans (.swap x y r)
    · exact .refl _
theorem sortP_perm : ∀ (l acc : List (Ent × β)), (sortP acc l).Perm (acc ++ l)
  | [], acc => by rw [List.append_nil]; exact .refl _
  | x :: l, acc => by
    unfold sortP
    exact (sortP_perm l _).trans (((insertP_perm x acc).append_right l).trans List.perm_middle.symm)
def orderP (l : List (Ent × β)) : List (Ent × β) := (sortP [] l).reverse
theorem orderP_fst (l : List (Ent × β)) : (orderP l).map (·.1) = order (l.map (·.1)) := by
  unfold orderP order
  rw [List.map_reverse, sortP_fst]; rfl
theorem orderP_perm (l : List (Ent × β)) : (orderP l).Perm l := (List.reverse_perm _).trans (by have := sortP_perm l []; rwa [List.nil_append] at this)
end
end Go.Proofs.YtanbcokkfbidbaaGreatDoor.Lb
