/- Plain facts on packages name's model: lengths, pieces at a byte. Plain Lean. -/
import Derived.Test.YtanbcokkfbidbaaGreatDoorLbP
import Derived.Lib.IndexBytes
namespace Go.Proofs.YtanbcokkfbidbaaGreatDoor.Lb
open Ent
def tot (l : List (List UInt8)) : Nat := (l.map fun s => s.length + 1).sum
theorem tot_nil : tot [] = 0 := rfl
theorem tot_cons (x : List UInt8) (l : List (List UInt8)) : tot (x :: l) = x.length + 1 + tot l := by simp [tot]
theorem tot_append (a b : List (List UInt8)) : tot (a ++ b) = tot a + tot b := by simp [tot]
theorem tot_take (l : List (List UInt8)) (k : Nat) : tot (l.take k) ≤ tot l := by
  conv => rhs; rw [← List.take_append_drop k l, tot_append]
  omega
theorem tot_drop (l : List (List UInt8)) (k : Nat) : tot (l.drop k) ≤ tot l := by
  conv => rhs; rw [← List.take_append_drop k l, tot_append]
  omega
theorem len_tot (l : List (List UInt8)) : l.length ≤ tot l := by
  induction l with
  | nil => exact Nat.le_refl _
  | cons x l ih => rw [tot_cons, List.length_cons]; omega
theorem mem_tot (l : List (List UInt8)) (x : List UInt8) (h : x ∈ l) : x.length + 1 ≤ tot l := by
  induction l with
  | nil => cases h
  | cons y l ih =>
    rw [tot_cons]
    cases h with
    | head => omega
    | tail _ h => have := ih h; omega
theorem lens_tot (l : List (List UInt8)) : Lib.lens l + l.length = tot l := by
  induction l with
  | nil => rfl
  | cons x l ih =>
    rw [tot_cons, List.length_cons, ← ih]
    simp [Lib.lens]; omega
theorem joinS_le (l : List (List UInt8)) (sep : List UInt8) : (Lib.join l sep).length ≤ tot l * (sep.length + 1) := by
  cases l with
  | nil => simp [Lib.join_nil]
  | cons x r =>
    rw [Lib.join_length]
    have h := lens_tot (x :: r)
    rw [List.length_cons] at h
    have h2 : sep.length * r.length ≤ sep.length * tot (x :: r) := Nat.mul_le_mul_left _ (by omega)
    rw [Nat.mul_succ, Nat.mul_comm (tot _)]
    omega
theorem join_le (l : List (List UInt8)) : (join l).length ≤ tot l := by
  unfold join
  cases l with
  | nil => simp [Lib.join_nil]
  | cons x r =>
    rw [Lib.join_length]
    have h := lens_tot (x :: r)
    rw [List.length_cons] at h
    simp; omega
theorem tot_pieces (p : UInt8 → Bool) (s : List UInt8) : ∀ cur, tot (pieces p cur s) = cur.length + 1 + s.length := by
  induction s with
  | nil => intro cur; simp [pieces, tot_cons, tot_nil]
  | cons c r ih =>
    intro cur
    unfold pieces
    split
    · rw [tot_cons, ih]; simp; omega
    · rw [ih]; simp; omega
theorem tot_full (l : List (List UInt8)) : tot (full l) ≤ tot l := by
  induction l with
  | nil => exact Nat.le_refl _
  | cons x l ih =>
    unfold full at ih ⊢
    rw [List.filter_cons]
    split
    · rw [tot_cons, tot_cons]; omega
    · rw [tot_cons]; omega
theorem tot_words (s : List UInt8) : tot (words s) ≤ s.length + 1 := by
  unfold words
  have := tot_full (pieces blank [] s)
  rw [tot_pieces] at this
  simp at this; omega
theorem words_ne (s : List UInt8) : ∀ x ∈ words s, x ≠ [] := by
  intro x hx
  have h := (List.mem_filter.1 hx).2
  intro e
  rw [e] at h
  exact absurd h (by decide)
theorem wholeW_le (l : List (List UInt8)) : (whole l).length ≤ tot l := Nat.le_trans (join_le _) (tot_full _)
/-! ### pieces at a byte -/
def consHead (b : UInt8) : List (List UInt8) → List (List UInt8)
  | [] => []
  | h :: t => (b :: h) :: t
theorem pieces_head (p : UInt8 → Bool) (b : UInt8) (s : List UInt8) : ∀ cur, pieces p (b :: cur) s = consHead b (pieces p cur s) := by
  induction s with
  | nil => intro cur; rfl
  | cons c r ih =>
    intro cur
    unfold pieces
    split
    · rfl
    · rw [List.cons_append, ih]
theorem index_cons_ne (b c : UInt8) (l : List UInt8) (h : b ≠ c) : Lib.index (b :: l) [c] = if Lib.index l [c] == -1 then -1 else Lib.index l [c] + 1 := by
  have hp : ([c] : List UInt8).isPrefixOf (b :: l) = false := by simp [List.isPrefixOf, Ne.symm h]
  rw [Lib.index, hp]; simp
theorem splitK_ne (b c : UInt8) (l : List UInt8) (h : b ≠ c) : ∀ k, Lib.splitK [c] 0 k (b :: l) = consHead b (Lib.splitK [c] 0 k l)
  | 0 => rfl
  | k + 1 => by
    have hix := index_cons_ne b c l h
    unfold Lib.splitK
    by_cases hm : Lib.index l [c] = -1
    · rw [hix, hm]; rfl
    · have hge := Lib.index_ge l [c]
      obtain ⟨j, hj⟩ : ∃ j : Nat, Lib.index l [c] = j := ⟨(Lib.index l [c]).toNat, by omega⟩
      have hix' : Lib.index (b :: l) [c] = ((j + 1 : Nat) : Int) := by rw [hix, if_neg (fun e => hm (beq_iff_eq.1 e)), hj]; omega
      have n1 : ¬ (((j + 1 : Nat) : Int) == -1) = true := fun e => by have := beq_iff_eq.1 e; omega
      have n2 : ¬ (((j : Nat) : Int) == -1) = true := fun e => by have := beq_iff_eq.1 e; omega
      rw [hix', hj, if_neg n1, if_neg n2]
      simp [consHead]
theorem splitK_eq (c : UInt8) (l : List UInt8) (k : Nat) : Lib.splitK [c] 0 (k + 1) (c :: l) = [] :: Lib.splitK [c] 0 k l := by
  have hix : Lib.index (c :: l) [c] = 0 := by rw [Lib.index]; simp [List.isPrefixOf]
  conv => lhs; unfold Lib.splitK
  rw [hix]
  simp
theorem split_pieces (c : UInt8) (s : List UInt8) : Lib.splitK [c] 0 (Lib.count s [c]) s = pieces (fun b => b == c) [] s := by
  induction s with
  | nil => rw [Lib.count_one]; rfl
  | cons b l ih =>
    by_cases h : b = c
    · subst h
      rw [Lib.count_cons_eq, Nat.add_comm, splitK_eq, ih]
      simp [pieces]
    · rw [Lib.count_cons_ne b c l h, splitK_ne b c l h, ih, ← pieces_head]
      conv => rhs; unfold pieces
      rw [if_neg (by simpa using h), List.nil_append]
theorem splitB_pieces (c : UInt8) (s : List UInt8) : Lib.splitB ⟨#[c]⟩ 0 (Lib.countB ⟨s.toArray⟩ ⟨#[c]⟩) ⟨s.toArray⟩ = (pieces (fun b => b == c) [] s).map fun t => ⟨t.toArray⟩ := by
  have h := Lib.splitB_data ⟨#[c]⟩ 0 (Lib.countB ⟨s.toArray⟩ ⟨#[c]⟩) ⟨s.toArray⟩
  have h2 : (Lib.splitB ⟨#[c]⟩ 0 (Lib.countB ⟨s.toArray⟩ ⟨#[c]⟩) ⟨s.toArray⟩).map (·.data.toList) = pieces (fun b => b == c) [] s := by
    rw [h, ← split_pieces]
  rw [← h2, List.map_map]
  conv => lhs; rw [← List.map_id (Lib.splitB _ _ _ _)]
  exact List.map_congr_left fun x _ => by cases x; rfl
theorem count_pieces (c : UInt8) (s : List UInt8) : Lib.countB ⟨s.toArray⟩ ⟨#[c]⟩ + 1 = (pieces (fun b => b == c) [] s).length := by
  rw [← Lib.splitB_all ⟨#[c]⟩ (Nat.le_refl 1) 0 _ ⟨s.toArray⟩ rfl, splitB_pieces, List.length_map]
theorem pieces_pos (p : UInt8 → Bool) (s : List UInt8) : ∀ cur, 0 < (pieces p cur s).length := by
  induction s with
  | nil => intro cur; simp [pieces]
  | cons c r ih => intro cur; unfold pieces; split; simp; exact ih _
/-! ### last -/
theorem lastN_le (l : List (List UInt8)) : lastN l ≤ l.length - 1 := by
  have : ∀ k, lastGo l k ≤ k := fun k => by
    induction k with
    | zero => exact Nat.le_refl _
    | succ k ih => unfold lastGo; split <;> omega
  exact this _
theorem lastGo_pos (l : List (List UInt8)) : ∀ k, lastGo l k ≠ 0 → ∃ j, j + 1 = lastGo l k ∧ smallW (l.getD j []) = true
  | 0, h => absurd rfl h
  | k + 1, h => by
    unfold lastGo at h ⊢
    split
    · next hs => exact ⟨k, rfl, hs⟩
    · next hs => rw [if_neg hs] at h; exact lastGo_pos l k h
/-- the first small word is ahead of the last place -/
theorem find_last (l : List (List UInt8)) (h : lastN l ≠ 0) : l.any smallW = true ∧ l.findIdx smallW < lastN l := by
  obtain ⟨j, hj, hs⟩ := lastGo_pos l _ h
  have hle := lastN_le l
  have hj2 : j + 1 = lastN l := hj
  have hjl : j < l.length := by omega
  rw [List.getD_eq_getElem?_getD, List.getElem?_eq_getElem hjl] at hs
  refine ⟨List.any_eq_true.2 ⟨l[j], List.getElem_mem hjl, hs⟩, ?_⟩
  have : l.findIdx smallW ≤ j := by
    refine Nat.le_of_not_lt fun hlt => ?_
    have := List.not_of_lt_findIdx hlt
    simp at hs
    rw [hs] at this
    exact absurd this (by decide)
  omega
end Go.Proofs.YtanbcokkfbidbaaGreatDoor.Lb
