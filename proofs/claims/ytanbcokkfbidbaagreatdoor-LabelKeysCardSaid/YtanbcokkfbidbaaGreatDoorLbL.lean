/- Lengths of what package name and package label make. Plain Lean. -/
import Derived.Test.YtanbcokkfbidbaaGreatDoorLbQ
import Derived.Test.YtanbcokkfbidbaaGreatDoorLbS
namespace Go.Proofs.YtanbcokkfbidbaaGreatDoor.Lb
open Ent
theorem join_one (l : List (List UInt8)) (h : l.isEmpty = false) : (join l).length + 1 = tot l := by
  unfold join
  cases l with
  | nil => cases h
  | cons x r =>
    rw [Lib.join_length]
    have h := lens_tot (x :: r)
    rw [List.length_cons] at h
    simp; omega
theorem tot_splitN : ∀ (l cur : List (List UInt8)), tot (splitN cur l) ≤ tot cur + tot l
  | [], cur => by
    unfold splitN
    split
    · exact Nat.zero_le _
    · next h => rw [tot_cons, join_one cur (by simpa using h)]; simp [tot_nil]
  | w :: r, cur => by
    unfold splitN
    rw [tot_cons]
    split
    · split
      · have := tot_splitN r []; rw [tot_nil] at this; omega
      · next h => have := tot_splitN r []; rw [tot_nil] at this; rw [tot_cons, join_one cur (by simpa using h)]; omega
    · have := tot_splitN r (cur ++ [w]); rw [tot_append, tot_cons, tot_nil] at this; omega
theorem tot_split (s : List UInt8) : tot (split s) ≤ s.length + 1 := by
  have h1 := tot_splitN (words s) []
  have h2 := tot_words s
  rw [tot_nil] at h1
  unfold split; omega
theorem comma_le (s : List UInt8) (i : Nat) : ((commas s).getD i []).length ≤ s.length := by
  rw [List.getD_eq_getElem?_getD]
  cases h : (commas s)[i]? with
  | none => exact Nat.zero_le _
  | some p =>
    have h1 := mem_tot _ p (List.mem_of_getElem? h)
    have h2 := tot_pieces (fun c => c == 44) s []
    unfold commas at h1
    simp only [Option.getD_some]
    simp at h2; omega
theorem jw_le (s : List UInt8) : (join (words s)).length ≤ s.length + 1 := Nat.le_trans (join_le _) (tot_words _)
structure PerLe (n : Nat) (p : Per) : Prop where
  first : p.first.length ≤ n
  von : p.von.length ≤ n
  last : p.last.length ≤ n
  jr : p.jr.length ≤ n
theorem getD_le (l : List (List UInt8)) (i : Nat) : (l.getD i []).length ≤ tot l := by
  rw [List.getD_eq_getElem?_getD]
  cases h : l[i]? with
  | none => exact Nat.zero_le _
  | some p => have := mem_tot _ p (List.mem_of_getElem? h); simp only [Option.getD_some]; omega
theorem parse_len (s : List UInt8) : PerLe (s.length + 1) (parse s) := by
  have c0 := comma_le s 0; have c1 := comma_le s 1; have c2 := comma_le s 2
  have w0 := jw_le ((commas s).getD 0 []); have w1 := jw_le ((commas s).getD 1 []); have w2 := jw_le ((commas s).getD 2 [])
  have t0 := tot_words ((commas s).getD 0 [])
  have take : ∀ k, (join ((words ((commas s).getD 0 [])).take k)).length ≤ s.length + 1 := fun k => by
    have := join_le ((words ((commas s).getD 0 [])).take k); have := tot_take (words ((commas s).getD 0 [])) k; omega
  have drop : ∀ k, (join ((words ((commas s).getD 0 [])).drop k)).length ≤ s.length + 1 := fun k => by
    have := join_le ((words ((commas s).getD 0 [])).drop k); have := tot_drop (words ((commas s).getD 0 [])) k; omega
  have mid : ∀ k j, (join (((words ((commas s).getD 0 [])).take k).drop j)).length ≤ s.length + 1 := fun k j => by
    have := join_le (((words ((commas s).getD 0 [])).take k).drop j); have := tot_drop ((words ((commas s).getD 0 [])).take k) j; have := tot_take (words ((commas s).getD 0 [])) k; omega
  have nil : ([] : List UInt8).length ≤ s.length + 1 := Nat.zero_le _
  unfold parse
  dsimp only
  split
  · split
    · exact ⟨by show (join _).length ≤ _; omega, take _, drop _, by show (join _).length ≤ _; omega⟩
    · exact ⟨by show (join _).length ≤ _; omega, take _, drop _, nil⟩
  · split
    · exact ⟨nil, nil, nil, nil⟩
    · split
      · exact ⟨take _, nil, by have := getD_le (words ((commas s).getD 0 [])) ((words ((commas s).getD 0 [])).length - 1); exact Nat.le_trans this (by omega), nil⟩
      · exact ⟨take _, mid _ _, drop _, nil⟩
theorem tot_short (l : List (List UInt8)) : tot (l.map fun w => w.take 1 ++ [46]) ≤ 3 * l.length := by
  induction l with
  | nil => exact Nat.zero_le _
  | cons x l ih =>
    rw [List.map_cons, tot_cons, List.length_cons]
    simp only [List.length_append, List.length_take, List.length_singleton]
    omega
theorem short_len (n : Nat) (p : Per) (h : PerLe n p) : (short p).length ≤ 6 * n + 20 := by
  have h1 := tot_words p.first
  have h2 := len_tot (words p.first)
  have h3 := tot_short (words p.first)
  have h4 := join_le ((words p.first).map fun w => w.take 1 ++ [46])
  have := h.first; have := h.von; have := h.last; have := h.jr
  unfold short
  refine Nat.le_trans (wholeW_le _) ?_
  rw [tot_cons, tot_cons, tot_cons, tot_cons, tot_nil]
  omega
theorem get_len (N : Nat) (fs : List Fld) (n : List UInt8) (h : ∀ f ∈ fs, f.text.length ≤ N) : (Ent.get fs n).1.length ≤ N := by
  unfold Ent.get
  cases hf : fs.find? (fun f => f.name == n) with
  | none => exact Nat.zero_le _
  | some f => exact h f (List.mem_of_find?_eq_some hf)
/-- an entry whose texts are short -/
structure EntB (x : Ent) : Prop where
  kind : x.kind.length ≤ 1000
  key : x.key.length ≤ 1000
  name : ∀ f ∈ x.fields, f.name.length ≤ 1000
  text : ∀ f ∈ x.fields, f.text.length ≤ 400
  many : x.fields.length ≤ 1000
theorem EntB.field {x : Ent} (h : EntB x) (n : List UInt8) : (field x n).length ≤ 400 := get_len 400 x.fields n h.text
theorem EntB.authors {x : Ent} (h : EntB x) : (authors x).length ≤ 401 ∧ ∀ p ∈ Lb.authors x, PerLe 402 p := by
  have h1 := h.field authorW
  have h2 := tot_split (Lb.field x authorW)
  have h3 := len_tot (split (Lb.field x authorW))
  refine ⟨by unfold Lb.authors; rw [List.length_map]; omega, fun p hp => ?_⟩
  obtain ⟨s, hs, rfl⟩ := List.mem_map.1 hp
  have h4 := mem_tot _ s hs
  have h5 := parse_len s
  exact ⟨Nat.le_trans h5.first (by omega), Nat.le_trans h5.von (by omega), Nat.le_trans h5.last (by omega), Nat.le_trans h5.jr (by omega)⟩
theorem pkey_len (p : Per) (h : PerLe 402 p) : (pkey p).length ≤ 10000 := by
  have := h.first; have := h.von; have := h.last; have := h.jr
  have h1 := jw_le (p.last ++ [32] ++ p.first ++ [32] ++ p.von ++ [32] ++ p.jr)
  unfold pkey small
  rw [List.length_map]
  simp only [List.length_append, List.length_singleton] at h1
  omega
theorem plabel_len (l : List Per) : (plabel l).length ≤ 6 := by
  unfold plabel
  have hm : ∀ q : List Per, ((q.map fun p => p.last.take 1).flatten).length ≤ q.length := fun q => by
    induction q with
    | nil => exact Nat.zero_le _
    | cons x q ih => rw [List.map_cons, List.flatten_cons, List.length_append, List.length_take, List.length_cons]; omega
  split
  · rw [List.length_take]; omega
  · split
    · have := hm (l.take 3); rw [List.length_append, List.length_singleton]; rw [List.length_take] at this; omega
    · have := hm l; omega
theorem letters_len (x : Ent) : (letters x).length ≤ 8 := by
  unfold letters
  rw [List.length_append, List.length_drop]
  have := plabel_len (authors x); omega
theorem joined_len (x : Ent) (h : EntB x) : tot ((authors x).map short) ≤ 1000000 := by
  have ⟨h1, h2⟩ := h.authors
  generalize authors x = l at h1 h2
  have : ∀ l : List Per, (∀ p ∈ l, PerLe 402 p) → tot (l.map short) ≤ 2433 * l.length := fun l => by
    induction l with
    | nil => intro _; exact Nat.zero_le _
    | cons p l ih =>
      intro hp
      have a := short_len 402 p (hp p (by simp))
      have b := ih (fun q hq => hp q (List.mem_cons_of_mem _ hq))
      rw [List.map_cons, tot_cons, List.length_cons]; omega
  have := this l h2; omega
end Go.Proofs.YtanbcokkfbidbaaGreatDoor.Lb
