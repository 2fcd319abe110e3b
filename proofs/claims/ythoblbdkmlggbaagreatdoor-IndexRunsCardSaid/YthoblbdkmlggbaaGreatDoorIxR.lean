/- Rows of numbers that Go's library deletes from, sorts and makes compact; and the plain law of pages once more. -/
import Derived.Test.YthoblbdkmlggbaaGreatDoorIxW2
import Derived.Test.YthoblbdkmlggbaaGreatDoorShA
set_option linter.unusedSimpArgs false
set_option linter.unusedVariables false
namespace Go.Proofs.YthoblbdkmlggbaaGreatDoor
open Go.RowKit Go.Shelf Go.Sort Go.Lib
/-! ### the plain part -/
namespace Ix
theorem compactN : ∀ (m : Nat) (d : Array Int), m ≤ d.size → d.toList.Pairwise (· ≤ ·) → (Lib.compactUpTo d m).Pairwise (· < ·) ∧ (∀ x, x ∈ Lib.compactUpTo d m ↔ ∃ j, j < m ∧ d[j]! = x)
  | 0, d, _, _ => by
    have : Lib.compactUpTo d 0 = [] := rfl
    rw [this]
    exact ⟨List.Pairwise.nil, fun x => by simp⟩
  | m + 1, d, h, hs => by
    obtain ⟨h1, h2⟩ := compactN m d (by omega) hs
    rw [Lib.compactUpTo_succ]
    have get : ∀ j, j < d.size → d[j]! = d.toList[j]?.getD 0 := fun j hj => by simp [getElem!_pos, hj]
    have ord : ∀ i j, i < j → j < d.size → d[i]! ≤ d[j]! := by
      intro i j hij hj
      have := List.pairwise_iff_getElem.1 hs i j (by simp; omega) (by simpa using hj) hij
      rw [getElem!_pos d i (by omega), getElem!_pos d j hj]
      simpa using this
    by_cases hk : Lib.keeps d m = true
    · rw [if_pos hk]
      refine ⟨List.pairwise_append.2 ⟨h1, by simp, fun a ha b hb => ?_⟩, fun x => ?_⟩
      · simp at hb
        subst hb
        obtain ⟨j, hj, rfl⟩ := (h2 a).1 ha
        have hm0 : m ≠ 0 := by omega
        have hne : d[m]! ≠ d[m - 1]! := by
          have := of_decide_eq_true hk
          rcases this with h | h
          · exact absurd h hm0
          · exact h
        have e1 : d[j]! ≤ d[m - 1]! := by
          rcases Nat.lt_or_ge j (m - 1) with h | h
          · exact ord j (m - 1) h (by omega)
          · have : j = m - 1 := by omega
            subst this; omega
        have e2 := ord (m - 1) m (by omega) (by omega)
        omega
      · rw [List.mem_append, h2]
        constructor
        · rintro (⟨j, hj, e⟩ | hx)
          · exact ⟨j, by omega, e⟩
          · simp at hx; exact ⟨m, by omega, hx.symm⟩
        · rintro ⟨j, hj, e⟩
          rcases Nat.lt_or_ge j m with h | h
          · exact .inl ⟨j, h, e⟩
          · have : j = m := by omega
            subst this
            exact .inr (by simp [e])
    · rw [if_neg hk, List.append_nil]
      refine ⟨h1, fun x => ?_⟩
      rw [h2]
      have hk' : Lib.keeps d m = false := by simpa using hk
      have := of_decide_eq_false hk'
      constructor
      · rintro ⟨j, hj, e⟩; exact ⟨j, by omega, e⟩
      · rintro ⟨j, hj, e⟩
        rcases Nat.lt_or_ge j m with h | h
        · exact ⟨j, h, e⟩
        · have hjm : j = m := by omega
          subst hjm
          have h0 : j ≠ 0 := fun h => this (.inl h)
          have h1 : d[j]! = d[j - 1]! := by
            by_cases hh : d[j]! = d[j - 1]!
            · exact hh
            · exact absurd (.inr hh) this
          exact ⟨j - 1, by omega, by rw [← h1]; exact e⟩
theorem sorted_pages (l : List Int) : Lib.compact ((l.filter page).mergeSort fun x y => decide (x ≤ y)) = rising [] l := by
  have hs : ((l.filter page).mergeSort fun x y => decide (x ≤ y)).Pairwise (· ≤ ·) := by
    have := List.pairwise_mergeSort (le := fun (x y : Int) => decide (x ≤ y)) (fun a b c h1 h2 => by simp at *; omega) (fun a b => by simp; omega) (l.filter page)
    exact this.imp (fun h => by simpa using h)
  obtain ⟨h1, h2⟩ := compactN ((l.filter page).mergeSort fun x y => decide (x ≤ y)).length ((l.filter page).mergeSort fun x y => decide (x ≤ y)).toArray (by simp) (by simpa using hs)
  refine rising_of_sorted l _ h1 fun x => ?_
  have := h2 x
  rw [show x ∈ Lib.compact ((l.filter page).mergeSort fun x y => decide (x ≤ y)) ↔ _ from this]
  constructor
  · rintro ⟨j, hj, e⟩
    rw [getElem!_pos _ j (by simpa using hj)] at e
    have hm : x ∈ (l.filter page).mergeSort fun x y => decide (x ≤ y) := by rw [← e]; simp
    rw [List.mem_mergeSort, List.mem_filter] at hm
    exact hm
  · intro hx
    have hm : x ∈ (l.filter page).mergeSort fun x y => decide (x ≤ y) := by rw [List.mem_mergeSort, List.mem_filter]; exact hx
    obtain ⟨j, hj, e⟩ := List.getElem_of_mem hm
    exact ⟨j, hj, by rw [getElem!_pos _ j (by simpa using hj)]; simpa using e⟩
end Ix
/-! ### rows -/
theorem heap_putRow {α : Type} [Inhabited α] (enc : α → Value) (w : World) (q g off : Nat) (d : Array α) (k : Nat) (hk : k ≠ g) : (putRow enc (Sort.ahead w q) g off d).heap[k]? = w.heap[k]? := by
  show (w.heap.modify g _)[k]? = _
  rw [Array.getElem?_modify, if_neg (fun e => hk e.symm)]
theorem below_putRow {α : Type} [Inhabited α] (enc : α → Value) (w : World) (q g off : Nat) (d : Array α) : Below g w (putRow enc (Sort.ahead w q) g off d) :=
  ⟨rfl, rfl, rfl, by rw [size_putRow]; exact Nat.le_refl _, fun k hk => heap_putRow enc w q g off d k (by omega)⟩
theorem below_grow {B : Nat} {a w : World} (h : Below B a w) (hB : B ≤ w.heap.size) (os : Array Obj) : Below B a (Sort.grow w os) :=
  h.trans ⟨rfl, rfl, rfl, by rw [Sort.size_grow]; omega, fun k hk => heap_grow_old w os (by omega)⟩
theorem holds_prefix {w : World} {g : Nat} {a b : List Int} (h : Holds (Value.int .i64) w g 0 (a ++ b).toArray) : Holds (Value.int .i64) w g 0 a.toArray := by
  intro j hj
  have hj' : j < a.length := by simpa using hj
  have := h j (by simp; omega)
  rw [getElem!_pos _ j (by simp; omega)] at this
  rw [getElem!_pos _ j hj]
  simpa [List.getElem_append_left hj'] using this
theorem holds_ahead {w : World} {g q : Nat} {d : Array Int} (h : Holds (Value.int .i64) w g 0 d) : Holds (Value.int .i64) (Sort.ahead w q) g 0 d := h
theorem eg_pages : ∀ args w, (callFunc 33 args).run Tryz.prog w = .ok (.enter 33 args) w := enters_of Tryz.func33 (by kernel_rfl) rfl
theorem gives_pages (n : Int) (W : World) : FnGives Tryz.prog 33 #[] #[.int .i64 n] (.bool (!Ix.page n)) W := by
  show Calls Tryz.prog 33 #[.int .i64 n] W _
  refine (ix_pages1 n W).mono ?_
  rintro e w' ⟨rfl, rfl⟩
  exact ⟨rfl, 0, rfl⟩
/-- the pages alone -/
theorem pg_delete (g c : Nat) (zs : List Int) (w : World) (hH : Holds (Value.int .i64) w g 0 zs.toArray) (hz : zs.length ≤ 9223372036854775807) (hc : zs.length ≤ c) :
    Calls Tryz.prog 32 #[.slice (some ⟨g, 0, none⟩) zs.length c, .func (.func 33) #[] #[]] w fun e w' => e = .returned (.slice (some ⟨g, 0, none⟩) (zs.filter Ix.page).length c) ∧
      Holds (Value.int .i64) w' g 0 (zs.filter Ix.page).toArray ∧ Below g w w' ∧ w'.heap.size = w.heap.size := by
  have h := Tryz.slices_DeleteFunc (Value.int .i64) (fun _ => rfl) (fun n => !Ix.page n) 33 #[] eg_pages 0 Tryz.zeroValue3 g 0 c zs.toArray w (fun W x _ => gives_pages x W) (fun n os dk x _ => gives_pages x _) hH (by simpa using hz) (by simpa using hc)
  have e1 : (zs.toArray.toList.filter fun x => !!Ix.page x) = zs.filter Ix.page := by simp
  rw [e1] at h
  have e2 : zs.toArray.size = zs.length := by simp
  rw [e2] at h
  refine h.mono ?_
  rintro e w' ⟨rfl, q, rfl⟩
  refine ⟨rfl, holds_prefix (holds_putRow (Value.int .i64) (Sort.ahead w q) g 0 zs.toArray _ (holds_ahead hH) ?_), below_putRow _ _ _ _ _ _, by simp⟩
  have := List.length_filter_le Ix.page zs
  simp; omega
theorem pg_sort (g c : Nat) (zs : List Int) (w : World) (hH : Holds (Value.int .i64) w g 0 zs.toArray) (hz : zs.length ≤ 1000000000) (hg : g < w.heap.size) :
    Calls Tryz.prog 34 #[.slice (some ⟨g, 0, none⟩) zs.length c] w fun e w' => e = .returned (.tuple #[]) ∧
      Holds (Value.int .i64) w' g 0 (zs.mergeSort fun x y => decide (x ≤ y)).toArray ∧ Below g w w' := by
  have h := Tryz.slices_Sort_int g 0 c zs w hH hg (by omega)
  refine h.mono ?_
  rintro e w' ⟨rfl, n, os, rfl⟩
  have h1 := holds_putRow (Value.int .i64) (Sort.ahead w n) g 0 zs.toArray (zs.mergeSort fun x y => decide (x ≤ y)).toArray (holds_ahead hH) (by simp)
  refine ⟨rfl, holds_grow _ _ _ _ _ _ (by rw [size_putRow]; exact hg) h1, below_grow (below_putRow _ _ _ _ _ _) (by rw [size_putRow]; exact Nat.le_of_lt hg) os⟩
theorem pg_compact (g c : Nat) (zs : List Int) (w : World) (hH : Holds (Value.int .i64) w g 0 zs.toArray) (hz : zs.length ≤ 9223372036854775807) (hc : zs.length ≤ c) :
    Calls Tryz.prog 35 #[.slice (some ⟨g, 0, none⟩) zs.length c] w fun e w' => e = .returned (.slice (some ⟨g, 0, none⟩) (Lib.compact zs).length c) ∧
      Holds (Value.int .i64) w' g 0 (Lib.compact zs).toArray ∧ Below g w w' ∧ w'.heap.size = w.heap.size := by
  have h := Tryz.slices_Compact_int g 0 c zs w hH hz hc
  refine h.mono ?_
  rintro e w' ⟨rfl, q, rfl⟩
  refine ⟨rfl, holds_prefix (holds_putRow (Value.int .i64) (Sort.ahead w q) g 0 zs.toArray _ (holds_ahead hH) ?_), below_putRow _ _ _ _ _ _, by simp⟩
  have := Lib.compact_length_le zs
  simp; omega
end Go.Proofs.YthoblbdkmlggbaaGreatDoor
