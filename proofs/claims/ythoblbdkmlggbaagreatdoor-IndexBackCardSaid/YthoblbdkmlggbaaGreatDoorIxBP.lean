/- The plain half of IndexBack: what is written of an index is read back. -/
import Derived.Test.YthoblbdkmlggbaaGreatDoorIxX
set_option linter.unusedSimpArgs false
set_option linter.unusedVariables false
namespace Go.Proofs.YthoblbdkmlggbaaGreatDoor
open Go.RowKit
namespace Ix
def fix9 (x : En) : En := (x.1, if x.2 < 0 ∨ 9 < x.2 then 3 else x.2)
def digW (x : En) : List UInt8 := [UInt8.ofNat (48 + x.2.toNat)]
def recW (x : En) : List UInt8 := Sd.put x.1 ++ Sd.put (digW x)
def backS (l : List En) : List UInt8 := l.flatMap fun x => Sd.put (recW x)
theorem fix9_ok (x : En) : 0 ≤ (fix9 x).2 ∧ (fix9 x).2 ≤ 9 ∧ (fix9 x).1 = x.1 := by
  unfold fix9
  split
  · exact ⟨by show (0 : Int) ≤ 3; omega, by show (3 : Int) ≤ 9; omega, rfl⟩
  · refine ⟨by show (0 : Int) ≤ x.2; omega, by show x.2 ≤ 9; omega, rfl⟩
theorem backS_puts (l : List En) : backS l = Sd.puts (l.map recW) := by
  unfold backS Sd.puts
  rw [List.map_map, List.flatMap_def]
  rfl
theorem digit_val : ∀ n : Fin 10, Cnt.value [UInt8.ofNat (48 + n.val)] 0 = ((n.val : Int), 0) := by decide +kernel
theorem recE_recW (x : En) (h : x.1.length ≤ 60) (h0 : 0 ≤ x.2) (h9 : x.2 ≤ 9) : recE (recW x) = some x := by
  have h1 : recW x = Sd.puts [x.1, digW x] := by unfold recW Sd.puts; simp
  unfold recE
  rw [h1, Sd.all_puts [x.1, digW x] (fun t ht => by
    simp at ht
    rcases ht with rfl | rfl
    · omega
    · show ([_] : List UInt8).length ≤ 999999; simp)]
  have h2 := digit_val ⟨x.2.toNat, by omega⟩
  simp only at h2
  show (if (Cnt.value (digW x) 0).2 = 0 then some (x.1, (Cnt.value (digW x) 0).1) else none) = some x
  unfold digW
  rw [h2, if_pos rfl]
  have h3 : (x.2.toNat : Int) = x.2 := by omega
  rw [h3]
theorem recsE_recW : ∀ (l : List En), (∀ x ∈ l, x.1.length ≤ 60 ∧ 0 ≤ x.2 ∧ x.2 ≤ 9) → recsE (l.map recW) = some l
  | [], _ => rfl
  | x :: r, h => by
    have hx := h x (by simp)
    rw [List.map_cons, recsE, recE_recW x hx.1 hx.2.1 hx.2.2, recsE_recW r fun y hy => h y (List.mem_cons_of_mem _ hy)]
    rfl
theorem recW_len (x : En) (h : x.1.length ≤ 60) : (recW x).length ≤ 77 := by
  unfold recW
  have h1 := Sd.put_le x.1 (by omega)
  have h2 := Sd.put_le (digW x) (by show ([_] : List UInt8).length ≤ 999999; simp)
  have h3 : (digW x).length = 1 := rfl
  rw [List.length_append]
  omega
theorem entries_back (l : List En) (h : ∀ x ∈ l, x.1.length ≤ 60 ∧ 0 ≤ x.2 ∧ x.2 ≤ 9) : entries (backS l) = some l := by
  unfold entries
  rw [backS_puts, Sd.all_puts _ (fun t ht => by
    obtain ⟨x, hx, rfl⟩ := List.mem_map.1 ht
    have := recW_len x (h x hx).1
    omega)]
  exact recsE_recW l h
theorem allN_one (c : UInt8) : ∀ f, Sd.allN f [c] = none
  | 0 => rfl
  | f + 1 => by rw [Sd.allN, Sd.get_one]
theorem entries_bad (l : List En) (h : ∀ x ∈ l, x.1.length ≤ 60) (c : UInt8) : entries (backS l ++ [c]) = none := by
  unfold entries
  rw [backS_puts, Sd.all_bad _ [c] (fun t ht => by
    obtain ⟨x, hx, rfl⟩ := List.mem_map.1 ht
    have := recW_len x (h x hx)
    omega) (allN_one c)]
theorem backS_len : ∀ (l : List En), (∀ x ∈ l, x.1.length ≤ 60) → (backS l).length ≤ 85 * l.length
  | [], _ => by simp [backS]
  | x :: r, h => by
    have h1 := backS_len r fun y hy => h y (List.mem_cons_of_mem _ hy)
    have h2 := recW_len x (h x (by simp))
    have h3 := Sd.put_le (recW x) (by omega)
    unfold backS at h1 ⊢
    rw [List.flatMap_cons, List.length_append, List.length_cons]
    omega
/-! the text of pages below ten is short -/
def subl : List Int → List (List Int)
  | [] => [[]]
  | x :: r => (subl r) ++ (subl r).map (x :: ·)
theorem filter_subl (p : Int → Bool) : ∀ l : List Int, l.filter p ∈ subl l
  | [] => by simp [subl]
  | x :: r => by
    unfold subl
    rw [List.filter_cons]
    split
    · exact List.mem_append_right _ (List.mem_map.2 ⟨_, filter_subl p r, rfl⟩)
    · exact List.mem_append_left _ (filter_subl p r)
def nine : List Int := [1, 2, 3, 4, 5, 6, 7, 8, 9]
theorem nine_short : (subl nine).all (fun q => decide ((join (parts q)).length ≤ 25)) = true := by decide +kernel
theorem rising_nine (l : List Int) (h : ∀ x ∈ l, x ≤ 9) : nine.filter (fun n => decide (n ∈ l)) = rising [] l :=
  rising_of_sorted _ _ (List.Pairwise.filter _ (by decide)) (fun x => by
    rw [List.mem_filter, decide_eq_true_iff]
    constructor
    · rintro ⟨h1, h2⟩
      refine ⟨h2, ?_⟩
      have := h x h2
      unfold nine at h1
      simp at h1
      simp [page]
      omega
    · rintro ⟨h1, h2⟩
      have := h x h1
      simp [page] at h2
      refine ⟨?_, h1⟩
      unfold nine
      simp
      omega)
theorem text_short (l : List Int) (h : ∀ x ∈ l, x ≤ 9) : (text l).length ≤ 25 := by
  unfold text
  rw [← rising_nine l h]
  have h1 := List.all_eq_true.1 nine_short _ (filter_subl (fun n => decide (n ∈ l)) nine)
  exact of_decide_eq_true h1
/-! how long what is written is -/
theorem sum_erase {α : Type} [DecidableEq α] (f : α → Nat) : ∀ (m : List α) (a : α), a ∈ m → (m.map f).sum = f a + ((m.erase a).map f).sum
  | [], a, h => by simp at h
  | b :: m, a, h => by
    rw [List.erase_cons]
    by_cases hb : b = a
    · subst hb; simp
    · rw [if_neg (by simpa using hb)]
      have h1 := sum_erase f m a ((List.mem_cons.1 h).resolve_left (fun e => hb e.symm))
      rw [List.map_cons, List.sum_cons, h1, List.map_cons, List.sum_cons]
      omega
theorem sum_le {α : Type} [DecidableEq α] (f : α → Nat) : ∀ {l m : List α}, l.Nodup → l ⊆ m → (l.map f).sum ≤ (m.map f).sum
  | [], _, _, _ => by simp
  | a :: r, m, hn, hs => by
    rw [List.nodup_cons] at hn
    have ha : a ∈ m := hs (List.mem_cons_self ..)
    have h1 : r ⊆ m.erase a := fun x hx => (List.mem_erase_of_ne (fun e => hn.1 (by rw [← e]; exact hx))).2 (hs (List.mem_cons_of_mem _ hx))
    have h2 := sum_le f hn.2 h1
    rw [sum_erase f m a ha, List.map_cons, List.sum_cons]
    omega
theorem putsOut_sum (ts : List (List UInt8)) : (putsOut ts).length = (ts.map fun t => (Sd.put t).length).sum := by
  unfold putsOut
  rw [List.length_flatMap]
def placesOf (x : En) : List Pl := if (cut x.1).2.2 then [cut x.1, top (cut x.1)] else [cut x.1]
theorem line_short (l : List En) (hp : ∀ x ∈ l, x.2 ≤ 9) (p : Pl) : (line l p).length ≤ 2 + (if p.2.2 then p.2.1.length else p.1.length) + 26 := by
  have h1 : (text (pagesAt l p)).length ≤ 25 := text_short _ (fun n hn => by
    unfold pagesAt at hn
    obtain ⟨x, hx, hn⟩ := List.mem_flatMap.1 hn
    have := hp x ((List.mem_filter.1 hx).1)
    rcases List.mem_append.1 hn with hn | hn
    · split at hn
      · simp at hn; rw [hn]; exact this
      · simp at hn
    · split at hn
      · simp at hn; rw [hn]; omega
      · simp at hn)
  unfold line
  rw [List.length_append]
  have h2 : (if text (pagesAt l p) = [] then [] else 32 :: text (pagesAt l p)).length ≤ 26 := by
    split
    · simp
    · rw [List.length_cons]; omega
  cases p.2.2 <;> simp <;> omega
theorem out_short (l : List En) (hl : l.length ≤ 30) (hw : ∀ x ∈ l, x.1.length ≤ 60) (hp : ∀ x ∈ l, x.2 ≤ 9) : (putsOut (lines l)).length ≤ 4000 := by
  rw [putsOut_sum, lines_places, List.map_map]
  have hn : (places l).Nodup := Up.nodup ordP (places_up l)
  have hs : places l ⊆ (good l).flatMap placesOf := by
    intro p h
    rw [mem_places] at h
    obtain ⟨x, hx, hc⟩ := h
    rw [List.mem_flatMap]
    refine ⟨x, hx, ?_⟩
    unfold placesOf
    cases hb : (cut x.1).2.2 with
    | true => rcases hc with hc | hc <;> simp [hc]
    | false =>
      have h1 : top (cut x.1) = cut x.1 := by
        have h2 := cut_sub x.1 hb
        unfold top
        rw [← h2, ← hb]
      rcases hc with hc | hc
      · simp [hc]
      · rw [h1] at hc; simp [hc]
  have h1 := sum_le ((fun t => (Sd.put t).length) ∘ line l) hn hs
  have h2 : ∀ q : List En, (∀ x ∈ q, x.1.length ≤ 60) → ((q.flatMap placesOf).map ((fun t => (Sd.put t).length) ∘ line l)).sum ≤ 133 * q.length := by
    intro q
    induction q with
    | nil => intro _; simp
    | cons x r ih =>
      intro hq
      have ih := ih fun y hy => hq y (List.mem_cons_of_mem _ hy)
      have hx := hq x (by simp)
      rw [List.flatMap_cons, List.map_append, List.sum_append, List.length_cons]
      have hput : ∀ p, ((fun t => (Sd.put t).length) ∘ line l) p ≤ 36 + (if p.2.2 then p.2.1.length else p.1.length) ∨ 999999 < (line l p).length := by
        intro p
        rcases Nat.lt_or_ge 999999 (line l p).length with h | h
        · exact .inr h
        · left
          have h3 := Sd.put_le (line l p) h
          have h4 := line_short l hp p
          show (Sd.put (line l p)).length ≤ _
          omega
      have hcl := cut_len x.1
      have hone : ((placesOf x).map ((fun t => (Sd.put t).length) ∘ line l)).sum ≤ 133 := by
        have hcw := cut_word x.1
        unfold placesOf
        cases hb : (cut x.1).2.2 with
        | true =>
          rw [hb] at hcw
          have hlen : (cut x.1).1.length + (cut x.1).2.1.length + 1 = x.1.length := by
            have := congrArg List.length hcw
            simp at this
            omega
          rw [if_pos rfl]
          have k1 := hput (cut x.1)
          have k2 := hput (top (cut x.1))
          have k3 := line_short l hp (cut x.1)
          have k4 := line_short l hp (top (cut x.1))
          rw [hb] at k1 k3
          have e1 : (top (cut x.1)).2.2 = false := rfl
          have e2 : (top (cut x.1)).1 = (cut x.1).1 := rfl
          rw [e1, e2] at k2 k4
          simp only [if_true, Bool.false_eq_true, if_false] at k1 k2 k3 k4
          simp only [List.map_cons, List.map_nil, List.sum_cons, List.sum_nil]
          omega
        | false =>
          rw [if_neg (by simp)]
          have k1 := hput (cut x.1)
          have k3 := line_short l hp (cut x.1)
          rw [hb] at k1 k3
          simp only [Bool.false_eq_true, if_false] at k1 k3
          simp only [List.map_cons, List.map_nil, List.sum_cons, List.sum_nil]
          omega
      omega
  have h3 := h2 (good l) fun x hx => hw x ((List.mem_filter.1 hx).1)
  have h4 : (good l).length ≤ l.length := List.length_filter_le _ _
  omega
end Ix
end Go.Proofs.YthoblbdkmlggbaaGreatDoor
