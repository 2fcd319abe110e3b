/- The walks that package index needs of texts: strings.Cut at '!'; the places of a word. -/
import Derived.Test.YthoblbdkmlggbaaGreatDoorIxW2
import Derived.Lib.IndexLaws
import Derived.BigQuiet
set_option linter.unusedSimpArgs false
set_option linter.unusedVariables false
namespace Go.Proofs.YthoblbdkmlggbaaGreatDoor
open Go.RowKit
theorem cut_none (l : List UInt8) (h : Lib.indexByte l 33 = -1) : Ix.cut l = (l, [], false) :=
  Ix.cut_plain l fun c hc e => by
    subst e
    obtain ⟨k, hk, he⟩ := List.getElem_of_mem hc
    exact Lib.indexByte_none h k (by rw [List.getElem?_eq_getElem hk, he])
theorem cut_some (l : List UInt8) (o : Nat) (h : Lib.indexByte l 33 = (o : Int)) : o < l.length ∧ Ix.cut l = (l.take o, l.drop (o + 1), true) := by
  obtain ⟨h1, h2⟩ := Lib.indexByte_some h
  obtain ⟨h3, h4⟩ := List.getElem?_eq_some_iff.1 h1
  refine ⟨h3, ?_⟩
  have e : l = l.take o ++ 33 :: l.drop (o + 1) := by
    conv => lhs; rw [← List.take_append_drop o l, List.drop_eq_getElem_cons h3, h4]
  conv => lhs; rw [e]
  refine Ix.cut_of _ _ fun c hc e => ?_
  subst e
  rw [List.mem_take_iff_getElem] at hc
  obtain ⟨j, hj, he⟩ := hc
  exact h2 j (by omega) (by rw [List.getElem?_eq_getElem (by omega), he])
def cutV (p : Ix.Pl) : Value := .tuple #[.string ⟨p.1.toArray⟩, .string ⟨p.2.1.toArray⟩, .bool p.2.2]
set_option maxHeartbeats 800000 in
theorem std_cut0 (l : List UInt8) (w : World) (hl : l.length ≤ 1000000) :
    Calls Tryz.prog 54 #[.string ⟨l.toArray⟩, .string ⟨#[33]⟩] w fun e w' => e = .returned (cutV (Ix.cut l)) ∧ Below w.heap.size w w' := by
  have hge := Lib.indexByte_ge l 33
  have hix : ∀ W, Calls Tryz.prog 77 #[.string ⟨l.toArray⟩, .string ⟨#[33]⟩] W fun e w' => e = .returned (.int .i64 (Lib.indexByte l 33)) ∧ w' = W := fun W => by
    have := Tryz.stringslite_Index_one ⟨l.toArray⟩ 33 W
    simpa using this
  have Hix := Lib.hid hix; clear hix
  have hlm : (l.length : Int) ≤ 1000000 := by omega
  by_cases hn : Lib.indexByte l 33 = -1
  · rw [cut_none l hn]
    have Hn := Lib.hid hn; clear hn hge
    go_enter Tryz.func54, Tryz.ntmps54
    go_wp2_with (go_at_call 77; refine (Hix.out _).mono ?_; rw [Hn.out]; rintro e w1 ⟨rfl, hw⟩; have hw := hw.symm; subst hw)
    go_ret3
    exact ⟨rfl, Below.refl _ _⟩
  · obtain ⟨o, ho⟩ : ∃ o : Nat, Lib.indexByte l 33 = (o : Int) := ⟨(Lib.indexByte l 33).toNat, by omega⟩
    obtain ⟨h1, h2⟩ := cut_some l o ho
    rw [h2]
    have ho1 : (o : Int) ≤ (l.length : Int) := by omega
    have ho2 : (0 : Int) ≤ (o : Int) := by omega
    obtain ⟨q, hq⟩ : ∃ q, q = o + 1 := ⟨_, rfl⟩
    have hwk : IntKind.i64.wrap ((o : Int) + 1) = (q : Int) := by rw [IntWalk.i64_in _ (by omega)]; omega
    have hq1 : (q : Int) ≤ (l.length : Int) := by omega
    have hq2 : (0 : Int) ≤ (q : Int) := by omega
    have x1 : (⟨l.toArray⟩ : ByteArray).extract 0 o = ⟨(l.take o).toArray⟩ := by rw [extract_any]; simp
    have x2 : (⟨l.toArray⟩ : ByteArray).extract q l.length = ⟨(l.drop (o + 1)).toArray⟩ := by rw [extract_end, hq]
    have Ho := Lib.hid ho; clear ho hn hge h1 h2 hq
    go_enter Tryz.func54, Tryz.ntmps54
    go_upto_region 3 with (go_at_call 77; refine (Hix.out _).mono ?_; rw [Ho.out]; rintro e w1 ⟨rfl, hw⟩; have hw := hw.symm; subst hw)
    go_quiet (fail)
    go_wp2_with fail
    go_ret3
    exact ⟨rfl, below_drewN (Below.refl _ _) _⟩
theorem std_cut (l : List UInt8) (w : World) (hl : l.length ≤ 1000000) :
    Calls Tryz.prog 26 #[.string ⟨l.toArray⟩, .string ⟨#[33]⟩] w fun e w' => e = .returned (cutV (Ix.cut l)) ∧ Below w.heap.size w w' := by
  have h := fun W => std_cut0 l W hl
  generalize Ix.cut l = p at h ⊢
  obtain ⟨a, b, c⟩ := p
  unfold cutV at h ⊢
  simp only at h ⊢
  have H := Lib.hid h; clear h
  go_enter Tryz.func26, Tryz.ntmps26
  go_wp2_with (go_at_call 54; refine (H.out _).mono ?_; rintro e w1 ⟨rfl, h1⟩; have H1 := Lib.hid h1; clear h1)
  go_ret3
  exact ⟨rfl, H1.out⟩
end Go.Proofs.YthoblbdkmlggbaaGreatDoor
