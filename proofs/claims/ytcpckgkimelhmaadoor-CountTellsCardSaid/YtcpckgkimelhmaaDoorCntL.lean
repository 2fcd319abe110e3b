/- The laws of chapter 01: their calls whose answers the document fixes. -/
import Derived.Test.YtcpckgkimelhmaaDoorCntW3
import Derived.Test.YtcpckgkimelhmaaDoorCntT
namespace Go.Proofs.YtcpckgkimelhmaaDoor
open Go.RowKit
namespace Cnt
theorem fix_a : add 999990 9 = (999999, false) := by decide +kernel
theorem fix_c : add 999990 10 = (999999, true) := by decide +kernel
theorem fix_e : value [97, 98] 3 = (28, 0) := by decide +kernel
theorem fix_g : value [105, 118] 1 = (4, 0) := by decide +kernel
theorem fix_i : value [105, 105, 105, 105] 1 = (0, 5) := by decide +kernel
theorem fix_j : value [48, 52] 0 = (0, 5) := by
  have h : text 4 0 = [52] := by
    have := text_dec 4 (by omega) 0 (by omega) (by omega) (by omega)
    exact this.trans (by decide +kernel)
  have h2 : tries [48, 52] 0 = [4] := by decide +kernel
  unfold value
  rw [h2]
  simp [h]
theorem fix_cut0 : cut (-5) = 0 := by decide +kernel
theorem fix_cut1 : cut 1000000 = 999999 := by decide +kernel
theorem fix_t0 : text 4 1 = [105, 118] := by decide +kernel
theorem fix_t1 : text 1994 2 = [77, 67, 77, 88, 67, 73, 86] := by decide +kernel
theorem fix_t2 : text 28 3 = [97, 98] := by decide +kernel
theorem fix_t3 : text 0 1 = [48] := (text_dec 0 (by omega) 1 (by omega) (by omega) (by omega)).trans (by decide +kernel)
theorem fix_t4 : text 703 3 = [97, 97, 97] := by decide +kernel
theorem fix_t5 : text 120 0 = [49, 50, 48] := (text_dec 120 (by omega) 0 (by omega) (by omega) (by omega)).trans (by decide +kernel)
end Cnt

set_option maxRecDepth 100000 in
set_option maxHeartbeats 1000000 in
theorem law01_fixed (w : World) (hL : Laid01 w) :
    Calls Tryd.prog 17 #[] w fun e w' => e = .returned (.bool true) ∧ Below w.heap.size w w' := by
  have HL := Lib.hid hL; clear hL
  have HB := Lib.hid (Below.refl w.heap.size w)
  have e1 := Cnt.fix_a; have e2 := Cnt.fix_c; have e3 := Cnt.fix_e; have e4 := Cnt.fix_g; have e5 := Cnt.fix_i; have e6 := Cnt.fix_j
  have e7 := Cnt.fix_cut0; have e8 := Cnt.fix_cut1; have e9 := Cnt.fix_t0; have e10 := Cnt.fix_t1; have e11 := Cnt.fix_t2; have e12 := Cnt.fix_t3; have e13 := Cnt.fix_t4; have e14 := Cnt.fix_t5
  go_enter Tryd.func17, Tryd.ntmps17
  go_wp2_with (first
    | (go_at_call 11; refine (count_cut _ _).mono ?_; rintro e w' ⟨rfl, rfl⟩)
    | (go_at_call 9; refine (count_add _ _ _).mono ?_; rintro e w' ⟨rfl, rfl⟩)
    | (go_at_call 15; refine (count_value _ _ _ HL.out (by decide)).mono ?_; rintro e w2 ⟨rfl, b2⟩; replace HL := Lib.hid (HL.out.below b2); replace HB := Lib.hid (bseq HB.out b2); clear b2)
    | (go_at_call 13; refine (count_text _ _ _ HL.out).mono ?_; rintro e w2 ⟨rfl, b2⟩; replace HL := Lib.hid (HL.out.below b2); replace HB := Lib.hid (bseq HB.out b2); clear b2))
  go_ret
  exact ⟨ret_bool rfl, HB.out⟩
end Go.Proofs.YtcpckgkimelhmaaDoor
