/- Chapter 01, CountAdds: the order of two counters makes no difference for their sum, nor that of three; a sum is never less than either, and stays at its end. -/
import Derived.Test.YtcpckgkimelhmaaDoorCntL
namespace Go.Proofs.YtcpckgkimelhmaaDoor.lawAdds
open Go.RowKit

theorem two (a b : Int) : Cnt.add a b = Cnt.add b a := by unfold Cnt.add; rw [Int.add_comm]
theorem cut_min (s : Int) (h : 0 ≤ s) : Cnt.cut s = min s 999999 := by unfold Cnt.cut; (repeat' split) <;> omega
theorem three (a b c : Int) : (Cnt.add (Cnt.add a b).1 c).1 = (Cnt.add a (Cnt.add b c).1).1 := by
  have a0 := Cnt.cut_lo a; have b0 := Cnt.cut_lo b; have c0 := Cnt.cut_lo c
  unfold Cnt.add
  generalize Cnt.cut a = x at *
  generalize Cnt.cut b = y at *
  generalize Cnt.cut c = z at *
  simp only
  rw [cut_min (x + y) (by omega), cut_min (y + z) (by omega), cut_min (min (x + y) 999999) (by omega), cut_min (min (y + z) 999999) (by omega), cut_min _ (by omega), cut_min _ (by omega)]
  omega
theorem least (a b : Int) : Cnt.cut a ≤ (Cnt.add a b).1 ∧ Cnt.cut b ≤ (Cnt.add a b).1 := by
  have a0 := Cnt.cut_lo a; have b0 := Cnt.cut_lo b; have a1 := Cnt.cut_hi a; have b1 := Cnt.cut_hi b
  unfold Cnt.add
  generalize Cnt.cut a = x at *
  generalize Cnt.cut b = y at *
  simp only
  unfold Cnt.cut
  (repeat' split) <;> omega
theorem over (a b : Int) : (Cnt.add a b).2 = decide ((Cnt.add a b).1 < Cnt.cut a + Cnt.cut b) := by
  have a0 := Cnt.cut_lo a; have b0 := Cnt.cut_lo b; have a1 := Cnt.cut_hi a; have b1 := Cnt.cut_hi b
  unfold Cnt.add
  generalize Cnt.cut a = x at *
  generalize Cnt.cut b = y at *
  simp only [decide_eq_decide]
  unfold Cnt.cut
  (repeat' split) <;> omega
theorem atEnd (c : Int) : (Cnt.add 999999 c).1 = 999999 ∧ (Cnt.add 999999 c).2 = decide (0 < c) := by
  unfold Cnt.add
  simp only [decide_eq_decide]
  unfold Cnt.cut
  constructor
  · (repeat' split) <;> omega
  · (repeat' split) <;> omega

set_option maxRecDepth 100000 in
set_option maxHeartbeats 1000000 in
theorem walk (a b c : Int) (w : World) (hL : Laid01 w) :
    Calls Tryd.prog 5 #[.int .i64 a, .int .i64 b, .int .i64 c] w fun e w' => e = .returned (.bool true) ∧ Below w.heap.size w w' := by
  have h1 : ((Cnt.add a b).1 == (Cnt.add b a).1) = true := by rw [two a b]; simp
  have h2 : ((Cnt.add a b).2 == (Cnt.add b a).2) = true := by rw [two a b]; simp
  have h3 : ((Cnt.add (Cnt.add a b).1 c).1 == (Cnt.add a (Cnt.add b c).1).1) = true := by rw [three]; simp
  obtain ⟨h4, h5⟩ := least a b
  have h6 : ((Cnt.add a b).2 == decide ((Cnt.add a b).1 < Cnt.cut a + Cnt.cut b)) = true := by rw [over]; simp
  have h0 : Cnt.cut 1099511627776 = 999999 := by decide +kernel
  have h7 : ((Cnt.add 999999 c).1 == 999999) = true := by simp [(atEnd c).1]
  have h8 : ((Cnt.add 999999 c).2 == decide (0 < c)) = true := by rw [(atEnd c).2]; simp
  have a0 := Cnt.cut_lo a; have b0 := Cnt.cut_lo b; have a1 := Cnt.cut_hi a; have b1 := Cnt.cut_hi b
  have HL := Lib.hid hL; clear hL
  go_enter Tryd.func5, Tryd.ntmps5
  go_wp2_with (first
    | (go_at_call 11; refine (count_cut _ _).mono ?_; rintro e w' ⟨rfl, rfl⟩)
    | (go_at_call 9; refine (count_add _ _ _).mono ?_; rintro e w' ⟨rfl, rfl⟩)
    | (go_at_call 17; refine (law01_fixed _ HL.out).mono ?_; rintro e w2 ⟨rfl, b2⟩))
  go_ret
  exact ⟨ret_bool rfl, b2⟩
end Go.Proofs.YtcpckgkimelhmaaDoor.lawAdds
