/- Chapter 01, CountBack: each counter is that of its text, in each style; unlike ones have unlike texts; a text that is one's is just that one's. -/
import Derived.Test.YtcpckgkimelhmaaDoorCntL
namespace Go.Proofs.YtcpckgkimelhmaaDoor.lawBack
open Go.RowKit

set_option maxRecDepth 100000 in
set_option maxHeartbeats 1000000 in
theorem walk (a b : Int) (l : List UInt8) (w : World) (hL : Laid01 w) :
    Calls Tryd.prog 4 #[.int .i64 a, .int .i64 b, .string ⟨l.toArray⟩] w fun e w' => e = .returned (.bool true) ∧ Below w.heap.size w w' := by
  have a0 := Cnt.cut_lo a; have a1 := Cnt.cut_hi a; have b0 := Cnt.cut_lo b; have b1 := Cnt.cut_hi b
  obtain ⟨n, hn⟩ : ∃ n : Nat, Cnt.cut a = (n : Int) := ⟨(Cnt.cut a).toNat, by omega⟩
  obtain ⟨m, hm⟩ : ∃ m : Nat, Cnt.cut b = (m : Int) := ⟨(Cnt.cut b).toNat, by omega⟩
  have hn1 : n ≤ 999999 := by omega
  have hm1 : m ≤ 999999 := by omega
  obtain ⟨q, hq⟩ : ∃ q : Nat, min (l.length : Int) 30 = (q : Int) := ⟨min l.length 30, by omega⟩
  have hq1 : (q : Int) ≤ (l.length : Int) := by omega
  have hq2 : q ≤ 30 := by omega
  have hex : (⟨l.toArray⟩ : ByteArray).extract 0 q = ⟨(l.take q).toArray⟩ := by rw [extract_any]; simp
  obtain ⟨s, hs⟩ : ∃ s, l.take q = s := ⟨_, rfl⟩
  have hsl : s.length ≤ 30 := by rw [← hs]; have := List.length_take_le q l; omega
  have HL := Lib.hid hL; clear hL a0 a1 b0 b1
  go_enter Tryd.func4, Tryd.ntmps4
  go_wp2_with (first
    | (go_at_call 11; refine (count_cut _ _).mono ?_; rintro e w' ⟨rfl, rfl⟩))
  clear hn hm hq hq1 hq2 hex hs
  go_loopw [7] (fun i wr => ∃ k : Nat, k ≤ 4 ∧ i = .int .i64 k ∧ Below w.heap.size w wr) (fun i _ => 4 - (intOf i).toNat)
  case atStart => exact ⟨0, by omega, rfl, Below.refl _ _⟩
  case round =>
    obtain ⟨k, hk, rfl, hb⟩ := hrel
    have HLr := Lib.hid (HL.out.below hb)
    by_cases hlt : k < 4
    · have hlt' : (k : Int) < 4 := by omega
      have hv := Cnt.back n hn1 k
      have hl1 := Cnt.text_length n k
      have hboth : ((Cnt.text (n : Int) k == Cnt.text (m : Int) k) = true ∧ ((n : Int) == (m : Int)) = true) ∨ ((Cnt.text (n : Int) k == Cnt.text (m : Int) k) = false ∧ ((n : Int) == (m : Int)) = false) := by
        by_cases h : n = m
        · left; subst h; simp
        · right
          refine ⟨?_, by simp; omega⟩
          rw [beq_eq_false_iff_ne]
          intro e
          exact h (Cnt.text_inj n m hn1 hm1 k e)
      rcases hboth with ⟨e1, e2⟩ | ⟨e1, e2⟩ <;> rcases Cnt.sound s k with ⟨j, hj, hvs, hts⟩ | hvs
      all_goals
        go_wp2_with (first
          | (go_at_call 15; refine (count_value _ _ _ HLr.out (by omega)).mono ?_; rintro e w4 ⟨rfl, b4⟩; replace hb := bseq hb b4; replace HLr := Lib.hid (HLr.out.below b4); clear b4)
          | (go_at_call 13; refine (count_text _ _ _ HLr.out).mono ?_; rintro e w5 ⟨rfl, b5⟩; replace hb := bseq hb b5; replace HLr := Lib.hid (HLr.out.below b5); clear b5))
        go_roundw
        case rel => exact ⟨k + 1, by omega, by go_num, hb⟩
        case measure => simp [intOf]; omega
    · go_wp2_with (go_at_call 17; refine (law01_fixed _ HLr.out).mono ?_; rintro e w6 ⟨rfl, b6⟩)
      go_ret
      exact ⟨ret_bool rfl, bseq hb b6⟩
end Go.Proofs.YtcpckgkimelhmaaDoor.lawBack
