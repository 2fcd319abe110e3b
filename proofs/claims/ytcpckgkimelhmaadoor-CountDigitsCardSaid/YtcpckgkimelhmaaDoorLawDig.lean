/- Chapter 01, CountDigits: decimal digits are a counter in a style just where its text in that style is these. -/
import Derived.Test.YtcpckgkimelhmaaDoorCntL
namespace Go.Proofs.YtcpckgkimelhmaaDoor.lawDig
open Go.RowKit

set_option maxRecDepth 100000 in
set_option maxHeartbeats 1000000 in
theorem walk (a : Int) (w : World) (hL : Laid01 w) :
    Calls Tryd.prog 8 #[.int .i64 a] w fun e w' => e = .returned (.bool true) ∧ Below w.heap.size w w' := by
  have a0 := Cnt.cut_lo a; have a1 := Cnt.cut_hi a
  obtain ⟨n, hn⟩ : ∃ n : Nat, Cnt.cut a = (n : Int) := ⟨(Cnt.cut a).toNat, by omega⟩
  have hn1 : n ≤ 999999 := by omega
  have hdec : Cnt.text (n : Int) 0 = Cnt.decF 6 n := Cnt.text_dec n hn1 0 (by omega) (by omega) (by omega)
  have hlen : (Cnt.decF 6 n).length ≤ 6 := Cnt.decF_length 6 n
  have HL := Lib.hid hL; clear hL a0 a1
  have HB := Lib.hid (Below.refl w.heap.size w)
  go_enter Tryd.func8, Tryd.ntmps8
  go_wp2_with (first
    | (go_at_call 11; refine (count_cut _ _).mono ?_; rintro e w' ⟨rfl, rfl⟩)
    | (go_at_call 13; refine (count_text _ _ _ HL.out).mono ?_; rintro e w3 ⟨rfl, b3⟩; replace HL := Lib.hid (HL.out.below b3); replace HB := Lib.hid (bseq HB.out b3); clear b3))
  go_loopw [4] (fun i wr => ∃ k : Nat, k ≤ 4 ∧ i = .int .i64 k ∧ Below w3.heap.size w3 wr) (fun i _ => 4 - (intOf i).toNat)
  case atStart => exact ⟨0, by omega, rfl, Below.refl _ _⟩
  case round =>
    obtain ⟨k, hk, rfl, hb⟩ := hrel
    have HLr := Lib.hid (HL.out.below hb)
    by_cases hlt : k < 4
    · have hlt' : (k : Int) < 4 := by omega
      by_cases he : Cnt.text (n : Int) k = Cnt.decF 6 n
      · have hv : Cnt.value (Cnt.decF 6 n) k = ((n : Int), 0) := by rw [← he]; exact Cnt.back n hn1 k
        go_wp2_with (first
          | (go_at_call 15; refine (count_value _ _ _ HLr.out (by omega)).mono ?_; rintro e w4 ⟨rfl, b4⟩)
          | (go_at_call 13; refine (count_text _ _ _ (HLr.out.below b4)).mono ?_; rintro e w5 ⟨rfl, b5⟩))
        go_roundw
        case rel => exact ⟨k + 1, by omega, by go_num, bseq (bseq hb b4) b5⟩
        case measure => simp [intOf]; omega
      · have hv : Cnt.value (Cnt.decF 6 n) k = (0, 5) := Cnt.dec_value n hn1 k he
        have heb : (Cnt.text (n : Int) k == Cnt.decF 6 n) = false := by simpa using he
        clear he
        go_wp2_with (first
          | (go_at_call 15; refine (count_value _ _ _ HLr.out (by omega)).mono ?_; rintro e w4 ⟨rfl, b4⟩)
          | (go_at_call 13; refine (count_text _ _ _ (HLr.out.below b4)).mono ?_; rintro e w5 ⟨rfl, b5⟩))
        go_roundw
        case rel => exact ⟨k + 1, by omega, by go_num, bseq (bseq hb b4) b5⟩
        case measure => simp [intOf]; omega
    · have HBr := Lib.hid (bseq HB.out hb)
      have r1 := Cnt.roman_dec n hn1 1 (.inl rfl)
      have r3 := Cnt.letters_dec n hn1
      have hk4 : (4 : Int) ≤ (k : Int) := by omega
      have cases3 : (((Cnt.text (n : Int) 1 == Cnt.decF 6 n) = true ∧ (Cnt.text (n : Int) 3 == Cnt.decF 6 n) = true) ∧ ((n : Int) == 0) = true) ∨
          (((Cnt.text (n : Int) 1 == Cnt.decF 6 n) = false ∧ (Cnt.text (n : Int) 3 == Cnt.decF 6 n) = false) ∧ ((n : Int) == 0) = false ∧ (n : Int) ≤ 3999) ∨
          (((Cnt.text (n : Int) 1 == Cnt.decF 6 n) = true ∧ (Cnt.text (n : Int) 3 == Cnt.decF 6 n) = false) ∧ ((n : Int) == 0) = false ∧ 3999 < (n : Int)) := by
        simp only [beq_iff_eq, beq_eq_false_iff_ne, ne_eq, r1, r3]
        omega
      clear hlt r1 r3
      rcases cases3 with ⟨⟨h1, h3⟩, hz⟩ | ⟨⟨h1, h3⟩, hz, hg⟩ | ⟨⟨h1, h3⟩, hz, hg⟩
      all_goals
        go_wp2_with (first
          | (go_at_call 13; refine (count_text _ _ _ HLr.out).mono ?_; rintro e w5 ⟨rfl, b5⟩; replace HLr := Lib.hid (HLr.out.below b5); replace HBr := Lib.hid (bseq HBr.out b5); clear b5)
          | (go_at_call 17; refine (law01_fixed _ HLr.out).mono ?_; rintro e w6 ⟨rfl, b6⟩))
        go_ret
        exact ⟨ret_bool (by first | rfl | (simp; omega)), bseq HBr.out b6⟩
end Go.Proofs.YtcpckgkimelhmaaDoor.lawDig
