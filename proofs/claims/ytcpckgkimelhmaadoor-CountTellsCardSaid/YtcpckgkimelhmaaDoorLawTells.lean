/- Chapter 01, CountTells: any number as a counter, the sum of any two, the text of any one in any style, and the counter that any text is, is as the reference has it. -/
import Derived.Test.YtcpckgkimelhmaaDoorCntL
import Derived.Test.YtcpckgkimelhmaaDoorRefE
namespace Go.Proofs.YtcpckgkimelhmaaDoor.lawTells
open Go.RowKit

/-- a slice of texts, as it is read -/
def StrsAt (w : World) (p : Option Addr) (ss : List (List UInt8)) : Prop :=
  ∀ i l, ss[i]? = some l → ∃ a : Addr, p = some a ∧ w.cell? (a.add i) = some (.string ⟨l.toArray⟩) ∧ l.length ≤ maxLen

set_option maxRecDepth 100000 in
set_option maxHeartbeats 1000000 in
theorem walk (a b : Int) (p : Option Addr) (cap : Nat) (ss : List (List UInt8)) (w : World) (hL : Laid01 w) (hS : StrsAt w p ss) :
    Calls Tryd.prog 3 #[.int .i64 a, .int .i64 b, .slice p ss.length cap] w fun e w' => e = .returned (.bool true) ∧ Below w.heap.size w w' := by
  have HL := Lib.hid hL; clear hL
  have HS := Lib.hid hS; clear hS
  go_enter Tryd.func3, Tryd.ntmps3
  go_wp2_with (first
    | (go_at_call 9; refine (count_add _ _ _).mono ?_; rintro e w' ⟨rfl, rfl⟩)
    | (go_at_call 10; refine (ref01_add _ _ _).mono ?_; rintro e w' ⟨rfl, rfl⟩)
    | (go_at_call 11; refine (count_cut _ _).mono ?_; rintro e w' ⟨rfl, rfl⟩)
    | (go_at_call 12; refine (ref01_cut _ _).mono ?_; rintro e w' ⟨rfl, rfl⟩))
  go_loopw [11] (fun i wr => ∃ s : Int, -1 ≤ s ∧ s ≤ 6 ∧ i = .int .i64 s ∧ Below w.heap.size w wr) (fun i _ => (6 - intOf i).toNat)
  case atStart => exact ⟨-1, by omega, by omega, rfl, Below.refl _ _⟩
  case round =>
    obtain ⟨s, hs0, hs1, rfl, hb⟩ := hrel
    have HLr := Lib.hid (HL.out.below hb)
    have HB := Lib.hid hb; clear hb
    by_cases hlt : s < 6
    · have hl1 := Cnt.text_length a s
      go_wp2_with (first
        | (go_at_call 13; refine (count_text _ _ _ HLr.out).mono ?_; rintro e w5 ⟨rfl, b5⟩; replace HB := Lib.hid (bseq HB.out b5); replace HLr := Lib.hid (HLr.out.below b5); clear b5)
        | (go_at_call 14; refine (ref01_textc _ _ _).mono ?_; rintro e w6 ⟨rfl, b6⟩; replace HB := Lib.hid (bseq HB.out b6); replace HLr := Lib.hid (HLr.out.below b6); clear b6))
      clear hl1
      go_loopw [12] (fun i wt => ∃ k : Nat, k ≤ ss.length ∧ i = .int .i64 k ∧ Below w.heap.size w wt) (fun i _ => ss.length - (intOf i).toNat)
      case atStart => exact ⟨0, by omega, rfl, HB.out⟩
      case round =>
        clear HB HLr
        obtain ⟨k, hk, rfl, hb⟩ := hrel
        have HLr := Lib.hid (HL.out.below hb)
        by_cases hk4 : k < ss.length ∧ k < 4
        · obtain ⟨hk1, hk2⟩ := hk4
          have hk1' : (k : Int) < (ss.length : Int) := by omega
          have hk2' : (k : Int) < 4 := by omega
          obtain ⟨l, hl⟩ : ∃ l, ss[k]? = some l := ⟨_, List.getElem?_eq_getElem hk1⟩
          obtain ⟨ad, rfl, hc, hlm⟩ := HS.out k l hl
          have e0 : wr.cell? (ad.add k) = some (.string ⟨l.toArray⟩) := (hb.cell (World.block_lt_of_cell? w _ hc)).trans hc
          clear hl hc
          obtain ⟨q, hq⟩ : ∃ q : Nat, min (l.length : Int) 30 = (q : Int) := ⟨min l.length 30, by omega⟩
          have hq1 : (q : Int) ≤ (l.length : Int) := by omega
          have hq2 : q ≤ 30 := by omega
          have hex : (⟨l.toArray⟩ : ByteArray).extract 0 q = ⟨(l.take q).toArray⟩ := by rw [extract_any]; simp
          obtain ⟨t, ht⟩ : ∃ t, l.take q = t := ⟨_, rfl⟩
          have htl : t.length ≤ 30 := by rw [← ht]; have := List.length_take_le q l; omega
          have HB := Lib.hid hb; clear hb hlm
          go_wp2_with fail
          go_quiet (fail)
          replace HB := Lib.hid (below_drewN HB.out nq)
          replace HLr := Lib.hid (HL.out.below HB.out)
          clear hq hq1 hq2 hex ht e0
          go_wp2_with (first
            | (go_at_call 15; refine (count_value _ _ _ HLr.out (by omega)).mono ?_; rintro e w4 ⟨rfl, b4⟩; replace HB := Lib.hid (bseq HB.out b4); replace HLr := Lib.hid (HLr.out.below b4); clear b4)
            | (go_at_call 16; refine (ref01_value _ _ _ (by omega)).mono ?_; rintro e w5 ⟨rfl, b5⟩; replace HB := Lib.hid (bseq HB.out b5); replace HLr := Lib.hid (HLr.out.below b5); clear b5))
          go_roundw
          case rel => exact ⟨k + 1, by omega, by go_num, HB.out⟩
          case measure => simp [intOf]; omega
        · have HB := Lib.hid hb; clear hb
          by_cases hk1 : k < ss.length
          · have hk1' : (k : Int) < (ss.length : Int) := by omega
            have hk2' : ¬ (k : Int) < 4 := by omega
            clear hk4
            go_wp2_with fail
            go_roundw
            case rel => exact ⟨s + 1, by omega, by omega, rfl, HB.out⟩
            case measure => simp [intOf]; omega
          · have hk1' : ¬ (k : Int) < (ss.length : Int) := by omega
            clear hk4
            go_wp2_with fail
            go_roundw
            case rel => exact ⟨s + 1, by omega, by omega, rfl, HB.out⟩
            case measure => simp [intOf]; omega
    · have hlt' : ¬ s < 6 := hlt
      go_wp2_with (go_at_call 17; refine (law01_fixed _ HLr.out).mono ?_; rintro e w6 ⟨rfl, b6⟩)
      go_ret
      exact ⟨ret_bool rfl, bseq HB.out b6⟩
end Go.Proofs.YtcpckgkimelhmaaDoor.lawTells
