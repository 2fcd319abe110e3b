/- The walk of the reference of layer 1, fifth part: Value. -/
import Derived.Test.YtimmmjmmjokdbaaGreatDoorRefT
namespace Go.Proofs.YtimmmjmmjokdbaaGreatDoor
open Go.RowKit

theorem ref01_textc (n style : Int) (w : World) :
    Calls Tryz.prog 60 #[.int .i64 n, .int .i64 style] w fun e w' => e = .returned (.string ⟨(Cnt.text n style).toArray⟩) ∧ Below w.heap.size w w' := by
  rw [← ref_text]; exact ref01_text n style w

theorem ref01_digs (l : List UInt8) (w : World) (hl : l.length ≤ 1000000) : Calls Tryz.prog 59 #[.string ⟨l.toArray⟩, .int .u8 48, .int .i64 10, .int .i64 0] w fun e w' => e = .returned (.int .i64 (Cnt.digits l)) ∧ w = w' := by
  have h := ref01_read10 ⟨l.toArray⟩ w (by rw [size_mk]; exact hl)
  have e : (⟨l.toArray⟩ : ByteArray).data.toList = l := rfl
  rw [e] at h
  unfold Cnt.digits
  exact h
theorem ref01_lets (l : List UInt8) (w : World) (hl : l.length ≤ 1000000) : Calls Tryz.prog 59 #[.string ⟨l.toArray⟩, .int .u8 97, .int .i64 26, .int .i64 1] w fun e w' => e = .returned (.int .i64 (Cnt.ofLetters l)) ∧ w = w' := by
  have h := ref01_read26 ⟨l.toArray⟩ w (by rw [size_mk]; exact hl)
  have e : (⟨l.toArray⟩ : ByteArray).data.toList = l := rfl
  rw [e] at h
  unfold Cnt.ofLetters
  exact h

/-- no numeral below k is the text -/
def NoneTo (l : List UInt8) (style : Int) (k : Nat) : Prop := ∀ m : Nat, 1 ≤ m → m < k → (style = 1 ∨ style = 2) → Cnt.text (m : Int) style ≠ l
set_option maxRecDepth 100000 in
set_option maxHeartbeats 400000 in
theorem ref01_value (l : List UInt8) (style : Int) (w : World) (hl : l.length ≤ 1000000) :
    Calls Tryz.prog 48 #[.string ⟨l.toArray⟩, .int .i64 style] w fun e w' => e = .returned (.tuple #[.int .i64 (Cnt.value l style).1, .int .i64 (Cnt.value l style).2]) ∧ Below w.heap.size w w' := by
  have r10 := fun w => ref01_digs l w hl
  have r26 := fun w => ref01_lets l w hl
  have hnone := ref_none l style
  have hhit := ref_hit l style
  obtain ⟨a, ha⟩ : ∃ a, Cnt.digits l = a := ⟨_, rfl⟩
  obtain ⟨b, hb⟩ : ∃ b, Cnt.ofLetters l = b := ⟨_, rfl⟩
  rw [ha] at r10; rw [hb] at r26; rw [ha, hb] at hnone
  have R10 := Lib.hid r10; have R26 := Lib.hid r26; have Hnone := Lib.hid hnone; have Hhit := Lib.hid hhit
  clear r10 r26 hnone hhit ha hb
  go_enter Tryz.func48, Tryz.ntmps48
  go_upto_region 2 with (first
    | (go_at_call 59; with_reducible refine (R10.out _).mono ?_; rintro e w' ⟨rfl, rfl⟩)
    | (go_at_call 59; with_reducible refine (R26.out _).mono ?_; rintro e w' ⟨rfl, rfl⟩))
  go_cut [25] (fun v wx => v = .bool (decide (0 ≤ a ∧ a ≤ 999999 ∧ Cnt.text a style = l)) ∧ Below w.heap.size w wx)
  case first =>
    by_cases h0 : 0 ≤ a
    · by_cases h1 : a ≤ 999999
      · cases hc : (Cnt.text a style == l)
        · go_wp2_with (go_at_call 60; refine (ref01_textc _ _ _).mono ?_; rintro e w1 ⟨rfl, b1⟩)
          go_meet
          case rel => exact ⟨by rw [decide_eq_false (by simp at hc; simp [hc])], b1⟩
        · go_wp2_with (go_at_call 60; refine (ref01_textc _ _ _).mono ?_; rintro e w1 ⟨rfl, b1⟩)
          go_meet
          case rel => exact ⟨by rw [decide_eq_true (by simp at hc; exact ⟨h0, h1, hc⟩)], b1⟩
      · go_wp2_with fail
        go_meet
        case rel => exact ⟨by rw [decide_eq_false (by omega)], Below.refl _ _⟩
    · go_wp2_with fail
      go_meet
      case rel => exact ⟨by rw [decide_eq_false (by omega)], Below.refl _ _⟩
  case rest =>
    obtain ⟨rfl, hbc⟩ := hcut
    by_cases hA : 0 ≤ a ∧ a ≤ 999999 ∧ Cnt.text a style = l
    · have hd : decide (0 ≤ a ∧ a ≤ 999999 ∧ Cnt.text a style = l) = true := decide_eq_true hA
      have HA := Lib.hid hA; clear hA
      generalize decide (0 ≤ a ∧ a ≤ 999999 ∧ Cnt.text a style = l) = p at hd ⊢
      subst hd
      go_wp2_with fail
      go_ret2
      have h := Hhit.out a HA.out.1 HA.out.2.1 HA.out.2.2
      exact ⟨by rw [h]; rfl, hbc⟩
    · have hd : decide (0 ≤ a ∧ a ≤ 999999 ∧ Cnt.text a style = l) = false := decide_eq_false hA
      have HA := Lib.hid hA; clear hA
      generalize decide (0 ≤ a ∧ a ≤ 999999 ∧ Cnt.text a style = l) = p at hd ⊢
      subst hd
      have Hbc := Lib.hid hbc; clear hbc
      go_upto_region 4 with fail
      go_cut [39] (fun v wx => v = .bool (decide (0 ≤ b ∧ b ≤ 999999 ∧ Cnt.text b style = l)) ∧ Below w.heap.size w wx)
      case first =>
        by_cases h0 : 0 ≤ b
        · by_cases h1 : b ≤ 999999
          · cases hc : (Cnt.text b style == l)
            · go_wp2_with (go_at_call 60; refine (ref01_textc _ _ _).mono ?_; rintro e w1 ⟨rfl, b1⟩)
              go_meet
              case rel => exact ⟨by rw [decide_eq_false (by simp at hc; simp [hc])], bseq Hbc.out b1⟩
            · go_wp2_with (go_at_call 60; refine (ref01_textc _ _ _).mono ?_; rintro e w1 ⟨rfl, b1⟩)
              go_meet
              case rel => exact ⟨by rw [decide_eq_true (by simp at hc; exact ⟨h0, h1, hc⟩)], bseq Hbc.out b1⟩
          · go_wp2_with fail
            go_meet
            case rel => exact ⟨by rw [decide_eq_false (by omega)], Hbc.out⟩
        · go_wp2_with fail
          go_meet
          case rel => exact ⟨by rw [decide_eq_false (by omega)], Hbc.out⟩
      case rest =>
        clear Hbc
        obtain ⟨rfl, hbc⟩ := hcut
        by_cases hB : 0 ≤ b ∧ b ≤ 999999 ∧ Cnt.text b style = l
        · have hd : decide (0 ≤ b ∧ b ≤ 999999 ∧ Cnt.text b style = l) = true := decide_eq_true hB
          have HB := Lib.hid hB; clear hB
          generalize decide (0 ≤ b ∧ b ≤ 999999 ∧ Cnt.text b style = l) = p at hd ⊢
          subst hd
          go_wp2_with fail
          go_ret2
          have h := Hhit.out b HB.out.1 HB.out.2.1 HB.out.2.2
          exact ⟨by rw [h]; rfl, hbc⟩
        · have hd : decide (0 ≤ b ∧ b ≤ 999999 ∧ Cnt.text b style = l) = false := decide_eq_false hB
          have HB := Lib.hid hB; clear hB
          generalize decide (0 ≤ b ∧ b ≤ 999999 ∧ Cnt.text b style = l) = p at hd ⊢
          subst hd
          have Hbc := Lib.hid hbc; clear hbc
          go_wp2_with fail
          go_loopw [8] (fun i wr => ∃ k : Nat, 1 ≤ k ∧ k ≤ 4000 ∧ i = .int .i64 k ∧ NoneTo l style k ∧ Below w.heap.size w wr) (fun i _ => 4000 - (intOf i).toNat)
          case atStart => exact ⟨1, by omega, by omega, rfl, fun m h1 h2 => by omega, Hbc.out⟩
          case round =>
            obtain ⟨k, hk1, hk, rfl, hno, hbr⟩ := hrel
            have Hno := Lib.hid hno; clear hno
            have Hbr := Lib.hid hbr; clear hbr
            by_cases hlt : k ≤ 3999
            · have hlt' : (k : Int) ≤ 3999 := by omega
              by_cases hst : style = 1 ∨ style = 2
              · have Hst := Lib.hid hst; clear hst
                have hs12 : (style == 1) = true ∨ ((style == 1) = false ∧ (style == 2) = true) := by
                  rcases Hst.out with rfl | rfl
                  · left; rfl
                  · right; exact ⟨rfl, rfl⟩
                cases hc : (Cnt.text (k : Int) style == l)
                · have Hc := Lib.hid hc
                  rcases hs12 with hs | ⟨hs, hs2⟩
                  all_goals
                    go_wp2_with (go_at_call 60; refine (ref01_textc _ _ _).mono ?_; rintro e w1 ⟨rfl, b1⟩)
                    go_roundw
                    case rel =>
                      refine ⟨k + 1, by omega, by omega, by go_num, fun m h1 h2 h3 => ?_, bseq Hbr.out b1⟩
                      rcases Nat.lt_or_ge m k with h4 | h4
                      · exact Hno.out m h1 h4 h3
                      · rw [show m = k by omega]
                        simpa using Hc.out
                    case measure => simp [intOf]; omega
                · have Hc := Lib.hid hc
                  rcases hs12 with hs | ⟨hs, hs2⟩
                  all_goals
                    go_wp2_with (go_at_call 60; refine (ref01_textc _ _ _).mono ?_; rintro e w1 ⟨rfl, b1⟩)
                    go_ret2
                    have h := Hhit.out k (by omega) (by omega) (by simpa using Hc.out)
                    exact ⟨by rw [h]; rfl, bseq Hbr.out b1⟩
              · have hs1 : (style == 1) = false := by simp; omega
                have hs2 : (style == 2) = false := by simp; omega
                have Hst := Lib.hid hst; clear hst
                go_wp2_with fail
                go_ret2
                have h := Hnone.out HA.out HB.out (fun m _ _ h3 => absurd h3 Hst.out)
                exact ⟨by rw [h]; rfl, Hbr.out⟩
            · have hlt' : ¬ (k : Int) ≤ 3999 := by omega
              go_wp2_with fail
              go_ret2
              have h := Hnone.out HA.out HB.out (fun m h1 h2 h3 => Hno.out m h1 (by omega) h3)
              exact ⟨by rw [h]; rfl, Hbr.out⟩
end Go.Proofs.YtimmmjmmjokdbaaGreatDoor
