/- The walks of the reference of layer 1, fourth part: Text and read. -/
import Derived.Test.YtimmmjmmjokdbaaGreatDoorRefC
namespace Go.Proofs.YtimmmjmmjokdbaaGreatDoor
open Go.RowKit

/-- the reference's text, by its own numerals and digits -/
def refText (n style : Int) : List UInt8 :=
  if style = 1 ∧ 1 ≤ Cnt.cut n ∧ Cnt.cut n ≤ 3999 then romanS (Cnt.cut n).toNat [105, 118, 120, 108, 99, 100, 109]
  else if style = 2 ∧ 1 ≤ Cnt.cut n ∧ Cnt.cut n ≤ 3999 then romanS (Cnt.cut n).toNat [73, 86, 88, 76, 67, 68, 77]
  else if style = 3 ∧ 1 ≤ Cnt.cut n then Cnt.lettered (Cnt.cut n).toNat
  else Cnt.decF 6 (Cnt.cut n).toNat

set_option maxRecDepth 100000 in
set_option maxHeartbeats 400000 in
theorem ref01_text (n style : Int) (w : World) :
    Calls Tryz.prog 60 #[.int .i64 n, .int .i64 style] w fun e w' => e = .returned (.string ⟨(refText n style).toArray⟩) ∧ Below w.heap.size w w' := by
  have c0 := Cnt.cut_lo n
  have c1 := Cnt.cut_hi n
  obtain ⟨c, hc⟩ : ∃ c : Nat, Cnt.cut n = (c : Int) := ⟨(Cnt.cut n).toNat, by omega⟩
  have hc1 : c ≤ 999999 := by omega
  have Hc := Lib.hid hc; clear hc c0 c1
  go_enter Tryz.func60, Tryz.ntmps60
  go_wp2_with (first
    | (go_at_call 78; refine (ref01_cut _ _).mono ?_; rintro e w' ⟨rfl, rfl⟩; rw [Hc.out])
    | (go_at_call 79; with_reducible refine (ref01_roman c 105 118 120 108 99 100 109 _ _ (by omega) rfl).mono ?_; rintro e w1 ⟨rfl, b1⟩)
    | (go_at_call 79; with_reducible refine (ref01_roman c 73 86 88 76 67 68 77 _ _ (by omega) rfl).mono ?_; rintro e w1 ⟨rfl, b1⟩)
    | (go_at_call 80; refine (ref01_letters 5 c _ (by omega) (by omega) (by omega)).mono ?_; rintro e w1 ⟨rfl, b1⟩)
    | (go_at_call 26; refine (ref01_digits 6 c _ (by omega) (by omega) (by omega)).mono ?_; rintro e w1 ⟨rfl, b1⟩))
  all_goals
    go_ret
    refine ⟨ret_str ?_, ?_⟩
    · unfold refText
      rw [Hc.out]
      repeat (first | rw [if_pos (by omega)] | rw [if_neg (by omega)])
      try simp
    · exact b1

set_option maxHeartbeats 400000 in
theorem ref01_read10 (s : ByteArray) (w : World) (hs : s.size ≤ 1000000) :
    Calls Tryz.prog 59 #[.string s, .int .u8 48, .int .i64 10, .int .i64 0] w fun e w' => e = .returned (.int .i64 (Cnt.readGo 48 10 0 s.data.toList 0)) ∧ w = w' := by
  go_enter Tryz.func59, Tryz.ntmps59
  go_wp2
  go_loop [9, 10] (fun n i => ∃ k m : Nat, k ≤ s.size ∧ i = .int .i64 k ∧ n = .int .i64 m ∧ m ≤ 10000009 ∧ Cnt.readGo 48 10 0 (s.data.toList.drop k) m = Cnt.readGo 48 10 0 s.data.toList 0) (fun _ i => s.size - (intOf i).toNat)
  case atStart => exact ⟨0, 0, Nat.zero_le _, rfl, rfl, by omega, by simp⟩
  case round =>
    obtain ⟨k, m, hk, rfl, rfl, hm, he⟩ := hrel
    by_cases hlt : k < s.size
    · rw [drop_get s k hlt, Cnt.readGo] at he
      have He := Lib.hid he; clear he
      by_cases hbad : s[k].toNat < 48 ∨ 48 + 10 ≤ s[k].toNat ∨ 999999 < m
      · have hE := He.out
        rw [if_pos hbad] at hE
        have HE := Lib.hid hE; clear hE
        have hhi := s[k].toNat_lt
        by_cases g1 : s[k].toNat < 48
        · have g1' : (s[k].toNat : Int) - 48 < 0 := by omega
          clear hbad
          go_wp2
          go_ret; exact ⟨ret_int HE.out, rfl⟩
        · have g1' : ¬ (s[k].toNat : Int) - 48 < 0 := by omega
          by_cases g2 : 48 + 10 ≤ s[k].toNat
          · have g2' : (10 : Int) ≤ (s[k].toNat : Int) - 48 := by omega
            clear hbad
            go_wp2
            go_ret; exact ⟨ret_int HE.out, rfl⟩
          · have g2' : ¬ (10 : Int) ≤ (s[k].toNat : Int) - 48 := by omega
            have g3' : (999999 : Int) < (m : Int) := by omega
            clear hbad
            go_wp2
            go_ret; exact ⟨ret_int HE.out, rfl⟩
      · have hE := He.out
        rw [if_neg hbad] at hE
        have HE := Lib.hid hE; clear hE
        have b0 : ¬ (s[k].toNat : Int) - 48 < 0 := by omega
        have b1 : ¬ (10 : Int) ≤ (s[k].toNat : Int) - 48 := by omega
        have b2 : ¬ (999999 : Int) < (m : Int) := by omega
        have c0 : (s[k].toNat : Int) ≤ 255 := by omega
        have e0 : 48 ≤ s[k].toNat := by omega
        have e1 : s[k].toNat < 48 + 10 := by omega
        have e2 : m ≤ 999999 := by omega
        clear hbad
        go_wp2
        go_round
        case rel => exact ⟨k + 1, _, by omega, by go_num, by first | go_num | (congr 1; omega), by omega, HE.out⟩
        case measure => simp [intOf]; omega
    · go_wp2
      go_ret
      exact ⟨ret_int (by rw [drop_end s k (by omega)] at he; simpa [Cnt.readGo] using he), rfl⟩
set_option maxHeartbeats 400000 in
theorem ref01_read26 (s : ByteArray) (w : World) (hs : s.size ≤ 1000000) :
    Calls Tryz.prog 59 #[.string s, .int .u8 97, .int .i64 26, .int .i64 1] w fun e w' => e = .returned (.int .i64 (Cnt.readGo 97 26 1 s.data.toList 0)) ∧ w = w' := by
  go_enter Tryz.func59, Tryz.ntmps59
  go_wp2
  go_loop [9, 10] (fun n i => ∃ k m : Nat, k ≤ s.size ∧ i = .int .i64 k ∧ n = .int .i64 m ∧ m ≤ 26000025 ∧ Cnt.readGo 97 26 1 (s.data.toList.drop k) m = Cnt.readGo 97 26 1 s.data.toList 0) (fun _ i => s.size - (intOf i).toNat)
  case atStart => exact ⟨0, 0, Nat.zero_le _, rfl, rfl, by omega, by simp⟩
  case round =>
    obtain ⟨k, m, hk, rfl, rfl, hm, he⟩ := hrel
    by_cases hlt : k < s.size
    · rw [drop_get s k hlt, Cnt.readGo] at he
      have He := Lib.hid he; clear he
      by_cases hbad : s[k].toNat < 97 ∨ 97 + 26 ≤ s[k].toNat ∨ 999999 < m
      · have hE := He.out
        rw [if_pos hbad] at hE
        have HE := Lib.hid hE; clear hE
        have hhi := s[k].toNat_lt
        by_cases g1 : s[k].toNat < 97
        · have g1' : (s[k].toNat : Int) - 97 < 0 := by omega
          clear hbad
          go_wp2
          go_ret; exact ⟨ret_int HE.out, rfl⟩
        · have g1' : ¬ (s[k].toNat : Int) - 97 < 0 := by omega
          by_cases g2 : 97 + 26 ≤ s[k].toNat
          · have g2' : (26 : Int) ≤ (s[k].toNat : Int) - 97 := by omega
            clear hbad
            go_wp2
            go_ret; exact ⟨ret_int HE.out, rfl⟩
          · have g2' : ¬ (26 : Int) ≤ (s[k].toNat : Int) - 97 := by omega
            have g3' : (999999 : Int) < (m : Int) := by omega
            clear hbad
            go_wp2
            go_ret; exact ⟨ret_int HE.out, rfl⟩
      · have hE := He.out
        rw [if_neg hbad] at hE
        have HE := Lib.hid hE; clear hE
        have b0 : ¬ (s[k].toNat : Int) - 97 < 0 := by omega
        have b1 : ¬ (26 : Int) ≤ (s[k].toNat : Int) - 97 := by omega
        have b2 : ¬ (999999 : Int) < (m : Int) := by omega
        have c0 : (s[k].toNat : Int) ≤ 255 := by omega
        have e0 : 97 ≤ s[k].toNat := by omega
        have e1 : s[k].toNat < 97 + 26 := by omega
        have e2 : m ≤ 999999 := by omega
        clear hbad
        go_wp2
        go_round
        case rel => exact ⟨k + 1, _, by omega, by go_num, by first | go_num | (congr 1; omega), by omega, HE.out⟩
        case measure => simp [intOf]; omega
    · go_wp2
      go_ret
      exact ⟨ret_int (by rw [drop_end s k (by omega)] at he; simpa [Cnt.readGo] using he), rfl⟩
end Go.Proofs.YtimmmjmmjokdbaaGreatDoor
