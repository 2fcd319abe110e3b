/- The walks of package count (layer 1): each function returns what the plain model computes. -/
import Derived.Test.YthoblbdkmlggbaaGreatDoorChecked
import Derived.Test.YthoblbdkmlggbaaGreatDoorShelf
import Derived.Test.YthoblbdkmlggbaaGreatDoorCntP
import Derived.Test.YthoblbdkmlggbaaGreatDoorSup
set_option linter.unusedSimpArgs false
set_option linter.unusedVariables false
namespace Go.Proofs.YthoblbdkmlggbaaGreatDoor
open Go.RowKit

set_option maxHeartbeats 400000 in
theorem count_cut (n : Int) (w : World) :
    Calls Tryz.prog 93 #[.int .i64 n] w fun e w' => e = .returned (.int .i64 (Cnt.cut n)) ∧ w = w' := by
  go_enter Tryz.func93, Tryz.ntmps93
  go_wp2
  go_ret
  exact ⟨ret_int (by unfold Cnt.cut; split <;> (try split) <;> omega), rfl⟩

theorem letGo_length : ∀ (f n : Nat), (Cnt.letGo f n).length ≤ f
  | 0, n => by simp [Cnt.letGo]
  | f + 1, n => by
    have := letGo_length f ((n - 1) / 26)
    simp only [Cnt.letGo]
    split
    · simp
    · simp; omega
set_option maxHeartbeats 400000 in
theorem count_lettered (n : Nat) (w : World) (hn : n ≤ 999999) :
    Calls Tryz.prog 96 #[.int .i64 (n : Int)] w fun e w' => e = .returned (.string ⟨(Cnt.lettered n).toArray⟩) ∧ w = w' := by
  have hle : (Cnt.lettered n).length ≤ 999999 := Nat.le_trans (letGo_length n n) hn
  go_enter Tryz.func96, Tryz.ntmps96
  go_wp2
  go_loop [0, 3] (fun x s => ∃ (m : Nat) (acc : List UInt8), m ≤ 999999 ∧ x = .int .i64 (m : Int) ∧ s = .string ⟨acc.toArray⟩ ∧ Cnt.lettered m ++ acc = Cnt.lettered n) (fun x _ => (intOf x).toNat)
  case atStart => exact ⟨n, [], hn, rfl, rfl, by simp⟩
  case round =>
    obtain ⟨m, acc, hm, rfl, rfl, he⟩ := hrel
    have hal : acc.length ≤ 999999 := by
      have := congrArg List.length he
      simp at this; omega
    have He := Lib.hid he; clear he hle
    by_cases h0 : 0 < m
    · have hE : Utf8.encode (97 + ((m : Int) - 1) % 26) = ⟨[UInt8.ofNat (97 + (m - 1) % 26)].toArray⟩ := by
        rw [encode_ascii _ (by omega) (by omega)]
        rw [show (97 + ((m : Int) - 1) % 26).toNat = 97 + (m - 1) % 26 by omega]
      go_wp2
      go_round
      case rel => exact ⟨(m - 1) / 26, _, by omega, by first | go_num | (congr 1; omega), congrArg Value.string (append_data _ _), by rw [← He.out, Cnt.lettered_pos m h0]; simp⟩
      case measure => simp [intOf]; omega
    · go_wp2
      go_ret
      exact ⟨ret_str (by have := He.out; rw [show m = 0 by omega] at this; simpa [Cnt.lettered_zero] using this), rfl⟩
set_option maxHeartbeats 400000 in
theorem count_digits (s : ByteArray) (w : World) (hs : s.size ≤ maxLen) :
    Calls Tryz.prog 103 #[.string s] w fun e w' => e = .returned (.int .i64 (Cnt.digits s.data.toList)) ∧ w = w' := by
  unfold maxLen at hs
  go_enter Tryz.func103, Tryz.ntmps103
  go_wp2
  go_loop [3, 7] (fun n i => ∃ k m : Nat, k ≤ s.size ∧ i = .int .i64 k ∧ n = .int .i64 m ∧ m ≤ 10000009 ∧ Cnt.readGo 48 10 0 (s.data.toList.drop k) m = Cnt.digits s.data.toList) (fun _ i => s.size - (intOf i).toNat)
  case atStart => exact ⟨0, 0, Nat.zero_le _, rfl, rfl, by omega, by simp [Cnt.digits]⟩
  case round =>
    obtain ⟨k, m, hk, rfl, rfl, hm, he⟩ := hrel
    by_cases hlt : k < s.size
    · rw [drop_get s k hlt, Cnt.readGo] at he
      have He := Lib.hid he; clear he
      by_cases hbad : s[k].toNat < 48 ∨ 57 < s[k].toNat ∨ 999999 < m
      · have hE := He.out
        rw [if_pos (by omega)] at hE
        have HE := Lib.hid hE; clear hE
        go_wp2
        all_goals (go_ret; exact ⟨ret_int HE.out, rfl⟩)
      · have hE := He.out
        rw [if_neg (by omega)] at hE
        have HE := Lib.hid hE; clear hE
        have b0 : (48 : Int) ≤ (s[k].toNat : Int) := by omega
        have b1 : (s[k].toNat : Int) ≤ 57 := by omega
        have b2 : (m : Int) ≤ 999999 := by omega
        clear hbad
        go_wp2
        go_round
        case rel => exact ⟨k + 1, _, by omega, by go_num, by first | go_num | (congr 1; omega), by omega, HE.out⟩
        case measure => simp [intOf]; omega
    · go_wp2
      go_ret
      exact ⟨ret_int (by rw [drop_end s k (by omega)] at he; simpa [Cnt.readGo] using he), rfl⟩
set_option maxHeartbeats 400000 in
theorem count_letters (s : ByteArray) (w : World) (hs : s.size ≤ maxLen) :
    Calls Tryz.prog 106 #[.string s] w fun e w' => e = .returned (.int .i64 (Cnt.ofLetters s.data.toList)) ∧ w = w' := by
  unfold maxLen at hs
  go_enter Tryz.func106, Tryz.ntmps106
  go_wp2
  go_loop [3, 7] (fun n i => ∃ k m : Nat, k ≤ s.size ∧ i = .int .i64 k ∧ n = .int .i64 m ∧ m ≤ 26000025 ∧ Cnt.readGo 97 26 1 (s.data.toList.drop k) m = Cnt.ofLetters s.data.toList) (fun _ i => s.size - (intOf i).toNat)
  case atStart => exact ⟨0, 0, Nat.zero_le _, rfl, rfl, by omega, by simp [Cnt.ofLetters]⟩
  case round =>
    obtain ⟨k, m, hk, rfl, rfl, hm, he⟩ := hrel
    by_cases hlt : k < s.size
    · rw [drop_get s k hlt, Cnt.readGo] at he
      have He := Lib.hid he; clear he
      by_cases hbad : s[k].toNat < 97 ∨ 122 < s[k].toNat ∨ 999999 < m
      · have hE := He.out
        rw [if_pos (by omega)] at hE
        have HE := Lib.hid hE; clear hE
        go_wp2
        all_goals (go_ret; exact ⟨ret_int HE.out, rfl⟩)
      · have hE := He.out
        rw [if_neg (by omega)] at hE
        have HE := Lib.hid hE; clear hE
        have b0 : (97 : Int) ≤ (s[k].toNat : Int) := by omega
        have b1 : (s[k].toNat : Int) ≤ 122 := by omega
        have b2 : (m : Int) ≤ 999999 := by omega
        clear hbad
        go_wp2
        go_round
        case rel => exact ⟨k + 1, _, by omega, by go_num, by first | go_num | (congr 1; omega), by omega, HE.out⟩
        case measure => simp [intOf]; omega
    · go_wp2
      go_ret
      exact ⟨ret_int (by rw [drop_end s k (by omega)] at he; simpa [Cnt.readGo] using he), rfl⟩
theorem numerals_pos : ∀ p ∈ Cnt.numerals, 0 < p.1 ∧ p.1 ≤ 1000 ∧ 0 < p.2.length ∧ p.2.length ≤ 2 := by decide

/-- the cells of the variable 'numerals' -/
def numCells : Array Value := (Cnt.numerals.flatMap fun p => [Value.int .i64 (p.1 : Int), Value.string ⟨p.2.toArray⟩]).toArray
/-- what the variable 'numerals' holds -/
def NumAt (w : World) : Prop := ∃ t fr, w.heap[(1 : Nat)]? = some (.cells numCells t fr)
theorem NumAt.below {w w' : World} (h : NumAt w) (hb : Below w.heap.size w w') : NumAt w' := by
  obtain ⟨t, fr, h⟩ := h
  exact ⟨t, fr, (hb.block _ (Array.getElem?_eq_some_iff.1 h).1).trans h⟩
theorem num_index (k : Nat) (p : Nat × List UInt8) (h : Cnt.numerals[k]? = some p) :
    ∀ w, (Instr.index 165 (.agg numCells) (.int .i64 (k : Int))).run Tryz.prog w = .ok (.agg #[.int .i64 (p.1 : Int), .string ⟨p.2.toArray⟩]) w := by
  have hk : k < 13 := by
    rcases Nat.lt_or_ge k 13 with h' | h'
    · exact h'
    · rw [List.getElem?_eq_none (by simpa [Cnt.numerals] using h')] at h; cases h
  match k, hk with
  | 0, _ | 1, _ | 2, _ | 3, _ | 4, _ | 5, _ | 6, _ | 7, _ | 8, _ | 9, _ | 10, _ | 11, _ | 12, _ =>
    simp [Cnt.numerals] at h
    subst h
    intro w
    kernel_rfl

end Go.Proofs.YthoblbdkmlggbaaGreatDoor
