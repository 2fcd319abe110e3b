/- The walks of package count (layer 1): each function returns what the plain model computes. The walks of package count, second part: numerals, and what is read of them. The walks of package count, third part: a counter's text, and the counter that a text is. -/
import Derived.Test.YthoblbdkmlggbaaGreatDoorChecked
import Derived.Test.YthoblbdkmlggbaaGreatDoorShelf
import Derived.Test.YthoblbdkmlggbaaGreatDoorCntP
import Derived.Test.YthoblbdkmlggbaaGreatDoorSup
import Derived.Lib.AppendIntMem
set_option linter.unusedSimpArgs false
set_option linter.unusedVariables false
namespace Go.Proofs.YthoblbdkmlggbaaGreatDoor
section
open Go.RowKit

set_option maxHeartbeats 400000 in
theorem count_cut (n : Int) (w : World) :
    Calls Tryz.prog 93 #[.int .i64 n] w fun e w' => e = .returned (.int .i64 (Cnt.cut n)) ∧ w = w' := by
  go_enter Tryz.func93, Tryz.ntmps93
  go_wp2
  go_ret
  exact ⟨ret_int (by unfold Cnt.cut; split <;> (try split) <;> omega), rfl⟩

theorem letGo_length : ∀ (f n : Nat), (Cnt.letGo f n).length ≤ f
  | 0, n => by simp [Cnt.letGo]
  | f + 1, n => by
    have := letGo_length f ((n - 1) / 26)
    simp only [Cnt.letGo]
    split
    · simp
    · simp; omega
set_option maxHeartbeats 400000 in
theorem count_lettered (n : Nat) (w : World) (hn : n ≤ 999999) :
    Calls Tryz.prog 96 #[.int .i64 (n : Int)] w fun e w' => e = .returned (.string ⟨(Cnt.lettered n).toArray⟩) ∧ w = w' := by
  have hle : (Cnt.lettered n).length ≤ 999999 := Nat.le_trans (letGo_length n n) hn
  go_enter Tryz.func96, Tryz.ntmps96
  go_wp2
  go_loop [0, 3] (fun x s => ∃ (m : Nat) (acc : List UInt8), m ≤ 999999 ∧ x = .int .i64 (m : Int) ∧ s = .string ⟨acc.toArray⟩ ∧ Cnt.lettered m ++ acc = Cnt.lettered n) (fun x _ => (intOf x).toNat)
  case atStart => exact ⟨n, [], hn, rfl, rfl, by simp⟩
  case round =>
    obtain ⟨m, acc, hm, rfl, rfl, he⟩ := hrel
    have hal : acc.length ≤ 999999 := by
      have := congrArg List.length he
      simp at this; omega
    have He := Lib.hid he; clear he hle
    by_cases h0 : 0 < m
    · have hE : Utf8.encode (97 + ((m : Int) - 1) % 26) = ⟨[UInt8.ofNat (97 + (m - 1) % 26)].toArray⟩ := by
        rw [encode_ascii _ (by omega) (by omega)]
        rw [show (97 + ((m : Int) - 1) % 26).toNat = 97 + (m - 1) % 26 by omega]
      go_wp2
      go_round
      case rel => exact ⟨(m - 1) / 26, _, by omega, by first | go_num | (congr 1; omega), congrArg Value.string (append_data _ _), by rw [← He.out, Cnt.lettered_pos m h0]; simp⟩
      case measure => simp [intOf]; omega
    · go_wp2
      go_ret
      exact ⟨ret_str (by have := He.out; rw [show m = 0 by omega] at this; simpa [Cnt.lettered_zero] using this), rfl⟩
set_option maxHeartbeats 400000 in
theorem count_digits (s : ByteArray) (w : World) (hs : s.size ≤ maxLen) :
    Calls Tryz.prog 103 #[.string s] w fun e w' => e = .returned (.int .i64 (Cnt.digits s.data.toList)) ∧ w = w' := by
  unfold maxLen at hs
  go_enter Tryz.func103, Tryz.ntmps103
  go_wp2
  go_loop [3, 7] (fun n i => ∃ k m : Nat, k ≤ s.size ∧ i = .int .i64 k ∧ n = .int .i64 m ∧ m ≤ 10000009 ∧ Cnt.readGo 48 10 0 (s.data.toList.drop k) m = Cnt.digits s.data.toList) (fun _ i => s.size - (intOf i).toNat)
  case atStart => exact ⟨0, 0, Nat.zero_le _, rfl, rfl, by omega, by simp [Cnt.digits]⟩
  case round =>
    obtain ⟨k, m, hk, rfl, rfl, hm, he⟩ := hrel
    by_cases hlt : k < s.size
    · rw [drop_get s k hlt, Cnt.readGo] at he
      have He := Lib.hid he; clear he
      by_cases hbad : s[k].toNat < 48 ∨ 57 < s[k].toNat ∨ 999999 < m
      · have hE := He.out
        rw [if_pos (by omega)] at hE
        have HE := Lib.hid hE; clear hE
        go_wp2
        all_goals (go_ret; exact ⟨ret_int HE.out, rfl⟩)
      · have hE := He.out
        rw [if_neg (by omega)] at hE
        have HE := Lib.hid hE; clear hE
        have b0 : (48 : Int) ≤ (s[k].toNat : Int) := by omega
        have b1 : (s[k].toNat : Int) ≤ 57 := by omega
        have b2 : (m : Int) ≤ 999999 := by omega
        clear hbad
        go_wp2
        go_round
        case rel => exact ⟨k + 1, _, by omega, by go_num, by first | go_num | (congr 1; omega), by omega, HE.out⟩
        case measure => simp [intOf]; omega
    · go_wp2
      go_ret
      exact ⟨ret_int (by rw [drop_end s k (by omega)] at he; simpa [Cnt.readGo] using he), rfl⟩
set_option maxHeartbeats 400000 in
theorem count_letters (s : ByteArray) (w : World) (hs : s.size ≤ maxLen) :
    Calls Tryz.prog 106 #[.string s] w fun e w' => e = .returned (.int .i64 (Cnt.ofLetters s.data.toList)) ∧ w = w' := by
  unfold maxLen at hs
  go_enter Tryz.func106, Tryz.ntmps106
  go_wp2
  go_loop [3, 7] (fun n i => ∃ k m : Nat, k ≤ s.size ∧ i = .int .i64 k ∧ n = .int .i64 m ∧ m ≤ 26000025 ∧ Cnt.readGo 97 26 1 (s.data.toList.drop k) m = Cnt.ofLetters s.data.toList) (fun _ i => s.size - (intOf i).toNat)
  case atStart => exact ⟨0, 0, Nat.zero_le _, rfl, rfl, by omega, by simp [Cnt.ofLetters]⟩
  case round =>
    obtain ⟨k, m, hk, rfl, rfl, hm, he⟩ := hrel
    by_cases hlt : k < s.size
    · rw [drop_get s k hlt, Cnt.readGo] at he
      have He := Lib.hid he; clear he
      by_cases hbad : s[k].toNat < 97 ∨ 122 < s[k].toNat ∨ 999999 < m
      · have hE := He.out
        rw [if_pos (by omega)] at hE
        have HE := Lib.hid hE; clear hE
        go_wp2
        all_goals (go_ret; exact ⟨ret_int HE.out, rfl⟩)
      · have hE := He.out
        rw [if_neg (by omega)] at hE
        have HE := Lib.hid hE; clear hE
        have b0 : (97 : Int) ≤ (s[k].toNat : Int) := by omega
        have b1 : (s[k].toNat : Int) ≤ 122 := by omega
        have b2 : (m : Int) ≤ 999999 := by omega
        clear hbad
        go_wp2
        go_round
        case rel => exact ⟨k + 1, _, by omega, by go_num, by first | go_num | (congr 1; omega), by omega, HE.out⟩
        case measure => simp [intOf]; omega
    · go_wp2
      go_ret
      exact ⟨ret_int (by rw [drop_end s k (by omega)] at he; simpa [Cnt.readGo] using he), rfl⟩
theorem numerals_pos : ∀ p ∈ Cnt.numerals, 0 < p.1 ∧ p.1 ≤ 1000 ∧ 0 < p.2.length ∧ p.2.length ≤ 2 := by decide

/-- the cells of the variable 'numerals' -/
def numCells : Array Value := (Cnt.numerals.flatMap fun p => [Value.int .i64 (p.1 : Int), Value.string ⟨p.2.toArray⟩]).toArray
/-- what the variable 'numerals' holds -/
def NumAt (w : World) : Prop := ∃ t fr, w.heap[(1 : Nat)]? = some (.cells numCells t fr)
theorem NumAt.below {w w' : World} (h : NumAt w) (hb : Below w.heap.size w w') : NumAt w' := by
  obtain ⟨t, fr, h⟩ := h
  exact ⟨t, fr, (hb.block _ (Array.getElem?_eq_some_iff.1 h).1).trans h⟩
theorem num_index (k : Nat) (p : Nat × List UInt8) (h : Cnt.numerals[k]? = some p) :
    ∀ w, (Instr.index 165 (.agg numCells) (.int .i64 (k : Int))).run Tryz.prog w = .ok (.agg #[.int .i64 (p.1 : Int), .string ⟨p.2.toArray⟩]) w := by
  have hk : k < 13 := by
    rcases Nat.lt_or_ge k 13 with h' | h'
    · exact h'
    · rw [List.getElem?_eq_none (by simpa [Cnt.numerals] using h')] at h; cases h
  match k, hk with
  | 0, _ | 1, _ | 2, _ | 3, _ | 4, _ | 5, _ | 6, _ | 7, _ | 8, _ | 9, _ | 10, _ | 11, _ | 12, _ =>
    simp [Cnt.numerals] at h
    subst h
    intro w
    kernel_rfl

end
section
open Go.RowKit

set_option maxHeartbeats 400000 in
theorem count_ofRoman (l : List UInt8) (w : World) (hs : l.length ≤ maxLen) (hN : NumAt w) :
    Calls Tryz.prog 104 #[.string ⟨l.toArray⟩] w fun e w' => e = .returned (.int .i64 (Cnt.ofRoman l)) ∧ Below w.heap.size w w' := by
  unfold maxLen at hs
  obtain ⟨t, fr, hN⟩ := hN
  have hN' := Lib.hid hN; clear hN
  go_enter Tryz.func104, Tryz.ntmps104
  go_wp2_with (refine wpList_load_row rfl 165 _ rfl 1 rfl t numCells fr _ hN'.out Tryz.underlying165 rfl (by kernel_rfl) ?_)
  go_loopw [0, 3, 7] (fun x n i wr => ∃ (k m f : Nat) (l' : List UInt8), k ≤ 13 ∧ m ≤ 4999 ∧ l'.length ≤ 9223372036854775807 ∧ x = .string ⟨l'.toArray⟩ ∧ n = .int .i64 m ∧ i = .int .i64 k ∧ l'.length + (13 - k) ≤ f ∧ Cnt.ofRomGo f (Cnt.numerals.drop k) m l' = Cnt.ofRoman l ∧ Below w.heap.size w wr) (fun _ _ i _ => 13 - (intOf i).toNat)
  case atStart => exact ⟨0, 0, l.length + 13, l, by omega, by omega, by omega, rfl, rfl, rfl, by omega, rfl, Below.refl _ _⟩
  case round =>
    obtain ⟨k, m, f, l', hk, hm, hl, rfl, rfl, rfl, hf, he, hb⟩ := hrel
    have He := Lib.hid he; clear he
    by_cases hlt : k < 13
    · obtain ⟨p, hp⟩ : ∃ p, Cnt.numerals[k]? = some p := ⟨_, List.getElem?_eq_getElem (by simpa [Cnt.numerals] using hlt)⟩
      have hpp := numerals_pos p (List.mem_of_getElem? hp)
      have hidx := num_index k p hp
      have hdr : Cnt.numerals.drop k = p :: Cnt.numerals.drop (k + 1) := by
        obtain ⟨hk', e⟩ := List.getElem?_eq_some_iff.1 hp
        rw [List.drop_eq_getElem_cons hk', e]
      have Hp := Lib.hid hp; clear hp
      have Hdr := Lib.hid hdr; clear hdr
      have hl' := hl; have hm' := hm; have hf' := hf
      have hk8 : decide ((k : Int) < 13) = true := by simp; omega
      go_wp2_with fail
      go_loop [0, 3] (fun x n => ∃ (m f : Nat) (l' : List UInt8), m ≤ 4999 ∧ l'.length ≤ 9223372036854775807 ∧ x = .string ⟨l'.toArray⟩ ∧ n = .int .i64 m ∧ l'.length + (13 - k) ≤ f ∧ Cnt.ofRomGo f (p :: Cnt.numerals.drop (k + 1)) m l' = Cnt.ofRoman l) (fun x _ => strLen x)
      case atStart => exact ⟨m, f, l', hm', hl', rfl, rfl, hf', by rw [← Hdr.out]; exact He.out⟩
      case round =>
        obtain ⟨m, f, l', hm, hl, rfl, rfl, hf, he⟩ := hrel
        obtain ⟨f, rfl⟩ : ∃ g, f = g + 1 := ⟨f - 1, by omega⟩
        rw [Cnt.ofRomGo] at he
        by_cases hc : Lib.hasPrefix l' p.2 = true ∧ m ≤ 3999
        · rw [if_pos hc] at he
          have He := Lib.hid he; clear he
          obtain ⟨hc1, hc2⟩ := hc
          have hple : p.2.length ≤ l'.length := List.IsPrefix.length_le (List.isPrefixOf_iff_prefix.1 hc1)
          go_wp2_with (go_at_call 141; refine (Tryz.strings_HasPrefix _ _ _).mono ?_; rintro e w' ⟨rfl, rfl⟩)
          go_round
          case rel => exact ⟨m + p.1, f, l'.drop p.2.length, by omega, by simp; omega, congrArg Value.string (extract_end _ _), by go_num, by simp; omega, He.out⟩
          case measure => rw [extract_end]; simp [strLen, ByteArray.size]; omega
        · rw [if_neg hc] at he
          have He := Lib.hid he; clear he
          cases hc1 : Lib.hasPrefix l' p.2
          · go_wp2_with (go_at_call 141; refine (Tryz.strings_HasPrefix _ _ _).mono ?_; rintro e w' ⟨rfl, rfl⟩)
            go_roundw
            case rel => exact ⟨k + 1, m, f, l', by omega, hm, hl, rfl, rfl, by go_num, by omega, He.out, hb.alloc hb.size _⟩
            case measure => simp [intOf]; omega
          · have hc2 : (3999 : Int) < (m : Int) := by
              rcases Nat.lt_or_ge 3999 m with h | h
              · omega
              · exact absurd ⟨hc1, h⟩ hc
            clear hc
            go_wp2_with (go_at_call 141; refine (Tryz.strings_HasPrefix _ _ _).mono ?_; rintro e w' ⟨rfl, rfl⟩)
            go_roundw
            case rel => exact ⟨k + 1, m, f, l', by omega, hm, hl, rfl, rfl, by go_num, by omega, He.out, hb.alloc hb.size _⟩
            case measure => simp [intOf]; omega
    · go_wp2_with fail
      go_ret
      refine ⟨ret_int ?_, hb⟩
      have h := He.out
      rw [show k = 13 by omega] at h
      rw [← h]
      cases f <;> simp [Cnt.numerals, Cnt.ofRomGo]

theorem romanGo_length : ∀ (ps : List (Nat × List UInt8)) (n : Nat), (∀ p ∈ ps, p.2.length ≤ p.1) → (Cnt.romanGo ps n).length ≤ n
  | [], n, _ => by simp [Cnt.romanGo]
  | p :: ps, n, h => by
    have h1 := h p (by simp)
    have h2 := romanGo_length ps (n % p.1) (fun q hq => h q (by simp [hq]))
    have h3 : n / p.1 * p.2.length ≤ n / p.1 * p.1 := Nat.mul_le_mul_left _ h1
    have h4 := Nat.div_add_mod n p.1
    rw [Nat.mul_comm] at h4
    simp [Cnt.romanGo, List.length_flatten]
    omega
theorem roman_length (n : Nat) : (Cnt.roman n).length ≤ n := romanGo_length _ _ (by decide)
theorem byteCells_append (a b : List UInt8) : Lib.byteCells a ++ Lib.byteCells b = Lib.byteCells (a ++ b) := by simp [Lib.byteCells]

set_option maxHeartbeats 400000 in
theorem count_roman (n : Nat) (w : World) (hn : n ≤ 999999) (hN : NumAt w) :
    Calls Tryz.prog 95 #[.int .i64 (n : Int)] w fun e w' => e = .returned (.string ⟨(Cnt.roman n).toArray⟩) ∧ Below w.heap.size w w' := by
  have hle := roman_length n
  have hN0 := hN
  obtain ⟨t, fr, hN⟩ := hN0
  have hg : 1 < w.heap.size := (Array.getElem?_eq_some_iff.1 hN).1
  have hF := Lib.IsBuilderF.of (Lib.fresh_isBuilder 102 5 w)
  have HF := Lib.hid hF; clear hF
  have hN' : (w.alloc (.cells #[.pointer none, .slice none 0 0] 102)).heap[(1 : Nat)]? = some (.cells numCells t fr) := (Below.heap_alloc w _ _ hg).trans hN
  have HN := Lib.hid hN'; clear hN' hN
  go_enter Tryz.func95, Tryz.ntmps95
  go_wp2_with (refine wpList_load_row rfl 165 _ rfl 1 rfl t numCells fr _ HN.out Tryz.underlying165 rfl (by kernel_rfl) ?_)
  go_loopw [0, 7] (fun x i wr => ∃ (k m : Nat) (acc : List UInt8), k ≤ 13 ∧ m ≤ 999999 ∧ x = .int .i64 m ∧ i = .int .i64 k ∧ acc ++ Cnt.romanGo (Cnt.numerals.drop k) m = Cnt.roman n ∧ Lib.IsBuilderF 102 5 w.heap.size w.heap.size (Lib.byteCells acc) wr ∧ Below w.heap.size w wr ∧ w.heap.size < wr.heap.size) (fun _ i _ => 13 - (intOf i).toNat)
  case atStart => exact ⟨0, n, [], by omega, by omega, rfl, rfl, rfl, HF.out, (Below.refl _ _).alloc (Nat.le_refl _) _, by simp⟩
  case round =>
    obtain ⟨k, m, acc, hk, hm, rfl, rfl, he, hI, hb, hz⟩ := hrel
    have He := Lib.hid he; clear he
    by_cases hlt : k < 13
    · obtain ⟨p, hp⟩ : ∃ p, Cnt.numerals[k]? = some p := ⟨_, List.getElem?_eq_getElem (by simpa [Cnt.numerals] using hlt)⟩
      have hpp := numerals_pos p (List.mem_of_getElem? hp)
      have hidx := num_index k p hp
      have hdr : Cnt.numerals.drop k = p :: Cnt.numerals.drop (k + 1) := by
        obtain ⟨hk', e⟩ := List.getElem?_eq_some_iff.1 hp
        rw [List.drop_eq_getElem_cons hk', e]
      have Hp := Lib.hid hp; clear hp
      have Hdr := Lib.hid hdr; clear hdr
      have hk8 : decide ((k : Int) < 13) = true := by simp; omega
      have hIa : Lib.IsBuilderF 102 5 w.heap.size w.heap.size (Lib.byteCells acc) (wr.alloc (.cells #[.int .i64 (p.1 : Int), .string ⟨p.2.toArray⟩] 164)) := hI.alloc _
      have hba : Below w.heap.size w (wr.alloc (.cells #[.int .i64 (p.1 : Int), .string ⟨p.2.toArray⟩] 164)) := hb.alloc hb.size _
      have hpa : (wr.alloc (.cells #[.int .i64 (p.1 : Int), .string ⟨p.2.toArray⟩] 164)).heap[wr.heap.size]? = some (.cells #[.int .i64 (p.1 : Int), .string ⟨p.2.toArray⟩] 164) := heap_alloc_new wr _
      have HI := Lib.hid hIa; clear hIa hI
      have HP := Lib.hid hpa; clear hpa
      have HB := Lib.hid hba; clear hba
      have hbs := hb.size
      clear hb
      have hm' := hm
      go_wp2_with fail
      go_loopw [0] (fun x wi => ∃ (m : Nat) (acc : List UInt8), m ≤ 999999 ∧ x = .int .i64 m ∧ acc ++ Cnt.romanGo (p :: Cnt.numerals.drop (k + 1)) m = Cnt.roman n ∧ Lib.IsBuilderF 102 5 w.heap.size w.heap.size (Lib.byteCells acc) wi ∧ Below w.heap.size w wi ∧ wr.heap.size < wi.heap.size ∧ wi.heap[wr.heap.size]? = some (.cells #[.int .i64 (p.1 : Int), .string ⟨p.2.toArray⟩] 164)) (fun x _ => (intOf x).toNat)
      case atStart => exact ⟨m, acc, hm', rfl, by rw [← Hdr.out]; exact He.out, HI.out, HB.out, by simp, HP.out⟩
      case round =>
        rename_i wi
        obtain ⟨m, acc, hm, rfl, he, hI, hb, hz2, hp2⟩ := hrel
        have c0 := cell_of_row _ _ 0 _ _ _ hp2
        have c1 := cell_of_row _ _ 1 _ _ _ hp2
        have hal : acc.length ≤ 999999 := by
          have := congrArg List.length he
          simp at this; omega
        have HP2 := Lib.hid hp2; clear hp2
        by_cases hc : p.1 ≤ m
        · rw [Cnt.romanGo_step p _ m hpp.1 hc] at he
          have He2 := Lib.hid he; clear he
          have hps : p.2.length ≤ 2 := hpp.2.2.2
          go_wp2_with fail
          refine (Tryz.Builder_WriteString_k _ _ _ _ _ hI (by rw [Lib.byteCells_length]; simp [ByteArray.size]; omega) hb.size).mono ?_
          rintro e w2 ⟨rfl, h2, b2, k2⟩
          have hp3 := k2 _ _ HP2.out (fun e => by injection e with e; omega) (fun c fz e => by injection e with _ e; exact absurd e (by decide))
          have d0 := cell_of_row _ _ 0 _ _ _ hp3
          have d1 := cell_of_row _ _ 1 _ _ _ hp3
          have HP3 := Lib.hid hp3; clear hp3
          have hb3 := hb.trans b2
          have hz3 := b2
          go_wp2_with fail
          go_roundw
          case rel => exact ⟨m - p.1, acc ++ p.2, by omega, by congr 1; omega, by rw [List.append_assoc]; exact He2.out, .inr (by rw [← byteCells_append]; exact h2), hb3, by have := b2.size; omega, HP3.out⟩
          case measure => simp [intOf]; omega
        · rw [Cnt.romanGo_skip p _ m (by omega)] at he
          have He2 := Lib.hid he; clear he
          go_wp2_with fail
          go_roundw
          case rel => exact ⟨k + 1, m, acc, by omega, hm, rfl, by go_num, He2.out, hI, hb, by omega⟩
          case measure => simp [intOf]; omega
    · go_wp2_with (go_at_call 65; refine (Tryz.Builder_String_any_k _ _ _ _ hI hb.size).mono ?_; rintro e w' ⟨rfl, h1, b1, k1⟩)
      go_ret
      have hE := He.out
      rw [show k = 13 by omega] at hE
      refine ⟨ret_str (by simpa [Cnt.numerals, Cnt.romanGo] using hE), hb.trans b1⟩
end
section
open Go.RowKit

/-- what the package-level variables hold that counters' texts lean on -/
structure Laid01 (w : World) : Prop where
  num : NumAt w
  pow : Lib.TabIs Tryz.prog w "internal/strconv.uint64pow10" .u64 Lib.pow10Tab
  cas : Lib.CaseVar 4 Lib.caseA w
  utf : Lib.Utf8Tabs 5 6 w

theorem Laid01.below {w w' : World} (h : Laid01 w) (hb : Below w.heap.size w w') : Laid01 w' := by
  refine ⟨h.num.below hb, ?_, Lib.CaseVar_below h.cas hb, ?_⟩
  · have hp := h.pow
    unfold Lib.TabIs at hp ⊢
    refine var?_below hb (show Tryz.prog.globalNamed "internal/strconv.uint64pow10" = some 3 by kernel_rfl) ?_ hp
    unfold World.var? at hp
    simp only [show Tryz.prog.globalNamed "internal/strconv.uint64pow10" = some 3 by kernel_rfl, Option.bind_some] at hp
    rcases Nat.lt_or_ge 3 w.heap.size with h1 | h1
    · exact h1
    · rw [Array.getElem?_eq_none h1] at hp; simp at hp
  · obtain ⟨h1, h2⟩ := h.utf
    refine ⟨fun c hc => ?_, fun i hi => ⟨?_, ?_⟩⟩
    · have := h1 c hc; exact (hb.cell (World.block_lt_of_cell? w _ this)).trans this
    · have := (h2 i hi).1; exact (hb.cell (World.block_lt_of_cell? w _ this)).trans this
    · have := (h2 i hi).2; exact (hb.cell (World.block_lt_of_cell? w _ this)).trans this

theorem std_itoa (n : Int) (w : World) (hL : Laid01 w) (h0 : -9223372036854775808 ≤ n) (h1 : n ≤ 9223372036854775807) :
    Calls Tryz.prog 40 #[.int .i64 n] w fun e w' => e = .returned (.string ⟨(Lib.itoa n).toArray⟩) ∧ Below w.heap.size w w' :=
  (Tryz.strconv_Itoa n h0 h1 w hL.pow).mono fun e w' ⟨he, k, os, hw⟩ => ⟨he, by rw [hw]; exact Lib.below_grow _ _ (Nat.le_refl _) _ _⟩

theorem roman_ascii (n : Nat) : ∀ b ∈ Cnt.roman n, b.toNat < 128 := by
  have h : ∀ (ps : List (Nat × List UInt8)) (n : Nat), (∀ p ∈ ps, ∀ b ∈ p.2, b.toNat < 128) → ∀ b ∈ Cnt.romanGo ps n, b.toNat < 128 := by
    intro ps
    induction ps with
    | nil => intro n _ b hb; simp [Cnt.romanGo] at hb
    | cons p ps ih =>
      intro n hp b hb
      simp only [Cnt.romanGo, List.mem_append, List.mem_flatten, List.mem_replicate] at hb
      rcases hb with ⟨l, ⟨_, rfl⟩, hb⟩ | hb
      · exact hp p (by simp) b hb
      · exact ih _ (fun q hq => hp q (by simp [hq])) b hb
  exact h _ n (by decide)

set_option maxHeartbeats 400000 in
theorem count_text (n style : Int) (w : World) (hL : Laid01 w) :
    Calls Tryz.prog 62 #[.int .i64 n, .int .i64 style] w fun e w' => e = .returned (.string ⟨(Cnt.text n style).toArray⟩) ∧ Below w.heap.size w w' := by
  have c0 := Cnt.cut_lo n
  have c1 := Cnt.cut_hi n
  obtain ⟨c, hc⟩ : ∃ c : Nat, Cnt.cut n = (c : Int) := ⟨(Cnt.cut n).toNat, by omega⟩
  have hc1 : c ≤ 999999 := by omega
  have Hc := Lib.hid hc; clear hc c0 c1
  have HL := Lib.hid hL; clear hL
  go_enter Tryz.func62, Tryz.ntmps62
  go_wp2_with (first
    | (go_at_call 93; refine (count_cut _ _).mono ?_; rintro e w' ⟨rfl, rfl⟩; rw [Hc.out])
    | (go_at_call 95; refine (count_roman c _ hc1 HL.out.num).mono ?_; rintro e w1 ⟨rfl, b1⟩)
    | (go_at_call 94; refine (Tryz.strings_ToUpper_ascii _ _ (by have := roman_length c; simp [ByteArray.size]; omega) (fun j b hj => roman_ascii c b (List.mem_of_getElem? hj))).mono ?_; rintro e w2 ⟨rfl, b2⟩)
    | (go_at_call 96; refine (count_lettered c _ hc1).mono ?_; rintro e w' ⟨rfl, rfl⟩)
    | (go_at_call 40; refine (std_itoa _ _ HL.out (by omega) (by omega)).mono ?_; rintro e w3 ⟨rfl, b3⟩))
  all_goals
    go_ret
    refine ⟨ret_str ?_, ?_⟩
    · unfold Cnt.text
      rw [Hc.out]
      repeat (first | rw [if_pos (by omega)] | rw [if_neg (by omega)])
      try simp
    · first | exact bseq b1 b2 | exact b1 | exact b3 | exact Below.refl _ _

theorem encodeRune_length (r : Int) : (Lib.encodeRune r).length ≤ 4 := by
  unfold Lib.encodeRune Lib.encodeRuneZ
  rw [List.length_map]
  (repeat' split) <;> simp
theorem mapGoD_length (f : Int → Int) : ∀ (n : Nat) (l : List UInt8), (Lib.mapGoD f n l).length ≤ 4 * n
  | 0, l => by simp [Lib.mapGoD]
  | n + 1, l => by
    have h1 := mapGoD_length f n (l.drop (Lib.decodeL l).2)
    have h2 := encodeRune_length (f (Lib.decodeL l).1)
    simp only [Lib.mapGoD]
    split
    · simp
    · rw [List.length_append]
      split
      · omega
      · simp; omega
theorem toLowerD_length (l : List UInt8) (h : l.length ≤ 1000000) : (Lib.toLowerD l).length ≤ maxLen := by
  have := mapGoD_length Lib.toLowerU l.length l
  unfold Lib.toLowerD Lib.mapD maxLen
  omega
theorem int_info : (Tryz.prog.info? 3).map (fun i => (i.zero, i.size, i.bytes)) = some (some (.int .i64 0), 1, 8) := by kernel_rfl
/-- a slice of the call's own that holds some numbers -/
def OwnInts (B : Nat) (w : World) (v : Value) (ns : List Int) : Prop := w.ownsRow B 3 1 v ns.length (ns.map (Value.int .i64))
set_option maxRecDepth 100000 in
set_option maxHeartbeats 400000 in
theorem count_value (l : List UInt8) (style : Int) (w : World) (hL : Laid01 w) (hl : l.length ≤ 1000000) :
    Calls Tryz.prog 69 #[.string ⟨l.toArray⟩, .int .i64 style] w fun e w' => e = .returned (.tuple #[.int .i64 (Cnt.value l style).1, .int .i64 (Cnt.value l style).2]) ∧ Below w.heap.size w w' := by
  go_enter Tryz.func69, Tryz.ntmps69
  go_upto_block 0 with (first
    | (go_at_call 103; refine (count_digits _ _ (by unfold maxLen; simp [ByteArray.size]; omega)).mono ?_; rintro e w' ⟨rfl, rfl⟩))
  have hown0 : OwnInts w.heap.size (w.alloc (.cells #[.int .i64 (Cnt.digits l)] 3)) (.slice (some ⟨w.heap.size, 0, none⟩) 1 1) [Cnt.digits l] :=
    own_built w _ _ 1 1 [.int .i64 (Cnt.digits l)] (Nat.le_refl _) rfl (by unfold maxLen; omega)
  have hb0 : Below w.heap.size w (w.alloc (.cells #[.int .i64 (Cnt.digits l)] 3)) := (Below.refl _ _).alloc (Nat.le_refl _) _
  have hL0 := hL.below hb0
  obtain ⟨i0, hi, hz0, hz1, hz2⟩ := info_parts int_info
  have htr : Cnt.tries l style = Cnt.digits l :: (if style = 1 then [(Cnt.ofRoman l : Int)] else if style = 2 then [(Cnt.ofRoman (Lib.toLowerD l) : Int)] else if style = 3 then [Cnt.ofLetters l] else []) := rfl
  go_cut [6] (fun v wx => OwnInts w.heap.size wx v (Cnt.tries l style) ∧ Below w.heap.size w wx)
  case first =>
    have Hown0 := Lib.hid hown0; clear hown0
    have HB0 := Lib.hid hb0; clear hb0
    have HL0 := Lib.hid hL0; clear hL0
    by_cases h1 : style = 1
    · rw [if_pos h1] at htr
      have Htr := Lib.hid htr; clear htr
      have hs : (style == 1) = true := by simpa using h1
      clear h1
      go_wp2_with (first
        | (go_at_call 104; refine (count_ofRoman l _ (by unfold maxLen; omega) HL0.out.num).mono ?_; rintro e w1 ⟨rfl, b1⟩)
        | (at_builtin; go_loud (refine wpList_append1 rfl (.tmp 15) (.tmp 18) 22 rfl w.heap.size 3 i0 (.int .i64 0) 1 8 Tryz.underlying22 hi hz0 hz1 hz2 rfl (by decide) _ _ _ (own_below Hown0.out b1) rfl [.int .i64 (Cnt.ofRoman l)] rfl (by simp) rfl (by simp [Value.oneCell']) (by simp [maxLen]) (by simp) (bseq HB0.out b1).size ?_); intro v2 w2 own2 g2 at2))
      go_meet
      case rel => exact ⟨by rw [Htr.out]; exact own2, below_grown (bseq HB0.out b1) g2 (own_below Hown0.out b1) (bseq HB0.out b1).size (Nat.le_refl _)⟩
    · rw [if_neg h1] at htr
      have hs1 : (style == 1) = false := by simpa using h1
      clear h1
      by_cases h2 : style = 2
      · rw [if_pos h2] at htr
        have Htr := Lib.hid htr; clear htr
        have hs2 : (style == 2) = true := by simpa using h2
        clear h2
        have hlow : (Lib.toLowerD l).length ≤ maxLen := toLowerD_length l hl
        go_wp2_with (first
          | (go_at_call 105; refine (Tryz.strings_ToLower_any _ _ (by rw [size_mk]; omega) HL0.out.cas HL0.out.utf).mono ?_; rintro e w1 ⟨rfl, b1⟩)
          | (go_at_call 104; refine (count_ofRoman _ _ hlow (HL0.out.below b1).num).mono ?_; rintro e w3 ⟨rfl, b3⟩)
          | (at_builtin; go_loud (refine wpList_append1 rfl (.tmp 22) (.tmp 26) 22 rfl w.heap.size 3 i0 (.int .i64 0) 1 8 Tryz.underlying22 hi hz0 hz1 hz2 rfl (by decide) _ _ _ (own_below Hown0.out (bseq b1 b3)) rfl [.int .i64 (Cnt.ofRoman (Lib.toLowerD l))] rfl (by simp) rfl (by simp [Value.oneCell']) (by simp [maxLen]) (by simp) (bseq (bseq HB0.out b1) b3).size ?_); intro v2 w2 own2 g2 at2))
        go_meet
        case rel => exact ⟨by rw [Htr.out]; exact own2, below_grown (bseq (bseq HB0.out b1) b3) g2 (own_below Hown0.out (bseq b1 b3)) (bseq (bseq HB0.out b1) b3).size (Nat.le_refl _)⟩
      · rw [if_neg h2] at htr
        have hs2 : (style == 2) = false := by simpa using h2
        clear h2
        by_cases h3 : style = 3
        · rw [if_pos h3] at htr
          have Htr := Lib.hid htr; clear htr
          have hs3 : (style == 3) = true := by simpa using h3
          clear h3
          go_wp2_with (first
            | (go_at_call 106; refine (count_letters _ _ (by rw [size_mk]; unfold maxLen; omega)).mono ?_; rintro e w' ⟨rfl, rfl⟩)
            | (at_builtin; go_loud (refine wpList_append1 rfl (.tmp 30) (.tmp 33) 22 rfl w.heap.size 3 i0 (.int .i64 0) 1 8 Tryz.underlying22 hi hz0 hz1 hz2 rfl (by decide) _ _ _ Hown0.out rfl [.int .i64 (Cnt.ofLetters l)] rfl (by simp) rfl (by simp [Value.oneCell']) (by simp [maxLen]) (by simp) HB0.out.size ?_); intro v2 w2 own2 g2 at2))
          go_meet
          case rel => exact ⟨by rw [Htr.out]; exact own2, below_grown HB0.out g2 Hown0.out HB0.out.size (Nat.le_refl _)⟩
        · rw [if_neg h3] at htr
          have Htr := Lib.hid htr; clear htr
          have hs3 : (style == 3) = false := by simpa using h3
          clear h3
          go_wp2
          go_meet
          case rel => exact ⟨by rw [Htr.out]; exact Hown0.out, HB0.out⟩
  case rest =>
    obtain ⟨hown, hb⟩ := hcut
    have hn2 : (Cnt.tries l style).length ≤ 2 := by rw [htr]; simp only [List.length_cons]; (repeat' split) <;> simp
    have hne : 0 < (Cnt.tries l style).length := by rw [htr]; simp
    clear htr hown0 hb0 hL0 hi hz0 hz1 hz2
    obtain ⟨g, cap, hv, hgB, hgl⟩ := World.ownsRow.form hown hne
    obtain ⟨ts, hts⟩ : ∃ ts, ts = Cnt.tries l style := ⟨_, rfl⟩
    rw [← hts] at hown hn2 hne hv
    have Hts := Lib.hid hts; clear hts
    subst hv
    have Hown := Lib.hid hown; clear hown
    have HL := Lib.hid (hL.below hb); clear hL
    go_wp2_with fail
    go_loopw [37] (fun i wr => ∃ k : Nat, k ≤ ts.length ∧ i = .int .i64 k ∧ (ts.take k).find? (fun n => n == Cnt.cut n && Cnt.text n style == l) = none ∧ Below wc.heap.size wc wr) (fun i _ => ts.length - (intOf i).toNat)
    case atStart => exact ⟨0, Nat.zero_le _, rfl, rfl, Below.refl _ _⟩
    case round =>
      obtain ⟨k, hk, rfl, hno, hbr⟩ := hrel
      have Hno := Lib.hid hno; clear hno
      by_cases hlt : k < ts.length
      · obtain ⟨x, hx⟩ : ∃ x, ts[k]? = some x := ⟨_, List.getElem?_eq_getElem hlt⟩
        have e0 : wr.cell? ⟨g, k, none⟩ = some (.int .i64 x) := by
          have := World.ownsRow.cellAt Hown.out k (by omega)
          rw [(hbr.cell (p := ⟨g, k, none⟩) hgl).trans this]
          simp [hx]
        have hfind : ts.find? (fun n => n == Cnt.cut n && Cnt.text n style == l) = if (x == Cnt.cut x && Cnt.text x style == l) = true then some x else (ts.drop (k + 1)).find? (fun n => n == Cnt.cut n && Cnt.text n style == l) := by
          obtain ⟨hk', e⟩ := List.getElem?_eq_some_iff.1 hx
          conv => lhs; rw [← List.take_append_drop k ts, List.find?_append, Hno.out, Option.none_or, List.drop_eq_getElem_cons hk', e]
          rw [List.find?_cons]
          cases hp : (x == Cnt.cut x && Cnt.text x style == l) <;> rfl
        have hstep : (x == Cnt.cut x && Cnt.text x style == l) = false → (ts.take (k + 1)).find? (fun n => n == Cnt.cut n && Cnt.text n style == l) = none := by
          intro hf
          rw [List.take_add_one, hx, List.find?_append, Hno.out]
          simp [hf]
        have Hfind := Lib.hid hfind; clear hfind
        have Hstep := Lib.hid hstep; clear hstep
        have Hx := Lib.hid hx; clear hx
        have HLr := Lib.hid (HL.out.below hbr)
        have hlt' : (k : Int) < (ts.length : Int) := by omega
        cases hc1 : (x == Cnt.cut x)
        · go_wp2_with (go_at_call 93; refine (count_cut _ _).mono ?_; rintro e w' ⟨rfl, rfl⟩)
          go_roundw
          case rel => exact ⟨k + 1, by omega, by go_num, Hstep.out (by rw [hc1]; rfl), hbr⟩
          case measure => simp [intOf]; omega
        · cases hc2 : (Cnt.text x style == l)
          · go_wp2_with (first
              | (go_at_call 93; refine (count_cut _ _).mono ?_; rintro e w' ⟨rfl, rfl⟩)
              | (go_at_call 62; refine (count_text _ _ _ HLr.out).mono ?_; rintro e w3 ⟨rfl, b3⟩))
            go_roundw
            case rel => exact ⟨k + 1, by omega, by go_num, Hstep.out (by rw [hc1, hc2]; rfl), bseq hbr b3⟩
            case measure => simp [intOf]; omega
          · go_wp2_with (first
              | (go_at_call 93; refine (count_cut _ _).mono ?_; rintro e w' ⟨rfl, rfl⟩)
              | (go_at_call 62; refine (count_text _ _ _ HLr.out).mono ?_; rintro e w3 ⟨rfl, b3⟩))
            go_ret2
            refine ⟨?_, bseq hb (bseq hbr b3)⟩
            unfold Cnt.value
            rw [← Hts.out, Hfind.out, hc1, hc2]
            simp
      · go_wp2_with fail
        go_ret2
        refine ⟨?_, bseq hb hbr⟩
        have h := Hno.out
        rw [List.take_of_length_le (by omega)] at h
        unfold Cnt.value
        rw [← Hts.out, h]
        simp
end
end Go.Proofs.YthoblbdkmlggbaaGreatDoor
