/- The walks of package count, second part: numerals, and what is read of them. -/
import Derived.Test.YthoblbdkmlggbaaGreatDoorCntW
set_option linter.unusedSimpArgs false
set_option linter.unusedVariables false
namespace Go.Proofs.YthoblbdkmlggbaaGreatDoor
open Go.RowKit

set_option maxHeartbeats 400000 in
theorem count_ofRoman (l : List UInt8) (w : World) (hs : l.length ≤ maxLen) (hN : NumAt w) :
    Calls Tryz.prog 104 #[.string ⟨l.toArray⟩] w fun e w' => e = .returned (.int .i64 (Cnt.ofRoman l)) ∧ Below w.heap.size w w' := by
  unfold maxLen at hs
  obtain ⟨t, fr, hN⟩ := hN
  have hN' := Lib.hid hN; clear hN
  go_enter Tryz.func104, Tryz.ntmps104
  go_wp2_with (refine wpList_load_row rfl 165 _ rfl 1 rfl t numCells fr _ hN'.out Tryz.underlying165 rfl (by kernel_rfl) ?_)
  go_loopw [0, 3, 7] (fun x n i wr => ∃ (k m f : Nat) (l' : List UInt8), k ≤ 13 ∧ m ≤ 4999 ∧ l'.length ≤ 9223372036854775807 ∧ x = .string ⟨l'.toArray⟩ ∧ n = .int .i64 m ∧ i = .int .i64 k ∧ l'.length + (13 - k) ≤ f ∧ Cnt.ofRomGo f (Cnt.numerals.drop k) m l' = Cnt.ofRoman l ∧ Below w.heap.size w wr) (fun _ _ i _ => 13 - (intOf i).toNat)
  case atStart => exact ⟨0, 0, l.length + 13, l, by omega, by omega, by omega, rfl, rfl, rfl, by omega, rfl, Below.refl _ _⟩
  case round =>
    obtain ⟨k, m, f, l', hk, hm, hl, rfl, rfl, rfl, hf, he, hb⟩ := hrel
    have He := Lib.hid he; clear he
    by_cases hlt : k < 13
    · obtain ⟨p, hp⟩ : ∃ p, Cnt.numerals[k]? = some p := ⟨_, List.getElem?_eq_getElem (by simpa [Cnt.numerals] using hlt)⟩
      have hpp := numerals_pos p (List.mem_of_getElem? hp)
      have hidx := num_index k p hp
      have hdr : Cnt.numerals.drop k = p :: Cnt.numerals.drop (k + 1) := by
        obtain ⟨hk', e⟩ := List.getElem?_eq_some_iff.1 hp
        rw [List.drop_eq_getElem_cons hk', e]
      have Hp := Lib.hid hp; clear hp
      have Hdr := Lib.hid hdr; clear hdr
      have hl' := hl; have hm' := hm; have hf' := hf
      have hk8 : decide ((k : Int) < 13) = true := by simp; omega
      go_wp2_with fail
      go_loop [0, 3] (fun x n => ∃ (m f : Nat) (l' : List UInt8), m ≤ 4999 ∧ l'.length ≤ 9223372036854775807 ∧ x = .string ⟨l'.toArray⟩ ∧ n = .int .i64 m ∧ l'.length + (13 - k) ≤ f ∧ Cnt.ofRomGo f (p :: Cnt.numerals.drop (k + 1)) m l' = Cnt.ofRoman l) (fun x _ => strLen x)
      case atStart => exact ⟨m, f, l', hm', hl', rfl, rfl, hf', by rw [← Hdr.out]; exact He.out⟩
      case round =>
        obtain ⟨m, f, l', hm, hl, rfl, rfl, hf, he⟩ := hrel
        obtain ⟨f, rfl⟩ : ∃ g, f = g + 1 := ⟨f - 1, by omega⟩
        rw [Cnt.ofRomGo] at he
        by_cases hc : Lib.hasPrefix l' p.2 = true ∧ m ≤ 3999
        · rw [if_pos hc] at he
          have He := Lib.hid he; clear he
          obtain ⟨hc1, hc2⟩ := hc
          have hple : p.2.length ≤ l'.length := List.IsPrefix.length_le (List.isPrefixOf_iff_prefix.1 hc1)
          go_wp2_with (go_at_call 141; refine (Tryz.strings_HasPrefix _ _ _).mono ?_; rintro e w' ⟨rfl, rfl⟩)
          go_round
          case rel => exact ⟨m + p.1, f, l'.drop p.2.length, by omega, by simp; omega, congrArg Value.string (extract_end _ _), by go_num, by simp; omega, He.out⟩
          case measure => rw [extract_end]; simp [strLen, ByteArray.size]; omega
        · rw [if_neg hc] at he
          have He := Lib.hid he; clear he
          cases hc1 : Lib.hasPrefix l' p.2
          · go_wp2_with (go_at_call 141; refine (Tryz.strings_HasPrefix _ _ _).mono ?_; rintro e w' ⟨rfl, rfl⟩)
            go_roundw
            case rel => exact ⟨k + 1, m, f, l', by omega, hm, hl, rfl, rfl, by go_num, by omega, He.out, hb.alloc hb.size _⟩
            case measure => simp [intOf]; omega
          · have hc2 : (3999 : Int) < (m : Int) := by
              rcases Nat.lt_or_ge 3999 m with h | h
              · omega
              · exact absurd ⟨hc1, h⟩ hc
            clear hc
            go_wp2_with (go_at_call 141; refine (Tryz.strings_HasPrefix _ _ _).mono ?_; rintro e w' ⟨rfl, rfl⟩)
            go_roundw
            case rel => exact ⟨k + 1, m, f, l', by omega, hm, hl, rfl, rfl, by go_num, by omega, He.out, hb.alloc hb.size _⟩
            case measure => simp [intOf]; omega
    · go_wp2_with fail
      go_ret
      refine ⟨ret_int ?_, hb⟩
      have h := He.out
      rw [show k = 13 by omega] at h
      rw [← h]
      cases f <;> simp [Cnt.numerals, Cnt.ofRomGo]

theorem romanGo_length : ∀ (ps : List (Nat × List UInt8)) (n : Nat), (∀ p ∈ ps, p.2.length ≤ p.1) → (Cnt.romanGo ps n).length ≤ n
  | [], n, _ => by simp [Cnt.romanGo]
  | p :: ps, n, h => by
    have h1 := h p (by simp)
    have h2 := romanGo_length ps (n % p.1) (fun q hq => h q (by simp [hq]))
    have h3 : n / p.1 * p.2.length ≤ n / p.1 * p.1 := Nat.mul_le_mul_left _ h1
    have h4 := Nat.div_add_mod n p.1
    rw [Nat.mul_comm] at h4
    simp [Cnt.romanGo, List.length_flatten]
    omega
theorem roman_length (n : Nat) : (Cnt.roman n).length ≤ n := romanGo_length _ _ (by decide)
theorem byteCells_append (a b : List UInt8) : Lib.byteCells a ++ Lib.byteCells b = Lib.byteCells (a ++ b) := by simp [Lib.byteCells]

set_option maxHeartbeats 400000 in
theorem count_roman (n : Nat) (w : World) (hn : n ≤ 999999) (hN : NumAt w) :
    Calls Tryz.prog 95 #[.int .i64 (n : Int)] w fun e w' => e = .returned (.string ⟨(Cnt.roman n).toArray⟩) ∧ Below w.heap.size w w' := by
  have hle := roman_length n
  have hN0 := hN
  obtain ⟨t, fr, hN⟩ := hN0
  have hg : 1 < w.heap.size := (Array.getElem?_eq_some_iff.1 hN).1
  have hF := Lib.IsBuilderF.of (Lib.fresh_isBuilder 102 5 w)
  have HF := Lib.hid hF; clear hF
  have hN' : (w.alloc (.cells #[.pointer none, .slice none 0 0] 102)).heap[(1 : Nat)]? = some (.cells numCells t fr) := (Below.heap_alloc w _ _ hg).trans hN
  have HN := Lib.hid hN'; clear hN' hN
  go_enter Tryz.func95, Tryz.ntmps95
  go_wp2_with (refine wpList_load_row rfl 165 _ rfl 1 rfl t numCells fr _ HN.out Tryz.underlying165 rfl (by kernel_rfl) ?_)
  go_loopw [0, 7] (fun x i wr => ∃ (k m : Nat) (acc : List UInt8), k ≤ 13 ∧ m ≤ 999999 ∧ x = .int .i64 m ∧ i = .int .i64 k ∧ acc ++ Cnt.romanGo (Cnt.numerals.drop k) m = Cnt.roman n ∧ Lib.IsBuilderF 102 5 w.heap.size w.heap.size (Lib.byteCells acc) wr ∧ Below w.heap.size w wr ∧ w.heap.size < wr.heap.size) (fun _ i _ => 13 - (intOf i).toNat)
  case atStart => exact ⟨0, n, [], by omega, by omega, rfl, rfl, rfl, HF.out, (Below.refl _ _).alloc (Nat.le_refl _) _, by simp⟩
  case round =>
    obtain ⟨k, m, acc, hk, hm, rfl, rfl, he, hI, hb, hz⟩ := hrel
    have He := Lib.hid he; clear he
    by_cases hlt : k < 13
    · obtain ⟨p, hp⟩ : ∃ p, Cnt.numerals[k]? = some p := ⟨_, List.getElem?_eq_getElem (by simpa [Cnt.numerals] using hlt)⟩
      have hpp := numerals_pos p (List.mem_of_getElem? hp)
      have hidx := num_index k p hp
      have hdr : Cnt.numerals.drop k = p :: Cnt.numerals.drop (k + 1) := by
        obtain ⟨hk', e⟩ := List.getElem?_eq_some_iff.1 hp
        rw [List.drop_eq_getElem_cons hk', e]
      have Hp := Lib.hid hp; clear hp
      have Hdr := Lib.hid hdr; clear hdr
      have hk8 : decide ((k : Int) < 13) = true := by simp; omega
      have hIa : Lib.IsBuilderF 102 5 w.heap.size w.heap.size (Lib.byteCells acc) (wr.alloc (.cells #[.int .i64 (p.1 : Int), .string ⟨p.2.toArray⟩] 164)) := hI.alloc _
      have hba : Below w.heap.size w (wr.alloc (.cells #[.int .i64 (p.1 : Int), .string ⟨p.2.toArray⟩] 164)) := hb.alloc hb.size _
      have hpa : (wr.alloc (.cells #[.int .i64 (p.1 : Int), .string ⟨p.2.toArray⟩] 164)).heap[wr.heap.size]? = some (.cells #[.int .i64 (p.1 : Int), .string ⟨p.2.toArray⟩] 164) := heap_alloc_new wr _
      have HI := Lib.hid hIa; clear hIa hI
      have HP := Lib.hid hpa; clear hpa
      have HB := Lib.hid hba; clear hba
      have hbs := hb.size
      clear hb
      have hm' := hm
      go_wp2_with fail
      go_loopw [0] (fun x wi => ∃ (m : Nat) (acc : List UInt8), m ≤ 999999 ∧ x = .int .i64 m ∧ acc ++ Cnt.romanGo (p :: Cnt.numerals.drop (k + 1)) m = Cnt.roman n ∧ Lib.IsBuilderF 102 5 w.heap.size w.heap.size (Lib.byteCells acc) wi ∧ Below w.heap.size w wi ∧ wr.heap.size < wi.heap.size ∧ wi.heap[wr.heap.size]? = some (.cells #[.int .i64 (p.1 : Int), .string ⟨p.2.toArray⟩] 164)) (fun x _ => (intOf x).toNat)
      case atStart => exact ⟨m, acc, hm', rfl, by rw [← Hdr.out]; exact He.out, HI.out, HB.out, by simp, HP.out⟩
      case round =>
        rename_i wi
        obtain ⟨m, acc, hm, rfl, he, hI, hb, hz2, hp2⟩ := hrel
        have c0 := cell_of_row _ _ 0 _ _ _ hp2
        have c1 := cell_of_row _ _ 1 _ _ _ hp2
        have hal : acc.length ≤ 999999 := by
          have := congrArg List.length he
          simp at this; omega
        have HP2 := Lib.hid hp2; clear hp2
        by_cases hc : p.1 ≤ m
        · rw [Cnt.romanGo_step p _ m hpp.1 hc] at he
          have He2 := Lib.hid he; clear he
          have hps : p.2.length ≤ 2 := hpp.2.2.2
          go_wp2_with fail
          refine (Tryz.Builder_WriteString_k _ _ _ _ _ hI (by rw [Lib.byteCells_length]; simp [ByteArray.size]; omega) hb.size).mono ?_
          rintro e w2 ⟨rfl, h2, b2, k2⟩
          have hp3 := k2 _ _ HP2.out (fun e => by injection e with e; omega) (fun c fz e => by injection e with _ e; exact absurd e (by decide))
          have d0 := cell_of_row _ _ 0 _ _ _ hp3
          have d1 := cell_of_row _ _ 1 _ _ _ hp3
          have HP3 := Lib.hid hp3; clear hp3
          have hb3 := hb.trans b2
          have hz3 := b2
          go_wp2_with fail
          go_roundw
          case rel => exact ⟨m - p.1, acc ++ p.2, by omega, by congr 1; omega, by rw [List.append_assoc]; exact He2.out, .inr (by rw [← byteCells_append]; exact h2), hb3, by have := b2.size; omega, HP3.out⟩
          case measure => simp [intOf]; omega
        · rw [Cnt.romanGo_skip p _ m (by omega)] at he
          have He2 := Lib.hid he; clear he
          go_wp2_with fail
          go_roundw
          case rel => exact ⟨k + 1, m, acc, by omega, hm, rfl, by go_num, He2.out, hI, hb, by omega⟩
          case measure => simp [intOf]; omega
    · go_wp2_with (go_at_call 65; refine (Tryz.Builder_String_any_k _ _ _ _ hI hb.size).mono ?_; rintro e w' ⟨rfl, h1, b1, k1⟩)
      go_ret
      have hE := He.out
      rw [show k = 13 by omega] at hE
      refine ⟨ret_str (by simpa [Cnt.numerals, Cnt.romanGo] using hE), hb.trans b1⟩
end Go.Proofs.YthoblbdkmlggbaaGreatDoor
