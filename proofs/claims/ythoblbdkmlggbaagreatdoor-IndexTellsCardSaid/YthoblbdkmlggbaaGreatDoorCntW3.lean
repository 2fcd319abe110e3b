/- The walks of package count, third part: a counter's text, and the counter that a text is. -/
import Derived.Test.YthoblbdkmlggbaaGreatDoorCntW2
import Derived.Lib.AppendIntMem


set_option linter.unusedSimpArgs false
set_option linter.unusedVariables false
namespace Go.Proofs.YthoblbdkmlggbaaGreatDoor
open Go.RowKit

/-- what the package-level variables hold that counters' texts lean on -/
structure Laid01 (w : World) : Prop where
  num : NumAt w
  pow : Lib.TabIs Tryz.prog w "internal/strconv.uint64pow10" .u64 Lib.pow10Tab
  cas : Lib.CaseVar 4 Lib.caseA w
  utf : Lib.Utf8Tabs 5 6 w

theorem Laid01.below {w w' : World} (h : Laid01 w) (hb : Below w.heap.size w w') : Laid01 w' := by
  refine ⟨h.num.below hb, ?_, Lib.CaseVar_below h.cas hb, ?_⟩
  · have hp := h.pow
    unfold Lib.TabIs at hp ⊢
    refine var?_below hb (show Tryz.prog.globalNamed "internal/strconv.uint64pow10" = some 3 by kernel_rfl) ?_ hp
    unfold World.var? at hp
    simp only [show Tryz.prog.globalNamed "internal/strconv.uint64pow10" = some 3 by kernel_rfl, Option.bind_some] at hp
    rcases Nat.lt_or_ge 3 w.heap.size with h1 | h1
    · exact h1
    · rw [Array.getElem?_eq_none h1] at hp; simp at hp
  · obtain ⟨h1, h2⟩ := h.utf
    refine ⟨fun c hc => ?_, fun i hi => ⟨?_, ?_⟩⟩
    · have := h1 c hc; exact (hb.cell (World.block_lt_of_cell? w _ this)).trans this
    · have := (h2 i hi).1; exact (hb.cell (World.block_lt_of_cell? w _ this)).trans this
    · have := (h2 i hi).2; exact (hb.cell (World.block_lt_of_cell? w _ this)).trans this

theorem std_itoa (n : Int) (w : World) (hL : Laid01 w) (h0 : -9223372036854775808 ≤ n) (h1 : n ≤ 9223372036854775807) :
    Calls Tryz.prog 40 #[.int .i64 n] w fun e w' => e = .returned (.string ⟨(Lib.itoa n).toArray⟩) ∧ Below w.heap.size w w' :=
  (Tryz.strconv_Itoa n h0 h1 w hL.pow).mono fun e w' ⟨he, k, os, hw⟩ => ⟨he, by rw [hw]; exact Lib.below_grow _ _ (Nat.le_refl _) _ _⟩

theorem roman_ascii (n : Nat) : ∀ b ∈ Cnt.roman n, b.toNat < 128 := by
  have h : ∀ (ps : List (Nat × List UInt8)) (n : Nat), (∀ p ∈ ps, ∀ b ∈ p.2, b.toNat < 128) → ∀ b ∈ Cnt.romanGo ps n, b.toNat < 128 := by
    intro ps
    induction ps with
    | nil => intro n _ b hb; simp [Cnt.romanGo] at hb
    | cons p ps ih =>
      intro n hp b hb
      simp only [Cnt.romanGo, List.mem_append, List.mem_flatten, List.mem_replicate] at hb
      rcases hb with ⟨l, ⟨_, rfl⟩, hb⟩ | hb
      · exact hp p (by simp) b hb
      · exact ih _ (fun q hq => hp q (by simp [hq])) b hb
  exact h _ n (by decide)

set_option maxHeartbeats 400000 in
theorem count_text (n style : Int) (w : World) (hL : Laid01 w) :
    Calls Tryz.prog 62 #[.int .i64 n, .int .i64 style] w fun e w' => e = .returned (.string ⟨(Cnt.text n style).toArray⟩) ∧ Below w.heap.size w w' := by
  have c0 := Cnt.cut_lo n
  have c1 := Cnt.cut_hi n
  obtain ⟨c, hc⟩ : ∃ c : Nat, Cnt.cut n = (c : Int) := ⟨(Cnt.cut n).toNat, by omega⟩
  have hc1 : c ≤ 999999 := by omega
  have Hc := Lib.hid hc; clear hc c0 c1
  have HL := Lib.hid hL; clear hL
  go_enter Tryz.func62, Tryz.ntmps62
  go_wp2_with (first
    | (go_at_call 93; refine (count_cut _ _).mono ?_; rintro e w' ⟨rfl, rfl⟩; rw [Hc.out])
    | (go_at_call 95; refine (count_roman c _ hc1 HL.out.num).mono ?_; rintro e w1 ⟨rfl, b1⟩)
    | (go_at_call 94; refine (Tryz.strings_ToUpper_ascii _ _ (by have := roman_length c; simp [ByteArray.size]; omega) (fun j b hj => roman_ascii c b (List.mem_of_getElem? hj))).mono ?_; rintro e w2 ⟨rfl, b2⟩)
    | (go_at_call 96; refine (count_lettered c _ hc1).mono ?_; rintro e w' ⟨rfl, rfl⟩)
    | (go_at_call 40; refine (std_itoa _ _ HL.out (by omega) (by omega)).mono ?_; rintro e w3 ⟨rfl, b3⟩))
  all_goals
    go_ret
    refine ⟨ret_str ?_, ?_⟩
    · unfold Cnt.text
      rw [Hc.out]
      repeat (first | rw [if_pos (by omega)] | rw [if_neg (by omega)])
      try simp
    · first | exact bseq b1 b2 | exact b1 | exact b3 | exact Below.refl _ _

theorem encodeRune_length (r : Int) : (Lib.encodeRune r).length ≤ 4 := by
  unfold Lib.encodeRune Lib.encodeRuneZ
  rw [List.length_map]
  (repeat' split) <;> simp
theorem mapGoD_length (f : Int → Int) : ∀ (n : Nat) (l : List UInt8), (Lib.mapGoD f n l).length ≤ 4 * n
  | 0, l => by simp [Lib.mapGoD]
  | n + 1, l => by
    have h1 := mapGoD_length f n (l.drop (Lib.decodeL l).2)
    have h2 := encodeRune_length (f (Lib.decodeL l).1)
    simp only [Lib.mapGoD]
    split
    · simp
    · rw [List.length_append]
      split
      · omega
      · simp; omega
theorem toLowerD_length (l : List UInt8) (h : l.length ≤ 1000000) : (Lib.toLowerD l).length ≤ maxLen := by
  have := mapGoD_length Lib.toLowerU l.length l
  unfold Lib.toLowerD Lib.mapD maxLen
  omega
theorem int_info : (Tryz.prog.info? 3).map (fun i => (i.zero, i.size, i.bytes)) = some (some (.int .i64 0), 1, 8) := by kernel_rfl
/-- a slice of the call's own that holds some numbers -/
def OwnInts (B : Nat) (w : World) (v : Value) (ns : List Int) : Prop := w.ownsRow B 3 1 v ns.length (ns.map (Value.int .i64))
set_option maxRecDepth 100000 in
set_option maxHeartbeats 400000 in
theorem count_value (l : List UInt8) (style : Int) (w : World) (hL : Laid01 w) (hl : l.length ≤ 1000000) :
    Calls Tryz.prog 69 #[.string ⟨l.toArray⟩, .int .i64 style] w fun e w' => e = .returned (.tuple #[.int .i64 (Cnt.value l style).1, .int .i64 (Cnt.value l style).2]) ∧ Below w.heap.size w w' := by
  go_enter Tryz.func69, Tryz.ntmps69
  go_upto_block 0 with (first
    | (go_at_call 103; refine (count_digits _ _ (by unfold maxLen; simp [ByteArray.size]; omega)).mono ?_; rintro e w' ⟨rfl, rfl⟩))
  have hown0 : OwnInts w.heap.size (w.alloc (.cells #[.int .i64 (Cnt.digits l)] 3)) (.slice (some ⟨w.heap.size, 0, none⟩) 1 1) [Cnt.digits l] :=
    own_built w _ _ 1 1 [.int .i64 (Cnt.digits l)] (Nat.le_refl _) rfl (by unfold maxLen; omega)
  have hb0 : Below w.heap.size w (w.alloc (.cells #[.int .i64 (Cnt.digits l)] 3)) := (Below.refl _ _).alloc (Nat.le_refl _) _
  have hL0 := hL.below hb0
  obtain ⟨i0, hi, hz0, hz1, hz2⟩ := info_parts int_info
  have htr : Cnt.tries l style = Cnt.digits l :: (if style = 1 then [(Cnt.ofRoman l : Int)] else if style = 2 then [(Cnt.ofRoman (Lib.toLowerD l) : Int)] else if style = 3 then [Cnt.ofLetters l] else []) := rfl
  go_cut [6] (fun v wx => OwnInts w.heap.size wx v (Cnt.tries l style) ∧ Below w.heap.size w wx)
  case first =>
    have Hown0 := Lib.hid hown0; clear hown0
    have HB0 := Lib.hid hb0; clear hb0
    have HL0 := Lib.hid hL0; clear hL0
    by_cases h1 : style = 1
    · rw [if_pos h1] at htr
      have Htr := Lib.hid htr; clear htr
      have hs : (style == 1) = true := by simpa using h1
      clear h1
      go_wp2_with (first
        | (go_at_call 104; refine (count_ofRoman l _ (by unfold maxLen; omega) HL0.out.num).mono ?_; rintro e w1 ⟨rfl, b1⟩)
        | (at_builtin; go_loud (refine wpList_append1 rfl (.tmp 15) (.tmp 18) 22 rfl w.heap.size 3 i0 (.int .i64 0) 1 8 Tryz.underlying22 hi hz0 hz1 hz2 rfl (by decide) _ _ _ (own_below Hown0.out b1) rfl [.int .i64 (Cnt.ofRoman l)] rfl (by simp) rfl (by simp [Value.oneCell']) (by simp [maxLen]) (by simp) (bseq HB0.out b1).size ?_); intro v2 w2 own2 g2 at2))
      go_meet
      case rel => exact ⟨by rw [Htr.out]; exact own2, below_grown (bseq HB0.out b1) g2 (own_below Hown0.out b1) (bseq HB0.out b1).size (Nat.le_refl _)⟩
    · rw [if_neg h1] at htr
      have hs1 : (style == 1) = false := by simpa using h1
      clear h1
      by_cases h2 : style = 2
      · rw [if_pos h2] at htr
        have Htr := Lib.hid htr; clear htr
        have hs2 : (style == 2) = true := by simpa using h2
        clear h2
        have hlow : (Lib.toLowerD l).length ≤ maxLen := toLowerD_length l hl
        go_wp2_with (first
          | (go_at_call 105; refine (Tryz.strings_ToLower_any _ _ (by rw [size_mk]; omega) HL0.out.cas HL0.out.utf).mono ?_; rintro e w1 ⟨rfl, b1⟩)
          | (go_at_call 104; refine (count_ofRoman _ _ hlow (HL0.out.below b1).num).mono ?_; rintro e w3 ⟨rfl, b3⟩)
          | (at_builtin; go_loud (refine wpList_append1 rfl (.tmp 22) (.tmp 26) 22 rfl w.heap.size 3 i0 (.int .i64 0) 1 8 Tryz.underlying22 hi hz0 hz1 hz2 rfl (by decide) _ _ _ (own_below Hown0.out (bseq b1 b3)) rfl [.int .i64 (Cnt.ofRoman (Lib.toLowerD l))] rfl (by simp) rfl (by simp [Value.oneCell']) (by simp [maxLen]) (by simp) (bseq (bseq HB0.out b1) b3).size ?_); intro v2 w2 own2 g2 at2))
        go_meet
        case rel => exact ⟨by rw [Htr.out]; exact own2, below_grown (bseq (bseq HB0.out b1) b3) g2 (own_below Hown0.out (bseq b1 b3)) (bseq (bseq HB0.out b1) b3).size (Nat.le_refl _)⟩
      · rw [if_neg h2] at htr
        have hs2 : (style == 2) = false := by simpa using h2
        clear h2
        by_cases h3 : style = 3
        · rw [if_pos h3] at htr
          have Htr := Lib.hid htr; clear htr
          have hs3 : (style == 3) = true := by simpa using h3
          clear h3
          go_wp2_with (first
            | (go_at_call 106; refine (count_letters _ _ (by rw [size_mk]; unfold maxLen; omega)).mono ?_; rintro e w' ⟨rfl, rfl⟩)
            | (at_builtin; go_loud (refine wpList_append1 rfl (.tmp 30) (.tmp 33) 22 rfl w.heap.size 3 i0 (.int .i64 0) 1 8 Tryz.underlying22 hi hz0 hz1 hz2 rfl (by decide) _ _ _ Hown0.out rfl [.int .i64 (Cnt.ofLetters l)] rfl (by simp) rfl (by simp [Value.oneCell']) (by simp [maxLen]) (by simp) HB0.out.size ?_); intro v2 w2 own2 g2 at2))
          go_meet
          case rel => exact ⟨by rw [Htr.out]; exact own2, below_grown HB0.out g2 Hown0.out HB0.out.size (Nat.le_refl _)⟩
        · rw [if_neg h3] at htr
          have Htr := Lib.hid htr; clear htr
          have hs3 : (style == 3) = false := by simpa using h3
          clear h3
          go_wp2
          go_meet
          case rel => exact ⟨by rw [Htr.out]; exact Hown0.out, HB0.out⟩
  case rest =>
    obtain ⟨hown, hb⟩ := hcut
    have hn2 : (Cnt.tries l style).length ≤ 2 := by rw [htr]; simp only [List.length_cons]; (repeat' split) <;> simp
    have hne : 0 < (Cnt.tries l style).length := by rw [htr]; simp
    clear htr hown0 hb0 hL0 hi hz0 hz1 hz2
    obtain ⟨g, cap, hv, hgB, hgl⟩ := World.ownsRow.form hown hne
    obtain ⟨ts, hts⟩ : ∃ ts, ts = Cnt.tries l style := ⟨_, rfl⟩
    rw [← hts] at hown hn2 hne hv
    have Hts := Lib.hid hts; clear hts
    subst hv
    have Hown := Lib.hid hown; clear hown
    have HL := Lib.hid (hL.below hb); clear hL
    go_wp2_with fail
    go_loopw [37] (fun i wr => ∃ k : Nat, k ≤ ts.length ∧ i = .int .i64 k ∧ (ts.take k).find? (fun n => n == Cnt.cut n && Cnt.text n style == l) = none ∧ Below wc.heap.size wc wr) (fun i _ => ts.length - (intOf i).toNat)
    case atStart => exact ⟨0, Nat.zero_le _, rfl, rfl, Below.refl _ _⟩
    case round =>
      obtain ⟨k, hk, rfl, hno, hbr⟩ := hrel
      have Hno := Lib.hid hno; clear hno
      by_cases hlt : k < ts.length
      · obtain ⟨x, hx⟩ : ∃ x, ts[k]? = some x := ⟨_, List.getElem?_eq_getElem hlt⟩
        have e0 : wr.cell? ⟨g, k, none⟩ = some (.int .i64 x) := by
          have := World.ownsRow.cellAt Hown.out k (by omega)
          rw [(hbr.cell (p := ⟨g, k, none⟩) hgl).trans this]
          simp [hx]
        have hfind : ts.find? (fun n => n == Cnt.cut n && Cnt.text n style == l) = if (x == Cnt.cut x && Cnt.text x style == l) = true then some x else (ts.drop (k + 1)).find? (fun n => n == Cnt.cut n && Cnt.text n style == l) := by
          obtain ⟨hk', e⟩ := List.getElem?_eq_some_iff.1 hx
          conv => lhs; rw [← List.take_append_drop k ts, List.find?_append, Hno.out, Option.none_or, List.drop_eq_getElem_cons hk', e]
          rw [List.find?_cons]
          cases hp : (x == Cnt.cut x && Cnt.text x style == l) <;> rfl
        have hstep : (x == Cnt.cut x && Cnt.text x style == l) = false → (ts.take (k + 1)).find? (fun n => n == Cnt.cut n && Cnt.text n style == l) = none := by
          intro hf
          rw [List.take_add_one, hx, List.find?_append, Hno.out]
          simp [hf]
        have Hfind := Lib.hid hfind; clear hfind
        have Hstep := Lib.hid hstep; clear hstep
        have Hx := Lib.hid hx; clear hx
        have HLr := Lib.hid (HL.out.below hbr)
        have hlt' : (k : Int) < (ts.length : Int) := by omega
        cases hc1 : (x == Cnt.cut x)
        · go_wp2_with (go_at_call 93; refine (count_cut _ _).mono ?_; rintro e w' ⟨rfl, rfl⟩)
          go_roundw
          case rel => exact ⟨k + 1, by omega, by go_num, Hstep.out (by rw [hc1]; rfl), hbr⟩
          case measure => simp [intOf]; omega
        · cases hc2 : (Cnt.text x style == l)
          · go_wp2_with (first
              | (go_at_call 93; refine (count_cut _ _).mono ?_; rintro e w' ⟨rfl, rfl⟩)
              | (go_at_call 62; refine (count_text _ _ _ HLr.out).mono ?_; rintro e w3 ⟨rfl, b3⟩))
            go_roundw
            case rel => exact ⟨k + 1, by omega, by go_num, Hstep.out (by rw [hc1, hc2]; rfl), bseq hbr b3⟩
            case measure => simp [intOf]; omega
          · go_wp2_with (first
              | (go_at_call 93; refine (count_cut _ _).mono ?_; rintro e w' ⟨rfl, rfl⟩)
              | (go_at_call 62; refine (count_text _ _ _ HLr.out).mono ?_; rintro e w3 ⟨rfl, b3⟩))
            go_ret2
            refine ⟨?_, bseq hb (bseq hbr b3)⟩
            unfold Cnt.value
            rw [← Hts.out, Hfind.out, hc1, hc2]
            simp
      · go_wp2_with fail
        go_ret2
        refine ⟨?_, bseq hb hbr⟩
        have h := Hno.out
        rw [List.take_of_length_le (by omega)] at h
        unfold Cnt.value
        rw [← Hts.out, h]
        simp
end Go.Proofs.YthoblbdkmlggbaaGreatDoor
