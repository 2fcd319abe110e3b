/- The walks of the reference of layer 1, second part: ten, roman, Text, read, Value. The walks of the reference of layer 1, third part: roman. The walks of the reference of layer 1, fourth part: Text and read. The reference's numerals and digits are the model's texts: looked through by the kernel. Plain Lean. The walk of the reference of layer 1, fifth part: Value. -/
import Derived.Test.YthoblbdkmlggbaaGreatDoorRefA
set_option linter.unusedSimpArgs false
set_option linter.unusedVariables false
namespace Go.Proofs.YthoblbdkmlggbaaGreatDoor
section
open Go.RowKit

/-- a digit's numeral -/
def tenR (r : Nat) (one five ten : List UInt8) : List UInt8 :=
  match r with
  | 0 => [] | 1 => one | 2 => one ++ one | 3 => one ++ one ++ one | 4 => one ++ five | 5 => five | 6 => five ++ one | 7 => five ++ one ++ one | 8 => five ++ one ++ one ++ one | _ => one ++ ten
def tenS (d : Nat) (one five ten : List UInt8) : List UInt8 := tenR (d % 10) one five ten

set_option maxRecDepth 100000 in
set_option maxHeartbeats 1000000 in
theorem ref01_ten (d : Nat) (one five ten : List UInt8) (w : World) (hd : d ≤ 4000) (h1 : one.length ≤ 1) (h5 : five.length ≤ 1) (h10 : ten.length ≤ 1) :
    Calls Tryz.prog 172 #[.int .i64 (d : Int), .string ⟨one.toArray⟩, .string ⟨five.toArray⟩, .string ⟨ten.toArray⟩] w fun e w' => e = .returned (.string ⟨(tenS d one five ten).toArray⟩) ∧ Below w.heap.size w w' := by
  obtain ⟨r, hr⟩ : ∃ r, d % 10 = r := ⟨_, rfl⟩
  have hrd : (d : Int) % 10 = (r : Int) := by omega
  have hr10 : r < 10 := by omega
  have ht : tenS d one five ten = tenR r one five ten := by unfold tenS; rw [hr]
  have HT := Lib.hid ht
  clear hr ht
  match r, hr10 with
  | 0, _ | 1, _ | 2, _ | 3, _ | 4, _ | 5, _ | 6, _ | 7, _ | 8, _ | 9, _ =>
    go_enter Tryz.func172, Tryz.ntmps172
    go_wp2_with fail
    go_ret
    refine ⟨?_, (Below.refl _ _).alloc (Nat.le_refl _) _⟩
    rw [HT.out]
    simp only [append_data, tenR]
    rfl
end
section
open Go.RowKit

theorem tenS_length (d : Nat) (one five ten : List UInt8) (h1 : one.length ≤ 1) (h5 : five.length ≤ 1) (h10 : ten.length ≤ 1) : (tenS d one five ten).length ≤ 4 := by
  unfold tenS tenR
  split <;> (try simp) <;> omega
/-- a slice of the call's own that holds some texts -/
def OwnStrs (B : Nat) (w : World) (v : Value) (ls : List (List UInt8)) : Prop := w.ownsRow B 9 1 v ls.length (ls.map fun l => Value.string ⟨l.toArray⟩)
theorem string_info : (Tryz.prog.info? 9).map (fun i => (i.zero, i.size, i.bytes)) = some (some (.string ⟨#[]⟩), 1, 16) := by kernel_rfl
/-- the reference's numeral by signs -/
def romanS (n : Nat) (g : List UInt8) : List UInt8 :=
  tenS (n / 1000) [g[6]!] [] [] ++ tenS (n / 100) [g[4]!] [g[5]!] [g[6]!] ++ tenS (n / 10) [g[2]!] [g[3]!] [g[4]!] ++ tenS n [g[0]!] [g[1]!] [g[2]!]

/-- seven texts of one byte each in a row, of the call's own -/
abbrev Seven (w W : World) (g : Nat) (c0 c1 c2 c3 c4 c5 c6 : UInt8) : Prop :=
  W.cell? ⟨g, 0, none⟩ = some (.string ⟨[c0].toArray⟩) ∧ W.cell? ⟨g, 1, none⟩ = some (.string ⟨[c1].toArray⟩) ∧ W.cell? ⟨g, 2, none⟩ = some (.string ⟨[c2].toArray⟩) ∧ W.cell? ⟨g, 3, none⟩ = some (.string ⟨[c3].toArray⟩) ∧ W.cell? ⟨g, 4, none⟩ = some (.string ⟨[c4].toArray⟩) ∧ W.cell? ⟨g, 5, none⟩ = some (.string ⟨[c5].toArray⟩) ∧ W.cell? ⟨g, 6, none⟩ = some (.string ⟨[c6].toArray⟩) ∧ g < W.heap.size ∧ Below w.heap.size w W
theorem seven_below {w W W' : World} {g : Nat} {c0 c1 c2 c3 c4 c5 c6 : UInt8} (h : Seven w W g c0 c1 c2 c3 c4 c5 c6) (b : Below W.heap.size W W') : Seven w W' g c0 c1 c2 c3 c4 c5 c6 := by
  obtain ⟨h0, h1, h2, h3, h4, h5, h6, hl, hb⟩ := h
  exact ⟨(b.cell hl).trans h0, (b.cell hl).trans h1, (b.cell hl).trans h2, (b.cell hl).trans h3, (b.cell hl).trans h4, (b.cell hl).trans h5, (b.cell hl).trans h6, Nat.lt_of_lt_of_le hl b.size, bseq hb b⟩

set_option maxRecDepth 100000 in
set_option maxHeartbeats 1000000 in
theorem ref01_roman (n : Nat) (c0 c1 c2 c3 c4 c5 c6 : UInt8) (l : List UInt8) (w : World) (hn : n ≤ 3999) (hl7 : l = [c0, c1, c2, c3, c4, c5, c6]) :
    Calls Tryz.prog 149 #[.int .i64 (n : Int), .string ⟨l.toArray⟩] w fun e w' => e = .returned (.string ⟨(romanS n l).toArray⟩) ∧ Below w.heap.size w w' := by
  obtain ⟨i0, hi, hz0, hz1, hz2⟩ := info_parts string_info
  have hl : l.length = 7 := by rw [hl7]; rfl
  have Hl7 := Lib.hid hl7; clear hl7
  have Hi := Lib.hid hi; have Hz0 := Lib.hid hz0; have Hz1 := Lib.hid hz1; have Hz2 := Lib.hid hz2; clear hi hz0 hz1 hz2
  go_enter Tryz.func149, Tryz.ntmps149
  go_wp2_with fail
  go_loopw [5, 6] (fun v i wr => ∃ k : Nat, k ≤ 7 ∧ i = .int .i64 k ∧ OwnStrs w.heap.size wr v ((l.take k).map fun c => [c]) ∧ Below w.heap.size w wr) (fun _ i _ => 7 - (intOf i).toNat)
  case atStart =>
    refine ⟨0, by omega, rfl, ?_, (Below.refl _ _).alloc (Nat.le_refl _) _⟩
    exact own_built w _ _ 1 0 [] (Nat.le_refl _) rfl (by unfold maxLen; omega)
  case round =>
    obtain ⟨k, hk, rfl, hown, hb⟩ := hrel
    have Hown := Lib.hid hown; clear hown
    by_cases hlt : k < 7
    · obtain ⟨x, hx⟩ : ∃ x, l[k]? = some x := ⟨_, List.getElem?_eq_getElem (by omega)⟩
      have hex : (⟨l.toArray⟩ : ByteArray).extract k (k + 1) = ⟨[x].toArray⟩ := by
        rw [extract_any]
        congr 2
        obtain ⟨hk', e⟩ := List.getElem?_eq_some_iff.1 hx
        rw [List.drop_eq_getElem_cons hk', e, show k + 1 - k = 1 by omega]
        rfl
      have Hx := Lib.hid hx; clear hx
      have hli : (l.length : Int) = 7 := by omega
      have hlt' : (k : Int) < 7 := by omega
      go_wp2_with (at_builtin; go_loud (refine wpList_append1 rfl (.tmp 14) (.tmp 20) 25 rfl w.heap.size 9 i0 (.string ⟨#[]⟩) 1 16 Tryz.underlying25 Hi.out Hz0.out Hz1.out Hz2.out rfl (by decide) _ _ _ Hown.out rfl [.string ⟨[x].toArray⟩] rfl (by simp) rfl (by simp [Value.oneCell']) (by simp [maxLen]; omega) (by simp; omega) hb.size ?_); intro v2 w2 own2 g2 at2)
      go_roundw
      case rel =>
        refine ⟨k + 1, by omega, by go_num, ?_, below_grown hb g2 Hown.out hb.size (Nat.le_refl _)⟩
        unfold OwnStrs
        rw [List.take_add_one, Hx.out]
        simpa using own2
      case measure => simp [intOf]; omega
    · have hk7 : k = 7 := by omega
      subst hk7
      have hl7 := Hl7.out
      clear Hl7
      subst hl7
      obtain ⟨g, cap, hv, hgB, hgl⟩ := World.ownsRow.form Hown.out (by simp)
      simp at hv
      subst hv
      have hS : Seven w wr g c0 c1 c2 c3 c4 c5 c6 := by
        have h := fun k hk => World.ownsRow.cellAt Hown.out k hk
        simp at h
        exact ⟨h 0 (by omega), h 1 (by omega), h 2 (by omega), h 3 (by omega), h 4 (by omega), h 5 (by omega), h 6 (by omega), hgl, hb⟩
      clear Hown
      obtain ⟨s0, s1, s2, s3, s4, s5, s6, -, -⟩ := id hS
      obtain ⟨q3, hq3⟩ : ∃ q, q = n / 1000 := ⟨_, rfl⟩
      obtain ⟨q2, hq2⟩ : ∃ q, q = n / 100 := ⟨_, rfl⟩
      obtain ⟨q1, hq1⟩ : ∃ q, q = n / 10 := ⟨_, rfl⟩
      have l3 : q3 ≤ 4000 := by omega
      have l2 : q2 ≤ 4000 := by omega
      have l1 : q1 ≤ 4000 := by omega
      have l0 : n ≤ 4000 := by omega
      have hw3 : IntKind.i64.wrap ((n : Int) / 1000) = (q3 : Int) := by rw [IntWalk.i64_in _ (by omega)]; omega
      have hw2 : IntKind.i64.wrap ((n : Int) / 100) = (q2 : Int) := by rw [IntWalk.i64_in _ (by omega)]; omega
      have hw1 : IntKind.i64.wrap ((n : Int) / 10) = (q1 : Int) := by rw [IntWalk.i64_in _ (by omega)]; omega
      have t1 := tenS_length q3 [c6] [] [] (by simp) (by simp) (by simp)
      have t2 := tenS_length q2 [c4] [c5] [c6] (by simp) (by simp) (by simp)
      have t3 := tenS_length q1 [c2] [c3] [c4] (by simp) (by simp) (by simp)
      have t4 := tenS_length n [c0] [c1] [c2] (by simp) (by simp) (by simp)
      have n1 : ¬ (9223372036854775807 < (tenS q3 [c6] [] []).length + (tenS q2 [c4] [c5] [c6]).length) := by omega
      have n2 : ¬ (9223372036854775807 < (tenS q3 [c6] [] []).length + (tenS q2 [c4] [c5] [c6]).length + (tenS q1 [c2] [c3] [c4]).length) := by omega
      have n3 : ¬ (9223372036854775807 < (tenS q3 [c6] [] []).length + (tenS q2 [c4] [c5] [c6]).length + (tenS q1 [c2] [c3] [c4]).length + (tenS n [c0] [c1] [c2]).length) := by omega
      have Hq : romanS n [c0, c1, c2, c3, c4, c5, c6] = tenS q3 [c6] [] [] ++ tenS q2 [c4] [c5] [c6] ++ tenS q1 [c2] [c3] [c4] ++ tenS n [c0] [c1] [c2] := by rw [hq1, hq2, hq3]; rfl
      have HQ := Lib.hid Hq
      clear Hq hq1 hq2 hq3
      have hbd : Below w.heap.size w wr.drew := hb.trans ⟨rfl, rfl, rfl, Nat.le_refl _, fun _ _ => rfl⟩
      go_wp2_with fail
      go_region_held3 (fun W => W.cell? ⟨g, 0, none⟩ = some (.string ⟨[c0].toArray⟩) ∧ W.cell? ⟨g, 1, none⟩ = some (.string ⟨[c1].toArray⟩) ∧ W.cell? ⟨g, 2, none⟩ = some (.string ⟨[c2].toArray⟩) ∧ W.cell? ⟨g, 3, none⟩ = some (.string ⟨[c3].toArray⟩) ∧ W.cell? ⟨g, 4, none⟩ = some (.string ⟨[c4].toArray⟩) ∧ W.cell? ⟨g, 5, none⟩ = some (.string ⟨[c5].toArray⟩) ∧ W.cell? ⟨g, 6, none⟩ = some (.string ⟨[c6].toArray⟩) ∧ g < W.heap.size ∧ Below w.heap.size w W)
        (first | exact hS | exact seven_below ‹_› b2 | go_keep)
        ((go_at_call 172; with_reducible refine (ref01_ten _ _ _ _ _ ?_ ?_ ?_ ?_).mono ?_; (assumption); (simp only [List.length_cons, List.length_nil]; omega); (simp only [List.length_cons, List.length_nil]; omega); (simp only [List.length_cons, List.length_nil]; omega); rintro e w2 ⟨rfl, b2⟩))
      go_wp2
      go_ret
      refine ⟨?_, ?_⟩
      · rw [HQ.out]
        simp only [append_data]
        rfl
      · have hE : Seven w w2 g c0 c1 c2 c3 c4 c5 c6 := by assumption
        exact hE.2.2.2.2.2.2.2.2
end
section
open Go.RowKit

/-- the reference's text, by its own numerals and digits -/
def refText (n style : Int) : List UInt8 :=
  if style = 1 ∧ 1 ≤ Cnt.cut n ∧ Cnt.cut n ≤ 3999 then romanS (Cnt.cut n).toNat [105, 118, 120, 108, 99, 100, 109]
  else if style = 2 ∧ 1 ≤ Cnt.cut n ∧ Cnt.cut n ≤ 3999 then romanS (Cnt.cut n).toNat [73, 86, 88, 76, 67, 68, 77]
  else if style = 3 ∧ 1 ≤ Cnt.cut n then Cnt.lettered (Cnt.cut n).toNat
  else Cnt.decF 6 (Cnt.cut n).toNat

set_option maxRecDepth 100000 in
set_option maxHeartbeats 400000 in
theorem ref01_text (n style : Int) (w : World) :
    Calls Tryz.prog 111 #[.int .i64 n, .int .i64 style] w fun e w' => e = .returned (.string ⟨(refText n style).toArray⟩) ∧ Below w.heap.size w w' := by
  have c0 := Cnt.cut_lo n
  have c1 := Cnt.cut_hi n
  obtain ⟨c, hc⟩ : ∃ c : Nat, Cnt.cut n = (c : Int) := ⟨(Cnt.cut n).toNat, by omega⟩
  have hc1 : c ≤ 999999 := by omega
  have Hc := Lib.hid hc; clear hc c0 c1
  go_enter Tryz.func111, Tryz.ntmps111
  go_wp2_with (first
    | (go_at_call 148; refine (ref01_cut _ _).mono ?_; rintro e w' ⟨rfl, rfl⟩; rw [Hc.out])
    | (go_at_call 149; with_reducible refine (ref01_roman c 105 118 120 108 99 100 109 _ _ (by omega) rfl).mono ?_; rintro e w1 ⟨rfl, b1⟩)
    | (go_at_call 149; with_reducible refine (ref01_roman c 73 86 88 76 67 68 77 _ _ (by omega) rfl).mono ?_; rintro e w1 ⟨rfl, b1⟩)
    | (go_at_call 150; refine (ref01_letters 5 c _ (by omega) (by omega) (by omega)).mono ?_; rintro e w1 ⟨rfl, b1⟩)
    | (go_at_call 39; refine (ref01_digits 6 c _ (by omega) (by omega) (by omega)).mono ?_; rintro e w1 ⟨rfl, b1⟩))
  all_goals
    go_ret
    refine ⟨ret_str ?_, ?_⟩
    · unfold refText
      rw [Hc.out]
      repeat (first | rw [if_pos (by omega)] | rw [if_neg (by omega)])
      try simp
    · exact b1

set_option maxHeartbeats 400000 in
theorem ref01_read10 (s : ByteArray) (w : World) (hs : s.size ≤ 1000000) :
    Calls Tryz.prog 110 #[.string s, .int .u8 48, .int .i64 10, .int .i64 0] w fun e w' => e = .returned (.int .i64 (Cnt.readGo 48 10 0 s.data.toList 0)) ∧ w = w' := by
  go_enter Tryz.func110, Tryz.ntmps110
  go_wp2
  go_loop [9, 10] (fun n i => ∃ k m : Nat, k ≤ s.size ∧ i = .int .i64 k ∧ n = .int .i64 m ∧ m ≤ 10000009 ∧ Cnt.readGo 48 10 0 (s.data.toList.drop k) m = Cnt.readGo 48 10 0 s.data.toList 0) (fun _ i => s.size - (intOf i).toNat)
  case atStart => exact ⟨0, 0, Nat.zero_le _, rfl, rfl, by omega, by simp⟩
  case round =>
    obtain ⟨k, m, hk, rfl, rfl, hm, he⟩ := hrel
    by_cases hlt : k < s.size
    · rw [drop_get s k hlt, Cnt.readGo] at he
      have He := Lib.hid he; clear he
      by_cases hbad : s[k].toNat < 48 ∨ 48 + 10 ≤ s[k].toNat ∨ 999999 < m
      · have hE := He.out
        rw [if_pos hbad] at hE
        have HE := Lib.hid hE; clear hE
        have hhi := s[k].toNat_lt
        by_cases g1 : s[k].toNat < 48
        · have g1' : (s[k].toNat : Int) - 48 < 0 := by omega
          clear hbad
          go_wp2
          go_ret; exact ⟨ret_int HE.out, rfl⟩
        · have g1' : ¬ (s[k].toNat : Int) - 48 < 0 := by omega
          by_cases g2 : 48 + 10 ≤ s[k].toNat
          · have g2' : (10 : Int) ≤ (s[k].toNat : Int) - 48 := by omega
            clear hbad
            go_wp2
            go_ret; exact ⟨ret_int HE.out, rfl⟩
          · have g2' : ¬ (10 : Int) ≤ (s[k].toNat : Int) - 48 := by omega
            have g3' : (999999 : Int) < (m : Int) := by omega
            clear hbad
            go_wp2
            go_ret; exact ⟨ret_int HE.out, rfl⟩
      · have hE := He.out
        rw [if_neg hbad] at hE
        have HE := Lib.hid hE; clear hE
        have b0 : ¬ (s[k].toNat : Int) - 48 < 0 := by omega
        have b1 : ¬ (10 : Int) ≤ (s[k].toNat : Int) - 48 := by omega
        have b2 : ¬ (999999 : Int) < (m : Int) := by omega
        have c0 : (s[k].toNat : Int) ≤ 255 := by omega
        have e0 : 48 ≤ s[k].toNat := by omega
        have e1 : s[k].toNat < 48 + 10 := by omega
        have e2 : m ≤ 999999 := by omega
        clear hbad
        go_wp2
        go_round
        case rel => exact ⟨k + 1, _, by omega, by go_num, by first | go_num | (congr 1; omega), by omega, HE.out⟩
        case measure => simp [intOf]; omega
    · go_wp2
      go_ret
      exact ⟨ret_int (by rw [drop_end s k (by omega)] at he; simpa [Cnt.readGo] using he), rfl⟩
set_option maxHeartbeats 400000 in
theorem ref01_read26 (s : ByteArray) (w : World) (hs : s.size ≤ 1000000) :
    Calls Tryz.prog 110 #[.string s, .int .u8 97, .int .i64 26, .int .i64 1] w fun e w' => e = .returned (.int .i64 (Cnt.readGo 97 26 1 s.data.toList 0)) ∧ w = w' := by
  go_enter Tryz.func110, Tryz.ntmps110
  go_wp2
  go_loop [9, 10] (fun n i => ∃ k m : Nat, k ≤ s.size ∧ i = .int .i64 k ∧ n = .int .i64 m ∧ m ≤ 26000025 ∧ Cnt.readGo 97 26 1 (s.data.toList.drop k) m = Cnt.readGo 97 26 1 s.data.toList 0) (fun _ i => s.size - (intOf i).toNat)
  case atStart => exact ⟨0, 0, Nat.zero_le _, rfl, rfl, by omega, by simp⟩
  case round =>
    obtain ⟨k, m, hk, rfl, rfl, hm, he⟩ := hrel
    by_cases hlt : k < s.size
    · rw [drop_get s k hlt, Cnt.readGo] at he
      have He := Lib.hid he; clear he
      by_cases hbad : s[k].toNat < 97 ∨ 97 + 26 ≤ s[k].toNat ∨ 999999 < m
      · have hE := He.out
        rw [if_pos hbad] at hE
        have HE := Lib.hid hE; clear hE
        have hhi := s[k].toNat_lt
        by_cases g1 : s[k].toNat < 97
        · have g1' : (s[k].toNat : Int) - 97 < 0 := by omega
          clear hbad
          go_wp2
          go_ret; exact ⟨ret_int HE.out, rfl⟩
        · have g1' : ¬ (s[k].toNat : Int) - 97 < 0 := by omega
          by_cases g2 : 97 + 26 ≤ s[k].toNat
          · have g2' : (26 : Int) ≤ (s[k].toNat : Int) - 97 := by omega
            clear hbad
            go_wp2
            go_ret; exact ⟨ret_int HE.out, rfl⟩
          · have g2' : ¬ (26 : Int) ≤ (s[k].toNat : Int) - 97 := by omega
            have g3' : (999999 : Int) < (m : Int) := by omega
            clear hbad
            go_wp2
            go_ret; exact ⟨ret_int HE.out, rfl⟩
      · have hE := He.out
        rw [if_neg hbad] at hE
        have HE := Lib.hid hE; clear hE
        have b0 : ¬ (s[k].toNat : Int) - 97 < 0 := by omega
        have b1 : ¬ (26 : Int) ≤ (s[k].toNat : Int) - 97 := by omega
        have b2 : ¬ (999999 : Int) < (m : Int) := by omega
        have c0 : (s[k].toNat : Int) ≤ 255 := by omega
        have e0 : 97 ≤ s[k].toNat := by omega
        have e1 : s[k].toNat < 97 + 26 := by omega
        have e2 : m ≤ 999999 := by omega
        clear hbad
        go_wp2
        go_round
        case rel => exact ⟨k + 1, _, by omega, by go_num, by first | go_num | (congr 1; omega), by omega, HE.out⟩
        case measure => simp [intOf]; omega
    · go_wp2
      go_ret
      exact ⟨ret_int (by rw [drop_end s k (by omega)] at he; simpa [Cnt.readGo] using he), rfl⟩
end
section
theorem roman_all : (List.range 4000).all (fun m => m == 0 || romanS m [105, 118, 120, 108, 99, 100, 109] == Cnt.roman m) = true := by decide +kernel
theorem upper_all : (List.range 4000).all (fun m => m == 0 || romanS m [73, 86, 88, 76, 67, 68, 77] == Lib.toUpperA (Cnt.roman m)) = true := by decide +kernel
theorem ref_roman (m : Nat) (h0 : 1 ≤ m) (h : m ≤ 3999) : romanS m [105, 118, 120, 108, 99, 100, 109] = Cnt.roman m := by
  have := List.all_eq_true.1 roman_all m (List.mem_range.2 (by omega))
  simpa [show (m == 0) = false by simp; omega] using this
theorem ref_upper (m : Nat) (h0 : 1 ≤ m) (h : m ≤ 3999) : romanS m [73, 86, 88, 76, 67, 68, 77] = Lib.toUpperA (Cnt.roman m) := by
  have := List.all_eq_true.1 upper_all m (List.mem_range.2 (by omega))
  simpa [show (m == 0) = false by simp; omega] using this
theorem ref_text (n style : Int) : refText n style = Cnt.text n style := by
  have c0 := Cnt.cut_lo n
  have c1 := Cnt.cut_hi n
  unfold refText Cnt.text
  by_cases h1 : style = 1 ∧ 1 ≤ Cnt.cut n ∧ Cnt.cut n ≤ 3999
  · rw [if_pos h1, if_neg (by omega), if_pos h1, ref_roman _ (by omega) (by omega)]
  · rw [if_neg h1]
    by_cases h2 : style = 2 ∧ 1 ≤ Cnt.cut n ∧ Cnt.cut n ≤ 3999
    · rw [if_pos h2, if_pos h2, ref_upper _ (by omega) (by omega)]
    · rw [if_neg h2, if_neg h2, if_neg h1]
      by_cases h3 : style = 3 ∧ 1 ≤ Cnt.cut n
      · rw [if_pos h3, if_pos h3]
      · rw [if_neg h3, if_neg h3]
        obtain ⟨c, hc⟩ : ∃ c : Nat, Cnt.cut n = (c : Int) := ⟨(Cnt.cut n).toNat, by omega⟩
        rw [hc, Cnt.itoa_dec c (by omega)]
        rfl
/-- a text that is in no style's texts is no counter -/
theorem ref_none (l : List UInt8) (style : Int) (ha : ¬ (0 ≤ Cnt.digits l ∧ Cnt.digits l ≤ 999999 ∧ Cnt.text (Cnt.digits l) style = l))
    (hb : ¬ (0 ≤ Cnt.ofLetters l ∧ Cnt.ofLetters l ≤ 999999 ∧ Cnt.text (Cnt.ofLetters l) style = l))
    (hc : ∀ m : Nat, 1 ≤ m → m ≤ 3999 → (style = 1 ∨ style = 2) → Cnt.text (m : Int) style ≠ l) : Cnt.value l style = (0, 5) := by
  rcases Cnt.sound l style with ⟨n, hn, hv, ht⟩ | h
  · exfalso
    rcases Cnt.text_kinds n hn style with ⟨_, hd⟩ | ⟨_, hk, h0, h1 | h1 | h1⟩
    · rw [ht] at hd
      exact ha ⟨by omega, by omega, by rw [hd]; exact ht⟩
    · exact hc n h0 h1.2 (.inl h1.1) ht
    · exact hc n h0 h1.2 (.inr h1.1) ht
    · subst h1
      rw [ht] at hk
      have : Cnt.ofLetters l = n := by
        simp [Cnt.tries] at hk
        exact hk.2
      exact hb ⟨by omega, by omega, by rw [this]; exact ht⟩
  · exact h
theorem ref_hit (l : List UInt8) (style a : Int) (h0 : 0 ≤ a) (h1 : a ≤ 999999) (ht : Cnt.text a style = l) : Cnt.value l style = (a, 0) := by
  obtain ⟨n, rfl⟩ : ∃ n : Nat, a = n := ⟨a.toNat, by omega⟩
  rw [← ht]
  exact Cnt.back n (by omega) style
end
section
open Go.RowKit

theorem ref01_textc (n style : Int) (w : World) :
    Calls Tryz.prog 111 #[.int .i64 n, .int .i64 style] w fun e w' => e = .returned (.string ⟨(Cnt.text n style).toArray⟩) ∧ Below w.heap.size w w' := by
  rw [← ref_text]; exact ref01_text n style w

theorem ref01_digs (l : List UInt8) (w : World) (hl : l.length ≤ 1000000) : Calls Tryz.prog 110 #[.string ⟨l.toArray⟩, .int .u8 48, .int .i64 10, .int .i64 0] w fun e w' => e = .returned (.int .i64 (Cnt.digits l)) ∧ w = w' := by
  have h := ref01_read10 ⟨l.toArray⟩ w (by rw [size_mk]; exact hl)
  have e : (⟨l.toArray⟩ : ByteArray).data.toList = l := rfl
  rw [e] at h
  unfold Cnt.digits
  exact h
theorem ref01_lets (l : List UInt8) (w : World) (hl : l.length ≤ 1000000) : Calls Tryz.prog 110 #[.string ⟨l.toArray⟩, .int .u8 97, .int .i64 26, .int .i64 1] w fun e w' => e = .returned (.int .i64 (Cnt.ofLetters l)) ∧ w = w' := by
  have h := ref01_read26 ⟨l.toArray⟩ w (by rw [size_mk]; exact hl)
  have e : (⟨l.toArray⟩ : ByteArray).data.toList = l := rfl
  rw [e] at h
  unfold Cnt.ofLetters
  exact h

/-- no numeral below k is the text -/
def NoneTo (l : List UInt8) (style : Int) (k : Nat) : Prop := ∀ m : Nat, 1 ≤ m → m < k → (style = 1 ∨ style = 2) → Cnt.text (m : Int) style ≠ l
set_option maxRecDepth 100000 in
set_option maxHeartbeats 400000 in
theorem ref01_value (l : List UInt8) (style : Int) (w : World) (hl : l.length ≤ 1000000) :
    Calls Tryz.prog 75 #[.string ⟨l.toArray⟩, .int .i64 style] w fun e w' => e = .returned (.tuple #[.int .i64 (Cnt.value l style).1, .int .i64 (Cnt.value l style).2]) ∧ Below w.heap.size w w' := by
  have r10 := fun w => ref01_digs l w hl
  have r26 := fun w => ref01_lets l w hl
  have hnone := ref_none l style
  have hhit := ref_hit l style
  obtain ⟨a, ha⟩ : ∃ a, Cnt.digits l = a := ⟨_, rfl⟩
  obtain ⟨b, hb⟩ : ∃ b, Cnt.ofLetters l = b := ⟨_, rfl⟩
  rw [ha] at r10; rw [hb] at r26; rw [ha, hb] at hnone
  have R10 := Lib.hid r10; have R26 := Lib.hid r26; have Hnone := Lib.hid hnone; have Hhit := Lib.hid hhit
  clear r10 r26 hnone hhit ha hb
  go_enter Tryz.func75, Tryz.ntmps75
  go_upto_region 2 with (first
    | (go_at_call 110; with_reducible refine (R10.out _).mono ?_; rintro e w' ⟨rfl, rfl⟩)
    | (go_at_call 110; with_reducible refine (R26.out _).mono ?_; rintro e w' ⟨rfl, rfl⟩))
  go_cut [25] (fun v wx => v = .bool (decide (0 ≤ a ∧ a ≤ 999999 ∧ Cnt.text a style = l)) ∧ Below w.heap.size w wx)
  case first =>
    by_cases h0 : 0 ≤ a
    · by_cases h1 : a ≤ 999999
      · cases hc : (Cnt.text a style == l)
        · go_wp2_with (go_at_call 111; refine (ref01_textc _ _ _).mono ?_; rintro e w1 ⟨rfl, b1⟩)
          go_meet
          case rel => exact ⟨by rw [decide_eq_false (by simp at hc; simp [hc])], b1⟩
        · go_wp2_with (go_at_call 111; refine (ref01_textc _ _ _).mono ?_; rintro e w1 ⟨rfl, b1⟩)
          go_meet
          case rel => exact ⟨by rw [decide_eq_true (by simp at hc; exact ⟨h0, h1, hc⟩)], b1⟩
      · go_wp2_with fail
        go_meet
        case rel => exact ⟨by rw [decide_eq_false (by omega)], Below.refl _ _⟩
    · go_wp2_with fail
      go_meet
      case rel => exact ⟨by rw [decide_eq_false (by omega)], Below.refl _ _⟩
  case rest =>
    obtain ⟨rfl, hbc⟩ := hcut
    by_cases hA : 0 ≤ a ∧ a ≤ 999999 ∧ Cnt.text a style = l
    · have hd : decide (0 ≤ a ∧ a ≤ 999999 ∧ Cnt.text a style = l) = true := decide_eq_true hA
      have HA := Lib.hid hA; clear hA
      generalize decide (0 ≤ a ∧ a ≤ 999999 ∧ Cnt.text a style = l) = p at hd ⊢
      subst hd
      go_wp2_with fail
      go_ret2
      have h := Hhit.out a HA.out.1 HA.out.2.1 HA.out.2.2
      exact ⟨by rw [h]; rfl, hbc⟩
    · have hd : decide (0 ≤ a ∧ a ≤ 999999 ∧ Cnt.text a style = l) = false := decide_eq_false hA
      have HA := Lib.hid hA; clear hA
      generalize decide (0 ≤ a ∧ a ≤ 999999 ∧ Cnt.text a style = l) = p at hd ⊢
      subst hd
      have Hbc := Lib.hid hbc; clear hbc
      go_upto_region 4 with fail
      go_cut [39] (fun v wx => v = .bool (decide (0 ≤ b ∧ b ≤ 999999 ∧ Cnt.text b style = l)) ∧ Below w.heap.size w wx)
      case first =>
        by_cases h0 : 0 ≤ b
        · by_cases h1 : b ≤ 999999
          · cases hc : (Cnt.text b style == l)
            · go_wp2_with (go_at_call 111; refine (ref01_textc _ _ _).mono ?_; rintro e w1 ⟨rfl, b1⟩)
              go_meet
              case rel => exact ⟨by rw [decide_eq_false (by simp at hc; simp [hc])], bseq Hbc.out b1⟩
            · go_wp2_with (go_at_call 111; refine (ref01_textc _ _ _).mono ?_; rintro e w1 ⟨rfl, b1⟩)
              go_meet
              case rel => exact ⟨by rw [decide_eq_true (by simp at hc; exact ⟨h0, h1, hc⟩)], bseq Hbc.out b1⟩
          · go_wp2_with fail
            go_meet
            case rel => exact ⟨by rw [decide_eq_false (by omega)], Hbc.out⟩
        · go_wp2_with fail
          go_meet
          case rel => exact ⟨by rw [decide_eq_false (by omega)], Hbc.out⟩
      case rest =>
        clear Hbc
        obtain ⟨rfl, hbc⟩ := hcut
        by_cases hB : 0 ≤ b ∧ b ≤ 999999 ∧ Cnt.text b style = l
        · have hd : decide (0 ≤ b ∧ b ≤ 999999 ∧ Cnt.text b style = l) = true := decide_eq_true hB
          have HB := Lib.hid hB; clear hB
          generalize decide (0 ≤ b ∧ b ≤ 999999 ∧ Cnt.text b style = l) = p at hd ⊢
          subst hd
          go_wp2_with fail
          go_ret2
          have h := Hhit.out b HB.out.1 HB.out.2.1 HB.out.2.2
          exact ⟨by rw [h]; rfl, hbc⟩
        · have hd : decide (0 ≤ b ∧ b ≤ 999999 ∧ Cnt.text b style = l) = false := decide_eq_false hB
          have HB := Lib.hid hB; clear hB
          generalize decide (0 ≤ b ∧ b ≤ 999999 ∧ Cnt.text b style = l) = p at hd ⊢
          subst hd
          have Hbc := Lib.hid hbc; clear hbc
          go_wp2_with fail
          go_loopw [8] (fun i wr => ∃ k : Nat, 1 ≤ k ∧ k ≤ 4000 ∧ i = .int .i64 k ∧ NoneTo l style k ∧ Below w.heap.size w wr) (fun i _ => 4000 - (intOf i).toNat)
          case atStart => exact ⟨1, by omega, by omega, rfl, fun m h1 h2 => by omega, Hbc.out⟩
          case round =>
            obtain ⟨k, hk1, hk, rfl, hno, hbr⟩ := hrel
            have Hno := Lib.hid hno; clear hno
            have Hbr := Lib.hid hbr; clear hbr
            by_cases hlt : k ≤ 3999
            · have hlt' : (k : Int) ≤ 3999 := by omega
              by_cases hst : style = 1 ∨ style = 2
              · have Hst := Lib.hid hst; clear hst
                have hs12 : (style == 1) = true ∨ ((style == 1) = false ∧ (style == 2) = true) := by
                  rcases Hst.out with rfl | rfl
                  · left; rfl
                  · right; exact ⟨rfl, rfl⟩
                cases hc : (Cnt.text (k : Int) style == l)
                · have Hc := Lib.hid hc
                  rcases hs12 with hs | ⟨hs, hs2⟩
                  all_goals
                    go_wp2_with (go_at_call 111; refine (ref01_textc _ _ _).mono ?_; rintro e w1 ⟨rfl, b1⟩)
                    go_roundw
                    case rel =>
                      refine ⟨k + 1, by omega, by omega, by go_num, fun m h1 h2 h3 => ?_, bseq Hbr.out b1⟩
                      rcases Nat.lt_or_ge m k with h4 | h4
                      · exact Hno.out m h1 h4 h3
                      · rw [show m = k by omega]
                        simpa using Hc.out
                    case measure => simp [intOf]; omega
                · have Hc := Lib.hid hc
                  rcases hs12 with hs | ⟨hs, hs2⟩
                  all_goals
                    go_wp2_with (go_at_call 111; refine (ref01_textc _ _ _).mono ?_; rintro e w1 ⟨rfl, b1⟩)
                    go_ret2
                    have h := Hhit.out k (by omega) (by omega) (by simpa using Hc.out)
                    exact ⟨by rw [h]; rfl, bseq Hbr.out b1⟩
              · have hs1 : (style == 1) = false := by simp; omega
                have hs2 : (style == 2) = false := by simp; omega
                have Hst := Lib.hid hst; clear hst
                go_wp2_with fail
                go_ret2
                have h := Hnone.out HA.out HB.out (fun m _ _ h3 => absurd h3 Hst.out)
                exact ⟨by rw [h]; rfl, Hbr.out⟩
            · have hlt' : ¬ (k : Int) ≤ 3999 := by omega
              go_wp2_with fail
              go_ret2
              have h := Hnone.out HA.out HB.out (fun m h1 h2 h3 => Hno.out m h1 (by omega) h3)
              exact ⟨by rw [h]; rfl, Hbr.out⟩
end
end Go.Proofs.YthoblbdkmlggbaaGreatDoor
