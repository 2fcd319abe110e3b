/- SideMany: the law's walk. -/
import Derived.Test.YtimmmjmmjokdbaaGreatDoorSidLw2
import Derived.Test.YtimmmjmmjokdbaaGreatDoorRefsB
set_option linter.unusedSimpArgs false
set_option linter.unusedVariables false
namespace Go.Proofs.YtimmmjmmjokdbaaGreatDoor.lawSideMany
open Go.RowKit
/-- 'string([]byte{a, b})' -/
theorem conv_two (W : World) (a b : UInt8) (x y : Int) (hx : x = (a.toNat : Int)) (hy : y = (b.toNat : Int)) :
    (convert 54 9 (.slice (some ⟨W.heap.size, 0, none⟩) 2 2)).run Tryz.prog (W.alloc (.cells #[.int .u8 x, .int .u8 y] 5)) = .ok (.string ⟨#[a, b]⟩) (W.alloc (.cells #[.int .u8 x, .int .u8 y] 5)) := by
  subst hx hy
  refine run_convert_bytes_back (P := Tryz.prog) _ 54 9 5 ⟨W.heap.size, 0, none⟩ 2 [a, b] Tryz.underlying54 Tryz.underlying5 Tryz.underlying9 (fun j hj => ?_)
  rw [Addr.add_lit, cell_of_row _ _ _ _ _ _ (heap_alloc_new W _)]
  match j, hj with
  | 0, _ => rfl
  | 1, _ => rfl
/-- lists of at most so many, texts of at most 60 -/
structure GM (a b c d : Nat) (x : Sd.Side) : Prop where
  labs : x.labs.length ≤ a
  heads : x.heads.length ≤ b
  cites : x.cites.length ≤ c
  bibs : x.bibs.length ≤ d
  lab : ∀ l ∈ x.labs, l.key.length ≤ 60 ∧ l.num.length ≤ 60
  head : ∀ l ∈ x.heads, l.num.length ≤ 60 ∧ l.title.length ≤ 60
  cite : ∀ l ∈ x.cites, l.length ≤ 60
  bib : ∀ l ∈ x.bibs, l.length ≤ 60
theorem GM.up {a b c d a' b' c' d' : Nat} {x : Sd.Side} (h : GM a b c d x) (h1 : a ≤ a') (h2 : b ≤ b') (h3 : c ≤ c') (h4 : d ≤ d') : GM a' b' c' d' x := ⟨Nat.le_trans h.labs h1, Nat.le_trans h.heads h2, Nat.le_trans h.cites h3, Nat.le_trans h.bibs h4, h.lab, h.head, h.cite, h.bib⟩
theorem GM.labs1 {a b c d : Nat} {x : Sd.Side} (h : GM a b c d x) (y : Sd.Lab) (h1 : y.key.length ≤ 60) (h2 : y.num.length ≤ 60) : GM (a + 1) b c d { x with labs := x.labs ++ [y] } :=
  ⟨by have := h.labs; simp; omega, h.heads, h.cites, h.bibs, fun l hl => (mem_snoc hl).elim (h.lab l) (fun e => by rw [e]; exact ⟨h1, h2⟩), h.head, h.cite, h.bib⟩
theorem GM.heads1 {a b c d : Nat} {x : Sd.Side} (h : GM a b c d x) (y : Sd.Hd) (h1 : y.num.length ≤ 60) (h2 : y.title.length ≤ 60) : GM a (b + 1) c d { x with heads := x.heads ++ [y] } :=
  ⟨h.labs, by have := h.heads; simp; omega, h.cites, h.bibs, h.lab, fun l hl => (mem_snoc hl).elim (h.head l) (fun e => by rw [e]; exact ⟨h1, h2⟩), h.cite, h.bib⟩
theorem GM.cites1 {a b c d : Nat} {x : Sd.Side} (h : GM a b c d x) (y : List UInt8) (h1 : y.length ≤ 60) : GM a b (c + 1) d { x with cites := x.cites ++ [y] } :=
  ⟨h.labs, h.heads, by have := h.cites; simp; omega, h.bibs, h.lab, h.head, fun l hl => (mem_snoc hl).elim (h.cite l) (fun e => by rw [e]; exact h1), h.bib⟩
theorem GM.bibs1 {a b c d : Nat} {x : Sd.Side} (h : GM a b c d x) (y : List UInt8) (h1 : y.length ≤ 60) : GM a b c (d + 1) { x with bibs := x.bibs ++ [y] } :=
  ⟨h.labs, h.heads, h.cites, by have := h.bibs; simp; omega, h.lab, h.head, h.cite, fun l hl => (mem_snoc hl).elim (h.bib l) (fun e => by rw [e]; exact h1)⟩
theorem GM.sm {a b c d : Nat} {x : Sd.Side} (h : GM a b c d x) (h1 : a ≤ 1000) (h2 : b ≤ 1000) (h3 : c ≤ 1000) (h4 : d ≤ 1000) : SideSm x :=
  ⟨by have := h.labs; omega, by have := h.heads; omega, by have := h.cites; omega, by have := h.bibs; omega, fun l hl => by have := h.lab l hl; omega, fun l hl => by have := h.head l hl; omega, fun l hl => by have := h.cite l hl; omega, fun l hl => by have := h.bib l hl; omega⟩
set_option maxRecDepth 100000 in
set_option maxHeartbeats 6400000 in
theorem walk (n0 n1 n2 n3 : UInt8) (sx : List UInt8) (w : World) (hL : Laid10 w) :
    Calls Tryz.prog 4 #[.agg #[.int .u8 (n0.toNat : Int), .int .u8 (n1.toNat : Int), .int .u8 (n2.toNat : Int), .int .u8 (n3.toNat : Int)], .string ⟨sx.toArray⟩] w fun e w' => e = .returned (.bool true) ∧ Below w.heap.size w w' := by
  have HL := Lib.hid hL
  clear hL
  obtain ⟨il, hil, hl0, hl1, hl2⟩ := info_parts lab_info
  have Hil := Lib.hid hil; have Hl0 := Lib.hid hl0; have Hl1 := Lib.hid hl1; have Hl2 := Lib.hid hl2; clear hil hl0 hl1 hl2
  obtain ⟨ih, hih, hh0, hh1, hh2⟩ := info_parts hd_info
  have Hih := Lib.hid hih; have Hh0 := Lib.hid hh0; have Hh1 := Lib.hid hh1; have Hh2 := Lib.hid hh2; clear hih hh0 hh1 hh2
  obtain ⟨is, his, hs0, hs1, hs2⟩ := info_parts str_info
  have His := Lib.hid his; have Hs0 := Lib.hid hs0; have Hs1 := Lib.hid hs1; have Hs2 := Lib.hid hs2; clear his hs0 hs1 hs2
  obtain ⟨q, hq⟩ : ∃ q : Nat, min (sx.length : Int) 58 = (q : Int) := ⟨min sx.length 58, by omega⟩
  have hq1 : (q : Int) ≤ (sx.length : Int) := by omega
  have hq2 : q ≤ 58 := by omega
  have hex : (⟨sx.toArray⟩ : ByteArray).extract 0 q = ⟨(sx.take q).toArray⟩ := by rw [extract_any]; simp
  obtain ⟨T, hT⟩ : ∃ T, sx.take q = T := ⟨_, rfl⟩
  have HTl := Lib.hid (show T.length ≤ 58 by rw [← hT]; have := List.length_take_le q sx; omega)
  go_enter Tryz.func4, Tryz.ntmps4
  go_upto_region 1 with fail
  obtain ⟨W1, hW1⟩ : ∃ W1, W1 = w.alloc (.cells #[.int .u8 (n0.toNat : Int), .int .u8 (n1.toNat : Int), .int .u8 (n2.toNat : Int), .int .u8 (n3.toNat : Int)] 53) := ⟨_, rfl⟩
  obtain ⟨g0, hg0⟩ : ∃ g, g = w.heap.size := ⟨_, rfl⟩
  rw [← hW1, ← hg0]
  have HN := Lib.hid (show Four g0 W1 #[.int .u8 (n0.toNat : Int), .int .u8 (n1.toNat : Int), .int .u8 (n2.toNat : Int), .int .u8 (n3.toNat : Int)] by rw [hW1, hg0]; exact Four.made _ _ _)
  have HB1 := Lib.hid (show Below w.heap.size w W1 by rw [hW1]; exact below_new w _)
  clear hW1 hg0
  go_upto_region 2 with fail
  clear hq hq1 hq2 hex hT
  go_upto_region 3 with fail
  obtain ⟨W3, hW3⟩ : ∃ W3, W3 = W1.alloc (.cells #[.slice none 0 0, .slice none 0 0, .slice none 0 0, .slice none 0 0] 26) := ⟨_, rfl⟩
  obtain ⟨g, hg⟩ : ∃ g, g = W1.heap.size := ⟨_, rfl⟩
  rw [← hW3, ← hg]
  have hb13 : Below W1.heap.size W1 W3 := by rw [hW3]; exact below_new W1 _
  have hF3 : Four g W3 #[.slice none 0 0, .slice none 0 0, .slice none 0 0, .slice none 0 0] := by rw [hW3, hg]; exact Four.made _ _ _
  have hZ3 : ∀ i : Nat, W3.frozen? ⟨g, i, none⟩ = false := by intro i; rw [hW3, hg]; simp
  have hSX : SX g W3.heap.size W3 Sd.none_ (.slice none 0 0) (.slice none 0 0) (.slice none 0 0) (.slice none 0 0) := by
    have hd : Dis (.slice none 0 0) (.slice none 0 0) := fun j hj => by cases hj
    exact ⟨hF3.2 0 _ rfl, hZ3 0, hF3.2 1 _ rfl, hZ3 1, hF3.2 2 _ rfl, hZ3 2, hF3.2 3 _ rfl, hZ3 3, hF3.1, Nat.le_refl _, OwnL.nil _ _ _ _ _, OwnL.nil _ _ _ _ _, OwnL.nil _ _ _ _ _, OwnL.nil _ _ _ _ _, hd, hd, hd, hd, hd, hd⟩
  have HSX0 := Lib.hid hSX
  have HN3 := Lib.hid (HN.out.below hb13)
  have Hg0 := Lib.hid (show g0 < g by rw [hg]; exact HN.out.1)
  have HB := Lib.hid (HB1.out.trans (hb13.mono HB1.out.size))
  have Hgw := Lib.hid hF3.1
  have Hgb := Lib.hid (show w.heap.size ≤ g by rw [hg]; exact HB1.out.size)
  clear hW3 hg hb13 hF3 hZ3 hSX HN HB1
  go_wp2_with fail
  go_loopw [6] (fun iv wr => ∃ (k : Nat) (x : Sd.Side) (vl vh vc vb : Value), k ≤ 120 ∧ iv = .int .i64 (k : Int) ∧ SX g W3.heap.size wr x vl vh vc vb ∧ Kept g W3.heap.size W3 wr ∧ GM k k k k x) (fun iv _ => 120 - (intOf iv).toNat)
  case atStart => exact ⟨0, Sd.none_, _, _, _, _, Nat.zero_le _, rfl, HSX0.out, ⟨Below.refl _ _, fun _ _ _ => rfl⟩, ⟨by simp [Sd.none_], by simp [Sd.none_], by simp [Sd.none_], by simp [Sd.none_], by simp [Sd.none_], by simp [Sd.none_], by simp [Sd.none_], by simp [Sd.none_]⟩⟩
  case round =>
    clear HSX0
    obtain ⟨k, x, vl, vh, vc, vb, hk, rfl, hSX, hKp, hGm⟩ := hrel
    have HSX := Lib.hid hSX; have HKp := Lib.hid hKp; have HGm := Lib.hid hGm
    clear hSX hKp hGm
    by_cases hlt : k < 120
    · have hlt' : (k : Int) < 120 := by omega
      obtain ⟨k1, hk1⟩ : ∃ k1, k1 = k + 1 := ⟨_, rfl⟩
      have hwk : IntKind.i64.wrap ((k : Int) + 1) = (k1 : Int) := by rw [IntWalk.i64_in _ (by omega)]; omega
      obtain ⟨a, ha⟩ : ∃ a : Nat, a = k / 11 := ⟨_, rfl⟩
      obtain ⟨b, hb⟩ : ∃ b : Nat, b = k % 11 := ⟨_, rfl⟩
      have ha1 : a ≤ 10 := by omega
      have hb1 : b ≤ 10 := by omega
      have hqa : Int.tdiv (k : Int) 11 = (a : Int) := by rw [ha]; rfl
      have hqb : Int.tmod (k : Int) 11 = (b : Int) := by rw [hb]; rfl
      have hqa2 : (k : Int) / 11 = (a : Int) := by omega
      have hqb2 : (k : Int) % 11 = (b : Int) := by omega
      have hwa : IntKind.i64.wrap (97 + (a : Int)) = 97 + (a : Int) := IntWalk.i64_in _ (by omega)
      have hwb : IntKind.i64.wrap (97 + (b : Int)) = 97 + (b : Int) := IntWalk.i64_in _ (by omega)
      have hua : IntKind.u8.wrap (97 + (a : Int)) = 97 + (a : Int) := IntWalk.u8_in _ (by omega)
      have hub : IntKind.u8.wrap (97 + (b : Int)) = 97 + (b : Int) := IntWalk.u8_in _ (by omega)
      obtain ⟨A, hA⟩ : ∃ A : UInt8, 97 + (a : Int) = (A.toNat : Int) := ⟨UInt8.ofNat (97 + a), by rw [UInt8.toNat_ofNat']; omega⟩
      obtain ⟨B, hB⟩ : ∃ B : UInt8, 97 + (b : Int) = (B.toNat : Int) := ⟨UInt8.ofNat (97 + b), by rw [UInt8.toNat_ofNat']; omega⟩
      have hcv := fun (W : World) => conv_two W A B _ _ hA hB
      have hadd : ¬ 9223372036854775807 < T.length + 2 := by have := HTl.out; omega
      have happ : (⟨T.toArray⟩ : ByteArray) ++ ⟨#[A, B]⟩ = ⟨(T ++ [A, B]).toArray⟩ := append_data T [A, B]
      obtain ⟨K, hK⟩ : ∃ K, T ++ [A, B] = K := ⟨_, rfl⟩
      have HKl := Lib.hid (show K.length ≤ 60 by rw [← hK, List.length_append]; have := HTl.out; simp; omega)
      rw [hK] at happ
      have Hk1 := Lib.hid hk1; have Hlt := Lib.hid hlt; have Hwk := Lib.hid hwk
      clear hA hB hK ha hb ha1 hb1 hlt hk hk1 hwk
      go_upto_region 7 with fail
      have hbz := below_new wr (.cells #[.int .u8 (97 + (a : Int)), .int .u8 (97 + (b : Int))] 5)
      obtain ⟨wz, hwz⟩ : ∃ W, W = wr.alloc (.cells #[.int .u8 (97 + (a : Int)), .int .u8 (97 + (b : Int))] 5) := ⟨_, rfl⟩
      rw [← hwz] at hbz
      rw [← hwz]
      replace HKp := Lib.hid (HKp.out.trans (Kept.below hbz (Nat.le_of_lt Hgw.out) HSX.out.sz))
      replace HSX := Lib.hid (HSX.out.below hbz)
      clear hbz hwz hcv happ hadd hqa hqb hqa2 hqb2 hwa hwb hua hub hlt'
      obtain ⟨z, hz⟩ : ∃ z : Nat, z = k % 2 := ⟨_, rfl⟩
      have hz1 : z ≤ 1 := by omega
      have hqz : Int.tmod (k : Int) 2 = (z : Int) := by rw [hz]; rfl
      have hqz2 : (k : Int) % 2 = (z : Int) := by omega
      have hwz : IntKind.i64.wrap (1 + (z : Int)) = 1 + (z : Int) := IntWalk.i64_in _ (by omega)
      clear hz hz1
      have hnc := (HKp.out.1.cell (p := ⟨g0, 0, none⟩) Hg0.out).trans (HN3.out.2 0 _ rfl)
      have hnb := n0.toNat_lt
      go_upto_if 38 with fail
      clear hnc hnb
      go_cut [7] (fun v wx => v = .string ⟨K.toArray⟩ ∧ ∃ (x0 : Sd.Side) (ul uh uc ub : Value), SX g W3.heap.size wx x0 ul uh uc ub ∧ Kept g W3.heap.size W3 wx ∧ GM (k + 1) k k k x0)
      case first =>
        by_cases hc : k < n0.toNat
        · have hc' : (k : Int) < (n0.toNat : Int) := by omega
          go_upto_region 8 with fail
          clear hc'
          obtain ⟨pv, capv, hfv⟩ := HSX.out.l.form
          subst hfv
          have HX9 := HSX
          obtain ⟨fl, hown, hrep⟩ := HX9.out.l
          have Hown := Lib.hid hown; have Hrep := Lib.hid hrep
          have Hxl := Lib.hid (show x.labs.length ≤ 1000000 by have := HGm.out.labs; have := Hlt.out; omega)
          have hcx := HSX.out.c0
          clear hown hrep
          go_wp2_with (at_builtin; go_loud (refine wpList_append1 rfl (.tmp 40) (.tmp 44) 22 rfl W3.heap.size 42 il (.agg #[.string ⟨#[]⟩, .string ⟨#[]⟩, .int .i64 0]) 3 40 Tryz.underlying22 Hil.out Hl0.out Hl1.out Hl2.out (by rfl) (by decide) _ _ _ Hown.out rfl [.string ⟨K.toArray⟩, .string ⟨#[49]⟩, .int .i64 (k : Int)] rfl rfl rfl (by simp [Value.oneCell']) (by have := Hxl.out; unfold maxLen; omega) (by have := Hxl.out; omega) HX9.out.sz ?_); intro v2 w12 own2 g2 at2; obtain ⟨p2, cap2, hv2, _, _⟩ := own2.form (Nat.succ_pos _); have hput := SX.put0 (y := ⟨K, [49], (k : Int)⟩) HX9.out Hrep.out rfl own2 g2 (at2.imp (fun h => h) (fun h => ⟨_, h, Nat.le_succ _⟩)); have hne9 : Value.ownBlock (.slice pv x.labs.length capv) ≠ some g := (fun e => by have := (Hown.out.lt g e).1; have := HX9.out.lt; omega); have hg9 := Nat.lt_of_lt_of_le HX9.out.lt HX9.out.sz; have hcg2 := (grown_cell g2 hg9 hne9 0).trans HX9.out.c0; have hfg2 := (grown_frozen g2 hg9 hne9 0).trans HX9.out.f0; have Hput := Lib.hid hput; clear hput own2 g2 at2 hne9 hg9; subst hv2)
          go_meet
          exact ⟨rfl, _, _, _, _, _, Hput.out.1, HKp.out.trans Hput.out.2, HGm.out.labs1 _ HKl.out (by simp)⟩
        · have hc' : ¬ (k : Int) < (n0.toNat : Int) := by omega
          go_wp2_with fail
          go_meet
          exact ⟨rfl, _, _, _, _, _, HSX.out, HKp.out, HGm.out.up (by omega) (by omega) (by omega) (by omega)⟩
      case rest =>
        obtain ⟨rfl, x0, ul, uh, uc, ub, hSX, hKp, hGm⟩ := hcut
        clear HSX HKp HGm
        have HSX := Lib.hid hSX; have HKp := Lib.hid hKp; have HGm := Lib.hid hGm
        clear hSX hKp hGm
        have hnc := (HKp.out.1.cell (p := ⟨g0, 1, none⟩) Hg0.out).trans (HN3.out.2 1 _ rfl)
        have hnb := n1.toNat_lt
        go_upto_if 51 with fail
        clear hnc hnb
        go_cut [7] (fun v wx => v = .string ⟨K.toArray⟩ ∧ ∃ (x1 : Sd.Side) (ul uh uc ub : Value), SX g W3.heap.size wx x1 ul uh uc ub ∧ Kept g W3.heap.size W3 wx ∧ GM (k + 1) (k + 1) k k x1)
        case first =>
          by_cases hc : k < n1.toNat
          · have hc' : (k : Int) < (n1.toNat : Int) := by omega
            go_upto_region 10 with fail
            clear hc'
            obtain ⟨pv, capv, hfv⟩ := HSX.out.h.form
            subst hfv
            have HX9 := HSX
            obtain ⟨fl, hown, hrep⟩ := HX9.out.h
            have Hown := Lib.hid hown; have Hrep := Lib.hid hrep
            have Hxl := Lib.hid (show x0.heads.length ≤ 1000000 by have := HGm.out.heads; have := Hlt.out; omega)
            have hcx := HSX.out.c1
            clear hown hrep
            go_wp2_with (at_builtin; go_loud (refine wpList_append1 rfl (.tmp 53) (.tmp 60) 23 rfl W3.heap.size 56 ih (.agg #[.int .i64 0, .string ⟨#[]⟩, .string ⟨#[]⟩, .int .i64 0]) 4 48 Tryz.underlying23 Hih.out Hh0.out Hh1.out Hh2.out (by rfl) (by decide) _ _ _ Hown.out rfl [.int .i64 (1 + (z : Int)), .string ⟨#[49]⟩, .string ⟨K.toArray⟩, .int .i64 (k : Int)] rfl rfl rfl (by simp [Value.oneCell']) (by have := Hxl.out; unfold maxLen; omega) (by have := Hxl.out; omega) HX9.out.sz ?_); intro v2 w12 own2 g2 at2; obtain ⟨p2, cap2, hv2, _, _⟩ := own2.form (Nat.succ_pos _); have hput := SX.put1 (y := ⟨1 + (z : Int), [49], K, (k : Int)⟩) HX9.out Hrep.out rfl own2 g2 (at2.imp (fun h => h) (fun h => ⟨_, h, Nat.le_succ _⟩)); have hne9 : Value.ownBlock (.slice pv x0.heads.length capv) ≠ some g := (fun e => by have := (Hown.out.lt g e).1; have := HX9.out.lt; omega); have hg9 := Nat.lt_of_lt_of_le HX9.out.lt HX9.out.sz; have hcg2 := (grown_cell g2 hg9 hne9 1).trans HX9.out.c1; have hfg2 := (grown_frozen g2 hg9 hne9 1).trans HX9.out.f1; have Hput := Lib.hid hput; clear hput own2 g2 at2 hne9 hg9; subst hv2)
            go_meet
            exact ⟨rfl, _, _, _, _, _, Hput.out.1, HKp.out.trans Hput.out.2, HGm.out.heads1 _ (by simp) HKl.out⟩
          · have hc' : ¬ (k : Int) < (n1.toNat : Int) := by omega
            go_wp2_with fail
            go_meet
            exact ⟨rfl, _, _, _, _, _, HSX.out, HKp.out, HGm.out.up (by omega) (by omega) (by omega) (by omega)⟩
        case rest =>
          obtain ⟨rfl, x1, ul, uh, uc, ub, hSX, hKp, hGm⟩ := hcut
          clear HSX HKp HGm
          have HSX := Lib.hid hSX; have HKp := Lib.hid hKp; have HGm := Lib.hid hGm
          clear hSX hKp hGm
          have hnc := (HKp.out.1.cell (p := ⟨g0, 2, none⟩) Hg0.out).trans (HN3.out.2 2 _ rfl)
          have hnb := n2.toNat_lt
          go_upto_if 67 with fail
          clear hnc hnb
          go_cut [7] (fun v wx => v = .string ⟨K.toArray⟩ ∧ ∃ (x2 : Sd.Side) (ul uh uc ub : Value), SX g W3.heap.size wx x2 ul uh uc ub ∧ Kept g W3.heap.size W3 wx ∧ GM (k + 1) (k + 1) (k + 1) k x2)
          case first =>
            by_cases hc : k < n2.toNat
            · have hc' : (k : Int) < (n2.toNat : Int) := by omega
              go_upto_region 12 with fail
              clear hc'
              obtain ⟨pv, capv, hfv⟩ := HSX.out.c.form
              subst hfv
              have HX9 := HSX
              obtain ⟨fl, hown, hrep⟩ := HX9.out.c
              have Hown := Lib.hid hown; have Hrep := Lib.hid hrep
              have Hxl := Lib.hid (show x1.cites.length ≤ 1000000 by have := HGm.out.cites; have := Hlt.out; omega)
              have hcx := HSX.out.c2
              clear hown hrep
              go_wp2_with (at_builtin; go_loud (refine wpList_append1 rfl (.tmp 69) (.tmp 71) 24 rfl W3.heap.size 9 is (.string ⟨#[]⟩) 1 16 Tryz.underlying24 His.out Hs0.out Hs1.out Hs2.out (by rfl) (by decide) _ _ _ Hown.out rfl [.string ⟨K.toArray⟩] rfl rfl rfl (by simp [Value.oneCell']) (by have := Hxl.out; unfold maxLen; omega) (by have := Hxl.out; omega) HX9.out.sz ?_); intro v2 w12 own2 g2 at2; obtain ⟨p2, cap2, hv2, _, _⟩ := own2.form (Nat.succ_pos _); have hput := SX.put2 (y := K) HX9.out Hrep.out rfl own2 g2 (at2.imp (fun h => h) (fun h => ⟨_, h, Nat.le_succ _⟩)); have hne9 : Value.ownBlock (.slice pv x1.cites.length capv) ≠ some g := (fun e => by have := (Hown.out.lt g e).1; have := HX9.out.lt; omega); have hg9 := Nat.lt_of_lt_of_le HX9.out.lt HX9.out.sz; have hcg2 := (grown_cell g2 hg9 hne9 2).trans HX9.out.c2; have hfg2 := (grown_frozen g2 hg9 hne9 2).trans HX9.out.f2; have Hput := Lib.hid hput; clear hput own2 g2 at2 hne9 hg9; subst hv2)
              go_meet
              exact ⟨rfl, _, _, _, _, _, Hput.out.1, HKp.out.trans Hput.out.2, HGm.out.cites1 _ HKl.out⟩
            · have hc' : ¬ (k : Int) < (n2.toNat : Int) := by omega
              go_wp2_with fail
              go_meet
              exact ⟨rfl, _, _, _, _, _, HSX.out, HKp.out, HGm.out.up (by omega) (by omega) (by omega) (by omega)⟩
          case rest =>
            obtain ⟨rfl, x2, ul, uh, uc, ub, hSX, hKp, hGm⟩ := hcut
            clear HSX HKp HGm
            have HSX := Lib.hid hSX; have HKp := Lib.hid hKp; have HGm := Lib.hid hGm
            clear hSX hKp hGm
            have hnc := (HKp.out.1.cell (p := ⟨g0, 3, none⟩) Hg0.out).trans (HN3.out.2 3 _ rfl)
            have hnb := n3.toNat_lt
            go_upto_if 78 with fail
            clear hnc hnb
            by_cases hc : k < n3.toNat
            · have hc' : (k : Int) < (n3.toNat : Int) := by omega
              go_upto_region 14 with fail
              clear hc'
              obtain ⟨pv, capv, hfv⟩ := HSX.out.b.form
              subst hfv
              have HX9 := HSX
              obtain ⟨fl, hown, hrep⟩ := HX9.out.b
              have Hown := Lib.hid hown; have Hrep := Lib.hid hrep
              have Hxl := Lib.hid (show x2.bibs.length ≤ 1000000 by have := HGm.out.bibs; have := Hlt.out; omega)
              have hcx := HSX.out.c3
              clear hown hrep
              have hwk := Hwk.out
              go_wp2_with (at_builtin; go_loud (refine wpList_append1 rfl (.tmp 80) (.tmp 82) 24 rfl W3.heap.size 9 is (.string ⟨#[]⟩) 1 16 Tryz.underlying24 His.out Hs0.out Hs1.out Hs2.out (by rfl) (by decide) _ _ _ Hown.out rfl [.string ⟨K.toArray⟩] rfl rfl rfl (by simp [Value.oneCell']) (by have := Hxl.out; unfold maxLen; omega) (by have := Hxl.out; omega) HX9.out.sz ?_); intro v2 w12 own2 g2 at2; obtain ⟨p2, cap2, hv2, _, _⟩ := own2.form (Nat.succ_pos _); have hput := SX.put3 (y := K) HX9.out Hrep.out rfl own2 g2 (at2.imp (fun h => h) (fun h => ⟨_, h, Nat.le_succ _⟩)); have hne9 : Value.ownBlock (.slice pv x2.bibs.length capv) ≠ some g := (fun e => by have := (Hown.out.lt g e).1; have := HX9.out.lt; omega); have hg9 := Nat.lt_of_lt_of_le HX9.out.lt HX9.out.sz; have hcg2 := (grown_cell g2 hg9 hne9 3).trans HX9.out.c3; have hfg2 := (grown_frozen g2 hg9 hne9 3).trans HX9.out.f3; have Hput := Lib.hid hput; clear hput own2 g2 at2 hne9 hg9; subst hv2)
              go_roundw
              case rel => exact ⟨k1, _, _, _, _, _, by have := Hlt.out; have := Hk1.out; omega, rfl, Hput.out.1, HKp.out.trans Hput.out.2, by rw [Hk1.out]; exact HGm.out.bibs1 _ HKl.out⟩
              case measure => have := Hlt.out; have := Hk1.out; simp [intOf]; omega
            · have hc' : ¬ (k : Int) < (n3.toNat : Int) := by omega
              have hwk := Hwk.out
              go_wp2_with fail
              go_roundw
              case rel => exact ⟨k1, _, _, _, _, _, by have := Hlt.out; have := Hk1.out; omega, rfl, HSX.out, HKp.out, by rw [Hk1.out]; exact HGm.out.up (by omega) (by omega) (by omega) (by omega)⟩
              case measure => have := Hlt.out; have := Hk1.out; simp [intOf]; omega
    · have hlt' : ¬ (k : Int) < 120 := by omega
      have hk' : k = 120 := by omega
      obtain ⟨ql, kl, hvl⟩ := HSX.out.l.form
      obtain ⟨qh, kh, hvh⟩ := HSX.out.h.form
      obtain ⟨qc, kc, hvc⟩ := HSX.out.c.form
      obtain ⟨qb, kb, hvb⟩ := HSX.out.b.form
      subst hvl hvh hvc hvb
      have HX := Lib.hid (show SideIn (fun _ => True) wr (.agg #[.slice ql x.labs.length kl, .slice qh x.heads.length kh, .slice qc x.cites.length kc, .slice qb x.bibs.length kb]) x from ⟨_, _, _, _, rfl, HSX.out.l.slice RLab.size _ (fun _ _ => trivial), HSX.out.h.slice RHd.size _ (fun _ _ => trivial), HSX.out.c.slice RStr.size _ (fun _ _ => trivial), HSX.out.b.slice RStr.size _ (fun _ _ => trivial)⟩)
      have Hsm := Lib.hid (HGm.out.sm (by omega) (by omega) (by omega) (by omega))
      have HF := Lib.hid (show Four g wr #[.slice ql x.labs.length kl, .slice qh x.heads.length kh, .slice qc x.cites.length kc, .slice qb x.bibs.length kb] from ⟨Nat.lt_of_lt_of_le HSX.out.lt HSX.out.sz, fun i u hu => by
        match i, hu with
        | 0, hu => cases hu; exact HSX.out.c0
        | 1, hu => cases hu; exact HSX.out.c1
        | 2, hu => cases hu; exact HSX.out.c2
        | 3, hu => cases hu; exact HSX.out.c3⟩)
      replace HB := Lib.hid (HB.out.trans (HKp.out.1.mono Hgb.out))
      clear hk' hlt hk
      obtain ⟨s, c, he⟩ : ∃ s c, Sd.enc x = (s, c) := ⟨_, _, rfl⟩
      obtain ⟨rx, hrx⟩ : ∃ r, Sd.right x = r := ⟨_, rfl⟩
      have He := Lib.hid he; have Hrx := Lib.hid hrx
      clear he hrx
      have c0 := HF.out.2 0 _ rfl; have c1 := HF.out.2 1 _ rfl; have c2 := HF.out.2 2 _ rfl; have c3 := HF.out.2 3 _ rfl
      go_upto_region 16 with (go_at_call 10; refine (side_encode x _ _ _ (HL.out.below HB.out) HX.out Hsm.out).mono ?_; rw [He.out]; rintro e w4 ⟨rfl, hb⟩; replace HX := Lib.hid (HX.out.below hb); replace HF := Lib.hid (HF.out.below hb); replace HB := Lib.hid (HB.out.trans (hb.mono HB.out.size)); clear hb)
      clear c0 c1 c2 c3
      have c0 := HF.out.2 0 _ rfl; have c1 := HF.out.2 1 _ rfl; have c2 := HF.out.2 2 _ rfl; have c3 := HF.out.2 3 _ rfl
      go_upto_region 17 with (first | (go_at_call 12; refine (law10_ref x _ _ _ HX.out Hsm.out).mono ?_; rintro e w5 ⟨⟨v1, rfl, hR⟩, hb⟩; have HR1 := Lib.hid hR; clear hR; replace HX := Lib.hid (HX.out.below hb); replace HF := Lib.hid (HF.out.below hb); replace HB := Lib.hid (HB.out.trans (hb.mono HB.out.size)); clear hb) | (go_at_call 11; refine (ref10_encode x _ _ _ HR1.out Hsm.out).mono ?_; rw [He.out]; rintro e w6 ⟨rfl, hb⟩; replace HX := Lib.hid (HX.out.below hb); replace HF := Lib.hid (HF.out.below hb); replace HB := Lib.hid (HB.out.trans (hb.mono HB.out.size)); clear hb))
      clear c0 c1 c2 c3 HR1
      refine wp_region_any (by kernel_rfl) ?_
      change wpAny _ _ _ _ _ _ _ (World.drew _)
      obtain ⟨w16, hw0⟩ : ∃ W, W = w6.drew := ⟨_, rfl⟩
      rw [← hw0]
      have hb : Below w6.heap.size w6 w16 := by rw [hw0]; exact (Below.refl _ _).drew
      replace HX := Lib.hid (HX.out.below hb)
      replace HF := Lib.hid (HF.out.below hb)
      replace HB := Lib.hid (HB.out.trans (hb.mono HB.out.size))
      clear hb hw0
      have hS : Below w16.heap.size w16 w16 := Below.refl _ _
      refine wpAny_of_held (S := fun W => Below w16.heap.size w16 W) _ _ _ _ ?_
      refine wpAnyH_take (i := 0) (v := .agg #[.slice ql x.labs.length kl, .slice qh x.heads.length kh, .slice qc x.cites.length kc, .slice qb x.bibs.length kb]) rfl (by kernel_rfl) (by kernel_rfl) (by kernel_rfl) (fun _ _ _ h => h) (Or.inl ⟨by kernel_rfl, fun W hW => by (obtain ⟨_, q⟩ := Four.below HF.out hW; have c0 := q 0 _ rfl; have c1 := q 1 _ rfl; have c2 := q 2 _ rfl; have c3 := q 3 _ rfl; go_simp)⟩) (by assumption) ?_
      try simp only [Act.put, List.getElem_toArray, List.getElem_cons_zero, List.getElem_cons_succ, List.setIfInBounds_toArray, List.set_cons_zero, List.set_cons_succ]
      refine wpAnyH_take (i := 2) (v := .agg #[.slice ql x.labs.length kl, .slice qh x.heads.length kh, .slice qc x.cites.length kc, .slice qb x.bibs.length kb]) rfl (by kernel_rfl) (by kernel_rfl) (by kernel_rfl) (fun _ _ _ h => h) (Or.inl ⟨by kernel_rfl, fun W hW => by (obtain ⟨_, q⟩ := Four.below HF.out hW; have c0 := q 0 _ rfl; have c1 := q 1 _ rfl; have c2 := q 2 _ rfl; have c3 := q 3 _ rfl; go_simp)⟩) (by assumption) ?_
      try simp only [Act.put, List.getElem_toArray, List.getElem_cons_zero, List.getElem_cons_succ, List.setIfInBounds_toArray, List.set_cons_zero, List.set_cons_succ]
      refine wpAnyH_ready (rs := [1]) (by kernel_rfl) (by simp) ?_
      refine AllReadyH.cons rfl (fun K hK => ?_) AllReadyH.nil
      go_simp
      go_wp2_with (go_at_call 17; refine (side_right x _ _ _ (HX.out.below hS) Hsm.out).mono ?_; rw [Hrx.out]; rintro e w17 ⟨rfl, hb⟩; replace hS := hS.trans (hb.mono hS.size); clear hb)
      refine hK.out _ _ (hS) (fun _ => ?_)
      clear K hK
      try simp only [Act.put, List.getElem_toArray, List.getElem_cons_zero, List.getElem_cons_succ, List.setIfInBounds_toArray, List.set_cons_zero, List.set_cons_succ]
      refine wpAnyH_ready (rs := [3]) (by kernel_rfl) (by simp) ?_
      refine AllReadyH.cons rfl (fun K hK => ?_) AllReadyH.nil
      go_simp
      go_wp2_with (go_at_call 12; refine (law10_ref x _ _ _ (HX.out.below hS) Hsm.out).mono ?_; rintro e w18 ⟨⟨v1, rfl, hR⟩, hb⟩; have HR1 := Lib.hid hR; clear hR; replace hS := hS.trans (hb.mono hS.size); clear hb)
      refine hK.out _ _ (hS) (fun _ => ?_)
      clear K hK
      try simp only [Act.put, List.getElem_toArray, List.getElem_cons_zero, List.getElem_cons_succ, List.setIfInBounds_toArray, List.set_cons_zero, List.set_cons_succ]
      refine wpAnyH_ready (rs := [4]) (by kernel_rfl) (by simp) ?_
      refine AllReadyH.cons rfl (fun K hK => ?_) AllReadyH.nil
      go_simp
      go_wp2_with (go_at_call 18; refine (ref10_right x _ _ _ HR1.out Hsm.out).mono ?_; rw [Hrx.out]; rintro e w19 ⟨rfl, hb⟩; replace hS := hS.trans (hb.mono hS.size); clear hb)
      refine hK.out _ _ (hS) (fun _ => ?_)
      clear K hK
      try simp only [Act.put, List.getElem_toArray, List.getElem_cons_zero, List.getElem_cons_succ, List.setIfInBounds_toArray, List.set_cons_zero, List.set_cons_succ]
      refine wpAnyH_take (i := 5) (v := .bool true) rfl (by kernel_rfl) (by kernel_rfl) (by kernel_rfl) (fun _ _ _ h => h) (Or.inl ⟨by kernel_rfl, fun W hW => by go_simp⟩) (by assumption) ?_
      try simp only [Act.put, List.getElem_toArray, List.getElem_cons_zero, List.getElem_cons_succ, List.setIfInBounds_toArray, List.set_cons_zero, List.set_cons_succ]
      refine wpAnyH_take (i := 6) (v := .bool true) rfl (by kernel_rfl) (by kernel_rfl) (by kernel_rfl) (fun _ _ _ h => h) (Or.inl ⟨by kernel_rfl, fun W hW => by kernel_rfl⟩) (by assumption) ?_
      try simp only [Act.put, List.getElem_toArray, List.getElem_cons_zero, List.getElem_cons_succ, List.setIfInBounds_toArray, List.set_cons_zero, List.set_cons_succ]
      refine wpAnyH_take (i := 7) (v := .string ⟨s.toArray⟩) rfl (by kernel_rfl) (by kernel_rfl) (by kernel_rfl) (fun _ _ _ h => h) (Or.inl ⟨by kernel_rfl, fun W hW => by kernel_rfl⟩) (by assumption) ?_
      try simp only [Act.put, List.getElem_toArray, List.getElem_cons_zero, List.getElem_cons_succ, List.setIfInBounds_toArray, List.set_cons_zero, List.set_cons_succ]
      refine wpAnyH_take (i := 8) (v := .string ⟨s.toArray⟩) rfl (by kernel_rfl) (by kernel_rfl) (by kernel_rfl) (fun _ _ _ h => h) (Or.inl ⟨by kernel_rfl, fun W hW => by kernel_rfl⟩) (by assumption) ?_
      try simp only [Act.put, List.getElem_toArray, List.getElem_cons_zero, List.getElem_cons_succ, List.setIfInBounds_toArray, List.set_cons_zero, List.set_cons_succ]
      refine wpAnyH_take (i := 9) (v := .bool true) rfl (by kernel_rfl) (by kernel_rfl) (by kernel_rfl) (fun _ _ _ h => h) (Or.inl ⟨by kernel_rfl, fun W hW => by go_simp⟩) (by assumption) ?_
      try simp only [Act.put, List.getElem_toArray, List.getElem_cons_zero, List.getElem_cons_succ, List.setIfInBounds_toArray, List.set_cons_zero, List.set_cons_succ]
      refine wpAnyH_take (i := 10) (v := .bool true) rfl (by kernel_rfl) (by kernel_rfl) (by kernel_rfl) (fun _ _ _ h => h) (Or.inl ⟨by kernel_rfl, fun W hW => by kernel_rfl⟩) (by assumption) ?_
      try simp only [Act.put, List.getElem_toArray, List.getElem_cons_zero, List.getElem_cons_succ, List.setIfInBounds_toArray, List.set_cons_zero, List.set_cons_succ]
      refine wpAnyH_take (i := 11) (v := .bool true) rfl (by kernel_rfl) (by kernel_rfl) (by kernel_rfl) (fun _ _ _ h => h) (Or.inl ⟨by kernel_rfl, fun W hW => by kernel_rfl⟩) (by assumption) ?_
      try simp only [Act.put, List.getElem_toArray, List.getElem_cons_zero, List.getElem_cons_succ, List.setIfInBounds_toArray, List.set_cons_zero, List.set_cons_succ]
      refine wpAnyH_take (i := 12) (v := .int .i64 c) rfl (by kernel_rfl) (by kernel_rfl) (by kernel_rfl) (fun _ _ _ h => h) (Or.inl ⟨by kernel_rfl, fun W hW => by kernel_rfl⟩) (by assumption) ?_
      try simp only [Act.put, List.getElem_toArray, List.getElem_cons_zero, List.getElem_cons_succ, List.setIfInBounds_toArray, List.set_cons_zero, List.set_cons_succ]
      refine wpAnyH_take (i := 13) (v := .int .i64 c) rfl (by kernel_rfl) (by kernel_rfl) (by kernel_rfl) (fun _ _ _ h => h) (Or.inl ⟨by kernel_rfl, fun W hW => by kernel_rfl⟩) (by assumption) ?_
      try simp only [Act.put, List.getElem_toArray, List.getElem_cons_zero, List.getElem_cons_succ, List.setIfInBounds_toArray, List.set_cons_zero, List.set_cons_succ]
      refine wpAnyH_take (i := 14) (v := .bool true) rfl (by kernel_rfl) (by kernel_rfl) (by kernel_rfl) (fun _ _ _ h => h) (Or.inl ⟨by kernel_rfl, fun W hW => by go_simp⟩) (by assumption) ?_
      try simp only [Act.put, List.getElem_toArray, List.getElem_cons_zero, List.getElem_cons_succ, List.setIfInBounds_toArray, List.set_cons_zero, List.set_cons_succ]
      refine wpAnyH_take (i := 15) (v := .bool true) rfl (by kernel_rfl) (by kernel_rfl) (by kernel_rfl) (fun _ _ _ h => h) (Or.inl ⟨by kernel_rfl, fun W hW => by kernel_rfl⟩) (by assumption) ?_
      try simp only [Act.put, List.getElem_toArray, List.getElem_cons_zero, List.getElem_cons_succ, List.setIfInBounds_toArray, List.set_cons_zero, List.set_cons_succ]
      refine wpAnyH_take (i := 16) (v := .bool true) rfl (by kernel_rfl) (by kernel_rfl) (by kernel_rfl) (fun _ _ _ h => h) (Or.inl ⟨by kernel_rfl, fun W hW => by kernel_rfl⟩) (by assumption) ?_
      try simp only [Act.put, List.getElem_toArray, List.getElem_cons_zero, List.getElem_cons_succ, List.setIfInBounds_toArray, List.set_cons_zero, List.set_cons_succ]
      have hL2 := HL.out.below (HB.out.trans (hS.mono HB.out.size))
      refine wpAnyH_ready (rs := [17]) (by kernel_rfl) (by simp) ?_
      refine AllReadyH.cons rfl (fun K hK => ?_) AllReadyH.nil
      go_simp
      go_wp2_with (go_at_call 20; refine (law10_fixed _ hL2).mono ?_; rintro e w22 ⟨rfl, hb⟩; replace hS := hS.trans (hb.mono hS.size); clear hb)
      refine hK.out _ _ (hS) (fun _ => ?_)
      clear K hK
      try simp only [Act.put, List.getElem_toArray, List.getElem_cons_zero, List.getElem_cons_succ, List.setIfInBounds_toArray, List.set_cons_zero, List.set_cons_succ]
      refine wpAnyH_take (i := 18) (v := .bool true) rfl (by kernel_rfl) (by kernel_rfl) (by kernel_rfl) (fun _ _ _ h => h) (Or.inl ⟨by kernel_rfl, fun W hW => by kernel_rfl⟩) (by assumption) ?_
      try simp only [Act.put, List.getElem_toArray, List.getElem_cons_zero, List.getElem_cons_succ, List.setIfInBounds_toArray, List.set_cons_zero, List.set_cons_succ]
      refine wpAnyH_take (i := 19) (v := .bool true) rfl (by kernel_rfl) (by kernel_rfl) (by kernel_rfl) (fun _ _ _ h => h) (Or.inl ⟨by kernel_rfl, fun W hW => by kernel_rfl⟩) (by assumption) ?_
      try simp only [Act.put, List.getElem_toArray, List.getElem_cons_zero, List.getElem_cons_succ, List.setIfInBounds_toArray, List.set_cons_zero, List.set_cons_succ]
      refine wpAnyH_done (by kernel_rfl) ?_ _
      go_wp2_with fail
      go_ret
      exact ⟨rfl, HB.out.trans (hS.mono HB.out.size)⟩
end Go.Proofs.YtimmmjmmjokdbaaGreatDoor.lawSideMany
