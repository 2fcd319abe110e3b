/- The walk of rule.Parse. -/
import Derived.Test.YtibinlpbcoihoaaGreatDoorRuW5
import Derived.Test.YtibinlpbcoihoaaGreatDoorG08
import Derived.Test.YtibinlpbcoihoaaGreatDoorG09
import Derived.BigQuiet
import Derived.OrdersHeld
set_option linter.unusedSimpArgs false
set_option linter.unusedVariables false
namespace Go.Proofs.YtibinlpbcoihoaaGreatDoor
open Go.RowKit
theorem std_lines (s : List UInt8) (m : Int) (w : World) (hs : s.length ≤ 1000000) (hm : w.cell? ⟨0, 0, none⟩ = some (.int .i64 m)) :
    Calls Tryz.prog 21 #[.string ⟨s.toArray⟩, .string ⟨#[10]⟩] w fun e w' => e = .returned (.slice (some ⟨w.heap.size, 0, none⟩) (Ru.lines s).length (Ru.lines s).length) ∧ SliceIn (fun j => w.heap.size ≤ j) 1 RStr w' (.slice (some ⟨w.heap.size, 0, none⟩) (Ru.lines s).length (Ru.lines s).length) (Ru.lines s) ∧ Below w.heap.size w w' := by
  have hsz : (⟨s.toArray⟩ : ByteArray).size = s.length := by show s.toArray.size = _; simp
  have h := Tryz.strings_Split ⟨s.toArray⟩ ⟨#[10]⟩ m w (by rw [hsz]; omega) hm (Nat.le_refl 1)
  rw [Lb.count_pieces 10 s, Lb.splitB_pieces 10 s, List.map_map] at h
  have hl2 := Ru.lines_many s
  refine h.mono ?_
  rintro e w1 ⟨he, hw⟩
  have hown := own_built w w.heap.size 9 1 (Ru.lines s).length ((Ru.lines s).map fun t => .string ⟨t.toArray⟩) (Nat.le_refl _) (by simp) (by unfold maxLen; omega)
  refine ⟨he, ?_, by rw [hw]; exact below_new w _⟩
  rw [hw]
  exact SliceIn.own hown (strs_rep _) RStr.size rfl (fun b hb => by simp only [Value.ownBlock, Option.some.injEq] at hb; omega)
theorem prefix_one (c d : UInt8) (t : List UInt8) : Lib.hasPrefix (c :: t) [d] = (c == d) := by
  unfold Lib.hasPrefix; simp [List.isPrefixOf, BEq.comm]
/-- three cells of the call's own -/
structure C3 (W : World) (g : Nat) (a b c : Value) : Prop where
  c0 : W.cell? ⟨g, 0, none⟩ = some a
  c1 : W.cell? ⟨g, 1, none⟩ = some b
  c2 : W.cell? ⟨g, 2, none⟩ = some c
  f : ∀ i, W.frozen? ⟨g, i, none⟩ = false
  lt : g < W.heap.size
section
variable {W W' : World} {g : Nat} {a b c : Value}
theorem C3.new (w : World) (t : TypeId) (a b c : Value) : C3 (w.alloc (.cells #[a, b, c] t)) w.heap.size a b c := by
  have h : ∀ (i : Nat) (u : Value), #[a, b, c][i]? = some u → (w.alloc (.cells #[a, b, c] t)).cell? ⟨w.heap.size, i, none⟩ = some u := by
    intro i u hu
    rw [cell_of_row _ _ _ _ _ _ (heap_alloc_new w _)]; exact hu
  exact ⟨h 0 a rfl, h 1 b rfl, h 2 c rfl, fun i => by simp, by simp⟩
theorem C3.below (h : C3 W g a b c) (hb : Below W.heap.size W W') : C3 W' g a b c :=
  ⟨(hb.cell (p := ⟨g, 0, none⟩) h.lt).trans h.c0, (hb.cell (p := ⟨g, 1, none⟩) h.lt).trans h.c1, (hb.cell (p := ⟨g, 2, none⟩) h.lt).trans h.c2, fun i => (frozen_below hb h.lt).trans (h.f i), Nat.lt_of_lt_of_le h.lt hb.size⟩
theorem C3.set0 (h : C3 W g a b c) (v : Value) : C3 (W.setCell ⟨g, 0, none⟩ v) g v b c :=
  ⟨World.cell?_setCell_same _ _ _ h.c0, by rw [World.cell?_setCell_other _ _ _ _ (by simp)]; exact h.c1, by rw [World.cell?_setCell_other _ _ _ _ (by simp)]; exact h.c2, fun i => by rw [World.frozen?_setCell]; exact h.f i, by simpa using h.lt⟩
theorem C3.set1 (h : C3 W g a b c) (v : Value) : C3 (W.setCell ⟨g, 1, none⟩ v) g a v c :=
  ⟨by rw [World.cell?_setCell_other _ _ _ _ (by simp)]; exact h.c0, World.cell?_setCell_same _ _ _ h.c1, by rw [World.cell?_setCell_other _ _ _ _ (by simp)]; exact h.c2, fun i => by rw [World.frozen?_setCell]; exact h.f i, by simpa using h.lt⟩
theorem C3.set2 (h : C3 W g a b c) (v : Value) : C3 (W.setCell ⟨g, 2, none⟩ v) g a b v :=
  ⟨by rw [World.cell?_setCell_other _ _ _ _ (by simp)]; exact h.c0, by rw [World.cell?_setCell_other _ _ _ _ (by simp)]; exact h.c1, World.cell?_setCell_same _ _ _ h.c2, fun i => by rw [World.frozen?_setCell]; exact h.f i, by simpa using h.lt⟩
end
namespace Ru
theorem kindOf_range (s : List UInt8) : 0 ≤ kindOf s ∧ kindOf s ≤ 4 := by unfold kindOf; repeat (first | decide | split)
theorem kindOf_word (s : List UInt8) (i : Nat) (h1 : 1 ≤ i) (h4 : i ≤ 4) : (word (i : Int) = s) ↔ kindOf s = (i : Int) := by
  have h : i = 1 ∨ i = 2 ∨ i = 3 ∨ i = 4 := by omega
  constructor
  · intro e
    rcases h with rfl | rfl | rfl | rfl <;> (subst e; rfl)
  · intro e
    unfold kindOf at e
    by_cases c1 : s = wMark
    · rw [if_pos c1] at e; rw [c1]; rcases h with rfl | rfl | rfl | rfl <;> first | rfl | (exact absurd e (by decide))
    · rw [if_neg c1] at e
      by_cases c2 : s = wBib
      · rw [if_pos c2] at e; rw [c2]; rcases h with rfl | rfl | rfl | rfl <;> first | rfl | (exact absurd e (by decide))
      · rw [if_neg c2] at e
        by_cases c3 : s = wInd
        · rw [if_pos c3] at e; rw [c3]; rcases h with rfl | rfl | rfl | rfl <;> first | rfl | (exact absurd e (by decide))
        · rw [if_neg c3] at e
          by_cases c4 : s = wCopy
          · rw [if_pos c4] at e; rw [c4]; rcases h with rfl | rfl | rfl | rfl <;> first | rfl | (exact absurd e (by decide))
          · rw [if_neg c4] at e; rcases h with rfl | rfl | rfl | rfl <;> exact absurd e (by decide)
/-- the kind as it is known ahead of the i-th tool -/
def upTo (s : List UInt8) (i : Nat) : Int := if kindOf s < (i : Int) then kindOf s else 0
theorem upTo_zero (s : List UInt8) : upTo s 0 = 0 := by unfold upTo; rw [if_neg (by have := (kindOf_range s).1; omega)]
theorem upTo_one (s : List UInt8) : upTo s 1 = 0 := by
  unfold upTo
  by_cases h : kindOf s < ((1 : Nat) : Int)
  · rw [if_pos h]; have := (kindOf_range s).1; omega
  · rw [if_neg h]
theorem upTo_five (s : List UInt8) : upTo s 5 = kindOf s := by unfold upTo; rw [if_pos (by have := (kindOf_range s).2; omega)]
theorem upTo_hit (s : List UInt8) (i : Nat) (h1 : 1 ≤ i) (h4 : i ≤ 4) (h : word (i : Int) = s) : upTo s (i + 1) = (i : Int) := by
  have := (kindOf_word s i h1 h4).1 h
  unfold upTo; rw [this, if_pos (by omega)]
theorem upTo_miss (s : List UInt8) (i : Nat) (h1 : 1 ≤ i) (h4 : i ≤ 4) (h : word (i : Int) ≠ s) : upTo s (i + 1) = upTo s i := by
  have : kindOf s ≠ (i : Int) := fun e => h ((kindOf_word s i h1 h4).2 e)
  unfold upTo
  by_cases hc : kindOf s < (i : Int)
  · rw [if_pos hc, if_pos (by omega)]
  · rw [if_neg hc, if_neg (by omega)]
theorem one4 (w0 : List UInt8) (r : List (List UInt8)) (hk : kindOf w0 = 4) : one (w0 :: r) = if r.length = 2 then some ⟨4, (w0 :: r).getD 1 [], (w0 :: r).getD 2 []⟩ else none := by
  unfold one; rw [show (w0 :: r).getD 0 [] = w0 from rfl, hk]; dsimp only; rw [if_pos rfl]
  simp only [List.length_cons]
  by_cases h : r.length = 2
  · rw [if_pos h, if_pos (by omega)]
  · rw [if_neg h, if_neg (by omega)]
theorem one0 (w0 : List UInt8) (r : List (List UInt8)) (hk : kindOf w0 = 0) : one (w0 :: r) = none := by
  unfold one; rw [show (w0 :: r).getD 0 [] = w0 from rfl, hk]; dsimp only; rw [if_neg (by decide), if_pos rfl]
theorem one123 (w0 : List UInt8) (r : List (List UInt8)) (k : Int) (h : k = 1 ∨ k = 2 ∨ k = 3) (hk : kindOf w0 = k) : one (w0 :: r) = if r.length = 1 then some ⟨k, (w0 :: r).getD 1 [], []⟩ else none := by
  unfold one; rw [show (w0 :: r).getD 0 [] = w0 from rfl, hk]; dsimp only; rw [if_neg (by omega), if_neg (by omega)]
  simp only [List.length_cons]
  by_cases h1 : r.length = 1
  · rw [if_pos h1, if_pos (by omega)]
  · rw [if_neg h1, if_neg (by omega)]
end Ru
attribute [local go_sem] run_store_func0 run_store_func1

set_option maxRecDepth 100000 in
set_option maxHeartbeats 6400000 in
theorem rule_parse (s : List UInt8) (m : Int) (w : World) (hs : s.length ≤ 9000) (hm : w.cell? ⟨0, 0, none⟩ = some (.int .i64 m)) (h0 : 0 < w.heap.size) :
    Calls Tryz.prog 7 #[.string ⟨s.toArray⟩] w fun e w' => PPost 36 s w e w' := by
  obtain ⟨i0, hi, hz0, hz1, hz2⟩ := info_parts rule_info
  have Hi := Lib.hid hi; have Hz0 := Lib.hid hz0; have Hz1 := Lib.hid hz1; have Hz2 := Lib.hid hz2; clear hi hz0 hz1 hz2
  have Hs := Lib.hid hs; clear hs
  obtain ⟨L, hL⟩ : ∃ L, L = Ru.lines s := ⟨_, rfl⟩
  have HL := Lib.hid hL
  have HLl := Lib.hid (show L.length ≤ 9001 by rw [hL]; have := Ru.lines_many s; have := Hs.out; omega)
  have HLe := Lib.hid (show ∀ x ∈ L, x.length ≤ 9000 by rw [hL]; intro x hx; have := Ru.lines_each s x hx; have := Hs.out; omega)
  have HMx := Lib.hid (show ∀ W, Below w.heap.size w W → W.cell? ⟨0, 0, none⟩ = some (.int .i64 m) from fun W hW => (hW.cell (p := ⟨0, 0, none⟩) h0).trans hm)
  clear hm h0
  have HtO := Lib.hid (rule_tools w)
  go_enter Tryz.func7, Tryz.ntmps7
  go_upto_region 2 with (go_at_call 20; have ho := HtO.out; unfold toolsV at ho; refine ho.mono ?_; clear ho; rintro e w1 ⟨rfl, _, hb1⟩; have Hb1 := Lib.hid hb1; clear hb1)
  obtain ⟨wT, hwT⟩ : ∃ W, W = w1.alloc (.cells #[.string ⟨#[]⟩, .slice none 0 0, .nilFunc,
    .string ⟨Ru.wMark.toArray⟩, .slice (some ⟨w.heap.size + 1, 0, none⟩) 4 4, .func (.func 34) #[] #[],
    .string ⟨Ru.wBib.toArray⟩, .slice (some ⟨w.heap.size + 1 + 1, 0, none⟩) 2 2, .func (.func 35) #[] #[],
    .string ⟨Ru.wInd.toArray⟩, .slice (some ⟨w.heap.size + 1 + 1 + 1, 0, none⟩) 2 2, .func (.func 36) #[] #[],
    .string ⟨Ru.wCopy.toArray⟩, .slice none 0 0, .func (.func 37) #[] #[]] 50) := ⟨_, rfl⟩
  have HCT := Lib.hid (show ∀ W, Below wT.heap.size wT W → ∀ i : Nat, i ≤ 4 → W.cell? ⟨w1.heap.size, i * 3, none⟩ = some (.string ⟨(Ru.word (i : Int)).toArray⟩) from by
    intro W hW i hi
    have hlt : w1.heap.size < wT.heap.size := by rw [hwT]; simp
    rw [hW.cell (p := ⟨w1.heap.size, i * 3, none⟩) hlt, hwT, cell_of_row _ _ _ _ _ _ (heap_alloc_new w1 _)]
    have h : i = 0 ∨ i = 1 ∨ i = 2 ∨ i = 3 ∨ i = 4 := by omega
    rcases h with rfl | rfl | rfl | rfl | rfl <;> rfl)
  have HbT := Lib.hid (show Below w.heap.size w wT by rw [hwT]; exact bseq Hb1.out (below_new _ _))
  rw [← hwT]
  generalize w1.heap.size = gT at *
  clear hwT Hb1
  have hsp := std_lines s m wT (by have := Hs.out; omega) (HMx.out _ HbT.out)
  rw [← hL] at hsp
  have Hsp := Lib.hid hsp
  clear hsp hL HtO
  go_wp2_with (go_at_call 21; refine Hsp.out.mono ?_; rintro e w2 ⟨rfl, hW, hb2⟩; have HW := Lib.hid hW.any; have Hb2 := Lib.hid hb2; clear hW hb2)
  have HC2 := Lib.hid (show ∀ W, Below w2.heap.size w2 W → ∀ i : Nat, i ≤ 4 → W.cell? ⟨gT, i * 3, none⟩ = some (.string ⟨(Ru.word (i : Int)).toArray⟩) from fun W hW => HCT.out W (bseq Hb2.out hW))
  have Hb02 := Lib.hid (bseq HbT.out Hb2.out)
  generalize wT.heap.size = gl at *
  clear Hb2
  go_loopw [5, 15] (fun ov iv wr => ∃ (k : Nat) (p : Option Addr) (c : Nat) (A : List Ru.Rl), k ≤ L.length ∧ iv = .int .i64 (k : Int) ∧ ov = .slice p A.length c ∧ OwnL w2.heap.size 36 3 RRl wr ov A ∧ Ru.parseL [] (L.take k) = some A ∧ A.length ≤ k ∧ (∀ x ∈ A, x.a.length ≤ 9000 ∧ x.b.length ≤ 9000) ∧ Below w2.heap.size w2 wr) (fun _ iv _ => L.length - (intOf iv).toNat)
  case atStart => exact ⟨0, _, _, [], Nat.zero_le _, rfl, rfl, OwnL.nil _ _ _ _ _, rfl, Nat.zero_le _, fun x hx => by simp at hx, Below.refl _ _⟩
  case round =>
    obtain ⟨k, p, c, A, hk, rfl, rfl, hO, hA, hAk, hAe, hb⟩ := hrel
    by_cases hlt : k < L.length
    · obtain ⟨x, hx⟩ : ∃ x, L[k]? = some x := ⟨_, List.getElem?_eq_getElem hlt⟩
      have hlt' : (k : Int) < (L.length : Int) := by omega
      have Hwk := Lib.hid (f2_w1 k (by have := HLl.out; omega))
      obtain ⟨st1, st2, st3⟩ := Ru.parseL_step L k x A hx hA
      have hxl := HLe.out x (List.mem_of_getElem? hx)
      have hww := nm_Words x wr (by omega)
      obtain ⟨ws, hws⟩ : ∃ ws, ws = Lb.words x := ⟨_, rfl⟩
      have hwe : ∀ u ∈ ws, u.length ≤ 9000 ∧ u ≠ [] := by rw [hws]; intro u hu; have := Ru.words_each x u hu; exact ⟨by omega, this.2⟩
      have hwl : ws.length ≤ 9001 := by rw [hws]; have := Ru.words_many x; omega
      rw [← hws] at st1 st2 st3 hww
      have ce : wr.cell? ⟨gl, k, none⟩ = some (.string ⟨x.toArray⟩) := by have := (HW.out.below hb (fun _ _ _ h => h)).cellS hx; simpa using this
      have Hst1 := Lib.hid st1; have Hst2 := Lib.hid st2; have Hst3 := Lib.hid st3; have Hww := Lib.hid hww; have Hwe := Lib.hid hwe; have Hwl := Lib.hid hwl
      have HO := Lib.hid hO; have HAk := Lib.hid hAk; have HAe := Lib.hid hAe; have Hb := Lib.hid hb; have Hlt := Lib.hid hlt
      clear st1 st2 st3 hxl hww hws hwe hwl hO hA hAk hAe hb hlt hk hx
      go_upto_region 7 with (go_at_call 22; refine Hww.out.mono ?_; rintro e w3 ⟨⟨gw, cw, rfl, _, hS3⟩, hb3⟩; have HWs := Lib.hid hS3.any; have Hb3 := Lib.hid (Hb.out.trans (hb3.mono Hb.out.size)); have HO3 := Lib.hid (HO.out.below hb3); clear hS3 hb3)
      clear ce
      cases ws with
      | nil =>
        have Hst := Lib.hid (Hst1.out rfl)
        go_wp2_with fail
        go_roundw
        case rel => exact ⟨k + 1, p, c, A, by have := Hlt.out; omega, by first | rfl | rw [Hwk.out], rfl, HO3.out, Hst.out, by have := HAk.out; omega, HAe.out, Hb3.out⟩
        case measure => have := Hlt.out; (try rw [Hwk.out]); simp [intOf]; omega
      | cons w0 r =>
        obtain ⟨c0, t, rfl⟩ : ∃ c0 t, w0 = c0 :: t := by
          cases w0 with
          | nil => exact absurd rfl (Hwe.out [] (by simp)).2
          | cons a b => exact ⟨a, b, rfl⟩
        have hsk := Ru.skip_cons c0 t r
        rw [hsk] at Hst1 Hst2 Hst3
        obtain ⟨n, hn⟩ : ∃ n, n = r.length + 1 := ⟨_, rfl⟩
        have hpf := prefix_one c0 35 t
        have hn0 : ((n : Int) == 0) = false := by rw [beq_eq_false_iff_ne]; omega
        have hnp : 0 < n := by omega
        rw [show ((c0 :: t) :: r).length = n by rw [hn]; rfl] at HWs ⊢
        have Hn := Lib.hid hn
        have HCw := Lib.hid (show ∀ W, Below w3.heap.size w3 W → ∀ i u, ((c0 :: t) :: r)[i]? = some u → W.cell? ⟨gw, i, none⟩ = some (.string ⟨u.toArray⟩) from fun W hW i u hu => by have := (HWs.out.below hW (fun _ _ _ h => h)).cellS hu; simpa using this)
        have ce := HCw.out w3 (Below.refl _ _) 0 _ rfl
        clear hn hsk
        obtain ⟨w0, hw0⟩ : ∃ w0, w0 = c0 :: t := ⟨_, rfl⟩
        rw [← hw0] at ce hpf Hst2 Hst3 HCw Hwe
        have Hpf := Lib.hid (show Calls Tryz.prog 23 #[.string ⟨w0.toArray⟩, .string ⟨#[35]⟩] w3 fun e w' => e = .returned (.bool (c0 == 35)) ∧ w' = w3 by
          refine (Tryz.strings_HasPrefix _ _ _).mono ?_
          rintro e w' ⟨rfl, rfl⟩
          exact ⟨ret_bool hpf, rfl⟩)
        clear hpf hw0
        cases h35 : (c0 == 35) with
        | true =>
          have Hst := Lib.hid (Hst1.out h35)
          have H35 := Lib.hid h35
          clear h35
          go_wp2_with (go_at_call 23; refine Hpf.out.mono ?_; rw [H35.out]; rintro e w' ⟨rfl, hw'⟩; have hw' := hw'.symm; subst hw')
          go_roundw
          case rel => exact ⟨k + 1, p, c, A, by have := Hlt.out; omega, by first | rfl | rw [Hwk.out], rfl, HO3.out, Hst.out, by have := HAk.out; omega, HAe.out, Hb3.out⟩
          case measure => have := Hlt.out; (try rw [Hwk.out]); simp [intOf]; omega
        | false =>
          have Hst2 := Lib.hid (Hst2.out h35); have Hst3 := Lib.hid (fun ho => Hst3.out h35 ho)
          have H35 := Lib.hid h35
          clear h35 Hst1
          go_upto_region 9 with (go_at_call 23; refine Hpf.out.mono ?_; rw [H35.out]; rintro e w' ⟨rfl, hw'⟩; have hw' := hw'.symm; subst hw')
          clear Hpf H35 ce
          obtain ⟨wx, hwx⟩ : ∃ W, W = w3.alloc (.cells #[.int .i64 0, .string ⟨#[]⟩, .string ⟨#[]⟩] 36) := ⟨_, rfl⟩
          have HX0 := Lib.hid (show C3 wx w3.heap.size (.int .i64 (Ru.upTo w0 0)) (.string ⟨#[]⟩) (.string ⟨#[]⟩) by rw [hwx, Ru.upTo_zero]; exact C3.new _ _ _ _ _)
          have Hbx := Lib.hid (show Below w3.heap.size w3 wx by rw [hwx]; exact below_new _ _)
          rw [← hwx]
          clear hwx
          obtain ⟨gx, hgx⟩ : ∃ gx, gx = w3.heap.size := ⟨_, rfl⟩
          have Hgx := Lib.hid hgx
          rw [← hgx] at HX0 ⊢
          clear hgx
          go_wp2_with fail
          go_loopw [31] (fun iv wr => ∃ i : Nat, i ≤ 5 ∧ iv = .int .i64 (i : Int) ∧ C3 wr gx (.int .i64 (Ru.upTo w0 i)) (.string ⟨#[]⟩) (.string ⟨#[]⟩) ∧ Below w3.heap.size w3 wr) (fun iv _ => 5 - (intOf iv).toNat)
          case atStart => exact ⟨0, Nat.zero_le _, rfl, HX0.out, Hbx.out⟩
          case round =>
            clear HX0 Hbx
            obtain ⟨i, hi, rfl, hX, hbi⟩ := hrel
            by_cases hi5 : i < 5
            · have hi5' : (i : Int) < 5 := by omega
              have Hwi := Lib.hid (f2_w1 i (by omega))
              have HX := Lib.hid hX; have Hbi := Lib.hid hbi; have Hi5 := Lib.hid hi5
              rcases Nat.eq_zero_or_pos i with hz | hz
              · have Hup := Lib.hid (show Ru.upTo w0 (i + 1) = Ru.upTo w0 i by rw [hz, Ru.upTo_one, Ru.upTo_zero])
                have hd : decide (0 < (i : Int)) = false := decide_eq_false (by omega)
                have hd2 : decide (0 < i) = false := decide_eq_false (by omega)
                clear hX hbi hi5 hi hz
                go_wp2_with fail
                go_quiet (fail)
                go_wp2_with fail
                go_roundw
                case rel => exact ⟨i + 1, by have := Hi5.out; omega, by first | rfl | rw [Hwi.out], by rw [Hup.out]; exact HX.out.below (below_drewN (Below.refl _ _) _), below_drewN Hbi.out _⟩
                case measure => have := Hi5.out; (try rw [Hwi.out]); simp [intOf]; omega
              · have hd : decide (0 < (i : Int)) = true := decide_eq_true (by omega)
                have hd2 : 0 < i := hz
                have ct := HC2.out wr (Hb3.out.trans (hbi.mono Hb3.out.size)) i (by omega)
                have cw := HCw.out wr hbi 0 w0 rfl
                cases hc : (Ru.word (i : Int) == w0) with
                | false =>
                  have Hup := Lib.hid (show Ru.upTo w0 (i + 1) = Ru.upTo w0 i from Ru.upTo_miss w0 i hz (by omega) (fun e => by rw [e] at hc; simp at hc))
                  clear hX hbi hi5 hi hz
                  go_wp2_with fail
                  go_quiet (fail)
                  go_wp2_with fail
                  go_roundw
                  case rel => exact ⟨i + 1, by have := Hi5.out; omega, by first | rfl | rw [Hwi.out], by rw [Hup.out]; exact HX.out.below (below_drewN (Below.refl _ _) _), below_drewN Hbi.out _⟩
                  case measure => have := Hi5.out; (try rw [Hwi.out]); simp [intOf]; omega
                | true =>
                  have Hup := Lib.hid (show Ru.upTo w0 (i + 1) = (i : Int) from Ru.upTo_hit w0 i hz (by omega) (eq_of_beq hc))
                  clear hX hbi hi5 hi hz
                  go_wp2_with fail
                  go_quiet (fail)
                  clear ct cw hc hd
                  obtain ⟨x0, x1, x2, xf, xl⟩ := HX.out
                  have xf0 := xf 0
                  go_wp2_with fail
                  go_roundw
                  case rel =>
                    refine ⟨i + 1, by have := Hi5.out; omega, by first | rfl | rw [Hwi.out], ?_, ?_⟩
                    · rw [Hup.out]
                      exact (HX.out.below (below_drewN (Below.refl _ _) _)).set0 _
                    · exact (below_drewN Hbi.out _).setCell (p := ⟨gx, 0, none⟩) (by rw [Hgx.out]; exact Nat.le_refl _) _
                  case measure => have := Hi5.out; (try rw [Hwi.out]); simp [intOf]; omega
            · have he : i = 5 := by omega
              subst he
              rw [Ru.upTo_five] at hX

              clear hi5 hi
              have hrg := Ru.kindOf_range w0
              obtain ⟨K, hK⟩ : ∃ K, K = Ru.kindOf w0 := ⟨_, rfl⟩
              rw [← hK] at hX hrg
              have HX := Lib.hid hX; have Hbi := Lib.hid hbi; have HK := Lib.hid hK
              clear hX hbi hK
              obtain ⟨x0, x1, x2, xf, xl⟩ := HX.out
              have xf1 := xf 1; have xf2 := xf 2
              clear xf xl
              have hKc : K = 0 ∨ K = 4 ∨ (K = 1 ∨ K = 2 ∨ K = 3) := by omega
              clear hrg
              rcases hKc with hk | hk | hk
              · subst hk
                have Hno := Lib.hid (Ru.parse_bad (by rw [← HL.out]; exact Hst3.out (Ru.one0 w0 r HK.out.symm)))
                have HkV := Lib.hid (show Ru.known 0 = false from rfl)
                go_wp2_with (go_at_call 24; have ho := rule_known ⟨0, [], []⟩ wr; unfold rlV at ho; refine ho.mono ?_; clear ho; rw [show Ru.known 0 = false from HkV.out]; rintro e w4 ⟨rfl, hb4⟩; have Hb4 := Lib.hid hb4; clear hb4)
                go_ret2
                exact PPost.bad Hno.out (by first | rfl | simp) (bseq Hb02.out (Hb3.out.trans ((Hbi.out.trans (Hb4.out.mono Hbi.out.size)).mono Hb3.out.size)))
              · subst hk
                by_cases hr : r.length = 2
                · obtain ⟨u1, u2, rfl⟩ : ∃ u1 u2, r = [u1, u2] := by
                    cases r with
                    | nil => simp at hr
                    | cons a t => cases t with
                      | nil => simp at hr
                      | cons b t => cases t with
                        | nil => exact ⟨a, b, rfl⟩
                        | cons _ _ => simp at hr
                  have hn3 : n = 3 := Hn.out
                  have ho : Ru.one [w0, u1, u2] = some ⟨4, u1, u2⟩ := by rw [Ru.one4 w0 _ HK.out.symm]; rfl
                  have Hst := Lib.hid (Hst2.out _ ho)
                  have Hye := Lib.hid (Ru.one_len ho (fun u hu => (Hwe.out u hu).1))
                  subst hn3
                  clear hr hn0 hnp ho
                  go_upto_region 17 with fail
                  clear x0
                  refine wp_region_any (by kernel_rfl) ?_
                  change wpAny _ _ _ _ _ _ _ (World.drew _)
                  skip
                  refine wpAny_of_held (S := fun W => Below w3.heap.size w3 W) _ _ _ _ ?_
                  have hS1 : Below w3.heap.size w3 wr.drew := Hbi.out.drew
                  have hS2 : (fun W => Below w3.heap.size w3 W) wr.drew := hS1
                  refine wpAnyH_take (i := 0) (v := ?v1) rfl (by kernel_rfl) (by kernel_rfl) (by kernel_rfl) (fun _ _ _ h => h) (Or.inl ⟨by kernel_rfl, fun W hW => ?h1⟩) (by assumption) ?_
                  case h1 => (go_simp; rfl)
                  refine wpAnyH_take (i := 1) (v := ?v2) rfl (by kernel_rfl) (by kernel_rfl) (by kernel_rfl) (fun _ _ _ h => h) (Or.inl ⟨by kernel_rfl, fun W hW => ?h2⟩) (by assumption) ?_
                  case h2 => (go_simp; rfl)
                  refine wpAnyH_take (i := 2) (v := ?v3) rfl (by kernel_rfl) (by kernel_rfl) (by kernel_rfl) (fun _ _ _ h => h) (Or.inl ⟨by kernel_rfl, fun W hW => ?h3⟩) (by assumption) ?_
                  case h3 => (have c1 := HCw.out W hW 1 u1 rfl; have c2 := HCw.out W hW 2 u2 rfl; go_simp; rfl)
                  refine wpAnyH_take (i := 3) (v := ?v4) rfl (by kernel_rfl) (by kernel_rfl) (by kernel_rfl) (fun _ _ _ h => h) (Or.inl ⟨by kernel_rfl, fun W hW => ?h4⟩) (by assumption) ?_
                  case h4 => (go_simp; rfl)
                  refine wpAnyH_take (i := 4) (v := ?v5) rfl (by kernel_rfl) (by kernel_rfl) (by kernel_rfl) (fun _ _ _ h => h) (Or.inl ⟨by kernel_rfl, fun W hW => ?h5⟩) (by assumption) ?_
                  case h5 => (go_simp; rfl)
                  refine wpAnyH_take (i := 5) (v := ?v6) rfl (by kernel_rfl) (by kernel_rfl) (by kernel_rfl) (fun _ _ _ h => h) (Or.inl ⟨by kernel_rfl, fun W hW => ?h6⟩) (by assumption) ?_
                  case h6 => (have c1 := HCw.out W hW 1 u1 rfl; have c2 := HCw.out W hW 2 u2 rfl; go_simp; rfl)
                  refine wpAnyH_take (i := 6) (v := ?v7) rfl (by kernel_rfl) (by kernel_rfl) (by kernel_rfl) (fun _ _ _ h => h) (Or.inl ⟨by kernel_rfl, fun W hW => ?h7⟩) (by assumption) ?_
                  case h7 => (go_simp; rfl)
                  refine wpAnyH_ready (rs := [7]) (by kernel_rfl) (by simp) ?_
                  refine AllReadyH.cons rfl (fun K hK => ?_) AllReadyH.nil
                  try simp only [Act.put, List.getElem_toArray, List.getElem_cons_zero, List.getElem_cons_succ, List.setIfInBounds_toArray, List.set_cons_zero, List.set_cons_succ]
                  have q1 := (HX.out.below (Below.refl _ _).drew).c1; have q2 := (HX.out.below (Below.refl _ _).drew).f 1
                  go_simp
                  refine hK.out _ _ (hS1.setCell (p := ⟨gx, 1, none⟩) (by rw [Hgx.out]; exact Nat.le_refl _) _) (fun _ => ?_)
                  clear K hK
                  try simp only [Act.put, List.getElem_toArray, List.getElem_cons_zero, List.getElem_cons_succ, List.setIfInBounds_toArray, List.set_cons_zero, List.set_cons_succ]
                  refine wpAnyH_take (i := 8) (v := ?v8) rfl (by kernel_rfl) (by kernel_rfl) (by kernel_rfl) (fun _ _ _ h => h) (Or.inl ⟨by kernel_rfl, fun W hW => ?h8⟩) (by assumption) ?_
                  case h8 => (go_simp; rfl)
                  refine wpAnyH_ready (rs := [9]) (by kernel_rfl) (by simp) ?_
                  refine AllReadyH.cons rfl (fun K hK => ?_) AllReadyH.nil
                  try simp only [Act.put, List.getElem_toArray, List.getElem_cons_zero, List.getElem_cons_succ, List.setIfInBounds_toArray, List.set_cons_zero, List.set_cons_succ]
                  have hX1 := (HX.out.below (Below.refl _ _).drew).set1 (.string ⟨u1.toArray⟩)
                  have q1 := hX1.c2; have q2 := hX1.f 2
                  go_simp
                  refine hK.out _ _ ((hS1.setCell (p := ⟨gx, 1, none⟩) (by rw [Hgx.out]; exact Nat.le_refl _) (.string ⟨u1.toArray⟩)).setCell (p := ⟨gx, 2, none⟩) (by rw [Hgx.out]; exact Nat.le_refl _) (.string ⟨u2.toArray⟩)) (fun _ => ?_)
                  clear K hK
                  try simp only [Act.put, List.getElem_toArray, List.getElem_cons_zero, List.getElem_cons_succ, List.setIfInBounds_toArray, List.set_cons_zero, List.set_cons_succ]
                  refine wpAnyH_done (by kernel_rfl) ?_ _
                  try simp only [Act.put, List.getElem_toArray, List.getElem_cons_zero, List.getElem_cons_succ, List.setIfInBounds_toArray, List.set_cons_zero, List.set_cons_succ]
                  have HX5 := Lib.hid (((HX.out.set1 (.string ⟨u1.toArray⟩)).set2 (.string ⟨u2.toArray⟩)).below (Below.refl _ _).drew)
                  have Hb5 := Lib.hid ((Hbi.out.setCell (p := ⟨gx, 1, none⟩) (by rw [Hgx.out]; exact Nat.le_refl _) (.string ⟨u1.toArray⟩)).setCell (p := ⟨gx, 2, none⟩) (by rw [Hgx.out]; exact Nat.le_refl _) (.string ⟨u2.toArray⟩)).drew
                  clear hS1 hS2 x1 x2 xf1 xf2
                  generalize ((wr.setCell ⟨gx, 1, none⟩ (.string ⟨u1.toArray⟩)).setCell ⟨gx, 2, none⟩ (.string ⟨u2.toArray⟩)).drew = w5 at *
                  go_upto_region 20 with fail
                  obtain ⟨fl, hown, hrep⟩ := HO3.out
                  have own5 := Lib.hid (own_below hown Hb5.out); have Hrep := Lib.hid hrep
                  have Hm1 := Lib.hid (show A.length + 1 ≤ maxLen by have := HAk.out; have := Hlt.out; have := HLl.out; unfold maxLen; omega)
                  have Hn1 := Lib.hid (show (A.length + 1) * 40 ≤ 140737488355328 by have := HAk.out; have := Hlt.out; have := HLl.out; omega)
                  have Hb25 := Lib.hid (Hb3.out.trans (Hb5.out.mono Hb3.out.size))
                  have H0W := Lib.hid Hb25.out.size
                  obtain ⟨y0, y1, y2, _, _⟩ := HX5.out
                  clear hown hrep
                  go_wp2_with (at_builtin; go_loud (refine wpList_append1 rfl (.tmp 83) (.tmp 85) 22 rfl w2.heap.size 36 i0 (.agg #[.int .i64 0, .string ⟨#[]⟩, .string ⟨#[]⟩]) 3 40 Tryz.underlying22 Hi.out Hz0.out Hz1.out Hz2.out rfl (by decide) _ _ _ own5.out rfl [.int .i64 4, .string ⟨u1.toArray⟩, .string ⟨u2.toArray⟩] rfl (by simp) rfl (by simp [Value.oneCell']) Hm1.out Hn1.out H0W.out ?_); intro v2 w9 own6 g2 at2; obtain ⟨p2, cap2, hv2, _⟩ := own6.form (Nat.succ_pos _); subst hv2)
                  go_roundw
                  case rel =>
                    refine ⟨k + 1, some ⟨p2, 0, none⟩, cap2, A ++ [⟨4, u1, u2⟩], by have := Hlt.out; omega, by first | rfl | rw [Hwk.out], by rw [List.length_append]; rfl, ?_, Hst.out, by rw [List.length_append]; have := HAk.out; simp; omega, ?_, ?_⟩
                    · exact ⟨_, by rw [List.length_append]; exact own6, RepRow.snoc (R := RRl) (x := ⟨4, u1, u2⟩) (vs := [.int .i64 4, .string ⟨u1.toArray⟩, .string ⟨u2.toArray⟩]) rfl Hrep.out⟩
                    · intro z hz
                      rcases List.mem_append.1 hz with h | h
                      · exact HAe.out z h
                      · rw [List.mem_singleton.1 h]; exact Hye.out
                    · exact Hb25.out.grown g2 H0W.out (fun q e => (World.ownsRow.lt own5.out q e).1)
                  case measure => have := Hlt.out; (try rw [Hwk.out]); simp [intOf]; omega
                · have hn3 : ((n : Int) == 3) = false := by rw [beq_eq_false_iff_ne]; have := Hn.out; omega
                  have Hno := Lib.hid (Ru.parse_bad (by rw [← HL.out]; exact Hst3.out (by rw [Ru.one4 w0 r HK.out.symm, if_neg hr])))
                  clear hr
                  go_wp2_with fail
                  go_ret2
                  exact PPost.bad Hno.out (by first | rfl | simp) (bseq Hb02.out (Hb3.out.trans (Hbi.out.mono Hb3.out.size)))
              · have hk4 : (K == 4) = false := by rw [beq_eq_false_iff_ne]; omega
                have hk4' : (K != 4) = true := by rw [bne, hk4]; rfl
                have HkV := Lib.hid (show Ru.known K = true by unfold Ru.known; simp; omega)
                by_cases hr : r.length = 1
                · obtain ⟨u1, rfl⟩ : ∃ u1, r = [u1] := by
                    cases r with
                    | nil => simp at hr
                    | cons a t => cases t with
                      | nil => exact ⟨a, rfl⟩
                      | cons _ _ => simp at hr
                  have hn3 : n = 2 := Hn.out
                  have ho : Ru.one [w0, u1] = some ⟨K, u1, []⟩ := by rw [Ru.one123 w0 _ K hk HK.out.symm]; rfl
                  have Hst := Lib.hid (Hst2.out _ ho)
                  have Hye := Lib.hid (Ru.one_len ho (fun u hu => (Hwe.out u hu).1))
                  subst hn3
                  clear hr hn0 hnp ho hk
                  go_upto_region 20 with (go_at_call 24; have ho := rule_known ⟨K, [], []⟩ wr; unfold rlV at ho; refine ho.mono ?_; clear ho; rw [show Ru.known K = true from HkV.out]; rintro e w4 ⟨rfl, hb4⟩; have Hb4 := Lib.hid hb4; have z1 := ((HX.out.below hb4).c1); have z2 := (HX.out.below hb4).f 1; have c1 := HCw.out w4 (Hbi.out.trans (hb4.mono Hbi.out.size)) 1 u1 rfl; clear hb4)
                  have HX5 := Lib.hid ((HX.out.below Hb4.out).set1 (.string ⟨u1.toArray⟩))
                  have Hb5 := Lib.hid ((Hbi.out.trans (Hb4.out.mono Hbi.out.size)).setCell (p := ⟨gx, 1, none⟩) (by rw [Hgx.out]; exact Nat.le_refl _) (.string ⟨u1.toArray⟩))
                  clear x0 x1 x2 xf1 xf2 z1 z2 c1
                  generalize w4.setCell ⟨gx, 1, none⟩ (.string ⟨u1.toArray⟩) = w5 at *
                  obtain ⟨fl, hown, hrep⟩ := HO3.out
                  have own5 := Lib.hid (own_below hown Hb5.out); have Hrep := Lib.hid hrep
                  have Hm1 := Lib.hid (show A.length + 1 ≤ maxLen by have := HAk.out; have := Hlt.out; have := HLl.out; unfold maxLen; omega)
                  have Hn1 := Lib.hid (show (A.length + 1) * 40 ≤ 140737488355328 by have := HAk.out; have := Hlt.out; have := HLl.out; omega)
                  have Hb25 := Lib.hid (Hb3.out.trans (Hb5.out.mono Hb3.out.size))
                  have H0W := Lib.hid Hb25.out.size
                  obtain ⟨y0, y1, y2, _, _⟩ := HX5.out
                  clear hown hrep
                  go_wp2_with (at_builtin; go_loud (refine wpList_append1 rfl (.tmp 83) (.tmp 85) 22 rfl w2.heap.size 36 i0 (.agg #[.int .i64 0, .string ⟨#[]⟩, .string ⟨#[]⟩]) 3 40 Tryz.underlying22 Hi.out Hz0.out Hz1.out Hz2.out rfl (by decide) _ _ _ own5.out rfl [.int .i64 K, .string ⟨u1.toArray⟩, .string ⟨[].toArray⟩] rfl (by simp) rfl (by simp [Value.oneCell']) Hm1.out Hn1.out H0W.out ?_); intro v2 w9 own6 g2 at2; obtain ⟨p2, cap2, hv2, _⟩ := own6.form (Nat.succ_pos _); subst hv2)
                  go_roundw
                  case rel =>
                    refine ⟨k + 1, some ⟨p2, 0, none⟩, cap2, A ++ [⟨K, u1, []⟩], by have := Hlt.out; omega, by first | rfl | rw [Hwk.out], by rw [List.length_append]; rfl, ?_, Hst.out, by rw [List.length_append]; have := HAk.out; simp; omega, ?_, ?_⟩
                    · exact ⟨_, by rw [List.length_append]; exact own6, RepRow.snoc (R := RRl) (x := ⟨K, u1, []⟩) (vs := [.int .i64 K, .string ⟨u1.toArray⟩, .string ⟨[].toArray⟩]) rfl Hrep.out⟩
                    · intro z hz
                      rcases List.mem_append.1 hz with h | h
                      · exact HAe.out z h
                      · rw [List.mem_singleton.1 h]; exact Hye.out
                    · exact Hb25.out.grown g2 H0W.out (fun q e => (World.ownsRow.lt own5.out q e).1)
                  case measure => have := Hlt.out; (try rw [Hwk.out]); simp [intOf]; omega
                · have hn3 : ((n : Int) == 2) = false := by rw [beq_eq_false_iff_ne]; have := Hn.out; omega
                  have Hno := Lib.hid (Ru.parse_bad (by rw [← HL.out]; exact Hst3.out (by rw [Ru.one123 w0 r K hk HK.out.symm, if_neg hr])))
                  clear hr hk
                  go_wp2_with (go_at_call 24; have ho := rule_known ⟨K, [], []⟩ wr; unfold rlV at ho; refine ho.mono ?_; clear ho; rw [show Ru.known K = true from HkV.out]; rintro e w4 ⟨rfl, hb4⟩; have Hb4 := Lib.hid hb4; clear hb4)
                  go_ret2
                  exact PPost.bad Hno.out (by first | rfl | simp) (bseq Hb02.out (Hb3.out.trans ((Hbi.out.trans (Hb4.out.mono Hbi.out.size)).mono Hb3.out.size)))
    · have he : k = L.length := by omega
      subst he
      rw [List.take_length, HL.out] at hA
      have Hp := Lib.hid (Ru.parse_at hA)
      have hrr := rule_right A (.slice p A.length c) (fun _ => True) wr (hO.slice RRl.size (fun _ => True) (fun _ _ => trivial)) (by have := HLl.out; omega) (fun x hx => ⟨by have := hAe x hx; omega, by have := hAe x hx; omega⟩)
      have Hrr := Lib.hid hrr; have HO := Lib.hid hO; have Hb := Lib.hid hb
      clear hA hrr hO hb hlt hk hAk hAe
      cases hr : Ru.right A with
      | false =>
        have Hr := Lib.hid hr
        have Hno := Lib.hid (show Ru.parse s = none by rw [Hp.out, hr]; rfl)
        clear hr
        go_wp2_with (go_at_call 11; refine Hrr.out.mono ?_; rw [Hr.out]; rintro e w3 ⟨rfl, hb3⟩; have Hb3 := Lib.hid (Hb.out.trans (hb3.mono Hb.out.size)); clear hb3)
        go_ret2
        exact PPost.bad Hno.out (by first | rfl | simp) (bseq Hb02.out Hb3.out)
      | true =>
        have Hr := Lib.hid hr
        have Hyes := Lib.hid (show Ru.parse s = some A by rw [Hp.out, hr]; rfl)
        clear hr
        go_wp2_with (go_at_call 11; refine Hrr.out.mono ?_; rw [Hr.out]; rintro e w3 ⟨rfl, hb3⟩; have HO3 := Lib.hid (HO.out.below hb3); have Hb3 := Lib.hid (Hb.out.trans (hb3.mono Hb.out.size)); clear hb3)
        go_ret2
        exact PPost.ok Hyes.out (by first | rfl | simp) (HO3.out.lower Hb02.out.size) (bseq Hb02.out Hb3.out)
end Go.Proofs.YtibinlpbcoihoaaGreatDoor
