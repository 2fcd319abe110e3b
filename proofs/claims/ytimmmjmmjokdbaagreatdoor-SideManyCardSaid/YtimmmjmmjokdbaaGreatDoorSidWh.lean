/- The walks of stetlaw10's own functions, sixth part: the calls whose answers the document fixes. -/
import Derived.Test.YtimmmjmmjokdbaaGreatDoorSidWg
set_option linter.unusedSimpArgs false
set_option linter.unusedVariables false
namespace Go.Proofs.YtimmmjmmjokdbaaGreatDoor
open Go.RowKit
theorem fix_side (w : World) : ∃ W, W = ((((w.alloc (.cells #[.string ⟨#[107]⟩, .string ⟨#[49, 46, 50]⟩, .int .i64 3] 42)).alloc (.cells #[.int .i64 1, .string ⟨#[49]⟩, .string ⟨#[65, 32, 98]⟩, .int .i64 1] 56)).alloc (.cells #[.string ⟨#[99]⟩] 9)).alloc (.cells #[.string ⟨#[114, 101, 102, 115]⟩] 9)).alloc (.cells #[.slice (some ⟨w.heap.size, 0, none⟩) 1 1, .slice (some ⟨w.heap.size + 1, 0, none⟩) 1 1, .slice (some ⟨w.heap.size + 2, 0, none⟩) 1 1, .slice (some ⟨w.heap.size + 3, 0, none⟩) 1 1] 26) ∧ SideIn (fun _ => True) W (.agg #[.slice (some ⟨w.heap.size, 0, none⟩) 1 1, .slice (some ⟨w.heap.size + 1, 0, none⟩) 1 1, .slice (some ⟨w.heap.size + 2, 0, none⟩) 1 1, .slice (some ⟨w.heap.size + 3, 0, none⟩) 1 1]) Sd.x0 ∧ (∀ (i : Nat) (u : Value), (#[.slice (some ⟨w.heap.size, 0, none⟩) 1 1, .slice (some ⟨w.heap.size + 1, 0, none⟩) 1 1, .slice (some ⟨w.heap.size + 2, 0, none⟩) 1 1, .slice (some ⟨w.heap.size + 3, 0, none⟩) 1 1] : Array Value)[i]? = some u → W.cell? ⟨w.heap.size + 4, i, none⟩ = some u) ∧ Below w.heap.size w W ∧ w.heap.size + 4 < W.heap.size := by
  obtain ⟨wa, ha⟩ : ∃ wa, wa = w.alloc (.cells #[.string ⟨#[107]⟩, .string ⟨#[49, 46, 50]⟩, .int .i64 3] 42) := ⟨_, rfl⟩
  obtain ⟨wb, hb⟩ : ∃ wb, wb = wa.alloc (.cells #[.int .i64 1, .string ⟨#[49]⟩, .string ⟨#[65, 32, 98]⟩, .int .i64 1] 56) := ⟨_, rfl⟩
  obtain ⟨wc, hc⟩ : ∃ wc, wc = wb.alloc (.cells #[.string ⟨#[99]⟩] 9) := ⟨_, rfl⟩
  obtain ⟨wd, hd⟩ : ∃ wd, wd = wc.alloc (.cells #[.string ⟨#[114, 101, 102, 115]⟩] 9) := ⟨_, rfl⟩
  obtain ⟨wx, hx⟩ : ∃ wx, wx = wd.alloc (.cells #[.slice (some ⟨w.heap.size, 0, none⟩) 1 1, .slice (some ⟨w.heap.size + 1, 0, none⟩) 1 1, .slice (some ⟨w.heap.size + 2, 0, none⟩) 1 1, .slice (some ⟨w.heap.size + 3, 0, none⟩) 1 1] 26) := ⟨_, rfl⟩
  have sa : wa.heap.size = w.heap.size + 1 := by rw [ha]; simp
  have sb : wb.heap.size = w.heap.size + 2 := by rw [hb]; simp [sa]
  have sc : wc.heap.size = w.heap.size + 3 := by rw [hc]; simp [sb]
  have sd : wd.heap.size = w.heap.size + 4 := by rw [hd]; simp [sc]
  have sx : wx.heap.size = w.heap.size + 5 := by rw [hx]; simp [sd]
  have qa : SliceIn (fun _ => True) 3 RLab wa (.slice (some ⟨w.heap.size, 0, none⟩) 1 1) Sd.x0.labs := by
    rw [ha]; exact built1 w 42 RLab 3 Sd.x0.labs (#[.string ⟨#[107]⟩, .string ⟨#[49, 46, 50]⟩, .int .i64 3] : Array Value).toList ⟨_, [], (List.append_nil _).symm, rfl, rfl⟩ RLab.size (by decide)
  have qb : SliceIn (fun _ => True) 4 RHd wb (.slice (some ⟨w.heap.size + 1, 0, none⟩) 1 1) Sd.x0.heads := by
    have := built1 wa 56 RHd 4 Sd.x0.heads (#[.int .i64 1, .string ⟨#[49]⟩, .string ⟨#[65, 32, 98]⟩, .int .i64 1] : Array Value).toList ⟨_, [], (List.append_nil _).symm, rfl, rfl⟩ RHd.size (by decide)
    rw [sa] at this
    rw [hb]; exact this
  have qc : SliceIn (fun _ => True) 1 RStr wc (.slice (some ⟨w.heap.size + 2, 0, none⟩) 1 1) Sd.x0.cites := by
    have := built1 wb 9 RStr 1 Sd.x0.cites (#[.string ⟨#[99]⟩] : Array Value).toList ⟨_, [], (List.append_nil _).symm, rfl, rfl⟩ RStr.size (by decide)
    rw [sb] at this
    rw [hc]; exact this
  have qd : SliceIn (fun _ => True) 1 RStr wd (.slice (some ⟨w.heap.size + 3, 0, none⟩) 1 1) Sd.x0.bibs := by
    have := built1 wc 9 RStr 1 Sd.x0.bibs (#[.string ⟨#[114, 101, 102, 115]⟩] : Array Value).toList ⟨_, [], (List.append_nil _).symm, rfl, rfl⟩ RStr.size (by decide)
    rw [sc] at this
    rw [hd]; exact this
  have ba : Below w.heap.size w wa := by rw [ha]; exact below_new w _
  have bb : Below wa.heap.size wa wb := by rw [hb]; exact below_new wa _
  have bc : Below wb.heap.size wb wc := by rw [hc]; exact below_new wb _
  have bd : Below wc.heap.size wc wd := by rw [hd]; exact below_new wc _
  have bx : Below wd.heap.size wd wx := by rw [hx]; exact below_new wd _
  refine ⟨wx, by rw [hx, hd, hc, hb, ha], ⟨_, _, _, _, rfl, (((qa.below' bb).below' bc).below' bd).below' bx, ((qb.below' bc).below' bd).below' bx, (qc.below' bd).below' bx, qd.below' bx⟩, ?_, bseq (bseq (bseq (bseq ba bb) bc) bd) bx, by omega⟩
  intro i u hu
  rw [← sd, hx, cell_of_row _ _ _ _ _ _ (heap_alloc_new wd _)]
  exact hu
theorem x0_sm : SideSm Sd.x0 := ⟨by decide, by decide, by decide, by decide, by decide, by decide, by decide, by decide⟩
theorem none_sm : SideSm Sd.none_ := ⟨by decide, by decide, by decide, by decide, by simp [Sd.none_], by simp [Sd.none_], by simp [Sd.none_], by simp [Sd.none_]⟩
theorem wrong_sm : SideSm ⟨[], [], [[]], []⟩ := ⟨by decide, by decide, by decide, by decide, by simp, by simp, by decide, by simp⟩
theorem side_nil (W : World) : SideIn (fun _ => True) W (.agg #[.slice none 0 0, .slice none 0 0, .slice none 0 0, .slice none 0 0]) Sd.none_ := ⟨_, _, _, _, rfl, SliceIn.nil _ _ _ _, SliceIn.nil _ _ _ _, SliceIn.nil _ _ _ _, SliceIn.nil _ _ _ _⟩
theorem fix_enc0 : Sd.enc Sd.x0 = (Sd.s0, 0) := by unfold Sd.enc; rw [Sd.fix_right, Sd.fix_enc]; rfl
/-- four cells of a block that stand -/
def Four (g : Nat) (W : World) (vs : Array Value) : Prop := g < W.heap.size ∧ ∀ (i : Nat) (u : Value), vs[i]? = some u → W.cell? ⟨g, i, none⟩ = some u
theorem Four.below {g : Nat} {W W' : World} {vs : Array Value} (h : Four g W vs) (hb : Below W.heap.size W W') : Four g W' vs := ⟨Nat.lt_of_lt_of_le h.1 hb.size, fun i u hu => (hb.cell (p := ⟨g, i, none⟩) h.1).trans (h.2 i u hu)⟩
theorem Four.made (W : World) (vs : Array Value) (t : TypeId) : Four W.heap.size (W.alloc (.cells vs t)) vs := ⟨lt_alloc _ _, fun i u hu => by rw [cell_of_row _ _ _ _ _ _ (heap_alloc_new W _)]; exact hu⟩
set_option maxRecDepth 100000 in
set_option maxHeartbeats 6400000 in
theorem law10_fixed (w : World) (hL : Laid10 w) :
    Calls Tryz.prog 20 #[] w fun e w' => e = .returned (.bool true) ∧ Below w.heap.size w w' := by
  have HL := Lib.hid hL; clear hL
  go_enter Tryz.func20, Tryz.ntmps20
  go_upto_region 2 with fail
  obtain ⟨wx, hwx, hSI, h4, hb, hz⟩ := fix_side w
  rw [← hwx]
  have HX := Lib.hid hSI; have HB := Lib.hid hb
  have HF1 := Lib.hid (show Four (w.heap.size + 4) wx #[.slice (some ⟨w.heap.size, 0, none⟩) 1 1, .slice (some ⟨w.heap.size + 1, 0, none⟩) 1 1, .slice (some ⟨w.heap.size + 2, 0, none⟩) 1 1, .slice (some ⟨w.heap.size + 3, 0, none⟩) 1 1] from ⟨hz, h4⟩)
  obtain ⟨g1, hg1⟩ : ∃ g1, g1 = w.heap.size + 4 := ⟨_, rfl⟩
  rw [← hg1] at HF1 ⊢
  obtain ⟨s0p, s1p, s2p, s3p, hs0p⟩ : ∃ a b c d : Value, (#[.slice (some ⟨w.heap.size, 0, none⟩) 1 1, .slice (some ⟨w.heap.size + 1, 0, none⟩) 1 1, .slice (some ⟨w.heap.size + 2, 0, none⟩) 1 1, .slice (some ⟨w.heap.size + 3, 0, none⟩) 1 1] : Array Value) = #[a, b, c, d] ∧ a = .slice (some ⟨w.heap.size, 0, none⟩) 1 1 ∧ b = .slice (some ⟨w.heap.size + 1, 0, none⟩) 1 1 ∧ c = .slice (some ⟨w.heap.size + 2, 0, none⟩) 1 1 ∧ d = .slice (some ⟨w.heap.size + 3, 0, none⟩) 1 1 := ⟨_, _, _, _, rfl, rfl, rfl, rfl, rfl⟩
  have c0 := HF1.out.2 0 _ rfl; have c1 := HF1.out.2 1 _ rfl; have c2 := HF1.out.2 2 _ rfl; have c3 := HF1.out.2 3 _ rfl
  clear hSI h4 hb hz hwx hs0p hg1
  go_upto_region 3 with (go_at_call 10; refine (side_encode Sd.x0 _ _ _ (HL.out.below HB.out) HX.out x0_sm).mono ?_; rw [fix_enc0]; rintro e w2 ⟨rfl, hb⟩; replace HF1 := Lib.hid (HF1.out.below hb); replace HX := Lib.hid (HX.out.below hb); replace HB := Lib.hid (HB.out.trans (hb.mono HB.out.size)); clear hb)
  clear c0 c1 c2 c3
  go_upto_region 4 with (go_at_call 13; refine (side_decode Sd.s0 _ (HL.out.below HB.out) (by decide)).mono ?_; rintro e w3 ⟨hb, hm⟩; rw [Sd.fix_dec] at hm; obtain ⟨vy, hY, _, rfl⟩ := hm; have HY := Lib.hid hY; replace HF1 := Lib.hid (HF1.out.below hb); replace HX := Lib.hid (HX.out.below hb); replace HB := Lib.hid (HB.out.trans (hb.mono HB.out.size)); clear hb; obtain ⟨y0, y1, y2, y3, rfl, ⟨py0, cy0, rfl, _⟩, ⟨py1, cy1, rfl, _⟩, ⟨py2, cy2, rfl, _⟩, ⟨py3, cy3, rfl, _⟩⟩ := hY)
  obtain ⟨w3x, hwx⟩ : ∃ W, W = w3.alloc (.cells #[.slice py0 Sd.x0.labs.length cy0, .slice py1 Sd.x0.heads.length cy1, .slice py2 Sd.x0.cites.length cy2, .slice py3 Sd.x0.bibs.length cy3] 26) := ⟨_, rfl⟩
  obtain ⟨g3, hg⟩ : ∃ g, g = w3.heap.size := ⟨_, rfl⟩
  rw [← hwx, ← hg]
  have hb : Below w3.heap.size w3 w3x := by rw [hwx]; exact below_new _ _
  replace HX := Lib.hid (HX.out.below hb)
  replace HF1 := Lib.hid (HF1.out.below hb)
  replace HY := Lib.hid (HY.out.below hb)
  replace HB := Lib.hid (HB.out.trans (hb.mono HB.out.size))
  have HF2 := Lib.hid (show Four g3 w3x #[.slice py0 Sd.x0.labs.length cy0, .slice py1 Sd.x0.heads.length cy1, .slice py2 Sd.x0.cites.length cy2, .slice py3 Sd.x0.bibs.length cy3] from by rw [hg, hwx]; exact Four.made _ _ _)
  clear hb hwx hg
  go_upto_region 5 with (go_at_call 13; refine (side_decode [120] _ (HL.out.below HB.out) (by decide)).mono ?_; rintro e w5 ⟨hb, hm⟩; rw [Sd.fix_x] at hm; obtain rfl := hm; replace HX := Lib.hid (HX.out.below hb); replace HF1 := Lib.hid (HF1.out.below hb); replace HY := Lib.hid (HY.out.below hb); replace HF2 := Lib.hid (HF2.out.below hb); replace HB := Lib.hid (HB.out.trans (hb.mono HB.out.size)); clear hb)
  obtain ⟨w5x, hwx⟩ : ∃ W, W = w5.alloc (.cells #[.slice none 0 0, .slice none 0 0, .slice none 0 0, .slice none 0 0] 26) := ⟨_, rfl⟩
  obtain ⟨g5, hg⟩ : ∃ g, g = w5.heap.size := ⟨_, rfl⟩
  rw [← hwx, ← hg]
  have hb : Below w5.heap.size w5 w5x := by rw [hwx]; exact below_new _ _
  replace HX := Lib.hid (HX.out.below hb)
  replace HF1 := Lib.hid (HF1.out.below hb)
  replace HY := Lib.hid (HY.out.below hb)
  replace HF2 := Lib.hid (HF2.out.below hb)
  replace HB := Lib.hid (HB.out.trans (hb.mono HB.out.size))
  clear hb hwx hg
  go_upto_region 6 with (go_at_call 13; refine (side_decode [49, 50, 58, 52, 58, 99, 105, 116, 101, 44, 50, 58, 97, 32, 44, 44] _ (HL.out.below HB.out) (by decide)).mono ?_; rintro e w6 ⟨hb, hm⟩; rw [Sd.fix_blank] at hm; obtain rfl := hm; replace HX := Lib.hid (HX.out.below hb); replace HF1 := Lib.hid (HF1.out.below hb); replace HY := Lib.hid (HY.out.below hb); replace HF2 := Lib.hid (HF2.out.below hb); replace HB := Lib.hid (HB.out.trans (hb.mono HB.out.size)); clear hb)
  obtain ⟨w6x, hwx⟩ : ∃ W, W = w6.alloc (.cells #[.slice none 0 0, .slice none 0 0, .slice none 0 0, .slice none 0 0] 26) := ⟨_, rfl⟩
  obtain ⟨g6, hg⟩ : ∃ g, g = w6.heap.size := ⟨_, rfl⟩
  rw [← hwx, ← hg]
  have hb : Below w6.heap.size w6 w6x := by rw [hwx]; exact below_new _ _
  replace HX := Lib.hid (HX.out.below hb)
  replace HF1 := Lib.hid (HF1.out.below hb)
  replace HY := Lib.hid (HY.out.below hb)
  replace HF2 := Lib.hid (HF2.out.below hb)
  replace HB := Lib.hid (HB.out.trans (hb.mono HB.out.size))
  clear hb hwx hg
  go_upto_region 7 with (go_at_call 13; refine (side_decode [49, 49, 58, 52, 58, 99, 105, 116, 101, 44, 49, 58, 97, 44, 44, 49, 49, 58, 52, 58, 99, 105, 116, 101, 44, 49, 58, 97, 44, 44] _ (HL.out.below HB.out) (by decide)).mono ?_; rintro e w7 ⟨hb, hm⟩; rw [Sd.fix_twice] at hm; obtain rfl := hm; replace HX := Lib.hid (HX.out.below hb); replace HF1 := Lib.hid (HF1.out.below hb); replace HY := Lib.hid (HY.out.below hb); replace HF2 := Lib.hid (HF2.out.below hb); replace HB := Lib.hid (HB.out.trans (hb.mono HB.out.size)); clear hb)
  obtain ⟨w7x, hwx⟩ : ∃ W, W = w7.alloc (.cells #[.slice none 0 0, .slice none 0 0, .slice none 0 0, .slice none 0 0] 26) := ⟨_, rfl⟩
  obtain ⟨g7, hg⟩ : ∃ g, g = w7.heap.size := ⟨_, rfl⟩
  rw [← hwx, ← hg]
  have hb : Below w7.heap.size w7 w7x := by rw [hwx]; exact below_new _ _
  replace HX := Lib.hid (HX.out.below hb)
  replace HF1 := Lib.hid (HF1.out.below hb)
  replace HY := Lib.hid (HY.out.below hb)
  replace HF2 := Lib.hid (HF2.out.below hb)
  replace HB := Lib.hid (HB.out.trans (hb.mono HB.out.size))
  clear hb hwx hg
  go_upto_region 8 with (go_at_call 13; refine (side_decode [] _ (HL.out.below HB.out) (by decide)).mono ?_; rintro e w8 ⟨hb, hm⟩; rw [Sd.fix_empty] at hm; obtain ⟨vn, hN, _, rfl⟩ := hm; have HN := Lib.hid hN; replace HX := Lib.hid (HX.out.below hb); replace HF1 := Lib.hid (HF1.out.below hb); replace HY := Lib.hid (HY.out.below hb); replace HF2 := Lib.hid (HF2.out.below hb); replace HB := Lib.hid (HB.out.trans (hb.mono HB.out.size)); clear hb; obtain ⟨z0, z1, z2, z3, rfl, ⟨pz0, cz0, rfl, _⟩, ⟨pz1, cz1, rfl, _⟩, ⟨pz2, cz2, rfl, _⟩, ⟨pz3, cz3, rfl, _⟩⟩ := hN)
  obtain ⟨w8x, hwx⟩ : ∃ W, W = w8.alloc (.cells #[.slice pz0 Sd.none_.labs.length cz0, .slice pz1 Sd.none_.heads.length cz1, .slice pz2 Sd.none_.cites.length cz2, .slice pz3 Sd.none_.bibs.length cz3] 26) := ⟨_, rfl⟩
  obtain ⟨g8, hg⟩ : ∃ g, g = w8.heap.size := ⟨_, rfl⟩
  rw [← hwx, ← hg]
  have hb : Below w8.heap.size w8 w8x := by rw [hwx]; exact below_new _ _
  replace HX := Lib.hid (HX.out.below hb)
  replace HF1 := Lib.hid (HF1.out.below hb)
  replace HY := Lib.hid (HY.out.below hb)
  replace HF2 := Lib.hid (HF2.out.below hb)
  replace HN := Lib.hid (HN.out.below hb)
  replace HB := Lib.hid (HB.out.trans (hb.mono HB.out.size))
  have HF3 := Lib.hid (show Four g8 w8x #[.slice pz0 Sd.none_.labs.length cz0, .slice pz1 Sd.none_.heads.length cz1, .slice pz2 Sd.none_.cites.length cz2, .slice pz3 Sd.none_.bibs.length cz3] from by rw [hg, hwx]; exact Four.made _ _ _)
  clear hb hwx hg
  have c0 := HF1.out.2 0 _ rfl; have c1 := HF1.out.2 1 _ rfl; have c2 := HF1.out.2 2 _ rfl; have c3 := HF1.out.2 3 _ rfl
  go_upto_region 9 with (go_at_call 15; refine (side_find Sd.x0 _ [107] _ _ HX.out (by decide)).mono ?_; rw [Sd.fix_find]; rintro e w9 ⟨he, hb⟩; obtain rfl : e = .returned (.tuple #[.agg #[.string ⟨#[107]⟩, .string ⟨#[49, 46, 50]⟩, .int .i64 3], .bool true]) := he; replace HX := Lib.hid (HX.out.below hb); replace HF1 := Lib.hid (HF1.out.below hb); replace HY := Lib.hid (HY.out.below hb); replace HF2 := Lib.hid (HF2.out.below hb); replace HN := Lib.hid (HN.out.below hb); replace HF3 := Lib.hid (HF3.out.below hb); replace HB := Lib.hid (HB.out.trans (hb.mono HB.out.size)); clear hb)
  clear c0 c1 c2 c3
  obtain ⟨w9x, hwx⟩ : ∃ W, W = w9.alloc (.cells #[.string ⟨#[107]⟩, .string ⟨#[49, 46, 50]⟩, .int .i64 3] 42) := ⟨_, rfl⟩
  obtain ⟨g9, hg⟩ : ∃ g, g = w9.heap.size := ⟨_, rfl⟩
  rw [← hwx, ← hg]
  have hb : Below w9.heap.size w9 w9x := by rw [hwx]; exact below_new _ _
  replace HX := Lib.hid (HX.out.below hb)
  replace HF1 := Lib.hid (HF1.out.below hb)
  replace HY := Lib.hid (HY.out.below hb)
  replace HF2 := Lib.hid (HF2.out.below hb)
  replace HN := Lib.hid (HN.out.below hb)
  replace HF3 := Lib.hid (HF3.out.below hb)
  replace HB := Lib.hid (HB.out.trans (hb.mono HB.out.size))
  have HF4 := Lib.hid (show Four g9 w9x #[.string ⟨#[107]⟩, .string ⟨#[49, 46, 50]⟩, .int .i64 3] from by rw [hg, hwx]; exact Four.made _ _ _)
  clear hb hwx hg
  have c0 := HF1.out.2 0 _ rfl; have c1 := HF1.out.2 1 _ rfl; have c2 := HF1.out.2 2 _ rfl; have c3 := HF1.out.2 3 _ rfl
  go_upto_region 10 with (go_at_call 15; refine (side_find Sd.x0 _ [99] _ _ HX.out (by decide)).mono ?_; rw [Sd.fix_nofind]; rintro e wr ⟨he, hb⟩; obtain rfl : e = .returned (.tuple #[.agg #[.string ⟨#[]⟩, .string ⟨#[]⟩, .int .i64 0], .bool false]) := he; replace HX := Lib.hid (HX.out.below hb); replace HF1 := Lib.hid (HF1.out.below hb); replace HY := Lib.hid (HY.out.below hb); replace HF2 := Lib.hid (HF2.out.below hb); replace HN := Lib.hid (HN.out.below hb); replace HF3 := Lib.hid (HF3.out.below hb); replace HF4 := Lib.hid (HF4.out.below hb); replace HB := Lib.hid (HB.out.trans (hb.mono HB.out.size)); clear hb)
  clear c0 c1 c2 c3
  obtain ⟨ws, hwx⟩ : ∃ W, W = wr.alloc (.cells #[.string ⟨#[]⟩, .string ⟨#[]⟩, .int .i64 0] 42) := ⟨_, rfl⟩
  obtain ⟨g10, hg⟩ : ∃ g, g = wr.heap.size := ⟨_, rfl⟩
  rw [← hwx, ← hg]
  have hb : Below wr.heap.size wr ws := by rw [hwx]; exact below_new _ _
  replace HX := Lib.hid (HX.out.below hb)
  replace HF1 := Lib.hid (HF1.out.below hb)
  replace HY := Lib.hid (HY.out.below hb)
  replace HF2 := Lib.hid (HF2.out.below hb)
  replace HN := Lib.hid (HN.out.below hb)
  replace HF3 := Lib.hid (HF3.out.below hb)
  replace HF4 := Lib.hid (HF4.out.below hb)
  replace HB := Lib.hid (HB.out.trans (hb.mono HB.out.size))
  clear hb hwx hg
  refine wp_region_any (by kernel_rfl) ?_
  change wpAny _ _ _ _ _ _ _ (World.drew _)
  obtain ⟨w0, hw0⟩ : ∃ W, W = ws.drew := ⟨_, rfl⟩
  rw [← hw0]
  have hb : Below ws.heap.size ws w0 := by rw [hw0]; exact (Below.refl _ _).drew
  replace HX := Lib.hid (HX.out.below hb)
  replace HY := Lib.hid (HY.out.below hb)
  replace HN := Lib.hid (HN.out.below hb)
  replace HF1 := Lib.hid (HF1.out.below hb)
  replace HF2 := Lib.hid (HF2.out.below hb)
  replace HF3 := Lib.hid (HF3.out.below hb)
  replace HF4 := Lib.hid (HF4.out.below hb)
  replace HB := Lib.hid (HB.out.trans (hb.mono HB.out.size))
  clear hb hw0
  have hS : Below w0.heap.size w0 w0 := Below.refl _ _
  refine wpAny_of_held (S := fun W => Below w0.heap.size w0 W) _ _ _ _ ?_
  refine wpAnyH_take (i := 0) (v := .string ⟨Sd.s0.toArray⟩) rfl (by kernel_rfl) (by kernel_rfl) (by kernel_rfl) (fun _ _ _ h => h) (Or.inl ⟨by kernel_rfl, fun W hW => by kernel_rfl⟩) (by assumption) ?_
  try simp only [Act.put, List.getElem_toArray, List.getElem_cons_zero, List.getElem_cons_succ, List.setIfInBounds_toArray, List.set_cons_zero, List.set_cons_succ]
  refine wpAnyH_take (i := 1) (v := .bool true) rfl (by kernel_rfl) (by kernel_rfl) (by kernel_rfl) (fun _ _ _ h => h) (Or.inl ⟨by kernel_rfl, fun W hW => by kernel_rfl⟩) (by assumption) ?_
  try simp only [Act.put, List.getElem_toArray, List.getElem_cons_zero, List.getElem_cons_succ, List.setIfInBounds_toArray, List.set_cons_zero, List.set_cons_succ]
  refine wpAnyH_take (i := 2) (v := .bool true) rfl (by kernel_rfl) (by kernel_rfl) (by kernel_rfl) (fun _ _ _ h => h) (Or.inl ⟨by kernel_rfl, fun W hW => by kernel_rfl⟩) (by assumption) ?_
  try simp only [Act.put, List.getElem_toArray, List.getElem_cons_zero, List.getElem_cons_succ, List.setIfInBounds_toArray, List.set_cons_zero, List.set_cons_succ]
  refine wpAnyH_take (i := 3) (v := .int .i64 0) rfl (by kernel_rfl) (by kernel_rfl) (by kernel_rfl) (fun _ _ _ h => h) (Or.inl ⟨by kernel_rfl, fun W hW => by kernel_rfl⟩) (by assumption) ?_
  try simp only [Act.put, List.getElem_toArray, List.getElem_cons_zero, List.getElem_cons_succ, List.setIfInBounds_toArray, List.set_cons_zero, List.set_cons_succ]
  refine wpAnyH_take (i := 4) (v := .bool true) rfl (by kernel_rfl) (by kernel_rfl) (by kernel_rfl) (fun _ _ _ h => h) (Or.inl ⟨by kernel_rfl, fun W hW => by kernel_rfl⟩) (by assumption) ?_
  try simp only [Act.put, List.getElem_toArray, List.getElem_cons_zero, List.getElem_cons_succ, List.setIfInBounds_toArray, List.set_cons_zero, List.set_cons_succ]
  refine wpAnyH_take (i := 5) (v := .bool true) rfl (by kernel_rfl) (by kernel_rfl) (by kernel_rfl) (fun _ _ _ h => h) (Or.inl ⟨by kernel_rfl, fun W hW => by kernel_rfl⟩) (by assumption) ?_
  try simp only [Act.put, List.getElem_toArray, List.getElem_cons_zero, List.getElem_cons_succ, List.setIfInBounds_toArray, List.set_cons_zero, List.set_cons_succ]
  refine wpAnyH_take (i := 6) (v := .bool true) rfl (by kernel_rfl) (by kernel_rfl) (by kernel_rfl) (fun _ _ _ h => h) (Or.inl ⟨by kernel_rfl, fun W hW => by kernel_rfl⟩) (by assumption) ?_
  try simp only [Act.put, List.getElem_toArray, List.getElem_cons_zero, List.getElem_cons_succ, List.setIfInBounds_toArray, List.set_cons_zero, List.set_cons_succ]
  refine wpAnyH_take (i := 7) (v := .agg #[.slice (some ⟨w.heap.size, 0, none⟩) 1 1, .slice (some ⟨w.heap.size + 1, 0, none⟩) 1 1, .slice (some ⟨w.heap.size + 2, 0, none⟩) 1 1, .slice (some ⟨w.heap.size + 3, 0, none⟩) 1 1]) rfl (by kernel_rfl) (by kernel_rfl) (by kernel_rfl) (fun _ _ _ h => h) (Or.inl ⟨by kernel_rfl, fun W hW => by (obtain ⟨_, q⟩ := Four.below HF1.out hW; have c0 := q 0 _ rfl; have c1 := q 1 _ rfl; have c2 := q 2 _ rfl; have c3 := q 3 _ rfl; go_simp)⟩) (by assumption) ?_
  try simp only [Act.put, List.getElem_toArray, List.getElem_cons_zero, List.getElem_cons_succ, List.setIfInBounds_toArray, List.set_cons_zero, List.set_cons_succ]
  refine wpAnyH_take (i := 9) (v := .agg #[.slice py0 Sd.x0.labs.length cy0, .slice py1 Sd.x0.heads.length cy1, .slice py2 Sd.x0.cites.length cy2, .slice py3 Sd.x0.bibs.length cy3]) rfl (by kernel_rfl) (by kernel_rfl) (by kernel_rfl) (fun _ _ _ h => h) (Or.inl ⟨by kernel_rfl, fun W hW => by (obtain ⟨_, q⟩ := Four.below HF2.out hW; have c0 := q 0 _ rfl; have c1 := q 1 _ rfl; have c2 := q 2 _ rfl; have c3 := q 3 _ rfl; go_simp)⟩) (by assumption) ?_
  try simp only [Act.put, List.getElem_toArray, List.getElem_cons_zero, List.getElem_cons_succ, List.setIfInBounds_toArray, List.set_cons_zero, List.set_cons_succ]
  refine wpAnyH_ready (rs := [8]) (by kernel_rfl) (by simp) ?_
  refine AllReadyH.cons rfl (fun K hK => ?_) AllReadyH.nil
  go_simp
  go_wp2_with (go_at_call 12; refine (law10_ref Sd.x0 _ _ _ (HX.out.below hS) x0_sm).mono ?_; rintro e wa ⟨⟨v1, rfl, hR⟩, hb⟩; have HR1 := Lib.hid hR; clear hR; replace hS := hS.trans (hb.mono hS.size); clear hb)
  refine hK.out _ _ (hS) (fun _ => ?_)
  clear K hK
  try simp only [Act.put, List.getElem_toArray, List.getElem_cons_zero, List.getElem_cons_succ, List.setIfInBounds_toArray, List.set_cons_zero, List.set_cons_succ]
  refine wpAnyH_ready (rs := [10]) (by kernel_rfl) (by simp) ?_
  refine AllReadyH.cons rfl (fun K hK => ?_) AllReadyH.nil
  go_simp
  go_wp2_with (go_at_call 12; refine (law10_ref Sd.x0 _ _ _ (HY.out.below hS) x0_sm).mono ?_; rintro e wb ⟨⟨v2, rfl, hR⟩, hb⟩; have HR2 := Lib.hid hR; clear hR; replace HR1 := Lib.hid (HR1.out.below hb); replace hS := hS.trans (hb.mono hS.size); clear hb)
  refine hK.out _ _ (hS) (fun _ => ?_)
  clear K hK
  try simp only [Act.put, List.getElem_toArray, List.getElem_cons_zero, List.getElem_cons_succ, List.setIfInBounds_toArray, List.set_cons_zero, List.set_cons_succ]
  refine wpAnyH_ready (rs := [11]) (by kernel_rfl) (by simp) ?_
  refine AllReadyH.cons rfl (fun K hK => ?_) AllReadyH.nil
  go_simp
  go_wp2_with (go_at_call 19; refine (law10_same Sd.x0 Sd.x0 _ _ _ _ _ HR1.out HR2.out).mono ?_; rintro e wc ⟨he, hb⟩; obtain rfl : e = .returned (.bool true) := (by rw [he, decide_eq_true (rfl : Sd.x0 = Sd.x0)]); replace hS := hS.trans (hb.mono hS.size); clear hb he)
  refine hK.out _ _ (hS) (fun _ => ?_)
  clear K hK
  try simp only [Act.put, List.getElem_toArray, List.getElem_cons_zero, List.getElem_cons_succ, List.setIfInBounds_toArray, List.set_cons_zero, List.set_cons_succ]
  refine wpAnyH_take (i := 12) (v := .bool true) rfl (by kernel_rfl) (by kernel_rfl) (by kernel_rfl) (fun _ _ _ h => h) (Or.inl ⟨by kernel_rfl, fun W hW => by kernel_rfl⟩) (by assumption) ?_
  try simp only [Act.put, List.getElem_toArray, List.getElem_cons_zero, List.getElem_cons_succ, List.setIfInBounds_toArray, List.set_cons_zero, List.set_cons_succ]
  refine wpAnyH_take (i := 13) (v := .bool true) rfl (by kernel_rfl) (by kernel_rfl) (by kernel_rfl) (fun _ _ _ h => h) (Or.inl ⟨by kernel_rfl, fun W hW => by kernel_rfl⟩) (by assumption) ?_
  try simp only [Act.put, List.getElem_toArray, List.getElem_cons_zero, List.getElem_cons_succ, List.setIfInBounds_toArray, List.set_cons_zero, List.set_cons_succ]
  refine wpAnyH_take (i := 14) (v := .int .i64 0) rfl (by kernel_rfl) (by kernel_rfl) (by kernel_rfl) (fun _ _ _ h => h) (Or.inl ⟨by kernel_rfl, fun W hW => by kernel_rfl⟩) (by assumption) ?_
  try simp only [Act.put, List.getElem_toArray, List.getElem_cons_zero, List.getElem_cons_succ, List.setIfInBounds_toArray, List.set_cons_zero, List.set_cons_succ]
  refine wpAnyH_take (i := 15) (v := .bool true) rfl (by kernel_rfl) (by kernel_rfl) (by kernel_rfl) (fun _ _ _ h => h) (Or.inl ⟨by kernel_rfl, fun W hW => by kernel_rfl⟩) (by assumption) ?_
  try simp only [Act.put, List.getElem_toArray, List.getElem_cons_zero, List.getElem_cons_succ, List.setIfInBounds_toArray, List.set_cons_zero, List.set_cons_succ]
  refine wpAnyH_take (i := 16) (v := .bool true) rfl (by kernel_rfl) (by kernel_rfl) (by kernel_rfl) (fun _ _ _ h => h) (Or.inl ⟨by kernel_rfl, fun W hW => by kernel_rfl⟩) (by assumption) ?_
  try simp only [Act.put, List.getElem_toArray, List.getElem_cons_zero, List.getElem_cons_succ, List.setIfInBounds_toArray, List.set_cons_zero, List.set_cons_succ]
  refine wpAnyH_take (i := 17) (v := .bool true) rfl (by kernel_rfl) (by kernel_rfl) (by kernel_rfl) (fun _ _ _ h => h) (Or.inl ⟨by kernel_rfl, fun W hW => by kernel_rfl⟩) (by assumption) ?_
  try simp only [Act.put, List.getElem_toArray, List.getElem_cons_zero, List.getElem_cons_succ, List.setIfInBounds_toArray, List.set_cons_zero, List.set_cons_succ]
  refine wpAnyH_take (i := 18) (v := .int .i64 5) rfl (by kernel_rfl) (by kernel_rfl) (by kernel_rfl) (fun _ _ _ h => h) (Or.inl ⟨by kernel_rfl, fun W hW => by kernel_rfl⟩) (by assumption) ?_
  try simp only [Act.put, List.getElem_toArray, List.getElem_cons_zero, List.getElem_cons_succ, List.setIfInBounds_toArray, List.set_cons_zero, List.set_cons_succ]
  refine wpAnyH_take (i := 19) (v := .bool true) rfl (by kernel_rfl) (by kernel_rfl) (by kernel_rfl) (fun _ _ _ h => h) (Or.inl ⟨by kernel_rfl, fun W hW => by kernel_rfl⟩) (by assumption) ?_
  try simp only [Act.put, List.getElem_toArray, List.getElem_cons_zero, List.getElem_cons_succ, List.setIfInBounds_toArray, List.set_cons_zero, List.set_cons_succ]
  refine wpAnyH_take (i := 20) (v := .bool true) rfl (by kernel_rfl) (by kernel_rfl) (by kernel_rfl) (fun _ _ _ h => h) (Or.inl ⟨by kernel_rfl, fun W hW => by kernel_rfl⟩) (by assumption) ?_
  try simp only [Act.put, List.getElem_toArray, List.getElem_cons_zero, List.getElem_cons_succ, List.setIfInBounds_toArray, List.set_cons_zero, List.set_cons_succ]
  refine wpAnyH_take (i := 21) (v := .bool true) rfl (by kernel_rfl) (by kernel_rfl) (by kernel_rfl) (fun _ _ _ h => h) (Or.inl ⟨by kernel_rfl, fun W hW => by kernel_rfl⟩) (by assumption) ?_
  try simp only [Act.put, List.getElem_toArray, List.getElem_cons_zero, List.getElem_cons_succ, List.setIfInBounds_toArray, List.set_cons_zero, List.set_cons_succ]
  refine wpAnyH_take (i := 22) (v := .int .i64 5) rfl (by kernel_rfl) (by kernel_rfl) (by kernel_rfl) (fun _ _ _ h => h) (Or.inl ⟨by kernel_rfl, fun W hW => by kernel_rfl⟩) (by assumption) ?_
  try simp only [Act.put, List.getElem_toArray, List.getElem_cons_zero, List.getElem_cons_succ, List.setIfInBounds_toArray, List.set_cons_zero, List.set_cons_succ]
  refine wpAnyH_take (i := 23) (v := .bool true) rfl (by kernel_rfl) (by kernel_rfl) (by kernel_rfl) (fun _ _ _ h => h) (Or.inl ⟨by kernel_rfl, fun W hW => by kernel_rfl⟩) (by assumption) ?_
  try simp only [Act.put, List.getElem_toArray, List.getElem_cons_zero, List.getElem_cons_succ, List.setIfInBounds_toArray, List.set_cons_zero, List.set_cons_succ]
  refine wpAnyH_take (i := 24) (v := .bool true) rfl (by kernel_rfl) (by kernel_rfl) (by kernel_rfl) (fun _ _ _ h => h) (Or.inl ⟨by kernel_rfl, fun W hW => by kernel_rfl⟩) (by assumption) ?_
  try simp only [Act.put, List.getElem_toArray, List.getElem_cons_zero, List.getElem_cons_succ, List.setIfInBounds_toArray, List.set_cons_zero, List.set_cons_succ]
  refine wpAnyH_take (i := 25) (v := .bool true) rfl (by kernel_rfl) (by kernel_rfl) (by kernel_rfl) (fun _ _ _ h => h) (Or.inl ⟨by kernel_rfl, fun W hW => by kernel_rfl⟩) (by assumption) ?_
  try simp only [Act.put, List.getElem_toArray, List.getElem_cons_zero, List.getElem_cons_succ, List.setIfInBounds_toArray, List.set_cons_zero, List.set_cons_succ]
  refine wpAnyH_take (i := 26) (v := .int .i64 5) rfl (by kernel_rfl) (by kernel_rfl) (by kernel_rfl) (fun _ _ _ h => h) (Or.inl ⟨by kernel_rfl, fun W hW => by kernel_rfl⟩) (by assumption) ?_
  try simp only [Act.put, List.getElem_toArray, List.getElem_cons_zero, List.getElem_cons_succ, List.setIfInBounds_toArray, List.set_cons_zero, List.set_cons_succ]
  refine wpAnyH_take (i := 27) (v := .bool true) rfl (by kernel_rfl) (by kernel_rfl) (by kernel_rfl) (fun _ _ _ h => h) (Or.inl ⟨by kernel_rfl, fun W hW => by kernel_rfl⟩) (by assumption) ?_
  try simp only [Act.put, List.getElem_toArray, List.getElem_cons_zero, List.getElem_cons_succ, List.setIfInBounds_toArray, List.set_cons_zero, List.set_cons_succ]
  refine wpAnyH_take (i := 28) (v := .bool true) rfl (by kernel_rfl) (by kernel_rfl) (by kernel_rfl) (fun _ _ _ h => h) (Or.inl ⟨by kernel_rfl, fun W hW => by kernel_rfl⟩) (by assumption) ?_
  try simp only [Act.put, List.getElem_toArray, List.getElem_cons_zero, List.getElem_cons_succ, List.setIfInBounds_toArray, List.set_cons_zero, List.set_cons_succ]
  refine wpAnyH_take (i := 29) (v := .bool true) rfl (by kernel_rfl) (by kernel_rfl) (by kernel_rfl) (fun _ _ _ h => h) (Or.inl ⟨by kernel_rfl, fun W hW => by kernel_rfl⟩) (by assumption) ?_
  try simp only [Act.put, List.getElem_toArray, List.getElem_cons_zero, List.getElem_cons_succ, List.setIfInBounds_toArray, List.set_cons_zero, List.set_cons_succ]
  refine wpAnyH_take (i := 30) (v := .agg #[.slice pz0 Sd.none_.labs.length cz0, .slice pz1 Sd.none_.heads.length cz1, .slice pz2 Sd.none_.cites.length cz2, .slice pz3 Sd.none_.bibs.length cz3]) rfl (by kernel_rfl) (by kernel_rfl) (by kernel_rfl) (fun _ _ _ h => h) (Or.inl ⟨by kernel_rfl, fun W hW => by (obtain ⟨_, q⟩ := Four.below HF3.out hW; have c0 := q 0 _ rfl; have c1 := q 1 _ rfl; have c2 := q 2 _ rfl; have c3 := q 3 _ rfl; go_simp)⟩) (by assumption) ?_
  try simp only [Act.put, List.getElem_toArray, List.getElem_cons_zero, List.getElem_cons_succ, List.setIfInBounds_toArray, List.set_cons_zero, List.set_cons_succ]
  refine wpAnyH_take (i := 32) (v := .agg #[.slice none 0 0, .slice none 0 0, .slice none 0 0, .slice none 0 0]) rfl (by kernel_rfl) (by kernel_rfl) (by kernel_rfl) (fun _ _ _ h => h) (Or.inl ⟨by kernel_rfl, fun W hW => by kernel_rfl⟩) (by assumption) ?_
  try simp only [Act.put, List.getElem_toArray, List.getElem_cons_zero, List.getElem_cons_succ, List.setIfInBounds_toArray, List.set_cons_zero, List.set_cons_succ]
  refine wpAnyH_ready (rs := [31]) (by kernel_rfl) (by simp) ?_
  refine AllReadyH.cons rfl (fun K hK => ?_) AllReadyH.nil
  go_simp
  go_wp2_with (go_at_call 12; refine (law10_ref Sd.none_ _ _ _ (HN.out.below hS) none_sm).mono ?_; rintro e wd ⟨⟨v3, rfl, hR⟩, hb⟩; have HR3 := Lib.hid hR; clear hR; replace hS := hS.trans (hb.mono hS.size); clear hb)
  refine hK.out _ _ (hS) (fun _ => ?_)
  clear K hK
  try simp only [Act.put, List.getElem_toArray, List.getElem_cons_zero, List.getElem_cons_succ, List.setIfInBounds_toArray, List.set_cons_zero, List.set_cons_succ]
  refine wpAnyH_ready (rs := [33]) (by kernel_rfl) (by simp) ?_
  refine AllReadyH.cons rfl (fun K hK => ?_) AllReadyH.nil
  go_simp
  go_wp2_with (go_at_call 19; refine (law10_same Sd.none_ Sd.none_ _ _ _ _ _ HR3.out (side_nil _)).mono ?_; rintro e we ⟨he, hb⟩; obtain rfl : e = .returned (.bool true) := (by rw [he, decide_eq_true (rfl : Sd.none_ = Sd.none_)]); replace hS := hS.trans (hb.mono hS.size); clear hb he)
  refine hK.out _ _ (hS) (fun _ => ?_)
  clear K hK
  try simp only [Act.put, List.getElem_toArray, List.getElem_cons_zero, List.getElem_cons_succ, List.setIfInBounds_toArray, List.set_cons_zero, List.set_cons_succ]
  refine wpAnyH_take (i := 34) (v := .bool true) rfl (by kernel_rfl) (by kernel_rfl) (by kernel_rfl) (fun _ _ _ h => h) (Or.inl ⟨by kernel_rfl, fun W hW => by kernel_rfl⟩) (by assumption) ?_
  try simp only [Act.put, List.getElem_toArray, List.getElem_cons_zero, List.getElem_cons_succ, List.setIfInBounds_toArray, List.set_cons_zero, List.set_cons_succ]
  refine wpAnyH_take (i := 35) (v := .bool true) rfl (by kernel_rfl) (by kernel_rfl) (by kernel_rfl) (fun _ _ _ h => h) (Or.inl ⟨by kernel_rfl, fun W hW => by kernel_rfl⟩) (by assumption) ?_
  try simp only [Act.put, List.getElem_toArray, List.getElem_cons_zero, List.getElem_cons_succ, List.setIfInBounds_toArray, List.set_cons_zero, List.set_cons_succ]
  refine wpAnyH_take (i := 36) (v := .int .i64 0) rfl (by kernel_rfl) (by kernel_rfl) (by kernel_rfl) (fun _ _ _ h => h) (Or.inl ⟨by kernel_rfl, fun W hW => by kernel_rfl⟩) (by assumption) ?_
  try simp only [Act.put, List.getElem_toArray, List.getElem_cons_zero, List.getElem_cons_succ, List.setIfInBounds_toArray, List.set_cons_zero, List.set_cons_succ]
  refine wpAnyH_take (i := 37) (v := .bool true) rfl (by kernel_rfl) (by kernel_rfl) (by kernel_rfl) (fun _ _ _ h => h) (Or.inl ⟨by kernel_rfl, fun W hW => by kernel_rfl⟩) (by assumption) ?_
  try simp only [Act.put, List.getElem_toArray, List.getElem_cons_zero, List.getElem_cons_succ, List.setIfInBounds_toArray, List.set_cons_zero, List.set_cons_succ]
  refine wpAnyH_take (i := 38) (v := .bool true) rfl (by kernel_rfl) (by kernel_rfl) (by kernel_rfl) (fun _ _ _ h => h) (Or.inl ⟨by kernel_rfl, fun W hW => by kernel_rfl⟩) (by assumption) ?_
  try simp only [Act.put, List.getElem_toArray, List.getElem_cons_zero, List.getElem_cons_succ, List.setIfInBounds_toArray, List.set_cons_zero, List.set_cons_succ]
  refine wpAnyH_take (i := 39) (v := .bool true) rfl (by kernel_rfl) (by kernel_rfl) (by kernel_rfl) (fun _ _ _ h => h) (Or.inl ⟨by kernel_rfl, fun W hW => by kernel_rfl⟩) (by assumption) ?_
  try simp only [Act.put, List.getElem_toArray, List.getElem_cons_zero, List.getElem_cons_succ, List.setIfInBounds_toArray, List.set_cons_zero, List.set_cons_succ]
  refine wpAnyH_take (i := 40) (v := .pointer (some ⟨g9, 1, none⟩)) rfl (by kernel_rfl) (by kernel_rfl) (by kernel_rfl) (fun _ _ _ h => h) (Or.inl ⟨by kernel_rfl, fun W hW => by go_simp⟩) (by assumption) ?_
  try simp only [Act.put, List.getElem_toArray, List.getElem_cons_zero, List.getElem_cons_succ, List.setIfInBounds_toArray, List.set_cons_zero, List.set_cons_succ]
  refine wpAnyH_take (i := 41) (v := .string ⟨#[49, 46, 50]⟩) rfl (by kernel_rfl) (by kernel_rfl) (by kernel_rfl) (fun _ _ _ h => h) (Or.inl ⟨by kernel_rfl, fun W hW => by (obtain ⟨_, q⟩ := Four.below HF4.out hW; have c1 := q 1 _ rfl; go_simp)⟩) (by assumption) ?_
  try simp only [Act.put, List.getElem_toArray, List.getElem_cons_zero, List.getElem_cons_succ, List.setIfInBounds_toArray, List.set_cons_zero, List.set_cons_succ]
  refine wpAnyH_take (i := 42) (v := .bool true) rfl (by kernel_rfl) (by kernel_rfl) (by kernel_rfl) (fun _ _ _ h => h) (Or.inl ⟨by kernel_rfl, fun W hW => by kernel_rfl⟩) (by assumption) ?_
  try simp only [Act.put, List.getElem_toArray, List.getElem_cons_zero, List.getElem_cons_succ, List.setIfInBounds_toArray, List.set_cons_zero, List.set_cons_succ]
  refine wpAnyH_take (i := 43) (v := .bool true) rfl (by kernel_rfl) (by kernel_rfl) (by kernel_rfl) (fun _ _ _ h => h) (Or.inl ⟨by kernel_rfl, fun W hW => by kernel_rfl⟩) (by assumption) ?_
  try simp only [Act.put, List.getElem_toArray, List.getElem_cons_zero, List.getElem_cons_succ, List.setIfInBounds_toArray, List.set_cons_zero, List.set_cons_succ]
  refine wpAnyH_take (i := 44) (v := .bool true) rfl (by kernel_rfl) (by kernel_rfl) (by kernel_rfl) (fun _ _ _ h => h) (Or.inl ⟨by kernel_rfl, fun W hW => by kernel_rfl⟩) (by assumption) ?_
  try simp only [Act.put, List.getElem_toArray, List.getElem_cons_zero, List.getElem_cons_succ, List.setIfInBounds_toArray, List.set_cons_zero, List.set_cons_succ]
  refine wpAnyH_take (i := 45) (v := .bool true) rfl (by kernel_rfl) (by kernel_rfl) (by kernel_rfl) (fun _ _ _ h => h) (Or.inl ⟨by kernel_rfl, fun W hW => by kernel_rfl⟩) (by assumption) ?_
  try simp only [Act.put, List.getElem_toArray, List.getElem_cons_zero, List.getElem_cons_succ, List.setIfInBounds_toArray, List.set_cons_zero, List.set_cons_succ]
  refine wpAnyH_take (i := 46) (v := .bool true) rfl (by kernel_rfl) (by kernel_rfl) (by kernel_rfl) (fun _ _ _ h => h) (Or.inl ⟨by kernel_rfl, fun W hW => by kernel_rfl⟩) (by assumption) ?_
  try simp only [Act.put, List.getElem_toArray, List.getElem_cons_zero, List.getElem_cons_succ, List.setIfInBounds_toArray, List.set_cons_zero, List.set_cons_succ]
  refine wpAnyH_take (i := 47) (v := .bool true) rfl (by kernel_rfl) (by kernel_rfl) (by kernel_rfl) (fun _ _ _ h => h) (Or.inl ⟨by kernel_rfl, fun W hW => by kernel_rfl⟩) (by assumption) ?_
  try simp only [Act.put, List.getElem_toArray, List.getElem_cons_zero, List.getElem_cons_succ, List.setIfInBounds_toArray, List.set_cons_zero, List.set_cons_succ]
  refine wpAnyH_take (i := 48) (v := .bool false) rfl (by kernel_rfl) (by kernel_rfl) (by kernel_rfl) (fun _ _ _ h => h) (Or.inl ⟨by kernel_rfl, fun W hW => by kernel_rfl⟩) (by assumption) ?_
  try simp only [Act.put, List.getElem_toArray, List.getElem_cons_zero, List.getElem_cons_succ, List.setIfInBounds_toArray, List.set_cons_zero, List.set_cons_succ]
  refine wpAnyH_take (i := 49) (v := .bool true) rfl (by kernel_rfl) (by kernel_rfl) (by kernel_rfl) (fun _ _ _ h => h) (Or.inl ⟨by kernel_rfl, fun W hW => by kernel_rfl⟩) (by assumption) ?_
  try simp only [Act.put, List.getElem_toArray, List.getElem_cons_zero, List.getElem_cons_succ, List.setIfInBounds_toArray, List.set_cons_zero, List.set_cons_succ]
  refine wpAnyH_take (i := 50) (v := .bool true) rfl (by kernel_rfl) (by kernel_rfl) (by kernel_rfl) (fun _ _ _ h => h) (Or.inl ⟨by kernel_rfl, fun W hW => by kernel_rfl⟩) (by assumption) ?_
  try simp only [Act.put, List.getElem_toArray, List.getElem_cons_zero, List.getElem_cons_succ, List.setIfInBounds_toArray, List.set_cons_zero, List.set_cons_succ]
  refine wpAnyH_take (i := 51) (v := .bool true) rfl (by kernel_rfl) (by kernel_rfl) (by kernel_rfl) (fun _ _ _ h => h) (Or.inl ⟨by kernel_rfl, fun W hW => by kernel_rfl⟩) (by assumption) ?_
  try simp only [Act.put, List.getElem_toArray, List.getElem_cons_zero, List.getElem_cons_succ, List.setIfInBounds_toArray, List.set_cons_zero, List.set_cons_succ]
  refine wpAnyH_take (i := 52) (v := .agg #[.slice (some ⟨w.heap.size, 0, none⟩) 1 1, .slice (some ⟨w.heap.size + 1, 0, none⟩) 1 1, .slice (some ⟨w.heap.size + 2, 0, none⟩) 1 1, .slice (some ⟨w.heap.size + 3, 0, none⟩) 1 1]) rfl (by kernel_rfl) (by kernel_rfl) (by kernel_rfl) (fun _ _ _ h => h) (Or.inl ⟨by kernel_rfl, fun W hW => by (obtain ⟨_, q⟩ := Four.below HF1.out hW; have c0 := q 0 _ rfl; have c1 := q 1 _ rfl; have c2 := q 2 _ rfl; have c3 := q 3 _ rfl; go_simp)⟩) (by assumption) ?_
  try simp only [Act.put, List.getElem_toArray, List.getElem_cons_zero, List.getElem_cons_succ, List.setIfInBounds_toArray, List.set_cons_zero, List.set_cons_succ]
  refine wpAnyH_ready (rs := [53]) (by kernel_rfl) (by simp) ?_
  refine AllReadyH.cons rfl (fun K hK => ?_) AllReadyH.nil
  go_simp
  go_wp2_with (go_at_call 17; refine (side_right Sd.x0 _ _ _ (HX.out.below hS) x0_sm).mono ?_; rintro e wf ⟨he, hb⟩; obtain rfl : e = .returned (.bool true) := (by rw [he, Sd.fix_right]); replace hS := hS.trans (hb.mono hS.size); clear hb he)
  refine hK.out _ _ (hS) (fun _ => ?_)
  clear K hK
  try simp only [Act.put, List.getElem_toArray, List.getElem_cons_zero, List.getElem_cons_succ, List.setIfInBounds_toArray, List.set_cons_zero, List.set_cons_succ]
  refine wpAnyH_take (i := 54) (v := .bool true) rfl (by kernel_rfl) (by kernel_rfl) (by kernel_rfl) (fun _ _ _ h => h) (Or.inl ⟨by kernel_rfl, fun W hW => by kernel_rfl⟩) (by assumption) ?_
  try simp only [Act.put, List.getElem_toArray, List.getElem_cons_zero, List.getElem_cons_succ, List.setIfInBounds_toArray, List.set_cons_zero, List.set_cons_succ]
  refine wpAnyH_take (i := 55) (v := .bool true) rfl (by kernel_rfl) (by kernel_rfl) (by kernel_rfl) (fun _ _ _ h => h) (Or.inl ⟨by kernel_rfl, fun W hW => by kernel_rfl⟩) (by assumption) ?_
  try simp only [Act.put, List.getElem_toArray, List.getElem_cons_zero, List.getElem_cons_succ, List.setIfInBounds_toArray, List.set_cons_zero, List.set_cons_succ]
  refine wpAnyH_ready (rs := [56]) (by kernel_rfl) (by simp) ?_
  refine AllReadyH.cons rfl (fun K hK => ?_) AllReadyH.nil
  go_simp
  have hbn := below_new wf (.cells #[.string ⟨#[]⟩] 9)
  have HQ := Lib.hid (built1 wf 9 RStr 1 [([] : List UInt8)] [.string ⟨#[]⟩] ⟨_, [], (List.append_nil _).symm, rfl, rfl⟩ RStr.size (by decide))
  refine hK.out _ _ (hS.trans (hbn.mono hS.size)) (fun _ => ?_)
  clear K hK
  replace hS := hS.trans (hbn.mono hS.size)
  try simp only [Act.put, List.getElem_toArray, List.getElem_cons_zero, List.getElem_cons_succ, List.setIfInBounds_toArray, List.set_cons_zero, List.set_cons_succ]
  refine wpAnyH_take (i := 57) (v := .agg #[.slice none 0 0, .slice none 0 0, .slice (some ⟨wf.heap.size, 0, none⟩) 1 1, .slice none 0 0]) rfl (by kernel_rfl) (by kernel_rfl) (by kernel_rfl) (fun _ _ _ h => h) (Or.inl ⟨by kernel_rfl, fun W hW => by go_simp⟩) (by assumption) ?_
  try simp only [Act.put, List.getElem_toArray, List.getElem_cons_zero, List.getElem_cons_succ, List.setIfInBounds_toArray, List.set_cons_zero, List.set_cons_succ]
  refine wpAnyH_ready (rs := [58]) (by kernel_rfl) (by simp) ?_
  refine AllReadyH.cons rfl (fun K hK => ?_) AllReadyH.nil
  go_simp
  go_wp2_with (go_at_call 17; refine (side_right ⟨[], [], [[]], []⟩ _ (fun _ => True) _ ⟨_, _, _, _, rfl, SliceIn.nil _ _ _ _, SliceIn.nil _ _ _ _, HQ.out, SliceIn.nil _ _ _ _⟩ wrong_sm).mono ?_; rintro e wg ⟨he, hb⟩; obtain rfl : e = .returned (.bool false) := (by rw [he, Sd.fix_wrong]); replace hS := hS.trans (hb.mono hS.size); clear hb he)
  refine hK.out _ _ (hS) (fun _ => ?_)
  clear K hK
  try simp only [Act.put, List.getElem_toArray, List.getElem_cons_zero, List.getElem_cons_succ, List.setIfInBounds_toArray, List.set_cons_zero, List.set_cons_succ]
  refine wpAnyH_take (i := 59) (v := .bool true) rfl (by kernel_rfl) (by kernel_rfl) (by kernel_rfl) (fun _ _ _ h => h) (Or.inl ⟨by kernel_rfl, fun W hW => by kernel_rfl⟩) (by assumption) ?_
  try simp only [Act.put, List.getElem_toArray, List.getElem_cons_zero, List.getElem_cons_succ, List.setIfInBounds_toArray, List.set_cons_zero, List.set_cons_succ]
  refine wpAnyH_take (i := 60) (v := .bool true) rfl (by kernel_rfl) (by kernel_rfl) (by kernel_rfl) (fun _ _ _ h => h) (Or.inl ⟨by kernel_rfl, fun W hW => by kernel_rfl⟩) (by assumption) ?_
  try simp only [Act.put, List.getElem_toArray, List.getElem_cons_zero, List.getElem_cons_succ, List.setIfInBounds_toArray, List.set_cons_zero, List.set_cons_succ]
  refine wpAnyH_take (i := 61) (v := .bool true) rfl (by kernel_rfl) (by kernel_rfl) (by kernel_rfl) (fun _ _ _ h => h) (Or.inl ⟨by kernel_rfl, fun W hW => by kernel_rfl⟩) (by assumption) ?_
  try simp only [Act.put, List.getElem_toArray, List.getElem_cons_zero, List.getElem_cons_succ, List.setIfInBounds_toArray, List.set_cons_zero, List.set_cons_succ]
  refine wpAnyH_done (by kernel_rfl) ?_ _
  go_wp2_with fail
  go_ret
  exact ⟨rfl, HB.out.trans (hS.mono HB.out.size)⟩
end Go.Proofs.YtimmmjmmjokdbaaGreatDoor
