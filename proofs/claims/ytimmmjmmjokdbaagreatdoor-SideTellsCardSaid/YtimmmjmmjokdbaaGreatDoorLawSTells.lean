/- SideTells: the law's walk. -/
import Derived.Test.YtimmmjmmjokdbaaGreatDoorSidLw2
import Derived.Test.YtimmmjmmjokdbaaGreatDoorRefsB
set_option linter.unusedSimpArgs false
set_option linter.unusedVariables false
namespace Go.Proofs.YtimmmjmmjokdbaaGreatDoor.lawSideTells
open Go.RowKit
set_option maxRecDepth 100000 in
set_option maxHeartbeats 6400000 in
theorem walk (x0 : Sd.Side) (v : Value) (sx key : List UInt8) (w : World) (hL : Laid10 w) (hX : OSide w v x0) :
    Calls Tryz.prog 3 #[v, .string ⟨sx.toArray⟩, .string ⟨key.toArray⟩] w fun e w' => e = .returned (.bool true) ∧ Below w.heap.size w w' := by
  have HL := Lib.hid hL
  obtain ⟨pl, cl, ph, ch, pc, cc, pb, cb, rfl, _⟩ := hX.ex
  have HXO := Lib.hid hX
  clear hL hX
  go_enter Tryz.func3, Tryz.ntmps3
  go_upto_region 1 with fail
  obtain ⟨W1, hW1⟩ : ∃ W1, W1 = w.alloc (.cells #[.slice pl x0.labs.length cl, .slice ph x0.heads.length ch, .slice pc x0.cites.length cc, .slice pb x0.bibs.length cb] 26) := ⟨_, rfl⟩
  obtain ⟨g, hg⟩ : ∃ g, g = w.heap.size := ⟨_, rfl⟩
  rw [← hW1, ← hg]
  have hF : Four g W1 #[.slice pl x0.labs.length cl, .slice ph x0.heads.length ch, .slice pc x0.cites.length cc, .slice pb x0.bibs.length cb] := by rw [hW1, hg]; exact Four.made _ _ _
  have hZ : ∀ i : Nat, W1.frozen? ⟨g, i, none⟩ = false := by intro i; rw [hW1, hg]; simp
  have hb : Below w.heap.size w W1 := by rw [hW1]; exact below_new w _
  have c0 := hF.2 0 _ rfl; have c1 := hF.2 1 _ rfl; have c2 := hF.2 2 _ rfl; have c3 := hF.2 3 _ rfl
  replace HXO := Lib.hid (HXO.out.below hb)
  have HB := Lib.hid hb; have HF := Lib.hid hF; have HZ := Lib.hid hZ; have HG := Lib.hid hg
  obtain ⟨X, hXe⟩ : ∃ X, X = cutS 12 x0 := ⟨_, rfl⟩
  have Hsm := Lib.hid (show SideSm X by rw [hXe]; exact cutS_sm _ _ (by decide))
  have HXe := Lib.hid hXe
  clear hW1 hg hb hF hZ hXe
  go_upto_region 2 with (go_at_call 9; refine (law10_cut x0 _ 12 _ HXO.out (by decide)).mono ?_; rw [← HXe.out]; rintro e w2 ⟨⟨v2, rfl, hX2⟩, hb⟩; have HX2 := Lib.hid hX2; have hgl := HF.out.1; have d0 := (hb.cell (p := ⟨g, 0, none⟩) hgl).trans c0; have d1 := (hb.cell (p := ⟨g, 1, none⟩) hgl).trans c1; have d2 := (hb.cell (p := ⟨g, 2, none⟩) hgl).trans c2; have d3 := (hb.cell (p := ⟨g, 3, none⟩) hgl).trans c3; have f0 := (frozen_below (i := 0) hb hgl).trans (HZ.out 0); have f1 := (frozen_below (i := 1) hb hgl).trans (HZ.out 1); have f2 := (frozen_below (i := 2) hb hgl).trans (HZ.out 2); have f3 := (frozen_below (i := 3) hb hgl).trans (HZ.out 3); obtain ⟨vl, vh, vc, vb, rfl, ⟨ql, kl, rfl, _⟩, ⟨qh, kh, rfl, _⟩, ⟨qc, kc, rfl, _⟩, ⟨qb, kb, rfl, _⟩⟩ := hX2; have HB2 := Lib.hid hb; clear c0 c1 c2 c3 hb)
  obtain ⟨W3, hW3⟩ : ∃ W3, W3 = (((w2.setCell ⟨g, 0, none⟩ (.slice ql X.labs.length kl)).setCell ⟨g, 1, none⟩ (.slice qh X.heads.length kh)).setCell ⟨g, 2, none⟩ (.slice qc X.cites.length kc)).setCell ⟨g, 3, none⟩ (.slice qb X.bibs.length kb) := ⟨_, rfl⟩
  rw [← hW3]
  have HX := Lib.hid (show SideIn (fun _ => True) W3 (.agg #[.slice ql X.labs.length kl, .slice qh X.heads.length kh, .slice qc X.cites.length kc, .slice qb X.bibs.length kb]) X by rw [hW3]; exact HX2.out.set4 g (fun j hj e => by have := HF.out.1; omega) _ _ _ _)
  have hF3 : Four g W3 #[.slice ql X.labs.length kl, .slice qh X.heads.length kh, .slice qc X.cites.length kc, .slice qb X.bibs.length kb] := by rw [hW3]; exact four_set _ _ _ _ (HF.out.below HB2.out)
  replace HB := Lib.hid (show Below w.heap.size w W3 by rw [hW3]; exact four_below (HB.out.trans (HB2.out.mono HB.out.size)) (by rw [HG.out]; exact Nat.le_refl _) _ _ _ _)
  replace HF := Lib.hid hF3
  clear hW3 hF3 HX2 HB2 hgl d0 d1 d2 d3 f0 f1 f2 f3 HXO HZ
  obtain ⟨q, hq⟩ : ∃ q : Nat, min (sx.length : Int) 400 = (q : Int) := ⟨min sx.length 400, by omega⟩
  have hq1 : (q : Int) ≤ (sx.length : Int) := by omega
  have hq2 : q ≤ 400 := by omega
  have hex : (⟨sx.toArray⟩ : ByteArray).extract 0 q = ⟨(sx.take q).toArray⟩ := by rw [extract_any]; simp
  obtain ⟨T, hT⟩ : ∃ T, sx.take q = T := ⟨_, rfl⟩
  have HTl := Lib.hid (show T.length ≤ 1000000 by rw [← hT]; have := List.length_take_le q sx; omega)
  go_upto_region 3 with fail
  clear hq hq1 hq2 hex hT
  obtain ⟨s, c, he⟩ : ∃ s c, Sd.enc X = (s, c) := ⟨_, _, rfl⟩
  have He := Lib.hid he
  have hml := Hsm.out.labs
  have Hml := Lib.hid hml
  clear he hml
  have c0 := HF.out.2 0 _ rfl; have c1 := HF.out.2 1 _ rfl; have c2 := HF.out.2 2 _ rfl; have c3 := HF.out.2 3 _ rfl
  go_upto_region 4 with (go_at_call 10; refine (side_encode _ _ _ _ (HL.out.below HB.out) HX.out Hsm.out).mono ?_; rw [He.out]; rintro e w4 ⟨rfl, hb⟩; replace HX := Lib.hid (HX.out.below hb); replace HF := Lib.hid (HF.out.below hb); replace HB := Lib.hid (HB.out.trans (hb.mono HB.out.size)); clear hb)
  clear c0 c1 c2 c3
  have c0 := HF.out.2 0 _ rfl; have c1 := HF.out.2 1 _ rfl; have c2 := HF.out.2 2 _ rfl; have c3 := HF.out.2 3 _ rfl
  go_upto_region 5 with (first | (go_at_call 12; refine (law10_ref X _ _ _ HX.out Hsm.out).mono ?_; rintro e w5 ⟨⟨v1, rfl, hR⟩, hb⟩; have HR1 := Lib.hid hR; clear hR; replace HX := Lib.hid (HX.out.below hb); replace HF := Lib.hid (HF.out.below hb); replace HB := Lib.hid (HB.out.trans (hb.mono HB.out.size)); clear hb) | (go_at_call 11; refine (ref10_encode X _ _ _ HR1.out Hsm.out).mono ?_; rw [He.out]; rintro e w6 ⟨rfl, hb⟩; replace HX := Lib.hid (HX.out.below hb); replace HF := Lib.hid (HF.out.below hb); replace HB := Lib.hid (HB.out.trans (hb.mono HB.out.size)); clear hb))
  clear c0 c1 c2 c3
  obtain ⟨d, hd⟩ : ∃ d, Sd.dec T = d := ⟨_, rfl⟩
  have Hd := Lib.hid hd
  clear hd HR1
  obtain ⟨o, ho⟩ : ∃ o, Sd.find X.labs key = o := ⟨_, rfl⟩
  have Ho := Lib.hid ho
  obtain ⟨rx, hrx⟩ : ∃ r, Sd.right X = r := ⟨_, rfl⟩
  have Hrx := Lib.hid hrx
  clear ho hrx
  have hdc : ∃ (ys : Sd.Side) (er : Int), SideSm ys ∧ ∀ w e w', DecPost T w e w' → Below w.heap.size w w' ∧ ∃ v, SideIn (fun _ => True) w' v ys ∧ e = .returned (.tuple #[v, .int .i64 er]) := by
    cases hd : d with
    | none =>
      refine ⟨Sd.none_, 5, none_sm, fun w e w' h => ?_⟩
      obtain ⟨hb, hm⟩ := h
      rw [Hd.out, hd] at hm
      exact ⟨hb, _, side_nil _, hm⟩
    | some z =>
      refine ⟨z, 0, right_sm (Sd.dec_sound T z (by rw [Hd.out, hd])).1, fun w e w' h => ?_⟩
      obtain ⟨hb, hm⟩ := h
      rw [Hd.out, hd] at hm
      obtain ⟨v, h1, _, h2⟩ := hm
      exact ⟨hb, v, h1, h2⟩
  obtain ⟨ys, er, hys, hdp⟩ := hdc
  have Hys := Lib.hid hys; have Hdp := Lib.hid hdp
  clear hys hdp
  go_upto_region 6 with (go_at_call 13; refine (side_decode T _ (HL.out.below HB.out) HTl.out).mono ?_; rintro e w7 hdq; obtain ⟨hb, vy, hY, rfl⟩ := Hdp.out _ _ _ hdq; have HY := Lib.hid hY; replace HX := Lib.hid (HX.out.below hb); replace HF := Lib.hid (HF.out.below hb); replace HB := Lib.hid (HB.out.trans (hb.mono HB.out.size)); clear hb; clear hdq; obtain ⟨y0, y1, y2, y3, rfl, ⟨py0, cy0, rfl, _⟩, ⟨py1, cy1, rfl, _⟩, ⟨py2, cy2, rfl, _⟩, ⟨py3, cy3, rfl, _⟩⟩ := hY)
  obtain ⟨w8, hwx⟩ : ∃ W, W = w7.alloc (.cells #[.slice py0 ys.labs.length cy0, .slice py1 ys.heads.length cy1, .slice py2 ys.cites.length cy2, .slice py3 ys.bibs.length cy3] 26) := ⟨_, rfl⟩
  obtain ⟨g2, hgx⟩ : ∃ g, g = w7.heap.size := ⟨_, rfl⟩
  rw [← hwx, ← hgx]
  have hb : Below w7.heap.size w7 w8 := by rw [hwx]; exact below_new _ _
  replace HX := Lib.hid (HX.out.below hb)
  replace HF := Lib.hid (HF.out.below hb)
  replace HY := Lib.hid (HY.out.below hb)
  replace HB := Lib.hid (HB.out.trans (hb.mono HB.out.size))
  have HFY := Lib.hid (show Four g2 w8 #[.slice py0 ys.labs.length cy0, .slice py1 ys.heads.length cy1, .slice py2 ys.cites.length cy2, .slice py3 ys.bibs.length cy3] from by rw [hgx, hwx]; exact Four.made _ _ _)
  clear hb hwx hgx
  go_upto_region 7 with (go_at_call 14; refine (ref10_decode T _ HTl.out).mono ?_; rintro e w9 hdq; obtain ⟨hb, vz, hY2, rfl⟩ := Hdp.out _ _ _ hdq; have HQ := Lib.hid hY2; replace HX := Lib.hid (HX.out.below hb); replace HF := Lib.hid (HF.out.below hb); replace HY := Lib.hid (HY.out.below hb); replace HFY := Lib.hid (HFY.out.below hb); replace HB := Lib.hid (HB.out.trans (hb.mono HB.out.size)); clear hb; clear hdq; obtain ⟨z0, z1, z2, z3, rfl, ⟨pz0, cz0, rfl, _⟩, ⟨pz1, cz1, rfl, _⟩, ⟨pz2, cz2, rfl, _⟩, ⟨pz3, cz3, rfl, _⟩⟩ := hY2)
  obtain ⟨w10, hwx⟩ : ∃ W, W = w9.alloc (.cells #[.slice pz0 ys.labs.length cz0, .slice pz1 ys.heads.length cz1, .slice pz2 ys.cites.length cz2, .slice pz3 ys.bibs.length cz3] 35) := ⟨_, rfl⟩
  obtain ⟨g3, hgx⟩ : ∃ g, g = w9.heap.size := ⟨_, rfl⟩
  rw [← hwx, ← hgx]
  have hb : Below w9.heap.size w9 w10 := by rw [hwx]; exact below_new _ _
  replace HX := Lib.hid (HX.out.below hb)
  replace HF := Lib.hid (HF.out.below hb)
  replace HY := Lib.hid (HY.out.below hb)
  replace HFY := Lib.hid (HFY.out.below hb)
  replace HQ := Lib.hid (HQ.out.below hb)
  replace HB := Lib.hid (HB.out.trans (hb.mono HB.out.size))
  have HFQ := Lib.hid (show Four g3 w10 #[.slice pz0 ys.labs.length cz0, .slice pz1 ys.heads.length cz1, .slice pz2 ys.cites.length cz2, .slice pz3 ys.bibs.length cz3] from by rw [hgx, hwx]; exact Four.made _ _ _)
  clear hb hwx hgx
  have hlv : ∃ (ky nu : List UInt8) (pg : Int) (bo : Bool), labV o = .tuple #[.agg #[.string ⟨ky.toArray⟩, .string ⟨nu.toArray⟩, .int .i64 pg], .bool bo] := by
    cases o with
    | none => exact ⟨[], [], 0, false, rfl⟩
    | some p => exact ⟨p.key, p.num, p.page, true, rfl⟩
  obtain ⟨ky, nu, pg, bo, hlv⟩ := hlv
  have Hlv := Lib.hid hlv
  clear hlv
  have c0 := HF.out.2 0 _ rfl; have c1 := HF.out.2 1 _ rfl; have c2 := HF.out.2 2 _ rfl; have c3 := HF.out.2 3 _ rfl
  go_upto_region 8 with (go_at_call 15; refine (side_find X _ key _ _ HX.out Hml.out).mono ?_; rw [Ho.out, Hlv.out]; rintro e w11 ⟨rfl, hb⟩; replace HX := Lib.hid (HX.out.below hb); replace HF := Lib.hid (HF.out.below hb); replace HY := Lib.hid (HY.out.below hb); replace HFY := Lib.hid (HFY.out.below hb); replace HQ := Lib.hid (HQ.out.below hb); replace HFQ := Lib.hid (HFQ.out.below hb); replace HB := Lib.hid (HB.out.trans (hb.mono HB.out.size)); clear hb)
  clear c0 c1 c2 c3
  obtain ⟨w12, hwx⟩ : ∃ W, W = w11.alloc (.cells #[.string ⟨ky.toArray⟩, .string ⟨nu.toArray⟩, .int .i64 pg] 42) := ⟨_, rfl⟩
  obtain ⟨g4, hgx⟩ : ∃ g, g = w11.heap.size := ⟨_, rfl⟩
  rw [← hwx, ← hgx]
  have hb : Below w11.heap.size w11 w12 := by rw [hwx]; exact below_new _ _
  replace HX := Lib.hid (HX.out.below hb)
  replace HF := Lib.hid (HF.out.below hb)
  replace HY := Lib.hid (HY.out.below hb)
  replace HFY := Lib.hid (HFY.out.below hb)
  replace HQ := Lib.hid (HQ.out.below hb)
  replace HFQ := Lib.hid (HFQ.out.below hb)
  replace HB := Lib.hid (HB.out.trans (hb.mono HB.out.size))
  have HFL := Lib.hid (show Four g4 w12 #[.string ⟨ky.toArray⟩, .string ⟨nu.toArray⟩, .int .i64 pg] from by rw [hgx, hwx]; exact Four.made _ _ _)
  clear hb hwx hgx
  have c0 := HF.out.2 0 _ rfl; have c1 := HF.out.2 1 _ rfl; have c2 := HF.out.2 2 _ rfl; have c3 := HF.out.2 3 _ rfl
  go_upto_region 9 with (first | (go_at_call 12; refine (law10_ref X _ _ _ HX.out Hsm.out).mono ?_; rintro e w13 ⟨⟨v1, rfl, hR⟩, hb⟩; have HR1 := Lib.hid hR; clear hR; replace HX := Lib.hid (HX.out.below hb); replace HF := Lib.hid (HF.out.below hb); replace HY := Lib.hid (HY.out.below hb); replace HFY := Lib.hid (HFY.out.below hb); replace HQ := Lib.hid (HQ.out.below hb); replace HFQ := Lib.hid (HFQ.out.below hb); replace HFL := Lib.hid (HFL.out.below hb); replace HB := Lib.hid (HB.out.trans (hb.mono HB.out.size)); clear hb) | (go_at_call 16; refine (ref10_find X _ key _ _ HR1.out Hml.out).mono ?_; rw [Ho.out, Hlv.out]; rintro e w14 ⟨rfl, hb⟩; replace HX := Lib.hid (HX.out.below hb); replace HF := Lib.hid (HF.out.below hb); replace HY := Lib.hid (HY.out.below hb); replace HFY := Lib.hid (HFY.out.below hb); replace HQ := Lib.hid (HQ.out.below hb); replace HFQ := Lib.hid (HFQ.out.below hb); replace HFL := Lib.hid (HFL.out.below hb); replace HB := Lib.hid (HB.out.trans (hb.mono HB.out.size)); clear hb))
  clear c0 c1 c2 c3
  obtain ⟨w15, hwx⟩ : ∃ W, W = w14.alloc (.cells #[.string ⟨ky.toArray⟩, .string ⟨nu.toArray⟩, .int .i64 pg] 45) := ⟨_, rfl⟩
  obtain ⟨g5, hgx⟩ : ∃ g, g = w14.heap.size := ⟨_, rfl⟩
  rw [← hwx, ← hgx]
  have hb : Below w14.heap.size w14 w15 := by rw [hwx]; exact below_new _ _
  replace HX := Lib.hid (HX.out.below hb)
  replace HF := Lib.hid (HF.out.below hb)
  replace HY := Lib.hid (HY.out.below hb)
  replace HFY := Lib.hid (HFY.out.below hb)
  replace HQ := Lib.hid (HQ.out.below hb)
  replace HFQ := Lib.hid (HFQ.out.below hb)
  replace HFL := Lib.hid (HFL.out.below hb)
  replace HB := Lib.hid (HB.out.trans (hb.mono HB.out.size))
  have HFM := Lib.hid (show Four g5 w15 #[.string ⟨ky.toArray⟩, .string ⟨nu.toArray⟩, .int .i64 pg] from by rw [hgx, hwx]; exact Four.made _ _ _)
  clear hb hwx hgx
  clear HR1
  refine wp_region_any (by kernel_rfl) ?_
  change wpAny _ _ _ _ _ _ _ (World.drew _)
  obtain ⟨w16, hw0⟩ : ∃ W, W = w15.drew := ⟨_, rfl⟩
  rw [← hw0]
  have hb : Below w15.heap.size w15 w16 := by rw [hw0]; exact (Below.refl _ _).drew
  replace HX := Lib.hid (HX.out.below hb)
  replace HF := Lib.hid (HF.out.below hb)
  replace HY := Lib.hid (HY.out.below hb)
  replace HFY := Lib.hid (HFY.out.below hb)
  replace HQ := Lib.hid (HQ.out.below hb)
  replace HFQ := Lib.hid (HFQ.out.below hb)
  replace HFL := Lib.hid (HFL.out.below hb)
  replace HFM := Lib.hid (HFM.out.below hb)
  replace HB := Lib.hid (HB.out.trans (hb.mono HB.out.size))
  clear hb hw0
  have hS : Below w16.heap.size w16 w16 := Below.refl _ _
  refine wpAny_of_held (S := fun W => Below w16.heap.size w16 W) _ _ _ _ ?_
  refine wpAnyH_take (i := 0) (v := .agg #[.slice ql X.labs.length kl, .slice qh X.heads.length kh, .slice qc X.cites.length kc, .slice qb X.bibs.length kb]) rfl (by kernel_rfl) (by kernel_rfl) (by kernel_rfl) (fun _ _ _ h => h) (Or.inl ⟨by kernel_rfl, fun W hW => by (obtain ⟨_, q⟩ := Four.below HF.out hW; have c0 := q 0 _ rfl; have c1 := q 1 _ rfl; have c2 := q 2 _ rfl; have c3 := q 3 _ rfl; go_simp)⟩) (by assumption) ?_
  try simp only [Act.put, List.getElem_toArray, List.getElem_cons_zero, List.getElem_cons_succ, List.setIfInBounds_toArray, List.set_cons_zero, List.set_cons_succ]
  refine wpAnyH_take (i := 2) (v := .agg #[.slice ql X.labs.length kl, .slice qh X.heads.length kh, .slice qc X.cites.length kc, .slice qb X.bibs.length kb]) rfl (by kernel_rfl) (by kernel_rfl) (by kernel_rfl) (fun _ _ _ h => h) (Or.inl ⟨by kernel_rfl, fun W hW => by (obtain ⟨_, q⟩ := Four.below HF.out hW; have c0 := q 0 _ rfl; have c1 := q 1 _ rfl; have c2 := q 2 _ rfl; have c3 := q 3 _ rfl; go_simp)⟩) (by assumption) ?_
  try simp only [Act.put, List.getElem_toArray, List.getElem_cons_zero, List.getElem_cons_succ, List.setIfInBounds_toArray, List.set_cons_zero, List.set_cons_succ]
  refine wpAnyH_ready (rs := [1]) (by kernel_rfl) (by simp) ?_
  refine AllReadyH.cons rfl (fun K hK => ?_) AllReadyH.nil
  go_simp
  go_wp2_with (go_at_call 17; refine (side_right X _ _ _ (HX.out.below hS) Hsm.out).mono ?_; rw [Hrx.out]; rintro e w17 ⟨rfl, hb⟩; replace hS := hS.trans (hb.mono hS.size); clear hb)
  refine hK.out _ _ (hS) (fun _ => ?_)
  clear K hK
  try simp only [Act.put, List.getElem_toArray, List.getElem_cons_zero, List.getElem_cons_succ, List.setIfInBounds_toArray, List.set_cons_zero, List.set_cons_succ]
  refine wpAnyH_ready (rs := [3]) (by kernel_rfl) (by simp) ?_
  refine AllReadyH.cons rfl (fun K hK => ?_) AllReadyH.nil
  go_simp
  go_wp2_with (go_at_call 12; refine (law10_ref X _ _ _ (HX.out.below hS) Hsm.out).mono ?_; rintro e w18 ⟨⟨v1, rfl, hR⟩, hb⟩; have HR1 := Lib.hid hR; clear hR; replace hS := hS.trans (hb.mono hS.size); clear hb)
  refine hK.out _ _ (hS) (fun _ => ?_)
  clear K hK
  try simp only [Act.put, List.getElem_toArray, List.getElem_cons_zero, List.getElem_cons_succ, List.setIfInBounds_toArray, List.set_cons_zero, List.set_cons_succ]
  refine wpAnyH_ready (rs := [4]) (by kernel_rfl) (by simp) ?_
  refine AllReadyH.cons rfl (fun K hK => ?_) AllReadyH.nil
  go_simp
  go_wp2_with (go_at_call 18; refine (ref10_right X _ _ _ HR1.out Hsm.out).mono ?_; rw [Hrx.out]; rintro e w19 ⟨rfl, hb⟩; replace hS := hS.trans (hb.mono hS.size); clear hb)
  refine hK.out _ _ (hS) (fun _ => ?_)
  clear K hK
  try simp only [Act.put, List.getElem_toArray, List.getElem_cons_zero, List.getElem_cons_succ, List.setIfInBounds_toArray, List.set_cons_zero, List.set_cons_succ]
  refine wpAnyH_take (i := 5) (v := .bool true) rfl (by kernel_rfl) (by kernel_rfl) (by kernel_rfl) (fun _ _ _ h => h) (Or.inl ⟨by kernel_rfl, fun W hW => by go_simp⟩) (by assumption) ?_
  try simp only [Act.put, List.getElem_toArray, List.getElem_cons_zero, List.getElem_cons_succ, List.setIfInBounds_toArray, List.set_cons_zero, List.set_cons_succ]
  refine wpAnyH_take (i := 6) (v := .bool true) rfl (by kernel_rfl) (by kernel_rfl) (by kernel_rfl) (fun _ _ _ h => h) (Or.inl ⟨by kernel_rfl, fun W hW => by kernel_rfl⟩) (by assumption) ?_
  try simp only [Act.put, List.getElem_toArray, List.getElem_cons_zero, List.getElem_cons_succ, List.setIfInBounds_toArray, List.set_cons_zero, List.set_cons_succ]
  refine wpAnyH_take (i := 7) (v := .string ⟨s.toArray⟩) rfl (by kernel_rfl) (by kernel_rfl) (by kernel_rfl) (fun _ _ _ h => h) (Or.inl ⟨by kernel_rfl, fun W hW => by kernel_rfl⟩) (by assumption) ?_
  try simp only [Act.put, List.getElem_toArray, List.getElem_cons_zero, List.getElem_cons_succ, List.setIfInBounds_toArray, List.set_cons_zero, List.set_cons_succ]
  refine wpAnyH_take (i := 8) (v := .string ⟨s.toArray⟩) rfl (by kernel_rfl) (by kernel_rfl) (by kernel_rfl) (fun _ _ _ h => h) (Or.inl ⟨by kernel_rfl, fun W hW => by kernel_rfl⟩) (by assumption) ?_
  try simp only [Act.put, List.getElem_toArray, List.getElem_cons_zero, List.getElem_cons_succ, List.setIfInBounds_toArray, List.set_cons_zero, List.set_cons_succ]
  refine wpAnyH_take (i := 9) (v := .bool true) rfl (by kernel_rfl) (by kernel_rfl) (by kernel_rfl) (fun _ _ _ h => h) (Or.inl ⟨by kernel_rfl, fun W hW => by go_simp⟩) (by assumption) ?_
  try simp only [Act.put, List.getElem_toArray, List.getElem_cons_zero, List.getElem_cons_succ, List.setIfInBounds_toArray, List.set_cons_zero, List.set_cons_succ]
  refine wpAnyH_take (i := 10) (v := .bool true) rfl (by kernel_rfl) (by kernel_rfl) (by kernel_rfl) (fun _ _ _ h => h) (Or.inl ⟨by kernel_rfl, fun W hW => by kernel_rfl⟩) (by assumption) ?_
  try simp only [Act.put, List.getElem_toArray, List.getElem_cons_zero, List.getElem_cons_succ, List.setIfInBounds_toArray, List.set_cons_zero, List.set_cons_succ]
  refine wpAnyH_take (i := 11) (v := .bool true) rfl (by kernel_rfl) (by kernel_rfl) (by kernel_rfl) (fun _ _ _ h => h) (Or.inl ⟨by kernel_rfl, fun W hW => by kernel_rfl⟩) (by assumption) ?_
  try simp only [Act.put, List.getElem_toArray, List.getElem_cons_zero, List.getElem_cons_succ, List.setIfInBounds_toArray, List.set_cons_zero, List.set_cons_succ]
  refine wpAnyH_take (i := 12) (v := .int .i64 c) rfl (by kernel_rfl) (by kernel_rfl) (by kernel_rfl) (fun _ _ _ h => h) (Or.inl ⟨by kernel_rfl, fun W hW => by kernel_rfl⟩) (by assumption) ?_
  try simp only [Act.put, List.getElem_toArray, List.getElem_cons_zero, List.getElem_cons_succ, List.setIfInBounds_toArray, List.set_cons_zero, List.set_cons_succ]
  refine wpAnyH_take (i := 13) (v := .int .i64 c) rfl (by kernel_rfl) (by kernel_rfl) (by kernel_rfl) (fun _ _ _ h => h) (Or.inl ⟨by kernel_rfl, fun W hW => by kernel_rfl⟩) (by assumption) ?_
  try simp only [Act.put, List.getElem_toArray, List.getElem_cons_zero, List.getElem_cons_succ, List.setIfInBounds_toArray, List.set_cons_zero, List.set_cons_succ]
  refine wpAnyH_take (i := 14) (v := .bool true) rfl (by kernel_rfl) (by kernel_rfl) (by kernel_rfl) (fun _ _ _ h => h) (Or.inl ⟨by kernel_rfl, fun W hW => by go_simp⟩) (by assumption) ?_
  try simp only [Act.put, List.getElem_toArray, List.getElem_cons_zero, List.getElem_cons_succ, List.setIfInBounds_toArray, List.set_cons_zero, List.set_cons_succ]
  refine wpAnyH_take (i := 15) (v := .bool true) rfl (by kernel_rfl) (by kernel_rfl) (by kernel_rfl) (fun _ _ _ h => h) (Or.inl ⟨by kernel_rfl, fun W hW => by kernel_rfl⟩) (by assumption) ?_
  try simp only [Act.put, List.getElem_toArray, List.getElem_cons_zero, List.getElem_cons_succ, List.setIfInBounds_toArray, List.set_cons_zero, List.set_cons_succ]
  refine wpAnyH_take (i := 16) (v := .bool true) rfl (by kernel_rfl) (by kernel_rfl) (by kernel_rfl) (fun _ _ _ h => h) (Or.inl ⟨by kernel_rfl, fun W hW => by kernel_rfl⟩) (by assumption) ?_
  try simp only [Act.put, List.getElem_toArray, List.getElem_cons_zero, List.getElem_cons_succ, List.setIfInBounds_toArray, List.set_cons_zero, List.set_cons_succ]
  refine wpAnyH_take (i := 17) (v := .agg #[.slice py0 ys.labs.length cy0, .slice py1 ys.heads.length cy1, .slice py2 ys.cites.length cy2, .slice py3 ys.bibs.length cy3]) rfl (by kernel_rfl) (by kernel_rfl) (by kernel_rfl) (fun _ _ _ h => h) (Or.inl ⟨by kernel_rfl, fun W hW => by (obtain ⟨_, q⟩ := Four.below HFY.out hW; have c0 := q 0 _ rfl; have c1 := q 1 _ rfl; have c2 := q 2 _ rfl; have c3 := q 3 _ rfl; go_simp)⟩) (by assumption) ?_
  try simp only [Act.put, List.getElem_toArray, List.getElem_cons_zero, List.getElem_cons_succ, List.setIfInBounds_toArray, List.set_cons_zero, List.set_cons_succ]
  refine wpAnyH_take (i := 19) (v := .agg #[.slice pz0 ys.labs.length cz0, .slice pz1 ys.heads.length cz1, .slice pz2 ys.cites.length cz2, .slice pz3 ys.bibs.length cz3]) rfl (by kernel_rfl) (by kernel_rfl) (by kernel_rfl) (fun _ _ _ h => h) (Or.inl ⟨by kernel_rfl, fun W hW => by (obtain ⟨_, q⟩ := Four.below HFQ.out hW; have c0 := q 0 _ rfl; have c1 := q 1 _ rfl; have c2 := q 2 _ rfl; have c3 := q 3 _ rfl; go_simp)⟩) (by assumption) ?_
  try simp only [Act.put, List.getElem_toArray, List.getElem_cons_zero, List.getElem_cons_succ, List.setIfInBounds_toArray, List.set_cons_zero, List.set_cons_succ]
  refine wpAnyH_ready (rs := [18]) (by kernel_rfl) (by simp) ?_
  refine AllReadyH.cons rfl (fun K hK => ?_) AllReadyH.nil
  go_simp
  go_wp2_with (go_at_call 12; refine (law10_ref ys _ _ _ (HY.out.below hS) Hys.out).mono ?_; rintro e w20 ⟨⟨v2, rfl, hR⟩, hb⟩; have HR2 := Lib.hid hR; clear hR; replace hS := hS.trans (hb.mono hS.size); clear hb)
  refine hK.out _ _ (hS) (fun _ => ?_)
  clear K hK
  try simp only [Act.put, List.getElem_toArray, List.getElem_cons_zero, List.getElem_cons_succ, List.setIfInBounds_toArray, List.set_cons_zero, List.set_cons_succ]
  refine wpAnyH_ready (rs := [20]) (by kernel_rfl) (by simp) ?_
  refine AllReadyH.cons rfl (fun K hK => ?_) AllReadyH.nil
  go_simp
  go_wp2_with (go_at_call 19; refine (law10_same ys ys _ _ _ _ _ HR2.out (HQ.out.below hS)).mono ?_; rintro e w21 ⟨he, hb⟩; obtain rfl : e = .returned (.bool true) := (by rw [he, decide_eq_true (rfl : ys = ys)]); replace hS := hS.trans (hb.mono hS.size); clear hb he)
  refine hK.out _ _ (hS) (fun _ => ?_)
  clear K hK
  try simp only [Act.put, List.getElem_toArray, List.getElem_cons_zero, List.getElem_cons_succ, List.setIfInBounds_toArray, List.set_cons_zero, List.set_cons_succ]
  refine wpAnyH_take (i := 21) (v := .bool true) rfl (by kernel_rfl) (by kernel_rfl) (by kernel_rfl) (fun _ _ _ h => h) (Or.inl ⟨by kernel_rfl, fun W hW => by kernel_rfl⟩) (by assumption) ?_
  try simp only [Act.put, List.getElem_toArray, List.getElem_cons_zero, List.getElem_cons_succ, List.setIfInBounds_toArray, List.set_cons_zero, List.set_cons_succ]
  refine wpAnyH_take (i := 22) (v := .bool true) rfl (by kernel_rfl) (by kernel_rfl) (by kernel_rfl) (fun _ _ _ h => h) (Or.inl ⟨by kernel_rfl, fun W hW => by kernel_rfl⟩) (by assumption) ?_
  try simp only [Act.put, List.getElem_toArray, List.getElem_cons_zero, List.getElem_cons_succ, List.setIfInBounds_toArray, List.set_cons_zero, List.set_cons_succ]
  refine wpAnyH_take (i := 23) (v := .int .i64 er) rfl (by kernel_rfl) (by kernel_rfl) (by kernel_rfl) (fun _ _ _ h => h) (Or.inl ⟨by kernel_rfl, fun W hW => by kernel_rfl⟩) (by assumption) ?_
  try simp only [Act.put, List.getElem_toArray, List.getElem_cons_zero, List.getElem_cons_succ, List.setIfInBounds_toArray, List.set_cons_zero, List.set_cons_succ]
  refine wpAnyH_take (i := 24) (v := .int .i64 er) rfl (by kernel_rfl) (by kernel_rfl) (by kernel_rfl) (fun _ _ _ h => h) (Or.inl ⟨by kernel_rfl, fun W hW => by kernel_rfl⟩) (by assumption) ?_
  try simp only [Act.put, List.getElem_toArray, List.getElem_cons_zero, List.getElem_cons_succ, List.setIfInBounds_toArray, List.set_cons_zero, List.set_cons_succ]
  refine wpAnyH_take (i := 25) (v := .bool true) rfl (by kernel_rfl) (by kernel_rfl) (by kernel_rfl) (fun _ _ _ h => h) (Or.inl ⟨by kernel_rfl, fun W hW => by go_simp⟩) (by assumption) ?_
  try simp only [Act.put, List.getElem_toArray, List.getElem_cons_zero, List.getElem_cons_succ, List.setIfInBounds_toArray, List.set_cons_zero, List.set_cons_succ]
  refine wpAnyH_take (i := 26) (v := .bool true) rfl (by kernel_rfl) (by kernel_rfl) (by kernel_rfl) (fun _ _ _ h => h) (Or.inl ⟨by kernel_rfl, fun W hW => by kernel_rfl⟩) (by assumption) ?_
  try simp only [Act.put, List.getElem_toArray, List.getElem_cons_zero, List.getElem_cons_succ, List.setIfInBounds_toArray, List.set_cons_zero, List.set_cons_succ]
  refine wpAnyH_take (i := 27) (v := .bool true) rfl (by kernel_rfl) (by kernel_rfl) (by kernel_rfl) (fun _ _ _ h => h) (Or.inl ⟨by kernel_rfl, fun W hW => by kernel_rfl⟩) (by assumption) ?_
  try simp only [Act.put, List.getElem_toArray, List.getElem_cons_zero, List.getElem_cons_succ, List.setIfInBounds_toArray, List.set_cons_zero, List.set_cons_succ]
  refine wpAnyH_take (i := 28) (v := .bool bo) rfl (by kernel_rfl) (by kernel_rfl) (by kernel_rfl) (fun _ _ _ h => h) (Or.inl ⟨by kernel_rfl, fun W hW => by kernel_rfl⟩) (by assumption) ?_
  try simp only [Act.put, List.getElem_toArray, List.getElem_cons_zero, List.getElem_cons_succ, List.setIfInBounds_toArray, List.set_cons_zero, List.set_cons_succ]
  refine wpAnyH_take (i := 29) (v := .bool bo) rfl (by kernel_rfl) (by kernel_rfl) (by kernel_rfl) (fun _ _ _ h => h) (Or.inl ⟨by kernel_rfl, fun W hW => by kernel_rfl⟩) (by assumption) ?_
  try simp only [Act.put, List.getElem_toArray, List.getElem_cons_zero, List.getElem_cons_succ, List.setIfInBounds_toArray, List.set_cons_zero, List.set_cons_succ]
  refine wpAnyH_take (i := 30) (v := .bool true) rfl (by kernel_rfl) (by kernel_rfl) (by kernel_rfl) (fun _ _ _ h => h) (Or.inl ⟨by kernel_rfl, fun W hW => by go_simp⟩) (by assumption) ?_
  try simp only [Act.put, List.getElem_toArray, List.getElem_cons_zero, List.getElem_cons_succ, List.setIfInBounds_toArray, List.set_cons_zero, List.set_cons_succ]
  refine wpAnyH_take (i := 31) (v := .bool true) rfl (by kernel_rfl) (by kernel_rfl) (by kernel_rfl) (fun _ _ _ h => h) (Or.inl ⟨by kernel_rfl, fun W hW => by kernel_rfl⟩) (by assumption) ?_
  try simp only [Act.put, List.getElem_toArray, List.getElem_cons_zero, List.getElem_cons_succ, List.setIfInBounds_toArray, List.set_cons_zero, List.set_cons_succ]
  refine wpAnyH_take (i := 32) (v := .bool true) rfl (by kernel_rfl) (by kernel_rfl) (by kernel_rfl) (fun _ _ _ h => h) (Or.inl ⟨by kernel_rfl, fun W hW => by kernel_rfl⟩) (by assumption) ?_
  try simp only [Act.put, List.getElem_toArray, List.getElem_cons_zero, List.getElem_cons_succ, List.setIfInBounds_toArray, List.set_cons_zero, List.set_cons_succ]
  refine wpAnyH_take (i := 33) (v := .pointer (some ⟨g4, 0, none⟩)) rfl (by kernel_rfl) (by kernel_rfl) (by kernel_rfl) (fun _ _ _ h => h) (Or.inl ⟨by kernel_rfl, fun W hW => by go_simp⟩) (by assumption) ?_
  try simp only [Act.put, List.getElem_toArray, List.getElem_cons_zero, List.getElem_cons_succ, List.setIfInBounds_toArray, List.set_cons_zero, List.set_cons_succ]
  refine wpAnyH_take (i := 34) (v := .string ⟨ky.toArray⟩) rfl (by kernel_rfl) (by kernel_rfl) (by kernel_rfl) (fun _ _ _ h => h) (Or.inl ⟨by kernel_rfl, fun W hW => by (obtain ⟨_, q⟩ := Four.below HFL.out hW; have c0 := q 0 _ rfl; go_simp)⟩) (by assumption) ?_
  try simp only [Act.put, List.getElem_toArray, List.getElem_cons_zero, List.getElem_cons_succ, List.setIfInBounds_toArray, List.set_cons_zero, List.set_cons_succ]
  refine wpAnyH_take (i := 35) (v := .pointer (some ⟨g5, 0, none⟩)) rfl (by kernel_rfl) (by kernel_rfl) (by kernel_rfl) (fun _ _ _ h => h) (Or.inl ⟨by kernel_rfl, fun W hW => by go_simp⟩) (by assumption) ?_
  try simp only [Act.put, List.getElem_toArray, List.getElem_cons_zero, List.getElem_cons_succ, List.setIfInBounds_toArray, List.set_cons_zero, List.set_cons_succ]
  refine wpAnyH_take (i := 36) (v := .string ⟨ky.toArray⟩) rfl (by kernel_rfl) (by kernel_rfl) (by kernel_rfl) (fun _ _ _ h => h) (Or.inl ⟨by kernel_rfl, fun W hW => by (obtain ⟨_, q⟩ := Four.below HFM.out hW; have c0 := q 0 _ rfl; go_simp)⟩) (by assumption) ?_
  try simp only [Act.put, List.getElem_toArray, List.getElem_cons_zero, List.getElem_cons_succ, List.setIfInBounds_toArray, List.set_cons_zero, List.set_cons_succ]
  refine wpAnyH_take (i := 37) (v := .bool true) rfl (by kernel_rfl) (by kernel_rfl) (by kernel_rfl) (fun _ _ _ h => h) (Or.inl ⟨by kernel_rfl, fun W hW => by go_simp⟩) (by assumption) ?_
  try simp only [Act.put, List.getElem_toArray, List.getElem_cons_zero, List.getElem_cons_succ, List.setIfInBounds_toArray, List.set_cons_zero, List.set_cons_succ]
  refine wpAnyH_take (i := 38) (v := .bool true) rfl (by kernel_rfl) (by kernel_rfl) (by kernel_rfl) (fun _ _ _ h => h) (Or.inl ⟨by kernel_rfl, fun W hW => by kernel_rfl⟩) (by assumption) ?_
  try simp only [Act.put, List.getElem_toArray, List.getElem_cons_zero, List.getElem_cons_succ, List.setIfInBounds_toArray, List.set_cons_zero, List.set_cons_succ]
  refine wpAnyH_take (i := 39) (v := .bool true) rfl (by kernel_rfl) (by kernel_rfl) (by kernel_rfl) (fun _ _ _ h => h) (Or.inl ⟨by kernel_rfl, fun W hW => by kernel_rfl⟩) (by assumption) ?_
  try simp only [Act.put, List.getElem_toArray, List.getElem_cons_zero, List.getElem_cons_succ, List.setIfInBounds_toArray, List.set_cons_zero, List.set_cons_succ]
  refine wpAnyH_take (i := 40) (v := .pointer (some ⟨g4, 1, none⟩)) rfl (by kernel_rfl) (by kernel_rfl) (by kernel_rfl) (fun _ _ _ h => h) (Or.inl ⟨by kernel_rfl, fun W hW => by go_simp⟩) (by assumption) ?_
  try simp only [Act.put, List.getElem_toArray, List.getElem_cons_zero, List.getElem_cons_succ, List.setIfInBounds_toArray, List.set_cons_zero, List.set_cons_succ]
  refine wpAnyH_take (i := 41) (v := .string ⟨nu.toArray⟩) rfl (by kernel_rfl) (by kernel_rfl) (by kernel_rfl) (fun _ _ _ h => h) (Or.inl ⟨by kernel_rfl, fun W hW => by (obtain ⟨_, q⟩ := Four.below HFL.out hW; have c1 := q 1 _ rfl; go_simp)⟩) (by assumption) ?_
  try simp only [Act.put, List.getElem_toArray, List.getElem_cons_zero, List.getElem_cons_succ, List.setIfInBounds_toArray, List.set_cons_zero, List.set_cons_succ]
  refine wpAnyH_take (i := 42) (v := .pointer (some ⟨g5, 1, none⟩)) rfl (by kernel_rfl) (by kernel_rfl) (by kernel_rfl) (fun _ _ _ h => h) (Or.inl ⟨by kernel_rfl, fun W hW => by go_simp⟩) (by assumption) ?_
  try simp only [Act.put, List.getElem_toArray, List.getElem_cons_zero, List.getElem_cons_succ, List.setIfInBounds_toArray, List.set_cons_zero, List.set_cons_succ]
  refine wpAnyH_take (i := 43) (v := .string ⟨nu.toArray⟩) rfl (by kernel_rfl) (by kernel_rfl) (by kernel_rfl) (fun _ _ _ h => h) (Or.inl ⟨by kernel_rfl, fun W hW => by (obtain ⟨_, q⟩ := Four.below HFM.out hW; have c1 := q 1 _ rfl; go_simp)⟩) (by assumption) ?_
  try simp only [Act.put, List.getElem_toArray, List.getElem_cons_zero, List.getElem_cons_succ, List.setIfInBounds_toArray, List.set_cons_zero, List.set_cons_succ]
  refine wpAnyH_take (i := 44) (v := .bool true) rfl (by kernel_rfl) (by kernel_rfl) (by kernel_rfl) (fun _ _ _ h => h) (Or.inl ⟨by kernel_rfl, fun W hW => by go_simp⟩) (by assumption) ?_
  try simp only [Act.put, List.getElem_toArray, List.getElem_cons_zero, List.getElem_cons_succ, List.setIfInBounds_toArray, List.set_cons_zero, List.set_cons_succ]
  refine wpAnyH_take (i := 45) (v := .bool true) rfl (by kernel_rfl) (by kernel_rfl) (by kernel_rfl) (fun _ _ _ h => h) (Or.inl ⟨by kernel_rfl, fun W hW => by kernel_rfl⟩) (by assumption) ?_
  try simp only [Act.put, List.getElem_toArray, List.getElem_cons_zero, List.getElem_cons_succ, List.setIfInBounds_toArray, List.set_cons_zero, List.set_cons_succ]
  refine wpAnyH_take (i := 46) (v := .bool true) rfl (by kernel_rfl) (by kernel_rfl) (by kernel_rfl) (fun _ _ _ h => h) (Or.inl ⟨by kernel_rfl, fun W hW => by kernel_rfl⟩) (by assumption) ?_
  try simp only [Act.put, List.getElem_toArray, List.getElem_cons_zero, List.getElem_cons_succ, List.setIfInBounds_toArray, List.set_cons_zero, List.set_cons_succ]
  refine wpAnyH_take (i := 47) (v := .pointer (some ⟨g4, 2, none⟩)) rfl (by kernel_rfl) (by kernel_rfl) (by kernel_rfl) (fun _ _ _ h => h) (Or.inl ⟨by kernel_rfl, fun W hW => by go_simp⟩) (by assumption) ?_
  try simp only [Act.put, List.getElem_toArray, List.getElem_cons_zero, List.getElem_cons_succ, List.setIfInBounds_toArray, List.set_cons_zero, List.set_cons_succ]
  refine wpAnyH_take (i := 48) (v := .int .i64 pg) rfl (by kernel_rfl) (by kernel_rfl) (by kernel_rfl) (fun _ _ _ h => h) (Or.inl ⟨by kernel_rfl, fun W hW => by (obtain ⟨_, q⟩ := Four.below HFL.out hW; have c2 := q 2 _ rfl; go_simp)⟩) (by assumption) ?_
  try simp only [Act.put, List.getElem_toArray, List.getElem_cons_zero, List.getElem_cons_succ, List.setIfInBounds_toArray, List.set_cons_zero, List.set_cons_succ]
  refine wpAnyH_take (i := 49) (v := .pointer (some ⟨g5, 2, none⟩)) rfl (by kernel_rfl) (by kernel_rfl) (by kernel_rfl) (fun _ _ _ h => h) (Or.inl ⟨by kernel_rfl, fun W hW => by go_simp⟩) (by assumption) ?_
  try simp only [Act.put, List.getElem_toArray, List.getElem_cons_zero, List.getElem_cons_succ, List.setIfInBounds_toArray, List.set_cons_zero, List.set_cons_succ]
  refine wpAnyH_take (i := 50) (v := .int .i64 pg) rfl (by kernel_rfl) (by kernel_rfl) (by kernel_rfl) (fun _ _ _ h => h) (Or.inl ⟨by kernel_rfl, fun W hW => by (obtain ⟨_, q⟩ := Four.below HFM.out hW; have c2 := q 2 _ rfl; go_simp)⟩) (by assumption) ?_
  try simp only [Act.put, List.getElem_toArray, List.getElem_cons_zero, List.getElem_cons_succ, List.setIfInBounds_toArray, List.set_cons_zero, List.set_cons_succ]
  refine wpAnyH_take (i := 51) (v := .bool true) rfl (by kernel_rfl) (by kernel_rfl) (by kernel_rfl) (fun _ _ _ h => h) (Or.inl ⟨by kernel_rfl, fun W hW => by go_simp⟩) (by assumption) ?_
  try simp only [Act.put, List.getElem_toArray, List.getElem_cons_zero, List.getElem_cons_succ, List.setIfInBounds_toArray, List.set_cons_zero, List.set_cons_succ]
  refine wpAnyH_take (i := 52) (v := .bool true) rfl (by kernel_rfl) (by kernel_rfl) (by kernel_rfl) (fun _ _ _ h => h) (Or.inl ⟨by kernel_rfl, fun W hW => by kernel_rfl⟩) (by assumption) ?_
  try simp only [Act.put, List.getElem_toArray, List.getElem_cons_zero, List.getElem_cons_succ, List.setIfInBounds_toArray, List.set_cons_zero, List.set_cons_succ]
  refine wpAnyH_take (i := 53) (v := .bool true) rfl (by kernel_rfl) (by kernel_rfl) (by kernel_rfl) (fun _ _ _ h => h) (Or.inl ⟨by kernel_rfl, fun W hW => by kernel_rfl⟩) (by assumption) ?_
  try simp only [Act.put, List.getElem_toArray, List.getElem_cons_zero, List.getElem_cons_succ, List.setIfInBounds_toArray, List.set_cons_zero, List.set_cons_succ]
  have hL2 := HL.out.below (HB.out.trans (hS.mono HB.out.size))
  refine wpAnyH_ready (rs := [54]) (by kernel_rfl) (by simp) ?_
  refine AllReadyH.cons rfl (fun K hK => ?_) AllReadyH.nil
  go_simp
  go_wp2_with (go_at_call 20; refine (law10_fixed _ hL2).mono ?_; rintro e w22 ⟨rfl, hb⟩; replace hS := hS.trans (hb.mono hS.size); clear hb)
  refine hK.out _ _ (hS) (fun _ => ?_)
  clear K hK
  try simp only [Act.put, List.getElem_toArray, List.getElem_cons_zero, List.getElem_cons_succ, List.setIfInBounds_toArray, List.set_cons_zero, List.set_cons_succ]
  refine wpAnyH_take (i := 55) (v := .bool true) rfl (by kernel_rfl) (by kernel_rfl) (by kernel_rfl) (fun _ _ _ h => h) (Or.inl ⟨by kernel_rfl, fun W hW => by kernel_rfl⟩) (by assumption) ?_
  try simp only [Act.put, List.getElem_toArray, List.getElem_cons_zero, List.getElem_cons_succ, List.setIfInBounds_toArray, List.set_cons_zero, List.set_cons_succ]
  refine wpAnyH_take (i := 56) (v := .bool true) rfl (by kernel_rfl) (by kernel_rfl) (by kernel_rfl) (fun _ _ _ h => h) (Or.inl ⟨by kernel_rfl, fun W hW => by kernel_rfl⟩) (by assumption) ?_
  try simp only [Act.put, List.getElem_toArray, List.getElem_cons_zero, List.getElem_cons_succ, List.setIfInBounds_toArray, List.set_cons_zero, List.set_cons_succ]
  refine wpAnyH_done (by kernel_rfl) ?_ _
  go_wp2_with fail
  go_ret
  exact ⟨rfl, HB.out.trans (hS.mono HB.out.size)⟩
end Go.Proofs.YtimmmjmmjokdbaaGreatDoor.lawSideTells
