/- SideBack: the law's walk. -/
import Derived.Test.YtimmmjmmjokdbaaGreatDoorSidLw2
set_option linter.unusedSimpArgs false
set_option linter.unusedVariables false
namespace Go.Proofs.YtimmmjmmjokdbaaGreatDoor.lawSideBack
open Go.RowKit
set_option maxRecDepth 100000 in
set_option maxHeartbeats 6400000 in
theorem walk (x0 : Sd.Side) (v : Value) (sx : List UInt8) (w : World) (hL : Laid10 w) (hX : OSide w v x0) :
    Calls Tryz.prog 5 #[v, .string ⟨sx.toArray⟩] w fun e w' => e = .returned (.bool true) ∧ Below w.heap.size w w' := by
  have HL := Lib.hid hL
  obtain ⟨pl, cl, ph, ch, pc, cc, pb, cb, rfl, _⟩ := hX.ex
  have HXO := Lib.hid hX
  clear hL hX
  go_enter Tryz.func5, Tryz.ntmps5
  go_upto_region 1 with fail
  obtain ⟨W1, hW1⟩ : ∃ W1, W1 = w.alloc (.cells #[.slice pl x0.labs.length cl, .slice ph x0.heads.length ch, .slice pc x0.cites.length cc, .slice pb x0.bibs.length cb] 26) := ⟨_, rfl⟩
  obtain ⟨g, hg⟩ : ∃ g, g = w.heap.size := ⟨_, rfl⟩
  rw [← hW1, ← hg]
  have hF : Four g W1 #[.slice pl x0.labs.length cl, .slice ph x0.heads.length ch, .slice pc x0.cites.length cc, .slice pb x0.bibs.length cb] := by rw [hW1, hg]; exact Four.made _ _ _
  have hZ : ∀ i : Nat, W1.frozen? ⟨g, i, none⟩ = false := by intro i; rw [hW1, hg]; simp
  have hb : Below w.heap.size w W1 := by rw [hW1]; exact below_new w _
  have c0 := hF.2 0 _ rfl; have c1 := hF.2 1 _ rfl; have c2 := hF.2 2 _ rfl; have c3 := hF.2 3 _ rfl
  replace HXO := Lib.hid (HXO.out.below hb)
  have HB := Lib.hid hb; have HF := Lib.hid hF; have HZ := Lib.hid hZ; have HG := Lib.hid hg
  obtain ⟨X, hXe⟩ : ∃ X, X = cutS 100 x0 := ⟨_, rfl⟩
  have Hsm := Lib.hid (show SideSm X by rw [hXe]; exact cutS_sm _ _ (by decide))
  have HXe := Lib.hid hXe
  clear hW1 hg hb hF hZ hXe
  go_upto_region 2 with (go_at_call 9; refine (law10_cut x0 _ 100 _ HXO.out (by decide)).mono ?_; rw [← HXe.out]; rintro e w2 ⟨⟨v2, rfl, hX2⟩, hb⟩; have HX2 := Lib.hid hX2; have hgl := HF.out.1; have d0 := (hb.cell (p := ⟨g, 0, none⟩) hgl).trans c0; have d1 := (hb.cell (p := ⟨g, 1, none⟩) hgl).trans c1; have d2 := (hb.cell (p := ⟨g, 2, none⟩) hgl).trans c2; have d3 := (hb.cell (p := ⟨g, 3, none⟩) hgl).trans c3; have f0 := (frozen_below (i := 0) hb hgl).trans (HZ.out 0); have f1 := (frozen_below (i := 1) hb hgl).trans (HZ.out 1); have f2 := (frozen_below (i := 2) hb hgl).trans (HZ.out 2); have f3 := (frozen_below (i := 3) hb hgl).trans (HZ.out 3); obtain ⟨vl, vh, vc, vb, rfl, ⟨ql, kl, rfl, _⟩, ⟨qh, kh, rfl, _⟩, ⟨qc, kc, rfl, _⟩, ⟨qb, kb, rfl, _⟩⟩ := hX2; have HB2 := Lib.hid hb; clear c0 c1 c2 c3 hb)
  obtain ⟨W3, hW3⟩ : ∃ W3, W3 = (((w2.setCell ⟨g, 0, none⟩ (.slice ql X.labs.length kl)).setCell ⟨g, 1, none⟩ (.slice qh X.heads.length kh)).setCell ⟨g, 2, none⟩ (.slice qc X.cites.length kc)).setCell ⟨g, 3, none⟩ (.slice qb X.bibs.length kb) := ⟨_, rfl⟩
  rw [← hW3]
  have HX := Lib.hid (show SideIn (fun _ => True) W3 (.agg #[.slice ql X.labs.length kl, .slice qh X.heads.length kh, .slice qc X.cites.length kc, .slice qb X.bibs.length kb]) X by rw [hW3]; exact HX2.out.set4 g (fun j hj e => by have := HF.out.1; omega) _ _ _ _)
  have hF3 : Four g W3 #[.slice ql X.labs.length kl, .slice qh X.heads.length kh, .slice qc X.cites.length kc, .slice qb X.bibs.length kb] := by rw [hW3]; exact four_set _ _ _ _ (HF.out.below HB2.out)
  replace HB := Lib.hid (show Below w.heap.size w W3 by rw [hW3]; exact four_below (HB.out.trans (HB2.out.mono HB.out.size)) (by rw [HG.out]; exact Nat.le_refl _) _ _ _ _)
  replace HF := Lib.hid hF3
  clear hW3 hF3 HX2 HB2 hgl d0 d1 d2 d3 f0 f1 f2 f3 HXO HZ
  obtain ⟨q, hq⟩ : ∃ q : Nat, min (sx.length : Int) 400 = (q : Int) := ⟨min sx.length 400, by omega⟩
  have hq1 : (q : Int) ≤ (sx.length : Int) := by omega
  have hq2 : q ≤ 400 := by omega
  have hex : (⟨sx.toArray⟩ : ByteArray).extract 0 q = ⟨(sx.take q).toArray⟩ := by rw [extract_any]; simp
  obtain ⟨T, hT⟩ : ∃ T, sx.take q = T := ⟨_, rfl⟩
  have HTl := Lib.hid (show T.length ≤ 1000000 by rw [← hT]; have := List.length_take_le q sx; omega)
  go_upto_region 3 with fail
  clear hq hq1 hq2 hex hT
  obtain ⟨s, c, he⟩ : ∃ s c, Sd.enc X = (s, c) := ⟨_, _, rfl⟩
  have He := Lib.hid he
  have hor := Sd.right_enc X
  rw [he] at hor
  have Hor := Lib.hid hor
  clear he hor
  have c0 := HF.out.2 0 _ rfl; have c1 := HF.out.2 1 _ rfl; have c2 := HF.out.2 2 _ rfl; have c3 := HF.out.2 3 _ rfl
  go_upto_region 4 with (go_at_call 10; refine (side_encode _ _ _ _ (HL.out.below HB.out) HX.out Hsm.out).mono ?_; rw [He.out]; rintro e w4 ⟨rfl, hb⟩; replace HX := Lib.hid (HX.out.below hb); replace HF := Lib.hid (HF.out.below hb); replace HB := Lib.hid (HB.out.trans (hb.mono HB.out.size)); clear hb)
  clear c0 c1 c2 c3
  have c0 := HF.out.2 0 _ rfl; have c1 := HF.out.2 1 _ rfl; have c2 := HF.out.2 2 _ rfl; have c3 := HF.out.2 3 _ rfl
  have hcase : ((c = 0 ∧ Sd.right X = true ∧ Sd.dec s = some X ∧ s.length ≤ 1000000) ∨ (c = 5 ∧ s = [] ∧ Sd.right X = false)) := by
    rcases Hor.out with ⟨s', h1, h2, h3, h4⟩ | ⟨h1, h2⟩
    · obtain ⟨rfl, rfl⟩ := Prod.mk.inj h1
      exact .inl ⟨rfl, h2, by rw [h3]; exact Sd.dec_enc X h2, by omega⟩
    · obtain ⟨rfl, rfl⟩ := Prod.mk.inj h1
      exact .inr ⟨rfl, rfl, h2⟩
  clear He Hor
  rcases hcase with ⟨rfl, hr, hd, hl⟩ | ⟨rfl, rfl, hr⟩
  · have Hr := Lib.hid hr; have Hd := Lib.hid hd; have Hl := Lib.hid hl
    clear hr hd hl
    go_upto_if 43 with (go_at_call 17; refine (side_right X _ _ _ HX.out Hsm.out).mono ?_; rw [Hr.out]; rintro e w5 ⟨rfl, hb⟩; replace HX := Lib.hid (HX.out.below hb); replace HF := Lib.hid (HF.out.below hb); replace HB := Lib.hid (HB.out.trans (hb.mono HB.out.size)); clear hb)
    clear c0 c1 c2 c3
    go_cut [4] (fun v wx => Below w.heap.size w wx)
    case first =>
      go_upto_region 8 with (go_at_call 13; refine (side_decode s _ (HL.out.below HB.out) Hl.out).mono ?_; rintro e w6 ⟨hb, hm⟩; rw [Hd.out] at hm; obtain ⟨vy, hY, _, rfl⟩ := hm; have HY := Lib.hid hY; replace HX := Lib.hid (HX.out.below hb); replace HF := Lib.hid (HF.out.below hb); replace HB := Lib.hid (HB.out.trans (hb.mono HB.out.size)); clear hb; obtain ⟨y0, y1, y2, y3, rfl, ⟨py0, cy0, rfl, _⟩, ⟨py1, cy1, rfl, _⟩, ⟨py2, cy2, rfl, _⟩, ⟨py3, cy3, rfl, _⟩⟩ := hY)
      obtain ⟨w7, hwx⟩ : ∃ W, W = w6.alloc (.cells #[.slice py0 X.labs.length cy0, .slice py1 X.heads.length cy1, .slice py2 X.cites.length cy2, .slice py3 X.bibs.length cy3] 26) := ⟨_, rfl⟩
      obtain ⟨g2, hgx⟩ : ∃ g, g = w6.heap.size := ⟨_, rfl⟩
      rw [← hwx, ← hgx]
      have hb : Below w6.heap.size w6 w7 := by rw [hwx]; exact below_new _ _
      replace HX := Lib.hid (HX.out.below hb)
      replace HF := Lib.hid (HF.out.below hb)
      replace HY := Lib.hid (HY.out.below hb)
      replace HB := Lib.hid (HB.out.trans (hb.mono HB.out.size))
      have HFY := Lib.hid (show Four g2 w7 #[.slice py0 X.labs.length cy0, .slice py1 X.heads.length cy1, .slice py2 X.cites.length cy2, .slice py3 X.bibs.length cy3] from by rw [hgx, hwx]; exact Four.made _ _ _)
      clear hb hwx hgx
      refine wp_region_any (by kernel_rfl) ?_
      change wpAny _ _ _ _ _ _ _ (World.drew _)
      obtain ⟨w8, hw0⟩ : ∃ W, W = w7.drew := ⟨_, rfl⟩
      rw [← hw0]
      have hb : Below w7.heap.size w7 w8 := by rw [hw0]; exact (Below.refl _ _).drew
      replace HX := Lib.hid (HX.out.below hb)
      replace HF := Lib.hid (HF.out.below hb)
      replace HY := Lib.hid (HY.out.below hb)
      replace HFY := Lib.hid (HFY.out.below hb)
      replace HB := Lib.hid (HB.out.trans (hb.mono HB.out.size))
      clear hb hw0
      have hS : Below w8.heap.size w8 w8 := Below.refl _ _
      refine wpAny_of_held (S := fun W => Below w8.heap.size w8 W) _ _ _ _ ?_
      refine wpAnyH_take (i := 0) (v := .int .i64 0) rfl (by kernel_rfl) (by kernel_rfl) (by kernel_rfl) (fun _ _ _ h => h) (Or.inl ⟨by kernel_rfl, fun W hW => by kernel_rfl⟩) (by assumption) ?_
      try simp only [Act.put, List.getElem_toArray, List.getElem_cons_zero, List.getElem_cons_succ, List.setIfInBounds_toArray, List.set_cons_zero, List.set_cons_succ]
      refine wpAnyH_take (i := 1) (v := .bool false) rfl (by kernel_rfl) (by kernel_rfl) (by kernel_rfl) (fun _ _ _ h => h) (Or.inl ⟨by kernel_rfl, fun W hW => by kernel_rfl⟩) (by assumption) ?_
      try simp only [Act.put, List.getElem_toArray, List.getElem_cons_zero, List.getElem_cons_succ, List.setIfInBounds_toArray, List.set_cons_zero, List.set_cons_succ]
      refine wpAnyH_take (i := 2) (v := .bool false) rfl (by kernel_rfl) (by kernel_rfl) (by kernel_rfl) (fun _ _ _ h => h) (Or.inl ⟨by kernel_rfl, fun W hW => by kernel_rfl⟩) (by assumption) ?_
      try simp only [Act.put, List.getElem_toArray, List.getElem_cons_zero, List.getElem_cons_succ, List.setIfInBounds_toArray, List.set_cons_zero, List.set_cons_succ]
      refine wpAnyH_take (i := 3) (v := .agg #[.slice ql X.labs.length kl, .slice qh X.heads.length kh, .slice qc X.cites.length kc, .slice qb X.bibs.length kb]) rfl (by kernel_rfl) (by kernel_rfl) (by kernel_rfl) (fun _ _ _ h => h) (Or.inl ⟨by kernel_rfl, fun W hW => by (obtain ⟨_, q⟩ := Four.below HF.out hW; have c0 := q 0 _ rfl; have c1 := q 1 _ rfl; have c2 := q 2 _ rfl; have c3 := q 3 _ rfl; go_simp)⟩) (by assumption) ?_
      try simp only [Act.put, List.getElem_toArray, List.getElem_cons_zero, List.getElem_cons_succ, List.setIfInBounds_toArray, List.set_cons_zero, List.set_cons_succ]
      refine wpAnyH_take (i := 5) (v := .agg #[.slice py0 X.labs.length cy0, .slice py1 X.heads.length cy1, .slice py2 X.cites.length cy2, .slice py3 X.bibs.length cy3]) rfl (by kernel_rfl) (by kernel_rfl) (by kernel_rfl) (fun _ _ _ h => h) (Or.inl ⟨by kernel_rfl, fun W hW => by (obtain ⟨_, q⟩ := Four.below HFY.out hW; have c0 := q 0 _ rfl; have c1 := q 1 _ rfl; have c2 := q 2 _ rfl; have c3 := q 3 _ rfl; go_simp)⟩) (by assumption) ?_
      try simp only [Act.put, List.getElem_toArray, List.getElem_cons_zero, List.getElem_cons_succ, List.setIfInBounds_toArray, List.set_cons_zero, List.set_cons_succ]
      refine wpAnyH_ready (rs := [4]) (by kernel_rfl) (by simp) ?_
      refine AllReadyH.cons rfl (fun K hK => ?_) AllReadyH.nil
      go_simp
      go_wp2_with (go_at_call 12; refine (law10_ref X _ _ _ (HX.out.below hS) Hsm.out).mono ?_; rintro e wa ⟨⟨v1, rfl, hR⟩, hb⟩; have HR1 := Lib.hid hR; clear hR; replace hS := hS.trans (hb.mono hS.size); clear hb)
      refine hK.out _ _ (hS) (fun _ => ?_)
      clear K hK
      try simp only [Act.put, List.getElem_toArray, List.getElem_cons_zero, List.getElem_cons_succ, List.setIfInBounds_toArray, List.set_cons_zero, List.set_cons_succ]
      refine wpAnyH_ready (rs := [6]) (by kernel_rfl) (by simp) ?_
      refine AllReadyH.cons rfl (fun K hK => ?_) AllReadyH.nil
      go_simp
      go_wp2_with (go_at_call 12; refine (law10_ref X _ _ _ (HY.out.below hS) Hsm.out).mono ?_; rintro e wb ⟨⟨v2, rfl, hR⟩, hb⟩; have HR2 := Lib.hid hR; clear hR; replace HR1 := Lib.hid (HR1.out.below hb); replace hS := hS.trans (hb.mono hS.size); clear hb)
      refine hK.out _ _ (hS) (fun _ => ?_)
      clear K hK
      try simp only [Act.put, List.getElem_toArray, List.getElem_cons_zero, List.getElem_cons_succ, List.setIfInBounds_toArray, List.set_cons_zero, List.set_cons_succ]
      refine wpAnyH_ready (rs := [7]) (by kernel_rfl) (by simp) ?_
      refine AllReadyH.cons rfl (fun K hK => ?_) AllReadyH.nil
      go_simp
      go_wp2_with (go_at_call 19; refine (law10_same X X _ _ _ _ _ HR1.out HR2.out).mono ?_; rintro e wc ⟨he, hb⟩; obtain rfl : e = .returned (.bool true) := (by rw [he, decide_eq_true (rfl : X = X)]); replace hS := hS.trans (hb.mono hS.size); clear hb he)
      refine hK.out _ _ (hS) (fun _ => ?_)
      clear K hK
      try simp only [Act.put, List.getElem_toArray, List.getElem_cons_zero, List.getElem_cons_succ, List.setIfInBounds_toArray, List.set_cons_zero, List.set_cons_succ]
      refine wpAnyH_take (i := 8) (v := .bool false) rfl (by kernel_rfl) (by kernel_rfl) (by kernel_rfl) (fun _ _ _ h => h) (Or.inl ⟨by kernel_rfl, fun W hW => by kernel_rfl⟩) (by assumption) ?_
      try simp only [Act.put, List.getElem_toArray, List.getElem_cons_zero, List.getElem_cons_succ, List.setIfInBounds_toArray, List.set_cons_zero, List.set_cons_succ]
      refine wpAnyH_take (i := 9) (v := .bool false) rfl (by kernel_rfl) (by kernel_rfl) (by kernel_rfl) (fun _ _ _ h => h) (Or.inl ⟨by kernel_rfl, fun W hW => by kernel_rfl⟩) (by assumption) ?_
      try simp only [Act.put, List.getElem_toArray, List.getElem_cons_zero, List.getElem_cons_succ, List.setIfInBounds_toArray, List.set_cons_zero, List.set_cons_succ]
      refine wpAnyH_done (by kernel_rfl) ?_ _
      replace HB := Lib.hid (HB.out.trans (hS.mono HB.out.size))
      go_wp2_with fail
      go_meet
      exact HB.out
    case rest =>
      have HB := Lib.hid hcut
      clear hcut
      obtain ⟨d, hd⟩ : ∃ d, Sd.dec T = d := ⟨_, rfl⟩
      have Hd2 := Lib.hid hd
      clear hd
      cases d with
      | none =>
        go_upto_region 11 with (go_at_call 13; refine (side_decode T _ (HL.out.below HB.out) HTl.out).mono ?_; rintro e w6 ⟨hb, hm⟩; rw [Hd2.out] at hm; obtain rfl := hm; replace HB := Lib.hid (HB.out.trans (hb.mono HB.out.size)); clear hb)
        obtain ⟨w7, hwx⟩ : ∃ W, W = w6.alloc (.cells #[.slice none 0 0, .slice none 0 0, .slice none 0 0, .slice none 0 0] 26) := ⟨_, rfl⟩
        obtain ⟨g2, hgx⟩ : ∃ g, g = w6.heap.size := ⟨_, rfl⟩
        rw [← hwx, ← hgx]
        have hb : Below w6.heap.size w6 w7 := by rw [hwx]; exact below_new _ _
        replace HB := Lib.hid (HB.out.trans (hb.mono HB.out.size))
        have HFY := Lib.hid (show Four g2 w7 #[.slice none 0 0, .slice none 0 0, .slice none 0 0, .slice none 0 0] from by rw [hgx, hwx]; exact Four.made _ _ _)
        clear hb hwx hgx
        have c0 := HFY.out.2 0 _ rfl; have c1 := HFY.out.2 1 _ rfl; have c2 := HFY.out.2 2 _ rfl; have c3 := HFY.out.2 3 _ rfl
        go_wp2_with (first | (go_at_call 12; refine (law10_ref Sd.none_ _ _ _ (side_nil _) none_sm).mono ?_; rintro e w8 ⟨⟨v1, rfl, hR⟩, hb⟩; have HR1 := Lib.hid hR; replace HB := Lib.hid (HB.out.trans (hb.mono HB.out.size)); clear hb) | (go_at_call 19; refine (law10_same Sd.none_ Sd.none_ _ _ _ _ _ HR1.out (side_nil _)).mono ?_; rintro e w9 ⟨he, hb⟩; obtain rfl : e = .returned (.bool true) := (by rw [he, decide_eq_true (rfl : Sd.none_ = Sd.none_)]); replace HB := Lib.hid (HB.out.trans (hb.mono HB.out.size)); clear hb) | (go_at_call 20; refine (law10_fixed _ (HL.out.below HB.out)).mono ?_; rintro e wf ⟨rfl, hb⟩; replace HB := Lib.hid (HB.out.trans (hb.mono HB.out.size)); clear hb))
        go_ret
        exact ⟨rfl, HB.out⟩
      | some z =>
        go_upto_region 11 with (go_at_call 13; refine (side_decode T _ (HL.out.below HB.out) HTl.out).mono ?_; rintro e w6 ⟨hb, hm⟩; rw [Hd2.out] at hm; obtain ⟨vy, hY, _, rfl⟩ := hm; have HY := Lib.hid hY; replace HB := Lib.hid (HB.out.trans (hb.mono HB.out.size)); clear hb; obtain ⟨y0, y1, y2, y3, rfl, ⟨py0, cy0, rfl, _⟩, ⟨py1, cy1, rfl, _⟩, ⟨py2, cy2, rfl, _⟩, ⟨py3, cy3, rfl, _⟩⟩ := hY)
        obtain ⟨w7, hwx⟩ : ∃ W, W = w6.alloc (.cells #[.slice py0 z.labs.length cy0, .slice py1 z.heads.length cy1, .slice py2 z.cites.length cy2, .slice py3 z.bibs.length cy3] 26) := ⟨_, rfl⟩
        obtain ⟨g2, hgx⟩ : ∃ g, g = w6.heap.size := ⟨_, rfl⟩
        rw [← hwx, ← hgx]
        have hb : Below w6.heap.size w6 w7 := by rw [hwx]; exact below_new _ _
        replace HY := Lib.hid (HY.out.below hb)
        replace HB := Lib.hid (HB.out.trans (hb.mono HB.out.size))
        have HFY := Lib.hid (show Four g2 w7 #[.slice py0 z.labs.length cy0, .slice py1 z.heads.length cy1, .slice py2 z.cites.length cy2, .slice py3 z.bibs.length cy3] from by rw [hgx, hwx]; exact Four.made _ _ _)
        clear hb hwx hgx
        have hso := Sd.dec_sound T z Hd2.out
        have Hzr := Lib.hid hso.1
        have hez : Sd.enc z = (T, 0) := by unfold Sd.enc; rw [if_pos hso.1, hso.2]
        have Hez := Lib.hid hez
        have Hzs := Lib.hid (right_sm hso.1)
        clear hso hez
        have c0 := HFY.out.2 0 _ rfl; have c1 := HFY.out.2 1 _ rfl; have c2 := HFY.out.2 2 _ rfl; have c3 := HFY.out.2 3 _ rfl
        go_upto_region 14 with (go_at_call 10; refine (side_encode z _ _ _ (HL.out.below HB.out) HY.out Hzs.out).mono ?_; rw [Hez.out]; rintro e w8 ⟨rfl, hb⟩; replace HY := Lib.hid (HY.out.below hb); replace HFY := Lib.hid (HFY.out.below hb); replace HB := Lib.hid (HB.out.trans (hb.mono HB.out.size)); clear hb)
        clear c0 c1 c2 c3
        have c0 := HFY.out.2 0 _ rfl; have c1 := HFY.out.2 1 _ rfl; have c2 := HFY.out.2 2 _ rfl; have c3 := HFY.out.2 3 _ rfl
        go_wp2_with (first | (go_at_call 17; refine (side_right z _ _ _ HY.out Hzs.out).mono ?_; rw [Hzr.out]; rintro e w9 ⟨rfl, hb⟩; replace HY := Lib.hid (HY.out.below hb); replace HFY := Lib.hid (HFY.out.below hb); replace HB := Lib.hid (HB.out.trans (hb.mono HB.out.size)); clear hb) | (go_at_call 20; refine (law10_fixed _ (HL.out.below HB.out)).mono ?_; rintro e wf ⟨rfl, hb⟩; replace HB := Lib.hid (HB.out.trans (hb.mono HB.out.size)); clear hb))
        go_ret
        exact ⟨rfl, HB.out⟩
  · have Hr := Lib.hid hr
    clear hr
    go_upto_if 43 with (go_at_call 17; refine (side_right X _ _ _ HX.out Hsm.out).mono ?_; rw [Hr.out]; rintro e w5 ⟨rfl, hb⟩; replace HX := Lib.hid (HX.out.below hb); replace HF := Lib.hid (HF.out.below hb); replace HB := Lib.hid (HB.out.trans (hb.mono HB.out.size)); clear hb)
    clear c0 c1 c2 c3
    go_cut [4] (fun v wx => Below w.heap.size w wx)
    case first =>
      go_wp2_with fail
      go_meet
      exact HB.out
    case rest =>
      have HB := Lib.hid hcut
      clear hcut
      obtain ⟨d, hd⟩ : ∃ d, Sd.dec T = d := ⟨_, rfl⟩
      have Hd2 := Lib.hid hd
      clear hd
      cases d with
      | none =>
        go_upto_region 11 with (go_at_call 13; refine (side_decode T _ (HL.out.below HB.out) HTl.out).mono ?_; rintro e w6 ⟨hb, hm⟩; rw [Hd2.out] at hm; obtain rfl := hm; replace HB := Lib.hid (HB.out.trans (hb.mono HB.out.size)); clear hb)
        obtain ⟨w7, hwx⟩ : ∃ W, W = w6.alloc (.cells #[.slice none 0 0, .slice none 0 0, .slice none 0 0, .slice none 0 0] 26) := ⟨_, rfl⟩
        obtain ⟨g2, hgx⟩ : ∃ g, g = w6.heap.size := ⟨_, rfl⟩
        rw [← hwx, ← hgx]
        have hb : Below w6.heap.size w6 w7 := by rw [hwx]; exact below_new _ _
        replace HB := Lib.hid (HB.out.trans (hb.mono HB.out.size))
        have HFY := Lib.hid (show Four g2 w7 #[.slice none 0 0, .slice none 0 0, .slice none 0 0, .slice none 0 0] from by rw [hgx, hwx]; exact Four.made _ _ _)
        clear hb hwx hgx
        have c0 := HFY.out.2 0 _ rfl; have c1 := HFY.out.2 1 _ rfl; have c2 := HFY.out.2 2 _ rfl; have c3 := HFY.out.2 3 _ rfl
        go_wp2_with (first | (go_at_call 12; refine (law10_ref Sd.none_ _ _ _ (side_nil _) none_sm).mono ?_; rintro e w8 ⟨⟨v1, rfl, hR⟩, hb⟩; have HR1 := Lib.hid hR; replace HB := Lib.hid (HB.out.trans (hb.mono HB.out.size)); clear hb) | (go_at_call 19; refine (law10_same Sd.none_ Sd.none_ _ _ _ _ _ HR1.out (side_nil _)).mono ?_; rintro e w9 ⟨he, hb⟩; obtain rfl : e = .returned (.bool true) := (by rw [he, decide_eq_true (rfl : Sd.none_ = Sd.none_)]); replace HB := Lib.hid (HB.out.trans (hb.mono HB.out.size)); clear hb) | (go_at_call 20; refine (law10_fixed _ (HL.out.below HB.out)).mono ?_; rintro e wf ⟨rfl, hb⟩; replace HB := Lib.hid (HB.out.trans (hb.mono HB.out.size)); clear hb))
        go_ret
        exact ⟨rfl, HB.out⟩
      | some z =>
        go_upto_region 11 with (go_at_call 13; refine (side_decode T _ (HL.out.below HB.out) HTl.out).mono ?_; rintro e w6 ⟨hb, hm⟩; rw [Hd2.out] at hm; obtain ⟨vy, hY, _, rfl⟩ := hm; have HY := Lib.hid hY; replace HB := Lib.hid (HB.out.trans (hb.mono HB.out.size)); clear hb; obtain ⟨y0, y1, y2, y3, rfl, ⟨py0, cy0, rfl, _⟩, ⟨py1, cy1, rfl, _⟩, ⟨py2, cy2, rfl, _⟩, ⟨py3, cy3, rfl, _⟩⟩ := hY)
        obtain ⟨w7, hwx⟩ : ∃ W, W = w6.alloc (.cells #[.slice py0 z.labs.length cy0, .slice py1 z.heads.length cy1, .slice py2 z.cites.length cy2, .slice py3 z.bibs.length cy3] 26) := ⟨_, rfl⟩
        obtain ⟨g2, hgx⟩ : ∃ g, g = w6.heap.size := ⟨_, rfl⟩
        rw [← hwx, ← hgx]
        have hb : Below w6.heap.size w6 w7 := by rw [hwx]; exact below_new _ _
        replace HY := Lib.hid (HY.out.below hb)
        replace HB := Lib.hid (HB.out.trans (hb.mono HB.out.size))
        have HFY := Lib.hid (show Four g2 w7 #[.slice py0 z.labs.length cy0, .slice py1 z.heads.length cy1, .slice py2 z.cites.length cy2, .slice py3 z.bibs.length cy3] from by rw [hgx, hwx]; exact Four.made _ _ _)
        clear hb hwx hgx
        have hso := Sd.dec_sound T z Hd2.out
        have Hzr := Lib.hid hso.1
        have hez : Sd.enc z = (T, 0) := by unfold Sd.enc; rw [if_pos hso.1, hso.2]
        have Hez := Lib.hid hez
        have Hzs := Lib.hid (right_sm hso.1)
        clear hso hez
        have c0 := HFY.out.2 0 _ rfl; have c1 := HFY.out.2 1 _ rfl; have c2 := HFY.out.2 2 _ rfl; have c3 := HFY.out.2 3 _ rfl
        go_upto_region 14 with (go_at_call 10; refine (side_encode z _ _ _ (HL.out.below HB.out) HY.out Hzs.out).mono ?_; rw [Hez.out]; rintro e w8 ⟨rfl, hb⟩; replace HY := Lib.hid (HY.out.below hb); replace HFY := Lib.hid (HFY.out.below hb); replace HB := Lib.hid (HB.out.trans (hb.mono HB.out.size)); clear hb)
        clear c0 c1 c2 c3
        have c0 := HFY.out.2 0 _ rfl; have c1 := HFY.out.2 1 _ rfl; have c2 := HFY.out.2 2 _ rfl; have c3 := HFY.out.2 3 _ rfl
        go_wp2_with (first | (go_at_call 17; refine (side_right z _ _ _ HY.out Hzs.out).mono ?_; rw [Hzr.out]; rintro e w9 ⟨rfl, hb⟩; replace HY := Lib.hid (HY.out.below hb); replace HFY := Lib.hid (HFY.out.below hb); replace HB := Lib.hid (HB.out.trans (hb.mono HB.out.size)); clear hb) | (go_at_call 20; refine (law10_fixed _ (HL.out.below HB.out)).mono ?_; rintro e wf ⟨rfl, hb⟩; replace HB := Lib.hid (HB.out.trans (hb.mono HB.out.size)); clear hb))
        go_ret
        exact ⟨rfl, HB.out⟩
end Go.Proofs.YtimmmjmmjokdbaaGreatDoor.lawSideBack
