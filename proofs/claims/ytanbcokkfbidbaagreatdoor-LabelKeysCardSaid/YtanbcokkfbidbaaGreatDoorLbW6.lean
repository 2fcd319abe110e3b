/- The walks of label.order, cmp.Or and the comparison of two entries. -/
import Derived.Test.YtanbcokkfbidbaaGreatDoorLA
set_option linter.unusedSimpArgs false
set_option linter.unusedVariables false
namespace Go.Proofs.YtanbcokkfbidbaaGreatDoor
open Go.RowKit
def key1 (x : Ent.Ent) : List UInt8 := ((Lb.authors x).map Lb.pkey).headD []
def ordV (x : Ent.Ent) : Value := .agg #[.string ⟨(key1 x).toArray⟩, .string ⟨(Lb.field x Lb.yearW).toArray⟩, .string ⟨(Ent.small (Lb.field x Lb.titleW)).toArray⟩, .string ⟨x.key.toArray⟩]
theorem load_four (g : Nat) (a b c d : Value) (w : World) (h0 : w.cell? ⟨g, 0, none⟩ = some a) (h1 : w.cell? ⟨g, 1, none⟩ = some b) (h2 : w.cell? ⟨g, 2, none⟩ = some c) (h3 : w.cell? ⟨g, 3, none⟩ = some d) :
    (loadVar 52 ⟨g, 0, none⟩).run Tryz.prog w = .ok (.agg #[a, b, c, d]) w := by
  go_simp
set_option maxRecDepth 100000 in
set_option maxHeartbeats 3200000 in
theorem lb_order (x : Ent.Ent) (vf : Value) (m : Int) (S : Nat → Prop) (w : World) (hF : SliceIn S 2 RFld w vf x.fields) (hB : Lb.EntB x) (hm : w.cell? ⟨0, 0, none⟩ = some (.int .i64 m)) (h0 : 0 < w.heap.size) :
    Calls Tryz.prog 22 #[.agg #[.string ⟨x.kind.toArray⟩, .string ⟨x.key.toArray⟩, vf]] w fun e w' => e = .returned (ordV x) ∧ Below w.heap.size w w' := by
  have hb0 := below_new w (.cells #[.string ⟨x.kind.toArray⟩, .string ⟨x.key.toArray⟩, vf] 27)
  have hE := E3.new w 27 (.string ⟨x.kind.toArray⟩) (.string ⟨x.key.toArray⟩) vf
  have hb1 := below_new (w.alloc (.cells #[.string ⟨x.kind.toArray⟩, .string ⟨x.key.toArray⟩, vf] 27)) (.cells #[.string ⟨#[]⟩, .string ⟨#[]⟩, .string ⟨#[]⟩, .string ⟨#[]⟩] 52)
  have hR := P4.new (w.alloc (.cells #[.string ⟨x.kind.toArray⟩, .string ⟨x.key.toArray⟩, vf] 27)) 52 (.string ⟨#[]⟩) (.string ⟨#[]⟩) (.string ⟨#[]⟩) (.string ⟨#[]⟩)
  have hz : (w.alloc (.cells #[.string ⟨x.kind.toArray⟩, .string ⟨x.key.toArray⟩, vf] 27)).heap.size = w.heap.size + 1 := by simp
  have hE2 := hE.below' hb1
  have c0 := hE2.c0; have c1 := hE2.c1; have c2 := hE2.c2
  rw [hz] at hR
  obtain ⟨g0, hg0⟩ : ∃ g0, w.heap.size = g0 := ⟨_, rfl⟩
  have hbb := bseq hb0 hb1
  have hM := keptM hm h0 hbb
  have HF := Lib.hid (SliceIn.below' hF hbb)
  have Hgr := Lib.hid (show w.heap.size ≤ g0 + 1 by omega)
  have Hgg := Lib.hid (show g0 + 1 ≠ g0 by omega)
  rw [hg0] at hE2 hR
  have HE := Lib.hid hE2; have Hb0 := Lib.hid hbb; have HM := Lib.hid hM; have HB := Lib.hid hB; have HR := Lib.hid hR
  have htl := hB.field Lb.titleW
  have hap := hB.authors.2
  have hov : ordV x = .agg #[.string ⟨(((Lb.authors x).map Lb.pkey).headD []).toArray⟩, .string ⟨(Lb.field x Lb.yearW).toArray⟩, .string ⟨(Ent.small (Lb.field x Lb.titleW)).toArray⟩, .string ⟨x.key.toArray⟩] := rfl
  obtain ⟨A, hA⟩ : ∃ A, Lb.authors x = A := ⟨_, rfl⟩
  obtain ⟨T, hT⟩ : ∃ T, Lb.field x Lb.titleW = T := ⟨_, rfl⟩
  obtain ⟨Y, hY⟩ : ∃ Y, Lb.field x Lb.yearW = Y := ⟨_, rfl⟩
  rw [hA] at hap; rw [hT] at htl; rw [hA, hT, hY] at hov
  have HA := Lib.hid hA; have HT := Lib.hid hT; have HY := Lib.hid hY; have Hov := Lib.hid hov; have Hap := Lib.hid hap; have HTl := Lib.hid (show T.length ≤ 1000000 by omega)
  clear hE hE2 hR hb0 hb1 hbb hF hm h0 hB hA hT hY hov hap hM htl hz
  cases A with
  | nil =>
    go_enter Tryz.func22, Tryz.ntmps22
    go_upto_region 5 with (go_at_call 35; refine (lb_authors x vf m S _ HF.out HB.out HM.out.1 HM.out.2).mono ?_; rw [HA.out]; rintro e w1 ⟨⟨va, rfl, hSa⟩, hb1⟩; have HE1 := Lib.hid (HE.out.below' hb1); have HF1 := Lib.hid (SliceIn.below' HF.out hb1); have HR1 := Lib.hid (HR.out.below' hb1); have Hb1 := Lib.hid (bseq Hb0.out hb1); obtain ⟨pv, cv, hv, _⟩ := hSa; subst hv; clear hb1)
    clear c0 c1 c2
    refine wp_region_any (by kernel_rfl) ?_
    change wpAny _ _ _ _ _ _ _ (World.drew _)
    have HEd := Lib.hid HE1.out.drew; have HFd := Lib.hid (SliceIn.below' HF1.out (Below.refl _ _).drew); have HBd := Lib.hid Hb1.out.drew; have HRd := Lib.hid HR1.out.drew
    clear HE1 HF1 Hb1 HR1
    generalize w1.drew = wd at *
    have hS0 := HEd.out
    refine wpAny_of_held (S := fun W => E3 W g0 (.string ⟨x.kind.toArray⟩) (.string ⟨x.key.toArray⟩) vf) _ _ _ _ ?_
    refine wpAnyH_take (i := 0) (v := .string ⟨([] : List UInt8).toArray⟩) rfl (by kernel_rfl) (by kernel_rfl) (by kernel_rfl) (fun _ _ _ h => h) (Or.inl ⟨by kernel_rfl, fun W hW => by kernel_rfl⟩) (by assumption) ?_
    try simp only [Act.put, List.getElem_toArray, List.getElem_cons_zero, List.getElem_cons_succ, List.setIfInBounds_toArray, List.set_cons_zero, List.set_cons_succ]
    refine wpAnyH_take (i := 1) (v := .agg #[.string ⟨x.kind.toArray⟩, .string ⟨x.key.toArray⟩, vf]) rfl (by kernel_rfl) (by kernel_rfl) (by kernel_rfl) (fun _ _ _ h => h) (Or.inl ⟨by kernel_rfl, fun W hW => by (obtain ⟨c0, c1, c2, _, _⟩ := hW; go_simp)⟩) (by assumption) ?_
    try simp only [Act.put, List.getElem_toArray, List.getElem_cons_zero, List.getElem_cons_succ, List.setIfInBounds_toArray, List.set_cons_zero, List.set_cons_succ]
    refine wpAnyH_take (i := 3) (v := .agg #[.string ⟨x.kind.toArray⟩, .string ⟨x.key.toArray⟩, vf]) rfl (by kernel_rfl) (by kernel_rfl) (by kernel_rfl) (fun _ _ _ h => h) (Or.inl ⟨by kernel_rfl, fun W hW => by (obtain ⟨c0, c1, c2, _, _⟩ := hW; go_simp)⟩) (by assumption) ?_
    try simp only [Act.put, List.getElem_toArray, List.getElem_cons_zero, List.getElem_cons_succ, List.setIfInBounds_toArray, List.set_cons_zero, List.set_cons_succ]
    refine wpAnyH_take (i := 6) (v := .pointer (some ⟨g0, 1, none⟩)) rfl (by kernel_rfl) (by kernel_rfl) (by kernel_rfl) (fun _ _ _ h => h) (Or.inl ⟨by kernel_rfl, fun W hW => by go_simp⟩) (by assumption) ?_
    try simp only [Act.put, List.getElem_toArray, List.getElem_cons_zero, List.getElem_cons_succ, List.setIfInBounds_toArray, List.set_cons_zero, List.set_cons_succ]
    refine wpAnyH_take (i := 7) (v := .string ⟨x.key.toArray⟩) rfl (by kernel_rfl) (by kernel_rfl) (by kernel_rfl) (fun _ _ _ h => h) (Or.inl ⟨by kernel_rfl, fun W hW => by (obtain ⟨c0, c1, c2, _, _⟩ := hW; go_simp)⟩) (by assumption) ?_
    try simp only [Act.put, List.getElem_toArray, List.getElem_cons_zero, List.getElem_cons_succ, List.setIfInBounds_toArray, List.set_cons_zero, List.set_cons_succ]
    refine wpAnyH_ready (rs := [2]) (by kernel_rfl) (by simp) ?_
    refine AllReadyH.cons rfl (fun K hK => ?_) AllReadyH.nil
    go_simp
    go_wp2_with (go_at_call 37; refine (lb_field x vf Lb.yearW S _ HFd.out).mono ?_; rw [HY.out]; rintro e w5 ⟨rfl, hb5⟩; have Hb5 := Lib.hid hb5; clear hb5)
    refine hK.out _ _ (HEd.out.below' Hb5.out) (fun _ => ?_)
    clear K hK
    try simp only [Act.put, List.getElem_toArray, List.getElem_cons_zero, List.getElem_cons_succ, List.setIfInBounds_toArray, List.set_cons_zero, List.set_cons_succ]
    refine wpAnyH_ready (rs := [4]) (by kernel_rfl) (by simp) ?_
    refine AllReadyH.cons rfl (fun K hK => ?_) AllReadyH.nil
    go_simp
    go_wp2_with (go_at_call 37; refine (lb_field x vf Lb.titleW S _ (SliceIn.below' HFd.out Hb5.out)).mono ?_; rw [HT.out]; rintro e w6 ⟨rfl, hb6⟩; have Hb6 := Lib.hid (bseq Hb5.out hb6); clear hb6)
    refine hK.out _ _ (HEd.out.below' Hb6.out) (fun _ => ?_)
    clear K hK
    try simp only [Act.put, List.getElem_toArray, List.getElem_cons_zero, List.getElem_cons_succ, List.setIfInBounds_toArray, List.set_cons_zero, List.set_cons_succ]
    refine wpAnyH_ready (rs := [5]) (by kernel_rfl) (by simp) ?_
    refine AllReadyH.cons rfl (fun K hK => ?_) AllReadyH.nil
    go_simp
    go_wp2_with (go_at_call 38; refine (lb_small T _ HTl.out).mono ?_; rintro e w7 ⟨rfl, hb7⟩; have Hb7 := Lib.hid (bseq Hb6.out hb7); clear hb7)
    refine hK.out _ _ (HEd.out.below' Hb7.out) (fun _ => ?_)
    clear K hK
    try simp only [Act.put, List.getElem_toArray, List.getElem_cons_zero, List.getElem_cons_succ, List.setIfInBounds_toArray, List.set_cons_zero, List.set_cons_succ]
    refine wpAnyH_take (i := 8) (v := .agg #[.string ⟨([] : List UInt8).toArray⟩, .string ⟨Y.toArray⟩, .string ⟨(Ent.small T).toArray⟩, .string ⟨x.key.toArray⟩]) rfl (by kernel_rfl) (by kernel_rfl) (by kernel_rfl) (fun _ _ _ h => h) (Or.inl ⟨by kernel_rfl, fun W hW => by kernel_rfl⟩) (by assumption) ?_
    try simp only [Act.put, List.getElem_toArray, List.getElem_cons_zero, List.getElem_cons_succ, List.setIfInBounds_toArray, List.set_cons_zero, List.set_cons_succ]
    refine wpAnyH_ready (rs := [9]) (by kernel_rfl) (by simp) ?_
    refine AllReadyH.cons rfl (fun K hK => ?_) AllReadyH.nil
    have HR := Lib.hid (HRd.out.below' Hb7.out)
    have r0 := HR.out.f 0; have r1 := HR.out.f 1; have r2 := HR.out.f 2; have r3 := HR.out.f 3; have q0 := HR.out.c0; have q1 := HR.out.c1; have q2 := HR.out.c2; have q3 := HR.out.c3
    go_simp
    have hb8' := ((((HEd.out.below' Hb7.out).other Hgg.out 0 (.string ⟨([] : List UInt8).toArray⟩)).other Hgg.out 1 (.string ⟨Y.toArray⟩)).other Hgg.out 2 (.string ⟨(Ent.small T).toArray⟩)).other Hgg.out 3 (.string ⟨x.key.toArray⟩)
    have hb8 := below4 (HBd.out.trans (Hb7.out.mono HBd.out.size)) Hgr.out (.string ⟨([] : List UInt8).toArray⟩) (.string ⟨Y.toArray⟩) (.string ⟨(Ent.small T).toArray⟩) (.string ⟨x.key.toArray⟩)
    refine hK.out _ _ hb8' (fun _ => ?_)
    clear K hK r0 r1 r2 r3 q0 q1 q2 q3
    try simp only [Act.put, List.getElem_toArray, List.getElem_cons_zero, List.getElem_cons_succ, List.setIfInBounds_toArray, List.set_cons_zero, List.set_cons_succ]
    refine wpAnyH_done (by kernel_rfl) ?_ _
    go_wp2_with fail
    have hF := HR.out.all (.string ⟨([] : List UInt8).toArray⟩) (.string ⟨Y.toArray⟩) (.string ⟨(Ent.small T).toArray⟩) (.string ⟨x.key.toArray⟩)
    refine ret_one rfl rfl (load_four _ _ _ _ _ _ hF.c0 hF.c1 hF.c2 hF.c3) rfl ⟨?_, hb8⟩
    rw [Hov.out]; rfl
  | cons p r =>
    have hp := Hap.out p (by simp)
    have Hp := Lib.hid hp
    have hpos : (0 : Int) < ((p :: r).length : Int) := by simp
    go_enter Tryz.func22, Tryz.ntmps22
    go_upto_region 5 with (first
      | (go_at_call 35; refine (lb_authors x vf m S _ HF.out HB.out HM.out.1 HM.out.2).mono ?_; rw [HA.out]; rintro e w2 ⟨⟨va, rfl, hSa⟩, hb2⟩; have HE2 := Lib.hid (HE.out.below' hb2); have HF2 := Lib.hid (SliceIn.below' HF.out hb2); have HR2 := Lib.hid (HR.out.below' hb2); have Hb2 := Lib.hid (bseq Hb0.out hb2); obtain ⟨pv, cv, hv, _, _, hat⟩ := hSa; subst hv; obtain ⟨b, off, vs, hpv, _, _, hRR, hc⟩ := hat 0 p rfl; have hRR : vs = _ := hRR; subst hRR; subst hpv; (have e0 : w2.cell? ⟨b, off, none⟩ = some (.string ⟨p.first.toArray⟩) := hc 0 _ rfl); (have e1 : w2.cell? ⟨b, off + 1, none⟩ = some (.string ⟨p.von.toArray⟩) := hc 1 _ rfl); (have e2 : w2.cell? ⟨b, off + 2, none⟩ = some (.string ⟨p.last.toArray⟩) := hc 2 _ rfl); (have e3 : w2.cell? ⟨b, off + 3, none⟩ = some (.string ⟨p.jr.toArray⟩) := hc 3 _ rfl); clear hb2 hat hc)
      | (go_at_call 36; refine (nm_Key p _ (Nat.le_trans Hp.out.first (by decide)) (Nat.le_trans Hp.out.von (by decide)) (Nat.le_trans Hp.out.last (by decide)) (Nat.le_trans Hp.out.jr (by decide))).mono ?_; rintro e w1 ⟨rfl, hb1⟩; have HE1 := Lib.hid (HE2.out.below' hb1); have HF1 := Lib.hid (SliceIn.below' HF2.out hb1); have HR1 := Lib.hid (HR2.out.below' hb1); have Hb1 := Lib.hid (bseq Hb2.out hb1); clear hb1))
    clear c0 c1 c2 e0 e1 e2 e3
    clear HE2 HF2 HR2 Hb2
    refine wp_region_any (by kernel_rfl) ?_
    change wpAny _ _ _ _ _ _ _ (World.drew _)
    have HEd := Lib.hid HE1.out.drew; have HFd := Lib.hid (SliceIn.below' HF1.out (Below.refl _ _).drew); have HBd := Lib.hid Hb1.out.drew; have HRd := Lib.hid HR1.out.drew
    clear HE1 HF1 Hb1 HR1
    generalize w1.drew = wd at *
    have hS0 := HEd.out
    refine wpAny_of_held (S := fun W => E3 W g0 (.string ⟨x.kind.toArray⟩) (.string ⟨x.key.toArray⟩) vf) _ _ _ _ ?_
    refine wpAnyH_take (i := 0) (v := .string ⟨(Lb.pkey p).toArray⟩) rfl (by kernel_rfl) (by kernel_rfl) (by kernel_rfl) (fun _ _ _ h => h) (Or.inl ⟨by kernel_rfl, fun W hW => by kernel_rfl⟩) (by assumption) ?_
    try simp only [Act.put, List.getElem_toArray, List.getElem_cons_zero, List.getElem_cons_succ, List.setIfInBounds_toArray, List.set_cons_zero, List.set_cons_succ]
    refine wpAnyH_take (i := 1) (v := .agg #[.string ⟨x.kind.toArray⟩, .string ⟨x.key.toArray⟩, vf]) rfl (by kernel_rfl) (by kernel_rfl) (by kernel_rfl) (fun _ _ _ h => h) (Or.inl ⟨by kernel_rfl, fun W hW => by (obtain ⟨c0, c1, c2, _, _⟩ := hW; go_simp)⟩) (by assumption) ?_
    try simp only [Act.put, List.getElem_toArray, List.getElem_cons_zero, List.getElem_cons_succ, List.setIfInBounds_toArray, List.set_cons_zero, List.set_cons_succ]
    refine wpAnyH_take (i := 3) (v := .agg #[.string ⟨x.kind.toArray⟩, .string ⟨x.key.toArray⟩, vf]) rfl (by kernel_rfl) (by kernel_rfl) (by kernel_rfl) (fun _ _ _ h => h) (Or.inl ⟨by kernel_rfl, fun W hW => by (obtain ⟨c0, c1, c2, _, _⟩ := hW; go_simp)⟩) (by assumption) ?_
    try simp only [Act.put, List.getElem_toArray, List.getElem_cons_zero, List.getElem_cons_succ, List.setIfInBounds_toArray, List.set_cons_zero, List.set_cons_succ]
    refine wpAnyH_take (i := 6) (v := .pointer (some ⟨g0, 1, none⟩)) rfl (by kernel_rfl) (by kernel_rfl) (by kernel_rfl) (fun _ _ _ h => h) (Or.inl ⟨by kernel_rfl, fun W hW => by go_simp⟩) (by assumption) ?_
    try simp only [Act.put, List.getElem_toArray, List.getElem_cons_zero, List.getElem_cons_succ, List.setIfInBounds_toArray, List.set_cons_zero, List.set_cons_succ]
    refine wpAnyH_take (i := 7) (v := .string ⟨x.key.toArray⟩) rfl (by kernel_rfl) (by kernel_rfl) (by kernel_rfl) (fun _ _ _ h => h) (Or.inl ⟨by kernel_rfl, fun W hW => by (obtain ⟨c0, c1, c2, _, _⟩ := hW; go_simp)⟩) (by assumption) ?_
    try simp only [Act.put, List.getElem_toArray, List.getElem_cons_zero, List.getElem_cons_succ, List.setIfInBounds_toArray, List.set_cons_zero, List.set_cons_succ]
    refine wpAnyH_ready (rs := [2]) (by kernel_rfl) (by simp) ?_
    refine AllReadyH.cons rfl (fun K hK => ?_) AllReadyH.nil
    go_simp
    go_wp2_with (go_at_call 37; refine (lb_field x vf Lb.yearW S _ HFd.out).mono ?_; rw [HY.out]; rintro e w5 ⟨rfl, hb5⟩; have Hb5 := Lib.hid hb5; clear hb5)
    refine hK.out _ _ (HEd.out.below' Hb5.out) (fun _ => ?_)
    clear K hK
    try simp only [Act.put, List.getElem_toArray, List.getElem_cons_zero, List.getElem_cons_succ, List.setIfInBounds_toArray, List.set_cons_zero, List.set_cons_succ]
    refine wpAnyH_ready (rs := [4]) (by kernel_rfl) (by simp) ?_
    refine AllReadyH.cons rfl (fun K hK => ?_) AllReadyH.nil
    go_simp
    go_wp2_with (go_at_call 37; refine (lb_field x vf Lb.titleW S _ (SliceIn.below' HFd.out Hb5.out)).mono ?_; rw [HT.out]; rintro e w6 ⟨rfl, hb6⟩; have Hb6 := Lib.hid (bseq Hb5.out hb6); clear hb6)
    refine hK.out _ _ (HEd.out.below' Hb6.out) (fun _ => ?_)
    clear K hK
    try simp only [Act.put, List.getElem_toArray, List.getElem_cons_zero, List.getElem_cons_succ, List.setIfInBounds_toArray, List.set_cons_zero, List.set_cons_succ]
    refine wpAnyH_ready (rs := [5]) (by kernel_rfl) (by simp) ?_
    refine AllReadyH.cons rfl (fun K hK => ?_) AllReadyH.nil
    go_simp
    go_wp2_with (go_at_call 38; refine (lb_small T _ HTl.out).mono ?_; rintro e w7 ⟨rfl, hb7⟩; have Hb7 := Lib.hid (bseq Hb6.out hb7); clear hb7)
    refine hK.out _ _ (HEd.out.below' Hb7.out) (fun _ => ?_)
    clear K hK
    try simp only [Act.put, List.getElem_toArray, List.getElem_cons_zero, List.getElem_cons_succ, List.setIfInBounds_toArray, List.set_cons_zero, List.set_cons_succ]
    refine wpAnyH_take (i := 8) (v := .agg #[.string ⟨(Lb.pkey p).toArray⟩, .string ⟨Y.toArray⟩, .string ⟨(Ent.small T).toArray⟩, .string ⟨x.key.toArray⟩]) rfl (by kernel_rfl) (by kernel_rfl) (by kernel_rfl) (fun _ _ _ h => h) (Or.inl ⟨by kernel_rfl, fun W hW => by kernel_rfl⟩) (by assumption) ?_
    try simp only [Act.put, List.getElem_toArray, List.getElem_cons_zero, List.getElem_cons_succ, List.setIfInBounds_toArray, List.set_cons_zero, List.set_cons_succ]
    refine wpAnyH_ready (rs := [9]) (by kernel_rfl) (by simp) ?_
    refine AllReadyH.cons rfl (fun K hK => ?_) AllReadyH.nil
    have HR := Lib.hid (HRd.out.below' Hb7.out)
    have r0 := HR.out.f 0; have r1 := HR.out.f 1; have r2 := HR.out.f 2; have r3 := HR.out.f 3; have q0 := HR.out.c0; have q1 := HR.out.c1; have q2 := HR.out.c2; have q3 := HR.out.c3
    go_simp
    have hb8' := ((((HEd.out.below' Hb7.out).other Hgg.out 0 (.string ⟨(Lb.pkey p).toArray⟩)).other Hgg.out 1 (.string ⟨Y.toArray⟩)).other Hgg.out 2 (.string ⟨(Ent.small T).toArray⟩)).other Hgg.out 3 (.string ⟨x.key.toArray⟩)
    have hb8 := below4 (HBd.out.trans (Hb7.out.mono HBd.out.size)) Hgr.out (.string ⟨(Lb.pkey p).toArray⟩) (.string ⟨Y.toArray⟩) (.string ⟨(Ent.small T).toArray⟩) (.string ⟨x.key.toArray⟩)
    refine hK.out _ _ hb8' (fun _ => ?_)
    clear K hK r0 r1 r2 r3 q0 q1 q2 q3
    try simp only [Act.put, List.getElem_toArray, List.getElem_cons_zero, List.getElem_cons_succ, List.setIfInBounds_toArray, List.set_cons_zero, List.set_cons_succ]
    refine wpAnyH_done (by kernel_rfl) ?_ _
    go_wp2_with fail
    have hF := HR.out.all (.string ⟨(Lb.pkey p).toArray⟩) (.string ⟨Y.toArray⟩) (.string ⟨(Ent.small T).toArray⟩) (.string ⟨x.key.toArray⟩)
    refine ret_one rfl rfl (load_four _ _ _ _ _ _ hF.c0 hF.c1 hF.c2 hF.c3) rfl ⟨?_, hb8⟩
    rw [Hov.out]; rfl
end Go.Proofs.YtanbcokkfbidbaaGreatDoor
