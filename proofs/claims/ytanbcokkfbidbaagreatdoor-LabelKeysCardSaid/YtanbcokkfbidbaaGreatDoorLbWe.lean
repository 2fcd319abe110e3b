/- The walk of stetlaw17.many. -/
import Derived.Test.YtanbcokkfbidbaaGreatDoorLbWd
import Derived.Test.YtanbcokkfbidbaaGreatDoorLbM
set_option linter.unusedSimpArgs false
set_option linter.unusedVariables false
namespace Go.Proofs.YtanbcokkfbidbaaGreatDoor
open Go.RowKit
theorem one_ent {S : Nat → Prop} {B : World} {vf : Value} {x : Ent.Ent} (w : World) (hF : SliceIn S 2 RFld B vf x.fields) (hb : Below B.heap.size B w) (hk : x.fields.length ≤ 1000000000) :
    Ents (fun _ => True) (w.alloc (.cells #[.string ⟨x.kind.toArray⟩, .string ⟨x.key.toArray⟩, vf] 27)) (.slice (some ⟨w.heap.size, 0, none⟩) 1 1) [x] := by
  have h := own_built w w.heap.size 27 3 1 [.string ⟨x.kind.toArray⟩, .string ⟨x.key.toArray⟩, vf] (Nat.le_refl _) rfl (by unfold maxLen; omega)
  exact SliceIn.own h (xs := [x]) ⟨_, _, rfl, ⟨vf, rfl, (SliceIn.below' (SliceIn.below' hF hb) (below_new w _)).kept (fun _ _ => trivial) (Nat.le_refl _) (fun _ _ _ => rfl) (fun _ _ _ h => h)⟩, rfl⟩ (fun x vs hx => REnt.size x vs hx) rfl (fun _ _ => trivial)
theorem Outs.entsT {B : Nat} {t : TypeId} {W : World} {vo : Value} {out : List Ent.Ent} (h : Outs B t W vo out) : Ents (fun _ => True) W vo out := by
  obtain ⟨fl, h1, h2⟩ := h
  exact SliceIn.own h1 (h2.imp fun x vs _ hx => REnt.kept hx (fun _ _ => trivial) (Nat.le_refl _) (fun _ _ _ => rfl)) (fun x vs hx => REnt.size x vs hx) rfl (fun _ _ => trivial)
def cntE (l : List Ent.Ent) (x : Ent.Ent) : Nat := l.countP fun y => decide (y = x)
set_option maxRecDepth 100000 in
set_option maxHeartbeats 3200000 in
theorem law_many (l : List Ent.Ent) (v vf : Value) (x : Ent.Ent) (S Sx : Nat → Prop) (w : World) (hE : Ents S w v l) (hF : SliceIn Sx 2 RFld w vf x.fields) (hl : l.length ≤ 1000) (hlb : ∀ y ∈ l, Lb.EntB y) (hx : Lb.EntB x) :
    Calls Tryz.prog 10 #[v, .agg #[.string ⟨x.kind.toArray⟩, .string ⟨x.key.toArray⟩, vf]] w fun e w' => e = .returned (.int .i64 (cntE l x : Int)) ∧ Below w.heap.size w w' := by
  obtain ⟨px, nx, cx, hvx⟩ := SliceIn.shape hF
  subst hvx
  obtain ⟨p, cap, hv, _⟩ := id hE
  subst hv
  have hb0 := below_new w (.cells #[.string ⟨x.kind.toArray⟩, .string ⟨x.key.toArray⟩, .slice px nx cx] 27)
  have hEx := E3.new w 27 (.string ⟨x.kind.toArray⟩) (.string ⟨x.key.toArray⟩) (.slice px nx cx)
  obtain ⟨g0, hg0⟩ : ∃ g0, w.heap.size = g0 := ⟨_, rfl⟩
  rw [hg0] at hEx
  have HEx := Lib.hid hEx; have Hb0 := Lib.hid hb0; have HE := Lib.hid hE; have HF := Lib.hid hF; have Hl := Lib.hid hl; have Hlb := Lib.hid hlb; have HNx := Lib.hid (show x.fields.length ≤ 1000000000 by have := hx.many; omega)
  clear hEx hb0 hE hF hl hlb hx
  go_enter Tryz.func10, Tryz.ntmps10
  go_wp2_with fail
  go_loopw [5, 6] (fun nv iv wr => ∃ (k : Nat), k ≤ l.length ∧ iv = .int .i64 (k : Int) ∧ nv = .int .i64 (cntE (l.take k) x : Int) ∧ Below w.heap.size w wr ∧ E3 wr g0 (.string ⟨x.kind.toArray⟩) (.string ⟨x.key.toArray⟩) (.slice px nx cx)) (fun _ iv _ => l.length - (intOf iv).toNat)
  case atStart => exact ⟨0, Nat.zero_le _, rfl, rfl, Hb0.out, HEx.out⟩
  case round =>
    clear HEx Hb0
    obtain ⟨k, hk, rfl, rfl, hb, hEx⟩ := hrel
    have Hb := Lib.hid hb; have HEx := Lib.hid hEx
    clear hEx
    by_cases hlt : k < l.length
    · obtain ⟨y, hy⟩ : ∃ y, l[k]? = some y := ⟨_, List.getElem?_eq_getElem hlt⟩
      obtain ⟨b, off, py, ny, cy, hq, hbw, e0, e1, e2, hFy⟩ : ∃ b off py ny cy, p = some ⟨b, off, none⟩ ∧ b < wr.heap.size ∧ wr.cell? ⟨b, off + k * 3, none⟩ = some (.string ⟨y.kind.toArray⟩) ∧ wr.cell? ⟨b, off + k * 3 + 1, none⟩ = some (.string ⟨y.key.toArray⟩) ∧ wr.cell? ⟨b, off + k * 3 + 2, none⟩ = some (.slice py ny cy) ∧ SliceIn S 2 RFld wr (.slice py ny cy) y.fields := by
        obtain ⟨pa, ca, hv, _, _, hat⟩ := Ents.below HE.out hb
        obtain ⟨b, off, vs, rfl, _, hbw, hR, hc⟩ := hat k y hy
        obtain ⟨vf, rfl, hF⟩ := hR
        obtain ⟨p1, n1, c1, hv1⟩ := SliceIn.shape hF
        subst hv1
        simp only [Value.slice.injEq] at hv
        exact ⟨b, off, p1, n1, c1, hv.1, hbw, hc 0 _ rfl, hc 1 _ rfl, hc 2 _ rfl, hF⟩
      subst hq
      have hlt' : (k : Int) < (l.length : Int) := by omega
      obtain ⟨k1, hk1⟩ : ∃ k1, k1 = k + 1 := ⟨_, rfl⟩
      have hwk : IntKind.i64.wrap ((k : Int) + 1) = (k1 : Int) := by rw [IntWalk.i64_in _ (by have := Hl.out; omega)]; omega
      obtain ⟨ds, hds⟩ : ∃ ds, decide ([y] = [x]) = ds := ⟨_, rfl⟩
      have hct : cntE (l.take k1) x = cntE (l.take k) x + if ds = true then 1 else 0 := by
        unfold cntE
        rw [hk1, List.take_add_one, hy, List.countP_append, ← hds]
        simp [List.countP_cons]
      have hcl : cntE (l.take k) x ≤ 1000 := Nat.le_trans (List.countP_le_length) (by rw [List.length_take]; have := Hl.out; omega)
      have HNy := Lib.hid (show y.fields.length ≤ 1000000000 by have := (Hlb.out y (List.mem_of_getElem? hy)).many; omega)
      have Hyr := Lib.hid (And.intro hbw (And.intro e0 (And.intro e1 e2))); have HFyr := Lib.hid hFy; have Hds := Lib.hid hds; have Hct := Lib.hid hct; have Hcl := Lib.hid hcl; have Hlt := Lib.hid hlt; have Hk1 := Lib.hid hk1
      clear hbw e0 e1 e2 hFy hds hct hcl hlt hk1 hy hb hk
      obtain ⟨cn, hcn⟩ : ∃ cn, cntE (l.take k) x = cn := ⟨_, rfl⟩
      rw [hcn] at Hct Hcl ⊢
      clear hcn
      go_upto_region 5 with fail
      go_cut [22] (fun va W => va = .bool ds ∧ Below wr.heap.size wr W)
      case first =>
        refine wp_region_any (by kernel_rfl) ?_
        change wpAny _ _ _ _ _ _ _ (World.drew _)
        have HBd := Lib.hid (Below.drew (Below.refl wr.heap.size wr))
        have HEd := Lib.hid HEx.out.drew
        have HFy := Lib.hid (And.intro (SliceIn.below' HFyr.out (Below.drew (Below.refl wr.heap.size wr))) HNy.out); have HFx := Lib.hid (And.intro (SliceIn.below' (SliceIn.below' HF.out Hb.out) (Below.drew (Below.refl wr.heap.size wr))) HNx.out)
        have Hyc := Lib.hid (show b < wr.drew.heap.size ∧ wr.drew.cell? ⟨b, off + k * 3, none⟩ = some (.string ⟨y.kind.toArray⟩) ∧ wr.drew.cell? ⟨b, off + k * 3 + 1, none⟩ = some (.string ⟨y.key.toArray⟩) ∧ wr.drew.cell? ⟨b, off + k * 3 + 2, none⟩ = some (.slice py ny cy) from Hyr.out)
        clear HEx HFyr Hyr Hb HE HF
        generalize wr.drew = wd at *
        have hS0 := Below.refl wd.heap.size wd
        have HB_wd := Lib.hid hS0
        refine wpAny_of_held (S := fun W => Below wd.heap.size wd W) _ _ _ _ ?_
        refine wpAnyH_take (i := 0) (v := .slice (some ⟨b, off, none⟩) l.length cap) rfl (by kernel_rfl) (by kernel_rfl) (by kernel_rfl) (fun _ _ _ h => h) (Or.inl ⟨by kernel_rfl, fun W hW => by kernel_rfl⟩) (by assumption) ?_
        try simp only [Act.put, List.getElem_toArray, List.getElem_cons_zero, List.getElem_cons_succ, List.setIfInBounds_toArray, List.set_cons_zero, List.set_cons_succ]
        refine wpAnyH_take (i := 1) (v := .int .i64 (k : Int)) rfl (by kernel_rfl) (by kernel_rfl) (by kernel_rfl) (fun _ _ _ h => h) (Or.inl ⟨by kernel_rfl, fun W hW => by kernel_rfl⟩) (by assumption) ?_
        try simp only [Act.put, List.getElem_toArray, List.getElem_cons_zero, List.getElem_cons_succ, List.setIfInBounds_toArray, List.set_cons_zero, List.set_cons_succ]
        refine wpAnyH_take (i := 2) (v := .pointer (some ⟨b, off + k * 3, none⟩)) rfl (by kernel_rfl) (by kernel_rfl) (by kernel_rfl) (fun _ _ _ h => h) (Or.inl ⟨by kernel_rfl, fun W hW => by go_simp⟩) (by assumption) ?_
        try simp only [Act.put, List.getElem_toArray, List.getElem_cons_zero, List.getElem_cons_succ, List.setIfInBounds_toArray, List.set_cons_zero, List.set_cons_succ]
        refine wpAnyH_take (i := 3) (v := .agg #[.string ⟨y.kind.toArray⟩, .string ⟨y.key.toArray⟩, .slice py ny cy]) rfl (by kernel_rfl) (by kernel_rfl) (by kernel_rfl) (fun _ _ _ h => h) (Or.inl ⟨by kernel_rfl, fun W hW => by (have d0 := Below.cell hW (p := ⟨b, off + k * 3, none⟩) Hyc.out.1; have d1 := Below.cell hW (p := ⟨b, off + k * 3 + 1, none⟩) Hyc.out.1; have d2 := Below.cell hW (p := ⟨b, off + k * 3 + 2, none⟩) Hyc.out.1; rw [Hyc.out.2.1] at d0; rw [Hyc.out.2.2.1] at d1; rw [Hyc.out.2.2.2] at d2; go_simp)⟩) (by assumption) ?_
        try simp only [Act.put, List.getElem_toArray, List.getElem_cons_zero, List.getElem_cons_succ, List.setIfInBounds_toArray, List.set_cons_zero, List.set_cons_succ]
        refine wpAnyH_take (i := 6) (v := .agg #[.string ⟨x.kind.toArray⟩, .string ⟨x.key.toArray⟩, .slice px nx cx]) rfl (by kernel_rfl) (by kernel_rfl) (by kernel_rfl) (fun _ _ _ h => h) (Or.inl ⟨by kernel_rfl, fun W hW => by (obtain ⟨c0, c1, c2, _, _⟩ := HEd.out.below' hW; go_simp)⟩) (by assumption) ?_
        try simp only [Act.put, List.getElem_toArray, List.getElem_cons_zero, List.getElem_cons_succ, List.setIfInBounds_toArray, List.set_cons_zero, List.set_cons_succ]
        refine wpAnyH_ready (rs := [4, 7]) (by kernel_rfl) (by simp) ?_
        refine AllReadyH.cons rfl (fun K hK => ?_) (AllReadyH.cons rfl (fun K hK => ?_) AllReadyH.nil)
        · go_simp
          obtain ⟨wq1, hwq1⟩ : ∃ W, W = wd.alloc (.cells #[.string ⟨y.kind.toArray⟩, .string ⟨y.key.toArray⟩, .slice py ny cy] 27) := ⟨_, rfl⟩
          have hE_wq1 := one_ent wd (HFy.out.1) HB_wd.out (HFy.out.2)
          rw [← hwq1] at hE_wq1 ⊢
          obtain ⟨gb4, hgb4⟩ : ∃ g, wd.heap.size = g := ⟨_, rfl⟩
          rw [hgb4] at hE_wq1
          try rw [hgb4]
          have hbq : Below wd.heap.size wd wq1 := by rw [hwq1]; exact below_new _ _
          have HB_wq1 := Lib.hid (bseq HB_wd.out hbq); have E4_wq1 := Lib.hid hE_wq1; clear hbq hE_wq1 hwq1 hgb4
          refine hK.out _ _ HB_wq1.out (fun _ => ?_)
          clear K hK
          try simp only [Act.put, List.getElem_toArray, List.getElem_cons_zero, List.getElem_cons_succ, List.setIfInBounds_toArray, List.set_cons_zero, List.set_cons_succ]
          refine wpAnyH_ready (rs := [5, 7]) (by kernel_rfl) (by simp) ?_
          refine AllReadyH.cons rfl (fun K hK => ?_) (AllReadyH.cons rfl (fun K hK => ?_) AllReadyH.nil)
          · go_simp
            go_wp2_with (go_at_call 9; refine (law_refs [y] _ _ _ E4_wq1.out (by simp) (by intro a ha; simp at ha; subst ha; exact HNy.out)).mono ?_; rintro e wq2 ⟨vr5, rfl, hO, hbq⟩; have HB_wq2 := Lib.hid (bseq HB_wq1.out hbq); have E4_wq2 := Lib.hid (Ents.below E4_wq1.out hbq); have R5_wq2 := Lib.hid hO.entsT; clear hbq hO)
            refine hK.out _ _ HB_wq2.out (fun _ => ?_)
            clear K hK
            try simp only [Act.put, List.getElem_toArray, List.getElem_cons_zero, List.getElem_cons_succ, List.setIfInBounds_toArray, List.set_cons_zero, List.set_cons_succ]
            refine wpAnyH_ready (rs := [7]) (by kernel_rfl) (by simp) ?_
            refine AllReadyH.cons rfl (fun K hK => ?_) AllReadyH.nil
            go_simp
            obtain ⟨wq3, hwq3⟩ : ∃ W, W = wq2.alloc (.cells #[.string ⟨x.kind.toArray⟩, .string ⟨x.key.toArray⟩, .slice px nx cx] 27) := ⟨_, rfl⟩
            have hE_wq3 := one_ent wq2 (HFx.out.1) HB_wq2.out (HFx.out.2)
            rw [← hwq3] at hE_wq3 ⊢
            obtain ⟨gb7, hgb7⟩ : ∃ g, wq2.heap.size = g := ⟨_, rfl⟩
            rw [hgb7] at hE_wq3
            try rw [hgb7]
            have hbq : Below wq2.heap.size wq2 wq3 := by rw [hwq3]; exact below_new _ _
            have HB_wq3 := Lib.hid (bseq HB_wq2.out hbq); have E4_wq3 := Lib.hid (Ents.below E4_wq2.out hbq); have R5_wq3 := Lib.hid (Ents.below R5_wq2.out hbq); have E7_wq3 := Lib.hid hE_wq3; clear hbq hE_wq3 hwq3 hgb7
            refine hK.out _ _ HB_wq3.out (fun _ => ?_)
            clear K hK
            try simp only [Act.put, List.getElem_toArray, List.getElem_cons_zero, List.getElem_cons_succ, List.setIfInBounds_toArray, List.set_cons_zero, List.set_cons_succ]
            refine wpAnyH_ready (rs := [8]) (by kernel_rfl) (by simp) ?_
            refine AllReadyH.cons rfl (fun K hK => ?_) AllReadyH.nil
            go_simp
            go_wp2_with (go_at_call 9; refine (law_refs [x] _ _ _ E7_wq3.out (by simp) (by intro a ha; simp at ha; subst ha; exact HNx.out)).mono ?_; rintro e wq4 ⟨vr8, rfl, hO, hbq⟩; have HB_wq4 := Lib.hid (bseq HB_wq3.out hbq); have E4_wq4 := Lib.hid (Ents.below E4_wq3.out hbq); have R5_wq4 := Lib.hid (Ents.below R5_wq3.out hbq); have E7_wq4 := Lib.hid (Ents.below E7_wq3.out hbq); have R8_wq4 := Lib.hid hO.entsT; clear hbq hO)
            refine hK.out _ _ HB_wq4.out (fun _ => ?_)
            clear K hK
            try simp only [Act.put, List.getElem_toArray, List.getElem_cons_zero, List.getElem_cons_succ, List.setIfInBounds_toArray, List.set_cons_zero, List.set_cons_succ]
            refine wpAnyH_ready (rs := [9]) (by kernel_rfl) (by simp) ?_
            refine AllReadyH.cons rfl (fun K hK => ?_) AllReadyH.nil
            go_simp
            go_wp2_with (go_at_call 11; refine (ref15_same [y] [x] _ _ _ _ _ R5_wq4.out R8_wq4.out).mono ?_; rw [Hds.out]; rintro e wq5 ⟨rfl, hbq⟩; have HB_wq5 := Lib.hid (bseq HB_wq4.out hbq); clear hbq)
            refine hK.out _ _ HB_wq5.out (fun _ => ?_)
            clear K hK
            try simp only [Act.put, List.getElem_toArray, List.getElem_cons_zero, List.getElem_cons_succ, List.setIfInBounds_toArray, List.set_cons_zero, List.set_cons_succ]
            refine wpAnyH_done (by kernel_rfl) ?_ _
            go_wp2_with fail
            go_meet
            exact ⟨rfl, HBd.out.trans (HB_wq5.out.mono HBd.out.size)⟩
          · go_simp
            obtain ⟨wq6, hwq6⟩ : ∃ W, W = wq1.alloc (.cells #[.string ⟨x.kind.toArray⟩, .string ⟨x.key.toArray⟩, .slice px nx cx] 27) := ⟨_, rfl⟩
            have hE_wq6 := one_ent wq1 (HFx.out.1) HB_wq1.out (HFx.out.2)
            rw [← hwq6] at hE_wq6 ⊢
            obtain ⟨gb7, hgb7⟩ : ∃ g, wq1.heap.size = g := ⟨_, rfl⟩
            rw [hgb7] at hE_wq6
            try rw [hgb7]
            have hbq : Below wq1.heap.size wq1 wq6 := by rw [hwq6]; exact below_new _ _
            have HB_wq6 := Lib.hid (bseq HB_wq1.out hbq); have E4_wq6 := Lib.hid (Ents.below E4_wq1.out hbq); have E7_wq6 := Lib.hid hE_wq6; clear hbq hE_wq6 hwq6 hgb7
            refine hK.out _ _ HB_wq6.out (fun _ => ?_)
            clear K hK
            try simp only [Act.put, List.getElem_toArray, List.getElem_cons_zero, List.getElem_cons_succ, List.setIfInBounds_toArray, List.set_cons_zero, List.set_cons_succ]
            refine wpAnyH_ready (rs := [5]) (by kernel_rfl) (by simp) ?_
            refine AllReadyH.cons rfl (fun K hK => ?_) AllReadyH.nil
            go_simp
            go_wp2_with (go_at_call 9; refine (law_refs [y] _ _ _ E4_wq6.out (by simp) (by intro a ha; simp at ha; subst ha; exact HNy.out)).mono ?_; rintro e wq7 ⟨vr5, rfl, hO, hbq⟩; have HB_wq7 := Lib.hid (bseq HB_wq6.out hbq); have E4_wq7 := Lib.hid (Ents.below E4_wq6.out hbq); have E7_wq7 := Lib.hid (Ents.below E7_wq6.out hbq); have R5_wq7 := Lib.hid hO.entsT; clear hbq hO)
            refine hK.out _ _ HB_wq7.out (fun _ => ?_)
            clear K hK
            try simp only [Act.put, List.getElem_toArray, List.getElem_cons_zero, List.getElem_cons_succ, List.setIfInBounds_toArray, List.set_cons_zero, List.set_cons_succ]
            refine wpAnyH_ready (rs := [8]) (by kernel_rfl) (by simp) ?_
            refine AllReadyH.cons rfl (fun K hK => ?_) AllReadyH.nil
            go_simp
            go_wp2_with (go_at_call 9; refine (law_refs [x] _ _ _ E7_wq7.out (by simp) (by intro a ha; simp at ha; subst ha; exact HNx.out)).mono ?_; rintro e wq8 ⟨vr8, rfl, hO, hbq⟩; have HB_wq8 := Lib.hid (bseq HB_wq7.out hbq); have E4_wq8 := Lib.hid (Ents.below E4_wq7.out hbq); have E7_wq8 := Lib.hid (Ents.below E7_wq7.out hbq); have R5_wq8 := Lib.hid (Ents.below R5_wq7.out hbq); have R8_wq8 := Lib.hid hO.entsT; clear hbq hO)
            refine hK.out _ _ HB_wq8.out (fun _ => ?_)
            clear K hK
            try simp only [Act.put, List.getElem_toArray, List.getElem_cons_zero, List.getElem_cons_succ, List.setIfInBounds_toArray, List.set_cons_zero, List.set_cons_succ]
            refine wpAnyH_ready (rs := [9]) (by kernel_rfl) (by simp) ?_
            refine AllReadyH.cons rfl (fun K hK => ?_) AllReadyH.nil
            go_simp
            go_wp2_with (go_at_call 11; refine (ref15_same [y] [x] _ _ _ _ _ R5_wq8.out R8_wq8.out).mono ?_; rw [Hds.out]; rintro e wq9 ⟨rfl, hbq⟩; have HB_wq9 := Lib.hid (bseq HB_wq8.out hbq); clear hbq)
            refine hK.out _ _ HB_wq9.out (fun _ => ?_)
            clear K hK
            try simp only [Act.put, List.getElem_toArray, List.getElem_cons_zero, List.getElem_cons_succ, List.setIfInBounds_toArray, List.set_cons_zero, List.set_cons_succ]
            refine wpAnyH_done (by kernel_rfl) ?_ _
            go_wp2_with fail
            go_meet
            exact ⟨rfl, HBd.out.trans (HB_wq9.out.mono HBd.out.size)⟩
        · go_simp
          obtain ⟨wq10, hwq10⟩ : ∃ W, W = wd.alloc (.cells #[.string ⟨x.kind.toArray⟩, .string ⟨x.key.toArray⟩, .slice px nx cx] 27) := ⟨_, rfl⟩
          have hE_wq10 := one_ent wd (HFx.out.1) HB_wd.out (HFx.out.2)
          rw [← hwq10] at hE_wq10 ⊢
          obtain ⟨gb7, hgb7⟩ : ∃ g, wd.heap.size = g := ⟨_, rfl⟩
          rw [hgb7] at hE_wq10
          try rw [hgb7]
          have hbq : Below wd.heap.size wd wq10 := by rw [hwq10]; exact below_new _ _
          have HB_wq10 := Lib.hid (bseq HB_wd.out hbq); have E7_wq10 := Lib.hid hE_wq10; clear hbq hE_wq10 hwq10 hgb7
          refine hK.out _ _ HB_wq10.out (fun _ => ?_)
          clear K hK
          try simp only [Act.put, List.getElem_toArray, List.getElem_cons_zero, List.getElem_cons_succ, List.setIfInBounds_toArray, List.set_cons_zero, List.set_cons_succ]
          refine wpAnyH_ready (rs := [4]) (by kernel_rfl) (by simp) ?_
          refine AllReadyH.cons rfl (fun K hK => ?_) AllReadyH.nil
          go_simp
          obtain ⟨wq11, hwq11⟩ : ∃ W, W = wq10.alloc (.cells #[.string ⟨y.kind.toArray⟩, .string ⟨y.key.toArray⟩, .slice py ny cy] 27) := ⟨_, rfl⟩
          have hE_wq11 := one_ent wq10 (HFy.out.1) HB_wq10.out (HFy.out.2)
          rw [← hwq11] at hE_wq11 ⊢
          obtain ⟨gb4, hgb4⟩ : ∃ g, wq10.heap.size = g := ⟨_, rfl⟩
          rw [hgb4] at hE_wq11
          try rw [hgb4]
          have hbq : Below wq10.heap.size wq10 wq11 := by rw [hwq11]; exact below_new _ _
          have HB_wq11 := Lib.hid (bseq HB_wq10.out hbq); have E7_wq11 := Lib.hid (Ents.below E7_wq10.out hbq); have E4_wq11 := Lib.hid hE_wq11; clear hbq hE_wq11 hwq11 hgb4
          refine hK.out _ _ HB_wq11.out (fun _ => ?_)
          clear K hK
          try simp only [Act.put, List.getElem_toArray, List.getElem_cons_zero, List.getElem_cons_succ, List.setIfInBounds_toArray, List.set_cons_zero, List.set_cons_succ]
          refine wpAnyH_ready (rs := [5]) (by kernel_rfl) (by simp) ?_
          refine AllReadyH.cons rfl (fun K hK => ?_) AllReadyH.nil
          go_simp
          go_wp2_with (go_at_call 9; refine (law_refs [y] _ _ _ E4_wq11.out (by simp) (by intro a ha; simp at ha; subst ha; exact HNy.out)).mono ?_; rintro e wq12 ⟨vr5, rfl, hO, hbq⟩; have HB_wq12 := Lib.hid (bseq HB_wq11.out hbq); have E7_wq12 := Lib.hid (Ents.below E7_wq11.out hbq); have E4_wq12 := Lib.hid (Ents.below E4_wq11.out hbq); have R5_wq12 := Lib.hid hO.entsT; clear hbq hO)
          refine hK.out _ _ HB_wq12.out (fun _ => ?_)
          clear K hK
          try simp only [Act.put, List.getElem_toArray, List.getElem_cons_zero, List.getElem_cons_succ, List.setIfInBounds_toArray, List.set_cons_zero, List.set_cons_succ]
          refine wpAnyH_ready (rs := [8]) (by kernel_rfl) (by simp) ?_
          refine AllReadyH.cons rfl (fun K hK => ?_) AllReadyH.nil
          go_simp
          go_wp2_with (go_at_call 9; refine (law_refs [x] _ _ _ E7_wq12.out (by simp) (by intro a ha; simp at ha; subst ha; exact HNx.out)).mono ?_; rintro e wq13 ⟨vr8, rfl, hO, hbq⟩; have HB_wq13 := Lib.hid (bseq HB_wq12.out hbq); have E7_wq13 := Lib.hid (Ents.below E7_wq12.out hbq); have E4_wq13 := Lib.hid (Ents.below E4_wq12.out hbq); have R5_wq13 := Lib.hid (Ents.below R5_wq12.out hbq); have R8_wq13 := Lib.hid hO.entsT; clear hbq hO)
          refine hK.out _ _ HB_wq13.out (fun _ => ?_)
          clear K hK
          try simp only [Act.put, List.getElem_toArray, List.getElem_cons_zero, List.getElem_cons_succ, List.setIfInBounds_toArray, List.set_cons_zero, List.set_cons_succ]
          refine wpAnyH_ready (rs := [9]) (by kernel_rfl) (by simp) ?_
          refine AllReadyH.cons rfl (fun K hK => ?_) AllReadyH.nil
          go_simp
          go_wp2_with (go_at_call 11; refine (ref15_same [y] [x] _ _ _ _ _ R5_wq13.out R8_wq13.out).mono ?_; rw [Hds.out]; rintro e wq14 ⟨rfl, hbq⟩; have HB_wq14 := Lib.hid (bseq HB_wq13.out hbq); clear hbq)
          refine hK.out _ _ HB_wq14.out (fun _ => ?_)
          clear K hK
          try simp only [Act.put, List.getElem_toArray, List.getElem_cons_zero, List.getElem_cons_succ, List.setIfInBounds_toArray, List.set_cons_zero, List.set_cons_succ]
          refine wpAnyH_done (by kernel_rfl) ?_ _
          go_wp2_with fail
          go_meet
          exact ⟨rfl, HBd.out.trans (HB_wq14.out.mono HBd.out.size)⟩
      case rest =>
        obtain ⟨rfl, hbc⟩ := hcut
        have Hbc := Lib.hid (bseq Hb.out hbc); have HEc := Lib.hid (HEx.out.below' hbc)
        clear hbc
        have hcw : IntKind.i64.wrap ((cn : Int) + 1) = (cn : Int) + 1 := by rw [IntWalk.i64_in _ (by have := Hcl.out; omega)]
        cases ds
        · go_wp2_with fail
          go_roundw
          case rel => exact ⟨k1, by have := Hlt.out; have := Hk1.out; omega, rfl, by rw [Hct.out]; rfl, Hbc.out, HEc.out⟩
          case measure => have := Hlt.out; have := Hk1.out; simp [intOf]; omega
        · go_wp2_with fail
          go_roundw
          case rel => exact ⟨k1, by have := Hlt.out; have := Hk1.out; omega, rfl, by rw [Hct.out]; rfl, Hbc.out, HEc.out⟩
          case measure => have := Hlt.out; have := Hk1.out; simp [intOf]; omega
    · have hlt' : ¬ (k : Int) < (l.length : Int) := by omega
      have htk : l.take k = l := List.take_of_length_le (by omega)
      rw [htk]
      clear hlt hk htk hb
      go_wp2_with fail
      go_ret
      first | exact ⟨rfl, Hb.out⟩ | (have h := Hb.out; rw [hg0] at h; exact ⟨rfl, h⟩)
end Go.Proofs.YtanbcokkfbidbaaGreatDoor
