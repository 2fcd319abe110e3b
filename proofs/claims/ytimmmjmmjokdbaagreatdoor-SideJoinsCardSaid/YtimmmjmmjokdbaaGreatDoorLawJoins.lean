/- SideJoins: the law's walk. -/
import Derived.Test.YtimmmjmmjokdbaaGreatDoorSidLw
set_option linter.unusedSimpArgs false
set_option linter.unusedVariables false
namespace Go.Proofs.YtimmmjmmjokdbaaGreatDoor.lawSideJoins
open Go.RowKit
set_option maxRecDepth 100000 in
set_option maxHeartbeats 6400000 in
theorem walk (x0 : Sd.Side) (v : Value) (w : World) (hL : Laid10 w) (hX : OSide w v x0) :
    Calls Tryz.prog 6 #[v] w fun e w' => e = .returned (.bool true) ∧ Below w.heap.size w w' := by
  have HL := Lib.hid hL
  obtain ⟨pl, cl, ph, ch, pc, cc, pb, cb, rfl, _⟩ := hX.ex
  have HXO := Lib.hid hX
  clear hL hX
  go_enter Tryz.func6, Tryz.ntmps6
  go_upto_region 1 with fail
  obtain ⟨W1, hW1⟩ : ∃ W1, W1 = w.alloc (.cells #[.slice pl x0.labs.length cl, .slice ph x0.heads.length ch, .slice pc x0.cites.length cc, .slice pb x0.bibs.length cb] 26) := ⟨_, rfl⟩
  obtain ⟨g, hg⟩ : ∃ g, g = w.heap.size := ⟨_, rfl⟩
  rw [← hW1, ← hg]
  have hF : Four g W1 #[.slice pl x0.labs.length cl, .slice ph x0.heads.length ch, .slice pc x0.cites.length cc, .slice pb x0.bibs.length cb] := by rw [hW1, hg]; exact Four.made _ _ _
  have hZ : ∀ i : Nat, W1.frozen? ⟨g, i, none⟩ = false := by intro i; rw [hW1, hg]; simp
  have hb : Below w.heap.size w W1 := by rw [hW1]; exact below_new w _
  have c0 := hF.2 0 _ rfl; have c1 := hF.2 1 _ rfl; have c2 := hF.2 2 _ rfl; have c3 := hF.2 3 _ rfl
  replace HXO := Lib.hid (HXO.out.below hb)
  have HB := Lib.hid hb; have HF := Lib.hid hF; have HZ := Lib.hid hZ; have HG := Lib.hid hg
  obtain ⟨X, hXe⟩ : ∃ X, X = cutS 12 x0 := ⟨_, rfl⟩
  have Hsm := Lib.hid (show SideSm X by rw [hXe]; exact cutS_sm _ _ (by decide))
  have HXe := Lib.hid hXe
  clear hW1 hg hb hF hZ hXe
  go_upto_region 2 with (go_at_call 9; refine (law10_cut x0 _ 12 _ HXO.out (by decide)).mono ?_; rw [← HXe.out]; rintro e w2 ⟨⟨v2, rfl, hX2⟩, hb⟩; have HX2 := Lib.hid hX2; have hgl := HF.out.1; have d0 := (hb.cell (p := ⟨g, 0, none⟩) hgl).trans c0; have d1 := (hb.cell (p := ⟨g, 1, none⟩) hgl).trans c1; have d2 := (hb.cell (p := ⟨g, 2, none⟩) hgl).trans c2; have d3 := (hb.cell (p := ⟨g, 3, none⟩) hgl).trans c3; have f0 := (frozen_below (i := 0) hb hgl).trans (HZ.out 0); have f1 := (frozen_below (i := 1) hb hgl).trans (HZ.out 1); have f2 := (frozen_below (i := 2) hb hgl).trans (HZ.out 2); have f3 := (frozen_below (i := 3) hb hgl).trans (HZ.out 3); obtain ⟨vl, vh, vc, vb, rfl, ⟨ql, kl, rfl, _⟩, ⟨qh, kh, rfl, _⟩, ⟨qc, kc, rfl, _⟩, ⟨qb, kb, rfl, _⟩⟩ := hX2; have HB2 := Lib.hid hb; clear c0 c1 c2 c3 hb)
  obtain ⟨W3, hW3⟩ : ∃ W3, W3 = (((w2.setCell ⟨g, 0, none⟩ (.slice ql X.labs.length kl)).setCell ⟨g, 1, none⟩ (.slice qh X.heads.length kh)).setCell ⟨g, 2, none⟩ (.slice qc X.cites.length kc)).setCell ⟨g, 3, none⟩ (.slice qb X.bibs.length kb) := ⟨_, rfl⟩
  rw [← hW3]
  have HX := Lib.hid (show SideIn (fun _ => True) W3 (.agg #[.slice ql X.labs.length kl, .slice qh X.heads.length kh, .slice qc X.cites.length kc, .slice qb X.bibs.length kb]) X by rw [hW3]; exact HX2.out.set4 g (fun j hj e => by have := HF.out.1; omega) _ _ _ _)
  have hF3 : Four g W3 #[.slice ql X.labs.length kl, .slice qh X.heads.length kh, .slice qc X.cites.length kc, .slice qb X.bibs.length kb] := by rw [hW3]; exact four_set _ _ _ _ (HF.out.below HB2.out)
  replace HB := Lib.hid (show Below w.heap.size w W3 by rw [hW3]; exact four_below (HB.out.trans (HB2.out.mono HB.out.size)) (by rw [HG.out]; exact Nat.le_refl _) _ _ _ _)
  replace HF := Lib.hid hF3
  clear hW3 hF3 HX2 HB2 hgl d0 d1 d2 d3 f0 f1 f2 f3 HXO HZ
  obtain ⟨s0, e0, he0⟩ : ∃ s c, Sd.enc X = (s, c) := ⟨_, _, rfl⟩
  have He0 := Lib.hid he0
  obtain ⟨sL, eL, heL⟩ : ∃ s c, Sd.enc (Sd.onlyL X) = (s, c) := ⟨_, _, rfl⟩
  have HeL := Lib.hid heL
  obtain ⟨sH, eH, heH⟩ : ∃ s c, Sd.enc (Sd.onlyH X) = (s, c) := ⟨_, _, rfl⟩
  have HeH := Lib.hid heH
  obtain ⟨sC, eC, heC⟩ : ∃ s c, Sd.enc (Sd.onlyC X) = (s, c) := ⟨_, _, rfl⟩
  have HeC := Lib.hid heC
  obtain ⟨sB, eB, heB⟩ : ∃ s c, Sd.enc (Sd.onlyB X) = (s, c) := ⟨_, _, rfl⟩
  have HeB := Lib.hid heB
  clear he0 heL heH heC heB
  have c0 := HF.out.2 0 _ rfl; have c1 := HF.out.2 1 _ rfl; have c2 := HF.out.2 2 _ rfl; have c3 := HF.out.2 3 _ rfl
  go_upto_region 3 with (go_at_call 10; refine (side_encode _ _ _ _ (HL.out.below HB.out) HX.out Hsm.out).mono ?_; rw [He0.out]; rintro e w3 ⟨rfl, hb⟩; replace HX := Lib.hid (HX.out.below hb); replace HF := Lib.hid (HF.out.below hb); replace HB := Lib.hid (HB.out.trans (hb.mono HB.out.size)); clear hb)
  clear c0 c1 c2 c3
  have c0 := HF.out.2 0 _ rfl; have c1 := HF.out.2 1 _ rfl; have c2 := HF.out.2 2 _ rfl; have c3 := HF.out.2 3 _ rfl
  go_upto_region 4 with (go_at_call 10; refine (side_encode _ _ _ _ (HL.out.below HB.out) HX.out.onlyL Hsm.out.onlyL).mono ?_; rw [HeL.out]; rintro e w4 ⟨rfl, hb⟩; replace HX := Lib.hid (HX.out.below hb); replace HF := Lib.hid (HF.out.below hb); replace HB := Lib.hid (HB.out.trans (hb.mono HB.out.size)); clear hb)
  clear c0 c1 c2 c3
  have c0 := HF.out.2 0 _ rfl; have c1 := HF.out.2 1 _ rfl; have c2 := HF.out.2 2 _ rfl; have c3 := HF.out.2 3 _ rfl
  go_upto_region 5 with (go_at_call 10; refine (side_encode _ _ _ _ (HL.out.below HB.out) HX.out.onlyH Hsm.out.onlyH).mono ?_; rw [HeH.out]; rintro e w5 ⟨rfl, hb⟩; replace HX := Lib.hid (HX.out.below hb); replace HF := Lib.hid (HF.out.below hb); replace HB := Lib.hid (HB.out.trans (hb.mono HB.out.size)); clear hb)
  clear c0 c1 c2 c3
  have c0 := HF.out.2 0 _ rfl; have c1 := HF.out.2 1 _ rfl; have c2 := HF.out.2 2 _ rfl; have c3 := HF.out.2 3 _ rfl
  go_upto_region 6 with (go_at_call 10; refine (side_encode _ _ _ _ (HL.out.below HB.out) HX.out.onlyC Hsm.out.onlyC).mono ?_; rw [HeC.out]; rintro e w6 ⟨rfl, hb⟩; replace HX := Lib.hid (HX.out.below hb); replace HF := Lib.hid (HF.out.below hb); replace HB := Lib.hid (HB.out.trans (hb.mono HB.out.size)); clear hb)
  clear c0 c1 c2 c3
  have c0 := HF.out.2 0 _ rfl; have c1 := HF.out.2 1 _ rfl; have c2 := HF.out.2 2 _ rfl; have c3 := HF.out.2 3 _ rfl
  go_upto_region 7 with (go_at_call 10; refine (side_encode _ _ _ _ (HL.out.below HB.out) HX.out.onlyB Hsm.out.onlyB).mono ?_; rw [HeB.out]; rintro e w7 ⟨rfl, hb⟩; replace HX := Lib.hid (HX.out.below hb); replace HF := Lib.hid (HF.out.below hb); replace HB := Lib.hid (HB.out.trans (hb.mono HB.out.size)); clear hb)
  clear c0 c1 c2 c3
  have hj := Sd.right_join X
  have hk := Sd.enc_join X
  have h0 := He0.out; have hL := HeL.out; have hH := HeH.out; have hC := HeC.out; have hB := HeB.out
  clear He0 HeL HeH HeC HeB HF HX
  unfold Sd.enc at h0 hL hH hC hB
  by_cases rL : Sd.right (Sd.onlyL X) = true
  · rw [if_pos rL] at hL
    obtain ⟨rfl, rfl⟩ := Prod.mk.inj hL
    by_cases rH : Sd.right (Sd.onlyH X) = true
    · rw [if_pos rH] at hH
      obtain ⟨rfl, rfl⟩ := Prod.mk.inj hH
      by_cases rC : Sd.right (Sd.onlyC X) = true
      · rw [if_pos rC] at hC
        obtain ⟨rfl, rfl⟩ := Prod.mk.inj hC
        by_cases rB : Sd.right (Sd.onlyB X) = true
        · rw [if_pos rB] at hB
          obtain ⟨rfl, rfl⟩ := Prod.mk.inj hB
          rw [rL, rH, rC, rB] at hj
          rw [if_pos (show Sd.right X = true from hj)] at h0
          obtain ⟨rfl, rfl⟩ := Prod.mk.inj h0
          have hk2 : (((⟨(Sd.encN (Sd.onlyL X)).toArray⟩ : ByteArray) ++ ⟨(Sd.encN (Sd.onlyH X)).toArray⟩) ++ ⟨(Sd.encN (Sd.onlyC X)).toArray⟩) ++ ⟨(Sd.encN (Sd.onlyB X)).toArray⟩ = ⟨(Sd.encN X).toArray⟩ := by
            rw [append_data, append_data, append_data, hk]
          have l1 := Sd.enc_len _ rL; have l2 := Sd.enc_len _ rH; have l3 := Sd.enc_len _ rC; have l4 := Sd.enc_len _ rB
          have m1 : ¬ 9223372036854775807 < (Sd.encN (Sd.onlyL X)).length + (Sd.encN (Sd.onlyH X)).length := by omega
          have m2 : ¬ 9223372036854775807 < (Sd.encN (Sd.onlyL X)).length + (Sd.encN (Sd.onlyH X)).length + (Sd.encN (Sd.onlyC X)).length := by omega
          have m3 : ¬ 9223372036854775807 < (Sd.encN (Sd.onlyL X)).length + (Sd.encN (Sd.onlyH X)).length + (Sd.encN (Sd.onlyC X)).length + (Sd.encN (Sd.onlyB X)).length := by omega
          clear hL hH hC hB h0 hk hj l1 l2 l3 l4
          go_wp2_with (go_at_call 20; refine (law10_fixed _ (HL.out.below HB.out)).mono ?_; rintro e wf ⟨rfl, hb⟩; replace HB := Lib.hid (HB.out.trans (hb.mono HB.out.size)); clear hb)
          go_ret
          exact ⟨rfl, HB.out⟩
        · rw [if_neg rB] at hB
          obtain ⟨rfl, rfl⟩ := Prod.mk.inj hB
          have hjn : ¬ Sd.right X = true := by rw [hj]; simp [*]
          rw [if_neg hjn] at h0
          obtain ⟨rfl, rfl⟩ := Prod.mk.inj h0
          clear hL hH hC hB h0 hk hj hjn
          go_wp2_with (go_at_call 20; refine (law10_fixed _ (HL.out.below HB.out)).mono ?_; rintro e wf ⟨rfl, hb⟩; replace HB := Lib.hid (HB.out.trans (hb.mono HB.out.size)); clear hb)
          go_ret
          exact ⟨rfl, HB.out⟩
      · rw [if_neg rC] at hC
        obtain ⟨rfl, rfl⟩ := Prod.mk.inj hC
        have hjn : ¬ Sd.right X = true := by rw [hj]; simp [*]
        rw [if_neg hjn] at h0
        obtain ⟨rfl, rfl⟩ := Prod.mk.inj h0
        clear hL hH hC hB h0 hk hj hjn
        go_wp2_with (go_at_call 20; refine (law10_fixed _ (HL.out.below HB.out)).mono ?_; rintro e wf ⟨rfl, hb⟩; replace HB := Lib.hid (HB.out.trans (hb.mono HB.out.size)); clear hb)
        go_ret
        exact ⟨rfl, HB.out⟩
    · rw [if_neg rH] at hH
      obtain ⟨rfl, rfl⟩ := Prod.mk.inj hH
      have hjn : ¬ Sd.right X = true := by rw [hj]; simp [*]
      rw [if_neg hjn] at h0
      obtain ⟨rfl, rfl⟩ := Prod.mk.inj h0
      clear hL hH hC hB h0 hk hj hjn
      go_wp2_with (go_at_call 20; refine (law10_fixed _ (HL.out.below HB.out)).mono ?_; rintro e wf ⟨rfl, hb⟩; replace HB := Lib.hid (HB.out.trans (hb.mono HB.out.size)); clear hb)
      go_ret
      exact ⟨rfl, HB.out⟩
  · rw [if_neg rL] at hL
    obtain ⟨rfl, rfl⟩ := Prod.mk.inj hL
    have hjn : ¬ Sd.right X = true := by rw [hj]; simp [*]
    rw [if_neg hjn] at h0
    obtain ⟨rfl, rfl⟩ := Prod.mk.inj h0
    clear hL hH hC hB h0 hk hj hjn
    go_wp2_with (go_at_call 20; refine (law10_fixed _ (HL.out.below HB.out)).mono ?_; rintro e wf ⟨rfl, hb⟩; replace HB := Lib.hid (HB.out.trans (hb.mono HB.out.size)); clear hb)
    go_ret
    exact ⟨rfl, HB.out⟩
end Go.Proofs.YtimmmjmmjokdbaaGreatDoor.lawSideJoins
