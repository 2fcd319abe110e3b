/- SideFind: the law's walk. -/
import Derived.Test.YtimmmjmmjokdbaaGreatDoorSidLw2
set_option linter.unusedSimpArgs false
set_option linter.unusedVariables false
namespace Go.Proofs.YtimmmjmmjokdbaaGreatDoor.lawSideFind
open Go.RowKit
theorem neq_labS (a b a' b' : List UInt8) (c c' : Int) (w : World) : (binOp .neq 42 (.agg #[.string ⟨a.toArray⟩, .string ⟨b.toArray⟩, .int .i64 c]) (.agg #[.string ⟨a'.toArray⟩, .string ⟨b'.toArray⟩, .int .i64 c'])).run Tryz.prog w = .ok (.bool (!((a == a') && (b == b') && (c == c')))) w := by
  cases h1 : (a == a') <;> cases h2 : (b == b') <;> cases h3 : (c == c') <;> go_simp
theorem three_set {g : Nat} {w : World} {o0 o1 o2 : Value} (a b c : Value) (h : Four g w #[o0, o1, o2]) :
    Four g (((w.setCell ⟨g, 0, none⟩ a).setCell ⟨g, 1, none⟩ b).setCell ⟨g, 2, none⟩ c) #[a, b, c] := by
  obtain ⟨z0, z1, z2⟩ := set3 g w a b c (h.2 0 _ rfl) (h.2 1 _ rfl) (h.2 2 _ rfl)
  refine ⟨by simpa [World.setCell] using h.1, ?_⟩
  intro i u hu
  match i, hu with
  | 0, hu => cases hu; exact z0
  | 1, hu => cases hu; exact z1
  | 2, hu => cases hu; exact z2
theorem lab_slice {w : World} {a b c d : Value} {x : Sd.Side} (h : SideIn (fun _ => True) w (.agg #[a, b, c, d]) x) : SliceIn (fun _ => True) 3 RLab w a x.labs := by
  obtain ⟨vl, vh, vc, vb, e, h1, h2, h3, h4⟩ := h
  cases e
  exact h1
theorem has_snoc (l : List Sd.Lab) (k : Nat) (p : Sd.Lab) (key : List UInt8) (h : l[k]? = some p) : ((l.take (k + 1)).any fun x => x.key == key) = (((l.take k).any fun x => x.key == key) || p.key == key) := by
  rw [List.take_add_one, h]; simp
set_option maxRecDepth 100000 in
set_option maxHeartbeats 6400000 in
theorem walk (x0 : Sd.Side) (v : Value) (key : List UInt8) (w : World) (hL : Laid10 w) (hX : OSide w v x0) :
    Calls Tryz.prog 8 #[v, .string ⟨key.toArray⟩] w fun e w' => e = .returned (.bool true) ∧ Below w.heap.size w w' := by
  have HL := Lib.hid hL
  obtain ⟨pl, cl, ph, ch, pc, cc, pb, cb, rfl, _⟩ := hX.ex
  have HXO := Lib.hid hX
  clear hL hX
  go_enter Tryz.func8, Tryz.ntmps8
  go_upto_region 1 with fail
  obtain ⟨W1, hW1⟩ : ∃ W1, W1 = w.alloc (.cells #[.slice pl x0.labs.length cl, .slice ph x0.heads.length ch, .slice pc x0.cites.length cc, .slice pb x0.bibs.length cb] 26) := ⟨_, rfl⟩
  obtain ⟨g, hg⟩ : ∃ g, g = w.heap.size := ⟨_, rfl⟩
  rw [← hW1, ← hg]
  have hF : Four g W1 #[.slice pl x0.labs.length cl, .slice ph x0.heads.length ch, .slice pc x0.cites.length cc, .slice pb x0.bibs.length cb] := by rw [hW1, hg]; exact Four.made _ _ _
  have hZ : ∀ i : Nat, W1.frozen? ⟨g, i, none⟩ = false := by intro i; rw [hW1, hg]; simp
  have hb : Below w.heap.size w W1 := by rw [hW1]; exact below_new w _
  have c0 := hF.2 0 _ rfl; have c1 := hF.2 1 _ rfl; have c2 := hF.2 2 _ rfl; have c3 := hF.2 3 _ rfl
  replace HXO := Lib.hid (HXO.out.below hb)
  have HB := Lib.hid hb; have HF := Lib.hid hF; have HZ := Lib.hid hZ; have HG := Lib.hid hg
  obtain ⟨X, hXe⟩ : ∃ X, X = cutS 30 x0 := ⟨_, rfl⟩
  have Hsm := Lib.hid (show SideSm X by rw [hXe]; exact cutS_sm _ _ (by decide))
  have HXe := Lib.hid hXe
  clear hW1 hg hb hF hZ hXe
  go_upto_region 2 with (go_at_call 9; refine (law10_cut x0 _ 30 _ HXO.out (by decide)).mono ?_; rw [← HXe.out]; rintro e w2 ⟨⟨v2, rfl, hX2⟩, hb⟩; have HX2 := Lib.hid hX2; have hgl := HF.out.1; have d0 := (hb.cell (p := ⟨g, 0, none⟩) hgl).trans c0; have d1 := (hb.cell (p := ⟨g, 1, none⟩) hgl).trans c1; have d2 := (hb.cell (p := ⟨g, 2, none⟩) hgl).trans c2; have d3 := (hb.cell (p := ⟨g, 3, none⟩) hgl).trans c3; have f0 := (frozen_below (i := 0) hb hgl).trans (HZ.out 0); have f1 := (frozen_below (i := 1) hb hgl).trans (HZ.out 1); have f2 := (frozen_below (i := 2) hb hgl).trans (HZ.out 2); have f3 := (frozen_below (i := 3) hb hgl).trans (HZ.out 3); obtain ⟨vl, vh, vc, vb, rfl, ⟨ql, kl, rfl, _⟩, ⟨qh, kh, rfl, _⟩, ⟨qc, kc, rfl, _⟩, ⟨qb, kb, rfl, _⟩⟩ := hX2; have HB2 := Lib.hid hb; clear c0 c1 c2 c3 hb)
  obtain ⟨W3, hW3⟩ : ∃ W3, W3 = (((w2.setCell ⟨g, 0, none⟩ (.slice ql X.labs.length kl)).setCell ⟨g, 1, none⟩ (.slice qh X.heads.length kh)).setCell ⟨g, 2, none⟩ (.slice qc X.cites.length kc)).setCell ⟨g, 3, none⟩ (.slice qb X.bibs.length kb) := ⟨_, rfl⟩
  rw [← hW3]
  have HX := Lib.hid (show SideIn (fun _ => True) W3 (.agg #[.slice ql X.labs.length kl, .slice qh X.heads.length kh, .slice qc X.cites.length kc, .slice qb X.bibs.length kb]) X by rw [hW3]; exact HX2.out.set4 g (fun j hj e => by have := HF.out.1; omega) _ _ _ _)
  have hF3 : Four g W3 #[.slice ql X.labs.length kl, .slice qh X.heads.length kh, .slice qc X.cites.length kc, .slice qb X.bibs.length kb] := by rw [hW3]; exact four_set _ _ _ _ (HF.out.below HB2.out)
  replace HB := Lib.hid (show Below w.heap.size w W3 by rw [hW3]; exact four_below (HB.out.trans (HB2.out.mono HB.out.size)) (by rw [HG.out]; exact Nat.le_refl _) _ _ _ _)
  replace HF := Lib.hid hF3
  clear hW3 hF3 HX2 HB2 hgl d0 d1 d2 d3 f0 f1 f2 f3 HXO HZ
  obtain ⟨s, er, he⟩ : ∃ s c, Sd.enc X = (s, c) := ⟨_, _, rfl⟩
  have He := Lib.hid he
  have hor := Sd.right_enc X
  rw [he] at hor
  have Hor := Lib.hid hor
  clear he hor
  have c0 := HF.out.2 0 _ rfl; have c1 := HF.out.2 1 _ rfl; have c2 := HF.out.2 2 _ rfl; have c3 := HF.out.2 3 _ rfl
  go_upto_region 3 with (go_at_call 10; refine (side_encode _ _ _ _ (HL.out.below HB.out) HX.out Hsm.out).mono ?_; rw [He.out]; rintro e w4 ⟨rfl, hb⟩; replace HX := Lib.hid (HX.out.below hb); replace HF := Lib.hid (HF.out.below hb); replace HB := Lib.hid (HB.out.trans (hb.mono HB.out.size)); clear hb)
  clear c0 c1 c2 c3
  have hcase : ((er = 0 ∧ Sd.right X = true ∧ Sd.dec s = some X ∧ s.length ≤ 1000000) ∨ (er = 5 ∧ s = [])) := by
    rcases Hor.out with ⟨s', h1, h2, h3, h4⟩ | ⟨h1, h2⟩
    · obtain ⟨rfl, rfl⟩ := Prod.mk.inj h1
      exact .inl ⟨rfl, h2, by rw [h3]; exact Sd.dec_enc X h2, by omega⟩
    · obtain ⟨rfl, rfl⟩ := Prod.mk.inj h1
      exact .inr ⟨rfl, rfl⟩
  clear He Hor HXe
  rcases hcase with ⟨rfl, hr, hd, hl⟩ | ⟨rfl, rfl⟩
  · have Hr := Lib.hid hr; have Hd := Lib.hid hd; have Hl := Lib.hid hl
    have hml := Hsm.out.labs
    clear hr hd hl
    go_upto_region 6 with (go_at_call 13; refine (side_decode s _ (HL.out.below HB.out) Hl.out).mono ?_; rintro e w6 ⟨hb, hm⟩; rw [Hd.out] at hm; obtain ⟨vy, hY, _, rfl⟩ := hm; have HY := Lib.hid hY; replace HX := Lib.hid (HX.out.below hb); replace HF := Lib.hid (HF.out.below hb); replace HB := Lib.hid (HB.out.trans (hb.mono HB.out.size)); clear hb; obtain ⟨y0, y1, y2, y3, rfl, ⟨py0, cy0, rfl, _⟩, ⟨py1, cy1, rfl, _⟩, ⟨py2, cy2, rfl, _⟩, ⟨py3, cy3, rfl, _⟩⟩ := hY)
    obtain ⟨w7, hwx⟩ : ∃ W, W = w6.alloc (.cells #[.slice py0 X.labs.length cy0, .slice py1 X.heads.length cy1, .slice py2 X.cites.length cy2, .slice py3 X.bibs.length cy3] 26) := ⟨_, rfl⟩
    obtain ⟨g2, hgx⟩ : ∃ g, g = w6.heap.size := ⟨_, rfl⟩
    rw [← hwx, ← hgx]
    have hb : Below w6.heap.size w6 w7 := by rw [hwx]; exact below_new _ _
    replace HX := Lib.hid (HX.out.below hb)
    replace HF := Lib.hid (HF.out.below hb)
    replace HY := Lib.hid (HY.out.below hb)
    replace HB := Lib.hid (HB.out.trans (hb.mono HB.out.size))
    have HFY := Lib.hid (show Four g2 w7 #[.slice py0 X.labs.length cy0, .slice py1 X.heads.length cy1, .slice py2 X.cites.length cy2, .slice py3 X.bibs.length cy3] from by rw [hgx, hwx]; exact Four.made _ _ _)
    clear hb hwx hgx
    go_wp2_with fail
    go_loopw [9, 10] (fun hv iv wr => ∃ k : Nat, k ≤ X.labs.length ∧ iv = .int .i64 (k : Int) ∧ hv = .bool ((X.labs.take k).any fun l => l.key == key) ∧ Below w7.heap.size w7 wr) (fun _ iv _ => X.labs.length - (intOf iv).toNat)
    case atStart => exact ⟨0, Nat.zero_le _, rfl, rfl, Below.refl _ _⟩
    case round =>
      obtain ⟨k, hk, rfl, rfl, hb⟩ := hrel
      have Hbk := Lib.hid hb
      replace HX := Lib.hid (HX.out.below hb); replace HY := Lib.hid (HY.out.below hb); replace HF := Lib.hid (HF.out.below hb); replace HFY := Lib.hid (HFY.out.below hb); replace HB := Lib.hid (HB.out.trans (hb.mono HB.out.size))
      clear hb
      by_cases hlt : k < X.labs.length
      · obtain ⟨p, hp⟩ : ∃ p, X.labs[k]? = some p := ⟨_, List.getElem?_eq_getElem hlt⟩
        obtain ⟨pq, cq, hq, _, _, hat⟩ := lab_slice HX.out
        injection hq with hq1 hq2 hq3
        subst hq1
        obtain ⟨b1, o1, vs1, rfl, _, hw1, hR1, hc1⟩ := hat k p hp
        have hR1 : vs1 = _ := hR1
        subst hR1
        have e0 : wr.cell? ⟨b1, o1 + k * 3, none⟩ = some (.string ⟨p.key.toArray⟩) := hc1 0 _ rfl
        have e1 : wr.cell? ⟨b1, o1 + k * 3 + 1, none⟩ = some (.string ⟨p.num.toArray⟩) := hc1 1 _ rfl
        have e2 : wr.cell? ⟨b1, o1 + k * 3 + 2, none⟩ = some (.int .i64 p.page) := hc1 2 _ rfl
        have hlt' : (k : Int) < (X.labs.length : Int) := by omega
        have hkl : (k : Int) + 1 ≤ 9223372036854775807 := by omega
        have Hfo := Lib.hid (Sd.find_own X Hr.out k p hp)
        have Hsn := Lib.hid (has_snoc X.labs k p key hp)
        have Hkl := Lib.hid hkl; have Hlt := Lib.hid hlt; have Hw1 := Lib.hid hw1; have E0 := Lib.hid e0; have E1 := Lib.hid e1; have E2 := Lib.hid e2; have Hml := Lib.hid hml
        have c0 := HF.out.2 0 _ rfl
        obtain ⟨B, hB⟩ : ∃ B, ((X.labs.take k).any fun l => l.key == key) = B := ⟨_, rfl⟩
        rw [hB] at Hsn ⊢
        clear hc1 hat hp hkl hlt hw1 hq2 hq3 hB hk hml
        go_upto_region 10 with fail
        clear c0 e0 e1 e2
        go_cut [11, 12] (fun v u wx => u = .bool true ∧ ∃ gl, v = .pointer (some ⟨gl, 0, none⟩) ∧ Four gl wx #[.string ⟨p.key.toArray⟩, .string ⟨p.num.toArray⟩, .int .i64 p.page] ∧ Below wr.heap.size wr wx)
        case first =>
          refine wp_region_any (by kernel_rfl) ?_
          change wpAny _ _ _ _ _ _ _ (World.drew _)
          obtain ⟨w0, hw0⟩ : ∃ W, W = wr.drew := ⟨_, rfl⟩
          rw [← hw0]
          have hb : Below wr.heap.size wr w0 := by rw [hw0]; exact (Below.refl _ _).drew
          replace HX := Lib.hid (HX.out.below hb)
          replace HY := Lib.hid (HY.out.below hb)
          replace HF := Lib.hid (HF.out.below hb)
          replace HFY := Lib.hid (HFY.out.below hb)
          have e0 := (hb.cell (p := ⟨b1, o1 + k * 3, none⟩) Hw1.out).trans E0.out
          have hw0l : b1 < w0.heap.size := Nat.lt_of_lt_of_le Hw1.out hb.size
          have Hbw := Lib.hid hb
          clear hb hw0
          have hS : Below w0.heap.size w0 w0 := Below.refl _ _
          refine wpAny_of_held (S := fun W => Below w0.heap.size w0 W) _ _ _ _ ?_
          refine wpAnyH_take (i := 0) (v := .agg #[.slice py0 X.labs.length cy0, .slice py1 X.heads.length cy1, .slice py2 X.cites.length cy2, .slice py3 X.bibs.length cy3]) rfl (by kernel_rfl) (by kernel_rfl) (by kernel_rfl) (fun _ _ _ h => h) (Or.inl ⟨by kernel_rfl, fun W hW => by (obtain ⟨_, q⟩ := Four.below HFY.out hW; have c0 := q 0 _ rfl; have c1 := q 1 _ rfl; have c2 := q 2 _ rfl; have c3 := q 3 _ rfl; go_simp)⟩) (by assumption) ?_
          try simp only [Act.put, List.getElem_toArray, List.getElem_cons_zero, List.getElem_cons_succ, List.setIfInBounds_toArray, List.set_cons_zero, List.set_cons_succ]
          refine wpAnyH_take (i := 1) (v := .pointer (some ⟨g, 0, none⟩)) rfl (by kernel_rfl) (by kernel_rfl) (by kernel_rfl) (fun _ _ _ h => h) (Or.inl ⟨by kernel_rfl, fun W hW => by kernel_rfl⟩) (by assumption) ?_
          try simp only [Act.put, List.getElem_toArray, List.getElem_cons_zero, List.getElem_cons_succ, List.setIfInBounds_toArray, List.set_cons_zero, List.set_cons_succ]
          refine wpAnyH_take (i := 2) (v := .slice (some ⟨b1, o1, none⟩) X.labs.length kl) rfl (by kernel_rfl) (by kernel_rfl) (by kernel_rfl) (fun _ _ _ h => h) (Or.inl ⟨by kernel_rfl, fun W hW => by (obtain ⟨_, q⟩ := Four.below HF.out hW; have c0 := q 0 _ rfl; go_simp)⟩) (by assumption) ?_
          try simp only [Act.put, List.getElem_toArray, List.getElem_cons_zero, List.getElem_cons_succ, List.setIfInBounds_toArray, List.set_cons_zero, List.set_cons_succ]
          refine wpAnyH_take (i := 3) (v := .int .i64 (k : Int)) rfl (by kernel_rfl) (by kernel_rfl) (by kernel_rfl) (fun _ _ _ h => h) (Or.inl ⟨by kernel_rfl, fun W hW => by kernel_rfl⟩) (by assumption) ?_
          try simp only [Act.put, List.getElem_toArray, List.getElem_cons_zero, List.getElem_cons_succ, List.setIfInBounds_toArray, List.set_cons_zero, List.set_cons_succ]
          refine wpAnyH_take (i := 4) (v := .pointer (some ⟨b1, o1 + k * 3, none⟩)) rfl (by kernel_rfl) (by kernel_rfl) (by kernel_rfl) (fun _ _ _ h => h) (Or.inl ⟨by kernel_rfl, fun W hW => by go_simp⟩) (by assumption) ?_
          try simp only [Act.put, List.getElem_toArray, List.getElem_cons_zero, List.getElem_cons_succ, List.setIfInBounds_toArray, List.set_cons_zero, List.set_cons_succ]
          refine wpAnyH_take (i := 5) (v := .pointer (some ⟨b1, o1 + k * 3, none⟩)) rfl (by kernel_rfl) (by kernel_rfl) (by kernel_rfl) (fun _ _ _ h => h) (Or.inl ⟨by kernel_rfl, fun W hW => by go_simp⟩) (by assumption) ?_
          try simp only [Act.put, List.getElem_toArray, List.getElem_cons_zero, List.getElem_cons_succ, List.setIfInBounds_toArray, List.set_cons_zero, List.set_cons_succ]
          refine wpAnyH_take (i := 6) (v := .string ⟨p.key.toArray⟩) rfl (by kernel_rfl) (by kernel_rfl) (by kernel_rfl) (fun _ _ _ h => h) (Or.inl ⟨by kernel_rfl, fun W hW => by (have q0 := (Below.cell hW (p := ⟨b1, o1 + k * 3, none⟩) hw0l).trans e0; go_simp)⟩) (by assumption) ?_
          try simp only [Act.put, List.getElem_toArray, List.getElem_cons_zero, List.getElem_cons_succ, List.setIfInBounds_toArray, List.set_cons_zero, List.set_cons_succ]
          refine wpAnyH_ready (rs := [7, 11]) (by kernel_rfl) (by simp) ?_
          refine AllReadyH.cons rfl (fun K hK => ?_) (AllReadyH.cons rfl (fun K hK => ?_) AllReadyH.nil)
          · go_simp
            go_wp2_with (go_at_call 15; go_loud (refine (side_find X _ p.key _ _ (HY.out.below hS) Hml.out).mono ?_; rw [Hfo.out]; rintro e w9 ⟨he, hb⟩; obtain rfl : e = .returned (.tuple #[.agg #[.string ⟨p.key.toArray⟩, .string ⟨p.num.toArray⟩, .int .i64 p.page], .bool true]) := he; replace hS := hS.trans (hb.mono hS.size); clear hb))
            refine hK.out _ _ hS (fun _ => ?_)
            clear K hK
            try simp only [Act.put, List.getElem_toArray, List.getElem_cons_zero, List.getElem_cons_succ, List.setIfInBounds_toArray, List.set_cons_zero, List.set_cons_succ]
            refine wpAnyH_take (i := 8) (v := .tuple #[.agg #[.string ⟨p.key.toArray⟩, .string ⟨p.num.toArray⟩, .int .i64 p.page], .bool true]) rfl (by kernel_rfl) (by kernel_rfl) (by kernel_rfl) (fun _ _ _ h => h) (Or.inl ⟨by kernel_rfl, fun W hW => by kernel_rfl⟩) (by assumption) ?_
            try simp only [Act.put, List.getElem_toArray, List.getElem_cons_zero, List.getElem_cons_succ, List.setIfInBounds_toArray, List.set_cons_zero, List.set_cons_succ]
            refine wpAnyH_take (i := 9) (v := .agg #[.string ⟨p.key.toArray⟩, .string ⟨p.num.toArray⟩, .int .i64 p.page]) rfl (by kernel_rfl) (by kernel_rfl) (by kernel_rfl) (fun _ _ _ h => h) (Or.inl ⟨by kernel_rfl, fun W hW => by kernel_rfl⟩) (by assumption) ?_
            try simp only [Act.put, List.getElem_toArray, List.getElem_cons_zero, List.getElem_cons_succ, List.setIfInBounds_toArray, List.set_cons_zero, List.set_cons_succ]
            refine wpAnyH_take (i := 10) (v := .bool true) rfl (by kernel_rfl) (by kernel_rfl) (by kernel_rfl) (fun _ _ _ h => h) (Or.inl ⟨by kernel_rfl, fun W hW => by kernel_rfl⟩) (by assumption) ?_
            try simp only [Act.put, List.getElem_toArray, List.getElem_cons_zero, List.getElem_cons_succ, List.setIfInBounds_toArray, List.set_cons_zero, List.set_cons_succ]
            refine wpAnyH_ready (rs := [11]) (by kernel_rfl) (by simp) ?_
            refine AllReadyH.cons rfl (fun K hK => ?_) AllReadyH.nil
            go_simp
            have hZ := Lib.hid (show Four w9.heap.size (w9.alloc (.cells #[.string ⟨#[]⟩, .string ⟨#[]⟩, .int .i64 0] 42)) #[.string ⟨#[]⟩, .string ⟨#[]⟩, .int .i64 0] from Four.made _ _ _)
            have hZf : ∀ i : Nat, (w9.alloc (.cells #[.string ⟨#[]⟩, .string ⟨#[]⟩, .int .i64 0] 42)).frozen? ⟨w9.heap.size, i, none⟩ = false := by intro i; simp
            have hqz := hS.size
            replace hS := Below.alloc hS (Below.size hS) (.cells #[.string ⟨#[]⟩, .string ⟨#[]⟩, .int .i64 0] 42)
            obtain ⟨gl, hgl⟩ : ∃ gl, gl = w9.heap.size := ⟨_, rfl⟩
            obtain ⟨wz, hwz⟩ : ∃ W, W = w9.alloc (.cells #[.string ⟨#[]⟩, .string ⟨#[]⟩, .int .i64 0] 42) := ⟨_, rfl⟩
            rw [← hwz, ← hgl] at hZ hZf
            rw [← hwz] at hS
            have hgz : w0.heap.size ≤ gl := by rw [hgl]; exact hqz
            have HZ := Lib.hid hZ.out; have HZf := Lib.hid hZf
            rw [← hwz, ← hgl]
            refine hK.out _ _ hS (fun _ => ?_)
            clear K hK hwz hgl hZ hZf hqz
            try simp only [Act.put, List.getElem_toArray, List.getElem_cons_zero, List.getElem_cons_succ, List.setIfInBounds_toArray, List.set_cons_zero, List.set_cons_succ]
            refine wpAnyH_ready (rs := [12]) (by kernel_rfl) (by simp) ?_
            refine AllReadyH.cons rfl (fun K hK => ?_) AllReadyH.nil
            have z0 := HZ.out.2 0 _ rfl; have z1 := HZ.out.2 1 _ rfl; have z2 := HZ.out.2 2 _ rfl; have f0 := HZf.out 0; have f1 := HZf.out 1; have f2 := HZf.out 2
            go_simp
            have HZ2 := Lib.hid (three_set (.string ⟨p.key.toArray⟩) (.string ⟨p.num.toArray⟩) (.int .i64 p.page) HZ.out)
            replace hS := set3_below hS hgz (.string ⟨p.key.toArray⟩) (.string ⟨p.num.toArray⟩) (.int .i64 p.page)
            refine hK.out _ _ hS (fun _ => ?_)
            clear K hK z0 z1 z2 f0 f1 f2
            try simp only [Act.put, List.getElem_toArray, List.getElem_cons_zero, List.getElem_cons_succ, List.setIfInBounds_toArray, List.set_cons_zero, List.set_cons_succ]
            refine wpAnyH_take (i := 13) (v := .bool true) rfl (by kernel_rfl) (by kernel_rfl) (by kernel_rfl) (fun _ _ _ h => h) (Or.inl ⟨by kernel_rfl, fun W hW => by kernel_rfl⟩) (by assumption) ?_
            try simp only [Act.put, List.getElem_toArray, List.getElem_cons_zero, List.getElem_cons_succ, List.setIfInBounds_toArray, List.set_cons_zero, List.set_cons_succ]
            refine wpAnyH_done (by kernel_rfl) ?_ _
            go_wp2_with fail
            go_meet
            exact ⟨rfl, gl, rfl, HZ2.out, Hbw.out.trans (hS.mono Hbw.out.size)⟩
          · go_simp
            have hZ := Lib.hid (show Four w0.heap.size (w0.alloc (.cells #[.string ⟨#[]⟩, .string ⟨#[]⟩, .int .i64 0] 42)) #[.string ⟨#[]⟩, .string ⟨#[]⟩, .int .i64 0] from Four.made _ _ _)
            have hZf : ∀ i : Nat, (w0.alloc (.cells #[.string ⟨#[]⟩, .string ⟨#[]⟩, .int .i64 0] 42)).frozen? ⟨w0.heap.size, i, none⟩ = false := by intro i; simp
            have hqz := hS.size
            replace hS := Below.alloc hS (Below.size hS) (.cells #[.string ⟨#[]⟩, .string ⟨#[]⟩, .int .i64 0] 42)
            obtain ⟨gl, hgl⟩ : ∃ gl, gl = w0.heap.size := ⟨_, rfl⟩
            obtain ⟨wz, hwz⟩ : ∃ W, W = w0.alloc (.cells #[.string ⟨#[]⟩, .string ⟨#[]⟩, .int .i64 0] 42) := ⟨_, rfl⟩
            rw [← hwz, ← hgl] at hZ hZf
            rw [← hwz] at hS
            have hgz : w0.heap.size ≤ gl := by rw [hgl]; exact hqz
            have HZ := Lib.hid hZ.out; have HZf := Lib.hid hZf
            rw [← hwz, ← hgl]
            refine hK.out _ _ hS (fun _ => ?_)
            clear K hK hwz hgl hZ hZf hqz
            try simp only [Act.put, List.getElem_toArray, List.getElem_cons_zero, List.getElem_cons_succ, List.setIfInBounds_toArray, List.set_cons_zero, List.set_cons_succ]
            refine wpAnyH_ready (rs := [7]) (by kernel_rfl) (by simp) ?_
            refine AllReadyH.cons rfl (fun K hK => ?_) AllReadyH.nil
            go_simp
            go_wp2_with (go_at_call 15; go_loud (refine (side_find X _ p.key _ _ (HY.out.below hS) Hml.out).mono ?_; rw [Hfo.out]; rintro e w9 ⟨he, hb⟩; obtain rfl : e = .returned (.tuple #[.agg #[.string ⟨p.key.toArray⟩, .string ⟨p.num.toArray⟩, .int .i64 p.page], .bool true]) := he; replace HZf := Lib.hid (fun i : Nat => (frozen_below (i := i) hb HZ.out.1).trans (HZf.out i)); replace HZ := Lib.hid (HZ.out.below hb); replace hS := hS.trans (hb.mono hS.size); clear hb))
            refine hK.out _ _ hS (fun _ => ?_)
            clear K hK
            try simp only [Act.put, List.getElem_toArray, List.getElem_cons_zero, List.getElem_cons_succ, List.setIfInBounds_toArray, List.set_cons_zero, List.set_cons_succ]
            refine wpAnyH_take (i := 8) (v := .tuple #[.agg #[.string ⟨p.key.toArray⟩, .string ⟨p.num.toArray⟩, .int .i64 p.page], .bool true]) rfl (by kernel_rfl) (by kernel_rfl) (by kernel_rfl) (fun _ _ _ h => h) (Or.inl ⟨by kernel_rfl, fun W hW => by kernel_rfl⟩) (by assumption) ?_
            try simp only [Act.put, List.getElem_toArray, List.getElem_cons_zero, List.getElem_cons_succ, List.setIfInBounds_toArray, List.set_cons_zero, List.set_cons_succ]
            refine wpAnyH_take (i := 9) (v := .agg #[.string ⟨p.key.toArray⟩, .string ⟨p.num.toArray⟩, .int .i64 p.page]) rfl (by kernel_rfl) (by kernel_rfl) (by kernel_rfl) (fun _ _ _ h => h) (Or.inl ⟨by kernel_rfl, fun W hW => by kernel_rfl⟩) (by assumption) ?_
            try simp only [Act.put, List.getElem_toArray, List.getElem_cons_zero, List.getElem_cons_succ, List.setIfInBounds_toArray, List.set_cons_zero, List.set_cons_succ]
            refine wpAnyH_take (i := 10) (v := .bool true) rfl (by kernel_rfl) (by kernel_rfl) (by kernel_rfl) (fun _ _ _ h => h) (Or.inl ⟨by kernel_rfl, fun W hW => by kernel_rfl⟩) (by assumption) ?_
            try simp only [Act.put, List.getElem_toArray, List.getElem_cons_zero, List.getElem_cons_succ, List.setIfInBounds_toArray, List.set_cons_zero, List.set_cons_succ]
            refine wpAnyH_ready (rs := [12]) (by kernel_rfl) (by simp) ?_
            refine AllReadyH.cons rfl (fun K hK => ?_) AllReadyH.nil
            have z0 := HZ.out.2 0 _ rfl; have z1 := HZ.out.2 1 _ rfl; have z2 := HZ.out.2 2 _ rfl; have f0 := HZf.out 0; have f1 := HZf.out 1; have f2 := HZf.out 2
            go_simp
            have HZ2 := Lib.hid (three_set (.string ⟨p.key.toArray⟩) (.string ⟨p.num.toArray⟩) (.int .i64 p.page) HZ.out)
            replace hS := set3_below hS hgz (.string ⟨p.key.toArray⟩) (.string ⟨p.num.toArray⟩) (.int .i64 p.page)
            refine hK.out _ _ hS (fun _ => ?_)
            clear K hK z0 z1 z2 f0 f1 f2
            try simp only [Act.put, List.getElem_toArray, List.getElem_cons_zero, List.getElem_cons_succ, List.setIfInBounds_toArray, List.set_cons_zero, List.set_cons_succ]
            refine wpAnyH_take (i := 13) (v := .bool true) rfl (by kernel_rfl) (by kernel_rfl) (by kernel_rfl) (fun _ _ _ h => h) (Or.inl ⟨by kernel_rfl, fun W hW => by kernel_rfl⟩) (by assumption) ?_
            try simp only [Act.put, List.getElem_toArray, List.getElem_cons_zero, List.getElem_cons_succ, List.setIfInBounds_toArray, List.set_cons_zero, List.set_cons_succ]
            refine wpAnyH_done (by kernel_rfl) ?_ _
            go_wp2_with fail
            go_meet
            exact ⟨rfl, gl, rfl, HZ2.out, Hbw.out.trans (hS.mono Hbw.out.size)⟩
        case rest =>
          obtain ⟨rfl, gl, rfl, hFl, hbc⟩ := hcut
          have HFl := Lib.hid hFl
          have Hbk2 := Lib.hid (Hbk.out.trans (hbc.mono Hbk.out.size))
          have e0 := (hbc.cell (p := ⟨b1, o1 + k * 3, none⟩) Hw1.out).trans E0.out
          have e1 := (hbc.cell (p := ⟨b1, o1 + k * 3 + 1, none⟩) Hw1.out).trans E1.out
          have e2 := (hbc.cell (p := ⟨b1, o1 + k * 3 + 2, none⟩) Hw1.out).trans E2.out
          have c0 := (HF.out.below hbc).2 0 _ rfl
          have d0 := hFl.2 0 _ rfl; have d1 := hFl.2 1 _ rfl; have d2 := hFl.2 2 _ rfl
          have hnq : ∀ W, (binOp .neq 42 (.agg #[.string ⟨p.key.toArray⟩, .string ⟨p.num.toArray⟩, .int .i64 p.page]) (.agg #[.string ⟨p.key.toArray⟩, .string ⟨p.num.toArray⟩, .int .i64 p.page])).run Tryz.prog W = .ok (.bool false) W := fun W => by rw [neq_labS]; simp
          go_upto_region 11 with fail
          go_cut [58] (fun v wx => v = .bool false ∧ Below wc.heap.size wc wx)
          case first =>
            go_quiet (fail)
            go_wp2_with fail
            go_meet
            exact ⟨rfl, below_drewN' (Below.refl _ _) _⟩
          case rest =>
            obtain ⟨rfl, hbd⟩ := hcut
            replace Hbk2 := Lib.hid (Hbk2.out.trans (hbd.mono Hbk2.out.size))
            have hbe := hbc.trans (hbd.mono hbc.size)
            replace e0 := (hbe.cell (p := ⟨b1, o1 + k * 3, none⟩) Hw1.out).trans E0.out
            replace c0 := (HF.out.below hbe).2 0 _ rfl
            clear e1 e2 d0 d1 d2 hnq hbc hbd hbe hFl
            have hkl := Hkl.out
            cases B
            · by_cases hpk : p.key = key
              · have hb1 : (p.key == key) = true := by rw [hpk]; simp
                rw [hb1] at Hsn
                go_wp2_with fail
                go_roundw
                case rel => exact ⟨k + 1, by have := Hlt.out; omega, by go_num, by rw [Hsn.out]; rfl, Hbk2.out⟩
                case measure => have := Hlt.out; simp [intOf]; omega
              · have hb1 : (p.key == key) = false := beq_eq_false_iff_ne.2 hpk
                rw [hb1] at Hsn
                go_wp2_with fail
                go_roundw
                case rel => exact ⟨k + 1, by have := Hlt.out; omega, by go_num, by rw [Hsn.out]; rfl, Hbk2.out⟩
                case measure => have := Hlt.out; simp [intOf]; omega
            · go_wp2_with fail
              go_roundw
              case rel => exact ⟨k + 1, by have := Hlt.out; omega, by go_num, by rw [Hsn.out]; rfl, Hbk2.out⟩
              case measure => have := Hlt.out; simp [intOf]; omega
      · have hlt' : ¬ (k : Int) < (X.labs.length : Int) := by omega
        have htk : X.labs.take k = X.labs := List.take_of_length_le (by omega)
        rw [htk]
        have hfs := Sd.find_some X.labs key
        obtain ⟨B, hB⟩ : ∃ B, (X.labs.any fun l => l.key == key) = B := ⟨_, rfl⟩
        rw [hB] at hfs ⊢
        have c0 := HF.out.2 0 _ rfl
        obtain ⟨o, ho⟩ : ∃ o, Sd.find X.labs key = o := ⟨_, rfl⟩
        rw [ho] at hfs
        have Ho := Lib.hid ho; have Hml := Lib.hid hml
        clear hB ho htk hlt hk hml
        have f0 := HFY.out.2 0 _ rfl; have f1 := HFY.out.2 1 _ rfl; have f2 := HFY.out.2 2 _ rfl; have f3 := HFY.out.2 3 _ rfl
        cases o with
        | none =>
          obtain rfl : false = B := hfs
          go_upto_region 15 with (go_at_call 15; refine (side_find X _ key _ _ HY.out Hml.out).mono ?_; rw [Ho.out]; rintro e w9 ⟨he, hb⟩; obtain rfl : e = .returned (.tuple #[.agg #[.string ⟨#[]⟩, .string ⟨#[]⟩, .int .i64 0], .bool false]) := he; replace HB := Lib.hid (HB.out.trans (hb.mono HB.out.size)); clear hb)
          obtain ⟨w10, hwx⟩ : ∃ W, W = w9.alloc (.cells #[.string ⟨#[]⟩, .string ⟨#[]⟩, .int .i64 0] 42) := ⟨_, rfl⟩
          obtain ⟨g10, hgx⟩ : ∃ g, g = w9.heap.size := ⟨_, rfl⟩
          rw [← hwx, ← hgx]
          have hb : Below w9.heap.size w9 w10 := by rw [hwx]; exact below_new _ _
          replace HB := Lib.hid (HB.out.trans (hb.mono HB.out.size))
          clear hb hwx hgx
          go_wp2_with (go_at_call 20; refine (law10_fixed _ (HL.out.below HB.out)).mono ?_; rintro e wf ⟨rfl, hb⟩; replace HB := Lib.hid (HB.out.trans (hb.mono HB.out.size)); clear hb)
          go_ret
          exact ⟨rfl, HB.out⟩
        | some p =>
          obtain rfl : true = B := hfs
          go_upto_region 15 with (go_at_call 15; refine (side_find X _ key _ _ HY.out Hml.out).mono ?_; rw [Ho.out]; rintro e w9 ⟨he, hb⟩; obtain rfl : e = .returned (.tuple #[.agg #[.string ⟨p.key.toArray⟩, .string ⟨p.num.toArray⟩, .int .i64 p.page], .bool true]) := he; replace HB := Lib.hid (HB.out.trans (hb.mono HB.out.size)); clear hb)
          obtain ⟨w10, hwx⟩ : ∃ W, W = w9.alloc (.cells #[.string ⟨p.key.toArray⟩, .string ⟨p.num.toArray⟩, .int .i64 p.page] 42) := ⟨_, rfl⟩
          obtain ⟨g10, hgx⟩ : ∃ g, g = w9.heap.size := ⟨_, rfl⟩
          rw [← hwx, ← hgx]
          have hb : Below w9.heap.size w9 w10 := by rw [hwx]; exact below_new _ _
          replace HB := Lib.hid (HB.out.trans (hb.mono HB.out.size))
          clear hb hwx hgx
          go_wp2_with (go_at_call 20; refine (law10_fixed _ (HL.out.below HB.out)).mono ?_; rintro e wf ⟨rfl, hb⟩; replace HB := Lib.hid (HB.out.trans (hb.mono HB.out.size)); clear hb)
          go_ret
          exact ⟨rfl, HB.out⟩
  · go_wp2_with (go_at_call 20; refine (law10_fixed _ (HL.out.below HB.out)).mono ?_; rintro e wf ⟨rfl, hb⟩; replace HB := Lib.hid (HB.out.trans (hb.mono HB.out.size)); clear hb)
    go_ret
    exact ⟨rfl, HB.out⟩
end Go.Proofs.YtimmmjmmjokdbaaGreatDoor.lawSideFind
