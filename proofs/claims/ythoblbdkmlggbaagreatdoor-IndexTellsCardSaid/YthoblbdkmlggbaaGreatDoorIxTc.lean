/- The walks of stetlaw19.Refs, and of the law IndexTells. -/
import Derived.Test.YthoblbdkmlggbaaGreatDoorIxTb
import Derived.Test.YthoblbdkmlggbaaGreatDoorIxK
set_option linter.unusedSimpArgs false
set_option linter.unusedVariables false
namespace Go.Proofs.YthoblbdkmlggbaaGreatDoor
open Go.RowKit
set_option maxRecDepth 100000 in
set_option maxHeartbeats 3200000 in
theorem law19_refs (l : List Ix.En) (v : Value) (S : Nat → Prop) (w : World) (hS : SliceIn S 2 REn w v l) (hl : l.length ≤ 100000) :
    Calls Tryz.prog 12 #[v] w fun e w' => ∃ va, e = .returned va ∧ OwnL w.heap.size 71 2 REn w' va l ∧ Below w.heap.size w w' := by
  obtain ⟨i0, hi, hz0, hz1, hz2⟩ := info_parts rent_info
  have Hi := Lib.hid hi; have Hz0 := Lib.hid hz0; have Hz1 := Lib.hid hz1; have Hz2 := Lib.hid hz2; clear hi hz0 hz1 hz2
  obtain ⟨pa, cap, rfl, hle, hmx, hat⟩ := hS
  have Hat := Lib.hid hat; have Hl := Lib.hid hl
  clear hat hl hle hmx
  have hO := Lib.hid (OwnL.made w.heap.size 71 2 REn w (Nat.le_refl _))
  have hB := Lib.hid (below_new w (.cells #[] 71))
  go_enter Tryz.func12, Tryz.ntmps12
  go_wp2_with fail
  go_loopw [3, 4] (fun ov iv wr => ∃ k : Nat, k ≤ l.length ∧ iv = .int .i64 (k : Int) ∧ OwnL w.heap.size 71 2 REn wr ov (l.take k) ∧ Below w.heap.size w wr) (fun _ iv _ => l.length - (intOf iv).toNat)
  case atStart => exact ⟨0, Nat.zero_le _, rfl, hO.out, hB.out⟩
  case round =>
    clear hO hB
    obtain ⟨k, hk, rfl, hO, hb⟩ := hrel
    by_cases hlt : k < l.length
    · obtain ⟨x, hx⟩ : ∃ x, l[k]? = some x := ⟨_, List.getElem?_eq_getElem hlt⟩
      have hsn := Ix.take_snoc l k x hx
      obtain ⟨L, hL⟩ : ∃ L, L = l.take k := ⟨_, rfl⟩
      have hLn : L.length ≤ 100000 := by rw [hL, List.length_take]; have := Hl.out; omega
      rw [← hL] at hO hsn
      obtain ⟨po, co, rfl⟩ := hO.form
      have HO := Lib.hid hO; have Hb := Lib.hid hb
      clear hO hb
      obtain ⟨b, off, vs, rfl, _, hbw, hR, hc⟩ := Hat.out k x hx
      have hR : vs = _ := hR
      subst hR
      obtain ⟨wd, pg⟩ := x
      have e0 : wr.cell? ⟨b, off + k * 2, none⟩ = some (.string ⟨wd.toArray⟩) := (Hb.out.cell (p := ⟨b, off + k * 2, none⟩) hbw).trans (hc 0 _ rfl)
      have e1 : wr.cell? ⟨b, off + k * 2 + 1, none⟩ = some (.int .i64 pg) := (Hb.out.cell (p := ⟨b, off + k * 2 + 1, none⟩) hbw).trans (hc 1 _ rfl)
      have Hw0 := Lib.hid (hc 0 _ rfl); have Hw1 := Lib.hid (hc 1 _ rfl); have Hbw := Lib.hid hbw
      have hlt' : (k : Int) < (l.length : Int) := by omega
      obtain ⟨fl, hown, hrep⟩ := HO.out
      have hnm : L.length + 1 ≤ maxLen := by unfold maxLen; omega
      have hn24 : (L.length + 1) * 24 ≤ 140737488355328 := by omega
      obtain ⟨k1, hk1⟩ : ∃ k1, k1 = k + 1 := ⟨_, rfl⟩
      have hwk : wrap64 ((k : Int) + 1) = (k1 : Int) := by rw [hk1]; exact ta_w1 k (by have := Hl.out; omega)
      have hbr : b < wr.heap.size := by have := Hb.out.size; omega
      have Hbr := Lib.hid hbr; have Hown := Lib.hid hown; have Hrep := Lib.hid hrep; have Hnm := Lib.hid hnm; have Hn24 := Lib.hid hn24; have E0 := Lib.hid e0; have E1 := Lib.hid e1; have Hsn := Lib.hid hsn; have Hlt := Lib.hid hlt; have Hk1 := Lib.hid hk1; have Hwk := Lib.hid hwk
      clear hc hx hbw hbr hown hrep hnm hn24 e0 e1 hsn hlt hL hLn hk1 hwk
      go_upto_region 5 with fail
      refine wp_region_any (by kernel_rfl) ?_
      change wpAny _ _ _ _ _ _ _ (World.drew _)
      have F0 := Lib.hid (show wr.drew.cell? ⟨b, off + k * 2, none⟩ = _ from E0.out); have F1 := Lib.hid (show wr.drew.cell? ⟨b, off + k * 2 + 1, none⟩ = _ from E1.out)
      have HOW := Lib.hid (own_below9 Hown.out (show Below wr.heap.size wr wr.drew from (Below.refl _ _).drew))
      have HBd := Lib.hid (Hb.out.drew)
      have HBr := Lib.hid (show b < wr.drew.heap.size from Hbr.out)
      clear E0 E1 Hown Hb Hbr HO
      generalize wr.drew = wd' at *
      refine wpAny_of_held (S := fun W => W.cell? ⟨b, off + k * 2, none⟩ = some (.string ⟨wd.toArray⟩) ∧ W.cell? ⟨b, off + k * 2 + 1, none⟩ = some (.int .i64 pg)) _ _ _ _ ?_
      have hS1 : (fun W : World => W.cell? ⟨b, off + k * 2, none⟩ = some (.string ⟨wd.toArray⟩) ∧ W.cell? ⟨b, off + k * 2 + 1, none⟩ = some (.int .i64 pg)) wd' := ⟨F0.out, F1.out⟩
      dsimp only at hS1
      refine wpAnyH_take (i := 0) (v := .slice po L.length co) rfl (by kernel_rfl) (by kernel_rfl) (by kernel_rfl) (fun _ _ _ h => h) (Or.inl ⟨by kernel_rfl, fun W hW => by kernel_rfl⟩) (by assumption) ?_
      try simp only [Act.put, List.getElem_toArray, List.getElem_cons_zero, List.getElem_cons_succ, List.setIfInBounds_toArray, List.set_cons_zero, List.set_cons_succ]
      refine wpAnyH_take (i := 1) (v := .slice (some ⟨b, off, none⟩) l.length cap) rfl (by kernel_rfl) (by kernel_rfl) (by kernel_rfl) (fun _ _ _ h => h) (Or.inl ⟨by kernel_rfl, fun W hW => by kernel_rfl⟩) (by assumption) ?_
      try simp only [Act.put, List.getElem_toArray, List.getElem_cons_zero, List.getElem_cons_succ, List.setIfInBounds_toArray, List.set_cons_zero, List.set_cons_succ]
      refine wpAnyH_take (i := 2) (v := .int .i64 (k : Int)) rfl (by kernel_rfl) (by kernel_rfl) (by kernel_rfl) (fun _ _ _ h => h) (Or.inl ⟨by kernel_rfl, fun W hW => by kernel_rfl⟩) (by assumption) ?_
      try simp only [Act.put, List.getElem_toArray, List.getElem_cons_zero, List.getElem_cons_succ, List.setIfInBounds_toArray, List.set_cons_zero, List.set_cons_succ]
      refine wpAnyH_take (i := 3) (v := .pointer (some ⟨b, off + k * 2, none⟩)) rfl (by kernel_rfl) (by kernel_rfl) (by kernel_rfl) (fun _ _ _ h => h) (Or.inl ⟨by kernel_rfl, fun W hW => by go_simp⟩) (by assumption) ?_
      try simp only [Act.put, List.getElem_toArray, List.getElem_cons_zero, List.getElem_cons_succ, List.setIfInBounds_toArray, List.set_cons_zero, List.set_cons_succ]
      refine wpAnyH_take (i := 4) (v := .pointer (some ⟨b, off + k * 2, none⟩)) rfl (by kernel_rfl) (by kernel_rfl) (by kernel_rfl) (fun _ _ _ h => h) (Or.inl ⟨by kernel_rfl, fun W hW => by go_simp⟩) (by assumption) ?_
      try simp only [Act.put, List.getElem_toArray, List.getElem_cons_zero, List.getElem_cons_succ, List.setIfInBounds_toArray, List.set_cons_zero, List.set_cons_succ]
      refine wpAnyH_take (i := 5) (v := .string ⟨wd.toArray⟩) rfl (by kernel_rfl) (by kernel_rfl) (by kernel_rfl) (fun _ _ _ h => h) (Or.inl ⟨by kernel_rfl, fun W hW => by (obtain ⟨hW0, hW1⟩ := hW; go_simp)⟩) (by assumption) ?_
      try simp only [Act.put, List.getElem_toArray, List.getElem_cons_zero, List.getElem_cons_succ, List.setIfInBounds_toArray, List.set_cons_zero, List.set_cons_succ]
      refine wpAnyH_take (i := 6) (v := .slice (some ⟨b, off, none⟩) l.length cap) rfl (by kernel_rfl) (by kernel_rfl) (by kernel_rfl) (fun _ _ _ h => h) (Or.inl ⟨by kernel_rfl, fun W hW => by kernel_rfl⟩) (by assumption) ?_
      try simp only [Act.put, List.getElem_toArray, List.getElem_cons_zero, List.getElem_cons_succ, List.setIfInBounds_toArray, List.set_cons_zero, List.set_cons_succ]
      refine wpAnyH_take (i := 7) (v := .int .i64 (k : Int)) rfl (by kernel_rfl) (by kernel_rfl) (by kernel_rfl) (fun _ _ _ h => h) (Or.inl ⟨by kernel_rfl, fun W hW => by kernel_rfl⟩) (by assumption) ?_
      try simp only [Act.put, List.getElem_toArray, List.getElem_cons_zero, List.getElem_cons_succ, List.setIfInBounds_toArray, List.set_cons_zero, List.set_cons_succ]
      refine wpAnyH_take (i := 8) (v := .pointer (some ⟨b, off + k * 2, none⟩)) rfl (by kernel_rfl) (by kernel_rfl) (by kernel_rfl) (fun _ _ _ h => h) (Or.inl ⟨by kernel_rfl, fun W hW => by go_simp⟩) (by assumption) ?_
      try simp only [Act.put, List.getElem_toArray, List.getElem_cons_zero, List.getElem_cons_succ, List.setIfInBounds_toArray, List.set_cons_zero, List.set_cons_succ]
      refine wpAnyH_take (i := 9) (v := .pointer (some ⟨b, off + k * 2 + 1, none⟩)) rfl (by kernel_rfl) (by kernel_rfl) (by kernel_rfl) (fun _ _ _ h => h) (Or.inl ⟨by kernel_rfl, fun W hW => by go_simp⟩) (by assumption) ?_
      try simp only [Act.put, List.getElem_toArray, List.getElem_cons_zero, List.getElem_cons_succ, List.setIfInBounds_toArray, List.set_cons_zero, List.set_cons_succ]
      refine wpAnyH_take (i := 10) (v := .int .i64 pg) rfl (by kernel_rfl) (by kernel_rfl) (by kernel_rfl) (fun _ _ _ h => h) (Or.inl ⟨by kernel_rfl, fun W hW => by (obtain ⟨hW0, hW1⟩ := hW; go_simp)⟩) (by assumption) ?_
      try simp only [Act.put, List.getElem_toArray, List.getElem_cons_zero, List.getElem_cons_succ, List.setIfInBounds_toArray, List.set_cons_zero, List.set_cons_succ]
      refine wpAnyH_take (i := 11) (v := .agg #[.string ⟨wd.toArray⟩, .int .i64 pg]) rfl (by kernel_rfl) (by kernel_rfl) (by kernel_rfl) (fun _ _ _ h => h) (Or.inl ⟨by kernel_rfl, fun W hW => by kernel_rfl⟩) (by assumption) ?_
      try simp only [Act.put, List.getElem_toArray, List.getElem_cons_zero, List.getElem_cons_succ, List.setIfInBounds_toArray, List.set_cons_zero, List.set_cons_succ]
      refine wpAnyH_ready (rs := [12]) (by kernel_rfl) (by simp) ?_
      refine AllReadyH.cons rfl (fun K hK => ?_) AllReadyH.nil
      go_simp
      have hbn := below_new wd' (.cells #[.string ⟨wd.toArray⟩, .int .i64 pg] 71)
      refine hK.out _ _ ⟨(hbn.cell (p := ⟨b, off + k * 2, none⟩) HBr.out).trans hS1.1, (hbn.cell (p := ⟨b, off + k * 2 + 1, none⟩) HBr.out).trans hS1.2⟩ (fun _ => ?_)
      clear K hK
      try simp only [Act.put, List.getElem_toArray, List.getElem_cons_zero, List.getElem_cons_succ, List.setIfInBounds_toArray, List.set_cons_zero, List.set_cons_succ]
      refine wpAnyH_ready (rs := [13]) (by kernel_rfl) (by simp) ?_
      refine AllReadyH.cons rfl (fun K hK => ?_) AllReadyH.nil
      try rw [if_pos (by rfl)]
      refine op_append1 (.tmp 12) (.tmp 24) 30 rfl w.heap.size 71 i0 (.agg #[.string ⟨#[]⟩, .int .i64 0]) 2 24 Tryz.underlying30 Hi.out Hz0.out Hz1.out Hz2.out rfl (by decide) _ _ _ HOW.out rfl [.string ⟨wd.toArray⟩, .int .i64 pg] rfl rfl rfl (by simp [Value.oneCell']) Hnm.out Hn24.out HBd.out.size ?_
      intro v2 w2 own2 g2 at2
      obtain ⟨p2, cap2, hv2, _⟩ := own2.form (Nat.succ_pos _)
      subst hv2
      have HB9 := Lib.hid (HBd.out.grown g2 HBd.out.size (fun q e => (World.ownsRow.lt HOW.out q e).1))
      refine hK.out _ _ ⟨(HB9.out.cell (p := ⟨b, off + k * 2, none⟩) Hbw.out).trans Hw0.out, (HB9.out.cell (p := ⟨b, off + k * 2 + 1, none⟩) Hbw.out).trans Hw1.out⟩ (fun _ => ?_)
      clear K hK
      try simp only [Act.put, List.getElem_toArray, List.getElem_cons_zero, List.getElem_cons_succ, List.setIfInBounds_toArray, List.set_cons_zero, List.set_cons_succ]
      refine wpAnyH_take (i := 14) (v := .slice (some ⟨p2, 0, none⟩) (L.length + 1) cap2) rfl (by kernel_rfl) (by kernel_rfl) (by kernel_rfl) (fun _ _ _ h => h) (Or.inl ⟨by kernel_rfl, fun W hW => by kernel_rfl⟩) (by assumption) ?_
      try simp only [Act.put, List.getElem_toArray, List.getElem_cons_zero, List.getElem_cons_succ, List.setIfInBounds_toArray, List.set_cons_zero, List.set_cons_succ]
      refine wpAnyH_done (by kernel_rfl) ?_ _
      clear hS1 hbn
      go_wp2_with fail
      go_roundw
      case rel =>
        refine ⟨k1, by have := Hlt.out; have := Hk1.out; omega, by first | rfl | rw [Hwk.out], ?_, HB9.out⟩
        rw [Hk1.out, Hsn.out]
        exact ⟨_, by rw [List.length_append]; exact own2, RepRow.snoc (R := REn) (x := (wd, pg)) (vs := [.string ⟨wd.toArray⟩, .int .i64 pg]) rfl Hrep.out⟩
      case measure => have := Hlt.out; have := Hk1.out; (try rw [Hwk.out]); simp [intOf]; omega
    · have he : k = l.length := by omega
      subst he
      rw [List.take_length] at hO
      have HO := Lib.hid hO; have Hb := Lib.hid hb
      clear hlt hk hO hb
      go_wp2_with fail
      go_ret
      exact ⟨_, rfl, HO.out, Hb.out⟩
set_option maxRecDepth 100000 in
set_option maxHeartbeats 3200000 in
theorem lawIxTel_walk (p : Option Addr) (cap : Nat) (lp : List Int) (q : Option Addr) (cq : Nat) (l : List Ix.En) (w : World) (hH : Laid10 w ∧ (lp.length ≤ cap ∧ cap ≤ maxLen) ∧ l.length ≤ maxLen) (hP : OSl 1 RInt w p lp) (hE : OSl 2 IEn w q l) :
    Calls Tryz.prog 3 #[.slice p lp.length cap, .slice q l.length cq] w fun e w' => e = .returned (.bool true) ∧ Below w.heap.size w w' := by
  have HL := Lib.hid hH.1
  have Hc := Lib.hid (law19_cut q cq l w hE hH.2.2)
  have hp9 := OSl.pre hP 40
  obtain ⟨P, hPe⟩ : ∃ P, P = lp.take 40 := ⟨_, rfl⟩
  have hmin : min (lp.length : Int) 40 = (P.length : Int) := by rw [hPe, List.length_take]; omega
  have hPc : (P.length : Int) ≤ (cap : Int) := by rw [hPe, List.length_take]; have := hH.2.1.1; omega
  have hP40 : P.length ≤ 40 := by rw [hPe, List.length_take]; omega
  have hpc0 : cap ≤ maxLen := hH.2.1.2
  rw [← hPe] at hp9
  have Hp := Lib.hid hp9; have HP40 := Lib.hid hP40
  clear hH hE hP hp9 hP40 hPe hpc0
  go_enter Tryz.func3, Tryz.ntmps3
  go_wp2_with fail
  refine Hc.out.mono ?_
  rintro e w1 ⟨va, rfl, hO, hb1⟩
  obtain ⟨L, hL⟩ : ∃ L, L = Ix.cutE l := ⟨_, rfl⟩
  have hLn : L.length ≤ 30 := by rw [hL]; exact Ix.cutE_len l
  have hLw : ∀ x ∈ L, x.1.length ≤ 60 := by rw [hL]; exact Ix.cutE_word l
  rw [← hL] at hO
  obtain ⟨pa, ca, rfl⟩ := hO.form
  have S1 := Lib.hid (hO.slice REn.size (fun _ => True) (fun _ _ => trivial))
  have HLn := Lib.hid hLn; have HLw := Lib.hid hLw; have B1 := Lib.hid hb1
  clear hLn hLw hb1 hO hL Hc hmin hPc
  go_wp2_with fail
  refine (ix_Lines L _ _ w1 S1.out (by have := HLn.out; omega) (fun x hx => by have := HLw.out x hx; omega) (HL.out.below B1.out).cnt).mono ?_
  rintro e w2 ⟨vl, vn, rfl, hLi, hNo, hb2⟩
  obtain ⟨pl, cl, rfl⟩ := hLi.form
  obtain ⟨pn, cn, rfl⟩ := hNo.form
  have S1' := Lib.hid (SliceIn.below2 S1.out hb2); clear S1; have S1 := S1'; clear S1'
  have S2 := Lib.hid (hLi.slice RStr.size (fun _ => True) (fun _ _ => trivial)); have S3 := Lib.hid (hNo.slice RNote.size (fun _ => True) (fun _ _ => trivial))
  have B2 := Lib.hid (bseq B1.out hb2); clear B1 hLi hNo hb2
  go_wp2_with fail
  refine (law19_refs L _ _ w2 S1.out (by have := HLn.out; omega)).mono ?_
  rintro e w3 ⟨vr, rfl, hRf, hb3⟩
  obtain ⟨pr, cr, rfl⟩ := hRf.form
  have S4 := Lib.hid (hRf.slice REn.size (fun _ => True) (fun _ _ => trivial))
  have B3 := Lib.hid (bseq B2.out hb3)
  have S2' := Lib.hid (SliceIn.below2 S2.out hb3); clear S2; have S2 := S2'; clear S2'
  have S3' := Lib.hid (SliceIn.below2 S3.out hb3); clear S3; have S3 := S3'; clear S3'
  clear hRf hb3 B2
  go_wp2_with fail
  refine (ref19_Lines L _ _ w3 S4.out (by have := HLn.out; omega) (fun x hx => by have := HLw.out x hx; omega)).mono ?_
  rintro e w4 ⟨vm, vo, rfl, hLm, hNm, hb4⟩
  obtain ⟨pm, cm, rfl⟩ := hLm.form
  obtain ⟨po, co, rfl⟩ := hNm.form
  have S5 := Lib.hid (hLm.slice RStr.size (fun _ => True) (fun _ _ => trivial)); have S6 := Lib.hid (hNm.slice RNote.size (fun _ => True) (fun _ _ => trivial))
  have B4 := Lib.hid (bseq B3.out hb4)
  have S2' := Lib.hid (SliceIn.below2 S2.out hb4); clear S2; have S2 := S2'; clear S2'
  have S3' := Lib.hid (SliceIn.below2 S3.out hb4); clear S3; have S3 := S3'; clear S3'
  clear hLm hNm hb4 B3 S1 S4
  go_wp2_with fail
  refine (ix_PagesO P _ _ w4 (OSl.below Hp.out B4.out (fun _ _ _ h => h)) (by have := HP40.out; omega) (HL.out.below B4.out).cnt).mono ?_
  rintro e w5 ⟨rfl, hb5⟩
  have B5 := Lib.hid (bseq B4.out hb5)
  have S2' := Lib.hid (SliceIn.below2 S2.out hb5); clear S2; have S2 := S2'; clear S2'
  have S3' := Lib.hid (SliceIn.below2 S3.out hb5); clear S3; have S3 := S3'; clear S3'
  have S5' := Lib.hid (SliceIn.below2 S5.out hb5); clear S5; have S5 := S5'; clear S5'
  have S6' := Lib.hid (SliceIn.below2 S6.out hb5); clear S6; have S6 := S6'; clear S6'
  clear hb5 B4
  go_wp2_with fail
  refine (ref19_PagesO P _ _ w5 (OSl.below Hp.out B5.out (fun _ _ _ h => h)) (by have := HP40.out; omega)).mono ?_
  rintro e w6 ⟨rfl, hb6⟩
  have B6 := Lib.hid (bseq B5.out hb6)
  have S2' := Lib.hid (SliceIn.below2 S2.out hb6); clear S2; have S2 := S2'; clear S2'
  have S3' := Lib.hid (SliceIn.below2 S3.out hb6); clear S3; have S3 := S3'; clear S3'
  have S5' := Lib.hid (SliceIn.below2 S5.out hb6); clear S5; have S5 := S5'; clear S5'
  have S6' := Lib.hid (SliceIn.below2 S6.out hb6); clear S6; have S6 := S6'; clear S6'
  clear hb6 B5
  obtain ⟨tx, htx⟩ : ∃ tx, tx = Ix.text P := ⟨_, rfl⟩
  rw [← htx]
  clear htx
  go_wp2_with fail
  refine (ref02_words (Ix.lines L) (Ix.lines L) _ _ _ _ w6 S2.out S5.out).mono ?_
  rw [decide_eq_true (Eq.refl (Ix.lines L))]
  rintro e w7 ⟨rfl, hb7⟩
  have B7 := Lib.hid (bseq B6.out hb7)
  have S3' := Lib.hid (SliceIn.below2 S3.out hb7); clear S3; have S3 := S3'; clear S3'
  have S6' := Lib.hid (SliceIn.below2 S6.out hb7); clear S6; have S6 := S6'; clear S6'
  clear hb7 B6
  go_wp2_with fail
  refine (ref08_notes (Ix.notes L) (Ix.notes L) _ _ _ _ w7 S3.out S6.out).mono ?_
  rw [decide_eq_true (Eq.refl (Ix.notes L))]
  rintro e w8 ⟨rfl, hb8⟩
  have B8 := Lib.hid (bseq B7.out hb8)
  clear hb8 B7
  go_wp2_with fail
  refine (law19_fixed w8 (HL.out.below B8.out)).mono ?_
  rintro e w9 ⟨rfl, hb9⟩
  have B9 := Lib.hid (bseq B8.out hb9); clear hb9
  go_wp2_with fail
  go_ret
  exact ⟨rfl, B9.out⟩
end Go.Proofs.YthoblbdkmlggbaaGreatDoor
