/- The walks of package name, last part (Short, Label), and label.authors. The walks of name.Label and label.letters. The walk of label.letters. The walk of label.Text. -/
import Derived.Test.YtanbcokkfbidbaaGreatDoorLbW1
import Derived.Test.YtanbcokkfbidbaaGreatDoorLbL
import Derived.StillTailTactics
set_option linter.unusedSimpArgs false
set_option linter.unusedVariables false
namespace Go.Proofs.YtanbcokkfbidbaaGreatDoor
section
open Go.RowKit
def RPer (p : Lb.Per) (vs : List Value) : Prop := vs = [.string ⟨p.first.toArray⟩, .string ⟨p.von.toArray⟩, .string ⟨p.last.toArray⟩, .string ⟨p.jr.toArray⟩]
theorem RPer.size (p : Lb.Per) (vs : List Value) (h : RPer p vs) : vs.length = 4 := by rw [h]; rfl
theorem per_info : (Tryz.prog.info? 83).map (fun i => (i.zero, i.size, i.bytes)) = some (some (.agg #[.string ⟨#[]⟩, .string ⟨#[]⟩, .string ⟨#[]⟩, .string ⟨#[]⟩]), 4, 64) := by kernel_rfl
set_option maxRecDepth 100000 in
set_option maxHeartbeats 1600000 in
theorem lb_authors (x : Ent.Ent) (vf : Value) (m : Int) (S : Nat → Prop) (w : World) (hF : SliceIn S 2 RFld w vf x.fields) (hB : Lb.EntB x) (hm : w.cell? ⟨0, 0, none⟩ = some (.int .i64 m)) (h0 : 0 < w.heap.size) :
    Calls Tryz.prog 35 #[.agg #[.string ⟨x.kind.toArray⟩, .string ⟨x.key.toArray⟩, vf]] w fun e w' => (∃ v, e = .returned v ∧ SliceIn (fun j => w.heap.size ≤ j) 4 RPer w' v (Lb.authors x)) ∧ Below w.heap.size w w' := by
  obtain ⟨i0, hi, hz0, hz1, hz2⟩ := info_parts per_info
  have Hi := Lib.hid hi; have Hz0 := Lib.hid hz0; have Hz1 := Lib.hid hz1; have Hz2 := Lib.hid hz2; clear hi hz0 hz1 hz2
  have hb0 := below_new w (.cells #[.string ⟨x.kind.toArray⟩, .string ⟨x.key.toArray⟩, vf] 27)
  have hE := E3.new w 27 (.string ⟨x.kind.toArray⟩) (.string ⟨x.key.toArray⟩) vf
  have c0 := hE.c0; have c1 := hE.c1; have c2 := hE.c2
  have HF := Lib.hid (SliceIn.below' hF hb0); have Hb0 := Lib.hid hb0
  have hfl := hB.field Lb.authorW
  obtain ⟨s, hs⟩ : ∃ s, Lb.field x Lb.authorW = s := ⟨_, rfl⟩
  have ha : Lb.authors x = (Lb.split s).map Lb.parse := by unfold Lb.authors; rw [hs]
  rw [hs] at hfl
  have ht := Lb.tot_split s
  have hll := Lb.len_tot (Lb.split s)
  obtain ⟨L, hL⟩ : ∃ L, Lb.split s = L := ⟨_, rfl⟩
  have hmem : ∀ y ∈ L, y.length ≤ 500000 := fun y hy => by rw [← hL] at hy; have := Lb.mem_tot _ y hy; omega
  rw [hL] at ht hll ha
  have hL401 : L.length ≤ 401 := by omega
  have Hs := Lib.hid hs; have Ha := Lib.hid ha; have HL := Lib.hid hL; have Hmem := Lib.hid hmem; have Hfl := Lib.hid hfl; have Hm := Lib.hid hm; have H0 := Lib.hid h0; have H401 := Lib.hid hL401
  clear hF hE hb0 hs ha hL hmem ht hll hfl hm h0 hB
  go_enter Tryz.func35, Tryz.ntmps35
  go_wp2_with (first
    | (go_at_call 37; refine (lb_field x vf Lb.authorW S _ HF.out).mono ?_; rw [Hs.out]; rintro e w1 ⟨rfl, hb1⟩; have Hb1 := Lib.hid (bseq Hb0.out hb1); clear hb1)
    | (go_at_call 54; refine (nm_Split s _ (by have := Hfl.out; omega)).mono ?_; rw [HL.out]; rintro e w3 ⟨⟨v3, rfl, hS3⟩, hb3⟩; have HS3 := Lib.hid hS3.strong; have Hb3 := Lib.hid (bseq Hb1.out hb3); have HSZ3 := Lib.hid (Nat.le_trans Hb1.out.size hb3.size); obtain ⟨q3, cp3, hv3, _⟩ := hS3; subst hv3; clear hb3))
  clear c0 c1 c2 hL401
  go_loopw [3, 10] (fun ov iv wr => ∃ (k : Nat), k ≤ L.length ∧ iv = .int .i64 (k : Int) ∧ OwnL w3.heap.size 83 4 RPer wr ov ((L.take k).map Lb.parse) ∧ Below w3.heap.size w3 wr) (fun _ iv _ => L.length - (intOf iv).toNat)
  case atStart => exact ⟨0, Nat.zero_le _, rfl, OwnL.nil _ _ _ _ _, Below.refl _ _⟩
  case round =>
    obtain ⟨k, hk, rfl, hO, hb⟩ := hrel
    have Hb := Lib.hid hb
    by_cases hlt : k < L.length
    · obtain ⟨y, hy⟩ : ∃ y, L[k]? = some y := ⟨_, List.getElem?_eq_getElem hlt⟩
      have hS4 := SliceIn.below' HS3.out (Below.mono hb (Nat.le_refl _))
      obtain ⟨b, off, hq, e0⟩ : ∃ b off, q3 = some ⟨b, off, none⟩ ∧ wr.cell? ⟨b, off + k, none⟩ = some (.string ⟨y.toArray⟩) := by
        obtain ⟨pa, ca, hv, _, _, hat⟩ := hS4
        obtain ⟨b, off, vs, rfl, _, _, hR, hc⟩ := hat k y hy
        have hR : vs = _ := hR
        subst hR
        simp only [Value.slice.injEq] at hv
        have h0 := hc 0 _ rfl
        rw [Nat.mul_one, Nat.add_zero] at h0
        exact ⟨b, off, hv.1, h0⟩
      subst hq
      have hlt' : (k : Int) < (L.length : Int) := by omega
      have hyl := Hmem.out y (List.mem_of_getElem? hy)
      obtain ⟨k1, hk1⟩ : ∃ k1, k1 = k + 1 := ⟨_, rfl⟩
      have hwk : IntKind.i64.wrap ((k : Int) + 1) = (k1 : Int) := by rw [IntWalk.i64_in _ (by have := H401.out; omega)]; omega
      have hsn : (L.take k1).map Lb.parse = (L.take k).map Lb.parse ++ [Lb.parse y] := by rw [hk1, List.take_add_one, hy]; simp
      have hml : ((L.take k).map Lb.parse).length = k := by rw [List.length_map, List.length_take]; omega
      obtain ⟨fl, hown, hrep⟩ := hO
      have Hsn := Lib.hid hsn; have Hlt := Lib.hid hlt; have Hk1 := Lib.hid hk1; have Hyl := Lib.hid hyl; have Hown := Lib.hid hown; have Hrep := Lib.hid hrep; have Hml := Lib.hid hml
      have Hmr := Lib.hid (show wr.cell? ⟨0, 0, none⟩ = some (.int .i64 m) by
        have h1 : 0 < w3.heap.size := Nat.lt_of_lt_of_le H0.out Hb3.out.size
        rw [hb.cell (p := ⟨0, 0, none⟩) h1, Hb3.out.cell (p := ⟨0, 0, none⟩) H0.out]; exact Hm.out)
      have H0r := Lib.hid (show 0 < wr.heap.size from Nat.lt_of_lt_of_le (Nat.lt_of_lt_of_le H0.out Hb3.out.size) hb.size)
      clear hown hrep hsn hlt hk1 hyl hml hS4 hy hb hk
      go_wp2_with (first
        | (go_at_call 55; refine (nm_Parse y m _ Hyl.out Hmr.out H0r.out).mono ?_; unfold perV; rintro e w5 ⟨rfl, hb5⟩; have Hown5 := Lib.hid (own_below Hown.out hb5); have Hb5 := Lib.hid (Hb.out.trans (hb5.mono Hb.out.size)); have HSZ5 := Lib.hid Hb5.out.size; have Hnm := Lib.hid (show ((L.take k).map Lb.parse).length + 1 ≤ 9223372036854775807 by have := Hml.out; have := Hlt.out; have := H401.out; omega); have Hn47 := Lib.hid (show (((L.take k).map Lb.parse).length + 1) * 64 ≤ 140737488355328 by have := Hml.out; have := Hlt.out; have := H401.out; omega); clear hb5)
        | (at_builtin; go_loud (refine wpList_append1 rfl (.tmp 14) (.tmp 17) 79 rfl w3.heap.size 83 i0 (.agg #[.string ⟨#[]⟩, .string ⟨#[]⟩, .string ⟨#[]⟩, .string ⟨#[]⟩]) 4 64 Tryz.underlying79 Hi.out Hz0.out Hz1.out Hz2.out (by rfl) (by decide) _ _ _ Hown5.out rfl [.string ⟨(Lb.parse y).first.toArray⟩, .string ⟨(Lb.parse y).von.toArray⟩, .string ⟨(Lb.parse y).last.toArray⟩, .string ⟨(Lb.parse y).jr.toArray⟩] rfl (by simp) rfl (by simp [Value.oneCell']) Hnm.out Hn47.out HSZ5.out ?_); intro v2 w2 own2 g2 at2))
      go_roundw
      case rel => exact ⟨k1, by have := Hlt.out; have := Hk1.out; omega, rfl, by rw [Hsn.out]; exact OwnL.more Hrep.out rfl own2, Hb5.out.grown g2 Hb5.out.size (fun q e => (Hown5.out.lt q e).1)⟩
      case measure => have := Hlt.out; have := Hk1.out; simp [intOf]; omega
    · have hlt' : ¬ (k : Int) < (L.length : Int) := by omega
      have htk : L.take k = L := List.take_of_length_le (by omega)
      rw [htk] at hO
      have HO := Lib.hid hO
      clear hlt hk hO htk hb
      go_wp2_with fail
      go_ret
      refine ⟨⟨_, rfl, ?_⟩, Hb3.out.trans (Hb.out.mono Hb3.out.size)⟩
      rw [Ha.out]
      exact HO.out.slice RPer.size _ (fun b hb => Nat.le_trans Hb3.out.size hb)
set_option maxRecDepth 100000 in
set_option maxHeartbeats 1600000 in
theorem nm_Short (p : Lb.Per) (w : World) (hp : Lb.PerLe 402 p) :
    Calls Tryz.prog 44 #[.agg #[.string ⟨p.first.toArray⟩, .string ⟨p.von.toArray⟩, .string ⟨p.last.toArray⟩, .string ⟨p.jr.toArray⟩]] w fun e w' => e = .returned (.string ⟨(Lb.short p).toArray⟩) ∧ Below w.heap.size w w' := by
  obtain ⟨i0, hi, hz0, hz1, hz2⟩ := info_parts str_info
  have Hi := Lib.hid hi; have Hz0 := Lib.hid hz0; have Hz1 := Lib.hid hz1; have Hz2 := Lib.hid hz2; clear hi hz0 hz1 hz2
  obtain ⟨g0, hg0⟩ : ∃ g0, w.heap.size = g0 := ⟨_, rfl⟩
  have hP := P4.new w 83 (.string ⟨p.first.toArray⟩) (.string ⟨p.von.toArray⟩) (.string ⟨p.last.toArray⟩) (.string ⟨p.jr.toArray⟩)
  have c0 := hP.c0
  have hb0 := below_new w (.cells #[.string ⟨p.first.toArray⟩, .string ⟨p.von.toArray⟩, .string ⟨p.last.toArray⟩, .string ⟨p.jr.toArray⟩] 83)
  have htw := Lb.tot_words p.first
  have hlw := Lb.len_tot (Lb.words p.first)
  have hne := Lb.words_ne p.first
  have hf := hp.first; have hv := hp.von; have hla := hp.last; have hj := hp.jr
  have htm : Lb.tot ((Lb.words p.first).map fun w => w.take 1 ++ [46]) ≤ 2000000 := by have := Lb.tot_short (Lb.words p.first); omega
  have htw4 : Lb.tot [Lb.join ((Lb.words p.first).map fun w => w.take 1 ++ [46]), p.von, p.last, p.jr] ≤ 2000000 := by
    have := Lb.join_le ((Lb.words p.first).map fun w => w.take 1 ++ [46]); have := Lb.tot_short (Lb.words p.first)
    rw [Lb.tot_cons, Lb.tot_cons, Lb.tot_cons, Lb.tot_cons, Lb.tot_nil]; omega
  have hsh : Lb.short p = Lb.whole [Lb.join ((Lb.words p.first).map fun w => w.take 1 ++ [46]), p.von, p.last, p.jr] := rfl
  obtain ⟨L, hL⟩ : ∃ L, Lb.words p.first = L := ⟨_, rfl⟩
  rw [hL] at htw hlw hne htm htw4 hsh
  have hL402 : L.length ≤ 403 := by omega
  have Htm := Lib.hid htm; have Htw4 := Lib.hid htw4; have Hsh := Lib.hid hsh; have HL := Lib.hid hL; have Hne := Lib.hid hne; have HP := Lib.hid hP; have Hb0 := Lib.hid hb0; have H402 := Lib.hid hL402; have Hf := Lib.hid hf
  clear htm htw4 hsh hL hne hP hb0 hp htw hlw hf hv hla hj hL402
  go_enter Tryz.func44, Tryz.ntmps44
  go_wp2_with (go_at_call 57; refine (nm_Words p.first _ (by have := Hf.out; omega)).mono ?_; rw [HL.out]; rintro e w1 ⟨⟨g, cap, rfl, hcp, hS1⟩, hb1⟩; have HP1 := Lib.hid (HP.out.below' hb1); have HS1 := Lib.hid hS1.strong; have Hb1 := Lib.hid (bseq Hb0.out hb1); clear hS1 hb1)
  clear c0 hcp
  rw [hg0] at HP1
  have Hg0 := Lib.hid (show g0 < w1.heap.size from HP1.out.lt)
  go_loopw [3, 10] (fun ov iv wr => ∃ (k : Nat), k ≤ L.length ∧ iv = .int .i64 (k : Int) ∧ OwnL w1.heap.size 9 1 RStr wr ov ((L.take k).map fun w => w.take 1 ++ [46]) ∧ Below w1.heap.size w1 wr) (fun _ iv _ => L.length - (intOf iv).toNat)
  case atStart => exact ⟨0, Nat.zero_le _, rfl, OwnL.nil _ _ _ _ _, Below.refl _ _⟩
  case round =>
    obtain ⟨k, hk, rfl, hO, hb⟩ := hrel
    have Hb := Lib.hid hb
    by_cases hlt : k < L.length
    · obtain ⟨y, hy⟩ : ∃ y, L[k]? = some y := ⟨_, List.getElem?_eq_getElem hlt⟩
      have e0 := (SliceIn.below' HS1.out hb).cellS hy
      rw [Nat.zero_add] at e0
      have hyp : 0 < y.length := List.length_pos_iff.2 (Hne.out y (List.mem_of_getElem? hy))
      have hy1 : (1 : Int) ≤ (y.length : Int) := by omega
      have hex : (⟨y.toArray⟩ : ByteArray).extract 0 1 = ⟨(y.take 1).toArray⟩ := extract_any y 0 1
      have hap : (⟨(y.take 1).toArray⟩ : ByteArray) ++ ⟨#[46]⟩ = ⟨(y.take 1 ++ [46]).toArray⟩ := append_data (y.take 1) [46]
      have hlt' : (k : Int) < (L.length : Int) := by omega
      obtain ⟨k1, hk1⟩ : ∃ k1, k1 = k + 1 := ⟨_, rfl⟩
      have hwk : IntKind.i64.wrap ((k : Int) + 1) = (k1 : Int) := by rw [IntWalk.i64_in _ (by have := H402.out; omega)]; omega
      have hsn : ((L.take k1).map fun w => w.take 1 ++ [46]) = ((L.take k).map fun w => w.take 1 ++ [46]) ++ [y.take 1 ++ [46]] := by rw [hk1, List.take_add_one, hy]; simp
      have hml : ((L.take k).map fun w => w.take 1 ++ [46]).length = k := by rw [List.length_map, List.length_take]; omega
      have hnm : ((L.take k).map fun w => w.take 1 ++ [46]).length + 1 ≤ 9223372036854775807 := by have := H402.out; omega
      have hn47 : (((L.take k).map fun w => w.take 1 ++ [46]).length + 1) * 16 ≤ 140737488355328 := by have := H402.out; omega
      obtain ⟨d, hd⟩ : ∃ d, y.take 1 ++ [46] = d := ⟨_, rfl⟩
      obtain ⟨d1, hd1⟩ : ∃ d1, y.take 1 = d1 := ⟨_, rfl⟩
      have hdl : d1.length ≤ 1 := by rw [← hd1, List.length_take]; omega
      rw [hd] at hsn hap
      rw [hd1] at hex hap
      obtain ⟨fl, hown, hrep⟩ := hO
      have Hsn := Lib.hid hsn; have Hlt := Lib.hid hlt; have Hk1 := Lib.hid hk1; have Hown := Lib.hid hown; have Hrep := Lib.hid hrep; have Hnm := Lib.hid hnm; have Hn47 := Lib.hid hn47; have HSZ := Lib.hid hb.size
      clear hown hrep hsn hlt hk1 hml hnm hn47 hy hb hk hd hd1 hyp
      go_wp2_with (at_builtin; go_loud (refine wpList_append1 rfl (.tmp 14) (.tmp 18) 35 rfl w1.heap.size 9 i0 (.string ⟨#[]⟩) 1 16 Tryz.underlying35 Hi.out Hz0.out Hz1.out Hz2.out (by rfl) (by decide) _ _ _ Hown.out rfl [.string ⟨d.toArray⟩] rfl (by simp) rfl (by simp [Value.oneCell']) Hnm.out Hn47.out HSZ.out ?_); intro v2 w2 own2 g2 at2)
      go_roundw
      case rel => exact ⟨k1, by have := Hlt.out; have := Hk1.out; omega, rfl, by rw [Hsn.out]; exact OwnL.more Hrep.out rfl own2, Hb.out.grown g2 Hb.out.size (fun q e => (Hown.out.lt q e).1)⟩
      case measure => have := Hlt.out; have := Hk1.out; simp [intOf]; omega
    · have hlt' : ¬ (k : Int) < (L.length : Int) := by omega
      have htk : L.take k = L := List.take_of_length_le (by omega)
      rw [htk] at hO
      have HSo := Lib.hid (hO.slice RStr.size (fun j => w1.heap.size ≤ j) (fun _ h => h))
      obtain ⟨po, co, hpo⟩ := hO.form
      subst hpo
      rw [List.length_map]
      rw [List.length_map] at HSo
      have HP9 := Lib.hid (HP1.out.below hb Hg0.out)
      have HBr := Lib.hid (Hb1.out.trans (hb.mono Hb1.out.size))
      clear hlt hk hO htk hb Hb
      go_upto_region 7 with fail
      refine wp_region_any (by kernel_rfl) ?_
      change wpAny _ _ _ _ _ _ _ (World.drew _)
      have HPd := Lib.hid HP9.out.drew; have HSd := Lib.hid (HSo.out.below' (Below.refl _ _).drew); have HBd := Lib.hid HBr.out.drew
      clear HP9 HSo HBr
      generalize wr.drew = wd at *
      have hS0 := Below.refl wd.heap.size wd
      refine wpAny_of_held (S := fun W => Below wd.heap.size wd W) _ _ _ _ ?_
      refine wpAnyH_take (i := 0) (v := .slice po L.length co) rfl (by kernel_rfl) (by kernel_rfl) (by kernel_rfl) (fun _ _ _ h => h) (Or.inl ⟨by kernel_rfl, fun W hW => by kernel_rfl⟩) (by assumption) ?_
      try simp only [Act.put, List.getElem_toArray, List.getElem_cons_zero, List.getElem_cons_succ, List.setIfInBounds_toArray, List.set_cons_zero, List.set_cons_succ]
      refine wpAnyH_take (i := 2) (v := .pointer (some ⟨g0, 1, none⟩)) rfl (by kernel_rfl) (by kernel_rfl) (by kernel_rfl) (fun _ _ _ h => h) (Or.inl ⟨by kernel_rfl, fun W hW => by kernel_rfl⟩) (by assumption) ?_
      try simp only [Act.put, List.getElem_toArray, List.getElem_cons_zero, List.getElem_cons_succ, List.setIfInBounds_toArray, List.set_cons_zero, List.set_cons_succ]
      refine wpAnyH_take (i := 3) (v := .string ⟨p.von.toArray⟩) rfl (by kernel_rfl) (by kernel_rfl) (by kernel_rfl) (fun _ _ _ h => h) (Or.inl ⟨by kernel_rfl, fun W hW => by (have q := HPd.out.below' hW; have c1 := q.c1; go_simp)⟩) (by assumption) ?_
      try simp only [Act.put, List.getElem_toArray, List.getElem_cons_zero, List.getElem_cons_succ, List.setIfInBounds_toArray, List.set_cons_zero, List.set_cons_succ]
      refine wpAnyH_take (i := 4) (v := .pointer (some ⟨g0, 2, none⟩)) rfl (by kernel_rfl) (by kernel_rfl) (by kernel_rfl) (fun _ _ _ h => h) (Or.inl ⟨by kernel_rfl, fun W hW => by kernel_rfl⟩) (by assumption) ?_
      try simp only [Act.put, List.getElem_toArray, List.getElem_cons_zero, List.getElem_cons_succ, List.setIfInBounds_toArray, List.set_cons_zero, List.set_cons_succ]
      refine wpAnyH_take (i := 5) (v := .string ⟨p.last.toArray⟩) rfl (by kernel_rfl) (by kernel_rfl) (by kernel_rfl) (fun _ _ _ h => h) (Or.inl ⟨by kernel_rfl, fun W hW => by (have q := HPd.out.below' hW; have c2 := q.c2; go_simp)⟩) (by assumption) ?_
      try simp only [Act.put, List.getElem_toArray, List.getElem_cons_zero, List.getElem_cons_succ, List.setIfInBounds_toArray, List.set_cons_zero, List.set_cons_succ]
      refine wpAnyH_take (i := 6) (v := .pointer (some ⟨g0, 3, none⟩)) rfl (by kernel_rfl) (by kernel_rfl) (by kernel_rfl) (fun _ _ _ h => h) (Or.inl ⟨by kernel_rfl, fun W hW => by kernel_rfl⟩) (by assumption) ?_
      try simp only [Act.put, List.getElem_toArray, List.getElem_cons_zero, List.getElem_cons_succ, List.setIfInBounds_toArray, List.set_cons_zero, List.set_cons_succ]
      refine wpAnyH_take (i := 7) (v := .string ⟨p.jr.toArray⟩) rfl (by kernel_rfl) (by kernel_rfl) (by kernel_rfl) (fun _ _ _ h => h) (Or.inl ⟨by kernel_rfl, fun W hW => by (have q := HPd.out.below' hW; have c3 := q.c3; go_simp)⟩) (by assumption) ?_
      try simp only [Act.put, List.getElem_toArray, List.getElem_cons_zero, List.getElem_cons_succ, List.setIfInBounds_toArray, List.set_cons_zero, List.set_cons_succ]
      refine wpAnyH_ready (rs := [1]) (by kernel_rfl) (by simp) ?_
      refine AllReadyH.cons rfl (fun K hK => ?_) AllReadyH.nil
      go_simp
      go_wp2_with (go_at_call 56; go_loud (refine (nm_join _ _ _ _ HSd.out Htm.out).mono ?_); rintro e w5 ⟨rfl, hb5⟩; have Hb5 := Lib.hid hb5; clear hb5)
      refine hK.out _ _ (Hb5.out) (fun _ => ?_)
      clear K hK
      try simp only [Act.put, List.getElem_toArray, List.getElem_cons_zero, List.getElem_cons_succ, List.setIfInBounds_toArray, List.set_cons_zero, List.set_cons_succ]
      refine wpAnyH_ready (rs := [8]) (by kernel_rfl) (by simp) ?_
      refine AllReadyH.cons rfl (fun K hK => ?_) AllReadyH.nil
      go_simp
      obtain ⟨w6, hw6⟩ : ∃ W, W = w5.alloc (.cells #[.string ⟨(Lb.join (L.map fun w => w.take 1 ++ [46])).toArray⟩, .string ⟨p.von.toArray⟩, .string ⟨p.last.toArray⟩, .string ⟨p.jr.toArray⟩] 9) := ⟨_, rfl⟩
      rw [← hw6]
      have hO6 : OwnL w5.heap.size 9 1 RStr w6 (.slice (some ⟨w5.heap.size, 0, none⟩) 4 4) [Lb.join (L.map fun w => w.take 1 ++ [46]), p.von, p.last, p.jr] := by
        rw [hw6]
        exact ⟨[.string ⟨(Lb.join (L.map fun w => w.take 1 ++ [46])).toArray⟩, .string ⟨p.von.toArray⟩, .string ⟨p.last.toArray⟩, .string ⟨p.jr.toArray⟩], own_built w5 w5.heap.size 9 1 4 [.string ⟨(Lb.join (L.map fun w => w.take 1 ++ [46])).toArray⟩, .string ⟨p.von.toArray⟩, .string ⟨p.last.toArray⟩, .string ⟨p.jr.toArray⟩] (Nat.le_refl _) rfl (by unfold maxLen; omega), strs_rep _⟩
      have Hb6 := Lib.hid (show Below w5.heap.size w5 w6 by rw [hw6]; exact below_new _ _)
      have HO6 := Lib.hid hO6; clear hO6 hw6
      refine hK.out _ _ (bseq Hb5.out Hb6.out) (fun _ => ?_)
      clear K hK
      try simp only [Act.put, List.getElem_toArray, List.getElem_cons_zero, List.getElem_cons_succ, List.setIfInBounds_toArray, List.set_cons_zero, List.set_cons_succ]
      refine wpAnyH_ready (rs := [9]) (by kernel_rfl) (by simp) ?_
      refine AllReadyH.cons rfl (fun K hK => ?_) AllReadyH.nil
      go_simp
      go_wp2_with (go_at_call 68; refine (nm_whole _ _ _ _ _ _ HO6.out rfl Htw4.out).mono ?_; rintro e w7 ⟨rfl, hb7⟩; have Hb7 := Lib.hid hb7; clear hb7)
      refine hK.out _ _ ((bseq Hb5.out Hb6.out).trans (Hb7.out.mono Hb5.out.size)) (fun _ => ?_)
      clear K hK
      try simp only [Act.put, List.getElem_toArray, List.getElem_cons_zero, List.getElem_cons_succ, List.setIfInBounds_toArray, List.set_cons_zero, List.set_cons_succ]
      refine wpAnyH_take (i := 10) (v := .string ⟨(Lb.short p).toArray⟩) rfl (by kernel_rfl) (by kernel_rfl) (by kernel_rfl) (fun _ _ _ h => h) (Or.inl ⟨by kernel_rfl, fun W hW => by (rw [Hsh.out]; kernel_rfl)⟩) (by assumption) ?_
      try simp only [Act.put, List.getElem_toArray, List.getElem_cons_zero, List.getElem_cons_succ, List.setIfInBounds_toArray, List.set_cons_zero, List.set_cons_succ]
      refine wpAnyH_done (by kernel_rfl) ?_ _
      go_wp2_with fail
      go_ret
      exact ⟨rfl, HBd.out.trans (((bseq Hb5.out Hb6.out).trans (Hb7.out.mono Hb5.out.size)).mono HBd.out.size)⟩
end
section
open Go.RowKit
def hd1 (l : List Lb.Per) : List UInt8 := (l.map fun p => p.last.take 1).flatten
theorem hd1_len : ∀ l : List Lb.Per, (hd1 l).length ≤ l.length
  | [] => Nat.le_refl _
  | p :: l => by
    have := hd1_len l
    unfold hd1 at this ⊢
    rw [List.map_cons, List.flatten_cons, List.length_append, List.length_take, List.length_cons]; omega
theorem plabel_one (p : Lb.Per) : Lb.plabel [p] = p.last.take 3 := rfl
theorem plabel_more (l : List Lb.Per) (h : 4 < l.length) : Lb.plabel l = hd1 (l.take 3) ++ [43] := by
  unfold Lb.plabel
  split
  · simp at h
  · rw [if_pos h]; rfl
theorem plabel_few (l : List Lb.Per) (h : ¬ 4 < l.length) (h1 : l.length ≠ 1) : Lb.plabel l = hd1 l := by
  unfold Lb.plabel
  split
  · simp at h1
  · rw [if_neg h]; rfl
set_option maxRecDepth 100000 in
set_option maxHeartbeats 1600000 in
theorem nm_PLabel (l : List Lb.Per) (v : Value) (S : Nat → Prop) (w : World) (hS : SliceIn S 4 RPer w v l) (hl : l.length ≤ 1000) :
    Calls Tryz.prog 46 #[v] w fun e w' => e = .returned (.string ⟨(Lb.plabel l).toArray⟩) ∧ Below w.heap.size w w' := by
  have hS0 := hS
  have hcap : ∃ p c, v = .slice p l.length c ∧ l.length ≤ c := by obtain ⟨p, c, e, h, _⟩ := hS; exact ⟨p, c, e, h⟩
  obtain ⟨p, cap, rfl, hlc⟩ := hcap
  by_cases h1 : l.length = 1
  · obtain ⟨y, rfl⟩ : ∃ y, l = [y] := List.length_eq_one_iff.1 h1
    obtain ⟨pa, ca, hv, _, _, hat⟩ := hS0
    obtain ⟨b', off', vs, rfl, _, _, hR, hc⟩ := hat 0 y rfl
    have hR : vs = _ := hR
    subst hR
    simp only [Value.slice.injEq] at hv
    obtain ⟨rfl, _, rfl⟩ := hv
    have e2 := hc 2 _ rfl
    rw [Nat.zero_mul, Nat.add_zero] at e2
    rw [plabel_one]
    clear hc hat hS h1 hlc hl
    go_enter Tryz.func46, Tryz.ntmps46
    go_wp2_with (go_at_call 72; refine (nm_head y.last 3 _ (by decide)).mono ?_; rintro e w9 ⟨rfl, hb9⟩; have Hb9 := Lib.hid hb9; clear hb9)
    go_ret
    exact ⟨rfl, Hb9.out⟩
  · have h1' : ((l.length : Int) == 1) = false := by rw [beq_eq_false_iff_ne]; omega
    by_cases h4 : 4 < l.length
    · have h4' : (4 : Int) < (l.length : Int) := by omega
      have hc3 : (3 : Int) ≤ (cap : Int) := by omega
      have hne : ∃ b off, p = some ⟨b, off, none⟩ := by
        obtain ⟨pa, ca, hv, _, _, hat⟩ := hS0
        obtain ⟨y, hy⟩ : ∃ y, l[0]? = some y := ⟨_, List.getElem?_eq_getElem (by omega)⟩
        obtain ⟨b', off', vs, rfl, _⟩ := hat 0 y hy
        simp only [Value.slice.injEq] at hv
        exact ⟨b', off', hv.1⟩
      obtain ⟨b, off, rfl⟩ := hne
      have HS := Lib.hid (hS.pre 3 (by omega))
      have hres := plabel_more l h4
      obtain ⟨Q, hQ⟩ : ∃ Q, l.take 3 = Q := ⟨_, rfl⟩
      have hQl : Q.length = 3 := by rw [← hQ, List.length_take]; omega
      rw [hQ] at HS hres
      have HQl := Lib.hid hQl; have Hres := Lib.hid hres; have Hn1000 := Lib.hid (show 3 ≤ 1000 by decide)
      clear hQ hQl hres hS hS0 h1 h4 hlc
      go_enter Tryz.func46, Tryz.ntmps46
      go_wp2_with fail
      go_loopw [3, 23] (fun sv iv wr => ∃ (k : Nat), k ≤ 3 ∧ iv = .int .i64 (k : Int) ∧ sv = .string ⟨(hd1 (Q.take k)).toArray⟩ ∧ Below w.heap.size w wr) (fun _ iv _ => 3 - (intOf iv).toNat)
      case atStart => exact ⟨0, Nat.zero_le _, rfl, rfl, Below.refl _ _⟩
      case round =>
        obtain ⟨k, hk, rfl, rfl, hb⟩ := hrel
        have Hb := Lib.hid hb
        by_cases hlt : k < 3
        · obtain ⟨y, hy⟩ : ∃ y, Q[k]? = some y := ⟨_, List.getElem?_eq_getElem (by rw [HQl.out]; exact hlt)⟩
          obtain ⟨pa, ca, hv, _, _, hat⟩ := SliceIn.below' HS.out hb
          obtain ⟨b', off', vs, rfl, _, _, hR, hc⟩ := hat k y hy
          have hR : vs = _ := hR
          subst hR
          simp only [Value.slice.injEq, Option.some.injEq, Addr.mk.injEq, and_true] at hv
          obtain ⟨⟨rfl, rfl⟩, hnn, rfl⟩ := hv
          clear hnn
          have e0 : wr.cell? ⟨b, off + k * 4, none⟩ = some (.string ⟨y.first.toArray⟩) := hc 0 _ rfl; have e1 : wr.cell? ⟨b, off + k * 4 + 1, none⟩ = some (.string ⟨y.von.toArray⟩) := hc 1 _ rfl; have e2 : wr.cell? ⟨b, off + k * 4 + 2, none⟩ = some (.string ⟨y.last.toArray⟩) := hc 2 _ rfl; have e3 : wr.cell? ⟨b, off + k * 4 + 3, none⟩ = some (.string ⟨y.jr.toArray⟩) := hc 3 _ rfl
          have hlt' : (k : Int) < (3 : Int) := by omega
          obtain ⟨k1, hk1⟩ : ∃ k1, k1 = k + 1 := ⟨_, rfl⟩
          have hwk : IntKind.i64.wrap ((k : Int) + 1) = (k1 : Int) := by rw [IntWalk.i64_in _ (by have := Hn1000.out; omega)]; omega
          have hst : hd1 (Q.take k1) = hd1 (Q.take k) ++ y.last.take 1 := by unfold hd1; rw [hk1, List.take_add_one, hy]; simp
          have hl1 : (hd1 (Q.take k)).length ≤ 1000 := Nat.le_trans (hd1_len _) (by have := Hn1000.out; rw [List.length_take]; omega)
          have hl2 : (y.last.take 1).length ≤ 1 := by rw [List.length_take]; omega
          obtain ⟨D, hD⟩ : ∃ D, hd1 (Q.take k) = D := ⟨_, rfl⟩
          obtain ⟨d1, hd1'⟩ : ∃ d1, y.last.take 1 = d1 := ⟨_, rfl⟩
          rw [hD, hd1'] at hst
          rw [hD] at hl1 ⊢
          rw [hd1'] at hl2
          have hap := append_data D d1
          have Hst := Lib.hid hst; have Hlt := Lib.hid hlt; have Hk1 := Lib.hid hk1; have Hd1 := Lib.hid hd1'
          clear hst hlt hk1 hd1' hD hc hat hy hb hk
          go_wp2_with (go_at_call 72; refine (nm_head y.last 1 _ (by decide)).mono ?_; rw [Hd1.out]; rintro e w9 ⟨rfl, hb9⟩; have Hb9 := Lib.hid hb9; clear hb9)
          go_roundw
          case rel => exact ⟨k1, by have := Hlt.out; have := Hk1.out; omega, rfl, by rw [Hst.out], bseq (Hb.out.alloc Hb.out.size _) (Hb9.out.mono (by simp))⟩
          case measure => have := Hlt.out; have := Hk1.out; simp [intOf]; omega
        · have hlt' : ¬ (k : Int) < (3 : Int) := by omega
          have htk : Q.take k = Q := List.take_of_length_le (by have := HQl.out; omega)
          rw [htk]
          clear hlt hk htk hb
          obtain ⟨D, hD⟩ : ∃ D, hd1 Q = D := ⟨_, rfl⟩
          have hl1 : D.length ≤ 1000 := by rw [← hD]; exact Nat.le_trans (hd1_len _) (by have := HQl.out; omega)
          have hap : (⟨D.toArray⟩ : ByteArray) ++ ⟨#[43]⟩ = ⟨(D ++ [43]).toArray⟩ := append_data D [43]
          rw [hD] at Hres ⊢
          clear hD
          go_wp2_with fail
          go_ret
          exact ⟨ret_str Hres.out.symm, Hb.out⟩
    · have h4' : ¬ (4 : Int) < (l.length : Int) := by omega
      have HS := Lib.hid hS
      obtain ⟨N, hN⟩ : ∃ N, l.length = N := ⟨_, rfl⟩
      obtain ⟨Q, hQ⟩ : ∃ Q, l = Q := ⟨_, rfl⟩
      have hres := plabel_few l h4 h1
      rw [hN] at h4' h1' HS hl ⊢
      rw [hQ] at hN HS hres ⊢
      have HQl := Lib.hid hN; have Hres := Lib.hid hres; have Hn1000 := Lib.hid hl
      clear hS hS0 h1 h4 hlc hres hN hQ hl
      go_enter Tryz.func46, Tryz.ntmps46
      go_wp2_with fail
      go_loopw [3, 23] (fun sv iv wr => ∃ (k : Nat), k ≤ N ∧ iv = .int .i64 (k : Int) ∧ sv = .string ⟨(hd1 (Q.take k)).toArray⟩ ∧ Below w.heap.size w wr) (fun _ iv _ => N - (intOf iv).toNat)
      case atStart => exact ⟨0, Nat.zero_le _, rfl, rfl, Below.refl _ _⟩
      case round =>
        obtain ⟨k, hk, rfl, rfl, hb⟩ := hrel
        have Hb := Lib.hid hb
        by_cases hlt : k < N
        · obtain ⟨y, hy⟩ : ∃ y, Q[k]? = some y := ⟨_, List.getElem?_eq_getElem (by rw [HQl.out]; exact hlt)⟩
          obtain ⟨pa, ca, hv, _, _, hat⟩ := SliceIn.below' HS.out hb
          obtain ⟨b', off', vs, rfl, _, _, hR, hc⟩ := hat k y hy
          have hR : vs = _ := hR
          subst hR
          simp only [Value.slice.injEq, Option.some.injEq, Addr.mk.injEq, and_true] at hv
          obtain ⟨rfl, hnn, rfl⟩ := hv
          clear hnn
          have e0 : wr.cell? ⟨b', off' + k * 4, none⟩ = some (.string ⟨y.first.toArray⟩) := hc 0 _ rfl; have e1 : wr.cell? ⟨b', off' + k * 4 + 1, none⟩ = some (.string ⟨y.von.toArray⟩) := hc 1 _ rfl; have e2 : wr.cell? ⟨b', off' + k * 4 + 2, none⟩ = some (.string ⟨y.last.toArray⟩) := hc 2 _ rfl; have e3 : wr.cell? ⟨b', off' + k * 4 + 3, none⟩ = some (.string ⟨y.jr.toArray⟩) := hc 3 _ rfl
          have hlt' : (k : Int) < (N : Int) := by omega
          obtain ⟨k1, hk1⟩ : ∃ k1, k1 = k + 1 := ⟨_, rfl⟩
          have hwk : IntKind.i64.wrap ((k : Int) + 1) = (k1 : Int) := by rw [IntWalk.i64_in _ (by have := Hn1000.out; omega)]; omega
          have hst : hd1 (Q.take k1) = hd1 (Q.take k) ++ y.last.take 1 := by unfold hd1; rw [hk1, List.take_add_one, hy]; simp
          have hl1 : (hd1 (Q.take k)).length ≤ 1000 := Nat.le_trans (hd1_len _) (by have := Hn1000.out; rw [List.length_take]; omega)
          have hl2 : (y.last.take 1).length ≤ 1 := by rw [List.length_take]; omega
          obtain ⟨D, hD⟩ : ∃ D, hd1 (Q.take k) = D := ⟨_, rfl⟩
          obtain ⟨d1, hd1'⟩ : ∃ d1, y.last.take 1 = d1 := ⟨_, rfl⟩
          rw [hD, hd1'] at hst
          rw [hD] at hl1 ⊢
          rw [hd1'] at hl2
          have hap := append_data D d1
          have Hst := Lib.hid hst; have Hlt := Lib.hid hlt; have Hk1 := Lib.hid hk1; have Hd1 := Lib.hid hd1'
          clear hst hlt hk1 hd1' hD hc hat hy hb hk
          go_wp2_with (go_at_call 72; refine (nm_head y.last 1 _ (by decide)).mono ?_; rw [Hd1.out]; rintro e w9 ⟨rfl, hb9⟩; have Hb9 := Lib.hid hb9; clear hb9)
          go_roundw
          case rel => exact ⟨k1, by have := Hlt.out; have := Hk1.out; omega, rfl, by rw [Hst.out], bseq (Hb.out.alloc Hb.out.size _) (Hb9.out.mono (by simp))⟩
          case measure => have := Hlt.out; have := Hk1.out; simp [intOf]; omega
        · have hlt' : ¬ (k : Int) < (N : Int) := by omega
          have htk : Q.take k = Q := List.take_of_length_le (by have := HQl.out; omega)
          rw [htk]
          clear hlt hk htk hb
          go_wp2_with fail
          go_ret
          exact ⟨ret_str Hres.out.symm, Hb.out⟩
end
section
open Go.RowKit
theorem keptM {m : Int} {w W : World} (hm : w.cell? ⟨0, 0, none⟩ = some (.int .i64 m)) (h0 : 0 < w.heap.size) (hb : Below w.heap.size w W) : W.cell? ⟨0, 0, none⟩ = some (.int .i64 m) ∧ 0 < W.heap.size :=
  ⟨(hb.cell (p := ⟨0, 0, none⟩) h0).trans hm, Nat.lt_of_lt_of_le h0 hb.size⟩
set_option maxRecDepth 100000 in
set_option maxHeartbeats 1600000 in
theorem lb_letters (x : Ent.Ent) (vf : Value) (m : Int) (S : Nat → Prop) (w : World) (hF : SliceIn S 2 RFld w vf x.fields) (hB : Lb.EntB x) (hm : w.cell? ⟨0, 0, none⟩ = some (.int .i64 m)) (h0 : 0 < w.heap.size) :
    Calls Tryz.prog 30 #[.agg #[.string ⟨x.kind.toArray⟩, .string ⟨x.key.toArray⟩, vf]] w fun e w' => e = .returned (.string ⟨(Lb.letters x).toArray⟩) ∧ Below w.heap.size w w' := by
  have hb0 := below_new w (.cells #[.string ⟨x.kind.toArray⟩, .string ⟨x.key.toArray⟩, vf] 27)
  have hE := E3.new w 27 (.string ⟨x.kind.toArray⟩) (.string ⟨x.key.toArray⟩) vf
  have c0 := hE.c0; have c1 := hE.c1; have c2 := hE.c2
  obtain ⟨g0, hg0⟩ : ∃ g0, w.heap.size = g0 := ⟨_, rfl⟩
  rw [hg0] at hE
  have HE := Lib.hid hE; have HF := Lib.hid (SliceIn.below' hF hb0); have Hb0 := Lib.hid hb0; have Hm := Lib.hid hm; have H0 := Lib.hid h0; have HB := Lib.hid hB
  have hyl := hB.field Lb.yearW
  have hal := hB.authors.1
  have hlt : Lb.letters x = Lb.plabel (Lb.authors x) ++ (Lb.field x Lb.yearW).drop ((Lb.field x Lb.yearW).length - 2) := rfl
  obtain ⟨Y, hY⟩ : ∃ Y, Lb.field x Lb.yearW = Y := ⟨_, rfl⟩
  rw [hY] at hyl hlt
  obtain ⟨q, hq⟩ : ∃ q, Y.length - 2 = q := ⟨_, rfl⟩
  rw [hq] at hlt
  have hpl := Lb.plabel_len (Lb.authors x)
  obtain ⟨P, hP⟩ : ∃ P, Lb.plabel (Lb.authors x) = P := ⟨_, rfl⟩
  rw [hP] at hlt hpl
  have hmax : max (0 : Int) ((Y.length : Int) - 2) = (q : Int) := by omega
  have hq1 : (q : Int) ≤ (Y.length : Int) := by omega
  have hws : IntKind.i64.wrap ((Y.length : Int) - 2) = (Y.length : Int) - 2 := IntWalk.i64_in _ (by omega)
  have hex : (⟨Y.toArray⟩ : ByteArray).extract q Y.length = ⟨(Y.drop q).toArray⟩ := extract_end Y q
  have hap : (⟨P.toArray⟩ : ByteArray) ++ ⟨(Y.drop q).toArray⟩ = ⟨(Lb.letters x).toArray⟩ := by rw [hlt]; exact append_data P (Y.drop q)
  have hdl : (Y.drop q).length ≤ 400 := by rw [List.length_drop]; omega
  have HY := Lib.hid hY; have HP := Lib.hid hP; have HAl := Lib.hid (show (Lb.authors x).length ≤ 1000 by omega)
  clear hE hb0 hF hm h0 hB hY hP hlt hq hal
  go_enter Tryz.func30, Tryz.ntmps30
  go_upto_region 2 with (go_at_call 37; refine (lb_field x vf Lb.yearW S _ HF.out).mono ?_; rw [HY.out]; rintro e w1 ⟨rfl, hb1⟩; have HE1 := Lib.hid (HE.out.below' hb1); have HF1 := Lib.hid (SliceIn.below' HF.out hb1); have Hb1 := Lib.hid (bseq Hb0.out hb1); clear hb1)
  clear c0 c1 c2
  refine wp_region_any (by kernel_rfl) ?_
  change wpAny _ _ _ _ _ _ _ (World.drew _)
  have HEd := Lib.hid HE1.out.drew; have HFd := Lib.hid (SliceIn.below' HF1.out (Below.refl _ _).drew); have HBd := Lib.hid Hb1.out.drew
  have hMd := keptM Hm.out H0.out HBd.out
  have HMd := Lib.hid hMd.1; have H0d := Lib.hid hMd.2
  clear HE1 HF1 Hb1 hMd
  generalize w1.drew = wd at *
  have hS0 := Below.refl wd.heap.size wd
  refine wpAny_of_held (S := fun W => Below wd.heap.size wd W) _ _ _ _ ?_
  refine wpAnyH_take (i := 0) (v := .agg #[.string ⟨x.kind.toArray⟩, .string ⟨x.key.toArray⟩, vf]) rfl (by kernel_rfl) (by kernel_rfl) (by kernel_rfl) (fun _ _ _ h => h) (Or.inl ⟨by kernel_rfl, fun W hW => by (obtain ⟨c0, c1, c2, _, _⟩ := HEd.out.below' hW; go_simp)⟩) (by assumption) ?_
  try simp only [Act.put, List.getElem_toArray, List.getElem_cons_zero, List.getElem_cons_succ, List.setIfInBounds_toArray, List.set_cons_zero, List.set_cons_succ]
  refine wpAnyH_take (i := 3) (v := .string ⟨Y.toArray⟩) rfl (by kernel_rfl) (by kernel_rfl) (by kernel_rfl) (fun _ _ _ h => h) (Or.inl ⟨by kernel_rfl, fun W hW => by kernel_rfl⟩) (by assumption) ?_
  try simp only [Act.put, List.getElem_toArray, List.getElem_cons_zero, List.getElem_cons_succ, List.setIfInBounds_toArray, List.set_cons_zero, List.set_cons_succ]
  refine wpAnyH_take (i := 4) (v := .string ⟨Y.toArray⟩) rfl (by kernel_rfl) (by kernel_rfl) (by kernel_rfl) (fun _ _ _ h => h) (Or.inl ⟨by kernel_rfl, fun W hW => by kernel_rfl⟩) (by assumption) ?_
  try simp only [Act.put, List.getElem_toArray, List.getElem_cons_zero, List.getElem_cons_succ, List.setIfInBounds_toArray, List.set_cons_zero, List.set_cons_succ]
  refine wpAnyH_take (i := 5) (v := .int .i64 (Y.length : Int)) rfl (by kernel_rfl) (by kernel_rfl) (by kernel_rfl) (fun _ _ _ h => h) (Or.inl ⟨by kernel_rfl, fun W hW => by go_simp⟩) (by assumption) ?_
  try simp only [Act.put, List.getElem_toArray, List.getElem_cons_zero, List.getElem_cons_succ, List.setIfInBounds_toArray, List.set_cons_zero, List.set_cons_succ]
  refine wpAnyH_take (i := 6) (v := .int .i64 ((Y.length : Int) - 2)) rfl (by kernel_rfl) (by kernel_rfl) (by kernel_rfl) (fun _ _ _ h => h) (Or.inl ⟨by kernel_rfl, fun W hW => by go_simp⟩) (by assumption) ?_
  try simp only [Act.put, List.getElem_toArray, List.getElem_cons_zero, List.getElem_cons_succ, List.setIfInBounds_toArray, List.set_cons_zero, List.set_cons_succ]
  refine wpAnyH_take (i := 7) (v := .int .i64 (q : Int)) rfl (by kernel_rfl) (by kernel_rfl) (by kernel_rfl) (fun _ _ _ h => h) (Or.inl ⟨by kernel_rfl, fun W hW => by go_simp⟩) (by assumption) ?_
  try simp only [Act.put, List.getElem_toArray, List.getElem_cons_zero, List.getElem_cons_succ, List.setIfInBounds_toArray, List.set_cons_zero, List.set_cons_succ]
  refine wpAnyH_take (i := 8) (v := .string ⟨(Y.drop q).toArray⟩) rfl (by kernel_rfl) (by kernel_rfl) (by kernel_rfl) (fun _ _ _ h => h) (Or.inl ⟨by kernel_rfl, fun W hW => by go_simp⟩) (by assumption) ?_
  try simp only [Act.put, List.getElem_toArray, List.getElem_cons_zero, List.getElem_cons_succ, List.setIfInBounds_toArray, List.set_cons_zero, List.set_cons_succ]
  refine wpAnyH_ready (rs := [1]) (by kernel_rfl) (by simp) ?_
  refine AllReadyH.cons rfl (fun K hK => ?_) AllReadyH.nil
  go_simp
  go_wp2_with (go_at_call 35; refine (lb_authors x vf m S _ HFd.out HB.out HMd.out H0d.out).mono ?_; rintro e w5 ⟨⟨va, rfl, hSa⟩, hb5⟩; have HSa := Lib.hid hSa; have Hb5 := Lib.hid hb5; clear hb5 hSa)
  refine hK.out _ _ (Hb5.out) (fun _ => ?_)
  clear K hK
  try simp only [Act.put, List.getElem_toArray, List.getElem_cons_zero, List.getElem_cons_succ, List.setIfInBounds_toArray, List.set_cons_zero, List.set_cons_succ]
  refine wpAnyH_ready (rs := [2]) (by kernel_rfl) (by simp) ?_
  refine AllReadyH.cons rfl (fun K hK => ?_) AllReadyH.nil
  go_simp
  go_wp2_with (go_at_call 46; refine (nm_PLabel _ _ _ _ HSa.out HAl.out).mono ?_; rw [HP.out]; rintro e w6 ⟨rfl, hb6⟩; have Hb6 := Lib.hid hb6; clear hb6)
  refine hK.out _ _ (bseq Hb5.out Hb6.out) (fun _ => ?_)
  clear K hK
  try simp only [Act.put, List.getElem_toArray, List.getElem_cons_zero, List.getElem_cons_succ, List.setIfInBounds_toArray, List.set_cons_zero, List.set_cons_succ]
  refine wpAnyH_take (i := 9) (v := .string ⟨(Lb.letters x).toArray⟩) rfl (by kernel_rfl) (by kernel_rfl) (by kernel_rfl) (fun _ _ _ h => h) (Or.inl ⟨by kernel_rfl, fun W hW => by (go_simp; omega)⟩) (by assumption) ?_
  try simp only [Act.put, List.getElem_toArray, List.getElem_cons_zero, List.getElem_cons_succ, List.setIfInBounds_toArray, List.set_cons_zero, List.set_cons_succ]
  refine wpAnyH_take (i := 10) (v := .string ⟨(Lb.letters x).toArray⟩) rfl (by kernel_rfl) (by kernel_rfl) (by kernel_rfl) (fun _ _ _ h => h) (Or.inl ⟨by kernel_rfl, fun W hW => by go_simp⟩) (by assumption) ?_
  try simp only [Act.put, List.getElem_toArray, List.getElem_cons_zero, List.getElem_cons_succ, List.setIfInBounds_toArray, List.set_cons_zero, List.set_cons_succ]
  refine wpAnyH_done (by kernel_rfl) ?_ _
  go_wp2_with fail
  go_ret
  exact ⟨rfl, HBd.out.trans ((bseq Hb5.out Hb6.out).mono HBd.out.size)⟩
end
section
open Go.RowKit
theorem dots_snoc (l : List (List UInt8)) (p : List UInt8) : Lb.dots (l ++ [p]) = if p = [] then Lb.dots l else if Lb.dots l = [] then p ++ [46] else Lb.dots l ++ [32] ++ (p ++ [46]) := by
  unfold Lb.dots Lb.full
  rw [List.filter_append]
  by_cases hp : p = []
  · subst hp; simp
  · have hpe : p.isEmpty = false := by cases p with | nil => exact absurd rfl hp | cons _ _ => rfl
    rw [if_neg hp, List.filter_cons, hpe]
    simp only [Bool.not_false, if_true, List.filter_nil, List.map_append, List.map_cons, List.map_nil]
    generalize l.filter (fun w => !w.isEmpty) = f
    unfold Lb.join
    cases f with
    | nil => simp [Lib.join_one, Lib.join_nil]
    | cons a r =>
      rw [List.map_cons, List.cons_append, Lib.join_cons, Lib.join_cons]
      rw [if_neg (by simp)]
      simp [Lib.joinTail]
theorem dots_len (l : List (List UInt8)) : (Lb.dots l).length ≤ 2 * Lb.tot l := by
  unfold Lb.dots
  refine Nat.le_trans (Lb.join_le _) ?_
  refine Nat.le_trans (m := 2 * Lb.tot (Lb.full l)) ?_ (Nat.mul_le_mul_left _ (Lb.tot_full l))
  generalize Lb.full l = f
  induction f with
  | nil => exact Nat.zero_le _
  | cons a r ih => rw [List.map_cons, Lb.tot_cons, Lb.tot_cons, List.length_append, List.length_singleton]; omega
set_option maxRecDepth 100000 in
set_option maxHeartbeats 3200000 in
theorem lb_Text (x : Ent.Ent) (vf : Value) (m : Int) (S : Nat → Prop) (w : World) (hF : SliceIn S 2 RFld w vf x.fields) (hB : Lb.EntB x) (hm : w.cell? ⟨0, 0, none⟩ = some (.int .i64 m)) (h0 : 0 < w.heap.size) :
    Calls Tryz.prog 28 #[.agg #[.string ⟨x.kind.toArray⟩, .string ⟨x.key.toArray⟩, vf]] w fun e w' => e = .returned (.string ⟨(Lb.textOf x).toArray⟩) ∧ Below w.heap.size w w' := by
  obtain ⟨i0, hi, hz0, hz1, hz2⟩ := info_parts str_info
  have Hi := Lib.hid hi; have Hz0 := Lib.hid hz0; have Hz1 := Lib.hid hz1; have Hz2 := Lib.hid hz2; clear hi hz0 hz1 hz2
  have hb0 := below_new w (.cells #[.string ⟨x.kind.toArray⟩, .string ⟨x.key.toArray⟩, vf] 27)
  have hE := E3.new w 27 (.string ⟨x.kind.toArray⟩) (.string ⟨x.key.toArray⟩) vf
  have c0 := hE.c0; have c1 := hE.c1; have c2 := hE.c2
  obtain ⟨g0, hg0⟩ : ∃ g0, w.heap.size = g0 := ⟨_, rfl⟩
  rw [hg0] at hE
  have hM := keptM hm h0 hb0
  have HE := Lib.hid hE; have HF := Lib.hid (SliceIn.below' hF hb0); have Hb0 := Lib.hid hb0; have Hm := Lib.hid hm; have H0 := Lib.hid h0; have HB := Lib.hid hB
  have hyl := hB.field Lb.yearW; have htl := hB.field Lb.titleW
  have hal := hB.authors.1; have hap := hB.authors.2
  have htj := Lb.joined_len x hB
  have htx : Lb.textOf x = Lb.dots [Lib.join ((Lb.authors x).map Lb.short) [44, 32], Lb.field x Lb.titleW, Lb.field x Lb.yearW] := rfl
  obtain ⟨A, hA⟩ : ∃ A, Lb.authors x = A := ⟨_, rfl⟩
  rw [hA] at hal hap htj htx
  have hjl := Lb.joinS_le (A.map Lb.short) [44, 32]
  obtain ⟨J, hJ⟩ : ∃ J, Lib.join (A.map Lb.short) [44, 32] = J := ⟨_, rfl⟩
  obtain ⟨T, hT⟩ : ∃ T, Lb.field x Lb.titleW = T := ⟨_, rfl⟩
  obtain ⟨Y, hY⟩ : ∃ Y, Lb.field x Lb.yearW = Y := ⟨_, rfl⟩
  rw [hY] at hyl; rw [hT] at htl; rw [hJ] at hjl; rw [hJ, hT, hY] at htx
  have hjl : J.length ≤ 3000000 := by simp at hjl; omega
  have hjt : Lb.tot [J, T, Y] ≤ 3001000 := by rw [Lb.tot_cons, Lb.tot_cons, Lb.tot_cons, Lb.tot_nil]; omega
  have HA := Lib.hid hA; have HJ := Lib.hid hJ; have HT := Lib.hid hT; have HY := Lib.hid hY; have Htx := Lib.hid htx; have Hjt := Lib.hid hjt; have Hap := Lib.hid hap; have Hal := Lib.hid hal; have HM := Lib.hid hM; have Htj := Lib.hid (show Lb.tot (A.map Lb.short) ≤ 2000000 by omega)
  have Hlen := Lib.hid (show J.length ≤ 3000000 ∧ T.length ≤ 400 ∧ Y.length ≤ 400 from ⟨hjl, htl, hyl⟩)
  clear hE hb0 hF hm h0 hB hA hJ hT hY htx hjt hap hal hM htj hjl htl hyl
  go_enter Tryz.func28, Tryz.ntmps28
  go_wp2_with (go_at_call 35; refine (lb_authors x vf m S _ HF.out HB.out HM.out.1 HM.out.2).mono ?_; rw [HA.out]; rintro e w1 ⟨⟨va, rfl, hSa⟩, hb1⟩; have HE1 := Lib.hid (HE.out.below' hb1); have HF1 := Lib.hid (SliceIn.below' HF.out hb1); have Hb1 := Lib.hid (bseq Hb0.out hb1); have HSa := Lib.hid hSa.strong; obtain ⟨pv, cv, hv, _⟩ := hSa; subst hv; clear hb1)
  clear c0 c1 c2
  have Hg0 := Lib.hid (show g0 < w1.heap.size from HE1.out.lt)
  go_loopw [3, 12] (fun ov iv wr => ∃ (k : Nat), k ≤ A.length ∧ iv = .int .i64 (k : Int) ∧ OwnL w1.heap.size 9 1 RStr wr ov ((A.take k).map Lb.short) ∧ Below w1.heap.size w1 wr) (fun _ iv _ => A.length - (intOf iv).toNat)
  case atStart => exact ⟨0, Nat.zero_le _, rfl, OwnL.nil _ _ _ _ _, Below.refl _ _⟩
  case round =>
    obtain ⟨k, hk, rfl, hO, hb⟩ := hrel
    have Hb := Lib.hid hb
    by_cases hlt : k < A.length
    · obtain ⟨y, hy⟩ : ∃ y, A[k]? = some y := ⟨_, List.getElem?_eq_getElem hlt⟩
      obtain ⟨pa, ca, hv, _, _, hat⟩ := SliceIn.below' HSa.out hb
      obtain ⟨b, off, vs, rfl, _, hbw, hR, hc⟩ := hat k y hy
      have hR : vs = _ := hR
      subst hR
      simp only [Value.slice.injEq] at hv
      obtain ⟨rfl, hnn, rfl⟩ := hv
      clear hnn
      have e0 : wr.cell? ⟨b, off + k * 4, none⟩ = some (.string ⟨y.first.toArray⟩) := hc 0 _ rfl; have e1 : wr.cell? ⟨b, off + k * 4 + 1, none⟩ = some (.string ⟨y.von.toArray⟩) := hc 1 _ rfl; have e2 : wr.cell? ⟨b, off + k * 4 + 2, none⟩ = some (.string ⟨y.last.toArray⟩) := hc 2 _ rfl; have e3 : wr.cell? ⟨b, off + k * 4 + 3, none⟩ = some (.string ⟨y.jr.toArray⟩) := hc 3 _ rfl
      have hlt' : (k : Int) < (A.length : Int) := by omega
      have hyB := Hap.out y (List.mem_of_getElem? hy)
      obtain ⟨k1, hk1⟩ : ∃ k1, k1 = k + 1 := ⟨_, rfl⟩
      have hwk : IntKind.i64.wrap ((k : Int) + 1) = (k1 : Int) := by rw [IntWalk.i64_in _ (by have := Hal.out; omega)]; omega
      have hsn : ((A.take k1).map Lb.short) = ((A.take k).map Lb.short) ++ [Lb.short y] := by rw [hk1, List.take_add_one, hy]; simp
      have hml : ((A.take k).map Lb.short).length = k := by rw [List.length_map, List.length_take]; omega
      have hnm : ((A.take k).map Lb.short).length + 1 ≤ 9223372036854775807 := by have := Hal.out; omega
      have hn47 : (((A.take k).map Lb.short).length + 1) * 16 ≤ 140737488355328 := by have := Hal.out; omega
      obtain ⟨fl, hown, hrep⟩ := hO
      have Hsn := Lib.hid hsn; have Hlt := Lib.hid hlt; have Hk1 := Lib.hid hk1; have Hown := Lib.hid hown; have Hrep := Lib.hid hrep; have Hnm := Lib.hid hnm; have Hn47 := Lib.hid hn47; have HyB := Lib.hid hyB
      clear hown hrep hsn hlt hk1 hml hnm hn47 hy hb hk hyB hc hat hbw
      go_wp2_with (first
        | (go_at_call 44; refine (nm_Short y _ HyB.out).mono ?_; rintro e w5 ⟨rfl, hb5⟩; have hb6 := (Below.alloc (Below.refl wr.heap.size wr) (Nat.le_refl _) _).trans (hb5.mono (by simp)); have Hown5 := Lib.hid (own_below Hown.out hb6); have Hb5 := Lib.hid (Hb.out.trans (hb6.mono Hb.out.size)); have HSZ5 := Lib.hid Hb5.out.size; clear hb5 hb6)
        | (at_builtin; go_loud (refine wpList_append1 rfl (.tmp 16) (.tmp 19) 35 rfl w1.heap.size 9 i0 (.string ⟨#[]⟩) 1 16 Tryz.underlying35 Hi.out Hz0.out Hz1.out Hz2.out (by rfl) (by decide) _ _ _ Hown5.out rfl [.string ⟨(Lb.short y).toArray⟩] rfl (by simp) rfl (by simp [Value.oneCell']) Hnm.out Hn47.out HSZ5.out ?_); intro v2 w2 own2 g2 at2))
      go_roundw
      case rel => exact ⟨k1, by have := Hlt.out; have := Hk1.out; omega, rfl, by rw [Hsn.out]; exact OwnL.more Hrep.out rfl own2, Hb5.out.grown g2 Hb5.out.size (fun q e => (Hown5.out.lt q e).1)⟩
      case measure => have := Hlt.out; have := Hk1.out; simp [intOf]; omega
    · have hlt' : ¬ (k : Int) < (A.length : Int) := by omega
      have htk : A.take k = A := List.take_of_length_le (by omega)
      rw [htk] at hO
      have HSo := Lib.hid (hO.slice RStr.size (fun j => w1.heap.size ≤ j) (fun _ h => h))
      obtain ⟨po, co, hpo⟩ := hO.form
      subst hpo
      rw [List.length_map]
      rw [List.length_map] at HSo
      have HE9 := Lib.hid (HE1.out.below hb Hg0.out)
      have HF9 := Lib.hid (SliceIn.below' HF1.out hb)
      have HBr := Lib.hid (Hb1.out.trans (hb.mono Hb1.out.size))
      clear hlt hk hO htk hb Hb
      go_upto_region 8 with fail
      refine wp_region_any (by kernel_rfl) ?_
      change wpAny _ _ _ _ _ _ _ (World.drew _)
      have HEd := Lib.hid HE9.out.drew; have HSd := Lib.hid (HSo.out.below' (Below.refl _ _).drew); have HFd := Lib.hid (SliceIn.below' HF9.out (Below.refl _ _).drew); have HBd := Lib.hid HBr.out.drew
      clear HE9 HSo HF9 HBr
      generalize wr.drew = wd at *
      have hS0 := Below.refl wd.heap.size wd
      refine wpAny_of_held (S := fun W => Below wd.heap.size wd W) _ _ _ _ ?_
      refine wpAnyH_take (i := 0) (v := .slice po A.length co) rfl (by kernel_rfl) (by kernel_rfl) (by kernel_rfl) (fun _ _ _ h => h) (Or.inl ⟨by kernel_rfl, fun W hW => by kernel_rfl⟩) (by assumption) ?_
      try simp only [Act.put, List.getElem_toArray, List.getElem_cons_zero, List.getElem_cons_succ, List.setIfInBounds_toArray, List.set_cons_zero, List.set_cons_succ]
      refine wpAnyH_take (i := 2) (v := .agg #[.string ⟨x.kind.toArray⟩, .string ⟨x.key.toArray⟩, vf]) rfl (by kernel_rfl) (by kernel_rfl) (by kernel_rfl) (fun _ _ _ h => h) (Or.inl ⟨by kernel_rfl, fun W hW => by (obtain ⟨c0, c1, c2, _, _⟩ := HEd.out.below' hW; go_simp)⟩) (by assumption) ?_
      try simp only [Act.put, List.getElem_toArray, List.getElem_cons_zero, List.getElem_cons_succ, List.setIfInBounds_toArray, List.set_cons_zero, List.set_cons_succ]
      refine wpAnyH_take (i := 4) (v := .agg #[.string ⟨x.kind.toArray⟩, .string ⟨x.key.toArray⟩, vf]) rfl (by kernel_rfl) (by kernel_rfl) (by kernel_rfl) (fun _ _ _ h => h) (Or.inl ⟨by kernel_rfl, fun W hW => by (obtain ⟨c0, c1, c2, _, _⟩ := HEd.out.below' hW; go_simp)⟩) (by assumption) ?_
      try simp only [Act.put, List.getElem_toArray, List.getElem_cons_zero, List.getElem_cons_succ, List.setIfInBounds_toArray, List.set_cons_zero, List.set_cons_succ]
      refine wpAnyH_take (i := 8) (v := .int .i64 0) rfl (by kernel_rfl) (by kernel_rfl) (by kernel_rfl) (fun _ _ _ h => h) (Or.inl ⟨by kernel_rfl, fun W hW => by kernel_rfl⟩) (by assumption) ?_
      try simp only [Act.put, List.getElem_toArray, List.getElem_cons_zero, List.getElem_cons_succ, List.setIfInBounds_toArray, List.set_cons_zero, List.set_cons_succ]
      refine wpAnyH_ready (rs := [1]) (by kernel_rfl) (by simp) ?_
      refine AllReadyH.cons rfl (fun K hK => ?_) AllReadyH.nil
      go_simp
      go_wp2_with (go_at_call 45; refine (nm_Join [44, 32] (A.map Lb.short) _ _ _ HSd.out Htj.out (by decide)).mono ?_; rw [HJ.out]; rintro e w5 ⟨rfl, hb5⟩; have Hb5 := Lib.hid hb5; clear hb5)
      refine hK.out _ _ (Hb5.out) (fun _ => ?_)
      clear K hK
      try simp only [Act.put, List.getElem_toArray, List.getElem_cons_zero, List.getElem_cons_succ, List.setIfInBounds_toArray, List.set_cons_zero, List.set_cons_succ]
      refine wpAnyH_ready (rs := [3]) (by kernel_rfl) (by simp) ?_
      refine AllReadyH.cons rfl (fun K hK => ?_) AllReadyH.nil
      go_simp
      go_wp2_with (go_at_call 37; refine (lb_field x vf Lb.titleW S _ (SliceIn.below' HFd.out Hb5.out)).mono ?_; rw [HT.out]; rintro e w6 ⟨rfl, hb6⟩; have Hb6 := Lib.hid (bseq Hb5.out hb6); clear hb6)
      refine hK.out _ _ (Hb6.out) (fun _ => ?_)
      clear K hK
      try simp only [Act.put, List.getElem_toArray, List.getElem_cons_zero, List.getElem_cons_succ, List.setIfInBounds_toArray, List.set_cons_zero, List.set_cons_succ]
      refine wpAnyH_ready (rs := [5]) (by kernel_rfl) (by simp) ?_
      refine AllReadyH.cons rfl (fun K hK => ?_) AllReadyH.nil
      go_simp
      go_wp2_with (go_at_call 37; refine (lb_field x vf Lb.yearW S _ (SliceIn.below' HFd.out Hb6.out)).mono ?_; rw [HY.out]; rintro e w7 ⟨rfl, hb7⟩; have Hb7 := Lib.hid (bseq Hb6.out hb7); clear hb7)
      refine hK.out _ _ (Hb7.out) (fun _ => ?_)
      clear K hK
      try simp only [Act.put, List.getElem_toArray, List.getElem_cons_zero, List.getElem_cons_succ, List.setIfInBounds_toArray, List.set_cons_zero, List.set_cons_succ]
      refine wpAnyH_ready (rs := [6]) (by kernel_rfl) (by simp) ?_
      refine AllReadyH.cons rfl (fun K hK => ?_) AllReadyH.nil
      go_simp
      obtain ⟨w8, hw8⟩ : ∃ W, W = w7.alloc (.cells #[.string ⟨J.toArray⟩, .string ⟨T.toArray⟩, .string ⟨Y.toArray⟩] 9) := ⟨_, rfl⟩
      rw [← hw8]
      have hO8 : OwnL w7.heap.size 9 1 RStr w8 (.slice (some ⟨w7.heap.size, 0, none⟩) 3 3) [J, T, Y] := by
        rw [hw8]
        exact ⟨[.string ⟨J.toArray⟩, .string ⟨T.toArray⟩, .string ⟨Y.toArray⟩], own_built w7 w7.heap.size 9 1 3 [.string ⟨J.toArray⟩, .string ⟨T.toArray⟩, .string ⟨Y.toArray⟩] (Nat.le_refl _) rfl (by unfold maxLen; omega), strs_rep _⟩
      have Hb8 := Lib.hid (bseq Hb7.out (show Below w7.heap.size w7 w8 by rw [hw8]; exact below_new _ _))
      have HO8 := Lib.hid (hO8.slice RStr.size (fun _ => True) (fun _ _ => trivial)); clear hO8 hw8
      refine hK.out _ _ Hb8.out (fun _ => ?_)
      clear K hK
      try simp only [Act.put, List.getElem_toArray, List.getElem_cons_zero, List.getElem_cons_succ, List.setIfInBounds_toArray, List.set_cons_zero, List.set_cons_succ]
      refine wpAnyH_take (i := 7) (v := .int .i64 3) rfl (by kernel_rfl) (by kernel_rfl) (by kernel_rfl) (fun _ _ _ h => h) (Or.inl ⟨by kernel_rfl, fun W hW => by go_simp⟩) (by assumption) ?_
      try simp only [Act.put, List.getElem_toArray, List.getElem_cons_zero, List.getElem_cons_succ, List.setIfInBounds_toArray, List.set_cons_zero, List.set_cons_succ]
      refine wpAnyH_done (by kernel_rfl) ?_ _
      go_wp2_with fail
      have Hb9 := Lib.hid (HBd.out.trans (Hb8.out.mono HBd.out.size))
      go_loopw [6, 30] (fun sv iv wr => ∃ (k : Nat), k ≤ 3 ∧ iv = .int .i64 (k : Int) ∧ sv = .string ⟨(Lb.dots ([J, T, Y].take k)).toArray⟩ ∧ Below w8.heap.size w8 wr) (fun _ iv _ => 3 - (intOf iv).toNat)
      case atStart => exact ⟨0, Nat.zero_le _, rfl, rfl, Below.refl _ _⟩
      case round =>
        obtain ⟨k, hk, rfl, rfl, hb⟩ := hrel
        have Hb := Lib.hid hb
        by_cases hlt : k < 3
        · obtain ⟨y, hy⟩ : ∃ y, [J, T, Y][k]? = some y := ⟨_, List.getElem?_eq_getElem hlt⟩
          have e0 := (SliceIn.below' HO8.out hb).cellS hy
          rw [Nat.zero_add] at e0
          have hlt' : (k : Int) < 3 := by omega
          obtain ⟨k1, hk1⟩ : ∃ k1, k1 = k + 1 := ⟨_, rfl⟩
          have hwk : IntKind.i64.wrap ((k : Int) + 1) = (k1 : Int) := by rw [IntWalk.i64_in _ (by omega)]; omega
          have hsn : Lb.dots ([J, T, Y].take k1) = if y = [] then Lb.dots ([J, T, Y].take k) else if Lb.dots ([J, T, Y].take k) = [] then y ++ [46] else Lb.dots ([J, T, Y].take k) ++ [32] ++ (y ++ [46]) := by rw [hk1, List.take_add_one, hy]; exact dots_snoc _ _
          have hdl := dots_len ([J, T, Y].take k)
          have hdt := Lb.tot_take [J, T, Y] k
          have hyl := Lb.mem_tot [J, T, Y] y (List.mem_of_getElem? hy)
          have hjt := Hjt.out
          have hD3 : (Lb.dots ([J, T, Y].take k)).length ≤ 7000000 := by omega
          have hY3 : y.length ≤ 3001000 := by omega
          obtain ⟨D, hD⟩ : ∃ D, Lb.dots ([J, T, Y].take k) = D := ⟨_, rfl⟩
          rw [hD] at hsn hD3 ⊢
          have hk3 : k1 ≤ 3 ∧ 3 - k1 < 3 - k := by omega
          have Hsn := Lib.hid hsn; have Hk3 := Lib.hid hk3
          clear hsn hk3 hdl hdt hyl hjt hD hy hb hk hlt hk1
          by_cases hye : y = []
          · subst hye
            go_wp2_with fail
            go_roundw
            case rel => exact ⟨k1, Hk3.out.1, rfl, by rw [Hsn.out, if_pos rfl], Hb.out⟩
            case measure => simpa [intOf] using Hk3.out.2
          · have hye2 : y.isEmpty = false := by cases y with | nil => exact absurd rfl hye | cons _ _ => rfl
            have h46 : (⟨y.toArray⟩ : ByteArray) ++ ⟨#[46]⟩ = ⟨(y ++ [46]).toArray⟩ := append_data y [46]
            by_cases hDe : D = []
            · subst hDe
              have h47 : (⟨#[]⟩ : ByteArray) ++ ⟨(y ++ [46]).toArray⟩ = ⟨(y ++ [46]).toArray⟩ := append_data [] (y ++ [46])
              obtain ⟨z, hz⟩ : ∃ z, y ++ [46] = z := ⟨_, rfl⟩
              have hzl : z.length ≤ 3001001 := by rw [← hz, List.length_append, List.length_singleton]; omega
              rw [hz] at h46 h47
              have Hz := Lib.hid hz
              clear hz
              go_wp2_with fail
              go_roundw
              case rel => exact ⟨k1, Hk3.out.1, rfl, by rw [Hsn.out, if_neg hye, if_pos rfl, Hz.out], Hb.out⟩
              case measure => simpa [intOf] using Hk3.out.2
            · have hDe2 : D.isEmpty = false := by cases D with | nil => exact absurd rfl hDe | cons _ _ => rfl
              have h32 : (⟨D.toArray⟩ : ByteArray) ++ ⟨#[32]⟩ = ⟨(D ++ [32]).toArray⟩ := append_data D [32]
              obtain ⟨z, hz⟩ : ∃ z, y ++ [46] = z := ⟨_, rfl⟩
              have hzl : z.length ≤ 3001001 := by rw [← hz, List.length_append, List.length_singleton]; omega
              obtain ⟨D2, hD2⟩ : ∃ D2, D ++ [32] = D2 := ⟨_, rfl⟩
              have hD2l : D2.length ≤ 7000001 := by rw [← hD2, List.length_append, List.length_singleton]; omega
              have hfin := append_data D2 z
              rw [hz] at h46
              rw [hD2] at h32
              have Hz := Lib.hid hz; have HD2 := Lib.hid hD2
              clear hz hD2
              go_wp2_with fail
              go_roundw
              case rel => exact ⟨k1, Hk3.out.1, rfl, by rw [Hsn.out, if_neg hye, if_neg hDe, Hz.out, HD2.out], Hb.out⟩
              case measure => simpa [intOf] using Hk3.out.2
        · have hlt' : ¬ (k : Int) < 3 := by omega
          have htk : [J, T, Y].take k = [J, T, Y] := List.take_of_length_le (by simp; omega)
          rw [htk]
          obtain ⟨D, hD⟩ : ∃ D, Lb.dots [J, T, Y] = D := ⟨_, rfl⟩
          have Hf := Lib.hid (Htx.out.trans hD)
          rw [hD]
          clear htk hlt hk hb hD
          go_wp2_with fail
          go_ret
          have hbf := Hb9.out.trans (Hb.out.mono Hb9.out.size)
          first | exact ⟨ret_str Hf.out.symm, hbf⟩ | (rw [hg0] at hbf; exact ⟨ret_str Hf.out.symm, hbf⟩)
end
end Go.Proofs.YtanbcokkfbidbaaGreatDoor
