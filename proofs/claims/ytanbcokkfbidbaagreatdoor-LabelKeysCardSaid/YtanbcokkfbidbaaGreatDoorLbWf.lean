/- The walk of stetlaw17.fixed. -/
import Derived.Test.YtanbcokkfbidbaaGreatDoorLbWd
import Derived.Test.YtanbcokkfbidbaaGreatDoorLbM
import Derived.Test.YtanbcokkfbidbaaGreatDoorParWh
import Derived.Test.YtanbcokkfbidbaaGreatDoorNotesW
import Derived.Test.YtanbcokkfbidbaaGreatDoorCntT
set_option linter.unusedSimpArgs false
set_option linter.unusedVariables false
namespace Go.Proofs.YtanbcokkfbidbaaGreatDoor
open Go.RowKit
namespace Lb
theorem fix_b : ∀ x ∈ fixL, EntB x := fun x hx => (fix_s x hx).b
theorem fix_p1b : ∀ x ∈ (([eA, eB], [(14, [103]), (15, [100])]) : List Ent.Ent × List (Int × List UInt8)).1, EntB x := fun x hx => (entS_of x ((List.all_eq_true.1 (show [eA, eB].all entSb = true by decide +kernel)) x hx)).b
theorem fix_p2b : ∀ x ∈ (([eA, eC2], []) : List Ent.Ent × List (Int × List UInt8)).1, EntB x := fun x hx => (entS_of x ((List.all_eq_true.1 (show [eA, eC2].all entSb = true by decide +kernel)) x hx)).b
theorem fix_n1 : Cnt.text 1 0 = [49] := (Cnt.text_dec 1 (by omega) 0 (by omega) (by omega) (by omega)).trans (by decide +kernel)
theorem fix_n2 : Cnt.text 2 0 = [50] := (Cnt.text_dec 2 (by omega) 0 (by omega) (by omega) (by omega)).trans (by decide +kernel)
theorem fix_a1 : all fixL [[97], [98], [97], [103], [100]] 1 = ([⟨eB, [75, 110, 117, 56, 52, 97], [68, 46, 32, 75, 110, 117, 116, 104, 46, 32, 83, 46, 32, 49, 57, 56, 52, 46]⟩, ⟨eA, [75, 110, 117, 56, 52, 98], textOf eA⟩], [(14, [103]), (15, [100])]) := by
  unfold all
  rw [fix_p1]
  dsimp only
  rw [fix_o1]
  unfold tagged
  simp only [List.mapIdx_cons, List.mapIdx_nil, List.map_cons, List.map_nil, fix_l1.1, fix_l1.2, fix_t1]
  have h1 : tag 1 [[75, 110, 117, 56, 52], [75, 110, 117, 56, 52]] 0 [75, 110, 117, 56, 52] = [75, 110, 117, 56, 52, 97] := by decide +kernel
  have h2 : tag 1 [[75, 110, 117, 56, 52], [75, 110, 117, 56, 52]] (0 + 1) [75, 110, 117, 56, 52] = [75, 110, 117, 56, 52, 98] := by decide +kernel
  rw [h1, h2]
theorem fix_a2 : all fixL [[97], [99]] 0 = ([⟨eC2, [49], textOf eC2⟩, ⟨eA, [50], textOf eA⟩], []) := by
  unfold all
  rw [fix_p2]
  dsimp only
  rw [fix_o2]
  unfold tagged
  simp only [List.mapIdx_cons, List.mapIdx_nil, tag, fix_n1, fix_n2]
  have h1 : Cnt.text (((0 : Nat) : Int) + 1) 0 = [49] := fix_n1
  have h2 : Cnt.text (((0 + 1 : Nat) : Int) + 1) 0 = [50] := fix_n2
  simp [h1, h2, fix_n1, fix_n2]
theorem fix_parse : Ent.parse [64, 98, 111, 111, 107, 123, 97, 44, 97, 117, 116, 104, 111, 114, 61, 123, 68, 111, 110, 97, 108, 100, 32, 75, 110, 117, 116, 104, 125, 44, 116, 105, 116, 108, 101, 61, 123, 84, 125, 44, 121, 101, 97, 114, 61, 49, 57, 56, 52, 125, 64, 98, 111, 111, 107, 123, 98, 44, 97, 117, 116, 104, 111, 114, 61, 123, 68, 111, 110, 97, 108, 100, 32, 75, 110, 117, 116, 104, 125, 44, 116, 105, 116, 108, 101, 61, 123, 83, 125, 44, 121, 101, 97, 114, 61, 49, 57, 56, 52, 125, 64, 120, 123, 99, 44, 99, 114, 111, 115, 115, 114, 101, 102, 61, 123, 97, 125, 44, 110, 111, 116, 101, 61, 123, 110, 125, 44, 116, 105, 116, 108, 101, 61, 123, 79, 119, 110, 125, 125, 64, 120, 123, 100, 44, 99, 114, 111, 115, 115, 114, 101, 102, 61, 123, 101, 125, 125, 64, 120, 123, 101, 44, 99, 114, 111, 115, 115, 114, 101, 102, 61, 123, 100, 125, 125, 64, 120, 123, 102, 44, 99, 114, 111, 115, 115, 114, 101, 102, 61, 123, 103, 125, 125] = (fixL, []) := by decide +kernel
theorem fix_get : Ent.get eC2.fields authorW = ([68, 111, 110, 97, 108, 100, 32, 75, 110, 117, 116, 104], true) := by decide +kernel
theorem fix_nn : decide (([(14, [103]), (15, [100])] : List (Int × List UInt8)) = [(14, [103]), (15, [100])]) = true := by decide +kernel
theorem entZ_b : EntB entZ := (entS_of entZ (by decide +kernel)).b
theorem fix_tz : textOf entZ = [] := fix_t0
end Lb
theorem ents_more {w W : World} {v : Value} {l : List Ent.Ent} (h : Ents (fun j => j < w.heap.size) w v l) (hb : Below w.heap.size w W) : Ents (fun j => j < W.heap.size) W v l :=
  Ents.kept h (fun j hj => Nat.lt_of_lt_of_le hj hb.size) hb.size (fun j hj _ => hb.block j hj)
theorem strs_built (w : World) (l : List (List UInt8)) (h : l.length ≤ maxLen) : SliceIn (fun _ => True) 1 RStr (w.alloc (.cells (l.map fun s => Value.string ⟨s.toArray⟩).toArray 9)) (.slice (some ⟨w.heap.size, 0, none⟩) l.length l.length) l :=
  SliceIn.own (own_built w w.heap.size 9 1 l.length (l.map fun s => .string ⟨s.toArray⟩) (Nat.le_refl _) (by simp) h) (strs_rep l) RStr.size rfl (fun _ _ => trivial)
theorem notes_two (w : World) : SliceIn (fun _ => True) 2 RNote (w.alloc (.cells #[.int .i64 14, .string ⟨#[103]⟩, .int .i64 15, .string ⟨#[100]⟩] 69)) (.slice (some ⟨w.heap.size, 0, none⟩) 2 2) [((14 : Int), ([103] : List UInt8)), (15, [100])] :=
  SliceIn.own (own_built w w.heap.size 69 2 2 [.int .i64 14, .string ⟨#[103]⟩, .int .i64 15, .string ⟨#[100]⟩] (Nat.le_refl _) rfl (by unfold maxLen; omega)) (xs := [((14 : Int), ([103] : List UInt8)), (15, [100])]) ⟨_, _, rfl, rfl, _, _, rfl, rfl, rfl⟩ RNote.size rfl (fun _ _ => trivial)
def RC (c : Lb.Cited) (vs : List Value) : Prop := ∃ vf, vs = [.string ⟨c.ent.kind.toArray⟩, .string ⟨c.ent.key.toArray⟩, vf, .string ⟨c.label.toArray⟩, .string ⟨c.text.toArray⟩]
theorem cit_all {S S' : Nat → Prop} {w W : World} {v : Value} {A : List Lb.Cited} (h : SliceIn S 5 (RCit S' w) W v A) : SliceIn (fun _ => True) 5 RC W v A := h.kept (fun _ _ => trivial) (Nat.le_refl _) (fun _ _ _ => rfl) (fun _ _ _ h => by obtain ⟨vf, h, _⟩ := h; exact ⟨vf, h⟩)
theorem cit_at {S : Nat → Prop} {W : World} {p : Option Addr} {n c : Nat} {A : List Lb.Cited} (h : SliceIn S 5 RC W (.slice p n c) A) {i : Nat} {a : Lb.Cited} (ha : A[i]? = some a) {b off : Nat} (hp : p = some ⟨b, off, none⟩) :
    W.cell? ⟨b, off + i * 5 + 1, none⟩ = some (.string ⟨a.ent.key.toArray⟩) ∧ W.cell? ⟨b, off + i * 5 + 3, none⟩ = some (.string ⟨a.label.toArray⟩) ∧ W.cell? ⟨b, off + i * 5 + 4, none⟩ = some (.string ⟨a.text.toArray⟩) := by
  obtain ⟨pa, ca, hv, _, _, hat⟩ := h
  obtain ⟨b', off', vs, hq, _, _, hR, hc⟩ := hat i a ha
  obtain ⟨vf, rfl⟩ := hR
  simp only [Value.slice.injEq] at hv
  rw [hq] at hv
  rw [hp] at hv
  obtain ⟨h1, _⟩ := hv
  simp only [Option.some.injEq, Addr.mk.injEq, and_true] at h1
  obtain ⟨rfl, rfl⟩ := h1
  exact ⟨hc 1 _ rfl, hc 3 _ rfl, hc 4 _ rfl⟩
theorem cit_ptr {S : Nat → Prop} {W : World} {v : Value} {A : List Lb.Cited} (h : SliceIn S 5 RC W v A) {a : Lb.Cited} (ha : A[0]? = some a) : ∃ b off c, v = .slice (some ⟨b, off, none⟩) A.length c := by
  obtain ⟨pa, ca, hv, _, _, hat⟩ := h
  obtain ⟨b', off', vs, hq, _⟩ := hat 0 a ha
  rw [hq] at hv
  exact ⟨b', off', ca, hv⟩
set_option maxRecDepth 100000 in
set_option maxHeartbeats 3200000 in
theorem law17_fixed (m : Int) (w : World) (hL : Laid01 w) (hm : w.cell? ⟨0, 0, none⟩ = some (.int .i64 m)) (h0 : 0 < w.heap.size) : Calls Tryz.prog 12 #[] w fun e w' => e = .returned (.bool true) ∧ Below w.heap.size w w' := by
  have HLB := Lib.hid (fun W (hW : Below w.heap.size w W) => And.intro (hL.below hW) (keptM hm h0 hW))
  clear hL hm h0
  go_enter Tryz.func12, Tryz.ntmps12
  go_upto_region 2 with (go_at_call 25; refine (entry_parse [64, 98, 111, 111, 107, 123, 97, 44, 97, 117, 116, 104, 111, 114, 61, 123, 68, 111, 110, 97, 108, 100, 32, 75, 110, 117, 116, 104, 125, 44, 116, 105, 116, 108, 101, 61, 123, 84, 125, 44, 121, 101, 97, 114, 61, 49, 57, 56, 52, 125, 64, 98, 111, 111, 107, 123, 98, 44, 97, 117, 116, 104, 111, 114, 61, 123, 68, 111, 110, 97, 108, 100, 32, 75, 110, 117, 116, 104, 125, 44, 116, 105, 116, 108, 101, 61, 123, 83, 125, 44, 121, 101, 97, 114, 61, 49, 57, 56, 52, 125, 64, 120, 123, 99, 44, 99, 114, 111, 115, 115, 114, 101, 102, 61, 123, 97, 125, 44, 110, 111, 116, 101, 61, 123, 110, 125, 44, 116, 105, 116, 108, 101, 61, 123, 79, 119, 110, 125, 125, 64, 120, 123, 100, 44, 99, 114, 111, 115, 115, 114, 101, 102, 61, 123, 101, 125, 125, 64, 120, 123, 101, 44, 99, 114, 111, 115, 115, 114, 101, 102, 61, 123, 100, 125, 125, 64, 120, 123, 102, 44, 99, 114, 111, 115, 115, 114, 101, 102, 61, 123, 103, 125, 125] _ (by decide)).mono ?_; rw [Lb.fix_parse]; rintro e wn ⟨va, vb, rfl, hA, _, hb⟩; have HE := Lib.hid (Ents.kept hA.strong (S' := fun j => j < wn.heap.size) (fun j hj => hj.2) (Nat.le_refl _) (fun _ _ _ => rfl)); have HB := Lib.hid hb; clear hA hb)
  go_upto_region 3 with (go_at_call 26; refine (lb_Whole Lb.fixL va [99] _ HE.out (by decide) Lb.fix_b (by decide)).mono ?_; rw [Lb.fix_fc, Option.getD_some]; rintro e wn ⟨vr, nr, rfl, hA⟩; obtain ⟨vf, rfl, rfl, _, hF, hb⟩ := hA.okInv Lb.fix_c; obtain ⟨pf, nf, cf, hvf⟩ := SliceIn.shape hF; subst hvf; replace HE := Lib.hid (ents_more HE.out hb); replace HB := Lib.hid (HB.out.trans (hb.mono HB.out.size)); have HF := Lib.hid hF; clear hA hb hF)
  obtain ⟨wm, hwm⟩ : ∃ W, W = wn.alloc (.cells #[.string ⟨Lb.eC.kind.toArray⟩, .string ⟨Lb.eC.key.toArray⟩, .slice pf nf cf] 27) := ⟨_, rfl⟩
  obtain ⟨g3, hg3⟩ : ∃ g, wn.heap.size = g := ⟨_, rfl⟩
  rw [← hwm]
  try rw [hg3]
  have hb : Below wn.heap.size wn wm := by rw [hwm]; exact below_new _ _
  have H3 := Lib.hid (show E3 wm g3 (.string ⟨Lb.eC.kind.toArray⟩) (.string ⟨Lb.eC.key.toArray⟩) (.slice pf nf cf) by rw [hwm, ← hg3]; exact E3.new _ _ _ _ _)
  replace HE := Lib.hid (ents_more HE.out hb); replace HB := Lib.hid (HB.out.trans (hb.mono HB.out.size)); replace HF := Lib.hid (SliceIn.below' HF.out hb)
  clear hb hwm hg3
  go_upto_region 4 with (go_at_call 26; refine (lb_Whole Lb.fixL va [100] _ HE.out (by decide) Lb.fix_b (by decide)).mono ?_; rintro e wn ⟨vr, nr, rfl, hA⟩; obtain ⟨rfl, rfl, hb⟩ := hA.noInv Lb.fix_d; replace HE := Lib.hid (ents_more HE.out hb); replace HB := Lib.hid (HB.out.trans (hb.mono HB.out.size)); replace HF := Lib.hid (SliceIn.below' HF.out hb); replace H3 := Lib.hid (H3.out.below' hb); clear hA hb)
  obtain ⟨wm, hwm⟩ : ∃ W, W = wn.alloc (.cells #[.string ⟨#[]⟩, .string ⟨#[]⟩, .slice none 0 0] 27) := ⟨_, rfl⟩
  rw [← hwm]
  have hb : Below wn.heap.size wn wm := by rw [hwm]; exact below_new _ _
  replace HE := Lib.hid (ents_more HE.out hb); replace HB := Lib.hid (HB.out.trans (hb.mono HB.out.size)); replace HF := Lib.hid (SliceIn.below' HF.out hb); replace H3 := Lib.hid (H3.out.below' hb)
  clear hb hwm
  go_upto_region 5 with (go_at_call 26; refine (lb_Whole Lb.fixL va [102] _ HE.out (by decide) Lb.fix_b (by decide)).mono ?_; rintro e wn ⟨vr, nr, rfl, hA⟩; obtain ⟨rfl, rfl, hb⟩ := hA.noInv Lb.fix_f; replace HE := Lib.hid (ents_more HE.out hb); replace HB := Lib.hid (HB.out.trans (hb.mono HB.out.size)); replace HF := Lib.hid (SliceIn.below' HF.out hb); replace H3 := Lib.hid (H3.out.below' hb); clear hA hb)
  obtain ⟨wm, hwm⟩ : ∃ W, W = wn.alloc (.cells #[.string ⟨#[]⟩, .string ⟨#[]⟩, .slice none 0 0] 27) := ⟨_, rfl⟩
  rw [← hwm]
  have hb : Below wn.heap.size wn wm := by rw [hwm]; exact below_new _ _
  replace HE := Lib.hid (ents_more HE.out hb); replace HB := Lib.hid (HB.out.trans (hb.mono HB.out.size)); replace HF := Lib.hid (SliceIn.below' HF.out hb); replace H3 := Lib.hid (H3.out.below' hb)
  clear hb hwm
  go_upto_region 6 with (go_at_call 26; refine (lb_Whole Lb.fixL va [103] _ HE.out (by decide) Lb.fix_b (by decide)).mono ?_; rintro e wn ⟨vr, nr, rfl, hA⟩; obtain ⟨rfl, rfl, hb⟩ := hA.noInv Lb.fix_g; replace HE := Lib.hid (ents_more HE.out hb); replace HB := Lib.hid (HB.out.trans (hb.mono HB.out.size)); replace HF := Lib.hid (SliceIn.below' HF.out hb); replace H3 := Lib.hid (H3.out.below' hb); clear hA hb)
  obtain ⟨wm, hwm⟩ : ∃ W, W = wn.alloc (.cells #[.string ⟨#[]⟩, .string ⟨#[]⟩, .slice none 0 0] 27) := ⟨_, rfl⟩
  rw [← hwm]
  have hb : Below wn.heap.size wn wm := by rw [hwm]; exact below_new _ _
  replace HE := Lib.hid (ents_more HE.out hb); replace HB := Lib.hid (HB.out.trans (hb.mono HB.out.size)); replace HF := Lib.hid (SliceIn.below' HF.out hb); replace H3 := Lib.hid (H3.out.below' hb)
  clear hb hwm
  go_upto_region 7 with (go_at_call 14; refine (lb_All Lb.fixL va [[97], [98], [97], [103], [100]] _ 1 m (fun _ => True) _ (HLB.out _ (HB.out.trans ((below_new _ _).mono HB.out.size))).1 (ents_more HE.out (below_new _ _)) (strs_built _ [[97], [98], [97], [103], [100]] (by decide)) (by decide) Lb.fix_b (by decide) (by decide) (by rw [Lb.fix_p1]; exact Lb.fix_p1b) (by rw [Lb.fix_p1]; decide) (HLB.out _ (HB.out.trans ((below_new _ _).mono HB.out.size))).2.1 (HLB.out _ (HB.out.trans ((below_new _ _).mono HB.out.size))).2.2).mono ?_; rintro e wn ⟨⟨vc1, vn1, rfl, hC, hN⟩, hb⟩; replace hb := (below_new _ _).trans (hb.mono (Nat.le_of_lt (lt_alloc _ _))); replace HE := Lib.hid (ents_more HE.out hb); replace HB := Lib.hid (HB.out.trans (hb.mono HB.out.size)); replace HF := Lib.hid (SliceIn.below' HF.out hb); replace H3 := Lib.hid (H3.out.below' hb); have HCvc1 := Lib.hid (cit_all hC); have HNvn1 := Lib.hid hN; clear hb hC hN)
  go_upto_region 8 with (go_at_call 14; refine (lb_All Lb.fixL va [[97], [99]] _ 0 m (fun _ => True) _ (HLB.out _ (HB.out.trans ((below_new _ _).mono HB.out.size))).1 (ents_more HE.out (below_new _ _)) (strs_built _ [[97], [99]] (by decide)) (by decide) Lb.fix_b (by decide) (by decide) (by rw [Lb.fix_p2]; exact Lb.fix_p2b) (by rw [Lb.fix_p2]; decide) (HLB.out _ (HB.out.trans ((below_new _ _).mono HB.out.size))).2.1 (HLB.out _ (HB.out.trans ((below_new _ _).mono HB.out.size))).2.2).mono ?_; rintro e wn ⟨⟨vc2, vn2, rfl, hC, hN⟩, hb⟩; replace hb := (below_new _ _).trans (hb.mono (Nat.le_of_lt (lt_alloc _ _))); replace HE := Lib.hid (ents_more HE.out hb); replace HB := Lib.hid (HB.out.trans (hb.mono HB.out.size)); replace HF := Lib.hid (SliceIn.below' HF.out hb); replace H3 := Lib.hid (H3.out.below' hb); replace HCvc1 := Lib.hid (SliceIn.below' HCvc1.out hb); replace HNvn1 := Lib.hid (SliceIn.below' HNvn1.out hb); have HCvc2 := Lib.hid (cit_all hC); have HNvn2 := Lib.hid hN; clear hb hC hN)

  obtain ⟨b1, o1, c1, hv1⟩ := cit_ptr HCvc1.out (by rw [Lb.fix_a1]; rfl)
  obtain ⟨b2, o2, c2, hv2⟩ := cit_ptr HCvc2.out (by rw [Lb.fix_a2]; rfl)
  rw [Lb.fix_a1] at HCvc1 hv1 HNvn1
  rw [Lb.fix_a2] at HCvc2 hv2
  dsimp only [List.length_cons, List.length_nil] at hv1 hv2
  subst hv1; subst hv2
  obtain ⟨b3, o3, hpf, hnf⟩ : ∃ b off, pf = some ⟨b, off, none⟩ ∧ nf = 5 := by
    obtain ⟨pa, ca, hv, _, _, hat⟩ := HF.out
    obtain ⟨b', off', vs, hq, _⟩ := hat 0 _ rfl
    simp only [Value.slice.injEq] at hv
    exact ⟨b', off', hv.1.trans hq, hv.2.1⟩
  subst hpf; subst hnf
  have Hown := Lib.hid (fun (W : World) (S0 : Nat → Prop) (hF : SliceIn S0 2 RFld W (.slice (some ⟨b3, o3, none⟩) 5 cf) Lb.eC2.fields) => show W.cell? ⟨b3, o3 + 2 * 2 + 1, none⟩ = some (.string ⟨#[79, 119, 110]⟩) from by
    obtain ⟨pa, ca, hv, _, _, hat⟩ := hF
    obtain ⟨b', off', vs, hq, _, _, hR, hc⟩ := hat 2 _ rfl
    have hR : vs = _ := hR
    subst hR
    simp only [Value.slice.injEq] at hv
    rw [hq] at hv
    obtain ⟨h1, _⟩ := hv
    simp only [Option.some.injEq, Addr.mk.injEq, and_true] at h1
    obtain ⟨rfl, rfl⟩ := h1
    exact hc 1 _ rfl)
  have e0 := H3.out.c0; have e1 := H3.out.c1; have e2 := H3.out.c2
  go_wp2_with (first
    | (go_at_call 27; refine (entry_get Lb.eC2.fields _ _ _ Lb.authorW _ _ HF.out).mono ?_; rw [Lb.fix_get]; rintro e wg ⟨rfl, hb⟩; replace HB := Lib.hid (HB.out.trans (hb.mono HB.out.size)); replace HF := Lib.hid (SliceIn.below' HF.out hb); replace H3 := Lib.hid (H3.out.below' hb); replace HCvc1 := Lib.hid (SliceIn.below' HCvc1.out hb); replace HCvc2 := Lib.hid (SliceIn.below' HCvc2.out hb); replace HNvn1 := Lib.hid (SliceIn.below' HNvn1.out hb); (have f2 := H3.out.c2); (have fo := Hown.out _ _ HF.out); (have k10 : wg.cell? ⟨b1, o1 + 1, none⟩ = some (.string ⟨#[98]⟩) := (cit_at HCvc1.out (i := 0) rfl rfl).1); (have l10 : wg.cell? ⟨b1, o1 + 3, none⟩ = some (.string ⟨#[75, 110, 117, 56, 52, 97]⟩) := (cit_at HCvc1.out (i := 0) rfl rfl).2.1); (have t10 : wg.cell? ⟨b1, o1 + 4, none⟩ = some (.string ⟨#[68, 46, 32, 75, 110, 117, 116, 104, 46, 32, 83, 46, 32, 49, 57, 56, 52, 46]⟩) := (cit_at HCvc1.out (i := 0) rfl rfl).2.2); (have l11 : wg.cell? ⟨b1, o1 + 5 + 3, none⟩ = some (.string ⟨#[75, 110, 117, 56, 52, 98]⟩) := (cit_at HCvc1.out (i := 1) rfl rfl).2.1); clear hb)
    | (go_at_call 17; refine (ref08_notes _ _ _ _ _ _ _ (SliceIn.below' HNvn1.out (below_new _ _)) (notes_two _)).mono ?_; rw [Lb.fix_nn]; rintro e wh ⟨rfl, hb⟩; replace hb := (below_new _ _).trans (hb.mono (Nat.le_of_lt (lt_alloc _ _))); replace HB := Lib.hid (HB.out.trans (hb.mono HB.out.size)); replace HCvc2 := Lib.hid (SliceIn.below' HCvc2.out hb); (have k20 : wh.cell? ⟨b2, o2 + 1, none⟩ = some (.string ⟨#[99]⟩) := (cit_at HCvc2.out (i := 0) rfl rfl).1); (have l20 : wh.cell? ⟨b2, o2 + 3, none⟩ = some (.string ⟨#[49]⟩) := (cit_at HCvc2.out (i := 0) rfl rfl).2.1); (have l21 : wh.cell? ⟨b2, o2 + 5 + 3, none⟩ = some (.string ⟨#[50]⟩) := (cit_at HCvc2.out (i := 1) rfl rfl).2.1); clear hb)
    | (go_at_call 28; refine (lb_Text entZ (.slice none 0 0) m (fun _ => True) _ (SliceIn.nil _ _ _ _) Lb.entZ_b (HLB.out _ HB.out).2.1 (HLB.out _ HB.out).2.2).mono ?_; rw [Lb.fix_tz]; rintro e wk ⟨rfl, hb⟩; replace HB := Lib.hid (HB.out.trans (hb.mono HB.out.size)); clear hb))
  go_ret
  exact ⟨rfl, HB.out⟩
end Go.Proofs.YtanbcokkfbidbaaGreatDoor
