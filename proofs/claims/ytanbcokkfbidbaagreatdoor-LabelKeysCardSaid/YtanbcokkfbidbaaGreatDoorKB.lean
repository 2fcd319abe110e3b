/- The walk of stetref17.Same, of two lists that read alike. The walk of stetlaw17.Cites. The walk of stetlaw17.keys once more: its answer is never nil. How many fresh keys there are, key by key. Plain Lean. LabelKeys: the law's walk. -/
import Derived.Test.YtanbcokkfbidbaaGreatDoorLbWe
import Derived.Test.YtanbcokkfbidbaaGreatDoorKA
import Derived.Test.YtanbcokkfbidbaaGreatDoorLbS
import Derived.Test.YtanbcokkfbidbaaGreatDoorLawLNum
set_option linter.unusedSimpArgs false
set_option linter.unusedVariables false
namespace Go.Proofs.YtanbcokkfbidbaaGreatDoor
section
open Go.RowKit
theorem one_ent15 {S : Nat → Prop} {B : World} {vf : Value} {x : Ent.Ent} (w : World) (hF : SliceIn S 2 RFld B vf x.fields) (hb : Below B.heap.size B w) (hk : x.fields.length ≤ 1000000000) :
    Ents (fun _ => True) (w.alloc (.cells #[.string ⟨x.kind.toArray⟩, .string ⟨x.key.toArray⟩, vf] 59)) (.slice (some ⟨w.heap.size, 0, none⟩) 1 1) [x] := by
  have h := own_built w w.heap.size 59 3 1 [.string ⟨x.kind.toArray⟩, .string ⟨x.key.toArray⟩, vf] (Nat.le_refl _) rfl (by unfold maxLen; omega)
  exact SliceIn.own h (xs := [x]) ⟨_, _, rfl, ⟨vf, rfl, (SliceIn.below' (SliceIn.below' hF hb) (below_new w _)).kept (fun _ _ => trivial) (Nat.le_refl _) (fun _ _ _ => rfl) (fun _ _ _ h => h)⟩, rfl⟩ (fun x vs hx => REnt.size x vs hx) rfl (fun _ _ => trivial)
theorem cit_row {S S' : Nat → Prop} {W : World} {p : Option Addr} {n c : Nat} {A : List Lb.Cited} (h : SliceIn S 5 (RCit S' W) W (.slice p n c) A) {i : Nat} {a : Lb.Cited} (ha : A[i]? = some a) :
    ∃ b o pf nf cf, p = some ⟨b, o, none⟩ ∧ (b < W.heap.size ∧ W.cell? ⟨b, o + i * 5, none⟩ = some (.string ⟨a.ent.kind.toArray⟩) ∧ W.cell? ⟨b, o + i * 5 + 1, none⟩ = some (.string ⟨a.ent.key.toArray⟩) ∧ W.cell? ⟨b, o + i * 5 + 2, none⟩ = some (.slice pf nf cf) ∧
      W.cell? ⟨b, o + i * 5 + 3, none⟩ = some (.string ⟨a.label.toArray⟩) ∧ W.cell? ⟨b, o + i * 5 + 4, none⟩ = some (.string ⟨a.text.toArray⟩)) ∧ SliceIn S' 2 RFld W (.slice pf nf cf) a.ent.fields := by
  obtain ⟨pa, ca, hv, _, _, hat⟩ := h
  obtain ⟨b, o, vs, rfl, _, hlt, hR, hc⟩ := hat i a ha
  obtain ⟨vf, rfl, hF⟩ := hR
  obtain ⟨p1, n1, c1, rfl⟩ := SliceIn.shape hF
  simp only [Value.slice.injEq] at hv
  exact ⟨b, o, p1, n1, c1, hv.1, ⟨hlt, hc 0 _ rfl, hc 1 _ rfl, hc 2 _ rfl, hc 3 _ rfl, hc 4 _ rfl⟩, hF⟩
theorem row5_below {w W : World} {b o k : Nat} {u0 u1 u2 u3 u4 : Value} (hb : Below w.heap.size w W) (h : b < w.heap.size ∧ w.cell? ⟨b, o + k * 5, none⟩ = some u0 ∧ w.cell? ⟨b, o + k * 5 + 1, none⟩ = some u1 ∧ w.cell? ⟨b, o + k * 5 + 2, none⟩ = some u2 ∧ w.cell? ⟨b, o + k * 5 + 3, none⟩ = some u3 ∧ w.cell? ⟨b, o + k * 5 + 4, none⟩ = some u4) :
    b < W.heap.size ∧ W.cell? ⟨b, o + k * 5, none⟩ = some u0 ∧ W.cell? ⟨b, o + k * 5 + 1, none⟩ = some u1 ∧ W.cell? ⟨b, o + k * 5 + 2, none⟩ = some u2 ∧ W.cell? ⟨b, o + k * 5 + 3, none⟩ = some u3 ∧ W.cell? ⟨b, o + k * 5 + 4, none⟩ = some u4 :=
  ⟨Nat.lt_of_lt_of_le h.1 hb.size, (hb.cell (p := ⟨b, o + k * 5, none⟩) h.1).trans h.2.1, (hb.cell (p := ⟨b, o + k * 5 + 1, none⟩) h.1).trans h.2.2.1, (hb.cell (p := ⟨b, o + k * 5 + 2, none⟩) h.1).trans h.2.2.2.1, (hb.cell (p := ⟨b, o + k * 5 + 3, none⟩) h.1).trans h.2.2.2.2.1, (hb.cell (p := ⟨b, o + k * 5 + 4, none⟩) h.1).trans h.2.2.2.2.2⟩
set_option maxRecDepth 100000 in
set_option maxHeartbeats 1000000 in
theorem ref17_same (A : List Lb.Cited) (va vb : Value) (S S' S2 S2' : Nat → Prop) (w : World) (hA : SliceIn S 5 (RCit S' w) w va A) (hB : SliceIn S2 5 (RCit S2' w) w vb A) (hl : A.length ≤ 1000) (hN : ∀ c ∈ A, c.ent.fields.length ≤ 1000000000) :
    Calls Tryz.prog 15 #[va, vb] w fun e w' => e = .returned (.bool true) ∧ Below w.heap.size w w' := by
  obtain ⟨pa, ca, hva, _⟩ := id hA
  subst hva
  obtain ⟨pb, cb, hvb, _⟩ := id hB
  subst hvb
  have HA := Lib.hid hA; have HB := Lib.hid hB; have Hl := Lib.hid hl; have HN := Lib.hid hN
  clear hA hB hl hN
  go_enter Tryz.func15, Tryz.ntmps15
  go_wp2_with fail
  go_loopw [5] (fun iv wr => ∃ k : Nat, k ≤ A.length ∧ iv = .int .i64 (k : Int) ∧ Below w.heap.size w wr) (fun iv _ => A.length - (intOf iv).toNat)
  case atStart => exact ⟨0, Nat.zero_le _, rfl, Below.refl _ _⟩
  case round =>
    obtain ⟨k, hk, rfl, hb⟩ := hrel
    have Hb := Lib.hid hb
    clear hb
    by_cases hlt : k < A.length
    · obtain ⟨x, hx⟩ : ∃ x, A[k]? = some x := ⟨_, List.getElem?_eq_getElem hlt⟩
      obtain ⟨ba, oa, pa1, na1, ca1, rfl, hra, hFa⟩ := cit_row HA.out hx
      obtain ⟨bb, ob, pb1, nb1, cb1, rfl, hrb, hFb⟩ := cit_row HB.out hx
      obtain ⟨k1, hk1⟩ : ∃ k1, k1 = k + 1 := ⟨_, rfl⟩
      have hlt' : (k : Int) < (A.length : Int) := by omega
      have hwk : IntKind.i64.wrap ((k : Int) + 1) = (k1 : Int) := by rw [IntWalk.i64_in _ (by have := Hl.out; omega)]; omega
      have HNx := Lib.hid (HN.out x (List.mem_of_getElem? hx))
      have Hra := Lib.hid (row5_below Hb.out hra); have Hrb := Lib.hid (row5_below Hb.out hrb); have HFra := Lib.hid (SliceIn.below' hFa Hb.out); have HFrb := Lib.hid (SliceIn.below' hFb Hb.out)
      have Hlt := Lib.hid hlt; have Hk1 := Lib.hid hk1
      clear hra hrb hFa hFb hlt hk1 hx hk
      go_upto_region 6 with fail
      go_cut [56] (fun va W => va = .bool false ∧ Below wr.heap.size wr W)
      case first =>
        refine wp_region_any (by kernel_rfl) ?_
        change wpAny _ _ _ _ _ _ _ (World.drew _)
        have HBd := Lib.hid (Below.drew (Below.refl wr.heap.size wr))
        have Hxa := Lib.hid (row5_below HBd.out Hra.out); have Hxb := Lib.hid (row5_below HBd.out Hrb.out); have HFa := Lib.hid (SliceIn.below' HFra.out HBd.out); have HFb := Lib.hid (SliceIn.below' HFrb.out HBd.out)
        clear Hra Hrb HFra HFrb Hb HA HB
        generalize wr.drew = wd at *
        have hS0 := Below.refl wd.heap.size wd
        have HB_wd := Lib.hid hS0
        refine wpAny_of_held (S := fun W => Below wd.heap.size wd W) _ _ _ _ ?_
        refine wpAnyH_take (i := 0) (v := .slice (some ⟨ba, oa, none⟩) A.length ca) rfl (by kernel_rfl) (by kernel_rfl) (by kernel_rfl) (fun _ _ _ h => h) (Or.inl ⟨by kernel_rfl, fun W hW => by kernel_rfl⟩) (by assumption) ?_
        try simp only [Act.put, List.getElem_toArray, List.getElem_cons_zero, List.getElem_cons_succ, List.setIfInBounds_toArray, List.set_cons_zero, List.set_cons_succ]
        refine wpAnyH_take (i := 1) (v := .int .i64 (k : Int)) rfl (by kernel_rfl) (by kernel_rfl) (by kernel_rfl) (fun _ _ _ h => h) (Or.inl ⟨by kernel_rfl, fun W hW => by kernel_rfl⟩) (by assumption) ?_
        try simp only [Act.put, List.getElem_toArray, List.getElem_cons_zero, List.getElem_cons_succ, List.setIfInBounds_toArray, List.set_cons_zero, List.set_cons_succ]
        refine wpAnyH_take (i := 2) (v := .pointer (some ⟨ba, oa + k * 5, none⟩)) rfl (by kernel_rfl) (by kernel_rfl) (by kernel_rfl) (fun _ _ _ h => h) (Or.inl ⟨by kernel_rfl, fun W hW => by go_simp⟩) (by assumption) ?_
        try simp only [Act.put, List.getElem_toArray, List.getElem_cons_zero, List.getElem_cons_succ, List.setIfInBounds_toArray, List.set_cons_zero, List.set_cons_succ]
        refine wpAnyH_take (i := 3) (v := .pointer (some ⟨ba, oa + k * 5 + 3, none⟩)) rfl (by kernel_rfl) (by kernel_rfl) (by kernel_rfl) (fun _ _ _ h => h) (Or.inl ⟨by kernel_rfl, fun W hW => by go_simp⟩) (by assumption) ?_
        try simp only [Act.put, List.getElem_toArray, List.getElem_cons_zero, List.getElem_cons_succ, List.setIfInBounds_toArray, List.set_cons_zero, List.set_cons_succ]
        refine wpAnyH_take (i := 4) (v := .string ⟨x.label.toArray⟩) rfl (by kernel_rfl) (by kernel_rfl) (by kernel_rfl) (fun _ _ _ h => h) (Or.inl ⟨by kernel_rfl, fun W hW => by (have d1 := Below.cell hW (p := ⟨ba, oa + k * 5 + 3, none⟩) Hxa.out.1; rw [Hxa.out.2.2.2.2.1] at d1; go_simp)⟩) (by assumption) ?_
        try simp only [Act.put, List.getElem_toArray, List.getElem_cons_zero, List.getElem_cons_succ, List.setIfInBounds_toArray, List.set_cons_zero, List.set_cons_succ]
        refine wpAnyH_take (i := 5) (v := .slice (some ⟨bb, ob, none⟩) A.length cb) rfl (by kernel_rfl) (by kernel_rfl) (by kernel_rfl) (fun _ _ _ h => h) (Or.inl ⟨by kernel_rfl, fun W hW => by kernel_rfl⟩) (by assumption) ?_
        try simp only [Act.put, List.getElem_toArray, List.getElem_cons_zero, List.getElem_cons_succ, List.setIfInBounds_toArray, List.set_cons_zero, List.set_cons_succ]
        refine wpAnyH_take (i := 6) (v := .int .i64 (k : Int)) rfl (by kernel_rfl) (by kernel_rfl) (by kernel_rfl) (fun _ _ _ h => h) (Or.inl ⟨by kernel_rfl, fun W hW => by kernel_rfl⟩) (by assumption) ?_
        try simp only [Act.put, List.getElem_toArray, List.getElem_cons_zero, List.getElem_cons_succ, List.setIfInBounds_toArray, List.set_cons_zero, List.set_cons_succ]
        refine wpAnyH_take (i := 7) (v := .pointer (some ⟨bb, ob + k * 5, none⟩)) rfl (by kernel_rfl) (by kernel_rfl) (by kernel_rfl) (fun _ _ _ h => h) (Or.inl ⟨by kernel_rfl, fun W hW => by go_simp⟩) (by assumption) ?_
        try simp only [Act.put, List.getElem_toArray, List.getElem_cons_zero, List.getElem_cons_succ, List.setIfInBounds_toArray, List.set_cons_zero, List.set_cons_succ]
        refine wpAnyH_take (i := 8) (v := .pointer (some ⟨bb, ob + k * 5 + 3, none⟩)) rfl (by kernel_rfl) (by kernel_rfl) (by kernel_rfl) (fun _ _ _ h => h) (Or.inl ⟨by kernel_rfl, fun W hW => by go_simp⟩) (by assumption) ?_
        try simp only [Act.put, List.getElem_toArray, List.getElem_cons_zero, List.getElem_cons_succ, List.setIfInBounds_toArray, List.set_cons_zero, List.set_cons_succ]
        refine wpAnyH_take (i := 9) (v := .string ⟨x.label.toArray⟩) rfl (by kernel_rfl) (by kernel_rfl) (by kernel_rfl) (fun _ _ _ h => h) (Or.inl ⟨by kernel_rfl, fun W hW => by (have d1 := Below.cell hW (p := ⟨bb, ob + k * 5 + 3, none⟩) Hxb.out.1; rw [Hxb.out.2.2.2.2.1] at d1; go_simp)⟩) (by assumption) ?_
        try simp only [Act.put, List.getElem_toArray, List.getElem_cons_zero, List.getElem_cons_succ, List.setIfInBounds_toArray, List.set_cons_zero, List.set_cons_succ]
        refine wpAnyH_take (i := 10) (v := .bool false) rfl (by kernel_rfl) (by kernel_rfl) (by kernel_rfl) (fun _ _ _ h => h) (Or.inl ⟨by kernel_rfl, fun W hW => by go_simp⟩) (by assumption) ?_
        try simp only [Act.put, List.getElem_toArray, List.getElem_cons_zero, List.getElem_cons_succ, List.setIfInBounds_toArray, List.set_cons_zero, List.set_cons_succ]
        refine wpAnyH_take (i := 11) (v := .bool false) rfl (by kernel_rfl) (by kernel_rfl) (by kernel_rfl) (fun _ _ _ h => h) (Or.inl ⟨by kernel_rfl, fun W hW => by kernel_rfl⟩) (by assumption) ?_
        try simp only [Act.put, List.getElem_toArray, List.getElem_cons_zero, List.getElem_cons_succ, List.setIfInBounds_toArray, List.set_cons_zero, List.set_cons_succ]
        refine wpAnyH_take (i := 12) (v := .slice (some ⟨ba, oa, none⟩) A.length ca) rfl (by kernel_rfl) (by kernel_rfl) (by kernel_rfl) (fun _ _ _ h => h) (Or.inl ⟨by kernel_rfl, fun W hW => by kernel_rfl⟩) (by assumption) ?_
        try simp only [Act.put, List.getElem_toArray, List.getElem_cons_zero, List.getElem_cons_succ, List.setIfInBounds_toArray, List.set_cons_zero, List.set_cons_succ]
        refine wpAnyH_take (i := 13) (v := .int .i64 (k : Int)) rfl (by kernel_rfl) (by kernel_rfl) (by kernel_rfl) (fun _ _ _ h => h) (Or.inl ⟨by kernel_rfl, fun W hW => by kernel_rfl⟩) (by assumption) ?_
        try simp only [Act.put, List.getElem_toArray, List.getElem_cons_zero, List.getElem_cons_succ, List.setIfInBounds_toArray, List.set_cons_zero, List.set_cons_succ]
        refine wpAnyH_take (i := 14) (v := .pointer (some ⟨ba, oa + k * 5, none⟩)) rfl (by kernel_rfl) (by kernel_rfl) (by kernel_rfl) (fun _ _ _ h => h) (Or.inl ⟨by kernel_rfl, fun W hW => by go_simp⟩) (by assumption) ?_
        try simp only [Act.put, List.getElem_toArray, List.getElem_cons_zero, List.getElem_cons_succ, List.setIfInBounds_toArray, List.set_cons_zero, List.set_cons_succ]
        refine wpAnyH_take (i := 15) (v := .pointer (some ⟨ba, oa + k * 5 + 4, none⟩)) rfl (by kernel_rfl) (by kernel_rfl) (by kernel_rfl) (fun _ _ _ h => h) (Or.inl ⟨by kernel_rfl, fun W hW => by go_simp⟩) (by assumption) ?_
        try simp only [Act.put, List.getElem_toArray, List.getElem_cons_zero, List.getElem_cons_succ, List.setIfInBounds_toArray, List.set_cons_zero, List.set_cons_succ]
        refine wpAnyH_take (i := 16) (v := .string ⟨x.text.toArray⟩) rfl (by kernel_rfl) (by kernel_rfl) (by kernel_rfl) (fun _ _ _ h => h) (Or.inl ⟨by kernel_rfl, fun W hW => by (have d1 := Below.cell hW (p := ⟨ba, oa + k * 5 + 4, none⟩) Hxa.out.1; rw [Hxa.out.2.2.2.2.2] at d1; go_simp)⟩) (by assumption) ?_
        try simp only [Act.put, List.getElem_toArray, List.getElem_cons_zero, List.getElem_cons_succ, List.setIfInBounds_toArray, List.set_cons_zero, List.set_cons_succ]
        refine wpAnyH_take (i := 17) (v := .slice (some ⟨bb, ob, none⟩) A.length cb) rfl (by kernel_rfl) (by kernel_rfl) (by kernel_rfl) (fun _ _ _ h => h) (Or.inl ⟨by kernel_rfl, fun W hW => by kernel_rfl⟩) (by assumption) ?_
        try simp only [Act.put, List.getElem_toArray, List.getElem_cons_zero, List.getElem_cons_succ, List.setIfInBounds_toArray, List.set_cons_zero, List.set_cons_succ]
        refine wpAnyH_take (i := 18) (v := .int .i64 (k : Int)) rfl (by kernel_rfl) (by kernel_rfl) (by kernel_rfl) (fun _ _ _ h => h) (Or.inl ⟨by kernel_rfl, fun W hW => by kernel_rfl⟩) (by assumption) ?_
        try simp only [Act.put, List.getElem_toArray, List.getElem_cons_zero, List.getElem_cons_succ, List.setIfInBounds_toArray, List.set_cons_zero, List.set_cons_succ]
        refine wpAnyH_take (i := 19) (v := .pointer (some ⟨bb, ob + k * 5, none⟩)) rfl (by kernel_rfl) (by kernel_rfl) (by kernel_rfl) (fun _ _ _ h => h) (Or.inl ⟨by kernel_rfl, fun W hW => by go_simp⟩) (by assumption) ?_
        try simp only [Act.put, List.getElem_toArray, List.getElem_cons_zero, List.getElem_cons_succ, List.setIfInBounds_toArray, List.set_cons_zero, List.set_cons_succ]
        refine wpAnyH_take (i := 20) (v := .pointer (some ⟨bb, ob + k * 5 + 4, none⟩)) rfl (by kernel_rfl) (by kernel_rfl) (by kernel_rfl) (fun _ _ _ h => h) (Or.inl ⟨by kernel_rfl, fun W hW => by go_simp⟩) (by assumption) ?_
        try simp only [Act.put, List.getElem_toArray, List.getElem_cons_zero, List.getElem_cons_succ, List.setIfInBounds_toArray, List.set_cons_zero, List.set_cons_succ]
        refine wpAnyH_take (i := 21) (v := .string ⟨x.text.toArray⟩) rfl (by kernel_rfl) (by kernel_rfl) (by kernel_rfl) (fun _ _ _ h => h) (Or.inl ⟨by kernel_rfl, fun W hW => by (have d1 := Below.cell hW (p := ⟨bb, ob + k * 5 + 4, none⟩) Hxb.out.1; rw [Hxb.out.2.2.2.2.2] at d1; go_simp)⟩) (by assumption) ?_
        try simp only [Act.put, List.getElem_toArray, List.getElem_cons_zero, List.getElem_cons_succ, List.setIfInBounds_toArray, List.set_cons_zero, List.set_cons_succ]
        refine wpAnyH_take (i := 22) (v := .bool false) rfl (by kernel_rfl) (by kernel_rfl) (by kernel_rfl) (fun _ _ _ h => h) (Or.inl ⟨by kernel_rfl, fun W hW => by go_simp⟩) (by assumption) ?_
        try simp only [Act.put, List.getElem_toArray, List.getElem_cons_zero, List.getElem_cons_succ, List.setIfInBounds_toArray, List.set_cons_zero, List.set_cons_succ]
        refine wpAnyH_take (i := 23) (v := .bool false) rfl (by kernel_rfl) (by kernel_rfl) (by kernel_rfl) (fun _ _ _ h => h) (Or.inl ⟨by kernel_rfl, fun W hW => by go_simp⟩) (by assumption) ?_
        try simp only [Act.put, List.getElem_toArray, List.getElem_cons_zero, List.getElem_cons_succ, List.setIfInBounds_toArray, List.set_cons_zero, List.set_cons_succ]
        refine wpAnyH_take (i := 24) (v := .bool false) rfl (by kernel_rfl) (by kernel_rfl) (by kernel_rfl) (fun _ _ _ h => h) (Or.inl ⟨by kernel_rfl, fun W hW => by kernel_rfl⟩) (by assumption) ?_
        try simp only [Act.put, List.getElem_toArray, List.getElem_cons_zero, List.getElem_cons_succ, List.setIfInBounds_toArray, List.set_cons_zero, List.set_cons_succ]
        refine wpAnyH_take (i := 25) (v := .slice (some ⟨ba, oa, none⟩) A.length ca) rfl (by kernel_rfl) (by kernel_rfl) (by kernel_rfl) (fun _ _ _ h => h) (Or.inl ⟨by kernel_rfl, fun W hW => by kernel_rfl⟩) (by assumption) ?_
        try simp only [Act.put, List.getElem_toArray, List.getElem_cons_zero, List.getElem_cons_succ, List.setIfInBounds_toArray, List.set_cons_zero, List.set_cons_succ]
        refine wpAnyH_take (i := 26) (v := .int .i64 (k : Int)) rfl (by kernel_rfl) (by kernel_rfl) (by kernel_rfl) (fun _ _ _ h => h) (Or.inl ⟨by kernel_rfl, fun W hW => by kernel_rfl⟩) (by assumption) ?_
        try simp only [Act.put, List.getElem_toArray, List.getElem_cons_zero, List.getElem_cons_succ, List.setIfInBounds_toArray, List.set_cons_zero, List.set_cons_succ]
        refine wpAnyH_take (i := 27) (v := .pointer (some ⟨ba, oa + k * 5, none⟩)) rfl (by kernel_rfl) (by kernel_rfl) (by kernel_rfl) (fun _ _ _ h => h) (Or.inl ⟨by kernel_rfl, fun W hW => by go_simp⟩) (by assumption) ?_
        try simp only [Act.put, List.getElem_toArray, List.getElem_cons_zero, List.getElem_cons_succ, List.setIfInBounds_toArray, List.set_cons_zero, List.set_cons_succ]
        refine wpAnyH_take (i := 28) (v := .pointer (some ⟨ba, oa + k * 5, none⟩)) rfl (by kernel_rfl) (by kernel_rfl) (by kernel_rfl) (fun _ _ _ h => h) (Or.inl ⟨by kernel_rfl, fun W hW => by go_simp⟩) (by assumption) ?_
        try simp only [Act.put, List.getElem_toArray, List.getElem_cons_zero, List.getElem_cons_succ, List.setIfInBounds_toArray, List.set_cons_zero, List.set_cons_succ]
        refine wpAnyH_take (i := 29) (v := .agg #[.string ⟨x.ent.kind.toArray⟩, .string ⟨x.ent.key.toArray⟩, .slice pa1 na1 ca1]) rfl (by kernel_rfl) (by kernel_rfl) (by kernel_rfl) (fun _ _ _ h => h) (Or.inl ⟨by kernel_rfl, fun W hW => by (have d0 := Below.cell hW (p := ⟨ba, oa + k * 5, none⟩) Hxa.out.1; have d1 := Below.cell hW (p := ⟨ba, oa + k * 5 + 1, none⟩) Hxa.out.1; have d2 := Below.cell hW (p := ⟨ba, oa + k * 5 + 2, none⟩) Hxa.out.1; rw [Hxa.out.2.1] at d0; rw [Hxa.out.2.2.1] at d1; rw [Hxa.out.2.2.2.1] at d2; go_simp)⟩) (by assumption) ?_
        try simp only [Act.put, List.getElem_toArray, List.getElem_cons_zero, List.getElem_cons_succ, List.setIfInBounds_toArray, List.set_cons_zero, List.set_cons_succ]
        refine wpAnyH_take (i := 31) (v := .slice (some ⟨bb, ob, none⟩) A.length cb) rfl (by kernel_rfl) (by kernel_rfl) (by kernel_rfl) (fun _ _ _ h => h) (Or.inl ⟨by kernel_rfl, fun W hW => by kernel_rfl⟩) (by assumption) ?_
        try simp only [Act.put, List.getElem_toArray, List.getElem_cons_zero, List.getElem_cons_succ, List.setIfInBounds_toArray, List.set_cons_zero, List.set_cons_succ]
        refine wpAnyH_take (i := 32) (v := .int .i64 (k : Int)) rfl (by kernel_rfl) (by kernel_rfl) (by kernel_rfl) (fun _ _ _ h => h) (Or.inl ⟨by kernel_rfl, fun W hW => by kernel_rfl⟩) (by assumption) ?_
        try simp only [Act.put, List.getElem_toArray, List.getElem_cons_zero, List.getElem_cons_succ, List.setIfInBounds_toArray, List.set_cons_zero, List.set_cons_succ]
        refine wpAnyH_take (i := 33) (v := .pointer (some ⟨bb, ob + k * 5, none⟩)) rfl (by kernel_rfl) (by kernel_rfl) (by kernel_rfl) (fun _ _ _ h => h) (Or.inl ⟨by kernel_rfl, fun W hW => by go_simp⟩) (by assumption) ?_
        try simp only [Act.put, List.getElem_toArray, List.getElem_cons_zero, List.getElem_cons_succ, List.setIfInBounds_toArray, List.set_cons_zero, List.set_cons_succ]
        refine wpAnyH_take (i := 34) (v := .pointer (some ⟨bb, ob + k * 5, none⟩)) rfl (by kernel_rfl) (by kernel_rfl) (by kernel_rfl) (fun _ _ _ h => h) (Or.inl ⟨by kernel_rfl, fun W hW => by go_simp⟩) (by assumption) ?_
        try simp only [Act.put, List.getElem_toArray, List.getElem_cons_zero, List.getElem_cons_succ, List.setIfInBounds_toArray, List.set_cons_zero, List.set_cons_succ]
        refine wpAnyH_take (i := 35) (v := .agg #[.string ⟨x.ent.kind.toArray⟩, .string ⟨x.ent.key.toArray⟩, .slice pb1 nb1 cb1]) rfl (by kernel_rfl) (by kernel_rfl) (by kernel_rfl) (fun _ _ _ h => h) (Or.inl ⟨by kernel_rfl, fun W hW => by (have d0 := Below.cell hW (p := ⟨bb, ob + k * 5, none⟩) Hxb.out.1; have d1 := Below.cell hW (p := ⟨bb, ob + k * 5 + 1, none⟩) Hxb.out.1; have d2 := Below.cell hW (p := ⟨bb, ob + k * 5 + 2, none⟩) Hxb.out.1; rw [Hxb.out.2.1] at d0; rw [Hxb.out.2.2.1] at d1; rw [Hxb.out.2.2.2.1] at d2; go_simp)⟩) (by assumption) ?_
        try simp only [Act.put, List.getElem_toArray, List.getElem_cons_zero, List.getElem_cons_succ, List.setIfInBounds_toArray, List.set_cons_zero, List.set_cons_succ]
        refine wpAnyH_ready (rs := [30, 36]) (by kernel_rfl) (by simp) ?_
        refine AllReadyH.cons rfl (fun K hK => ?_) (AllReadyH.cons rfl (fun K hK => ?_) AllReadyH.nil)
        · go_simp
          obtain ⟨wq1, hwq1⟩ : ∃ W, W = wd.alloc (.cells #[.string ⟨x.ent.kind.toArray⟩, .string ⟨x.ent.key.toArray⟩, .slice pa1 na1 ca1] 59) := ⟨_, rfl⟩
          have hE_wq1 := one_ent15 wd HFa.out HB_wd.out HNx.out
          rw [← hwq1] at hE_wq1 ⊢
          obtain ⟨gb30, hgb30⟩ : ∃ g, wd.heap.size = g := ⟨_, rfl⟩
          rw [hgb30] at hE_wq1
          try rw [hgb30]
          have hbq : Below wd.heap.size wd wq1 := by rw [hwq1]; exact below_new _ _
          have HB_wq1 := Lib.hid (bseq HB_wd.out hbq); have E30_wq1 := Lib.hid hE_wq1; clear hbq hE_wq1 hwq1 hgb30
          refine hK.out _ _ HB_wq1.out (fun _ => ?_)
          clear K hK
          try simp only [Act.put, List.getElem_toArray, List.getElem_cons_zero, List.getElem_cons_succ, List.setIfInBounds_toArray, List.set_cons_zero, List.set_cons_succ]
          refine wpAnyH_ready (rs := [36]) (by kernel_rfl) (by simp) ?_
          refine AllReadyH.cons rfl (fun K hK => ?_) AllReadyH.nil
          go_simp
          obtain ⟨wq2, hwq2⟩ : ∃ W, W = wq1.alloc (.cells #[.string ⟨x.ent.kind.toArray⟩, .string ⟨x.ent.key.toArray⟩, .slice pb1 nb1 cb1] 59) := ⟨_, rfl⟩
          have hE_wq2 := one_ent15 wq1 HFb.out HB_wq1.out HNx.out
          rw [← hwq2] at hE_wq2 ⊢
          obtain ⟨gb36, hgb36⟩ : ∃ g, wq1.heap.size = g := ⟨_, rfl⟩
          rw [hgb36] at hE_wq2
          try rw [hgb36]
          have hbq : Below wq1.heap.size wq1 wq2 := by rw [hwq2]; exact below_new _ _
          have HB_wq2 := Lib.hid (bseq HB_wq1.out hbq); have E30_wq2 := Lib.hid (Ents.below E30_wq1.out hbq); have E36_wq2 := Lib.hid hE_wq2; clear hbq hE_wq2 hwq2 hgb36
          refine hK.out _ _ HB_wq2.out (fun _ => ?_)
          clear K hK
          try simp only [Act.put, List.getElem_toArray, List.getElem_cons_zero, List.getElem_cons_succ, List.setIfInBounds_toArray, List.set_cons_zero, List.set_cons_succ]
          refine wpAnyH_ready (rs := [37]) (by kernel_rfl) (by simp) ?_
          refine AllReadyH.cons rfl (fun K hK => ?_) AllReadyH.nil
          go_simp
          go_wp2_with (go_at_call 11; refine (ref15_same [x.ent] [x.ent] _ _ _ _ _ E30_wq2.out E36_wq2.out).mono ?_; rw [decide_eq_true (Eq.refl [x.ent])]; rintro e wq3 ⟨rfl, hbq⟩; have HB_wq3 := Lib.hid (bseq HB_wq2.out hbq); clear hbq)
          refine hK.out _ _ HB_wq3.out (fun _ => ?_)
          clear K hK
          try simp only [Act.put, List.getElem_toArray, List.getElem_cons_zero, List.getElem_cons_succ, List.setIfInBounds_toArray, List.set_cons_zero, List.set_cons_succ]
          refine wpAnyH_take (i := 38) (v := .bool false) rfl (by kernel_rfl) (by kernel_rfl) (by kernel_rfl) (fun _ _ _ h => h) (Or.inl ⟨by kernel_rfl, fun W hW => by go_simp⟩) (by assumption) ?_
          try simp only [Act.put, List.getElem_toArray, List.getElem_cons_zero, List.getElem_cons_succ, List.setIfInBounds_toArray, List.set_cons_zero, List.set_cons_succ]
          refine wpAnyH_take (i := 39) (v := .bool false) rfl (by kernel_rfl) (by kernel_rfl) (by kernel_rfl) (fun _ _ _ h => h) (Or.inl ⟨by kernel_rfl, fun W hW => by go_simp⟩) (by assumption) ?_
          try simp only [Act.put, List.getElem_toArray, List.getElem_cons_zero, List.getElem_cons_succ, List.setIfInBounds_toArray, List.set_cons_zero, List.set_cons_succ]
          refine wpAnyH_done (by kernel_rfl) ?_ _
          go_wp2_with fail
          go_meet
          exact ⟨rfl, HBd.out.trans (HB_wq3.out.mono HBd.out.size)⟩
        · go_simp
          obtain ⟨wq4, hwq4⟩ : ∃ W, W = wd.alloc (.cells #[.string ⟨x.ent.kind.toArray⟩, .string ⟨x.ent.key.toArray⟩, .slice pb1 nb1 cb1] 59) := ⟨_, rfl⟩
          have hE_wq4 := one_ent15 wd HFb.out HB_wd.out HNx.out
          rw [← hwq4] at hE_wq4 ⊢
          obtain ⟨gb36, hgb36⟩ : ∃ g, wd.heap.size = g := ⟨_, rfl⟩
          rw [hgb36] at hE_wq4
          try rw [hgb36]
          have hbq : Below wd.heap.size wd wq4 := by rw [hwq4]; exact below_new _ _
          have HB_wq4 := Lib.hid (bseq HB_wd.out hbq); have E36_wq4 := Lib.hid hE_wq4; clear hbq hE_wq4 hwq4 hgb36
          refine hK.out _ _ HB_wq4.out (fun _ => ?_)
          clear K hK
          try simp only [Act.put, List.getElem_toArray, List.getElem_cons_zero, List.getElem_cons_succ, List.setIfInBounds_toArray, List.set_cons_zero, List.set_cons_succ]
          refine wpAnyH_ready (rs := [30]) (by kernel_rfl) (by simp) ?_
          refine AllReadyH.cons rfl (fun K hK => ?_) AllReadyH.nil
          go_simp
          obtain ⟨wq5, hwq5⟩ : ∃ W, W = wq4.alloc (.cells #[.string ⟨x.ent.kind.toArray⟩, .string ⟨x.ent.key.toArray⟩, .slice pa1 na1 ca1] 59) := ⟨_, rfl⟩
          have hE_wq5 := one_ent15 wq4 HFa.out HB_wq4.out HNx.out
          rw [← hwq5] at hE_wq5 ⊢
          obtain ⟨gb30, hgb30⟩ : ∃ g, wq4.heap.size = g := ⟨_, rfl⟩
          rw [hgb30] at hE_wq5
          try rw [hgb30]
          have hbq : Below wq4.heap.size wq4 wq5 := by rw [hwq5]; exact below_new _ _
          have HB_wq5 := Lib.hid (bseq HB_wq4.out hbq); have E36_wq5 := Lib.hid (Ents.below E36_wq4.out hbq); have E30_wq5 := Lib.hid hE_wq5; clear hbq hE_wq5 hwq5 hgb30
          refine hK.out _ _ HB_wq5.out (fun _ => ?_)
          clear K hK
          try simp only [Act.put, List.getElem_toArray, List.getElem_cons_zero, List.getElem_cons_succ, List.setIfInBounds_toArray, List.set_cons_zero, List.set_cons_succ]
          refine wpAnyH_ready (rs := [37]) (by kernel_rfl) (by simp) ?_
          refine AllReadyH.cons rfl (fun K hK => ?_) AllReadyH.nil
          go_simp
          go_wp2_with (go_at_call 11; refine (ref15_same [x.ent] [x.ent] _ _ _ _ _ E30_wq5.out E36_wq5.out).mono ?_; rw [decide_eq_true (Eq.refl [x.ent])]; rintro e wq6 ⟨rfl, hbq⟩; have HB_wq6 := Lib.hid (bseq HB_wq5.out hbq); clear hbq)
          refine hK.out _ _ HB_wq6.out (fun _ => ?_)
          clear K hK
          try simp only [Act.put, List.getElem_toArray, List.getElem_cons_zero, List.getElem_cons_succ, List.setIfInBounds_toArray, List.set_cons_zero, List.set_cons_succ]
          refine wpAnyH_take (i := 38) (v := .bool false) rfl (by kernel_rfl) (by kernel_rfl) (by kernel_rfl) (fun _ _ _ h => h) (Or.inl ⟨by kernel_rfl, fun W hW => by go_simp⟩) (by assumption) ?_
          try simp only [Act.put, List.getElem_toArray, List.getElem_cons_zero, List.getElem_cons_succ, List.setIfInBounds_toArray, List.set_cons_zero, List.set_cons_succ]
          refine wpAnyH_take (i := 39) (v := .bool false) rfl (by kernel_rfl) (by kernel_rfl) (by kernel_rfl) (fun _ _ _ h => h) (Or.inl ⟨by kernel_rfl, fun W hW => by go_simp⟩) (by assumption) ?_
          try simp only [Act.put, List.getElem_toArray, List.getElem_cons_zero, List.getElem_cons_succ, List.setIfInBounds_toArray, List.set_cons_zero, List.set_cons_succ]
          refine wpAnyH_done (by kernel_rfl) ?_ _
          go_wp2_with fail
          go_meet
          exact ⟨rfl, HBd.out.trans (HB_wq6.out.mono HBd.out.size)⟩
      case rest =>
        obtain ⟨rfl, hbc⟩ := hcut
        have Hbc := Lib.hid (bseq Hb.out hbc)
        clear hbc
        go_wp2_with fail
        go_roundw
        case rel => exact ⟨k1, by have := Hlt.out; have := Hk1.out; omega, rfl, Hbc.out⟩
        case measure => have := Hlt.out; have := Hk1.out; simp [intOf]; omega
    · have hlt' : ¬ (k : Int) < (A.length : Int) := by omega
      clear hlt
      go_wp2_with fail
      go_ret
      exact ⟨rfl, Hb.out⟩
end
section
open Go.RowKit
theorem RCit.moved {S S' : Nat → Prop} {w w' : World} {c : Lb.Cited} {vs : List Value} (h : RCit S w c vs) (hk : ∀ b, S b → b < w.heap.size → S' b ∧ w'.heap[b]? = w.heap[b]?) (hz : w.heap.size ≤ w'.heap.size) : RCit S' w' c vs := by
  obtain ⟨vf, rfl, hF⟩ := h
  exact ⟨vf, rfl, hF.moved hk hz (fun _ _ _ h => h)⟩
theorem rcit_info : (Tryz.prog.info? 75).map (fun i => (i.zero, i.size, i.bytes)) = some (some (.agg #[.string ⟨#[]⟩, .string ⟨#[]⟩, .slice none 0 0, .string ⟨#[]⟩, .string ⟨#[]⟩]), 5, 88) := by kernel_rfl
/-- cited entries as they are copied -/
def Couts (B : Nat) (t : TypeId) (W : World) (vo : Value) (out : List Lb.Cited) : Prop := ∃ fl, W.ownsRow B t 5 vo out.length fl ∧ RepRow (RCit (fun j => B ≤ j ∧ vo.ownBlock ≠ some j) W) out fl
theorem Couts.more {B : Nat} {t : TypeId} {W W' : World} {vo vo' vf : Value} {out : List Lb.Cited} {x : Lb.Cited} {fl : List Value} (hz : B ≤ W.heap.size) (hrep : RepRow (RCit (fun j => B ≤ j ∧ vo.ownBlock ≠ some j) W) out fl)
    (hx : SliceIn (fun j => B ≤ j ∧ vo.ownBlock ≠ some j) 2 RFld W vf x.ent.fields) (hown : W'.ownsRow B t 5 vo' (out.length + 1) (fl ++ [.string ⟨x.ent.kind.toArray⟩, .string ⟨x.ent.key.toArray⟩, vf, .string ⟨x.label.toArray⟩, .string ⟨x.text.toArray⟩])) (hg : W.grownBy W' vo.ownBlock)
    (hat : vo'.ownBlock = vo.ownBlock ∨ vo'.ownBlock = some (W.heap.size + 1)) : Couts B t W' vo' (out ++ [x]) := by
  have hk : ∀ j, (B ≤ j ∧ vo.ownBlock ≠ some j) → j < W.heap.size → (B ≤ j ∧ vo'.ownBlock ≠ some j) ∧ W'.heap[j]? = W.heap[j]? := fun j hj hlt => by
    refine ⟨⟨hj.1, ?_⟩, hg.block j hlt (fun e => hj.2 e.symm)⟩
    rcases hat with e | e
    · rw [e]; exact hj.2
    · rw [e]; intro e2; injection e2 with e2; omega
  refine ⟨_, ?_, RepRow.snoc (x := x) ⟨vf, rfl, hx.moved hk hg.size (fun _ _ _ h => h)⟩ (hrep.imp (fun y us _ hy => hy.moved hk hg.size))⟩
  rw [List.length_append]
  exact hown
theorem Couts.all {B : Nat} {t : TypeId} {W : World} {vo : Value} {out : List Lb.Cited} (h : Couts B t W vo out) : SliceIn (fun _ => True) 5 (RCit (fun _ => True) W) W vo out := by
  obtain ⟨fl, h1, h2⟩ := h
  exact SliceIn.own h1 (h2.imp fun x vs _ hx => RCit.moved hx (fun _ _ _ => ⟨trivial, rfl⟩) (Nat.le_refl _)) RCit.size rfl (fun _ _ => trivial)
theorem Outs.one {B : Nat} {t : TypeId} {W : World} {vr : Value} {x : Ent.Ent} (h : Outs B t W vr [x]) :
    ∃ b o pf nf cf c, vr = .slice (some ⟨b, o, none⟩) 1 c ∧ W.cell? ⟨b, o, none⟩ = some (.string ⟨x.kind.toArray⟩) ∧ W.cell? ⟨b, o + 1, none⟩ = some (.string ⟨x.key.toArray⟩) ∧ W.cell? ⟨b, o + 2, none⟩ = some (.slice pf nf cf) ∧ SliceIn (fun j => B ≤ j) 2 RFld W (.slice pf nf cf) x.fields := by
  obtain ⟨fl, h1, h2⟩ := h
  have hE : SliceIn (fun j => B ≤ j) 3 (REnt (fun j => B ≤ j) W) W vr [x] := SliceIn.own h1 (h2.imp fun x vs _ hx => REnt.kept hx (fun _ h => h.1) (Nat.le_refl _) (fun _ _ _ => rfl)) (fun x vs hx => REnt.size x vs hx) rfl (fun b e => (h1.lt b e).1)
  obtain ⟨pa, ca, hv, _, _, hat⟩ := hE
  obtain ⟨b, o, vs, rfl, _, hlt, hR, hc⟩ := hat 0 x rfl
  obtain ⟨vf, rfl, hF⟩ := hR
  obtain ⟨p1, n1, c1, rfl⟩ := SliceIn.shape hF
  have e0 := hc 0 _ rfl; have e1 := hc 1 _ rfl; have e2 := hc 2 _ rfl
  simp only [Nat.zero_mul, Nat.zero_add, Nat.add_zero] at e0 e1 e2
  exact ⟨b, o, p1, n1, c1, ca, hv, e0, e1, e2, hF⟩
theorem row5_grown {w W : World} {ob : Option Nat} {b o k : Nat} {u0 u1 u2 u3 u4 : Value} (hg : w.grownBy W ob) (hne : ob ≠ some b) (h : b < w.heap.size ∧ w.cell? ⟨b, o + k * 5, none⟩ = some u0 ∧ w.cell? ⟨b, o + k * 5 + 1, none⟩ = some u1 ∧ w.cell? ⟨b, o + k * 5 + 2, none⟩ = some u2 ∧ w.cell? ⟨b, o + k * 5 + 3, none⟩ = some u3 ∧ w.cell? ⟨b, o + k * 5 + 4, none⟩ = some u4) :
    b < W.heap.size ∧ W.cell? ⟨b, o + k * 5, none⟩ = some u0 ∧ W.cell? ⟨b, o + k * 5 + 1, none⟩ = some u1 ∧ W.cell? ⟨b, o + k * 5 + 2, none⟩ = some u2 ∧ W.cell? ⟨b, o + k * 5 + 3, none⟩ = some u3 ∧ W.cell? ⟨b, o + k * 5 + 4, none⟩ = some u4 :=
  ⟨Nat.lt_of_lt_of_le h.1 hg.size, (grown_cell hg h.1 hne _).trans h.2.1, (grown_cell hg h.1 hne _).trans h.2.2.1, (grown_cell hg h.1 hne _).trans h.2.2.2.1, (grown_cell hg h.1 hne _).trans h.2.2.2.2.1, (grown_cell hg h.1 hne _).trans h.2.2.2.2.2⟩
theorem Couts.form {B : Nat} {t : TypeId} {W : World} {vo : Value} {out : List Lb.Cited} (h : Couts B t W vo out) : ∃ p n c, vo = .slice p n c := by
  obtain ⟨fl, h1, _⟩ := h
  rcases h1.2 with ⟨h, _⟩ | ⟨g, cap, cur, h, _⟩
  · exact ⟨_, _, _, h⟩
  · exact ⟨_, _, _, h⟩
set_option maxRecDepth 100000 in
set_option maxHeartbeats 1000000 in
theorem law17_cites (A : List Lb.Cited) (va : Value) (S S' : Nat → Prop) (w : World) (hA : SliceIn S 5 (RCit S' w) w va A) (hl : A.length ≤ 1000) (hN : ∀ c ∈ A, c.ent.fields.length ≤ 1000000000) :
    Calls Tryz.prog 16 #[va] w fun e w' => ∃ vo, e = .returned vo ∧ SliceIn (fun _ => True) 5 (RCit (fun _ => True) w') w' vo A ∧ Below w.heap.size w w' := by
  obtain ⟨pa, ca, hva, _⟩ := id hA
  subst hva
  obtain ⟨i0, hi, hz0, hz1, hz2⟩ := info_parts rcit_info
  have Hi := Lib.hid hi; have Hz0 := Lib.hid hz0; have Hz1 := Lib.hid hz1; have Hz2 := Lib.hid hz2
  have HA := Lib.hid hA; have Hl := Lib.hid hl; have HN := Lib.hid hN
  clear hA hl hN hi hz0 hz1 hz2
  go_enter Tryz.func16, Tryz.ntmps16
  go_wp2_with fail
  go_loopw [3, 4] (fun vo iv wr => ∃ k : Nat, k ≤ A.length ∧ iv = .int .i64 (k : Int) ∧ Couts w.heap.size 75 wr vo (A.take k) ∧ Below w.heap.size w wr) (fun _ iv _ => A.length - (intOf iv).toNat)
  case atStart => exact ⟨0, Nat.zero_le _, rfl, ⟨[], own_built w _ _ 5 0 [] (Nat.le_refl _) rfl (by unfold maxLen; omega), rfl⟩, below_new w _⟩
  case round =>
    obtain ⟨k, hk, rfl, hO, hb⟩ := hrel
    obtain ⟨pv, nv, cv, hvo⟩ := hO.form
    subst hvo
    have HO := Lib.hid hO; have Hb := Lib.hid hb
    clear hO hb
    by_cases hlt : k < A.length
    · obtain ⟨x, hx⟩ : ∃ x, A[k]? = some x := ⟨_, List.getElem?_eq_getElem hlt⟩
      obtain ⟨ba, oa, pa1, na1, ca1, rfl, hra, hFa⟩ := cit_row HA.out hx
      obtain ⟨k1, hk1⟩ : ∃ k1, k1 = k + 1 := ⟨_, rfl⟩
      have hlt' : (k : Int) < (A.length : Int) := by omega
      have Hwk := Lib.hid (show IntKind.i64.wrap ((k : Int) + 1) = (k1 : Int) by rw [IntWalk.i64_in _ (by have := Hl.out; omega)]; omega)
      have HNx := Lib.hid (HN.out x (List.mem_of_getElem? hx))
      have Hbw := Lib.hid hra.1
      have Htk := Lib.hid (show A.take k1 = A.take k ++ [x] by rw [hk1, List.take_add_one, hx]; rfl)
      have Htl := Lib.hid (show (A.take k).length ≤ 1000 by rw [List.length_take]; have := Hl.out; omega)
      have Hra := Lib.hid (row5_below Hb.out hra); have HFra := Lib.hid (SliceIn.below' hFa Hb.out)
      have Hlt := Lib.hid hlt; have Hk1 := Lib.hid hk1
      obtain ⟨fl, hown, hrep⟩ := HO.out
      have Hownr := Lib.hid hown; have Hrepr := Lib.hid hrep
      clear hra hFa hlt hk1 hx hk hown hrep
      go_upto_region 5 with fail
      refine wp_region_any (by kernel_rfl) ?_
      change wpAny _ _ _ _ _ _ _ (World.drew _)
      have hbd : Below wr.heap.size wr wr.drew := (Below.refl _ _).drew
      have HS := Lib.hid (row5_below hbd Hra.out); have HFd := Lib.hid (SliceIn.below' HFra.out hbd); have Hown := Lib.hid (own_below Hownr.out hbd); have HBd := Lib.hid Hb.out.drew
      have Hrep := Lib.hid (Hrepr.out.imp (fun y us _ hy => RCit.moved hy (fun j hj hlt => ⟨hj, hbd.block j hlt⟩) hbd.size))
      clear Hra HFra Hb HA HO Hownr Hrepr hbd
      generalize wr.drew = wd at *
      have hS0 := HS.out
      refine wpAny_of_held (S := fun W => ba < W.heap.size ∧ W.cell? ⟨ba, oa + k * 5, none⟩ = some (.string ⟨x.ent.kind.toArray⟩) ∧ W.cell? ⟨ba, oa + k * 5 + 1, none⟩ = some (.string ⟨x.ent.key.toArray⟩) ∧ W.cell? ⟨ba, oa + k * 5 + 2, none⟩ = some (.slice pa1 na1 ca1) ∧ W.cell? ⟨ba, oa + k * 5 + 3, none⟩ = some (.string ⟨x.label.toArray⟩) ∧ W.cell? ⟨ba, oa + k * 5 + 4, none⟩ = some (.string ⟨x.text.toArray⟩)) _ _ _ _ ?_
      refine wpAnyH_take (i := 0) (v := .slice pv nv cv) rfl (by kernel_rfl) (by kernel_rfl) (by kernel_rfl) (fun _ _ _ h => h) (Or.inl ⟨by kernel_rfl, fun W hW => by kernel_rfl⟩) (by assumption) ?_
      try simp only [Act.put, List.getElem_toArray, List.getElem_cons_zero, List.getElem_cons_succ, List.setIfInBounds_toArray, List.set_cons_zero, List.set_cons_succ]
      refine wpAnyH_take (i := 1) (v := .slice (some ⟨ba, oa, none⟩) A.length ca) rfl (by kernel_rfl) (by kernel_rfl) (by kernel_rfl) (fun _ _ _ h => h) (Or.inl ⟨by kernel_rfl, fun W hW => by kernel_rfl⟩) (by assumption) ?_
      try simp only [Act.put, List.getElem_toArray, List.getElem_cons_zero, List.getElem_cons_succ, List.setIfInBounds_toArray, List.set_cons_zero, List.set_cons_succ]
      refine wpAnyH_take (i := 2) (v := .int .i64 (k : Int)) rfl (by kernel_rfl) (by kernel_rfl) (by kernel_rfl) (fun _ _ _ h => h) (Or.inl ⟨by kernel_rfl, fun W hW => by kernel_rfl⟩) (by assumption) ?_
      try simp only [Act.put, List.getElem_toArray, List.getElem_cons_zero, List.getElem_cons_succ, List.setIfInBounds_toArray, List.set_cons_zero, List.set_cons_succ]
      refine wpAnyH_take (i := 3) (v := .pointer (some ⟨ba, oa + k * 5, none⟩)) rfl (by kernel_rfl) (by kernel_rfl) (by kernel_rfl) (fun _ _ _ h => h) (Or.inl ⟨by kernel_rfl, fun W hW => by go_simp⟩) (by assumption) ?_
      try simp only [Act.put, List.getElem_toArray, List.getElem_cons_zero, List.getElem_cons_succ, List.setIfInBounds_toArray, List.set_cons_zero, List.set_cons_succ]
      refine wpAnyH_take (i := 4) (v := .pointer (some ⟨ba, oa + k * 5, none⟩)) rfl (by kernel_rfl) (by kernel_rfl) (by kernel_rfl) (fun _ _ _ h => h) (Or.inl ⟨by kernel_rfl, fun W hW => by go_simp⟩) (by assumption) ?_
      try simp only [Act.put, List.getElem_toArray, List.getElem_cons_zero, List.getElem_cons_succ, List.setIfInBounds_toArray, List.set_cons_zero, List.set_cons_succ]
      refine wpAnyH_take (i := 5) (v := .agg #[.string ⟨x.ent.kind.toArray⟩, .string ⟨x.ent.key.toArray⟩, .slice pa1 na1 ca1]) rfl (by kernel_rfl) (by kernel_rfl) (by kernel_rfl) (fun _ _ _ h => h) (Or.inl ⟨by kernel_rfl, fun W hW => by (obtain ⟨_, d0, d1, d2, d3, d4⟩ := hW; go_simp)⟩) (by assumption) ?_
      try simp only [Act.put, List.getElem_toArray, List.getElem_cons_zero, List.getElem_cons_succ, List.setIfInBounds_toArray, List.set_cons_zero, List.set_cons_succ]
      refine wpAnyH_take (i := 10) (v := .slice (some ⟨ba, oa, none⟩) A.length ca) rfl (by kernel_rfl) (by kernel_rfl) (by kernel_rfl) (fun _ _ _ h => h) (Or.inl ⟨by kernel_rfl, fun W hW => by kernel_rfl⟩) (by assumption) ?_
      try simp only [Act.put, List.getElem_toArray, List.getElem_cons_zero, List.getElem_cons_succ, List.setIfInBounds_toArray, List.set_cons_zero, List.set_cons_succ]
      refine wpAnyH_take (i := 11) (v := .int .i64 (k : Int)) rfl (by kernel_rfl) (by kernel_rfl) (by kernel_rfl) (fun _ _ _ h => h) (Or.inl ⟨by kernel_rfl, fun W hW => by kernel_rfl⟩) (by assumption) ?_
      try simp only [Act.put, List.getElem_toArray, List.getElem_cons_zero, List.getElem_cons_succ, List.setIfInBounds_toArray, List.set_cons_zero, List.set_cons_succ]
      refine wpAnyH_take (i := 12) (v := .pointer (some ⟨ba, oa + k * 5, none⟩)) rfl (by kernel_rfl) (by kernel_rfl) (by kernel_rfl) (fun _ _ _ h => h) (Or.inl ⟨by kernel_rfl, fun W hW => by go_simp⟩) (by assumption) ?_
      try simp only [Act.put, List.getElem_toArray, List.getElem_cons_zero, List.getElem_cons_succ, List.setIfInBounds_toArray, List.set_cons_zero, List.set_cons_succ]
      refine wpAnyH_take (i := 13) (v := .pointer (some ⟨ba, oa + k * 5 + 3, none⟩)) rfl (by kernel_rfl) (by kernel_rfl) (by kernel_rfl) (fun _ _ _ h => h) (Or.inl ⟨by kernel_rfl, fun W hW => by go_simp⟩) (by assumption) ?_
      try simp only [Act.put, List.getElem_toArray, List.getElem_cons_zero, List.getElem_cons_succ, List.setIfInBounds_toArray, List.set_cons_zero, List.set_cons_succ]
      refine wpAnyH_take (i := 14) (v := .string ⟨x.label.toArray⟩) rfl (by kernel_rfl) (by kernel_rfl) (by kernel_rfl) (fun _ _ _ h => h) (Or.inl ⟨by kernel_rfl, fun W hW => by (obtain ⟨_, d0, d1, d2, d3, d4⟩ := hW; go_simp)⟩) (by assumption) ?_
      try simp only [Act.put, List.getElem_toArray, List.getElem_cons_zero, List.getElem_cons_succ, List.setIfInBounds_toArray, List.set_cons_zero, List.set_cons_succ]
      refine wpAnyH_take (i := 15) (v := .slice (some ⟨ba, oa, none⟩) A.length ca) rfl (by kernel_rfl) (by kernel_rfl) (by kernel_rfl) (fun _ _ _ h => h) (Or.inl ⟨by kernel_rfl, fun W hW => by kernel_rfl⟩) (by assumption) ?_
      try simp only [Act.put, List.getElem_toArray, List.getElem_cons_zero, List.getElem_cons_succ, List.setIfInBounds_toArray, List.set_cons_zero, List.set_cons_succ]
      refine wpAnyH_take (i := 16) (v := .int .i64 (k : Int)) rfl (by kernel_rfl) (by kernel_rfl) (by kernel_rfl) (fun _ _ _ h => h) (Or.inl ⟨by kernel_rfl, fun W hW => by kernel_rfl⟩) (by assumption) ?_
      try simp only [Act.put, List.getElem_toArray, List.getElem_cons_zero, List.getElem_cons_succ, List.setIfInBounds_toArray, List.set_cons_zero, List.set_cons_succ]
      refine wpAnyH_take (i := 17) (v := .pointer (some ⟨ba, oa + k * 5, none⟩)) rfl (by kernel_rfl) (by kernel_rfl) (by kernel_rfl) (fun _ _ _ h => h) (Or.inl ⟨by kernel_rfl, fun W hW => by go_simp⟩) (by assumption) ?_
      try simp only [Act.put, List.getElem_toArray, List.getElem_cons_zero, List.getElem_cons_succ, List.setIfInBounds_toArray, List.set_cons_zero, List.set_cons_succ]
      refine wpAnyH_take (i := 18) (v := .pointer (some ⟨ba, oa + k * 5 + 4, none⟩)) rfl (by kernel_rfl) (by kernel_rfl) (by kernel_rfl) (fun _ _ _ h => h) (Or.inl ⟨by kernel_rfl, fun W hW => by go_simp⟩) (by assumption) ?_
      try simp only [Act.put, List.getElem_toArray, List.getElem_cons_zero, List.getElem_cons_succ, List.setIfInBounds_toArray, List.set_cons_zero, List.set_cons_succ]
      refine wpAnyH_take (i := 19) (v := .string ⟨x.text.toArray⟩) rfl (by kernel_rfl) (by kernel_rfl) (by kernel_rfl) (fun _ _ _ h => h) (Or.inl ⟨by kernel_rfl, fun W hW => by (obtain ⟨_, d0, d1, d2, d3, d4⟩ := hW; go_simp)⟩) (by assumption) ?_
      try simp only [Act.put, List.getElem_toArray, List.getElem_cons_zero, List.getElem_cons_succ, List.setIfInBounds_toArray, List.set_cons_zero, List.set_cons_succ]
      refine wpAnyH_ready (rs := [6]) (by kernel_rfl) (by simp) ?_
      refine AllReadyH.cons rfl (fun K hK => ?_) AllReadyH.nil
      go_simp
      obtain ⟨wa, hwa⟩ : ∃ W, W = wd.alloc (.cells #[.string ⟨x.ent.kind.toArray⟩, .string ⟨x.ent.key.toArray⟩, .slice pa1 na1 ca1] 27) := ⟨_, rfl⟩
      have hE := one_ent wd HFd.out (Below.refl _ _) HNx.out
      rw [← hwa] at hE ⊢
      obtain ⟨gb, hgb⟩ : ∃ g, wd.heap.size = g := ⟨_, rfl⟩
      rw [hgb] at hE
      try rw [hgb]
      have hba : Below wd.heap.size wd wa := by rw [hwa]; exact below_new _ _
      have HBa := Lib.hid hba; have HE := Lib.hid hE; clear hba hE hwa hgb
      refine hK.out _ _ (row5_below HBa.out HS.out) (fun _ => ?_)
      clear K hK
      try simp only [Act.put, List.getElem_toArray, List.getElem_cons_zero, List.getElem_cons_succ, List.setIfInBounds_toArray, List.set_cons_zero, List.set_cons_succ]
      refine wpAnyH_ready (rs := [7]) (by kernel_rfl) (by simp) ?_
      refine AllReadyH.cons rfl (fun K hK => ?_) AllReadyH.nil
      go_simp
      go_wp2_with (go_at_call 9; refine (law_refs [x.ent] _ _ _ HE.out (by simp) (by intro a ha; simp at ha; subst ha; exact HNx.out)).mono ?_; rintro e w5 ⟨vr, rfl, hO, hb5⟩; have HB5 := Lib.hid (bseq HBa.out hb5); obtain ⟨bv, ov, pf, nf, cf, cvr, hvr, q0, q1, q2, hF5⟩ := hO.one; subst hvr; have HF5 := Lib.hid (hF5.kept (fun j hj => Nat.le_trans HBa.out.size hj) (Nat.le_refl _) (fun _ _ _ => rfl) (fun _ _ _ h => h)); clear hO hb5 hF5)
      refine hK.out _ _ (row5_below HB5.out HS.out) (fun _ => ?_)
      clear K hK
      try simp only [Act.put, List.getElem_toArray, List.getElem_cons_zero, List.getElem_cons_succ, List.setIfInBounds_toArray, List.set_cons_zero, List.set_cons_succ]
      refine wpAnyH_take (i := 8) (v := .pointer (some ⟨bv, ov, none⟩)) rfl (by kernel_rfl) (by kernel_rfl) (by kernel_rfl) (fun _ _ _ h => h) (Or.inl ⟨by kernel_rfl, fun W hW => by go_simp⟩) (by assumption) ?_
      try simp only [Act.put, List.getElem_toArray, List.getElem_cons_zero, List.getElem_cons_succ, List.setIfInBounds_toArray, List.set_cons_zero, List.set_cons_succ]
      refine wpAnyH_ready (rs := [9]) (by kernel_rfl) (by simp) ?_
      refine AllReadyH.cons rfl (fun K hK => ?_) AllReadyH.nil
      go_simp
      refine hK.out _ _ (row5_below HB5.out HS.out) (fun _ => ?_)
      clear K hK
      try simp only [Act.put, List.getElem_toArray, List.getElem_cons_zero, List.getElem_cons_succ, List.setIfInBounds_toArray, List.set_cons_zero, List.set_cons_succ]
      refine wpAnyH_take (i := 20) (v := .agg #[.string ⟨x.ent.kind.toArray⟩, .string ⟨x.ent.key.toArray⟩, .slice pf nf cf, .string ⟨x.label.toArray⟩, .string ⟨x.text.toArray⟩]) rfl (by kernel_rfl) (by kernel_rfl) (by kernel_rfl) (fun _ _ _ h => h) (Or.inl ⟨by kernel_rfl, fun W hW => by go_simp⟩) (by assumption) ?_
      try simp only [Act.put, List.getElem_toArray, List.getElem_cons_zero, List.getElem_cons_succ, List.setIfInBounds_toArray, List.set_cons_zero, List.set_cons_succ]
      have Hown5 := Lib.hid (own_below Hown.out HB5.out)
      refine wpAnyH_ready (rs := [21]) (by kernel_rfl) (by simp) ?_
      refine AllReadyH.cons rfl (fun K hK => ?_) AllReadyH.nil
      go_simp
      refine hK.out _ _ (row5_below (below_new _ _) (row5_below HB5.out HS.out)) (fun _ => ?_)
      clear K hK
      try simp only [Act.put, List.getElem_toArray, List.getElem_cons_zero, List.getElem_cons_succ, List.setIfInBounds_toArray, List.set_cons_zero, List.set_cons_succ]
      refine wpAnyH_ready (rs := [22]) (by kernel_rfl) (by simp) ?_
      refine AllReadyH.cons rfl (fun K hK => ?_) AllReadyH.nil
      rw [if_pos (by kernel_rfl)]
      refine wp_append1 (.tmp 12) (.tmp 33) 42 rfl w.heap.size 75 i0 (.agg #[.string ⟨#[]⟩, .string ⟨#[]⟩, .slice none 0 0, .string ⟨#[]⟩, .string ⟨#[]⟩]) 5 88 Tryz.underlying42 Hi.out Hz0.out Hz1.out Hz2.out (by rfl) (by decide) _ _ fl Hown5.out rfl [.string ⟨x.ent.kind.toArray⟩, .string ⟨x.ent.key.toArray⟩, .slice pf nf cf, .string ⟨x.label.toArray⟩, .string ⟨x.text.toArray⟩] rfl rfl rfl (by simp [Value.oneCell']) (by unfold maxLen; have := Htl.out; omega) (by have := Htl.out; omega) (Nat.le_trans HBd.out.size HB5.out.size) ?_
      intro v2 w2 own2 g2 at2
      have HO2 := Lib.hid (Couts.more (x := x) (Nat.le_trans HBd.out.size HB5.out.size) (Hrep.out.imp (fun y us _ hy => RCit.moved hy (fun j hj hlt => ⟨hj, HB5.out.block j hlt⟩) HB5.out.size)) (HF5.out.kept (fun j hj => ⟨Nat.le_trans HBd.out.size hj, fun e => by have := (Hown.out.lt j e).2; omega⟩) (Nat.le_refl _) (fun _ _ _ => rfl) (fun _ _ _ h => h)) own2 g2 at2)
      have HB2 := Lib.hid ((HBd.out.trans (HB5.out.mono HBd.out.size)).grown g2 (Nat.le_trans HBd.out.size HB5.out.size) (fun q e => (Hown5.out.lt q e).1))
      replace HS := Lib.hid (row5_grown g2 (fun e => by have := (Hown5.out.lt _ e).1; have := Hbw.out; omega) (row5_below HB5.out HS.out))
      clear own2 g2 at2
      refine hK.out _ _ (HS.out) (fun _ => ?_)
      clear K hK
      try simp only [Act.put, List.getElem_toArray, List.getElem_cons_zero, List.getElem_cons_succ, List.setIfInBounds_toArray, List.set_cons_zero, List.set_cons_succ]
      refine wpAnyH_take (i := 23) (v := v2) rfl (by kernel_rfl) (by kernel_rfl) (by kernel_rfl) (fun _ _ _ h => h) (Or.inl ⟨by kernel_rfl, fun W hW => by kernel_rfl⟩) (by assumption) ?_
      try simp only [Act.put, List.getElem_toArray, List.getElem_cons_zero, List.getElem_cons_succ, List.setIfInBounds_toArray, List.set_cons_zero, List.set_cons_succ]
      refine wpAnyH_done (by kernel_rfl) ?_ _
      have hwk := Hwk.out
      go_wp2_with fail
      go_roundw
      case rel => exact ⟨k1, by have := Hlt.out; have := Hk1.out; omega, rfl, by rw [Htk.out]; exact HO2.out, HB2.out⟩
      case measure => have := Hlt.out; have := Hk1.out; simp [intOf]; omega
    · have hlt' : ¬ (k : Int) < (A.length : Int) := by omega
      have htk : A.take k = A := List.take_of_length_le (by omega)
      rw [htk] at HO
      clear hlt htk
      go_wp2_with fail
      go_ret
      exact ⟨_, rfl, HO.out.all, Hb.out⟩
end
section
open Go.RowKit
set_option maxRecDepth 100000 in
set_option maxHeartbeats 3200000 in
theorem law17_keys2 (l : List (List UInt8)) (p : Option Addr) (cap : Nat) (w : World) (hE : OSl 1 IStr w p l) (hl : l.length ≤ maxLen) :
    Calls Tryz.prog 13 #[.slice p l.length cap] w fun e w' => ∃ v, e = .returned v ∧ OwnL w.heap.size 9 1 RStr w' v ((l.take 10).map cut80) ∧ (∃ g n c, v = .slice (some ⟨g, 0, none⟩) n c) ∧ Below w.heap.size w w' := by
  have HE := Lib.hid hE; clear hE
  have hlm : l.length ≤ 9223372036854775807 := by unfold maxLen at hl; omega
  obtain ⟨i0, hi, hz0, hz1, hz2⟩ := info_parts str_info
  have Hi := Lib.hid hi; have Hz0 := Lib.hid hz0; have Hz1 := Lib.hid hz1; have Hz2 := Lib.hid hz2; clear hi hz0 hz1 hz2
  go_enter Tryz.func13, Tryz.ntmps13
  go_wp2_with fail
  go_loopw [3, 4] (fun v iv wr => ∃ k : Nat, k ≤ l.length ∧ k ≤ 10 ∧ iv = .int .i64 (k : Int) ∧ OwnL w.heap.size 9 1 RStr wr v ((l.take k).map cut80) ∧ (∃ g n c, v = .slice (some ⟨g, 0, none⟩) n c) ∧ Below w.heap.size w wr) (fun _ iv _ => l.length - (intOf iv).toNat)
  case atStart => exact ⟨0, Nat.zero_le _, Nat.zero_le _, rfl, OwnL.made _ _ _ _ _ (Nat.le_refl _), ⟨_, _, _, rfl⟩, below_new w _⟩
  case round =>
    obtain ⟨k, hk, hkn, rfl, hO, hnn, hb⟩ := hrel
    have Hnn := Lib.hid hnn; clear hnn
    have HO := Lib.hid hO; have Hb := Lib.hid hb
    clear hO hb
    by_cases hlt : k < l.length
    · by_cases hltn : k < 10
      · obtain ⟨x, hx⟩ : ∃ x, l[k]? = some x := ⟨_, List.getElem?_eq_getElem hlt⟩
        obtain ⟨a, b, o, sp, vs, rfl, hadd, hbw, ⟨hR, hxl⟩, hcc⟩ := HE.out k x hx
        subst hR
        rw [Nat.mul_one] at hadd
        have e0 : wr.cell? ⟨b, o, sp⟩ = some (.string ⟨x.toArray⟩) := (Hb.out.cell (p := ⟨b, o, sp⟩) hbw).trans (hcc 0 _ rfl)
        obtain ⟨q, m1, m2, m3, m4⟩ := cut_text8 x
        have hlt' : (k : Int) < (l.length : Int) := by omega
        have hltn' : (k : Int) < 10 := by omega
        have hkl : (k : Int) + 1 ≤ 9223372036854775807 := by omega
        have htk : (l.take (k + 1)).map cut80 = (l.take k).map cut80 ++ [cut80 x] := by rw [List.take_add_one, hx]; simp
        have htl : ((l.take k).map cut80).length ≤ 1000 := by rw [List.length_map, List.length_take]; omega
        obtain ⟨tk, htk0⟩ : ∃ tk, (l.take k).map cut80 = tk := ⟨_, rfl⟩
        rw [htk0] at HO htk htl
        have Htk := Lib.hid htk; have Hkl := Lib.hid hkl; have Hlt := Lib.hid hlt; have Hltn := Lib.hid hltn
        obtain ⟨fl, hown, hrep⟩ := HO.out
        obtain ⟨pv, capv, hfv⟩ := HO.out.form
        subst hfv
        have Hrep := Lib.hid hrep
        have hbz := Nat.lt_of_lt_of_le hbw Hb.out.size
        clear hcc hx htk hkl htk0 hrep
        go_upto_region 5 with fail
        have hS : (fun W : World => W.cell? ⟨b, o, sp⟩ = some (.string ⟨x.toArray⟩)) wr.drew := e0
        dsimp only at hS
        have hb8 : Below wr.heap.size wr wr.drew := (Below.refl _ _).drew
        have hown8 := own_below hown hb8
        have HB8 := Lib.hid (Hb.out.trans (hb8.mono Hb.out.size))
        have hbz8 : b < wr.drew.heap.size := hbz
        refine wp_region_any (by kernel_rfl) ?_
        change wpAny _ _ _ _ _ _ _ (World.drew _)
        generalize wr.drew = w8 at hS hown8 HB8 hbz8 ⊢
        have Hown := Lib.hid hown8
        clear e0 hown hown8 hb8
        refine wpAny_of_held (S := fun W => W.cell? ⟨b, o, sp⟩ = some (.string ⟨x.toArray⟩)) _ _ _ _ ?_
        refine wpAnyH_take (i := 0) (v := .slice pv tk.length capv) rfl (by kernel_rfl) (by kernel_rfl) (by kernel_rfl) (fun _ _ _ h => h) (Or.inl ⟨by kernel_rfl, fun W hW => by kernel_rfl⟩) (by assumption) ?_
        try simp only [Act.put, List.getElem_toArray, List.getElem_cons_zero, List.getElem_cons_succ, List.setIfInBounds_toArray, List.set_cons_zero, List.set_cons_succ]
        refine wpAnyH_take (i := 1) (v := .slice (some a) l.length cap) rfl (by kernel_rfl) (by kernel_rfl) (by kernel_rfl) (fun _ _ _ h => h) (Or.inl ⟨by kernel_rfl, fun W hW => by kernel_rfl⟩) (by assumption) ?_
        try simp only [Act.put, List.getElem_toArray, List.getElem_cons_zero, List.getElem_cons_succ, List.setIfInBounds_toArray, List.set_cons_zero, List.set_cons_succ]
        refine wpAnyH_take (i := 2) (v := .int .i64 (k : Int)) rfl (by kernel_rfl) (by kernel_rfl) (by kernel_rfl) (fun _ _ _ h => h) (Or.inl ⟨by kernel_rfl, fun W hW => by kernel_rfl⟩) (by assumption) ?_
        try simp only [Act.put, List.getElem_toArray, List.getElem_cons_zero, List.getElem_cons_succ, List.setIfInBounds_toArray, List.set_cons_zero, List.set_cons_succ]
        refine wpAnyH_take (i := 3) (v := .pointer (some ⟨b, o, sp⟩)) rfl (by kernel_rfl) (by kernel_rfl) (by kernel_rfl) (fun _ _ _ h => h) (Or.inl ⟨by kernel_rfl, fun W hW => by go_simp⟩) (by assumption) ?_
        try simp only [Act.put, List.getElem_toArray, List.getElem_cons_zero, List.getElem_cons_succ, List.setIfInBounds_toArray, List.set_cons_zero, List.set_cons_succ]
        refine wpAnyH_take (i := 4) (v := .string ⟨x.toArray⟩) rfl (by kernel_rfl) (by kernel_rfl) (by kernel_rfl) (fun _ _ _ h => h) (Or.inl ⟨by kernel_rfl, fun W hW => by have q1 := hW; go_simp⟩) (by assumption) ?_
        try simp only [Act.put, List.getElem_toArray, List.getElem_cons_zero, List.getElem_cons_succ, List.setIfInBounds_toArray, List.set_cons_zero, List.set_cons_succ]
        refine wpAnyH_take (i := 5) (v := .slice (some a) l.length cap) rfl (by kernel_rfl) (by kernel_rfl) (by kernel_rfl) (fun _ _ _ h => h) (Or.inl ⟨by kernel_rfl, fun W hW => by kernel_rfl⟩) (by assumption) ?_
        try simp only [Act.put, List.getElem_toArray, List.getElem_cons_zero, List.getElem_cons_succ, List.setIfInBounds_toArray, List.set_cons_zero, List.set_cons_succ]
        refine wpAnyH_take (i := 6) (v := .int .i64 (k : Int)) rfl (by kernel_rfl) (by kernel_rfl) (by kernel_rfl) (fun _ _ _ h => h) (Or.inl ⟨by kernel_rfl, fun W hW => by kernel_rfl⟩) (by assumption) ?_
        try simp only [Act.put, List.getElem_toArray, List.getElem_cons_zero, List.getElem_cons_succ, List.setIfInBounds_toArray, List.set_cons_zero, List.set_cons_succ]
        refine wpAnyH_take (i := 7) (v := .pointer (some ⟨b, o, sp⟩)) rfl (by kernel_rfl) (by kernel_rfl) (by kernel_rfl) (fun _ _ _ h => h) (Or.inl ⟨by kernel_rfl, fun W hW => by go_simp⟩) (by assumption) ?_
        try simp only [Act.put, List.getElem_toArray, List.getElem_cons_zero, List.getElem_cons_succ, List.setIfInBounds_toArray, List.set_cons_zero, List.set_cons_succ]
        refine wpAnyH_take (i := 8) (v := .string ⟨x.toArray⟩) rfl (by kernel_rfl) (by kernel_rfl) (by kernel_rfl) (fun _ _ _ h => h) (Or.inl ⟨by kernel_rfl, fun W hW => by have q1 := hW; go_simp⟩) (by assumption) ?_
        try simp only [Act.put, List.getElem_toArray, List.getElem_cons_zero, List.getElem_cons_succ, List.setIfInBounds_toArray, List.set_cons_zero, List.set_cons_succ]
        refine wpAnyH_take (i := 9) (v := .int .i64 (x.length : Int)) rfl (by kernel_rfl) (by kernel_rfl) (by kernel_rfl) (fun _ _ _ h => h) (Or.inl ⟨by kernel_rfl, fun W hW => by go_simp⟩) (by assumption) ?_
        try simp only [Act.put, List.getElem_toArray, List.getElem_cons_zero, List.getElem_cons_succ, List.setIfInBounds_toArray, List.set_cons_zero, List.set_cons_succ]
        refine wpAnyH_take (i := 10) (v := .int .i64 (q : Int)) rfl (by kernel_rfl) (by kernel_rfl) (by kernel_rfl) (fun _ _ _ h => h) (Or.inl ⟨by kernel_rfl, fun W hW => by go_simp⟩) (by assumption) ?_
        try simp only [Act.put, List.getElem_toArray, List.getElem_cons_zero, List.getElem_cons_succ, List.setIfInBounds_toArray, List.set_cons_zero, List.set_cons_succ]
        refine wpAnyH_take (i := 11) (v := .string ⟨(cut80 x).toArray⟩) rfl (by kernel_rfl) (by kernel_rfl) (by kernel_rfl) (fun _ _ _ h => h) (Or.inl ⟨by kernel_rfl, fun W hW => by go_simp⟩) (by assumption) ?_
        try simp only [Act.put, List.getElem_toArray, List.getElem_cons_zero, List.getElem_cons_succ, List.setIfInBounds_toArray, List.set_cons_zero, List.set_cons_succ]
        refine wpAnyH_ready (rs := [12]) (by kernel_rfl) (by simp) ?_
        refine AllReadyH.cons rfl (fun K hK => ?_) AllReadyH.nil
        go_simp
        refine hK.out _ _ (((below_new _ _).cell (p := ⟨b, o, sp⟩) hbz8).trans hS) (fun _ => ?_)
        clear K hK
        try simp only [Act.put, List.getElem_toArray, List.getElem_cons_zero, List.getElem_cons_succ, List.setIfInBounds_toArray, List.set_cons_zero, List.set_cons_succ]
        refine wpAnyH_ready (rs := [13]) (by kernel_rfl) (by simp) ?_
        refine AllReadyH.cons rfl (fun K hK => ?_) AllReadyH.nil
        rw [if_pos (by kernel_rfl)]
        refine wp_append1 (.tmp 16) (.tmp 28) 35 rfl w.heap.size 9 i0 (.string ⟨#[]⟩) 1 16 Tryz.underlying35 Hi.out Hz0.out Hz1.out Hz2.out (by rfl) (by decide) _ _ fl Hown.out rfl [.string ⟨(cut80 x).toArray⟩] rfl rfl rfl (by simp [Value.oneCell']) (by unfold maxLen; omega) (by omega) HB8.out.size ?_
        intro v2 w2 own2 g2 at2
        have Hnn2 := Lib.hid (show ∃ g n c, v2 = .slice (some ⟨g, 0, none⟩) n c by obtain ⟨p2, c2, e2, q2, _⟩ := own2.form (Nat.succ_pos _); exact ⟨_, _, _, e2⟩); have Hown2 := Lib.hid own2; have Hg2 := Lib.hid g2
        replace hS := g2.cell (a := ⟨b, o, sp⟩) hS (fun e => by have := (Hown.out.lt b e.symm).1; omega)
        clear own2 g2 at2
        refine hK.out _ _ hS (fun _ => ?_)
        clear K hK
        try simp only [Act.put, List.getElem_toArray, List.getElem_cons_zero, List.getElem_cons_succ, List.setIfInBounds_toArray, List.set_cons_zero, List.set_cons_succ]
        refine wpAnyH_take (i := 14) (v := v2) rfl (by kernel_rfl) (by kernel_rfl) (by kernel_rfl) (fun _ _ _ h => h) (Or.inl ⟨by kernel_rfl, fun W hW => by kernel_rfl⟩) (by assumption) ?_
        try simp only [Act.put, List.getElem_toArray, List.getElem_cons_zero, List.getElem_cons_succ, List.setIfInBounds_toArray, List.set_cons_zero, List.set_cons_succ]
        refine wpAnyH_done (by kernel_rfl) ?_ _
        have HB9 := Lib.hid (HB8.out.grown Hg2.out HB8.out.size (fun q e => (Hown.out.lt q e).1))
        have hkl := Hkl.out
        clear hS hlt' hltn' m1 m2 m3 m4 hadd
        go_wp2_with fail
        go_roundw
        case rel => exact ⟨k + 1, by have := Hlt.out; omega, by have := Hltn.out; omega, by go_num, by rw [Htk.out]; exact OwnL.more Hrep.out rfl Hown2.out, Hnn2.out, HB9.out⟩
        case measure => have := Hlt.out; simp [intOf]; omega
      · have hlt' : (k : Int) < (l.length : Int) := by omega
        have hltn' : ¬ (k : Int) < 10 := by omega
        have hkn2 : k = 10 := by omega
        subst hkn2
        clear hltn
        go_wp2_with fail
        go_ret
        refine ⟨_, rfl, ?_, Hnn.out, Hb.out⟩
        have h := HO.out
        first | exact h | (rw [List.map_take] at h; exact h)
    · have hlt' : ¬ (k : Int) < (l.length : Int) := by omega
      have htk : l.take 10 = l.take k := by rw [List.take_of_length_le (by omega), List.take_of_length_le (by omega)]
      have Htk := Lib.hid htk
      clear htk
      go_wp2_with fail
      go_ret
      refine ⟨_, rfl, ?_, Hnn.out, Hb.out⟩
      have h := HO.out
      rw [← Htk.out] at h
      first | exact h | (rw [List.map_take] at h; exact h)
end
section
namespace Lb
open Ent
/-- is a key new behind others? -/
def newK (l : List (List UInt8)) (x : List UInt8) : Bool := !(l.contains x)
theorem newK_nil (x : List UInt8) : newK [] x = true := rfl
theorem newK_snoc (l : List (List UInt8)) (y x : List UInt8) : newK (l ++ [y]) x = (newK l x && !(decide (y = x))) := by
  unfold newK
  simp only [List.contains_append, Bool.not_or]
  congr 1
  simp only [List.contains_cons, List.contains_nil, Bool.or_false]
  by_cases h : y = x
  · subst h; simp
  · have h2 : ¬ x = y := fun e => h e.symm
    simp [h, h2]
def cntF (l : List (List UInt8)) : Nat := (fresh [] l).length
theorem cntF_nil : cntF [] = 0 := rfl
theorem cntF_snoc (l : List (List UInt8)) (x : List UInt8) : cntF (l ++ [x]) = cntF l + if newK l x = true then 1 else 0 := by
  unfold cntF newK
  rw [fresh_append, List.length_append, List.nil_append]
  congr 1
  by_cases h : x ∈ l
  · have : fresh l [x] = [] := fresh_none _ _ (by intro k hk; simp at hk; subst hk; exact h)
    rw [this]; simp [h]
  · simp [fresh, h]
theorem cntF_le (l : List (List UInt8)) : cntF l ≤ l.length := by
  have : ∀ (ks seen : List (List UInt8)), (fresh seen ks).length ≤ ks.length := fun ks => by
    induction ks with
    | nil => intro seen; simp [fresh]
    | cons k r ih =>
      intro seen
      unfold fresh
      split
      · exact Nat.le_trans (ih _) (by simp)
      · simpa using ih _
  exact this l []
end Lb
end
section
open Go.RowKit
def kcells (K : List (List UInt8)) : List Value := K.map fun s => .string ⟨s.toArray⟩
theorem kcells_len (K : List (List UInt8)) : (kcells K).length = K.length * 1 := by simp [kcells]
theorem kcells_one (K : List (List UInt8)) : ∀ u ∈ kcells K, u.oneCell' = true := fun u hu => by
  obtain ⟨s, _, rfl⟩ := List.mem_map.1 hu
  rfl
theorem kcells_rep : ∀ K : List (List UInt8), RepRow RStr K (kcells K) := fun K => strs_rep K
/-- the keys' cells, one behind the other -/
structure KAt (W : World) (g : Nat) (K : List (List UInt8)) : Prop where
  lt : g < W.heap.size
  cell : ∀ j u, (kcells K)[j]? = some u → W.cell? ((⟨g, 0, none⟩ : Addr).add j) = some u
theorem KAt.of {B : Nat} {W : World} {g n c : Nat} {K : List (List UInt8)} (h : OwnL B 9 1 RStr W (.slice (some ⟨g, 0, none⟩) n c) K) : n = K.length ∧ (g < W.heap.size → KAt W g K) := by
  obtain ⟨p, cap, hv, _, _, hat⟩ := strs_in h
  simp only [Value.slice.injEq] at hv
  obtain ⟨rfl, hn, _⟩ := hv
  refine ⟨hn, fun hg => ⟨hg, fun j u hu => ?_⟩⟩
  unfold kcells at hu
  rw [List.getElem?_map] at hu
  obtain ⟨s, hs, rfl⟩ := Option.map_eq_some_iff.1 hu
  obtain ⟨b, o, vs, hp, _, _, hR, hc⟩ := hat j s hs
  have hR : vs = _ := hR
  subst hR
  obtain ⟨rfl, rfl⟩ : g = b ∧ 0 = o := by injection hp with hp; injection hp with h1 h2 _; exact ⟨h1, h2⟩
  have := hc 0 _ rfl
  have hadd : (⟨g, 0, none⟩ : Addr).add j = ⟨g, j, none⟩ := by unfold Addr.add; split <;> simp_all
  rw [hadd]
  simpa using this
theorem KAt.at {W : World} {g : Nat} {K : List (List UInt8)} (h : KAt W g K) {i : Nat} {x : List UInt8} (hx : K[i]? = some x) : W.cell? ⟨g, i, none⟩ = some (.string ⟨x.toArray⟩) := by
  have hadd : (⟨g, 0, none⟩ : Addr).add i = ⟨g, i, none⟩ := by unfold Addr.add; split <;> simp_all
  have := h.cell i (.string ⟨x.toArray⟩) (by unfold kcells; rw [List.getElem?_map, hx]; rfl)
  rwa [hadd] at this
theorem KAt.below {W W' : World} {g : Nat} {K : List (List UInt8)} (h : KAt W g K) (hb : Below W.heap.size W W') : KAt W' g K := by
  refine ⟨Nat.lt_of_lt_of_le h.lt hb.size, fun j u hu => ?_⟩
  have hadd : (⟨g, 0, none⟩ : Addr).add j = ⟨g, j, none⟩ := by unfold Addr.add; split <;> simp_all
  have := h.cell j u hu
  rw [hadd] at this ⊢
  exact (hb.cell (p := ⟨g, j, none⟩) h.lt).trans this
theorem blockN {w : World} {N : Nat} (h : w.heap.size = N) (q : Nat) (e : some N = some q) : w.heap.size ≤ q := by
  injection e with e; omega
theorem cits_below {S S' : Nat → Prop} {W W' : World} {v : Value} {A : List Lb.Cited} (h : SliceIn S 5 (RCit S' W) W v A) (hb : Below W.heap.size W W') : SliceIn S 5 (RCit S' W') W' v A :=
  h.below hb (fun x vs _ hx => RCit.moved hx (fun j hj hlt => ⟨hj, hb.block j hlt⟩) hb.size)
theorem own_lt {B : Nat} {W : World} {g n c : Nat} {K : List (List UInt8)} (h : OwnL B 9 1 RStr W (.slice (some ⟨g, 0, none⟩) n c) K) : g < W.heap.size := by
  obtain ⟨fl, h1, _⟩ := h
  exact (h1.lt g rfl).2
set_option maxRecDepth 100000 in
set_option maxHeartbeats 1000000 in
theorem lawLKey_walk (p : Option Addr) (cap0 : Nat) (l : List Ent.Ent) (pk : Option Addr) (capk : Nat) (ks : List (List UInt8)) (style : Int) (w : World) (hH : Laid01 w ∧ (∃ m, w.cell? ⟨0, 0, none⟩ = some (.int .i64 m)) ∧ 0 < w.heap.size ∧ l.length ≤ maxLen) (hE : OEnt w p l) (hK : OSl 1 IStr w pk ks ∧ ks.length ≤ maxLen) :
    Calls Tryz.prog 4 #[.slice p l.length cap0, .slice pk ks.length capk, .int .i64 style] w fun e w' => e = .returned (.bool true) ∧ Below w.heap.size w w' := by
  obtain ⟨hL, ⟨m, hm⟩, h0, hlm⟩ := hH
  obtain ⟨i0, hi, hz0, hz1, hz2⟩ := info_parts str_info
  have Hi := Lib.hid hi; have Hz0 := Lib.hid hz0; have Hz1 := Lib.hid hz1; have Hz2 := Lib.hid hz2; clear hi hz0 hz1 hz2
  have hok := cut_ok8 l
  have hlen := cut_len8 l
  have hcut := law_cut l p cap0 8 w hE hlm (by decide)
  have hkl := keys_len ks
  have hkc := fun (W : World) (hW : Below w.heap.size w W) => law17_keys2 ks pk capk W (hK.1.below hW (fun _ _ _ h => h)) hK.2
  obtain ⟨L, hLL⟩ : ∃ L, Ent.cutL l 8 = L := ⟨_, rfl⟩
  rw [hLL] at hok hlen hcut
  obtain ⟨K, hKK⟩ : ∃ K, (ks.take 10).map cut80 = K := ⟨_, rfl⟩
  simp only [hKK] at hkl hkc
  have hob : ∀ x ∈ L, Lb.EntB x := fun x hx => (hok x hx).b
  have hLB : ∀ W, Below w.heap.size w W → Laid01 W ∧ W.cell? ⟨0, 0, none⟩ = some (.int .i64 m) ∧ 0 < W.heap.size := fun W hW => ⟨hL.below hW, keptM hm h0 hW⟩
  have hall : ∀ (Q : List (List UInt8)) (v vk : Value) (W : World), Q.length ≤ 1000 → (∀ k ∈ Q, k.length ≤ maxLen) → Below w.heap.size w W → Ents (fun _ => True) W v L → SliceIn (fun _ => True) 1 RStr W vk Q → Calls Tryz.prog 14 #[v, vk, .int .i64 style] W fun e w' => (∃ vc vn, e = .returned (.tuple #[vc, vn]) ∧ SliceIn (fun j => W.heap.size ≤ j) 5 (RCit (fun j => W.heap.size ≤ j) w') w' vc (Lb.all L Q style).1 ∧ SliceIn (fun j => W.heap.size ≤ j) 2 RNote w' vn (Lb.all L Q style).2) ∧ Below W.heap.size W w' :=
    fun Q v vk W hq hqs hb hE hK => by
      have hpk := Lb.pick_ok L hok (by omega) Q
      exact lb_All L v Q vk style m _ W (hLB W hb).1 (ents_sz hE) hK (by omega) hob hq hqs hpk.1 (by omega) (hLB W hb).2.1 (hLB W hb).2.2
  have hfix := fun (W : World) (hW : Below w.heap.size w W) => law17_fixed m W (hLB W hW).1 (hLB W hW).2.1 (hLB W hW).2.2
  have HAf := Lib.hid (show ∀ c ∈ (Lb.all L K style).1, c.ent.fields.length ≤ 1000000000 from fun c hc => by
    obtain ⟨i, x, rfl, hx⟩ : ∃ (i : Nat) (x : Ent.Ent), c.ent = x ∧ x ∈ Lb.order (Lb.pick L K).1 := by
      obtain ⟨i, hi⟩ := List.mem_iff_getElem?.1 hc
      rw [show (Lb.all L K style).1 = Lb.tagged style (Lb.order (Lb.pick L K).1) from rfl] at hi
      unfold Lb.tagged at hi
      rw [List.getElem?_mapIdx] at hi
      obtain ⟨x, hx, rfl⟩ := Option.map_eq_some_iff.1 hi
      exact ⟨i, x, rfl, List.mem_of_getElem? hx⟩
    have := ((Lb.pick_ok L hok (by omega) K).1 _ ((Lb.order_perm _).mem_iff.1 hx)).many
    omega)
  have Hcut := Lib.hid hcut; have Hkc := Lib.hid hkc; have Hall := Lib.hid hall; have Hfix := Lib.hid hfix; have Hkn := Lib.hid hkl.1; have Hks := Lib.hid hkl.2
  clear hL hm h0 hlm hok hcut hLL hob hLB hE hlen hkl hkc hKK hall hfix hK
  go_enter Tryz.func4, Tryz.ntmps4
  go_upto_region 2 with (go_at_call 6; refine Hcut.out.mono ?_; rintro e w1 ⟨vo, rfl, hO, hb1⟩; have HL1 := Lib.hid hO.entsT; have Hb1 := Lib.hid hb1; clear hO hb1)
  go_upto_region 3 with (go_at_call 13; refine (Hkc.out _ Hb1.out).mono ?_; rintro e w2 ⟨vk, rfl, hO, ⟨gk, nk, ck, hvk⟩, hb2⟩; subst hvk; have HL2 := Lib.hid (Ents.below HL1.out hb2); have HK2 := Lib.hid (strs_in hO); obtain ⟨hnk, hka⟩ := KAt.of hO; subst hnk; have HA2 := Lib.hid (hka (own_lt hO)); have Hb2 := Lib.hid (Hb1.out.trans (hb2.mono Hb1.out.size)); clear hO hb2 hka)
  go_upto_region 4 with (go_at_call 14; refine (Hall.out K _ _ _ (by have := Hkn.out; omega) Hks.out Hb2.out HL2.out HK2.out).mono ?_; rintro e w3 ⟨⟨va, vn, rfl, hA, hN⟩, hb3⟩; have HL3 := Lib.hid (Ents.below HL2.out hb3); have HA3 := Lib.hid (HA2.out.below hb3); have HC3 := Lib.hid hA; have HN3 := Lib.hid hN; have Hb3 := Lib.hid (Hb2.out.trans (hb3.mono Hb2.out.size)); clear hA hN hb3)
  obtain ⟨N, hN⟩ : ∃ N, w3.heap.size = N := ⟨_, rfl⟩
  have Hown := Lib.hid (own_built w3 N 9 1 0 [] (by omega) rfl (by unfold maxLen; omega))
  go_upto_region 5 with (at_builtin; go_loud (refine wpList_append_own_at _ rfl (.tmp 31) (.tmp 32) 35 rfl N 9 i0 (.string ⟨#[]⟩) 1 16 Tryz.underlying35 Hi.out Hz0.out Hz1.out Hz2.out (by rfl) (by decide) _ 0 [] (by rfl) (hN ▸ Hown.out) ⟨gk, 0, none⟩ K.length ck (kcells K) (by rfl) (kcells_len K) (HA3.out.below (below_new w3 _)).cell (kcells_one K) (by have := Hkn.out; unfold maxLen; omega) (by have := Hkn.out; omega) (by rw [← hN]; exact Nat.le_of_lt (lt_alloc _ _)) ?_); intro v4 w4 own4 g4 nil4 at4)
  have hb4 : Below w3.heap.size w3 w4 := (below_new w3 _).grown g4 (Nat.le_of_lt (lt_alloc _ _)) (fun q e => blockN hN q e)
  have HA4 := Lib.hid (HA3.out.below hb4); have HL4 := Lib.hid (Ents.below HL3.out hb4); have Hb4 := Lib.hid (Hb3.out.trans (hb4.mono Hb3.out.size)); have HB4 := Lib.hid hb4
  have Hown4 := Lib.hid own4
  clear own4 g4 nil4 at4 hb4
  go_upto_region 6 with (at_builtin; go_loud (refine wpList_append_own_at _ rfl (.tmp 34) (.tmp 35) 35 rfl N 9 i0 (.string ⟨#[]⟩) 1 16 Tryz.underlying35 Hi.out Hz0.out Hz1.out Hz2.out (by rfl) (by decide) _ (0 + K.length) ([] ++ kcells K) (by rfl) Hown4.out ⟨gk, 0, none⟩ K.length ck (kcells K) (by rfl) (kcells_len K) HA4.out.cell (kcells_one K) (by have := Hkn.out; unfold maxLen; omega) (by have := Hkn.out; omega) (by rw [← hN]; exact HB4.out.size) ?_); intro v5 w5 own5 g5 nil5 at5)
  have hb5 : Below w3.heap.size w3 w5 := HB4.out.grown g5 HB4.out.size (fun q e => by rw [hN]; exact (Hown4.out.lt q e).1)
  have hb45 : ∀ g, g < N → Below w3.heap.size w3 w5 := fun _ _ => hb5
  have HK5 := Lib.hid (show SliceIn (fun _ => True) 1 RStr w5 v5 (K ++ K) from SliceIn.own own5 (by rw [List.nil_append]; have := kcells_rep (K ++ K); unfold kcells at this ⊢; rwa [List.map_append] at this) RStr.size (by rw [List.length_append]; omega) (fun _ _ => trivial))
  have HL5 := Lib.hid (Ents.below HL3.out hb5); have Hb5 := Lib.hid (Hb3.out.trans (hb5.mono Hb3.out.size)); have HB5 := Lib.hid hb5
  clear own5 g5 nil5 at5 hb5 hb45 Hown4 HB4 HL4 Hb4 HA4
  go_upto_region 7 with (go_at_call 14; refine (Hall.out (K ++ K) _ _ _ (by have := Hkn.out; rw [List.length_append]; omega) (fun k hk => Hks.out k ((List.mem_append.1 hk).elim id id)) Hb5.out HL5.out HK5.out).mono ?_; rw [Lb.all_again]; rintro e w6 ⟨⟨vb, vm, rfl, hB, hM⟩, hb6⟩; have HB6 := Lib.hid (HB5.out.trans (hb6.mono HB5.out.size)); have HL6 := Lib.hid (Ents.below HL5.out hb6); have HD6 := Lib.hid hB; have HM6 := Lib.hid hM; have Hb6 := Lib.hid (Hb5.out.trans (hb6.mono Hb5.out.size)); clear hB hM hb6)
  obtain ⟨M, hM⟩ : ∃ M, w6.heap.size = M := ⟨_, rfl⟩
  have HA6 := Lib.hid (HA3.out.below HB6.out)
  have hb6 := below_new w6 (.cells #[] 9)
  have HO6 := Lib.hid (show OwnL M 9 1 RStr (w6.alloc (.cells #[] 9)) (.slice (some ⟨M, 0, none⟩) 0 0) [] by rw [← hM]; exact OwnL.made _ _ _ _ _ (Nat.le_refl _))
  have Hb6n := Lib.hid hb6
  have hws : IntKind.i64.wrap ((K.length : Int) - 1) = (K.length : Int) - 1 := by rw [IntWalk.i64_in _ (by have := Hkn.out; omega)]
  clear hb6 HA3 HL3 HL5 Hb3 Hb5 HB5 HK5 HL2 HK2 HA2 Hb2 HL1 Hb1
  go_wp2_with fail
  clear hws
  go_loopw [12, 13] (fun v iv wr => ∃ j : Nat, j ≤ K.length ∧ iv = .int .i64 ((j : Int) - 1) ∧ OwnL M 9 1 RStr wr v ((K.drop j).reverse) ∧ Below w6.heap.size w6 wr) (fun _ iv _ => (intOf iv + 1).toNat)
  case atStart => exact ⟨K.length, Nat.le_refl _, rfl, by simpa using HO6.out, Hb6n.out⟩
  case round =>
    clear HO6 Hb6n
    obtain ⟨j, hj, rfl, hO, hb⟩ := hrel
    have HO := Lib.hid hO; have Hb := Lib.hid hb
    clear hO hb
    cases j with
    | succ i =>
      have hie : ((i + 1 : Nat) : Int) - 1 = (i : Int) := by omega
      rw [hie]
      obtain ⟨x, hx⟩ : ∃ x, K[i]? = some x := ⟨_, List.getElem?_eq_getElem (by omega)⟩
      have e0 : wr.cell? ⟨gk, i, none⟩ = some (.string ⟨x.toArray⟩) := (HA6.out.below Hb.out).at hx
      have hil : (i : Int) < (K.length : Int) := by omega
      have hi0 : (0 : Int) ≤ (i : Int) := by omega
      have hwm : IntKind.i64.wrap ((i : Int) - 1) = (i : Int) - 1 := by rw [IntWalk.i64_in _ (by have := Hkn.out; omega)]
      have Hdr := Lib.hid (show (K.drop i).reverse = (K.drop (i + 1)).reverse ++ [x] by
        obtain ⟨h1, h2⟩ := List.getElem?_eq_some_iff.1 hx
        rw [List.drop_eq_getElem_cons h1, h2, List.reverse_cons])
      have Htl := Lib.hid (show ((K.drop (i + 1)).reverse).length ≤ 10 by rw [List.length_reverse, List.length_drop]; have := Hkn.out; omega)
      have Hil := Lib.hid (show i < K.length by omega)
      obtain ⟨tk, htk⟩ : ∃ tk, (K.drop (i + 1)).reverse = tk := ⟨_, rfl⟩
      rw [htk] at HO Hdr Htl
      obtain ⟨fl, hown, hrep⟩ := HO.out
      have Hown := Lib.hid hown; have Hrep := Lib.hid hrep
      clear hx hj htk hown hrep
      go_wp2_with (at_builtin; go_loud (refine wpList_append1 rfl (.tmp 52) (.tmp 57) 35 rfl M 9 i0 (.string ⟨#[]⟩) 1 16 Tryz.underlying35 Hi.out Hz0.out Hz1.out Hz2.out (by rfl) (by decide) _ _ _ Hown.out rfl [.string ⟨x.toArray⟩] rfl (by simp) rfl (by simp [Value.oneCell']) (by have := Htl.out; unfold maxLen; omega) (by have := Htl.out; omega) (by rw [← hM]; exact Hb.out.size) ?_); intro v2 w9 own2 g2 at2; have HO9 := Lib.hid (OwnL.more Hrep.out rfl own2); have Hb9 := Lib.hid (Hb.out.grown g2 Hb.out.size (fun q e => by rw [hM]; exact (Hown.out.lt q e).1)); clear own2 g2 at2)
      go_roundw
      case rel => exact ⟨i, by have := Hil.out; omega, rfl, by rw [Hdr.out]; exact HO9.out, Hb9.out⟩
      case measure => simp [intOf]
    | zero =>
      have hz : ((0 : Nat) : Int) - 1 = -1 := rfl
      rw [hz]
      have HKr := Lib.hid (show SliceIn (fun _ => True) 1 RStr wr u12 K.reverse from by have h := strs_in HO.out; rwa [List.drop_zero] at h)
      have HLr := Lib.hid (Ents.below HL6.out Hb.out); have Hbr := Lib.hid (Hb6.out.trans (Hb.out.mono Hb6.out.size))
      have HAr := Lib.hid (HA6.out.below Hb.out)
      clear HO hj
      go_upto_region 13 with (go_at_call 14; refine (Hall.out K.reverse _ _ _ (by have := Hkn.out; rw [List.length_reverse]; omega) (fun k hk => Hks.out k (List.mem_reverse.1 hk)) Hbr.out HLr.out HKr.out).mono ?_; rw [(Lb.all_rev L K style).1]; rintro e w7 ⟨⟨vc, vo7, rfl, hC, hO7⟩, hb7⟩; have HB67 := Lib.hid (Hb.out.trans (hb7.mono Hb.out.size)); have HB7 := Lib.hid (HB6.out.trans ((Hb.out.mono HB6.out.size).trans (hb7.mono (HB6.out.trans (Hb.out.mono HB6.out.size)).size))); have HA7 := Lib.hid (HAr.out.below hb7); have HC7 := Lib.hid hC; have HO7 := Lib.hid hO7; have Hb7 := Lib.hid (Hbr.out.trans (hb7.mono Hbr.out.size)); clear hC hO7 hb7)
      obtain ⟨Q7, hQ7⟩ : ∃ Q, w7.heap.size = Q := ⟨_, rfl⟩
      clear HA6 HAr HB6 HL6 HLr HKr Hb6 Hbr Hb
      go_wp2_with fail
      go_loopw [16, 17] (fun cv iv wr => ∃ i : Nat, i ≤ K.length ∧ iv = .int .i64 (i : Int) ∧ cv = .int .i64 (Lb.cntF (K.take i) : Int) ∧ Below w7.heap.size w7 wr) (fun _ iv _ => K.length - (intOf iv).toNat)
      case atStart => exact ⟨0, Nat.zero_le _, rfl, rfl, Below.refl _ _⟩
      case round =>
        obtain ⟨i, hi, rfl, rfl, hb⟩ := hrel
        have Hb := Lib.hid hb; clear hb
        by_cases hlt : i < K.length
        · obtain ⟨x, hx⟩ : ∃ x, K[i]? = some x := ⟨_, List.getElem?_eq_getElem hlt⟩
          obtain ⟨i1, hi1⟩ : ∃ i1, i1 = i + 1 := ⟨_, rfl⟩
          have hil : (i : Int) < (K.length : Int) := by omega
          have Hcx := Lib.hid (show Lb.cntF (K.take i1) = Lb.cntF (K.take i) + if Lb.newK (K.take i) x = true then 1 else 0 by rw [hi1, List.take_add_one, hx]; exact Lb.cntF_snoc _ _)
          have Hcl := Lib.hid (show Lb.cntF (K.take i) ≤ 10 by have := Lb.cntF_le (K.take i); rw [List.length_take] at this; have := Hkn.out; omega)
          have hwi : IntKind.i64.wrap ((i : Int) + 1) = (i1 : Int) := by rw [IntWalk.i64_in _ (by have := Hkn.out; omega)]; omega
          have Hlt := Lib.hid hlt; have Hi1 := Lib.hid hi1; have Hx := Lib.hid hx
          obtain ⟨cn, hcn⟩ : ∃ cn, Lb.cntF (K.take i) = cn := ⟨_, rfl⟩
          rw [hcn] at Hcx Hcl ⊢
          obtain ⟨wo, hwo⟩ : ∃ wo, wo = wr := ⟨_, rfl⟩
          subst hwo
          clear hlt hi1 hx hcn hi
          go_wp2_with fail
          go_loopw [18, 19] (fun fv kv wr => ∃ k : Nat, k ≤ i ∧ kv = .int .i64 (k : Int) ∧ fv = .bool (Lb.newK (K.take k) x) ∧ Below w7.heap.size w7 wr) (fun _ kv _ => i - (intOf kv).toNat)
          case atStart => exact ⟨0, Nat.zero_le _, rfl, rfl, Hb.out⟩
          case round =>
            clear Hb
            obtain ⟨k, hk, rfl, rfl, hb⟩ := hrel
            have Hb := Lib.hid hb; clear hb
            obtain ⟨fb, hfb⟩ : ∃ fb, Lb.newK (K.take k) x = fb := ⟨_, rfl⟩
            rw [hfb]
            by_cases hki : k < i
            · obtain ⟨y, hy⟩ : ∃ y, K[k]? = some y := ⟨_, List.getElem?_eq_getElem (by have := Hlt.out; omega)⟩
              obtain ⟨k1, hk1⟩ : ∃ k1, k1 = k + 1 := ⟨_, rfl⟩
              have hki' : (k : Int) < (i : Int) := by omega
              have hkK : (k : Int) < (K.length : Int) := by have := Hlt.out; omega
              have Hwk := Lib.hid (show IntKind.i64.wrap ((k : Int) + 1) = (k1 : Int) by rw [IntWalk.i64_in _ (by have := Hkn.out; have := Hlt.out; omega)]; omega)
              have Hfx := Lib.hid (show Lb.newK (K.take k1) x = (fb && !(decide (y = x))) by rw [hk1, List.take_add_one, hy, ← hfb]; exact Lb.newK_snoc _ _ _)
              have e0 := Lib.hid (And.intro ((HA7.out.below Hb.out).at hy) ((HA7.out.below Hb.out).at Hx.out))
              have Hki := Lib.hid hki; have Hk1 := Lib.hid hk1
              clear hy hki hk1 hk hfb
              go_upto_region 21 with fail
              refine wp_region_any (by kernel_rfl) ?_
              change wpAny _ _ _ _ _ _ _ (World.drew _)
              have hS0 : wr.drew.cell? ⟨gk, k, none⟩ = some (.string ⟨y.toArray⟩) ∧ wr.drew.cell? ⟨gk, i, none⟩ = some (.string ⟨x.toArray⟩) := e0.out
              have Hbd := Lib.hid Hb.out.drew
              clear e0 Hb
              generalize wr.drew = wd at *
              cases fb
              · refine wpAny_of_held (S := fun _ => True) _ _ _ _ ?_
                have hS0 := True.intro
                refine wpAnyH_take (i := 0) (v := .bool false) rfl (by kernel_rfl) (by kernel_rfl) (by kernel_rfl) (fun _ _ _ h => h) (Or.inl ⟨by kernel_rfl, fun W hW => by kernel_rfl⟩) (by assumption) ?_
                try simp only [Act.put, List.getElem_toArray, List.getElem_cons_zero, List.getElem_cons_succ, List.setIfInBounds_toArray, List.set_cons_zero, List.set_cons_succ]
                refine wpAnyH_take (i := 1) (v := .bool false) rfl (by kernel_rfl) (by kernel_rfl) (by kernel_rfl) (fun _ _ _ h => h) (Or.inl ⟨by kernel_rfl, fun W hW => by kernel_rfl⟩) (by assumption) ?_
                try simp only [Act.put, List.getElem_toArray, List.getElem_cons_zero, List.getElem_cons_succ, List.setIfInBounds_toArray, List.set_cons_zero, List.set_cons_succ]
                refine wpAnyH_take (i := 2) (v := undef) rfl (by kernel_rfl) (by kernel_rfl) (by kernel_rfl) (fun _ _ _ h => h) (Or.inr ⟨by kernel_rfl, rfl⟩) (by assumption) ?_
                try simp only [Act.put, List.getElem_toArray, List.getElem_cons_zero, List.getElem_cons_succ, List.setIfInBounds_toArray, List.set_cons_zero, List.set_cons_succ]
                refine wpAnyH_take (i := 3) (v := undef) rfl (by kernel_rfl) (by kernel_rfl) (by kernel_rfl) (fun _ _ _ h => h) (Or.inr ⟨by kernel_rfl, rfl⟩) (by assumption) ?_
                try simp only [Act.put, List.getElem_toArray, List.getElem_cons_zero, List.getElem_cons_succ, List.setIfInBounds_toArray, List.set_cons_zero, List.set_cons_succ]
                refine wpAnyH_take (i := 4) (v := undef) rfl (by kernel_rfl) (by kernel_rfl) (by kernel_rfl) (fun _ _ _ h => h) (Or.inr ⟨by kernel_rfl, rfl⟩) (by assumption) ?_
                try simp only [Act.put, List.getElem_toArray, List.getElem_cons_zero, List.getElem_cons_succ, List.setIfInBounds_toArray, List.set_cons_zero, List.set_cons_succ]
                refine wpAnyH_take (i := 5) (v := undef) rfl (by kernel_rfl) (by kernel_rfl) (by kernel_rfl) (fun _ _ _ h => h) (Or.inr ⟨by kernel_rfl, rfl⟩) (by assumption) ?_
                try simp only [Act.put, List.getElem_toArray, List.getElem_cons_zero, List.getElem_cons_succ, List.setIfInBounds_toArray, List.set_cons_zero, List.set_cons_succ]
                refine wpAnyH_take (i := 6) (v := undef) rfl (by kernel_rfl) (by kernel_rfl) (by kernel_rfl) (fun _ _ _ h => h) (Or.inr ⟨by kernel_rfl, rfl⟩) (by assumption) ?_
                try simp only [Act.put, List.getElem_toArray, List.getElem_cons_zero, List.getElem_cons_succ, List.setIfInBounds_toArray, List.set_cons_zero, List.set_cons_succ]
                refine wpAnyH_take (i := 7) (v := undef) rfl (by kernel_rfl) (by kernel_rfl) (by kernel_rfl) (fun _ _ _ h => h) (Or.inr ⟨by kernel_rfl, rfl⟩) (by assumption) ?_
                try simp only [Act.put, List.getElem_toArray, List.getElem_cons_zero, List.getElem_cons_succ, List.setIfInBounds_toArray, List.set_cons_zero, List.set_cons_succ]
                refine wpAnyH_take (i := 8) (v := undef) rfl (by kernel_rfl) (by kernel_rfl) (by kernel_rfl) (fun _ _ _ h => h) (Or.inr ⟨by kernel_rfl, rfl⟩) (by assumption) ?_
                try simp only [Act.put, List.getElem_toArray, List.getElem_cons_zero, List.getElem_cons_succ, List.setIfInBounds_toArray, List.set_cons_zero, List.set_cons_succ]
                refine wpAnyH_take (i := 9) (v := undef) rfl (by kernel_rfl) (by kernel_rfl) (by kernel_rfl) (fun _ _ _ h => h) (Or.inr ⟨by kernel_rfl, rfl⟩) (by assumption) ?_
                try simp only [Act.put, List.getElem_toArray, List.getElem_cons_zero, List.getElem_cons_succ, List.setIfInBounds_toArray, List.set_cons_zero, List.set_cons_succ]
                refine wpAnyH_take (i := 10) (v := undef) rfl (by kernel_rfl) (by kernel_rfl) (by kernel_rfl) (fun _ _ _ h => h) (Or.inr ⟨by kernel_rfl, rfl⟩) (by assumption) ?_
                try simp only [Act.put, List.getElem_toArray, List.getElem_cons_zero, List.getElem_cons_succ, List.setIfInBounds_toArray, List.set_cons_zero, List.set_cons_succ]
                refine wpAnyH_take (i := 11) (v := .bool false) rfl (by kernel_rfl) (by kernel_rfl) (by kernel_rfl) (fun _ _ _ h => h) (Or.inl ⟨by kernel_rfl, fun W hW => by kernel_rfl⟩) (by assumption) ?_
                try simp only [Act.put, List.getElem_toArray, List.getElem_cons_zero, List.getElem_cons_succ, List.setIfInBounds_toArray, List.set_cons_zero, List.set_cons_succ]
                refine wpAnyH_take (i := 12) (v := .bool false) rfl (by kernel_rfl) (by kernel_rfl) (by kernel_rfl) (fun _ _ _ h => h) (Or.inl ⟨by kernel_rfl, fun W hW => by kernel_rfl⟩) (by assumption) ?_
                try simp only [Act.put, List.getElem_toArray, List.getElem_cons_zero, List.getElem_cons_succ, List.setIfInBounds_toArray, List.set_cons_zero, List.set_cons_succ]
                refine wpAnyH_done (by kernel_rfl) ?_ _
                have hwk := Hwk.out
                go_wp2_with fail
                go_roundw
                case rel => exact ⟨k1, by have := Hki.out; have := Hk1.out; omega, rfl, by rw [Hfx.out]; rfl, Hbd.out⟩
                case measure => have := Hki.out; have := Hk1.out; simp [intOf]; omega
              · by_cases hyx : y = x
                · subst hyx
                  refine wpAny_of_held (S := fun W => W.cell? ⟨gk, k, none⟩ = some (.string ⟨y.toArray⟩) ∧ W.cell? ⟨gk, i, none⟩ = some (.string ⟨y.toArray⟩)) _ _ _ _ ?_
                  refine wpAnyH_take (i := 0) (v := .bool true) rfl (by kernel_rfl) (by kernel_rfl) (by kernel_rfl) (fun _ _ _ h => h) (Or.inl ⟨by kernel_rfl, fun W hW => by kernel_rfl⟩) (by assumption) ?_
                  try simp only [Act.put, List.getElem_toArray, List.getElem_cons_zero, List.getElem_cons_succ, List.setIfInBounds_toArray, List.set_cons_zero, List.set_cons_succ]
                  refine wpAnyH_take (i := 1) (v := .bool true) rfl (by kernel_rfl) (by kernel_rfl) (by kernel_rfl) (fun _ _ _ h => h) (Or.inl ⟨by kernel_rfl, fun W hW => by kernel_rfl⟩) (by assumption) ?_
                  try simp only [Act.put, List.getElem_toArray, List.getElem_cons_zero, List.getElem_cons_succ, List.setIfInBounds_toArray, List.set_cons_zero, List.set_cons_succ]
                  refine wpAnyH_take (i := 2) (v := .slice (some ⟨gk, 0, none⟩) K.length ck) rfl (by kernel_rfl) (by kernel_rfl) (by kernel_rfl) (fun _ _ _ h => h) (Or.inl ⟨by kernel_rfl, fun W hW => by kernel_rfl⟩) (by assumption) ?_
                  try simp only [Act.put, List.getElem_toArray, List.getElem_cons_zero, List.getElem_cons_succ, List.setIfInBounds_toArray, List.set_cons_zero, List.set_cons_succ]
                  refine wpAnyH_take (i := 3) (v := .int .i64 (k : Int)) rfl (by kernel_rfl) (by kernel_rfl) (by kernel_rfl) (fun _ _ _ h => h) (Or.inl ⟨by kernel_rfl, fun W hW => by kernel_rfl⟩) (by assumption) ?_
                  try simp only [Act.put, List.getElem_toArray, List.getElem_cons_zero, List.getElem_cons_succ, List.setIfInBounds_toArray, List.set_cons_zero, List.set_cons_succ]
                  refine wpAnyH_take (i := 4) (v := .pointer (some ⟨gk, k, none⟩)) rfl (by kernel_rfl) (by kernel_rfl) (by kernel_rfl) (fun _ _ _ h => h) (Or.inl ⟨by kernel_rfl, fun W hW => by go_simp⟩) (by assumption) ?_
                  try simp only [Act.put, List.getElem_toArray, List.getElem_cons_zero, List.getElem_cons_succ, List.setIfInBounds_toArray, List.set_cons_zero, List.set_cons_succ]
                  refine wpAnyH_take (i := 5) (v := .string ⟨y.toArray⟩) rfl (by kernel_rfl) (by kernel_rfl) (by kernel_rfl) (fun _ _ _ h => h) (Or.inl ⟨by kernel_rfl, fun W hW => by (obtain ⟨d0, d1⟩ := hW; go_simp)⟩) (by assumption) ?_
                  try simp only [Act.put, List.getElem_toArray, List.getElem_cons_zero, List.getElem_cons_succ, List.setIfInBounds_toArray, List.set_cons_zero, List.set_cons_succ]
                  refine wpAnyH_take (i := 6) (v := .slice (some ⟨gk, 0, none⟩) K.length ck) rfl (by kernel_rfl) (by kernel_rfl) (by kernel_rfl) (fun _ _ _ h => h) (Or.inl ⟨by kernel_rfl, fun W hW => by kernel_rfl⟩) (by assumption) ?_
                  try simp only [Act.put, List.getElem_toArray, List.getElem_cons_zero, List.getElem_cons_succ, List.setIfInBounds_toArray, List.set_cons_zero, List.set_cons_succ]
                  refine wpAnyH_take (i := 7) (v := .int .i64 (i : Int)) rfl (by kernel_rfl) (by kernel_rfl) (by kernel_rfl) (fun _ _ _ h => h) (Or.inl ⟨by kernel_rfl, fun W hW => by kernel_rfl⟩) (by assumption) ?_
                  try simp only [Act.put, List.getElem_toArray, List.getElem_cons_zero, List.getElem_cons_succ, List.setIfInBounds_toArray, List.set_cons_zero, List.set_cons_succ]
                  refine wpAnyH_take (i := 8) (v := .pointer (some ⟨gk, i, none⟩)) rfl (by kernel_rfl) (by kernel_rfl) (by kernel_rfl) (fun _ _ _ h => h) (Or.inl ⟨by kernel_rfl, fun W hW => by go_simp⟩) (by assumption) ?_
                  try simp only [Act.put, List.getElem_toArray, List.getElem_cons_zero, List.getElem_cons_succ, List.setIfInBounds_toArray, List.set_cons_zero, List.set_cons_succ]
                  refine wpAnyH_take (i := 9) (v := .string ⟨y.toArray⟩) rfl (by kernel_rfl) (by kernel_rfl) (by kernel_rfl) (fun _ _ _ h => h) (Or.inl ⟨by kernel_rfl, fun W hW => by (obtain ⟨d0, d1⟩ := hW; go_simp)⟩) (by assumption) ?_
                  try simp only [Act.put, List.getElem_toArray, List.getElem_cons_zero, List.getElem_cons_succ, List.setIfInBounds_toArray, List.set_cons_zero, List.set_cons_succ]
                  refine wpAnyH_take (i := 10) (v := .bool false) rfl (by kernel_rfl) (by kernel_rfl) (by kernel_rfl) (fun _ _ _ h => h) (Or.inl ⟨by kernel_rfl, fun W hW => by go_simp⟩) (by assumption) ?_
                  try simp only [Act.put, List.getElem_toArray, List.getElem_cons_zero, List.getElem_cons_succ, List.setIfInBounds_toArray, List.set_cons_zero, List.set_cons_succ]
                  refine wpAnyH_take (i := 11) (v := .bool false) rfl (by kernel_rfl) (by kernel_rfl) (by kernel_rfl) (fun _ _ _ h => h) (Or.inl ⟨by kernel_rfl, fun W hW => by go_simp⟩) (by assumption) ?_
                  try simp only [Act.put, List.getElem_toArray, List.getElem_cons_zero, List.getElem_cons_succ, List.setIfInBounds_toArray, List.set_cons_zero, List.set_cons_succ]
                  refine wpAnyH_take (i := 12) (v := .bool false) rfl (by kernel_rfl) (by kernel_rfl) (by kernel_rfl) (fun _ _ _ h => h) (Or.inl ⟨by kernel_rfl, fun W hW => by go_simp⟩) (by assumption) ?_
                  try simp only [Act.put, List.getElem_toArray, List.getElem_cons_zero, List.getElem_cons_succ, List.setIfInBounds_toArray, List.set_cons_zero, List.set_cons_succ]
                  refine wpAnyH_done (by kernel_rfl) ?_ _
                  have hwk := Hwk.out
                  go_wp2_with fail
                  go_roundw
                  case rel => exact ⟨k1, by have := Hki.out; have := Hk1.out; omega, rfl, by rw [Hfx.out]; simp, Hbd.out⟩
                  case measure => have := Hki.out; have := Hk1.out; simp [intOf]; omega
                · refine wpAny_of_held (S := fun W => W.cell? ⟨gk, k, none⟩ = some (.string ⟨y.toArray⟩) ∧ W.cell? ⟨gk, i, none⟩ = some (.string ⟨x.toArray⟩)) _ _ _ _ ?_
                  refine wpAnyH_take (i := 0) (v := .bool true) rfl (by kernel_rfl) (by kernel_rfl) (by kernel_rfl) (fun _ _ _ h => h) (Or.inl ⟨by kernel_rfl, fun W hW => by kernel_rfl⟩) (by assumption) ?_
                  try simp only [Act.put, List.getElem_toArray, List.getElem_cons_zero, List.getElem_cons_succ, List.setIfInBounds_toArray, List.set_cons_zero, List.set_cons_succ]
                  refine wpAnyH_take (i := 1) (v := .bool true) rfl (by kernel_rfl) (by kernel_rfl) (by kernel_rfl) (fun _ _ _ h => h) (Or.inl ⟨by kernel_rfl, fun W hW => by kernel_rfl⟩) (by assumption) ?_
                  try simp only [Act.put, List.getElem_toArray, List.getElem_cons_zero, List.getElem_cons_succ, List.setIfInBounds_toArray, List.set_cons_zero, List.set_cons_succ]
                  refine wpAnyH_take (i := 2) (v := .slice (some ⟨gk, 0, none⟩) K.length ck) rfl (by kernel_rfl) (by kernel_rfl) (by kernel_rfl) (fun _ _ _ h => h) (Or.inl ⟨by kernel_rfl, fun W hW => by kernel_rfl⟩) (by assumption) ?_
                  try simp only [Act.put, List.getElem_toArray, List.getElem_cons_zero, List.getElem_cons_succ, List.setIfInBounds_toArray, List.set_cons_zero, List.set_cons_succ]
                  refine wpAnyH_take (i := 3) (v := .int .i64 (k : Int)) rfl (by kernel_rfl) (by kernel_rfl) (by kernel_rfl) (fun _ _ _ h => h) (Or.inl ⟨by kernel_rfl, fun W hW => by kernel_rfl⟩) (by assumption) ?_
                  try simp only [Act.put, List.getElem_toArray, List.getElem_cons_zero, List.getElem_cons_succ, List.setIfInBounds_toArray, List.set_cons_zero, List.set_cons_succ]
                  refine wpAnyH_take (i := 4) (v := .pointer (some ⟨gk, k, none⟩)) rfl (by kernel_rfl) (by kernel_rfl) (by kernel_rfl) (fun _ _ _ h => h) (Or.inl ⟨by kernel_rfl, fun W hW => by go_simp⟩) (by assumption) ?_
                  try simp only [Act.put, List.getElem_toArray, List.getElem_cons_zero, List.getElem_cons_succ, List.setIfInBounds_toArray, List.set_cons_zero, List.set_cons_succ]
                  refine wpAnyH_take (i := 5) (v := .string ⟨y.toArray⟩) rfl (by kernel_rfl) (by kernel_rfl) (by kernel_rfl) (fun _ _ _ h => h) (Or.inl ⟨by kernel_rfl, fun W hW => by (obtain ⟨d0, d1⟩ := hW; go_simp)⟩) (by assumption) ?_
                  try simp only [Act.put, List.getElem_toArray, List.getElem_cons_zero, List.getElem_cons_succ, List.setIfInBounds_toArray, List.set_cons_zero, List.set_cons_succ]
                  refine wpAnyH_take (i := 6) (v := .slice (some ⟨gk, 0, none⟩) K.length ck) rfl (by kernel_rfl) (by kernel_rfl) (by kernel_rfl) (fun _ _ _ h => h) (Or.inl ⟨by kernel_rfl, fun W hW => by kernel_rfl⟩) (by assumption) ?_
                  try simp only [Act.put, List.getElem_toArray, List.getElem_cons_zero, List.getElem_cons_succ, List.setIfInBounds_toArray, List.set_cons_zero, List.set_cons_succ]
                  refine wpAnyH_take (i := 7) (v := .int .i64 (i : Int)) rfl (by kernel_rfl) (by kernel_rfl) (by kernel_rfl) (fun _ _ _ h => h) (Or.inl ⟨by kernel_rfl, fun W hW => by kernel_rfl⟩) (by assumption) ?_
                  try simp only [Act.put, List.getElem_toArray, List.getElem_cons_zero, List.getElem_cons_succ, List.setIfInBounds_toArray, List.set_cons_zero, List.set_cons_succ]
                  refine wpAnyH_take (i := 8) (v := .pointer (some ⟨gk, i, none⟩)) rfl (by kernel_rfl) (by kernel_rfl) (by kernel_rfl) (fun _ _ _ h => h) (Or.inl ⟨by kernel_rfl, fun W hW => by go_simp⟩) (by assumption) ?_
                  try simp only [Act.put, List.getElem_toArray, List.getElem_cons_zero, List.getElem_cons_succ, List.setIfInBounds_toArray, List.set_cons_zero, List.set_cons_succ]
                  refine wpAnyH_take (i := 9) (v := .string ⟨x.toArray⟩) rfl (by kernel_rfl) (by kernel_rfl) (by kernel_rfl) (fun _ _ _ h => h) (Or.inl ⟨by kernel_rfl, fun W hW => by (obtain ⟨d0, d1⟩ := hW; go_simp)⟩) (by assumption) ?_
                  try simp only [Act.put, List.getElem_toArray, List.getElem_cons_zero, List.getElem_cons_succ, List.setIfInBounds_toArray, List.set_cons_zero, List.set_cons_succ]
                  refine wpAnyH_take (i := 10) (v := .bool true) rfl (by kernel_rfl) (by kernel_rfl) (by kernel_rfl) (fun _ _ _ h => h) (Or.inl ⟨by kernel_rfl, fun W hW => by go_simp⟩) (by assumption) ?_
                  try simp only [Act.put, List.getElem_toArray, List.getElem_cons_zero, List.getElem_cons_succ, List.setIfInBounds_toArray, List.set_cons_zero, List.set_cons_succ]
                  refine wpAnyH_take (i := 11) (v := .bool true) rfl (by kernel_rfl) (by kernel_rfl) (by kernel_rfl) (fun _ _ _ h => h) (Or.inl ⟨by kernel_rfl, fun W hW => by go_simp⟩) (by assumption) ?_
                  try simp only [Act.put, List.getElem_toArray, List.getElem_cons_zero, List.getElem_cons_succ, List.setIfInBounds_toArray, List.set_cons_zero, List.set_cons_succ]
                  refine wpAnyH_take (i := 12) (v := .bool true) rfl (by kernel_rfl) (by kernel_rfl) (by kernel_rfl) (fun _ _ _ h => h) (Or.inl ⟨by kernel_rfl, fun W hW => by go_simp⟩) (by assumption) ?_
                  try simp only [Act.put, List.getElem_toArray, List.getElem_cons_zero, List.getElem_cons_succ, List.setIfInBounds_toArray, List.set_cons_zero, List.set_cons_succ]
                  refine wpAnyH_done (by kernel_rfl) ?_ _
                  have hwk := Hwk.out
                  go_wp2_with fail
                  go_roundw
                  case rel => exact ⟨k1, by have := Hki.out; have := Hk1.out; omega, rfl, by rw [Hfx.out]; simp [hyx], Hbd.out⟩
                  case measure => have := Hki.out; have := Hk1.out; simp [intOf]; omega
            · have hki' : ¬ (k : Int) < (i : Int) := by omega
              obtain rfl : k = i := by omega
              rw [hfb] at Hcx
              clear hki hk
              have hwc : IntKind.i64.wrap ((cn : Int) + 1) = (cn : Int) + 1 := by rw [IntWalk.i64_in _ (by have := Hcl.out; omega)]
              cases fb
              · go_wp2_with fail
                go_roundw
                case rel => exact ⟨i1, by have := Hlt.out; have := Hi1.out; omega, rfl, by rw [Hcx.out]; rfl, Hb.out⟩
                case measure => have := Hlt.out; have := Hi1.out; simp [intOf]; omega
              · go_wp2_with fail
                go_roundw
                case rel => exact ⟨i1, by have := Hlt.out; have := Hi1.out; omega, rfl, by rw [Hcx.out]; rfl, Hb.out⟩
                case measure => have := Hlt.out; have := Hi1.out; simp [intOf]; omega
        · have hil : ¬ (i : Int) < (K.length : Int) := by omega
          obtain rfl : i = K.length := by omega
          rw [List.take_length]
          have HPa := Lib.hid (cits_below (cits_below HC3.out HB7.out) Hb.out); have HPc := Lib.hid (cits_below HC7.out Hb.out); have HPb := Lib.hid (cits_below (cits_below HD6.out HB67.out) Hb.out)
          have HPn := Lib.hid (SliceIn.below' (SliceIn.below' HN3.out HB7.out) Hb.out); have HPm := Lib.hid (SliceIn.below' (SliceIn.below' HM6.out HB67.out) Hb.out)
          have HBw := Lib.hid (Hb7.out.trans (Hb.out.mono Hb7.out.size))
          have HAl := Lib.hid (show (Lb.all L K style).1.length ≤ 1000 by have := Lb.all_count L K style; have := Lb.cntF_le K; have := Hkn.out; unfold Lb.cntF at *; omega)
          obtain ⟨pn, cn3, hvn, _⟩ := id HPn.out
          subst hvn
          obtain ⟨po, co, hvo, _⟩ := id HO7.out
          subst hvo
          obtain ⟨pa3, ca3, hva, _⟩ := id HPa.out
          subst hva
          have hcnt : ((Lb.cntF K : Nat) : Int) = ((Lb.all L K style).1.length : Int) + ((Lb.all L K style).2.length : Int) := by have := Lb.all_count L K style; unfold Lb.cntF; omega
          have hol := (Lb.all_rev L K style).2
          rw [hol, hcnt]
          have hwl : IntKind.i64.wrap (((Lb.all L K style).1.length : Int) + ((Lb.all L K style).2.length : Int)) = ((Lb.all L K style).1.length : Int) + ((Lb.all L K style).2.length : Int) := by rw [IntWalk.i64_in _ (by have := Lb.cntF_le K; have := Hkn.out; omega)]
          clear hil hi hcnt hol
          go_wp2_with (first
            | (go_at_call 16; with_reducible refine (law17_cites (Lb.all L K style).1 (.slice pa3 (Lb.all L K style).1.length ca3) _ _ _ HPa.out HAl.out HAf.out).mono ?_; rintro e wn ⟨x1, rfl, hX, hb⟩; replace HPa := Lib.hid (cits_below HPa.out hb); replace HPb := Lib.hid (cits_below HPb.out hb); replace HPc := Lib.hid (cits_below HPc.out hb); replace HPn := Lib.hid (SliceIn.below' HPn.out hb); replace HPm := Lib.hid (SliceIn.below' HPm.out hb); replace HBw := Lib.hid (HBw.out.trans (hb.mono HBw.out.size)); have HXx1 := Lib.hid hX; clear hX hb)
            | (go_at_call 16; with_reducible refine (law17_cites (Lb.all L K style).1 vb _ _ _ HPb.out HAl.out HAf.out).mono ?_; rintro e wn ⟨x2, rfl, hX, hb⟩; replace HPa := Lib.hid (cits_below HPa.out hb); replace HPb := Lib.hid (cits_below HPb.out hb); replace HPc := Lib.hid (cits_below HPc.out hb); replace HPn := Lib.hid (SliceIn.below' HPn.out hb); replace HPm := Lib.hid (SliceIn.below' HPm.out hb); replace HBw := Lib.hid (HBw.out.trans (hb.mono HBw.out.size)); replace HXx1 := Lib.hid (cits_below HXx1.out hb); have HXx2 := Lib.hid hX; clear hX hb)
            | (go_at_call 15; with_reducible refine (ref17_same (Lb.all L K style).1 x1 x2 _ _ _ _ _ HXx1.out HXx2.out HAl.out HAf.out).mono ?_; rintro e wn ⟨rfl, hb⟩; replace HPa := Lib.hid (cits_below HPa.out hb); replace HPb := Lib.hid (cits_below HPb.out hb); replace HPc := Lib.hid (cits_below HPc.out hb); replace HPn := Lib.hid (SliceIn.below' HPn.out hb); replace HPm := Lib.hid (SliceIn.below' HPm.out hb); replace HBw := Lib.hid (HBw.out.trans (hb.mono HBw.out.size)); clear hb)
            | (go_at_call 17; refine (ref08_notes _ _ _ _ _ _ _ HPn.out HPm.out).mono ?_; rw [decide_eq_true (Eq.refl (Lb.all L K style).2)]; rintro e wn ⟨rfl, hb⟩; replace HPa := Lib.hid (cits_below HPa.out hb); replace HPb := Lib.hid (cits_below HPb.out hb); replace HPc := Lib.hid (cits_below HPc.out hb); replace HPn := Lib.hid (SliceIn.below' HPn.out hb); replace HPm := Lib.hid (SliceIn.below' HPm.out hb); replace HBw := Lib.hid (HBw.out.trans (hb.mono HBw.out.size)); clear hb)
            | (go_at_call 16; with_reducible refine (law17_cites (Lb.all L K style).1 vc _ _ _ HPc.out HAl.out HAf.out).mono ?_; rintro e wn ⟨x4, rfl, hX, hb⟩; replace HPa := Lib.hid (cits_below HPa.out hb); replace HPb := Lib.hid (cits_below HPb.out hb); replace HPc := Lib.hid (cits_below HPc.out hb); replace HPn := Lib.hid (SliceIn.below' HPn.out hb); replace HPm := Lib.hid (SliceIn.below' HPm.out hb); replace HBw := Lib.hid (HBw.out.trans (hb.mono HBw.out.size)); replace HXx1 := Lib.hid (cits_below HXx1.out hb); have HXx4 := Lib.hid hX; clear hX hb)
            | (go_at_call 15; with_reducible refine (ref17_same (Lb.all L K style).1 x1 x4 _ _ _ _ _ HXx1.out HXx4.out HAl.out HAf.out).mono ?_; rintro e wn ⟨rfl, hb⟩; replace HPa := Lib.hid (cits_below HPa.out hb); replace HPb := Lib.hid (cits_below HPb.out hb); replace HPc := Lib.hid (cits_below HPc.out hb); replace HPn := Lib.hid (SliceIn.below' HPn.out hb); replace HPm := Lib.hid (SliceIn.below' HPm.out hb); replace HBw := Lib.hid (HBw.out.trans (hb.mono HBw.out.size)); clear hb)
            | (go_at_call 12; refine (Hfix.out _ HBw.out).mono ?_; rintro e wn ⟨rfl, hb⟩; replace HPa := Lib.hid (cits_below HPa.out hb); replace HPb := Lib.hid (cits_below HPb.out hb); replace HPc := Lib.hid (cits_below HPc.out hb); replace HPn := Lib.hid (SliceIn.below' HPn.out hb); replace HPm := Lib.hid (SliceIn.below' HPm.out hb); replace HBw := Lib.hid (HBw.out.trans (hb.mono HBw.out.size)); clear hb))
          go_ret
          exact ⟨rfl, HBw.out⟩
end
end Go.Proofs.YtanbcokkfbidbaaGreatDoor
