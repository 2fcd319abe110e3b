/- The walks of slices.SortStableFunc at entries. -/
import Derived.Test.YtanbcokkfbidbaaGreatDoorLbW7
import Derived.Test.YtanbcokkfbidbaaGreatDoorLbS2
set_option linter.unusedSimpArgs false
set_option linter.unusedVariables false
namespace Go.Proofs.YtanbcokkfbidbaaGreatDoor
open Go.RowKit
/-- entries in a block, with their fields' slices -/
structure SRow (W : World) (g : Nat) (es : List (Ent.Ent × Value)) : Prop where
  cell : ∀ (j : Nat) p, es[j]? = some p → W.cell? ⟨g, j * 3, none⟩ = some (.string ⟨p.1.kind.toArray⟩) ∧ W.cell? ⟨g, j * 3 + 1, none⟩ = some (.string ⟨p.1.key.toArray⟩) ∧ W.cell? ⟨g, j * 3 + 2, none⟩ = some p.2
  free : ∀ i, W.frozen? ⟨g, i, none⟩ = false
  lt : g < W.heap.size
theorem SRow.below {W W' : World} {g : Nat} {es : List (Ent.Ent × Value)} (h : SRow W g es) (hb : Below W.heap.size W W') : SRow W' g es :=
  ⟨fun j p hp => ⟨(hb.cell (p := ⟨g, j * 3, none⟩) h.lt).trans (h.cell j p hp).1, (hb.cell (p := ⟨g, j * 3 + 1, none⟩) h.lt).trans (h.cell j p hp).2.1, (hb.cell (p := ⟨g, j * 3 + 2, none⟩) h.lt).trans (h.cell j p hp).2.2⟩,
   fun i => (World.frozen?_of_block (hb.block g h.lt)).trans (h.free i), Nat.lt_of_lt_of_le h.lt hb.size⟩
theorem three_put (W : World) (a0 a1 a2 : Addr) (h01 : a0 ≠ a1) (h02 : a0 ≠ a2) (h12 : a1 ≠ a2) (v0 v1 v2 : Value) {u0 u1 u2 : Value} (q0 : W.cell? a0 = some u0) (q1 : W.cell? a1 = some u1) (q2 : W.cell? a2 = some u2) :
    (((W.setCell a0 v0).setCell a1 v1).setCell a2 v2).cell? a0 = some v0 ∧ (((W.setCell a0 v0).setCell a1 v1).setCell a2 v2).cell? a1 = some v1 ∧ (((W.setCell a0 v0).setCell a1 v1).setCell a2 v2).cell? a2 = some v2 := by
  have d0 : (W.setCell a0 v0).cell? a0 = some v0 := World.cell?_setCell_same _ _ _ q0
  have e1 : (W.setCell a0 v0).cell? a1 = some u1 := (World.cell?_setCell_other _ _ _ _ h01).trans q1
  have e2 : (W.setCell a0 v0).cell? a2 = some u2 := (World.cell?_setCell_other _ _ _ _ h02).trans q2
  generalize W.setCell a0 v0 = W1 at *
  have f0 : (W1.setCell a1 v1).cell? a0 = some v0 := (World.cell?_setCell_other _ _ _ _ (Ne.symm h01)).trans d0
  have f1 : (W1.setCell a1 v1).cell? a1 = some v1 := World.cell?_setCell_same _ _ _ e1
  have f2 : (W1.setCell a1 v1).cell? a2 = some u2 := (World.cell?_setCell_other _ _ _ _ h12).trans e2
  generalize W1.setCell a1 v1 = W2 at *
  exact ⟨(World.cell?_setCell_other _ _ _ _ (Ne.symm h02)).trans f0, (World.cell?_setCell_other _ _ _ _ (Ne.symm h12)).trans f1, World.cell?_setCell_same _ _ _ f2⟩
theorem SRow.put {W : World} {g : Nat} {es : List (Ent.Ent × Value)} (h : SRow W g es) {k : Nat} (hk : k < es.length) (e : Ent.Ent) (v : Value) : SRow (((W.setCell ⟨g, k * 3, none⟩ (.string ⟨e.kind.toArray⟩)).setCell ⟨g, k * 3 + 1, none⟩ (.string ⟨e.key.toArray⟩)).setCell ⟨g, k * 3 + 2, none⟩ v) g (es.set k (e, v)) := by
  obtain ⟨q, hq⟩ : ∃ q, es[k]? = some q := ⟨_, List.getElem?_eq_getElem hk⟩
  obtain ⟨q0, q1, q2⟩ := h.cell k q hq
  refine ⟨fun j r hr => ?_, fun i => by simpa using h.free i, by simpa using h.lt⟩
  by_cases hjk : j = k
  · subst hjk
    rw [List.getElem?_set_self hk] at hr
    obtain rfl := Option.some.inj hr
    exact three_put W _ _ _ (by simp) (by simp) (by simp) _ _ _ q0 q1 q2
  · rw [List.getElem?_set_ne (Ne.symm hjk)] at hr
    obtain ⟨r0, r1, r2⟩ := h.cell j r hr
    have ne : ∀ i q : Nat, i ≠ q → (⟨g, i, none⟩ : Addr) ≠ ⟨g, q, none⟩ := fun i q hiq e => hiq (by simp only [Addr.mk.injEq, and_true, true_and] at e; exact e)
    have oth : ∀ i, i ≠ k * 3 → i ≠ k * 3 + 1 → i ≠ k * 3 + 2 → (((W.setCell ⟨g, k * 3, none⟩ (.string ⟨e.kind.toArray⟩)).setCell ⟨g, k * 3 + 1, none⟩ (.string ⟨e.key.toArray⟩)).setCell ⟨g, k * 3 + 2, none⟩ v).cell? ⟨g, i, none⟩ = W.cell? ⟨g, i, none⟩ := fun i h0 h1 h2 =>
      (World.cell?_setCell_other _ _ _ _ (ne _ _ (Ne.symm h2))).trans ((World.cell?_setCell_other _ _ _ _ (ne _ _ (Ne.symm h1))).trans (World.cell?_setCell_other _ _ _ _ (ne _ _ (Ne.symm h0))))
    have t0 := oth (j * 3) (by omega) (by omega) (by omega); have t1 := oth (j * 3 + 1) (by omega) (by omega) (by omega); have t2 := oth (j * 3 + 2) (by omega) (by omega) (by omega)
    exact ⟨t0.trans r0, t1.trans r1, t2.trans r2⟩
/-- what the sort may turn: the block g alone -/
def Turn (g : Nat) (w w' : World) : Prop := w.grownBy w' (some g)
theorem Turn.below {g : Nat} {w a b : World} (h : Turn g w a) (hb : Below a.heap.size a b) : Turn g w b := grown_trans h (grown_of_below hb _)
theorem Turn.set {g : Nat} {w a : World} (h : Turn g w a) (i : Nat) (v : Value) : Turn g w (a.setCell ⟨g, i, none⟩ v) := by
  have hb := (Below.refl 0 a).setCell (p := ⟨g, i, none⟩) (Nat.zero_le _) v
  exact grown_trans h ⟨hb.os, hb.tape, hb.output, hb.size, fun k _ hne => Below.heap_setCell _ _ _ _ (fun e => hne (by rw [show k = g from e]))⟩
theorem Turn.slice {α : Type} {S : Nat → Prop} {size : Nat} {R : α → List Value → Prop} {g : Nat} {w w' : World} {v : Value} {xs : List α} (h : SliceIn S size R w v xs) (ht : Turn g w w') (hS : ∀ j, S j → j ≠ g) : SliceIn S size R w' v xs :=
  h.kept (fun _ h => h) ht.size (fun j hj hlt => ht.block j hlt (fun e => hS j hj (Option.some.inj e).symm.symm)) (fun _ _ _ h => h)
structure Sortable (m : Int) (g : Nat) (w : World) (es : List (Ent.Ent × Value)) : Prop where
  fld : ∀ p ∈ es, SliceIn (fun j => j ≠ g) 2 RFld w p.2 p.1.fields
  ok : ∀ p ∈ es, Lb.EntB p.1
  m0 : w.cell? ⟨0, 0, none⟩ = some (.int .i64 m)
  h0 : 0 < w.heap.size
  g0 : g ≠ 0
theorem Sortable.turn {m : Int} {g : Nat} {w w' : World} {es : List (Ent.Ent × Value)} (h : Sortable m g w es) (ht : Turn g w w') : Sortable m g w' es := by
  refine ⟨fun p hp => Turn.slice (h.fld p hp) ht (fun _ h => h), h.ok, ?_, Nat.lt_of_lt_of_le h.h0 ht.size, h.g0⟩
  rw [← h.m0]
  have hbl := ht.block 0 h.h0 (fun e => h.g0 (Option.some.inj e).symm)
  show World.cell? w' ⟨0, 0, none⟩ = World.cell? w ⟨0, 0, none⟩
  unfold World.cell?
  dsimp only
  rw [hbl]
theorem swap_list {α : Type} (A B : List α) (x y : α) : ((A ++ y :: x :: B).set (A.length + 1) y).set A.length x = A ++ x :: y :: B := by
  rw [List.set_append_right _ _ (by omega), List.set_append_right _ _ (by omega)]
  rw [show A.length + 1 - A.length = 1 by omega, Nat.sub_self]
  rfl
set_option maxRecDepth 100000 in
set_option maxHeartbeats 6400000 in
theorem lb_insertion (m : Int) (g cap n : Nat) (es : List (Ent.Ent × Value)) (w : World) (hR : SRow w g es) (hn : es.length = n) (hS : Sortable m g w es) (hl : n ≤ 1000) (hc : n ≤ cap) :
    Calls Tryz.prog 52 #[.slice (some ⟨g, 0, none⟩) n cap, .int .i64 0, .int .i64 (n : Int), .func (.func 21) #[] #[]] w fun e w' => e = .returned (.tuple #[]) ∧ SRow w' g (Lb.orderP es) ∧ Turn g w w' := by
  have HR := Lib.hid hR; have HS := Lib.hid hS; have Hl := Lib.hid hl; have Hc := Lib.hid hc; have Hn := Lib.hid hn
  clear hR hS hl hc hn
  go_enter Tryz.func52, Tryz.ntmps52
  go_wp2_with fail
  go_loopw [8] (fun iv wr => ∃ i : Nat, 1 ≤ i ∧ (i ≤ n ∨ i = 1) ∧ iv = .int .i64 (i : Int) ∧ SRow wr g ((Lb.sortP [] (es.take i)).reverse ++ es.drop i) ∧ Turn g w wr) (fun iv _ => n - (intOf iv).toNat)
  case atStart =>
    refine ⟨1, Nat.le_refl _, .inr rfl, rfl, ?_, ⟨rfl, rfl, rfl, Nat.le_refl _, fun _ _ _ => rfl⟩⟩
    have : (Lb.sortP [] (es.take 1)).reverse ++ es.drop 1 = es := by cases es with | nil => rfl | cons a r => simp [Lb.sortP, Lb.insertP]
    rw [this]; exact HR.out
  case round =>
    obtain ⟨i, hi1, hin, rfl, hRr, ht⟩ := hrel
    have Ht := Lib.hid ht; have HRr := Lib.hid hRr
    clear ht hRr
    by_cases hlt : i < n
    · obtain ⟨⟨xe, vx⟩, hx⟩ : ∃ x, es[i]? = some x := ⟨_, List.getElem?_eq_getElem (by rw [Hn.out]; exact hlt)⟩
      obtain ⟨px, nx, cx, hvx⟩ := SliceIn.shape (HS.out.fld _ (List.mem_of_getElem? hx))
      have hvx : vx = _ := hvx
      subst hvx
      obtain ⟨x, hxx⟩ : ∃ x : Ent.Ent × Value, x = (xe, .slice px nx cx) := ⟨_, rfl⟩
      rw [← hxx] at hx
      have Hxx := Lib.hid hxx
      have hlt' : (i : Int) < (n : Int) := by omega
      obtain ⟨i1, hi1'⟩ : ∃ i1, i1 = i + 1 := ⟨_, rfl⟩
      have hwi : IntKind.i64.wrap ((i : Int) + 1) = (i1 : Int) := by rw [IntWalk.i64_in _ (by have := Hl.out; omega)]; omega
      have hdr : es.drop i = x :: es.drop i1 := by
        obtain ⟨h1, h2⟩ := List.getElem?_eq_some_iff.1 hx
        rw [List.drop_eq_getElem_cons h1, h2, hi1']
      have hsn : Lb.sortP [] (es.take i1) = Lb.insertP x (Lb.sortP [] (es.take i)) := by
        rw [hi1', List.take_add_one, hx]; exact Lb.sortP_snoc _ _ _
      have hRl : (Lb.sortP [] (es.take i)).length = i := by
        have h1 := (Lb.sortP_perm (es.take i) []).length_eq
        rw [h1, List.nil_append, List.length_take, Hn.out]; omega
      have hmem : ∀ p ∈ Lb.sortP [] (es.take i), p ∈ es := fun p hp => by
        have h1 := (Lb.sortP_perm (es.take i) []).mem_iff.1 hp
        rw [List.nil_append] at h1
        exact List.mem_of_mem_take h1
      obtain ⟨R, hRR⟩ : ∃ R, Lb.sortP [] (es.take i) = R := ⟨_, rfl⟩
      obtain ⟨rest, hrest⟩ : ∃ rest, es.drop i1 = rest := ⟨_, rfl⟩
      rw [hRR] at hsn hRl hmem HRr
      rw [hrest] at hdr
      have Hstart := Lib.hid (show SRow wr g (R.reverse ++ [x] ++ rest) by have := HRr.out; rw [hdr] at this; simpa using this)
      have Hxe := Lib.hid (List.mem_of_getElem? hx)
      have Hsn := Lib.hid hsn; have HRl := Lib.hid hRl; have Hmem := Lib.hid hmem; have Hlt := Lib.hid hlt; have Hi1 := Lib.hid hi1'; have Hrest := Lib.hid hrest
      have Hlr := Lib.hid (show i1 + rest.length = n by rw [← hrest, List.length_drop, Hn.out]; omega)
      clear hsn hRl hmem hlt hi1' hdr hx hRR HRr hrest hin hxx
      go_wp2_with fail
      go_loopw [9] (fun jv wq => ∃ (Q1 Q2 : List (Ent.Ent × Value)), R = Q1 ++ Q2 ∧ Lb.insertP x R = Q1 ++ Lb.insertP x Q2 ∧ jv = .int .i64 (Q2.length : Int) ∧ SRow wq g (Q2.reverse ++ [x] ++ (Q1.reverse ++ rest)) ∧ Turn g w wq) (fun jv _ => (intOf jv).toNat)
      case atStart => exact ⟨[], R, rfl, rfl, by rw [HRl.out], by simpa using Hstart.out, Ht.out⟩
      case round =>
        clear Hstart Ht
        obtain ⟨Q1, Q2, hR12, hins, rfl, hSr, ht⟩ := hrel
        have HR12 := Lib.hid hR12; have Hins := Lib.hid hins; have HSr := Lib.hid hSr; have Ht := Lib.hid ht
        have hlen : Q1.length + Q2.length = i := by rw [← HRl.out, HR12.out, List.length_append]
        clear hR12 hins hSr ht
        cases Q2 with
        | nil =>
          obtain ⟨j, hj⟩ : ∃ j : Nat, j = 0 := ⟨_, rfl⟩
          have hje : (([] : List (Ent.Ent × Value)).length : Int) = (j : Int) := by rw [hj]; rfl
          rw [hje]
          have hj0 : ¬ (0 : Int) < (j : Int) := by omega
          go_upto_region 4 with fail
          refine wp_region_any (by kernel_rfl) ?_
          change wpAny _ _ _ _ _ _ _ (World.drew _)
          have hS0 : (fun W : World => True) wr.drew := trivial
          dsimp only at hS0
          have HSd := Lib.hid (HSr.out.below (Below.refl _ _).drew); have Htd := Lib.hid (Ht.out.below (Below.refl _ _).drew)
          clear HSr Ht
          generalize wr.drew = wd at *
          refine wpAny_of_held (S := fun W => True) _ _ _ _ ?_
          refine wpAnyH_take (i := 0) (v := .int .i64 (j : Int)) rfl (by kernel_rfl) (by kernel_rfl) (by kernel_rfl) (fun _ _ _ h => h) (Or.inl ⟨by kernel_rfl, fun W hW => by kernel_rfl⟩) (by assumption) ?_
          try simp only [Act.put, List.getElem_toArray, List.getElem_cons_zero, List.getElem_cons_succ, List.setIfInBounds_toArray, List.set_cons_zero, List.set_cons_succ]
          refine wpAnyH_take (i := 1) (v := .int .i64 0) rfl (by kernel_rfl) (by kernel_rfl) (by kernel_rfl) (fun _ _ _ h => h) (Or.inl ⟨by kernel_rfl, fun W hW => by kernel_rfl⟩) (by assumption) ?_
          try simp only [Act.put, List.getElem_toArray, List.getElem_cons_zero, List.getElem_cons_succ, List.setIfInBounds_toArray, List.set_cons_zero, List.set_cons_succ]
          refine wpAnyH_take (i := 2) (v := .bool false) rfl (by kernel_rfl) (by kernel_rfl) (by kernel_rfl) (fun _ _ _ h => h) (Or.inl ⟨by kernel_rfl, fun W hW => by go_simp⟩) (by assumption) ?_
          try simp only [Act.put, List.getElem_toArray, List.getElem_cons_zero, List.getElem_cons_succ, List.setIfInBounds_toArray, List.set_cons_zero, List.set_cons_succ]
          refine wpAnyH_take (i := 3) (v := .bool false) rfl (by kernel_rfl) (by kernel_rfl) (by kernel_rfl) (fun _ _ _ h => h) (Or.inl ⟨by kernel_rfl, fun W hW => by kernel_rfl⟩) (by assumption) ?_
          try simp only [Act.put, List.getElem_toArray, List.getElem_cons_zero, List.getElem_cons_succ, List.setIfInBounds_toArray, List.set_cons_zero, List.set_cons_succ]
          refine wpAnyH_take (i := 4) (v := undef) rfl (by kernel_rfl) (by kernel_rfl) (by kernel_rfl) (fun _ _ _ h => h) (Or.inr ⟨by kernel_rfl, rfl⟩) (by assumption) ?_
          try simp only [Act.put, List.getElem_toArray, List.getElem_cons_zero, List.getElem_cons_succ, List.setIfInBounds_toArray, List.set_cons_zero, List.set_cons_succ]
          refine wpAnyH_take (i := 5) (v := undef) rfl (by kernel_rfl) (by kernel_rfl) (by kernel_rfl) (fun _ _ _ h => h) (Or.inr ⟨by kernel_rfl, rfl⟩) (by assumption) ?_
          try simp only [Act.put, List.getElem_toArray, List.getElem_cons_zero, List.getElem_cons_succ, List.setIfInBounds_toArray, List.set_cons_zero, List.set_cons_succ]
          refine wpAnyH_take (i := 6) (v := undef) rfl (by kernel_rfl) (by kernel_rfl) (by kernel_rfl) (fun _ _ _ h => h) (Or.inr ⟨by kernel_rfl, rfl⟩) (by assumption) ?_
          try simp only [Act.put, List.getElem_toArray, List.getElem_cons_zero, List.getElem_cons_succ, List.setIfInBounds_toArray, List.set_cons_zero, List.set_cons_succ]
          refine wpAnyH_take (i := 7) (v := undef) rfl (by kernel_rfl) (by kernel_rfl) (by kernel_rfl) (fun _ _ _ h => h) (Or.inr ⟨by kernel_rfl, rfl⟩) (by assumption) ?_
          try simp only [Act.put, List.getElem_toArray, List.getElem_cons_zero, List.getElem_cons_succ, List.setIfInBounds_toArray, List.set_cons_zero, List.set_cons_succ]
          refine wpAnyH_take (i := 8) (v := undef) rfl (by kernel_rfl) (by kernel_rfl) (by kernel_rfl) (fun _ _ _ h => h) (Or.inr ⟨by kernel_rfl, rfl⟩) (by assumption) ?_
          try simp only [Act.put, List.getElem_toArray, List.getElem_cons_zero, List.getElem_cons_succ, List.setIfInBounds_toArray, List.set_cons_zero, List.set_cons_succ]
          refine wpAnyH_take (i := 9) (v := undef) rfl (by kernel_rfl) (by kernel_rfl) (by kernel_rfl) (fun _ _ _ h => h) (Or.inr ⟨by kernel_rfl, rfl⟩) (by assumption) ?_
          try simp only [Act.put, List.getElem_toArray, List.getElem_cons_zero, List.getElem_cons_succ, List.setIfInBounds_toArray, List.set_cons_zero, List.set_cons_succ]
          refine wpAnyH_take (i := 10) (v := undef) rfl (by kernel_rfl) (by kernel_rfl) (by kernel_rfl) (fun _ _ _ h => h) (Or.inr ⟨by kernel_rfl, rfl⟩) (by assumption) ?_
          try simp only [Act.put, List.getElem_toArray, List.getElem_cons_zero, List.getElem_cons_succ, List.setIfInBounds_toArray, List.set_cons_zero, List.set_cons_succ]
          refine wpAnyH_take (i := 11) (v := undef) rfl (by kernel_rfl) (by kernel_rfl) (by kernel_rfl) (fun _ _ _ h => h) (Or.inr ⟨by kernel_rfl, rfl⟩) (by assumption) ?_
          try simp only [Act.put, List.getElem_toArray, List.getElem_cons_zero, List.getElem_cons_succ, List.setIfInBounds_toArray, List.set_cons_zero, List.set_cons_succ]
          refine wpAnyH_take (i := 12) (v := undef) rfl (by kernel_rfl) (by kernel_rfl) (by kernel_rfl) (fun _ _ _ h => h) (Or.inr ⟨by kernel_rfl, rfl⟩) (by assumption) ?_
          try simp only [Act.put, List.getElem_toArray, List.getElem_cons_zero, List.getElem_cons_succ, List.setIfInBounds_toArray, List.set_cons_zero, List.set_cons_succ]
          refine wpAnyH_take (i := 13) (v := undef) rfl (by kernel_rfl) (by kernel_rfl) (by kernel_rfl) (fun _ _ _ h => h) (Or.inr ⟨by kernel_rfl, rfl⟩) (by assumption) ?_
          try simp only [Act.put, List.getElem_toArray, List.getElem_cons_zero, List.getElem_cons_succ, List.setIfInBounds_toArray, List.set_cons_zero, List.set_cons_succ]
          refine wpAnyH_take (i := 14) (v := undef) rfl (by kernel_rfl) (by kernel_rfl) (by kernel_rfl) (fun _ _ _ h => h) (Or.inr ⟨by kernel_rfl, rfl⟩) (by assumption) ?_
          try simp only [Act.put, List.getElem_toArray, List.getElem_cons_zero, List.getElem_cons_succ, List.setIfInBounds_toArray, List.set_cons_zero, List.set_cons_succ]
          refine wpAnyH_take (i := 15) (v := undef) rfl (by kernel_rfl) (by kernel_rfl) (by kernel_rfl) (fun _ _ _ h => h) (Or.inr ⟨by kernel_rfl, rfl⟩) (by assumption) ?_
          try simp only [Act.put, List.getElem_toArray, List.getElem_cons_zero, List.getElem_cons_succ, List.setIfInBounds_toArray, List.set_cons_zero, List.set_cons_succ]
          refine wpAnyH_take (i := 16) (v := .bool false) rfl (by kernel_rfl) (by kernel_rfl) (by kernel_rfl) (fun _ _ _ h => h) (Or.inl ⟨by kernel_rfl, fun W hW => by go_simp⟩) (by assumption) ?_
          try simp only [Act.put, List.getElem_toArray, List.getElem_cons_zero, List.getElem_cons_succ, List.setIfInBounds_toArray, List.set_cons_zero, List.set_cons_succ]
          refine wpAnyH_done (by kernel_rfl) ?_ _
          go_wp2_with fail
          go_roundw
          case rel =>
            refine ⟨i1, by have := Hi1.out; omega, .inl (by have := Hi1.out; have := Hlt.out; omega), rfl, ?_, Htd.out⟩
            rw [Hsn.out, Hins.out, Hrest.out]
            have := HSd.out
            simpa [Lb.insertP] using this
          case measure => have := Hlt.out; have := Hi1.out; simp [intOf]; omega
        | cons yy Q2 =>
          obtain ⟨ye, vy⟩ := yy
          have hym : (ye, vy) ∈ es := Hmem.out _ (by rw [HR12.out]; simp)
          obtain ⟨py, ny, cy, hvy⟩ := SliceIn.shape (HS.out.fld _ hym)
          have hvy : vy = _ := hvy
          subst hvy
          obtain ⟨j0, hj0⟩ : ∃ j0, Q2.length = j0 := ⟨_, rfl⟩
          obtain ⟨j, hj⟩ : ∃ j, j0 + 1 = j := ⟨_, rfl⟩
          have hje : (((((ye, .slice py ny cy) : Ent.Ent × Value) :: Q2).length : Nat) : Int) = (j : Int) := by rw [List.length_cons, hj0, hj]
          rw [hje]
          have hjp : (0 : Int) < (j : Int) := by omega
          have hjn : (j : Int) < (n : Int) := by rw [List.length_cons, hj0] at hlen; omega
          have hj0n : (j0 : Int) < (n : Int) := by omega
          have hjm : IntKind.i64.wrap ((j : Int) - 1) = (j0 : Int) := by rw [IntWalk.i64_in _ (by have := Hl.out; omega)]; omega
          obtain ⟨T, hT⟩ : ∃ T, Q1.reverse ++ rest = T := ⟨_, rfl⟩
          have hcur : ((ye, .slice py ny cy) :: Q2).reverse ++ [x] ++ (Q1.reverse ++ rest) = Q2.reverse ++ (ye, .slice py ny cy) :: (xe, .slice px nx cx) :: T := by rw [hT, Hxx.out]; simp
          have hTl : T.length + j + 1 = n := by rw [← hT, List.length_append, List.length_reverse]; rw [List.length_cons, hj0, hj] at hlen; have := Hlr.out; have := Hi1.out; omega
          have Hcur := Lib.hid hcur
          rw [hcur] at HSr
          have HXc := Lib.hid (show (Q2.reverse ++ (ye, .slice py ny cy) :: (xe, .slice px nx cx) :: T)[j]? = some (xe, .slice px nx cx) by rw [List.getElem?_append_right (by rw [List.length_reverse]; omega), List.length_reverse, hj0, show j - j0 = 1 by omega]; rfl)
          have HYc := Lib.hid (show (Q2.reverse ++ (ye, .slice py ny cy) :: (xe, .slice px nx cx) :: T)[j0]? = some (ye, .slice py ny cy) by rw [List.getElem?_append_right (by rw [List.length_reverse]; omega), List.length_reverse, hj0, Nat.sub_self]; rfl)
          have Hcl := Lib.hid (show (Q2.reverse ++ (ye, .slice py ny cy) :: (xe, .slice px nx cx) :: T).length = n by simp; omega)
          have Hsw := Lib.hid (show ((Q2.reverse ++ (ye, .slice py ny cy) :: (xe, .slice px nx cx) :: T).set j (ye, .slice py ny cy)).set j0 (xe, .slice px nx cx) = Q2.reverse ++ (xe, .slice px nx cx) :: (ye, .slice py ny cy) :: T by
            have h := swap_list Q2.reverse T (xe, Value.slice px nx cx) (ye, Value.slice py ny cy)
            rw [List.length_reverse, hj0, hj] at h; exact h)
          have HJ0 := Lib.hid hj0; have HJ := Lib.hid hj; have HT := Lib.hid hT; have Hym := Lib.hid hym; have Hlen := Lib.hid hlen
          clear hje hcur hTl hj0 hT hym hlen hj
          by_cases hneg : Lb.cmp xe ye < 0
          · have Hneg := Lib.hid hneg
            go_upto_region 4 with fail
            refine wp_region_any (by kernel_rfl) ?_
            change wpAny _ _ _ _ _ _ _ (World.drew _)
            have HSd := Lib.hid (HSr.out.below (Below.refl _ _).drew); have Htd := Lib.hid (Ht.out.below (Below.refl _ _).drew)
            have hSd := HS.out.turn Htd.out
            have HFx := Lib.hid (hSd.fld (xe, .slice px nx cx) (by rw [← Hxx.out]; exact Hxe.out)); have HFy := Lib.hid (hSd.fld _ Hym.out); have HBx := Lib.hid (hSd.ok (xe, .slice px nx cx) (by rw [← Hxx.out]; exact Hxe.out)); have HBy := Lib.hid (hSd.ok _ Hym.out)
            have HMd := Lib.hid (And.intro hSd.m0 hSd.h0)
            have HXd := Lib.hid (HSd.out.cell j _ HXc.out); have HYd := Lib.hid (HSd.out.cell j0 _ HYc.out); have Hgd := Lib.hid HSd.out.lt
            clear HSr Ht hSd
            generalize wr.drew = wd at *
            have hS0 := Below.refl wd.heap.size wd
            refine wpAny_of_held (S := fun W => Below wd.heap.size wd W) _ _ _ _ ?_
            refine wpAnyH_take (i := 0) (v := .int .i64 (j : Int)) rfl (by kernel_rfl) (by kernel_rfl) (by kernel_rfl) (fun _ _ _ h => h) (Or.inl ⟨by kernel_rfl, fun W hW => by kernel_rfl⟩) (by assumption) ?_
            try simp only [Act.put, List.getElem_toArray, List.getElem_cons_zero, List.getElem_cons_succ, List.setIfInBounds_toArray, List.set_cons_zero, List.set_cons_succ]
            refine wpAnyH_take (i := 1) (v := .int .i64 0) rfl (by kernel_rfl) (by kernel_rfl) (by kernel_rfl) (fun _ _ _ h => h) (Or.inl ⟨by kernel_rfl, fun W hW => by kernel_rfl⟩) (by assumption) ?_
            try simp only [Act.put, List.getElem_toArray, List.getElem_cons_zero, List.getElem_cons_succ, List.setIfInBounds_toArray, List.set_cons_zero, List.set_cons_succ]
            refine wpAnyH_take (i := 2) (v := .bool true) rfl (by kernel_rfl) (by kernel_rfl) (by kernel_rfl) (fun _ _ _ h => h) (Or.inl ⟨by kernel_rfl, fun W hW => by (go_simp; omega)⟩) (by assumption) ?_
            try simp only [Act.put, List.getElem_toArray, List.getElem_cons_zero, List.getElem_cons_succ, List.setIfInBounds_toArray, List.set_cons_zero, List.set_cons_succ]
            refine wpAnyH_take (i := 3) (v := .bool true) rfl (by kernel_rfl) (by kernel_rfl) (by kernel_rfl) (fun _ _ _ h => h) (Or.inl ⟨by kernel_rfl, fun W hW => by kernel_rfl⟩) (by assumption) ?_
            try simp only [Act.put, List.getElem_toArray, List.getElem_cons_zero, List.getElem_cons_succ, List.setIfInBounds_toArray, List.set_cons_zero, List.set_cons_succ]
            refine wpAnyH_take (i := 4) (v := .func (.func 21) #[] #[]) rfl (by kernel_rfl) (by kernel_rfl) (by kernel_rfl) (fun _ _ _ h => h) (Or.inl ⟨by kernel_rfl, fun W hW => by kernel_rfl⟩) (by assumption) ?_
            try simp only [Act.put, List.getElem_toArray, List.getElem_cons_zero, List.getElem_cons_succ, List.setIfInBounds_toArray, List.set_cons_zero, List.set_cons_succ]
            refine wpAnyH_take (i := 5) (v := .slice (some ⟨g, 0, none⟩) n cap) rfl (by kernel_rfl) (by kernel_rfl) (by kernel_rfl) (fun _ _ _ h => h) (Or.inl ⟨by kernel_rfl, fun W hW => by kernel_rfl⟩) (by assumption) ?_
            try simp only [Act.put, List.getElem_toArray, List.getElem_cons_zero, List.getElem_cons_succ, List.setIfInBounds_toArray, List.set_cons_zero, List.set_cons_succ]
            refine wpAnyH_take (i := 6) (v := .int .i64 (j : Int)) rfl (by kernel_rfl) (by kernel_rfl) (by kernel_rfl) (fun _ _ _ h => h) (Or.inl ⟨by kernel_rfl, fun W hW => by kernel_rfl⟩) (by assumption) ?_
            try simp only [Act.put, List.getElem_toArray, List.getElem_cons_zero, List.getElem_cons_succ, List.setIfInBounds_toArray, List.set_cons_zero, List.set_cons_succ]
            refine wpAnyH_take (i := 7) (v := .pointer (some ⟨g, j * 3, none⟩)) rfl (by kernel_rfl) (by kernel_rfl) (by kernel_rfl) (fun _ _ _ h => h) (Or.inl ⟨by kernel_rfl, fun W hW => by go_simp⟩) (by assumption) ?_
            try simp only [Act.put, List.getElem_toArray, List.getElem_cons_zero, List.getElem_cons_succ, List.setIfInBounds_toArray, List.set_cons_zero, List.set_cons_succ]
            refine wpAnyH_take (i := 8) (v := .agg #[.string ⟨xe.kind.toArray⟩, .string ⟨xe.key.toArray⟩, .slice px nx cx]) rfl (by kernel_rfl) (by kernel_rfl) (by kernel_rfl) (fun _ _ _ h => h) (Or.inl ⟨by kernel_rfl, fun W hW => by (have c := Below.cell hW (p := ⟨g, j * 3, none⟩) Hgd.out; have c1 := Below.cell hW (p := ⟨g, j * 3 + 1, none⟩) Hgd.out; have c2 := Below.cell hW (p := ⟨g, j * 3 + 2, none⟩) Hgd.out; rw [HXd.out.1] at c; rw [HXd.out.2.1] at c1; rw [HXd.out.2.2] at c2; go_simp)⟩) (by assumption) ?_
            try simp only [Act.put, List.getElem_toArray, List.getElem_cons_zero, List.getElem_cons_succ, List.setIfInBounds_toArray, List.set_cons_zero, List.set_cons_succ]
            refine wpAnyH_take (i := 9) (v := .slice (some ⟨g, 0, none⟩) n cap) rfl (by kernel_rfl) (by kernel_rfl) (by kernel_rfl) (fun _ _ _ h => h) (Or.inl ⟨by kernel_rfl, fun W hW => by kernel_rfl⟩) (by assumption) ?_
            try simp only [Act.put, List.getElem_toArray, List.getElem_cons_zero, List.getElem_cons_succ, List.setIfInBounds_toArray, List.set_cons_zero, List.set_cons_succ]
            refine wpAnyH_take (i := 10) (v := .int .i64 (j : Int)) rfl (by kernel_rfl) (by kernel_rfl) (by kernel_rfl) (fun _ _ _ h => h) (Or.inl ⟨by kernel_rfl, fun W hW => by kernel_rfl⟩) (by assumption) ?_
            try simp only [Act.put, List.getElem_toArray, List.getElem_cons_zero, List.getElem_cons_succ, List.setIfInBounds_toArray, List.set_cons_zero, List.set_cons_succ]
            refine wpAnyH_take (i := 11) (v := .int .i64 (j0 : Int)) rfl (by kernel_rfl) (by kernel_rfl) (by kernel_rfl) (fun _ _ _ h => h) (Or.inl ⟨by kernel_rfl, fun W hW => by go_simp⟩) (by assumption) ?_
            try simp only [Act.put, List.getElem_toArray, List.getElem_cons_zero, List.getElem_cons_succ, List.setIfInBounds_toArray, List.set_cons_zero, List.set_cons_succ]
            refine wpAnyH_take (i := 12) (v := .pointer (some ⟨g, j0 * 3, none⟩)) rfl (by kernel_rfl) (by kernel_rfl) (by kernel_rfl) (fun _ _ _ h => h) (Or.inl ⟨by kernel_rfl, fun W hW => by go_simp⟩) (by assumption) ?_
            try simp only [Act.put, List.getElem_toArray, List.getElem_cons_zero, List.getElem_cons_succ, List.setIfInBounds_toArray, List.set_cons_zero, List.set_cons_succ]
            refine wpAnyH_take (i := 13) (v := .agg #[.string ⟨ye.kind.toArray⟩, .string ⟨ye.key.toArray⟩, .slice py ny cy]) rfl (by kernel_rfl) (by kernel_rfl) (by kernel_rfl) (fun _ _ _ h => h) (Or.inl ⟨by kernel_rfl, fun W hW => by (have c := Below.cell hW (p := ⟨g, j0 * 3, none⟩) Hgd.out; have c1 := Below.cell hW (p := ⟨g, j0 * 3 + 1, none⟩) Hgd.out; have c2 := Below.cell hW (p := ⟨g, j0 * 3 + 2, none⟩) Hgd.out; rw [HYd.out.1] at c; rw [HYd.out.2.1] at c1; rw [HYd.out.2.2] at c2; go_simp)⟩) (by assumption) ?_
            try simp only [Act.put, List.getElem_toArray, List.getElem_cons_zero, List.getElem_cons_succ, List.setIfInBounds_toArray, List.set_cons_zero, List.set_cons_succ]
            refine wpAnyH_ready (rs := [14]) (by kernel_rfl) (by simp) ?_
            refine AllReadyH.cons rfl (fun K hK => ?_) AllReadyH.nil
            go_simp
            go_wp2_with (go_at_call 21; refine (lb_cmp xe ye _ _ m _ _ _ HFx.out HFy.out HBx.out HBy.out HMd.out.1 HMd.out.2).mono ?_; rintro e w5 ⟨rfl, hb5⟩; have Hb5 := Lib.hid hb5; clear hb5)
            refine hK.out _ _ (Hb5.out) (fun _ => ?_)
            clear K hK
            try simp only [Act.put, List.getElem_toArray, List.getElem_cons_zero, List.getElem_cons_succ, List.setIfInBounds_toArray, List.set_cons_zero, List.set_cons_succ]
            refine wpAnyH_take (i := 15) (v := .bool true) rfl (by kernel_rfl) (by kernel_rfl) (by kernel_rfl) (fun _ _ _ h => h) (Or.inl ⟨by kernel_rfl, fun W hW => by go_simp⟩) (by assumption) ?_
            try simp only [Act.put, List.getElem_toArray, List.getElem_cons_zero, List.getElem_cons_succ, List.setIfInBounds_toArray, List.set_cons_zero, List.set_cons_succ]
            refine wpAnyH_take (i := 16) (v := .bool true) rfl (by kernel_rfl) (by kernel_rfl) (by kernel_rfl) (fun _ _ _ h => h) (Or.inl ⟨by kernel_rfl, fun W hW => by go_simp⟩) (by assumption) ?_
            try simp only [Act.put, List.getElem_toArray, List.getElem_cons_zero, List.getElem_cons_succ, List.setIfInBounds_toArray, List.set_cons_zero, List.set_cons_succ]
            refine wpAnyH_done (by kernel_rfl) ?_ _
            have HS5 := Lib.hid (HSd.out.below Hb5.out); have Ht5 := Lib.hid (Htd.out.below Hb5.out)
            clear HSd Htd HFx HFy HMd
            go_upto_region 6 with fail
            refine wp_region_any (by kernel_rfl) ?_
            change wpAny _ _ _ _ _ _ _ (World.drew _)
            have HSd := Lib.hid (HS5.out.below (Below.refl _ _).drew); have Htd := Lib.hid (Ht5.out.below (Below.refl _ _).drew)
            have HXd := Lib.hid (HSd.out.cell j _ HXc.out); have HYd := Lib.hid (HSd.out.cell j0 _ HYc.out)
            have hjl2 : j < (Q2.reverse ++ (ye, .slice py ny cy) :: (xe, .slice px nx cx) :: T).length := by rw [Hcl.out]; omega
            clear HS5 Ht5
            generalize w5.drew = wd2 at *
            have hS0 : (fun W : World => True) wd2 := trivial
            dsimp only at hS0
            refine wpAny_of_held (S := fun W => True) _ _ _ _ ?_
            refine wpAnyH_take (i := 0) (v := .slice (some ⟨g, 0, none⟩) n cap) rfl (by kernel_rfl) (by kernel_rfl) (by kernel_rfl) (fun _ _ _ h => h) (Or.inl ⟨by kernel_rfl, fun W hW => by go_simp⟩) (by assumption) ?_
            try simp only [Act.put, List.getElem_toArray, List.getElem_cons_zero, List.getElem_cons_succ, List.setIfInBounds_toArray, List.set_cons_zero, List.set_cons_succ]
            refine wpAnyH_take (i := 1) (v := .int .i64 (j : Int)) rfl (by kernel_rfl) (by kernel_rfl) (by kernel_rfl) (fun _ _ _ h => h) (Or.inl ⟨by kernel_rfl, fun W hW => by go_simp⟩) (by assumption) ?_
            try simp only [Act.put, List.getElem_toArray, List.getElem_cons_zero, List.getElem_cons_succ, List.setIfInBounds_toArray, List.set_cons_zero, List.set_cons_succ]
            refine wpAnyH_take (i := 2) (v := .slice (some ⟨g, 0, none⟩) n cap) rfl (by kernel_rfl) (by kernel_rfl) (by kernel_rfl) (fun _ _ _ h => h) (Or.inl ⟨by kernel_rfl, fun W hW => by go_simp⟩) (by assumption) ?_
            try simp only [Act.put, List.getElem_toArray, List.getElem_cons_zero, List.getElem_cons_succ, List.setIfInBounds_toArray, List.set_cons_zero, List.set_cons_succ]
            refine wpAnyH_take (i := 3) (v := .int .i64 (j : Int)) rfl (by kernel_rfl) (by kernel_rfl) (by kernel_rfl) (fun _ _ _ h => h) (Or.inl ⟨by kernel_rfl, fun W hW => by go_simp⟩) (by assumption) ?_
            try simp only [Act.put, List.getElem_toArray, List.getElem_cons_zero, List.getElem_cons_succ, List.setIfInBounds_toArray, List.set_cons_zero, List.set_cons_succ]
            refine wpAnyH_take (i := 4) (v := .int .i64 (j0 : Int)) rfl (by kernel_rfl) (by kernel_rfl) (by kernel_rfl) (fun _ _ _ h => h) (Or.inl ⟨by kernel_rfl, fun W hW => by go_simp⟩) (by assumption) ?_
            try simp only [Act.put, List.getElem_toArray, List.getElem_cons_zero, List.getElem_cons_succ, List.setIfInBounds_toArray, List.set_cons_zero, List.set_cons_succ]
            refine wpAnyH_take (i := 5) (v := .slice (some ⟨g, 0, none⟩) n cap) rfl (by kernel_rfl) (by kernel_rfl) (by kernel_rfl) (fun _ _ _ h => h) (Or.inl ⟨by kernel_rfl, fun W hW => by go_simp⟩) (by assumption) ?_
            try simp only [Act.put, List.getElem_toArray, List.getElem_cons_zero, List.getElem_cons_succ, List.setIfInBounds_toArray, List.set_cons_zero, List.set_cons_succ]
            refine wpAnyH_take (i := 6) (v := .int .i64 (j : Int)) rfl (by kernel_rfl) (by kernel_rfl) (by kernel_rfl) (fun _ _ _ h => h) (Or.inl ⟨by kernel_rfl, fun W hW => by go_simp⟩) (by assumption) ?_
            try simp only [Act.put, List.getElem_toArray, List.getElem_cons_zero, List.getElem_cons_succ, List.setIfInBounds_toArray, List.set_cons_zero, List.set_cons_succ]
            refine wpAnyH_take (i := 7) (v := .int .i64 (j0 : Int)) rfl (by kernel_rfl) (by kernel_rfl) (by kernel_rfl) (fun _ _ _ h => h) (Or.inl ⟨by kernel_rfl, fun W hW => by go_simp⟩) (by assumption) ?_
            try simp only [Act.put, List.getElem_toArray, List.getElem_cons_zero, List.getElem_cons_succ, List.setIfInBounds_toArray, List.set_cons_zero, List.set_cons_succ]
            refine wpAnyH_take (i := 8) (v := .pointer (some ⟨g, j0 * 3, none⟩)) rfl (by kernel_rfl) (by kernel_rfl) (by kernel_rfl) (fun _ _ _ h => h) (Or.inl ⟨by kernel_rfl, fun W hW => by go_simp⟩) (by assumption) ?_
            try simp only [Act.put, List.getElem_toArray, List.getElem_cons_zero, List.getElem_cons_succ, List.setIfInBounds_toArray, List.set_cons_zero, List.set_cons_succ]
            refine wpAnyH_take (i := 10) (v := .slice (some ⟨g, 0, none⟩) n cap) rfl (by kernel_rfl) (by kernel_rfl) (by kernel_rfl) (fun _ _ _ h => h) (Or.inl ⟨by kernel_rfl, fun W hW => by go_simp⟩) (by assumption) ?_
            try simp only [Act.put, List.getElem_toArray, List.getElem_cons_zero, List.getElem_cons_succ, List.setIfInBounds_toArray, List.set_cons_zero, List.set_cons_succ]
            refine wpAnyH_take (i := 11) (v := .int .i64 (j : Int)) rfl (by kernel_rfl) (by kernel_rfl) (by kernel_rfl) (fun _ _ _ h => h) (Or.inl ⟨by kernel_rfl, fun W hW => by go_simp⟩) (by assumption) ?_
            try simp only [Act.put, List.getElem_toArray, List.getElem_cons_zero, List.getElem_cons_succ, List.setIfInBounds_toArray, List.set_cons_zero, List.set_cons_succ]
            refine wpAnyH_take (i := 12) (v := .pointer (some ⟨g, j * 3, none⟩)) rfl (by kernel_rfl) (by kernel_rfl) (by kernel_rfl) (fun _ _ _ h => h) (Or.inl ⟨by kernel_rfl, fun W hW => by go_simp⟩) (by assumption) ?_
            try simp only [Act.put, List.getElem_toArray, List.getElem_cons_zero, List.getElem_cons_succ, List.setIfInBounds_toArray, List.set_cons_zero, List.set_cons_succ]
            refine wpAnyH_ready (rs := [9, 13]) (by kernel_rfl) (by simp) ?_
            refine AllReadyH.cons rfl (fun K hK => ?_) (AllReadyH.cons rfl (fun K hK => ?_) AllReadyH.nil)
            · have c := HYd.out.1; have c1 := HYd.out.2.1; have c2 := HYd.out.2.2
              go_simp
              refine hK.out _ _ trivial (fun _ => ?_)
              clear K hK c c1 c2
              try simp only [Act.put, List.getElem_toArray, List.getElem_cons_zero, List.getElem_cons_succ, List.setIfInBounds_toArray, List.set_cons_zero, List.set_cons_succ]
              refine wpAnyH_ready (rs := [13]) (by kernel_rfl) (by simp) ?_
              refine AllReadyH.cons rfl (fun K hK => ?_) AllReadyH.nil
              have c := HXd.out.1; have c1 := HXd.out.2.1; have c2 := HXd.out.2.2
              go_simp
              refine hK.out _ _ trivial (fun _ => ?_)
              clear K hK c c1 c2
              try simp only [Act.put, List.getElem_toArray, List.getElem_cons_zero, List.getElem_cons_succ, List.setIfInBounds_toArray, List.set_cons_zero, List.set_cons_succ]
              refine wpAnyH_take (i := 14) (v := .pointer (some ⟨g, j * 3, none⟩)) rfl (by kernel_rfl) (by kernel_rfl) (by kernel_rfl) (fun _ _ _ h => h) (Or.inl ⟨by kernel_rfl, fun W hW => by go_simp⟩) (by assumption) ?_
              try simp only [Act.put, List.getElem_toArray, List.getElem_cons_zero, List.getElem_cons_succ, List.setIfInBounds_toArray, List.set_cons_zero, List.set_cons_succ]
              refine wpAnyH_ready (rs := [15]) (by kernel_rfl) (by simp) ?_
              refine AllReadyH.cons rfl (fun K hK => ?_) AllReadyH.nil
              have r0 := HSd.out.free (j * 3); have r1 := HSd.out.free (j * 3 + 1); have r2 := HSd.out.free (j * 3 + 2); have x0 := HXd.out.1; have x1 := HXd.out.2.1; have x2 := HXd.out.2.2
              go_simp
              have hR1 := HSd.out.put hjl2 ye (.slice py ny cy)
              refine hK.out _ _ trivial (fun _ => ?_)
              clear K hK r0 r1 r2 x0 x1 x2
              try simp only [Act.put, List.getElem_toArray, List.getElem_cons_zero, List.getElem_cons_succ, List.setIfInBounds_toArray, List.set_cons_zero, List.set_cons_succ]
              refine wpAnyH_take (i := 16) (v := .pointer (some ⟨g, j0 * 3, none⟩)) rfl (by kernel_rfl) (by kernel_rfl) (by kernel_rfl) (fun _ _ _ h => h) (Or.inl ⟨by kernel_rfl, fun W hW => by go_simp⟩) (by assumption) ?_
              try simp only [Act.put, List.getElem_toArray, List.getElem_cons_zero, List.getElem_cons_succ, List.setIfInBounds_toArray, List.set_cons_zero, List.set_cons_succ]
              refine wpAnyH_ready (rs := [17]) (by kernel_rfl) (by simp) ?_
              refine AllReadyH.cons rfl (fun K hK => ?_) AllReadyH.nil
              have hjj := HJ.out
              have hyy := hR1.cell j0 (ye, .slice py ny cy) (by rw [List.getElem?_set_ne (by omega)]; exact HYc.out)
              have r0 := hR1.free (j0 * 3); have r1 := hR1.free (j0 * 3 + 1); have r2 := hR1.free (j0 * 3 + 2); have x0 := hyy.1; have x1 := hyy.2.1; have x2 := hyy.2.2
              go_simp
              have hR2 := hR1.put (k := j0) (by rw [List.length_set]; omega) xe (.slice px nx cx)
              refine hK.out _ _ trivial (fun _ => ?_)
              clear K hK r0 r1 r2 x0 x1 x2
              try simp only [Act.put, List.getElem_toArray, List.getElem_cons_zero, List.getElem_cons_succ, List.setIfInBounds_toArray, List.set_cons_zero, List.set_cons_succ]
              refine wpAnyH_done (by kernel_rfl) ?_ _
              go_wp2_with fail
              go_roundw
              case rel =>
                refine ⟨Q1 ++ [(ye, .slice py ny cy)], Q2, ?_, ?_, ?_, ?_, ((((((Htd.out.set _ _).set _ _).set _ _).set _ _).set _ _).set _ _)⟩
                · rw [HR12.out]; simp
                · rw [Hins.out, Lb.insertP, if_pos (by rw [Hxx.out]; exact Hneg.out)]; simp
                · rw [HJ0.out]
                · have h := hR2
                  rw [Hsw.out] at h
                  have e9 : Q2.reverse ++ [x] ++ ((Q1 ++ [(ye, Value.slice py ny cy)]).reverse ++ rest) = Q2.reverse ++ (xe, Value.slice px nx cx) :: (ye, Value.slice py ny cy) :: T := by rw [Hxx.out, ← HT.out]; simp
                  rw [e9]
                  exact h
              case measure => have := HJ0.out; have := HJ.out; simp [intOf]; omega
            · have c := HXd.out.1; have c1 := HXd.out.2.1; have c2 := HXd.out.2.2
              go_simp
              refine hK.out _ _ trivial (fun _ => ?_)
              clear K hK c c1 c2
              try simp only [Act.put, List.getElem_toArray, List.getElem_cons_zero, List.getElem_cons_succ, List.setIfInBounds_toArray, List.set_cons_zero, List.set_cons_succ]
              refine wpAnyH_ready (rs := [9]) (by kernel_rfl) (by simp) ?_
              refine AllReadyH.cons rfl (fun K hK => ?_) AllReadyH.nil
              have c := HYd.out.1; have c1 := HYd.out.2.1; have c2 := HYd.out.2.2
              go_simp
              refine hK.out _ _ trivial (fun _ => ?_)
              clear K hK c c1 c2
              try simp only [Act.put, List.getElem_toArray, List.getElem_cons_zero, List.getElem_cons_succ, List.setIfInBounds_toArray, List.set_cons_zero, List.set_cons_succ]
              refine wpAnyH_take (i := 14) (v := .pointer (some ⟨g, j * 3, none⟩)) rfl (by kernel_rfl) (by kernel_rfl) (by kernel_rfl) (fun _ _ _ h => h) (Or.inl ⟨by kernel_rfl, fun W hW => by go_simp⟩) (by assumption) ?_
              try simp only [Act.put, List.getElem_toArray, List.getElem_cons_zero, List.getElem_cons_succ, List.setIfInBounds_toArray, List.set_cons_zero, List.set_cons_succ]
              refine wpAnyH_ready (rs := [15]) (by kernel_rfl) (by simp) ?_
              refine AllReadyH.cons rfl (fun K hK => ?_) AllReadyH.nil
              have r0 := HSd.out.free (j * 3); have r1 := HSd.out.free (j * 3 + 1); have r2 := HSd.out.free (j * 3 + 2); have x0 := HXd.out.1; have x1 := HXd.out.2.1; have x2 := HXd.out.2.2
              go_simp
              have hR1 := HSd.out.put hjl2 ye (.slice py ny cy)
              refine hK.out _ _ trivial (fun _ => ?_)
              clear K hK r0 r1 r2 x0 x1 x2
              try simp only [Act.put, List.getElem_toArray, List.getElem_cons_zero, List.getElem_cons_succ, List.setIfInBounds_toArray, List.set_cons_zero, List.set_cons_succ]
              refine wpAnyH_take (i := 16) (v := .pointer (some ⟨g, j0 * 3, none⟩)) rfl (by kernel_rfl) (by kernel_rfl) (by kernel_rfl) (fun _ _ _ h => h) (Or.inl ⟨by kernel_rfl, fun W hW => by go_simp⟩) (by assumption) ?_
              try simp only [Act.put, List.getElem_toArray, List.getElem_cons_zero, List.getElem_cons_succ, List.setIfInBounds_toArray, List.set_cons_zero, List.set_cons_succ]
              refine wpAnyH_ready (rs := [17]) (by kernel_rfl) (by simp) ?_
              refine AllReadyH.cons rfl (fun K hK => ?_) AllReadyH.nil
              have hjj := HJ.out
              have hyy := hR1.cell j0 (ye, .slice py ny cy) (by rw [List.getElem?_set_ne (by omega)]; exact HYc.out)
              have r0 := hR1.free (j0 * 3); have r1 := hR1.free (j0 * 3 + 1); have r2 := hR1.free (j0 * 3 + 2); have x0 := hyy.1; have x1 := hyy.2.1; have x2 := hyy.2.2
              go_simp
              have hR2 := hR1.put (k := j0) (by rw [List.length_set]; omega) xe (.slice px nx cx)
              refine hK.out _ _ trivial (fun _ => ?_)
              clear K hK r0 r1 r2 x0 x1 x2
              try simp only [Act.put, List.getElem_toArray, List.getElem_cons_zero, List.getElem_cons_succ, List.setIfInBounds_toArray, List.set_cons_zero, List.set_cons_succ]
              refine wpAnyH_done (by kernel_rfl) ?_ _
              go_wp2_with fail
              go_roundw
              case rel =>
                refine ⟨Q1 ++ [(ye, .slice py ny cy)], Q2, ?_, ?_, ?_, ?_, ((((((Htd.out.set _ _).set _ _).set _ _).set _ _).set _ _).set _ _)⟩
                · rw [HR12.out]; simp
                · rw [Hins.out, Lb.insertP, if_pos (by rw [Hxx.out]; exact Hneg.out)]; simp
                · rw [HJ0.out]
                · have h := hR2
                  rw [Hsw.out] at h
                  have e9 : Q2.reverse ++ [x] ++ ((Q1 ++ [(ye, Value.slice py ny cy)]).reverse ++ rest) = Q2.reverse ++ (xe, Value.slice px nx cx) :: (ye, Value.slice py ny cy) :: T := by rw [Hxx.out, ← HT.out]; simp
                  rw [e9]
                  exact h
              case measure => have := HJ0.out; have := HJ.out; simp [intOf]; omega
          · have Hneg := Lib.hid hneg
            have hnd : decide (Lb.cmp xe ye < 0) = false := decide_eq_false hneg
            clear hneg
            go_upto_region 4 with fail
            refine wp_region_any (by kernel_rfl) ?_
            change wpAny _ _ _ _ _ _ _ (World.drew _)
            have HSd := Lib.hid (HSr.out.below (Below.refl _ _).drew); have Htd := Lib.hid (Ht.out.below (Below.refl _ _).drew)
            have hSd := HS.out.turn Htd.out
            have HFx := Lib.hid (hSd.fld (xe, .slice px nx cx) (by rw [← Hxx.out]; exact Hxe.out)); have HFy := Lib.hid (hSd.fld _ Hym.out); have HBx := Lib.hid (hSd.ok (xe, .slice px nx cx) (by rw [← Hxx.out]; exact Hxe.out)); have HBy := Lib.hid (hSd.ok _ Hym.out)
            have HMd := Lib.hid (And.intro hSd.m0 hSd.h0)
            have HXd := Lib.hid (HSd.out.cell j _ HXc.out); have HYd := Lib.hid (HSd.out.cell j0 _ HYc.out); have Hgd := Lib.hid HSd.out.lt
            clear HSr Ht hSd
            generalize wr.drew = wd at *
            have hS0 := Below.refl wd.heap.size wd
            refine wpAny_of_held (S := fun W => Below wd.heap.size wd W) _ _ _ _ ?_
            refine wpAnyH_take (i := 0) (v := .int .i64 (j : Int)) rfl (by kernel_rfl) (by kernel_rfl) (by kernel_rfl) (fun _ _ _ h => h) (Or.inl ⟨by kernel_rfl, fun W hW => by kernel_rfl⟩) (by assumption) ?_
            try simp only [Act.put, List.getElem_toArray, List.getElem_cons_zero, List.getElem_cons_succ, List.setIfInBounds_toArray, List.set_cons_zero, List.set_cons_succ]
            refine wpAnyH_take (i := 1) (v := .int .i64 0) rfl (by kernel_rfl) (by kernel_rfl) (by kernel_rfl) (fun _ _ _ h => h) (Or.inl ⟨by kernel_rfl, fun W hW => by kernel_rfl⟩) (by assumption) ?_
            try simp only [Act.put, List.getElem_toArray, List.getElem_cons_zero, List.getElem_cons_succ, List.setIfInBounds_toArray, List.set_cons_zero, List.set_cons_succ]
            refine wpAnyH_take (i := 2) (v := .bool true) rfl (by kernel_rfl) (by kernel_rfl) (by kernel_rfl) (fun _ _ _ h => h) (Or.inl ⟨by kernel_rfl, fun W hW => by (go_simp; omega)⟩) (by assumption) ?_
            try simp only [Act.put, List.getElem_toArray, List.getElem_cons_zero, List.getElem_cons_succ, List.setIfInBounds_toArray, List.set_cons_zero, List.set_cons_succ]
            refine wpAnyH_take (i := 3) (v := .bool true) rfl (by kernel_rfl) (by kernel_rfl) (by kernel_rfl) (fun _ _ _ h => h) (Or.inl ⟨by kernel_rfl, fun W hW => by kernel_rfl⟩) (by assumption) ?_
            try simp only [Act.put, List.getElem_toArray, List.getElem_cons_zero, List.getElem_cons_succ, List.setIfInBounds_toArray, List.set_cons_zero, List.set_cons_succ]
            refine wpAnyH_take (i := 4) (v := .func (.func 21) #[] #[]) rfl (by kernel_rfl) (by kernel_rfl) (by kernel_rfl) (fun _ _ _ h => h) (Or.inl ⟨by kernel_rfl, fun W hW => by kernel_rfl⟩) (by assumption) ?_
            try simp only [Act.put, List.getElem_toArray, List.getElem_cons_zero, List.getElem_cons_succ, List.setIfInBounds_toArray, List.set_cons_zero, List.set_cons_succ]
            refine wpAnyH_take (i := 5) (v := .slice (some ⟨g, 0, none⟩) n cap) rfl (by kernel_rfl) (by kernel_rfl) (by kernel_rfl) (fun _ _ _ h => h) (Or.inl ⟨by kernel_rfl, fun W hW => by kernel_rfl⟩) (by assumption) ?_
            try simp only [Act.put, List.getElem_toArray, List.getElem_cons_zero, List.getElem_cons_succ, List.setIfInBounds_toArray, List.set_cons_zero, List.set_cons_succ]
            refine wpAnyH_take (i := 6) (v := .int .i64 (j : Int)) rfl (by kernel_rfl) (by kernel_rfl) (by kernel_rfl) (fun _ _ _ h => h) (Or.inl ⟨by kernel_rfl, fun W hW => by kernel_rfl⟩) (by assumption) ?_
            try simp only [Act.put, List.getElem_toArray, List.getElem_cons_zero, List.getElem_cons_succ, List.setIfInBounds_toArray, List.set_cons_zero, List.set_cons_succ]
            refine wpAnyH_take (i := 7) (v := .pointer (some ⟨g, j * 3, none⟩)) rfl (by kernel_rfl) (by kernel_rfl) (by kernel_rfl) (fun _ _ _ h => h) (Or.inl ⟨by kernel_rfl, fun W hW => by go_simp⟩) (by assumption) ?_
            try simp only [Act.put, List.getElem_toArray, List.getElem_cons_zero, List.getElem_cons_succ, List.setIfInBounds_toArray, List.set_cons_zero, List.set_cons_succ]
            refine wpAnyH_take (i := 8) (v := .agg #[.string ⟨xe.kind.toArray⟩, .string ⟨xe.key.toArray⟩, .slice px nx cx]) rfl (by kernel_rfl) (by kernel_rfl) (by kernel_rfl) (fun _ _ _ h => h) (Or.inl ⟨by kernel_rfl, fun W hW => by (have c := Below.cell hW (p := ⟨g, j * 3, none⟩) Hgd.out; have c1 := Below.cell hW (p := ⟨g, j * 3 + 1, none⟩) Hgd.out; have c2 := Below.cell hW (p := ⟨g, j * 3 + 2, none⟩) Hgd.out; rw [HXd.out.1] at c; rw [HXd.out.2.1] at c1; rw [HXd.out.2.2] at c2; go_simp)⟩) (by assumption) ?_
            try simp only [Act.put, List.getElem_toArray, List.getElem_cons_zero, List.getElem_cons_succ, List.setIfInBounds_toArray, List.set_cons_zero, List.set_cons_succ]
            refine wpAnyH_take (i := 9) (v := .slice (some ⟨g, 0, none⟩) n cap) rfl (by kernel_rfl) (by kernel_rfl) (by kernel_rfl) (fun _ _ _ h => h) (Or.inl ⟨by kernel_rfl, fun W hW => by kernel_rfl⟩) (by assumption) ?_
            try simp only [Act.put, List.getElem_toArray, List.getElem_cons_zero, List.getElem_cons_succ, List.setIfInBounds_toArray, List.set_cons_zero, List.set_cons_succ]
            refine wpAnyH_take (i := 10) (v := .int .i64 (j : Int)) rfl (by kernel_rfl) (by kernel_rfl) (by kernel_rfl) (fun _ _ _ h => h) (Or.inl ⟨by kernel_rfl, fun W hW => by kernel_rfl⟩) (by assumption) ?_
            try simp only [Act.put, List.getElem_toArray, List.getElem_cons_zero, List.getElem_cons_succ, List.setIfInBounds_toArray, List.set_cons_zero, List.set_cons_succ]
            refine wpAnyH_take (i := 11) (v := .int .i64 (j0 : Int)) rfl (by kernel_rfl) (by kernel_rfl) (by kernel_rfl) (fun _ _ _ h => h) (Or.inl ⟨by kernel_rfl, fun W hW => by go_simp⟩) (by assumption) ?_
            try simp only [Act.put, List.getElem_toArray, List.getElem_cons_zero, List.getElem_cons_succ, List.setIfInBounds_toArray, List.set_cons_zero, List.set_cons_succ]
            refine wpAnyH_take (i := 12) (v := .pointer (some ⟨g, j0 * 3, none⟩)) rfl (by kernel_rfl) (by kernel_rfl) (by kernel_rfl) (fun _ _ _ h => h) (Or.inl ⟨by kernel_rfl, fun W hW => by go_simp⟩) (by assumption) ?_
            try simp only [Act.put, List.getElem_toArray, List.getElem_cons_zero, List.getElem_cons_succ, List.setIfInBounds_toArray, List.set_cons_zero, List.set_cons_succ]
            refine wpAnyH_take (i := 13) (v := .agg #[.string ⟨ye.kind.toArray⟩, .string ⟨ye.key.toArray⟩, .slice py ny cy]) rfl (by kernel_rfl) (by kernel_rfl) (by kernel_rfl) (fun _ _ _ h => h) (Or.inl ⟨by kernel_rfl, fun W hW => by (have c := Below.cell hW (p := ⟨g, j0 * 3, none⟩) Hgd.out; have c1 := Below.cell hW (p := ⟨g, j0 * 3 + 1, none⟩) Hgd.out; have c2 := Below.cell hW (p := ⟨g, j0 * 3 + 2, none⟩) Hgd.out; rw [HYd.out.1] at c; rw [HYd.out.2.1] at c1; rw [HYd.out.2.2] at c2; go_simp)⟩) (by assumption) ?_
            try simp only [Act.put, List.getElem_toArray, List.getElem_cons_zero, List.getElem_cons_succ, List.setIfInBounds_toArray, List.set_cons_zero, List.set_cons_succ]
            refine wpAnyH_ready (rs := [14]) (by kernel_rfl) (by simp) ?_
            refine AllReadyH.cons rfl (fun K hK => ?_) AllReadyH.nil
            go_simp
            go_wp2_with (go_at_call 21; refine (lb_cmp xe ye _ _ m _ _ _ HFx.out HFy.out HBx.out HBy.out HMd.out.1 HMd.out.2).mono ?_; rintro e w5 ⟨rfl, hb5⟩; have Hb5 := Lib.hid hb5; clear hb5)
            refine hK.out _ _ (Hb5.out) (fun _ => ?_)
            clear K hK
            try simp only [Act.put, List.getElem_toArray, List.getElem_cons_zero, List.getElem_cons_succ, List.setIfInBounds_toArray, List.set_cons_zero, List.set_cons_succ]
            refine wpAnyH_take (i := 15) (v := .bool false) rfl (by kernel_rfl) (by kernel_rfl) (by kernel_rfl) (fun _ _ _ h => h) (Or.inl ⟨by kernel_rfl, fun W hW => by go_simp⟩) (by assumption) ?_
            try simp only [Act.put, List.getElem_toArray, List.getElem_cons_zero, List.getElem_cons_succ, List.setIfInBounds_toArray, List.set_cons_zero, List.set_cons_succ]
            refine wpAnyH_take (i := 16) (v := .bool false) rfl (by kernel_rfl) (by kernel_rfl) (by kernel_rfl) (fun _ _ _ h => h) (Or.inl ⟨by kernel_rfl, fun W hW => by go_simp⟩) (by assumption) ?_
            try simp only [Act.put, List.getElem_toArray, List.getElem_cons_zero, List.getElem_cons_succ, List.setIfInBounds_toArray, List.set_cons_zero, List.set_cons_succ]
            refine wpAnyH_done (by kernel_rfl) ?_ _
            go_wp2_with fail
            go_roundw
            case rel =>
              refine ⟨i1, by have := Hi1.out; omega, .inl (by have := Hi1.out; have := Hlt.out; omega), rfl, ?_, Htd.out.below Hb5.out⟩
              have hs := HSd.out.below Hb5.out
              rw [← Hcur.out] at hs
              have hi9 : Lb.insertP x ((ye, .slice py ny cy) :: Q2) = x :: (ye, .slice py ny cy) :: Q2 := by unfold Lb.insertP; rw [if_neg (by rw [Hxx.out]; exact Int.not_lt.2 Hneg.out)]
              rw [Hsn.out, Hins.out, Hrest.out, hi9]
              simpa using hs
            case measure => have := Hlt.out; have := Hi1.out; simp [intOf]; omega
    · have hlt' : ¬ (i : Int) < (n : Int) := by omega
      have hie : (Lb.sortP [] (es.take i)).reverse ++ es.drop i = Lb.orderP es := by
        rw [List.take_of_length_le (by rw [Hn.out]; omega), List.drop_of_length_le (by rw [Hn.out]; omega), List.append_nil]; rfl
      rw [hie] at HRr
      clear hlt hie hin
      go_wp2_with fail
      first | refine bodyPost_ret (results_none rfl _ _ _) rfl ?_ | refine bodyPost_end (results_none rfl _ _ _) rfl ?_
      exact ⟨rfl, HRr.out, Ht.out⟩
set_option maxRecDepth 100000 in
theorem lb_stable (m : Int) (g cap n : Nat) (es : List (Ent.Ent × Value)) (w : World) (hR : SRow w g es) (hn : es.length = n) (hS : Sortable m g w es) (hl : n ≤ 19) (hc : n ≤ cap) :
    Calls Tryz.prog 34 #[.slice (some ⟨g, 0, none⟩) n cap, .int .i64 (n : Int), .func (.func 21) #[] #[]] w fun e w' => e = .returned (.tuple #[]) ∧ SRow w' g (Lb.orderP es) ∧ Turn g w w' := by
  have h20 : ¬ (20 : Int) ≤ (n : Int) := by omega
  have h20' : ¬ (20 : Int) < (n : Int) := by omega
  have HR := Lib.hid hR; have HS := Lib.hid hS; have Hn := Lib.hid hn; have Hc := Lib.hid hc; have Hl := Lib.hid hl
  clear hR hS hn hc hl
  go_enter Tryz.func34, Tryz.ntmps34
  go_wp2_with fail
  go_loopw [7, 8] (fun av bv wr => av = .int .i64 0 ∧ bv = .int .i64 20 ∧ wr = w) (fun _ _ _ => 0)
  case atStart => exact ⟨rfl, rfl, rfl⟩
  case round =>
    obtain ⟨rfl, rfl, rfl⟩ := hrel
    go_wp2_with (go_at_call 52; refine (lb_insertion m g cap n es _ HR.out Hn.out HS.out (by have := Hl.out; omega) Hc.out).mono ?_; rintro e w1 ⟨rfl, hR1, hT1⟩; have HR1 := Lib.hid hR1; have HT1 := Lib.hid hT1; clear hR1 hT1)
    go_loopw [6] (fun bv wr => bv = .int .i64 20 ∧ wr = w1) (fun _ _ => 0)
    case atStart => exact ⟨rfl, rfl⟩
    case round =>
      obtain ⟨rfl, rfl⟩ := hrel
      go_wp2_with fail
      first | refine bodyPost_ret (results_none rfl _ _ _) rfl ?_ | refine bodyPost_end (results_none rfl _ _ _) rfl ?_
      exact ⟨rfl, HR1.out, HT1.out⟩
theorem lb_sort (m : Int) (g cap n : Nat) (es : List (Ent.Ent × Value)) (w : World) (hR : SRow w g es) (hn : es.length = n) (hS : Sortable m g w es) (hl : n ≤ 19) (hc : n ≤ cap) :
    Calls Tryz.prog 20 #[.slice (some ⟨g, 0, none⟩) n cap, .func (.func 21) #[] #[]] w fun e w' => e = .returned (.tuple #[]) ∧ SRow w' g (Lb.orderP es) ∧ Turn g w w' := by
  have HR := Lib.hid hR; have HS := Lib.hid hS
  clear hR hS
  go_enter Tryz.func20, Tryz.ntmps20
  go_wp2_with (go_at_call 34; refine (lb_stable m g cap n es _ HR.out hn HS.out hl hc).mono ?_; rintro e w1 ⟨rfl, hR1, hT1⟩; have HR1 := Lib.hid hR1; have HT1 := Lib.hid hT1; clear hR1 hT1)
  first | refine bodyPost_ret (results_none rfl _ _ _) rfl ?_ | refine bodyPost_end (results_none rfl _ _ _) rfl ?_
  exact ⟨rfl, HR1.out, HT1.out⟩
end Go.Proofs.YtanbcokkfbidbaaGreatDoor
