/- The walks of rule.Run: what may not be, a conf that may not be, a copy. -/
import Derived.Test.YtibinlpbcoihoaaGreatDoorG25
import Derived.OrdersHeld
set_option linter.unusedSimpArgs false
set_option linter.unusedVariables false
namespace Go.Proofs.YtibinlpbcoihoaaGreatDoor
open Go.RowKit
theorem grown_setR (w : World) (r i : Nat) (v : Value) : w.grownBy (w.setCell ⟨r, i, none⟩ v) (some r) :=
  ⟨rfl, rfl, rfl, by simp [World.setCell], fun k _ hk => Below.heap_setCell _ _ _ _ (fun e => hk (by rw [e]))⟩
theorem own_setR {α : Type} {B : Nat} {t : TypeId} {n : Nat} {R : α → List Value → Prop} {W : World} {v : Value} {l : List α} (h : OwnL B t n R W v l) {g i : Nat} (u : Value) (hg : g < B) : OwnL B t n R (W.setCell ⟨g, i, none⟩ u) v l :=
  h.grown (grown_setR W g i u) (fun k hk e => by have := (h.ge k hk).1; have := Option.some.inj e; omega)
theorem own_set3R {α : Type} {B : Nat} {t : TypeId} {n : Nat} {R : α → List Value → Prop} {W : World} {v : Value} {l : List α} (h : OwnL B t n R W v l) {g : Nat} (a b c : Value) (hg : g < B) : OwnL B t n R (((W.setCell ⟨g, 0, none⟩ a).setCell ⟨g, 1, none⟩ b).setCell ⟨g, 2, none⟩ c) v l :=
  own_setR (own_setR (own_setR h a hg) b hg) c hg
theorem load_rec (g : Nat) (a b c : Value) (w : World) (h0 : w.cell? ⟨g, 0, none⟩ = some a) (h1 : w.cell? ⟨g, 1, none⟩ = some b) (h2 : w.cell? ⟨g, 2, none⟩ = some c) :
    (loadVar 68 ⟨g, 0, none⟩).run Tryz.prog w = .ok (.agg #[a, b, c]) w := by
  go_simp
/-- the three boxes of a run -/
structure Box (A : Nat) (W : World) (k : Int) (a b : List UInt8) (k0 k1 k2 k3 k4 : Int) : Prop where
  x0 : W.cell? ⟨A, 0, none⟩ = some (.int .i64 k)
  x1 : W.cell? ⟨A, 1, none⟩ = some (.string ⟨a.toArray⟩)
  x2 : W.cell? ⟨A, 2, none⟩ = some (.string ⟨b.toArray⟩)
  c0 : W.cell? ⟨A + 1, 0, none⟩ = some (.int .i64 k0)
  c1 : W.cell? ⟨A + 1, 1, none⟩ = some (.int .i64 k1)
  c2 : W.cell? ⟨A + 1, 2, none⟩ = some (.int .i64 k2)
  c3 : W.cell? ⟨A + 1, 3, none⟩ = some (.int .i64 k3)
  c4 : W.cell? ⟨A + 1, 4, none⟩ = some (.int .i64 k4)
  r : C3 W (A + 1 + 1) (.string ⟨#[]⟩) (.slice none 0 0) (.slice none 0 0)
theorem Box.below {A : Nat} {W W' : World} {k : Int} {a b : List UInt8} {k0 k1 k2 k3 k4 : Int} (h : Box A W k a b k0 k1 k2 k3 k4) (hb : Below W.heap.size W W') : Box A W' k a b k0 k1 k2 k3 k4 := by
  have hl := h.r.lt
  exact ⟨(hb.cell (p := ⟨A, 0, none⟩) (by show A < _; omega)).trans h.x0, (hb.cell (p := ⟨A, 1, none⟩) (by show A < _; omega)).trans h.x1, (hb.cell (p := ⟨A, 2, none⟩) (by show A < _; omega)).trans h.x2,
    (hb.cell (p := ⟨A + 1, 0, none⟩) (by show A + 1 < _; omega)).trans h.c0, (hb.cell (p := ⟨A + 1, 1, none⟩) (by show A + 1 < _; omega)).trans h.c1, (hb.cell (p := ⟨A + 1, 2, none⟩) (by show A + 1 < _; omega)).trans h.c2, (hb.cell (p := ⟨A + 1, 3, none⟩) (by show A + 1 < _; omega)).trans h.c3, (hb.cell (p := ⟨A + 1, 4, none⟩) (by show A + 1 < _; omega)).trans h.c4, h.r.below hb⟩
theorem Box.new (w : World) (k : Int) (a b : List UInt8) (k0 k1 k2 k3 k4 : Int) : Box w.heap.size (((w.alloc (.cells #[.int .i64 k, .string ⟨a.toArray⟩, .string ⟨b.toArray⟩] 36)).alloc (.cells #[.int .i64 k0, .int .i64 k1, .int .i64 k2, .int .i64 k3, .int .i64 k4] 65)).alloc (.cells #[.string ⟨#[]⟩, .slice none 0 0, .slice none 0 0] 68)) k a b k0 k1 k2 k3 k4 := by
  obtain ⟨w1, h1⟩ : ∃ W, W = w.alloc (.cells #[.int .i64 k, .string ⟨a.toArray⟩, .string ⟨b.toArray⟩] 36) := ⟨_, rfl⟩
  obtain ⟨w2, h2⟩ : ∃ W, W = w1.alloc (.cells #[.int .i64 k0, .int .i64 k1, .int .i64 k2, .int .i64 k3, .int .i64 k4] 65) := ⟨_, rfl⟩
  rw [← h1, ← h2]
  have s1 : w1.heap.size = w.heap.size + 1 := by rw [h1]; simp
  have s2 : w2.heap.size = w.heap.size + 1 + 1 := by rw [h2]; simp [s1]
  have b3 := below_new w2 (.cells #[.string ⟨#[]⟩, .slice none 0 0, .slice none 0 0] 68)
  have b2 : Below w1.heap.size w1 w2 := by rw [h2]; exact below_new _ _
  have e1 := cells_kept (w := w) (row := #[.int .i64 k, .string ⟨a.toArray⟩, .string ⟨b.toArray⟩]) (t := 36) (W := w2.alloc (.cells #[.string ⟨#[]⟩, .slice none 0 0, .slice none 0 0] 68)) (by rw [← h1]; exact bseq b2 b3)
  have e2 := cells_kept (w := w1) (row := #[.int .i64 k0, .int .i64 k1, .int .i64 k2, .int .i64 k3, .int .i64 k4]) (t := 65) (W := w2.alloc (.cells #[.string ⟨#[]⟩, .slice none 0 0, .slice none 0 0] 68)) (by rw [← h2]; exact b3)
  rw [s1] at e2
  refine ⟨e1 0 _ rfl, e1 1 _ rfl, e1 2 _ rfl, e2 0 _ rfl, e2 1 _ rfl, e2 2 _ rfl, e2 3 _ rfl, e2 4 _ rfl, ?_⟩
  rw [← s2]
  exact C3.new _ _ _ _ _
def recV (a b c : Value) : Value := .agg #[a, b, c]
set_option maxRecDepth 100000 in
set_option maxHeartbeats 1600000 in
theorem rule_run_bad (x : Ru.Rl) (v : Value) (k0 k1 k2 k3 k4 : Int) (w : World) (hm : Ru.may x = false) (ha : x.a.length ≤ 100000) (hb : x.b.length ≤ 100000) :
    Calls Tryz.prog 31 #[rlV x, v, .agg #[.int .i64 k0, .int .i64 k1, .int .i64 k2, .int .i64 k3, .int .i64 k4]] w fun e w' => e = .returned (.tuple #[recV (.string ⟨#[]⟩) (.slice none 0 0) (.slice none 0 0), .int .i64 16]) ∧ Below w.heap.size w w' := by
  obtain ⟨k, a, b⟩ := x
  unfold rlV
  dsimp only at *
  have Hm := Lib.hid hm; have Ha := Lib.hid ha; have Hb := Lib.hid hb
  clear hm ha hb
  have HBx := Lib.hid (Box.new w k a b k0 k1 k2 k3 k4)
  have Hb0 := Lib.hid (bseq (bseq (below_new w (.cells #[.int .i64 k, .string ⟨a.toArray⟩, .string ⟨b.toArray⟩] 36)) (below_new _ (.cells #[.int .i64 k0, .int .i64 k1, .int .i64 k2, .int .i64 k3, .int .i64 k4] 65))) (below_new _ (.cells #[.string ⟨#[]⟩, .slice none 0 0, .slice none 0 0] 68)))
  go_enter Tryz.func31, Tryz.ntmps31
  go_upto_region 1 with fail
  generalize ((w.alloc (.cells #[.int .i64 k, .string ⟨a.toArray⟩, .string ⟨b.toArray⟩] 36)).alloc (.cells #[.int .i64 k0, .int .i64 k1, .int .i64 k2, .int .i64 k3, .int .i64 k4] 65)).alloc (.cells #[.string ⟨#[]⟩, .slice none 0 0, .slice none 0 0] 68) = wa at *
  obtain ⟨x0, x1, x2, y0, y1, y2, y3, y4, yr⟩ := HBx.out
  go_wp2_with (go_at_call 28; have ho := rule_may ⟨k, a, b⟩ wa Ha.out Hb.out; unfold rlV at ho; refine ho.mono ?_; clear ho; rw [Hm.out]; rintro e w2 ⟨rfl, hb2⟩; clear x0 x1 x2 y0 y1 y2 y3 y4 yr; have HB2 := Lib.hid (HBx.out.below hb2); obtain ⟨x0, x1, x2, y0, y1, y2, y3, y4, yr⟩ := HB2.out; obtain ⟨r0, r1, r2, rf, rl⟩ := yr; have rf0 := rf 0; have rf1 := rf 1; have rf2 := rf 2; have Hb2 := Lib.hid (bseq Hb0.out hb2); clear hb2 rf)
  have hs := set3 (w.heap.size + 1 + 1) w2 (.string ⟨#[]⟩) (.slice none 0 0) (.slice none 0 0) HB2.out.r.c0 HB2.out.r.c1 HB2.out.r.c2
  refine ret_cell (v := recV (.string ⟨#[]⟩) (.slice none 0 0) (.slice none 0 0)) rfl rfl (load_rec _ _ _ _ _ hs.1 hs.2.1 hs.2.2) rfl ⟨rfl, ?_⟩
  exact set3_below Hb2.out (by omega) _ _ _
set_option maxRecDepth 100000 in
set_option maxHeartbeats 1600000 in
theorem rule_run_arg (x : Ru.Rl) (v : Value) (w : World) (hm : Ru.may x = true) (ha : x.a.length ≤ 100000) (hb : x.b.length ≤ 100000) :
    Calls Tryz.prog 31 #[rlV x, v, .agg #[.int .i64 0, .int .i64 0, .int .i64 0, .int .i64 0, .int .i64 0]] w fun e w' => e = .returned (.tuple #[recV (.string ⟨#[]⟩) (.slice none 0 0) (.slice none 0 0), .int .i64 1]) ∧ Below w.heap.size w w' := by
  obtain ⟨k, a, b⟩ := x
  unfold rlV
  dsimp only at *
  have Hm := Lib.hid hm; have Ha := Lib.hid ha; have Hb := Lib.hid hb
  clear hm ha hb
  have HBx := Lib.hid (Box.new w k a b 0 0 0 0 0)
  have Hb0 := Lib.hid (bseq (bseq (below_new w (.cells #[.int .i64 k, .string ⟨a.toArray⟩, .string ⟨b.toArray⟩] 36)) (below_new _ (.cells #[.int .i64 0, .int .i64 0, .int .i64 0, .int .i64 0, .int .i64 0] 65))) (below_new _ (.cells #[.string ⟨#[]⟩, .slice none 0 0, .slice none 0 0] 68)))
  go_enter Tryz.func31, Tryz.ntmps31
  go_upto_region 1 with fail
  generalize ((w.alloc (.cells #[.int .i64 k, .string ⟨a.toArray⟩, .string ⟨b.toArray⟩] 36)).alloc (.cells #[.int .i64 0, .int .i64 0, .int .i64 0, .int .i64 0, .int .i64 0] 65)).alloc (.cells #[.string ⟨#[]⟩, .slice none 0 0, .slice none 0 0] 68) = wa at *
  obtain ⟨x0, x1, x2, y0, y1, y2, y3, y4, yr⟩ := HBx.out
  go_wp2_with first | (go_at_call 28; have ho := rule_may ⟨k, a, b⟩ wa Ha.out Hb.out; unfold rlV at ho; refine ho.mono ?_; clear ho; rw [Hm.out]; rintro e w2 ⟨rfl, hb2⟩; clear x0 x1 x2 y0 y1 y2 y3 y4 yr; have HB2 := Lib.hid (HBx.out.below hb2); obtain ⟨x0, x1, x2, y0, y1, y2, y3, y4, yr⟩ := HB2.out; obtain ⟨r0, r1, r2, rf, rl⟩ := yr; have rf0 := rf 0; have rf1 := rf 1; have rf2 := rf 2; have Hb2 := Lib.hid (bseq Hb0.out hb2); clear hb2 rf) | (go_at_call 47; have ho := markup_right_zero w2; unfold cfV at ho; refine ho.mono ?_; clear ho; rintro e w3 ⟨rfl, hb3⟩; clear x0 x1 x2 y0 y1 y2 y3 y4 r0 r1 r2 rl rf0 rf1 rf2; have HB3 := Lib.hid (HB2.out.below hb3); obtain ⟨x0, x1, x2, y0, y1, y2, y3, y4, yr⟩ := HB3.out; obtain ⟨r0, r1, r2, rf, rl⟩ := yr; have rf0 := rf 0; have rf1 := rf 1; have rf2 := rf 2; have Hb3 := Lib.hid (bseq Hb2.out hb3); clear hb3 rf)
  have hs := set3 (w.heap.size + 1 + 1) w3 (.string ⟨#[]⟩) (.slice none 0 0) (.slice none 0 0) HB3.out.r.c0 HB3.out.r.c1 HB3.out.r.c2
  refine ret_cell (v := recV (.string ⟨#[]⟩) (.slice none 0 0) (.slice none 0 0)) rfl rfl (load_rec _ _ _ _ _ hs.1 hs.2.1 hs.2.2) rfl ⟨rfl, ?_⟩
  exact set3_below Hb3.out (by omega) _ _ _
/-- what a copy's run tells -/
def RunPost (x : Ru.Rl) (l : List (List UInt8 × List UInt8)) (w : World) (e : Ending) (w' : World) : Prop := ∃ (pr pw : Option Addr) (cr cw : Nat),
  e = .returned (.tuple #[recV (.string ⟨(Ru.text x).toArray⟩) (.slice pr (Ru.look l [x.a]).length cr) (.slice pw 1 cw), .int .i64 0]) ∧
  SliceIn (fun _ => True) 3 RSn w' (.slice pr (Ru.look l [x.a]).length cr) (Ru.look l [x.a]) ∧ SliceIn (fun _ => True) 2 RFl w' (.slice pw 1 cw) [(x.b, (Ix.get l x.a).getD [])] ∧ Below w.heap.size w w'
set_option maxRecDepth 100000 in
set_option maxHeartbeats 3200000 in
theorem rule_run_copy (x : Ru.Rl) (l : List (List UInt8 × List UInt8)) (v : Value) (S : Nat → Prop) (k4 : Int) (w : World) (h4 : x.kind = 4) (hm : Ru.may x = true) (ha : x.a.length ≤ 100000) (hb : x.b.length ≤ 100000) (hS : SliceIn S 2 RFl w v l) (hs : Ix.Sorted l) (hl : l.length ≤ 1000000) :
    Calls Tryz.prog 31 #[rlV x, v, .agg #[.int .i64 9, .int .i64 9, .int .i64 9, .int .i64 99, .int .i64 k4]] w fun e w' => RunPost x l w e w' := by
  obtain ⟨pv, cv, rfl⟩ : ∃ p c, v = .slice p l.length c := by obtain ⟨p, c, h, _⟩ := hS; exact ⟨p, c, h⟩
  have HS := Lib.hid hS; have Hs := Lib.hid hs; have Hl := Lib.hid hl
  clear hS hs hl
  obtain ⟨k, a, b⟩ := x
  dsimp only at h4
  subst h4
  have HT := Lib.hid (rule_text ⟨4, a, b⟩)
  obtain ⟨tx, htx⟩ : ∃ t, t = Ru.text ⟨4, a, b⟩ := ⟨_, rfl⟩
  unfold RunPost
  rw [← htx] at HT ⊢
  clear htx
  unfold rlV at *
  dsimp only at *
  have Hm := Lib.hid hm; have Ha := Lib.hid ha; have Hb := Lib.hid hb
  clear hm ha hb
  have HBx := Lib.hid (Box.new w 4 a b 9 9 9 99 k4)
  have Hb0 := Lib.hid (bseq (bseq (below_new w (.cells #[.int .i64 4, .string ⟨a.toArray⟩, .string ⟨b.toArray⟩] 36)) (below_new _ (.cells #[.int .i64 9, .int .i64 9, .int .i64 9, .int .i64 99, .int .i64 k4] 65))) (below_new _ (.cells #[.string ⟨#[]⟩, .slice none 0 0, .slice none 0 0] 68)))
  go_enter Tryz.func31, Tryz.ntmps31
  go_upto_region 1 with fail
  generalize ((w.alloc (.cells #[.int .i64 4, .string ⟨a.toArray⟩, .string ⟨b.toArray⟩] 36)).alloc (.cells #[.int .i64 9, .int .i64 9, .int .i64 9, .int .i64 99, .int .i64 k4] 65)).alloc (.cells #[.string ⟨#[]⟩, .slice none 0 0, .slice none 0 0] 68) = wa at *
  obtain ⟨x0, x1, x2, y0, y1, y2, y3, y4, yr⟩ := HBx.out
  go_upto_region 5 with first | (go_at_call 28; have ho := rule_may ⟨4, a, b⟩ wa Ha.out Hb.out; unfold rlV at ho; refine ho.mono ?_; clear ho; rw [Hm.out]; rintro e w2 ⟨rfl, hb2⟩; clear x0 x1 x2 y0 y1 y2 y3 y4 yr; have HB2 := Lib.hid (HBx.out.below hb2); obtain ⟨x0, x1, x2, y0, y1, y2, y3, y4, yr⟩ := HB2.out; obtain ⟨r0, r1, r2, rf, rl⟩ := yr; have rf0 := rf 0; have rf1 := rf 1; have rf2 := rf 2; have Hb2 := Lib.hid (bseq Hb0.out hb2); clear hb2 rf) | (go_at_call 47; have ho := markup_right_ok w2; unfold cfV at ho; refine ho.mono ?_; clear ho; rintro e w3 ⟨rfl, hb3⟩; clear x0 x1 x2 y0 y1 y2 y3 y4 r0 r1 r2 rl rf0 rf1 rf2; have HB3 := Lib.hid (HB2.out.below hb3); obtain ⟨x0, x1, x2, y0, y1, y2, y3, y4, yr⟩ := HB3.out; obtain ⟨r0, r1, r2, rf, rl⟩ := yr; have rf0 := rf 0; have rf1 := rf 1; have rf2 := rf 2; have Hb3 := Lib.hid (bseq Hb2.out hb3); clear hb3 rf)
  refine wp_region_any (by kernel_rfl) ?_
  change wpAny _ _ _ _ _ _ _ (World.drew _)
  have hS1 : Below w3.heap.size w3 w3.drew := (Below.refl _ _).drew
  clear x0 x1 x2 y0 y1 y2 y3 y4 r0 r1 r2 rl rf0 rf1 rf2
  refine wpAny_of_held (S := fun W => Below w3.heap.size w3 W) _ _ _ _ ?_
  have hS2 : (fun W => Below w3.heap.size w3 W) w3.drew := hS1
  refine wpAnyH_take (i := 1) (v := ?v1) rfl (by kernel_rfl) (by kernel_rfl) (by kernel_rfl) (fun _ _ _ h => h) (Or.inl ⟨by kernel_rfl, fun W hW => ?h1⟩) (by assumption) ?_
  case h1 => (go_simp; rfl)
  refine wpAnyH_take (i := 2) (v := ?v2) rfl (by kernel_rfl) (by kernel_rfl) (by kernel_rfl) (fun _ _ _ h => h) (Or.inl ⟨by kernel_rfl, fun W hW => ?h2⟩) (by assumption) ?_
  case h2 => (obtain ⟨x0, x1, x2, y0, y1, y2, y3, y4, yr⟩ := HB3.out.below hW; go_simp; rfl)
  refine wpAnyH_take (i := 5) (v := ?v3) rfl (by kernel_rfl) (by kernel_rfl) (by kernel_rfl) (fun _ _ _ h => h) (Or.inl ⟨by kernel_rfl, fun W hW => ?h3⟩) (by assumption) ?_
  case h3 => (obtain ⟨x0, x1, x2, y0, y1, y2, y3, y4, yr⟩ := HB3.out.below hW; go_simp; rfl)
  refine wpAnyH_take (i := 6) (v := ?v4) rfl (by kernel_rfl) (by kernel_rfl) (by kernel_rfl) (fun _ _ _ h => h) (Or.inl ⟨by kernel_rfl, fun W hW => ?h4⟩) (by assumption) ?_
  case h4 => (go_simp; rfl)
  refine wpAnyH_take (i := 7) (v := ?v5) rfl (by kernel_rfl) (by kernel_rfl) (by kernel_rfl) (fun _ _ _ h => h) (Or.inl ⟨by kernel_rfl, fun W hW => ?h5⟩) (by assumption) ?_
  case h5 => (obtain ⟨x0, x1, x2, y0, y1, y2, y3, y4, yr⟩ := HB3.out.below hW; go_simp; rfl)
  refine wpAnyH_ready (rs := [0]) (by kernel_rfl) (by simp) ?_
  refine AllReadyH.cons rfl (fun K hK => ?_) AllReadyH.nil
  try simp only [Act.put, List.getElem_toArray, List.getElem_cons_zero, List.getElem_cons_succ, List.setIfInBounds_toArray, List.set_cons_zero, List.set_cons_succ]
  go_simp
  go_wp2_with (go_at_call 20; refine (rule_tools _).mono ?_; rintro e w4 ⟨rfl, _, hb4⟩)
  have hS4 := hS1.trans (hb4.mono hS1.size)
  refine hK.out _ _ (hS4) (fun _ => ?_)
  clear K hK
  try simp only [Act.put, List.getElem_toArray, List.getElem_cons_zero, List.getElem_cons_succ, List.setIfInBounds_toArray, List.set_cons_zero, List.set_cons_succ]
  refine wpAnyH_take (i := 3) (v := .agg #[.string ⟨Ru.wCopy.toArray⟩, .slice none 0 0, .func (.func 37) #[] #[]]) rfl (by kernel_rfl) (by kernel_rfl) (by kernel_rfl) (fun _ _ _ h => h) (Or.inl ⟨by kernel_rfl, fun W hW => by (unfold toolsV; go_simp; rfl)⟩) (by assumption) ?_
  refine wpAnyH_take (i := 4) (v := .func (.func 37) #[] #[]) rfl (by kernel_rfl) (by kernel_rfl) (by kernel_rfl) (fun _ _ _ h => h) (Or.inl ⟨by kernel_rfl, fun W hW => by (go_simp; rfl)⟩) (by assumption) ?_
  refine wpAnyH_ready (rs := [8]) (by kernel_rfl) (by simp) ?_
  refine AllReadyH.cons rfl (fun K hK => ?_) AllReadyH.nil
  try simp only [Act.put, List.getElem_toArray, List.getElem_cons_zero, List.getElem_cons_succ, List.setIfInBounds_toArray, List.set_cons_zero, List.set_cons_succ]
  go_simp
  go_wp2_with (go_at_call 37; have ho := rule_copy ⟨4, a, b⟩ l (.slice pv l.length cv) S 9 9 9 99 k4 w4 ((HS.out.below' Hb3.out).below' hS4) Hs.out Hl.out; unfold rlV at ho; refine ho.mono ?_; clear ho; rintro e w5 ⟨gw, gr, rfl, hW5, hR5, hb5⟩)
  have hS5 := hS4.trans (hb5.mono hS4.size)
  refine hK.out _ _ (hS5) (fun _ => ?_)
  clear K hK
  try simp only [Act.put, List.getElem_toArray, List.getElem_cons_zero, List.getElem_cons_succ, List.setIfInBounds_toArray, List.set_cons_zero, List.set_cons_succ]
  refine wpAnyH_take (i := 9) (v := ?v6) rfl (by kernel_rfl) (by kernel_rfl) (by kernel_rfl) (fun _ _ _ h => h) (Or.inl ⟨by kernel_rfl, fun W hW => ?h6⟩) (by assumption) ?_
  case h6 => (go_simp; rfl)
  refine wpAnyH_take (i := 10) (v := ?v7) rfl (by kernel_rfl) (by kernel_rfl) (by kernel_rfl) (fun _ _ _ h => h) (Or.inl ⟨by kernel_rfl, fun W hW => ?h7⟩) (by assumption) ?_
  case h7 => (go_simp; rfl)
  refine wpAnyH_take (i := 11) (v := ?v8) rfl (by kernel_rfl) (by kernel_rfl) (by kernel_rfl) (fun _ _ _ h => h) (Or.inl ⟨by kernel_rfl, fun W hW => ?h8⟩) (by assumption) ?_
  case h8 => (go_simp; rfl)
  refine wpAnyH_take (i := 12) (v := ?v9) rfl (by kernel_rfl) (by kernel_rfl) (by kernel_rfl) (fun _ _ _ h => h) (Or.inl ⟨by kernel_rfl, fun W hW => ?h9⟩) (by assumption) ?_
  case h9 => (go_simp; rfl)
  refine wpAnyH_take (i := 13) (v := ?v10) rfl (by kernel_rfl) (by kernel_rfl) (by kernel_rfl) (fun _ _ _ h => h) (Or.inl ⟨by kernel_rfl, fun W hW => ?h10⟩) (by assumption) ?_
  case h10 => (go_simp; rfl)
  refine wpAnyH_take (i := 14) (v := ?v11) rfl (by kernel_rfl) (by kernel_rfl) (by kernel_rfl) (fun _ _ _ h => h) (Or.inl ⟨by kernel_rfl, fun W hW => ?h11⟩) (by assumption) ?_
  case h11 => (go_simp; rfl)
  refine wpAnyH_take (i := 15) (v := ?v12) rfl (by kernel_rfl) (by kernel_rfl) (by kernel_rfl) (fun _ _ _ h => h) (Or.inl ⟨by kernel_rfl, fun W hW => ?h12⟩) (by assumption) ?_
  case h12 => (go_simp; rfl)
  refine wpAnyH_done (by kernel_rfl) ?_ _
  try simp only [Act.put, List.getElem_toArray, List.getElem_cons_zero, List.getElem_cons_succ, List.setIfInBounds_toArray, List.set_cons_zero, List.set_cons_succ]
  have HB5 := Lib.hid (HB3.out.below hS5)
  have Hb5 := Lib.hid (bseq Hb3.out hS5)
  have HW5 := Lib.hid (hW5.slice RFl.size (fun _ => True) (fun _ _ => trivial))
  have HR5 := Lib.hid (hR5.slice RStr.size (fun _ => True) (fun _ _ => trivial))
  have HS5 := Lib.hid (HS.out.below' Hb5.out)
  clear hS1 hS2 hS4 hS5 hW5 hR5 hb4 hb5
  obtain ⟨x0, x1, x2, y0, y1, y2, y3, y4, yr⟩ := HB5.out
  clear y0 y1 y2 y3 y4 yr
  go_wp2_with first
    | (go_at_call 13; refine (HT.out _ Ha.out Hb.out).mono ?_; rintro e w6 ⟨rfl, hb6⟩; have Hb6 := Lib.hid hb6; clear hb6 x0 x1 x2)
    | (go_at_call 48; refine (record_look l [a] _ _ _ _ w6 (HS5.out.below' Hb6.out) (sliceBelow HR5.out Hb6.out) Hs.out Hl.out (by simp)).mono ?_; rintro e w7 ⟨pr, cr, rfl, hO7, hb7⟩; have HO7 := Lib.hid hO7; have Hb7 := Lib.hid hb7; clear hO7 hb7)
    | (go_at_call 49; refine (std_clone_files [(b, (Ix.get l a).getD [])] _ 1 _ w7 (sliceBelow (sliceBelow HW5.out Hb6.out) Hb7.out) (by simp)).mono ?_; rintro e w8 ⟨pw, cw, rfl, hO8, hb8⟩; have HO8 := Lib.hid hO8; have Hb8 := Lib.hid hb8; have Hb58 := Lib.hid (bseq (bseq Hb6.out Hb7.out) hb8); have HB8 := Lib.hid (HB5.out.below Hb58.out); clear hO8 hb8; obtain ⟨r0, r1, r2, rf, rl⟩ := HB8.out.r; have rf0 := rf 0; have rf1 := rf 1; have rf2 := rf 2; clear rf)
  have hs := set3 (w.heap.size + 1 + 1) w8 (.string ⟨tx.toArray⟩) (.slice pr (Ru.look l [a]).length cr) (.slice pw 1 cw) r0 r1 r2
  have hgt : w.heap.size + 1 + 1 < w5.heap.size := HB5.out.r.lt
  have h56 := Hb6.out.size; have h67 := Hb7.out.size
  refine ret_cell (v := recV (.string ⟨tx.toArray⟩) (.slice pr (Ru.look l [a]).length cr) (.slice pw 1 cw)) rfl rfl (load_rec _ _ _ _ _ hs.1 hs.2.1 hs.2.2) rfl ⟨pr, pw, cr, cw, rfl, ?_, ?_, ?_⟩
  · exact (own_set3R (HO7.out.below Hb8.out) _ _ _ (by omega)).slice RSn.size _ (fun _ _ => trivial)
  · exact (own_set3R HO8.out _ _ _ (by omega)).slice RFl.size _ (fun _ _ => trivial)
  · exact set3_below (bseq Hb5.out Hb58.out) (by omega) _ _ _
end Go.Proofs.YtibinlpbcoihoaaGreatDoor
