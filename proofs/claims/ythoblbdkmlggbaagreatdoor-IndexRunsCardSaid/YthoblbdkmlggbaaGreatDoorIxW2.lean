/- The walks of package index, second part: the order of places; pages; digits. -/
import Derived.Test.YthoblbdkmlggbaaGreatDoorIxW1
import Derived.BigQuiet
import Derived.OrdersHeld
import Derived.Deep.RegionHeld
set_option linter.unusedSimpArgs false
set_option linter.unusedVariables false
namespace Go.Proofs.YthoblbdkmlggbaaGreatDoor
open Go.RowKit
/-- three cells of a block: an entry -/
structure E3 (W : World) (g : Nat) (a b c : Value) : Prop where
  c0 : W.cell? ⟨g, 0, none⟩ = some a
  c1 : W.cell? ⟨g, 1, none⟩ = some b
  c2 : W.cell? ⟨g, 2, none⟩ = some c
  f : ∀ i, W.frozen? ⟨g, i, none⟩ = false
  lt : g < W.heap.size
section
variable {W W' : World} {g : Nat} {a b c : Value}
theorem E3.new (w : World) (t : TypeId) (a b c : Value) : E3 (w.alloc (.cells #[a, b, c] t)) w.heap.size a b c := by
  have h : ∀ (i : Nat) (u : Value), #[a, b, c][i]? = some u → (w.alloc (.cells #[a, b, c] t)).cell? ⟨w.heap.size, i, none⟩ = some u := by
    intro i u hu
    rw [cell_of_row _ _ _ _ _ _ (heap_alloc_new w _)]
    exact hu
  exact ⟨h 0 _ rfl, h 1 _ rfl, h 2 _ rfl, fun i => by simp, lt_alloc w _⟩
theorem E3.below (h : E3 W g a b c) {B : Nat} (hb : Below B W W') (hg : g < B) : E3 W' g a b c :=
  ⟨(hb.cell (p := ⟨g, 0, none⟩) hg).trans h.c0, (hb.cell (p := ⟨g, 1, none⟩) hg).trans h.c1, (hb.cell (p := ⟨g, 2, none⟩) hg).trans h.c2,
   fun i => (World.frozen?_of_block (hb.block g hg)).trans (h.f i), Nat.lt_of_lt_of_le h.lt hb.size⟩
theorem E3.below' (h : E3 W g a b c) (hb : Below W.heap.size W W') : E3 W' g a b c := h.below hb h.lt
theorem E3.drew (h : E3 W g a b c) : E3 W.drew g a b c := ⟨h.c0, h.c1, h.c2, h.f, h.lt⟩
theorem E3.other (h : E3 W g a b c) {k : Nat} (hk : k ≠ g) (i : Nat) (v : Value) : E3 (W.setCell ⟨k, i, none⟩ v) g a b c := by
  have e : ∀ j, (W.setCell ⟨k, i, none⟩ v).cell? ⟨g, j, none⟩ = W.cell? ⟨g, j, none⟩ := fun j => World.cell?_setCell_other _ _ _ _ (fun e => hk (by cases e; rfl))
  exact ⟨(e 0).trans h.c0, (e 1).trans h.c1, (e 2).trans h.c2, fun j => by simpa using h.f j, by simpa using h.lt⟩
theorem E3.set0 (h : E3 W g a b c) (v : Value) : E3 (W.setCell ⟨g, 0, none⟩ v) g v b c :=
  ⟨World.cell?_setCell_same _ _ _ h.c0, (World.cell?_setCell_other _ _ _ _ (by simp)).trans h.c1, (World.cell?_setCell_other _ _ _ _ (by simp)).trans h.c2, fun j => by simpa using h.f j, by simpa using h.lt⟩
theorem E3.set1 (h : E3 W g a b c) (v : Value) : E3 (W.setCell ⟨g, 1, none⟩ v) g a v c :=
  ⟨(World.cell?_setCell_other _ _ _ _ (by simp)).trans h.c0, World.cell?_setCell_same _ _ _ h.c1, (World.cell?_setCell_other _ _ _ _ (by simp)).trans h.c2, fun j => by simpa using h.f j, by simpa using h.lt⟩
theorem E3.set2 (h : E3 W g a b c) (v : Value) : E3 (W.setCell ⟨g, 2, none⟩ v) g a b v :=
  ⟨(World.cell?_setCell_other _ _ _ _ (by simp)).trans h.c0, (World.cell?_setCell_other _ _ _ _ (by simp)).trans h.c1, World.cell?_setCell_same _ _ _ h.c2, fun j => by simpa using h.f j, by simpa using h.lt⟩
theorem E3.all (h : E3 W g a b c) (a' b' c' : Value) : E3 (((W.setCell ⟨g, 0, none⟩ a').setCell ⟨g, 1, none⟩ b').setCell ⟨g, 2, none⟩ c') g a' b' c' :=
  ((h.set0 a').set1 b').set2 c'
end
theorem below3 {B g : Nat} {a0 w : World} (h : Below B a0 w) (hg : B ≤ g) (a b c : Value) : Below B a0 (((w.setCell ⟨g, 0, none⟩ a).setCell ⟨g, 1, none⟩ b).setCell ⟨g, 2, none⟩ c) :=
  ((h.setCell (p := ⟨g, 0, none⟩) hg a).setCell (p := ⟨g, 1, none⟩) hg b).setCell (p := ⟨g, 2, none⟩) hg c

def plV (p : Ix.Pl) : Value := .agg #[.string ⟨p.1.toArray⟩, .string ⟨p.2.1.toArray⟩, .bool p.2.2]
def plC (p : Ix.Pl) : List Value := [.string ⟨p.1.toArray⟩, .string ⟨p.2.1.toArray⟩, .bool p.2.2]
def isN (a b : Bool) : Int := if a && !b then 1 else if b && !a then -1 else 0
theorem isN_cmp (a b : Bool) : isN a b = Ix.cmpB (Ix.flag a) (Ix.flag b) := by cases a <;> cases b <;> decide
theorem first_flat (x y f z u : Int) : Ix.firstNZ [Ix.firstNZ [x, y], f, Ix.firstNZ [z, u]] = Ix.firstNZ [x, y, f, z, u] := by
  by_cases hx : x = 0 <;> by_cases hy : y = 0 <;> by_cases hf : f = 0 <;> by_cases hz : z = 0 <;> by_cases hu : u = 0 <;> simp [Ix.firstNZ, hx, hy, hf, hz, hu]
theorem cp_first (p q : Ix.Pl) : Ix.firstNZ [Ix.cl p.1 q.1, isN p.2.2 q.2.2, Ix.cl p.2.1 q.2.1] = Ix.cp p q := by
  unfold Ix.cp Ix.kp Ix.cl Ix.kl
  rw [isN_cmp]
  simp only [Ix.cmpL_zip, List.zipWith_cons_cons, List.zipWith_nil_left, List.zipWith_nil_right]
  exact first_flat _ _ _ _ _
set_option maxRecDepth 100000 in
set_option maxHeartbeats 800000 in
theorem ix_order (p q : Ix.Pl) (w : World) (hp : p.1.length ≤ maxLen ∧ p.2.1.length ≤ maxLen) (hq : q.1.length ≤ maxLen ∧ q.2.1.length ≤ maxLen) :
    Calls Tryz.prog 57 #[plV p, plV q] w fun e w' => e = .returned (.int .i64 (Ix.cp p q)) ∧ Below w.heap.size w w' ∧ Dr w w' := by
  obtain ⟨m1, s1, b1⟩ := p
  obtain ⟨m2, s2, b2⟩ := q
  have hr := cp_first (m1, s1, b1) (m2, s2, b2)
  simp only at hp hq hr
  have Hp := Lib.hid hp; have Hq := Lib.hid hq; have Hr := Lib.hid hr
  clear hp hq hr
  unfold plV
  have hx0 := E3.new w 62 (.string ⟨m1.toArray⟩) (.string ⟨s1.toArray⟩) (.bool b1)
  have h0 := below_new w (.cells #[.string ⟨m1.toArray⟩, .string ⟨s1.toArray⟩, .bool b1] 62)
  have hs1 : (w.alloc (.cells #[.string ⟨m1.toArray⟩, .string ⟨s1.toArray⟩, .bool b1] 62)).heap.size = w.heap.size + 1 := by simp
  have hb1 := below_new (w.alloc (.cells #[.string ⟨m1.toArray⟩, .string ⟨s1.toArray⟩, .bool b1] 62)) (.cells #[.string ⟨m2.toArray⟩, .string ⟨s2.toArray⟩, .bool b2] 62)
  have hy0 := E3.new (w.alloc (.cells #[.string ⟨m1.toArray⟩, .string ⟨s1.toArray⟩, .bool b1] 62)) 62 (.string ⟨m2.toArray⟩) (.string ⟨s2.toArray⟩) (.bool b2)
  have hx1 := hx0.below' hb1
  rw [hs1] at hy0
  have hbb := bseq h0 hb1
  have Hx := Lib.hid hx1; have Hy := Lib.hid hy0; have Hbb := Lib.hid hbb
  clear hx0 hx1 hy0 h0 hb1 hs1 hbb
  go_enter Tryz.func57, Tryz.ntmps57
  go_upto_block 0 with fail
  go_cut [5] (fun v W => v = .int .i64 (isN b1 b2) ∧ E3 W w.heap.size (.string ⟨m1.toArray⟩) (.string ⟨s1.toArray⟩) (.bool b1) ∧ E3 W (w.heap.size + 1) (.string ⟨m2.toArray⟩) (.string ⟨s2.toArray⟩) (.bool b2) ∧ Below w.heap.size w W ∧ Dr w W)
  case first =>
    have c1 := Hx.out.c2
    have c2 := Hy.out.c2
    cases b1 <;> cases b2
    all_goals (go_wp2_with fail; go_meet; exact ⟨rfl, Hx.out, Hy.out, Hbb.out, Dr.refl w⟩)
  case rest =>
    clear Hx Hy Hbb
    obtain ⟨rfl, hX, hY, hB, hDr⟩ := hcut
    generalize hn : isN b1 b2 = n at *
    go_upto_region 6 with fail
    refine wp_region_any (by kernel_rfl) ?_
    change wpAny _ _ _ _ _ _ _ (World.drew _)
    have HB := Lib.hid hB.drew; have X := Lib.hid hX.drew; have Y := Lib.hid hY.drew; have D0 := Lib.hid (show Dr w wc.drew from Nat.le_succ_of_le hDr)
    clear hX hY hB hDr
    generalize wc.drew = wd at *
    generalize hg1 : w.heap.size = g1 at *
    generalize hg2 : g1 + 1 = g2 at *
    have hS0 : Below wd.heap.size wd wd ∧ Dr wd wd := ⟨Below.refl _ _, Dr.refl _⟩
    refine wpAny_of_held (S := fun W => Below wd.heap.size wd W ∧ Dr wd W) _ _ _ _ ?_
    refine wpAnyH_take (i := 0) (v := .pointer (some ⟨g1, 0, none⟩)) rfl (by kernel_rfl) (by kernel_rfl) (by kernel_rfl) (fun _ _ _ h => h) (Or.inl ⟨by kernel_rfl, fun W hW => by go_simp⟩) (by assumption) ?_
    try simp only [Act.put, List.getElem_toArray, List.getElem_cons_zero, List.getElem_cons_succ, List.setIfInBounds_toArray, List.set_cons_zero, List.set_cons_succ]
    refine wpAnyH_take (i := 1) (v := .string ⟨m1.toArray⟩) rfl (by kernel_rfl) (by kernel_rfl) (by kernel_rfl) (fun _ _ _ h => h) (Or.inl ⟨by kernel_rfl, fun W hW => by (have q := X.out.below' hW.1; have c := q.c0; go_simp)⟩) (by assumption) ?_
    try simp only [Act.put, List.getElem_toArray, List.getElem_cons_zero, List.getElem_cons_succ, List.setIfInBounds_toArray, List.set_cons_zero, List.set_cons_succ]
    refine wpAnyH_take (i := 2) (v := .pointer (some ⟨g2, 0, none⟩)) rfl (by kernel_rfl) (by kernel_rfl) (by kernel_rfl) (fun _ _ _ h => h) (Or.inl ⟨by kernel_rfl, fun W hW => by go_simp⟩) (by assumption) ?_
    try simp only [Act.put, List.getElem_toArray, List.getElem_cons_zero, List.getElem_cons_succ, List.setIfInBounds_toArray, List.set_cons_zero, List.set_cons_succ]
    refine wpAnyH_take (i := 3) (v := .string ⟨m2.toArray⟩) rfl (by kernel_rfl) (by kernel_rfl) (by kernel_rfl) (fun _ _ _ h => h) (Or.inl ⟨by kernel_rfl, fun W hW => by (have q := Y.out.below' hW.1; have c := q.c0; go_simp)⟩) (by assumption) ?_
    try simp only [Act.put, List.getElem_toArray, List.getElem_cons_zero, List.getElem_cons_succ, List.setIfInBounds_toArray, List.set_cons_zero, List.set_cons_succ]
    refine wpAnyH_take (i := 5) (v := .int .i64 n) rfl (by kernel_rfl) (by kernel_rfl) (by kernel_rfl) (fun _ _ _ h => h) (Or.inl ⟨by kernel_rfl, fun W hW => by kernel_rfl⟩) (by assumption) ?_
    try simp only [Act.put, List.getElem_toArray, List.getElem_cons_zero, List.getElem_cons_succ, List.setIfInBounds_toArray, List.set_cons_zero, List.set_cons_succ]
    refine wpAnyH_take (i := 6) (v := .pointer (some ⟨g1, 1, none⟩)) rfl (by kernel_rfl) (by kernel_rfl) (by kernel_rfl) (fun _ _ _ h => h) (Or.inl ⟨by kernel_rfl, fun W hW => by go_simp⟩) (by assumption) ?_
    try simp only [Act.put, List.getElem_toArray, List.getElem_cons_zero, List.getElem_cons_succ, List.setIfInBounds_toArray, List.set_cons_zero, List.set_cons_succ]
    refine wpAnyH_take (i := 7) (v := .string ⟨s1.toArray⟩) rfl (by kernel_rfl) (by kernel_rfl) (by kernel_rfl) (fun _ _ _ h => h) (Or.inl ⟨by kernel_rfl, fun W hW => by (have q := X.out.below' hW.1; have c := q.c1; go_simp)⟩) (by assumption) ?_
    try simp only [Act.put, List.getElem_toArray, List.getElem_cons_zero, List.getElem_cons_succ, List.setIfInBounds_toArray, List.set_cons_zero, List.set_cons_succ]
    refine wpAnyH_take (i := 8) (v := .pointer (some ⟨g2, 1, none⟩)) rfl (by kernel_rfl) (by kernel_rfl) (by kernel_rfl) (fun _ _ _ h => h) (Or.inl ⟨by kernel_rfl, fun W hW => by go_simp⟩) (by assumption) ?_
    try simp only [Act.put, List.getElem_toArray, List.getElem_cons_zero, List.getElem_cons_succ, List.setIfInBounds_toArray, List.set_cons_zero, List.set_cons_succ]
    refine wpAnyH_take (i := 9) (v := .string ⟨s2.toArray⟩) rfl (by kernel_rfl) (by kernel_rfl) (by kernel_rfl) (fun _ _ _ h => h) (Or.inl ⟨by kernel_rfl, fun W hW => by (have q := Y.out.below' hW.1; have c := q.c1; go_simp)⟩) (by assumption) ?_
    try simp only [Act.put, List.getElem_toArray, List.getElem_cons_zero, List.getElem_cons_succ, List.setIfInBounds_toArray, List.set_cons_zero, List.set_cons_succ]
    refine wpAnyH_ready (rs := [4]) (by kernel_rfl) (by simp) ?_
    refine AllReadyH.cons rfl (fun K hK => ?_) AllReadyH.nil
    go_simp
    go_wp2_with (go_at_call 80; refine (ix_letters m1 m2 _ Hp.out.1 Hq.out.1).mono ?_; rintro e w3 ⟨rfl, h3⟩; have H3 := Lib.hid h3; clear h3)
    refine hK.out _ _ H3.out (fun _ => ?_)
    clear K hK
    try simp only [Act.put, List.getElem_toArray, List.getElem_cons_zero, List.getElem_cons_succ, List.setIfInBounds_toArray, List.set_cons_zero, List.set_cons_succ]
    refine wpAnyH_ready (rs := [10]) (by kernel_rfl) (by simp) ?_
    refine AllReadyH.cons rfl (fun K hK => ?_) AllReadyH.nil
    go_simp
    go_wp2_with (go_at_call 80; refine (ix_letters s1 s2 _ Hp.out.2 Hq.out.2).mono ?_; rintro e w4 ⟨rfl, h4, d4⟩; have H4 := Lib.hid (show Below wd.heap.size wd w4 ∧ Dr wd w4 from ⟨bseq H3.out.1 h4, H3.out.2.trans d4⟩); clear h4 d4)
    refine hK.out _ _ H4.out (fun _ => ?_)
    clear K hK
    try simp only [Act.put, List.getElem_toArray, List.getElem_cons_zero, List.getElem_cons_succ, List.setIfInBounds_toArray, List.set_cons_zero, List.set_cons_succ]
    refine wpAnyH_ready (rs := [11]) (by kernel_rfl) (by simp) ?_
    refine AllReadyH.cons rfl (fun K hK => ?_) AllReadyH.nil
    go_simp
    refine hK.out _ _ ⟨H4.out.1.trans ((below_new _ _).mono H4.out.1.size), H4.out.2⟩ (fun _ => ?_)
    clear K hK
    try simp only [Act.put, List.getElem_toArray, List.getElem_cons_zero, List.getElem_cons_succ, List.setIfInBounds_toArray, List.set_cons_zero, List.set_cons_succ]
    refine wpAnyH_ready (rs := [12]) (by kernel_rfl) (by simp) ?_
    refine AllReadyH.cons rfl (fun K hK => ?_) AllReadyH.nil
    go_simp
    go_wp2_with (go_at_call 79; refine (std_or3 _ _ _ _ _ rfl).mono ?_; rw [Hr.out]; rintro e w10 ⟨rfl, hw9⟩; have hw9 := hw9.symm; subst hw9)
    refine hK.out _ _ ⟨H4.out.1.trans ((below_new _ _).mono H4.out.1.size), H4.out.2⟩ (fun _ => ?_)
    clear K hK
    try simp only [Act.put, List.getElem_toArray, List.getElem_cons_zero, List.getElem_cons_succ, List.setIfInBounds_toArray, List.set_cons_zero, List.set_cons_succ]
    refine wpAnyH_take (i := 13) (v := .int .i64 (Ix.cp (m1, s1, b1) (m2, s2, b2))) rfl (by kernel_rfl) (by kernel_rfl) (by kernel_rfl) (fun _ _ _ h => h) (Or.inl ⟨by kernel_rfl, fun W hW => by kernel_rfl⟩) (by assumption) ?_
    try simp only [Act.put, List.getElem_toArray, List.getElem_cons_zero, List.getElem_cons_succ, List.setIfInBounds_toArray, List.set_cons_zero, List.set_cons_succ]
    refine wpAnyH_done (by kernel_rfl) ?_ _
    go_wp2_with fail
    go_ret
    exact ⟨rfl, by rw [hg1]; exact HB.out.trans ((H4.out.1.trans ((below_new _ _).mono H4.out.1.size)).mono (by have := HB.out.size; omega)), D0.out.trans H4.out.2⟩
set_option maxHeartbeats 400000 in
theorem ix_page (n : Int) (w : World) : Calls Tryz.prog 27 #[.int .i64 n] w fun e w' => e = .returned (.bool (Ix.page n)) ∧ w' = w := by
  unfold Ix.page
  by_cases h1 : 1 ≤ n
  · have d1 : decide (1 ≤ n) = true := decide_eq_true h1
    rw [d1, Bool.true_and]
    by_cases h2 : n ≤ 999999
    · go_enter Tryz.func27, Tryz.ntmps27
      go_wp2_with fail
      go_ret
      exact ⟨by simp [h2], rfl⟩
    · go_enter Tryz.func27, Tryz.ntmps27
      go_wp2_with fail
      go_ret
      exact ⟨by simp [h2], rfl⟩
  · have d1 : decide (1 ≤ n) = false := decide_eq_false h1
    rw [d1, Bool.false_and]
    go_enter Tryz.func27, Tryz.ntmps27
    go_wp2_with fail
    go_ret
    exact ⟨rfl, rfl⟩
theorem ix_pages1 (n : Int) (w : World) : Calls Tryz.prog 33 #[.int .i64 n] w fun e w' => e = .returned (.bool (!Ix.page n)) ∧ w' = w := by
  go_enter Tryz.func33, Tryz.ntmps33
  go_wp2_with (go_at_call 27; refine (ix_page n _).mono ?_; rintro e w1 ⟨rfl, hw⟩; have hw := hw.symm; subst hw)
  go_ret
  exact ⟨rfl, rfl⟩
theorem ix_digits (n : Int) (w : World) (hL : Laid01 w) : Calls Tryz.prog 36 #[.int .i64 n] w fun e w' => e = .returned (.string ⟨(Ix.dig n).toArray⟩) ∧ Below w.heap.size w w' := by
  have HL := Lib.hid hL
  clear hL
  go_enter Tryz.func36, Tryz.ntmps36
  go_wp2_with (go_at_call 62; refine (count_text n 0 _ HL.out).mono ?_; rintro e w1 ⟨rfl, hb⟩; have Hb := Lib.hid hb; clear hb)
  go_ret
  exact ⟨rfl, Hb.out⟩
theorem ix_head (s : List UInt8) (w : World) : Calls Tryz.prog 44 #[.string ⟨s.toArray⟩] w fun e w' => e = .returned (.string ⟨(s.take 4000).toArray⟩) ∧ w' = w := by
  obtain ⟨q, h1, h2, h3, h4⟩ := cut_textN 4000 s
  have hq0 : (0 : Int) ≤ (q : Int) := by omega
  have h5 : min (s.length : Int) 4000 = (q : Int) := by simpa using h1
  clear h1
  go_enter Tryz.func44, Tryz.ntmps44
  go_wp2_with fail
  go_ret
  exact ⟨rfl, rfl⟩
end Go.Proofs.YthoblbdkmlggbaaGreatDoor
