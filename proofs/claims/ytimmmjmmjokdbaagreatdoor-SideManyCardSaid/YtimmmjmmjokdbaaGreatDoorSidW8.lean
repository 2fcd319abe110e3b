/- The walks of package side (layer 10), eighth part: what one record's parts are taken as. -/
import Derived.Test.YtimmmjmmjokdbaaGreatDoorSidW7
set_option linter.unusedSimpArgs false
set_option linter.unusedVariables false
namespace Go.Proofs.YtimmmjmmjokdbaaGreatDoor
open Go.RowKit
def Dis (a b : Value) : Prop := ∀ j, a.ownBlock = some j → b.ownBlock ≠ some j
theorem Dis.symm {a b : Value} (h : Dis a b) : Dis b a := fun j hb ha => h j ha hb
/-- a side under way: a block of the call's own, whose four slices are the call's own too, from B on -/
structure SX (g B : Nat) (W : World) (x : Sd.Side) (vl vh vc vb : Value) : Prop where
  c0 : W.cell? ⟨g, 0, none⟩ = some vl
  f0 : W.frozen? ⟨g, 0, none⟩ = false
  c1 : W.cell? ⟨g, 1, none⟩ = some vh
  f1 : W.frozen? ⟨g, 1, none⟩ = false
  c2 : W.cell? ⟨g, 2, none⟩ = some vc
  f2 : W.frozen? ⟨g, 2, none⟩ = false
  c3 : W.cell? ⟨g, 3, none⟩ = some vb
  f3 : W.frozen? ⟨g, 3, none⟩ = false
  lt : g < B
  sz : B ≤ W.heap.size
  l : OwnL B 42 3 RLab W vl x.labs
  h : OwnL B 56 4 RHd W vh x.heads
  c : OwnL B 9 1 RStr W vc x.cites
  b : OwnL B 9 1 RStr W vb x.bibs
  d01 : Dis vl vh
  d02 : Dis vl vc
  d03 : Dis vl vb
  d12 : Dis vh vc
  d13 : Dis vh vb
  d23 : Dis vc vb
theorem OwnL.grown {α : Type} {B : Nat} {t : TypeId} {n : Nat} {R : α → List Value → Prop} {W W' : World} {v : Value} {l : List α} {row : Option Nat} (h : OwnL B t n R W v l) (hg : W.grownBy W' row) (hne : ∀ j, v.ownBlock = some j → row ≠ some j) : OwnL B t n R W' v l := by
  obtain ⟨fl, h1, h2⟩ := h
  refine ⟨fl, h1.kept hg ?_, h2⟩
  cases hv : v.ownBlock with
  | none => exact Or.inl rfl
  | some j => exact Or.inr (fun e => hne j hv e.symm)
theorem OwnL.ge {α : Type} {B : Nat} {t : TypeId} {n : Nat} {R : α → List Value → Prop} {W : World} {v : Value} {l : List α} (h : OwnL B t n R W v l) (j : Nat) (hj : v.ownBlock = some j) : B ≤ j ∧ j < W.heap.size := by
  obtain ⟨fl, h1, _⟩ := h
  exact h1.lt j hj
theorem SX.below {g B : Nat} {W W' : World} {x : Sd.Side} {vl vh vc vb : Value} (h : SX g B W x vl vh vc vb) (hb : Below W.heap.size W W') : SX g B W' x vl vh vc vb := by
  have hg : g < W.heap.size := Nat.lt_of_lt_of_le h.lt h.sz
  exact ⟨(hb.cell (p := ⟨g, 0, none⟩) hg).trans h.c0, (frozen_below hb hg).trans h.f0, (hb.cell (p := ⟨g, 1, none⟩) hg).trans h.c1, (frozen_below hb hg).trans h.f1, (hb.cell (p := ⟨g, 2, none⟩) hg).trans h.c2, (frozen_below hb hg).trans h.f2, (hb.cell (p := ⟨g, 3, none⟩) hg).trans h.c3, (frozen_below hb hg).trans h.f3,
    h.lt, Nat.le_trans h.sz hb.size, h.l.below hb, h.h.below hb, h.c.below hb, h.b.below hb, h.d01, h.d02, h.d03, h.d12, h.d13, h.d23⟩
theorem SX.drew {g B : Nat} {W : World} {x : Sd.Side} {vl vh vc vb : Value} (h : SX g B W x vl vh vc vb) : SX g B W.drew x vl vh vc vb := h.below ((Below.refl _ _).drew)
/-- what stands: all blocks below B but the side's -/
def Kept (g B : Nat) (a w : World) : Prop := Below g a w ∧ ∀ k, k < B → k ≠ g → w.heap[k]? = a.heap[k]?
theorem Kept.trans {g B : Nat} {a b c : World} (h : Kept g B a b) (k : Kept g B b c) : Kept g B a c := ⟨h.1.trans k.1, fun i hi hne => (k.2 i hi hne).trans (h.2 i hi hne)⟩
theorem Kept.below {g B : Nat} {a b : World} (h : Below a.heap.size a b) (hg : g ≤ B) (hB : B ≤ a.heap.size) : Kept g B a b := ⟨h.mono (by omega), fun i hi _ => h.block i (by omega)⟩
theorem own_one {a b : Value} {n : Nat} (h : b.ownBlock = a.ownBlock ∨ ∃ j, b.ownBlock = some j ∧ n ≤ j) {c : Value} (hc : ∀ j, c.ownBlock = some j → j < n) (hd : Dis a c) : Dis b c := by
  intro j hj hcj
  rcases h with h | ⟨i, h, hi⟩
  · exact hd j (h ▸ hj) hcj
  · rw [h] at hj
    have h1 := hc j hcj
    have h2 : i = j := Option.some.inj hj
    omega
theorem SX.put0 {g B : Nat} {W w2 : World} {x : Sd.Side} {vl vh vc vb v2 : Value} {fl vs : List Value} {y : Sd.Lab} (h : SX g B W x vl vh vc vb) (hrep : RepRow RLab x.labs fl) (hy : RLab y vs) (own2 : w2.ownsRow B 42 3 v2 (x.labs.length + 1) (fl ++ vs)) (hg : W.grownBy w2 vl.ownBlock)
    (at2 : v2.ownBlock = vl.ownBlock ∨ ∃ j, v2.ownBlock = some j ∧ W.heap.size ≤ j) : SX g B (w2.setCell ⟨g, 0, none⟩ v2) { x with labs := x.labs ++ [y] } v2 vh vc vb ∧ Kept g B W (w2.setCell ⟨g, 0, none⟩ v2) := by
  have hgW : g < W.heap.size := Nat.lt_of_lt_of_le h.lt h.sz
  have hne : vl.ownBlock ≠ some g := fun e => by have := (h.l.ge g e).1; have := h.lt; omega
  have q0 := (grown_cell hg hgW hne 0).trans h.c0
  have r0 := (grown_frozen hg hgW hne 0).trans h.f0
  have q1 := (grown_cell hg hgW hne 1).trans h.c1
  have r1 := (grown_frozen hg hgW hne 1).trans h.f1
  have q2 := (grown_cell hg hgW hne 2).trans h.c2
  have r2 := (grown_frozen hg hgW hne 2).trans h.f2
  have q3 := (grown_cell hg hgW hne 3).trans h.c3
  have r3 := (grown_frozen hg hgW hne 3).trans h.f3
  have hz2 : B ≤ w2.heap.size := Nat.le_trans h.sz hg.size
  have hset : w2.grownBy (w2.setCell ⟨g, 0, none⟩ v2) (some g) := grown_set w2 g 0 v2
  have hlt := h.lt
  have o1 : OwnL B 56 4 RHd (w2.setCell ⟨g, 0, none⟩ v2) vh x.heads := (h.h.grown hg (fun k hk e => h.d01.symm k hk e)).grown hset (fun k hk e => by have := (h.h.ge k hk).1; have := Option.some.inj e; omega)
  have o2 : OwnL B 9 1 RStr (w2.setCell ⟨g, 0, none⟩ v2) vc x.cites := (h.c.grown hg (fun k hk e => h.d02.symm k hk e)).grown hset (fun k hk e => by have := (h.c.ge k hk).1; have := Option.some.inj e; omega)
  have o3 : OwnL B 9 1 RStr (w2.setCell ⟨g, 0, none⟩ v2) vb x.bibs := (h.b.grown hg (fun k hk e => h.d03.symm k hk e)).grown hset (fun k hk e => by have := (h.b.ge k hk).1; have := Option.some.inj e; omega)
  have o0 : OwnL B 42 3 RLab (w2.setCell ⟨g, 0, none⟩ v2) v2 (x.labs ++ [y]) := OwnL.grown (OwnL.more hrep hy own2) hset (fun k hk e => by have := (own2.lt k hk).1; have := Option.some.inj e; omega)
  have x1 : Dis v2 vh := own_one at2 (fun k hk => (h.h.ge k hk).2) h.d01
  have x2 : Dis v2 vc := own_one at2 (fun k hk => (h.c.ge k hk).2) h.d02
  have x3 : Dis v2 vb := own_one at2 (fun k hk => (h.b.ge k hk).2) h.d03
  refine ⟨⟨World.cell?_setCell_same _ _ _ q0, (World.frozen?_setCell _ _ _ _).trans r0, (World.cell?_setCell_other _ _ _ _ (fun e => by injection e with _ e; omega)).trans q1, (World.frozen?_setCell _ _ _ _).trans r1, (World.cell?_setCell_other _ _ _ _ (fun e => by injection e with _ e; omega)).trans q2, (World.frozen?_setCell _ _ _ _).trans r2, (World.cell?_setCell_other _ _ _ _ (fun e => by injection e with _ e; omega)).trans q3, (World.frozen?_setCell _ _ _ _).trans r3, h.lt, by simpa [World.setCell] using hz2, o0, o1, o2, o3, x1, x2, x3, h.d12, h.d13, h.d23⟩, ?_⟩
  refine ⟨((Below.refl g W).grown hg (Nat.le_of_lt hgW) (fun k hk => by have := (h.l.ge k hk).1; omega)).setCell (p := ⟨g, 0, none⟩) (Nat.le_refl _) v2, fun k hk hkg => ?_⟩
  rw [Below.heap_setCell _ _ _ _ hkg]
  exact hg.block k (Nat.lt_of_lt_of_le hk h.sz) (fun e => by have := (h.l.ge k e.symm).1; omega)
theorem SX.put1 {g B : Nat} {W w2 : World} {x : Sd.Side} {vl vh vc vb v2 : Value} {fl vs : List Value} {y : Sd.Hd} (h : SX g B W x vl vh vc vb) (hrep : RepRow RHd x.heads fl) (hy : RHd y vs) (own2 : w2.ownsRow B 56 4 v2 (x.heads.length + 1) (fl ++ vs)) (hg : W.grownBy w2 vh.ownBlock)
    (at2 : v2.ownBlock = vh.ownBlock ∨ ∃ j, v2.ownBlock = some j ∧ W.heap.size ≤ j) : SX g B (w2.setCell ⟨g, 1, none⟩ v2) { x with heads := x.heads ++ [y] } vl v2 vc vb ∧ Kept g B W (w2.setCell ⟨g, 1, none⟩ v2) := by
  have hgW : g < W.heap.size := Nat.lt_of_lt_of_le h.lt h.sz
  have hne : vh.ownBlock ≠ some g := fun e => by have := (h.h.ge g e).1; have := h.lt; omega
  have q0 := (grown_cell hg hgW hne 0).trans h.c0
  have r0 := (grown_frozen hg hgW hne 0).trans h.f0
  have q1 := (grown_cell hg hgW hne 1).trans h.c1
  have r1 := (grown_frozen hg hgW hne 1).trans h.f1
  have q2 := (grown_cell hg hgW hne 2).trans h.c2
  have r2 := (grown_frozen hg hgW hne 2).trans h.f2
  have q3 := (grown_cell hg hgW hne 3).trans h.c3
  have r3 := (grown_frozen hg hgW hne 3).trans h.f3
  have hz2 : B ≤ w2.heap.size := Nat.le_trans h.sz hg.size
  have hset : w2.grownBy (w2.setCell ⟨g, 1, none⟩ v2) (some g) := grown_set w2 g 1 v2
  have hlt := h.lt
  have o0 : OwnL B 42 3 RLab (w2.setCell ⟨g, 1, none⟩ v2) vl x.labs := (h.l.grown hg (fun k hk e => h.d01 k hk e)).grown hset (fun k hk e => by have := (h.l.ge k hk).1; have := Option.some.inj e; omega)
  have o2 : OwnL B 9 1 RStr (w2.setCell ⟨g, 1, none⟩ v2) vc x.cites := (h.c.grown hg (fun k hk e => h.d12.symm k hk e)).grown hset (fun k hk e => by have := (h.c.ge k hk).1; have := Option.some.inj e; omega)
  have o3 : OwnL B 9 1 RStr (w2.setCell ⟨g, 1, none⟩ v2) vb x.bibs := (h.b.grown hg (fun k hk e => h.d13.symm k hk e)).grown hset (fun k hk e => by have := (h.b.ge k hk).1; have := Option.some.inj e; omega)
  have o1 : OwnL B 56 4 RHd (w2.setCell ⟨g, 1, none⟩ v2) v2 (x.heads ++ [y]) := OwnL.grown (OwnL.more hrep hy own2) hset (fun k hk e => by have := (own2.lt k hk).1; have := Option.some.inj e; omega)
  have x0 : Dis v2 vl := own_one at2 (fun k hk => (h.l.ge k hk).2) h.d01.symm
  have x2 : Dis v2 vc := own_one at2 (fun k hk => (h.c.ge k hk).2) h.d12
  have x3 : Dis v2 vb := own_one at2 (fun k hk => (h.b.ge k hk).2) h.d13
  refine ⟨⟨(World.cell?_setCell_other _ _ _ _ (fun e => by injection e with _ e; omega)).trans q0, (World.frozen?_setCell _ _ _ _).trans r0, World.cell?_setCell_same _ _ _ q1, (World.frozen?_setCell _ _ _ _).trans r1, (World.cell?_setCell_other _ _ _ _ (fun e => by injection e with _ e; omega)).trans q2, (World.frozen?_setCell _ _ _ _).trans r2, (World.cell?_setCell_other _ _ _ _ (fun e => by injection e with _ e; omega)).trans q3, (World.frozen?_setCell _ _ _ _).trans r3, h.lt, by simpa [World.setCell] using hz2, o0, o1, o2, o3, x0.symm, h.d02, h.d03, x2, x3, h.d23⟩, ?_⟩
  refine ⟨((Below.refl g W).grown hg (Nat.le_of_lt hgW) (fun k hk => by have := (h.h.ge k hk).1; omega)).setCell (p := ⟨g, 1, none⟩) (Nat.le_refl _) v2, fun k hk hkg => ?_⟩
  rw [Below.heap_setCell _ _ _ _ hkg]
  exact hg.block k (Nat.lt_of_lt_of_le hk h.sz) (fun e => by have := (h.h.ge k e.symm).1; omega)
theorem SX.put2 {g B : Nat} {W w2 : World} {x : Sd.Side} {vl vh vc vb v2 : Value} {fl vs : List Value} {y : List UInt8} (h : SX g B W x vl vh vc vb) (hrep : RepRow RStr x.cites fl) (hy : RStr y vs) (own2 : w2.ownsRow B 9 1 v2 (x.cites.length + 1) (fl ++ vs)) (hg : W.grownBy w2 vc.ownBlock)
    (at2 : v2.ownBlock = vc.ownBlock ∨ ∃ j, v2.ownBlock = some j ∧ W.heap.size ≤ j) : SX g B (w2.setCell ⟨g, 2, none⟩ v2) { x with cites := x.cites ++ [y] } vl vh v2 vb ∧ Kept g B W (w2.setCell ⟨g, 2, none⟩ v2) := by
  have hgW : g < W.heap.size := Nat.lt_of_lt_of_le h.lt h.sz
  have hne : vc.ownBlock ≠ some g := fun e => by have := (h.c.ge g e).1; have := h.lt; omega
  have q0 := (grown_cell hg hgW hne 0).trans h.c0
  have r0 := (grown_frozen hg hgW hne 0).trans h.f0
  have q1 := (grown_cell hg hgW hne 1).trans h.c1
  have r1 := (grown_frozen hg hgW hne 1).trans h.f1
  have q2 := (grown_cell hg hgW hne 2).trans h.c2
  have r2 := (grown_frozen hg hgW hne 2).trans h.f2
  have q3 := (grown_cell hg hgW hne 3).trans h.c3
  have r3 := (grown_frozen hg hgW hne 3).trans h.f3
  have hz2 : B ≤ w2.heap.size := Nat.le_trans h.sz hg.size
  have hset : w2.grownBy (w2.setCell ⟨g, 2, none⟩ v2) (some g) := grown_set w2 g 2 v2
  have hlt := h.lt
  have o0 : OwnL B 42 3 RLab (w2.setCell ⟨g, 2, none⟩ v2) vl x.labs := (h.l.grown hg (fun k hk e => h.d02 k hk e)).grown hset (fun k hk e => by have := (h.l.ge k hk).1; have := Option.some.inj e; omega)
  have o1 : OwnL B 56 4 RHd (w2.setCell ⟨g, 2, none⟩ v2) vh x.heads := (h.h.grown hg (fun k hk e => h.d12 k hk e)).grown hset (fun k hk e => by have := (h.h.ge k hk).1; have := Option.some.inj e; omega)
  have o3 : OwnL B 9 1 RStr (w2.setCell ⟨g, 2, none⟩ v2) vb x.bibs := (h.b.grown hg (fun k hk e => h.d23.symm k hk e)).grown hset (fun k hk e => by have := (h.b.ge k hk).1; have := Option.some.inj e; omega)
  have o2 : OwnL B 9 1 RStr (w2.setCell ⟨g, 2, none⟩ v2) v2 (x.cites ++ [y]) := OwnL.grown (OwnL.more hrep hy own2) hset (fun k hk e => by have := (own2.lt k hk).1; have := Option.some.inj e; omega)
  have x0 : Dis v2 vl := own_one at2 (fun k hk => (h.l.ge k hk).2) h.d02.symm
  have x1 : Dis v2 vh := own_one at2 (fun k hk => (h.h.ge k hk).2) h.d12.symm
  have x3 : Dis v2 vb := own_one at2 (fun k hk => (h.b.ge k hk).2) h.d23
  refine ⟨⟨(World.cell?_setCell_other _ _ _ _ (fun e => by injection e with _ e; omega)).trans q0, (World.frozen?_setCell _ _ _ _).trans r0, (World.cell?_setCell_other _ _ _ _ (fun e => by injection e with _ e; omega)).trans q1, (World.frozen?_setCell _ _ _ _).trans r1, World.cell?_setCell_same _ _ _ q2, (World.frozen?_setCell _ _ _ _).trans r2, (World.cell?_setCell_other _ _ _ _ (fun e => by injection e with _ e; omega)).trans q3, (World.frozen?_setCell _ _ _ _).trans r3, h.lt, by simpa [World.setCell] using hz2, o0, o1, o2, o3, h.d01, x0.symm, h.d03, x1.symm, h.d13, x3⟩, ?_⟩
  refine ⟨((Below.refl g W).grown hg (Nat.le_of_lt hgW) (fun k hk => by have := (h.c.ge k hk).1; omega)).setCell (p := ⟨g, 2, none⟩) (Nat.le_refl _) v2, fun k hk hkg => ?_⟩
  rw [Below.heap_setCell _ _ _ _ hkg]
  exact hg.block k (Nat.lt_of_lt_of_le hk h.sz) (fun e => by have := (h.c.ge k e.symm).1; omega)
theorem SX.put3 {g B : Nat} {W w2 : World} {x : Sd.Side} {vl vh vc vb v2 : Value} {fl vs : List Value} {y : List UInt8} (h : SX g B W x vl vh vc vb) (hrep : RepRow RStr x.bibs fl) (hy : RStr y vs) (own2 : w2.ownsRow B 9 1 v2 (x.bibs.length + 1) (fl ++ vs)) (hg : W.grownBy w2 vb.ownBlock)
    (at2 : v2.ownBlock = vb.ownBlock ∨ ∃ j, v2.ownBlock = some j ∧ W.heap.size ≤ j) : SX g B (w2.setCell ⟨g, 3, none⟩ v2) { x with bibs := x.bibs ++ [y] } vl vh vc v2 ∧ Kept g B W (w2.setCell ⟨g, 3, none⟩ v2) := by
  have hgW : g < W.heap.size := Nat.lt_of_lt_of_le h.lt h.sz
  have hne : vb.ownBlock ≠ some g := fun e => by have := (h.b.ge g e).1; have := h.lt; omega
  have q0 := (grown_cell hg hgW hne 0).trans h.c0
  have r0 := (grown_frozen hg hgW hne 0).trans h.f0
  have q1 := (grown_cell hg hgW hne 1).trans h.c1
  have r1 := (grown_frozen hg hgW hne 1).trans h.f1
  have q2 := (grown_cell hg hgW hne 2).trans h.c2
  have r2 := (grown_frozen hg hgW hne 2).trans h.f2
  have q3 := (grown_cell hg hgW hne 3).trans h.c3
  have r3 := (grown_frozen hg hgW hne 3).trans h.f3
  have hz2 : B ≤ w2.heap.size := Nat.le_trans h.sz hg.size
  have hset : w2.grownBy (w2.setCell ⟨g, 3, none⟩ v2) (some g) := grown_set w2 g 3 v2
  have hlt := h.lt
  have o0 : OwnL B 42 3 RLab (w2.setCell ⟨g, 3, none⟩ v2) vl x.labs := (h.l.grown hg (fun k hk e => h.d03 k hk e)).grown hset (fun k hk e => by have := (h.l.ge k hk).1; have := Option.some.inj e; omega)
  have o1 : OwnL B 56 4 RHd (w2.setCell ⟨g, 3, none⟩ v2) vh x.heads := (h.h.grown hg (fun k hk e => h.d13 k hk e)).grown hset (fun k hk e => by have := (h.h.ge k hk).1; have := Option.some.inj e; omega)
  have o2 : OwnL B 9 1 RStr (w2.setCell ⟨g, 3, none⟩ v2) vc x.cites := (h.c.grown hg (fun k hk e => h.d23 k hk e)).grown hset (fun k hk e => by have := (h.c.ge k hk).1; have := Option.some.inj e; omega)
  have o3 : OwnL B 9 1 RStr (w2.setCell ⟨g, 3, none⟩ v2) v2 (x.bibs ++ [y]) := OwnL.grown (OwnL.more hrep hy own2) hset (fun k hk e => by have := (own2.lt k hk).1; have := Option.some.inj e; omega)
  have x0 : Dis v2 vl := own_one at2 (fun k hk => (h.l.ge k hk).2) h.d03.symm
  have x1 : Dis v2 vh := own_one at2 (fun k hk => (h.h.ge k hk).2) h.d13.symm
  have x2 : Dis v2 vc := own_one at2 (fun k hk => (h.c.ge k hk).2) h.d23.symm
  refine ⟨⟨(World.cell?_setCell_other _ _ _ _ (fun e => by injection e with _ e; omega)).trans q0, (World.frozen?_setCell _ _ _ _).trans r0, (World.cell?_setCell_other _ _ _ _ (fun e => by injection e with _ e; omega)).trans q1, (World.frozen?_setCell _ _ _ _).trans r1, (World.cell?_setCell_other _ _ _ _ (fun e => by injection e with _ e; omega)).trans q2, (World.frozen?_setCell _ _ _ _).trans r2, World.cell?_setCell_same _ _ _ q3, (World.frozen?_setCell _ _ _ _).trans r3, h.lt, by simpa [World.setCell] using hz2, o0, o1, o2, o3, h.d01, h.d02, x0.symm, h.d12, x1.symm, x2.symm⟩, ?_⟩
  refine ⟨((Below.refl g W).grown hg (Nat.le_of_lt hgW) (fun k hk => by have := (h.b.ge k hk).1; omega)).setCell (p := ⟨g, 3, none⟩) (Nat.le_refl _) v2, fun k hk hkg => ?_⟩
  rw [Below.heap_setCell _ _ _ _ hkg]
  exact hg.block k (Nat.lt_of_lt_of_le hk h.sz) (fun e => by have := (h.b.ge k e.symm).1; omega)
end Go.Proofs.YtimmmjmmjokdbaaGreatDoor
