/- The walks of package entry's reader: what stands deferred: an entry's end is caught. -/
import Derived.Test.YtddgdfcgjjdlcaaDoorParW9
import Derived.Recover
namespace Go.Proofs.YtddgdfcgjjdlcaaDoor
open Go.RowKit

/-- the three results of an entry, in memory -/
structure Res3 (w : World) (g : Nat) (k y : List UInt8) (vf : Value) (is : Bool) (e : Int) : Prop where
  k : w.cell? ⟨g, 0, none⟩ = some (.string ⟨k.toArray⟩)
  y : w.cell? ⟨g, 1, none⟩ = some (.string ⟨y.toArray⟩)
  vf : w.cell? ⟨g, 2, none⟩ = some vf
  is : w.cell? ⟨g + 1, 0, none⟩ = some (.bool is)
  e : w.cell? ⟨g + 2, 0, none⟩ = some (.int .i64 e)
  fk : ∀ i, i < 3 → w.frozen? ⟨g, i, none⟩ = false
  fi : w.frozen? ⟨g + 1, 0, none⟩ = false
  fe : w.frozen? ⟨g + 2, 0, none⟩ = false
  lt : g + 2 < w.heap.size

/-- all three written -/
def put3 (w : World) (g : Nat) (k y : List UInt8) (vf : Value) (is : Bool) (e : Int) : World :=
  ((((w.setCell ⟨g, 0, none⟩ (.string ⟨k.toArray⟩)).setCell ⟨g, 1, none⟩ (.string ⟨y.toArray⟩)).setCell ⟨g, 2, none⟩ vf).setCell ⟨g + 1, 0, none⟩ (.bool is)).setCell ⟨g + 2, 0, none⟩ (.int .i64 e)
theorem Res3.put {w : World} {g : Nat} {k y : List UInt8} {vf : Value} {is : Bool} {e : Int} (h : Res3 w g k y vf is e) (k' y' : List UInt8) (vf' : Value) (is' : Bool) (e' : Int) : Res3 (put3 w g k' y' vf' is' e') g k' y' vf' is' e' := by
  have ot : ∀ (W : World) (a b : Addr) (v : Value), a ≠ b → (W.setCell b v).cell? a = W.cell? a := fun W a b v hne => World.cell?_setCell_other _ _ _ _ hne.symm
  unfold put3
  refine ⟨?_, ?_, ?_, ?_, ?_, fun i hi => by simpa using h.fk i hi, by simpa using h.fi, by simpa using h.fe, by simpa using h.lt⟩
  · rw [ot _ _ _ _ (by simp), ot _ _ _ _ (by simp), ot _ _ _ _ (by simp), ot _ _ _ _ (by simp)]
    exact World.cell?_setCell_same _ _ _ h.k
  · rw [ot _ _ _ _ (by simp), ot _ _ _ _ (by simp), ot _ _ _ _ (by simp)]
    exact World.cell?_setCell_same _ _ _ ((ot _ _ _ _ (by simp)).trans h.y)
  · rw [ot _ _ _ _ (by simp), ot _ _ _ _ (by simp)]
    exact World.cell?_setCell_same _ _ _ (((ot _ _ _ _ (by simp)).trans (ot _ _ _ _ (by simp))).trans h.vf)
  · rw [ot _ _ _ _ (by simp)]
    exact World.cell?_setCell_same _ _ _ ((((ot _ _ _ _ (by simp)).trans (ot _ _ _ _ (by simp))).trans (ot _ _ _ _ (by simp))).trans h.is)
  · exact World.cell?_setCell_same _ _ _ (((((ot _ _ _ _ (by simp)).trans (ot _ _ _ _ (by simp))).trans (ot _ _ _ _ (by simp))).trans (ot _ _ _ _ (by simp))).trans h.e)
theorem put3_block (w : World) (g : Nat) (k y : List UInt8) (vf : Value) (is : Bool) (e : Int) (j : Nat) (h0 : j ≠ g) (h1 : j ≠ g + 1) (h2 : j ≠ g + 2) : (put3 w g k y vf is e).heap[j]? = w.heap[j]? := by
  unfold put3
  rw [Below.heap_setCell _ _ _ _ h2, Below.heap_setCell _ _ _ _ h1, Below.heap_setCell _ _ _ _ h0, Below.heap_setCell _ _ _ _ h0, Below.heap_setCell _ _ _ _ h0]
theorem put3_size (w : World) (g : Nat) (k y : List UInt8) (vf : Value) (is : Bool) (e : Int) : (put3 w g k y vf is e).heap.size = w.heap.size := by simp [put3]
theorem Res3.below {w w' : World} {g : Nat} {k y : List UInt8} {vf : Value} {is : Bool} {e : Int} (h : Res3 w g k y vf is e) (hb : Below w.heap.size w w') : Res3 w' g k y vf is e := by
  have hl := h.lt
  exact ⟨(hb.cell (p := ⟨g, 0, none⟩) (by show g < _; omega)).trans h.k, (hb.cell (p := ⟨g, 1, none⟩) (by show g < _; omega)).trans h.y, (hb.cell (p := ⟨g, 2, none⟩) (by show g < _; omega)).trans h.vf,
    (hb.cell (p := ⟨g + 1, 0, none⟩) (by show g + 1 < _; omega)).trans h.is, (hb.cell (p := ⟨g + 2, 0, none⟩) (by show g + 2 < _; omega)).trans h.e,
    fun i hi => (hb.frozen (p := ⟨g, i, none⟩) (by show g < _; omega)).trans (h.fk i hi), (hb.frozen (p := ⟨g + 1, 0, none⟩) (by show g + 1 < _; omega)).trans h.fi, (hb.frozen (p := ⟨g + 2, 0, none⟩) (by show g + 2 < _; omega)).trans h.fe, Nat.lt_of_lt_of_le hl hb.size⟩
theorem assert_nil (w : World) : (Instr.typeAssert .nilIface 20 71 true).run Tryd.prog w = .ok (.tuple #[.agg #[.int .i64 0], .bool false]) w := by kernel_rfl
theorem assert_wrong (e : Int) (w : World) : (Instr.typeAssert (.iface 71 (.agg #[.int .i64 e])) 20 71 true).run Tryd.prog w = .ok (.tuple #[.agg #[.int .i64 e], .bool true]) w := by kernel_rfl
set_option maxRecDepth 100000 in
set_option maxHeartbeats 800000 in
theorem catch_idle (g : Nat) (w : World) :
    CallsD Tryd.prog 34 #[.pointer (some ⟨g, 0, none⟩), .pointer (some ⟨g + 1, 0, none⟩), .pointer (some ⟨g + 2, 0, none⟩)] .returning w fun e u' w' =>
      e = .returned (.tuple #[]) ∧ u' = .returning ∧ Below w.heap.size w w' := by
  refine callsD_of_wpS Tryd.func34 rfl fun c₀ cs hu => ?_
  apply wpS_seq
  apply wpS_region
  simp [wpOpsS, go_sem, recoverD, hu, Tryd.ntmps34, Exit.thenS, assert_nil, Array.replicate]
  refine wpS_of_wp ?_
  go_wp2_with fail
  refine ⟨rfl, .returning, by cases c₀; simp_all, ?_⟩
  exact ⟨.tuple #[], by rw [results_none (by rfl)], rfl, rfl, below_new w _⟩

set_option maxRecDepth 100000 in
set_option maxHeartbeats 1600000 in
theorem catch_panicking (g : Nat) (k y : List UInt8) (vf : Value) (is : Bool) (e0 e : Int) (w : World) (h : Res3 w g k y vf is e0) :
    CallsD Tryd.prog 34 #[.pointer (some ⟨g, 0, none⟩), .pointer (some ⟨g + 1, 0, none⟩), .pointer (some ⟨g + 2, 0, none⟩)] (.panicking [{ v := .iface 71 (.agg #[.int .i64 e]), recovered := false }]) w fun e' u' w' =>
      e' = .returned (.tuple #[]) ∧ u' = .panicking [{ v := .iface 71 (.agg #[.int .i64 e]), recovered := true }] ∧ Res3 w' g [] [] (.slice none 0 0) false e ∧ (w'.os = w.os ∧ w'.tape = w.tape ∧ w'.output = w.output ∧ w.heap.size ≤ w'.heap.size ∧ ∀ j, j < w.heap.size → j ≠ g → j ≠ g + 1 → j ≠ g + 2 → w'.heap[j]? = w.heap[j]?) := by
  refine callsD_of_wpS Tryd.func34 rfl fun c₀ cs hu => ?_
  apply wpS_seq
  apply wpS_region
  simp [wpOpsS, go_sem, recoverD, hu, Tryd.ntmps34, Exit.thenS, assert_wrong, Array.replicate]
  refine wpS_of_wp ?_
  obtain ⟨W, hW⟩ : ∃ W, W = w.alloc (.cells #[.int .i64 e] 71) := ⟨_, rfl⟩
  have hb : Below w.heap.size w W := by rw [hW]; exact below_new w _
  have hlt := h.lt
  have h' := h.below hb
  have k0 := h'.k; have k1 := h'.y; have k2 := h'.vf; have k3 := h'.is; have k4 := h'.e
  have f0 := h'.fk 0 (by decide); have f1 := h'.fk 1 (by decide); have f2 := h'.fk 2 (by decide); have f3 := h'.fi; have f4 := h'.fe
  have k5 : W.cell? ⟨w.heap.size, 0, none⟩ = some (.int .i64 e) := by rw [hW]; exact new_cell w _ _
  rw [← hW]
  have Hb := Lib.hid hb; have H' := Lib.hid h'
  clear h hb hW h'
  go_wp2_with fail
  go_region
  generalize hX : (((((W.setCell ⟨g, 0, none⟩ (.string ⟨#[]⟩)).setCell ⟨g, 1, none⟩ (.string ⟨#[]⟩)).setCell ⟨g, 2, none⟩ (.slice none 0 0)).setCell ⟨g + 1, 0, none⟩ (.bool false)).setCell ⟨g + 2, 0, none⟩ (.int .i64 e)) = X
  have hX2 : put3 W g [] [] (.slice none 0 0) false e = X := hX
  clear hX
  have h5 := H'.out.put [] [] (.slice none 0 0) false e
  have h6 := put3_block W g [] [] (.slice none 0 0) false e
  have h7 := put3_size W g [] [] (.slice none 0 0) false e
  rw [hX2] at h5 h6 h7
  have hos : X.os = W.os ∧ X.tape = W.tape ∧ X.output = W.output := by rw [← hX2]; exact ⟨rfl, rfl, rfl⟩
  have hb := Hb.out
  refine ⟨rfl, .panicking [{ v := .iface 71 (.agg #[.int .i64 e]), recovered := true }], rfl, .tuple #[], results_none rfl _ _ _, rfl, rfl, ?_, ?_⟩
  · exact ⟨h5.k, h5.y, h5.vf, h5.is, h5.e, h5.fk, h5.fi, h5.fe, h5.lt⟩
  · exact ⟨hos.1.trans hb.os, hos.2.1.trans hb.tape, hos.2.2.trans hb.output, Nat.le_trans hb.size (Nat.le_of_eq h7.symm), fun j hj h0 h1 h2 => (h6 j h0 h1 h2).trans (hb.block j hj)⟩
end Go.Proofs.YtddgdfcgjjdlcaaDoor
