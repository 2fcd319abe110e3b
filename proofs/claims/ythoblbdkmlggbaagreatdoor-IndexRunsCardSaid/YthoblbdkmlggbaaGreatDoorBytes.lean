/- A row of bytes of the call's own: '[]byte(s)', written, and back. No program in sight. -/
import Derived.Test.YthoblbdkmlggbaaGreatDoorSup
import Derived.Laws.IdiomStrings
set_option linter.unusedSimpArgs false
set_option linter.unusedVariables false
namespace Go.Proofs.YthoblbdkmlggbaaGreatDoor
open Go.RowKit

/-- a row of bytes that may be written -/
structure ByteRow (w : World) (g : Nat) (l : List UInt8) : Prop where
  lt : g < w.heap.size
  cell : ∀ (j : Nat) (x : UInt8), l[j]? = some x → w.cell? ⟨g, j, none⟩ = some (.int .u8 (x.toNat : Int))
  free : ∀ j : Nat, j < l.length → w.frozen? ⟨g, j, none⟩ = false
theorem ByteRow.set {w : World} {g : Nat} {l : List UInt8} (h : ByteRow w g l) (k : Nat) (hk : k < l.length) (c : UInt8) : ByteRow (w.setCell ⟨g, k, none⟩ (.int .u8 (c.toNat : Int))) g (l.set k c) := by
  refine ⟨by simpa using h.lt, fun j x hj => ?_, fun j hj => by simpa using h.free j (by simpa using hj)⟩
  by_cases hjk : j = k
  · subst hjk
    rw [List.getElem?_set_self hk] at hj
    cases hj
    exact World.cell?_setCell_same _ _ _ (h.cell j _ (List.getElem?_eq_getElem hk))
  · rw [List.getElem?_set_ne (fun e => hjk e.symm)] at hj
    rw [World.cell?_setCell_other _ _ _ _ (fun e => hjk (by cases e; rfl))]
    exact h.cell j x hj
theorem ByteRow.drew {w : World} {g : Nat} {l : List UInt8} (h : ByteRow w g l) : ByteRow w.drew g l := ⟨h.lt, h.cell, h.free⟩
theorem ByteRow.below {w w' : World} {g : Nat} {l : List UInt8} (h : ByteRow w g l) (b : Below w.heap.size w w') : ByteRow w' g l :=
  ⟨Nat.lt_of_lt_of_le h.lt b.size, fun j x hj => (b.cell (p := ⟨g, j, none⟩) h.lt).trans (h.cell j x hj), fun j hj => (b.frozen (p := ⟨g, j, none⟩) h.lt).trans (h.free j hj)⟩
/-- what '[]byte(s)' makes -/
theorem byteRow_new (w : World) (l : List UInt8) (cap : Nat) (e : TypeId) (hc : l.length ≤ cap) :
    ByteRow (w.drew.alloc (.cells (bytesRow ⟨l.toArray⟩ cap) e ((bytesRow ⟨l.toArray⟩ cap).size, (bytesRow ⟨l.toArray⟩ cap).size + 1))) w.heap.size l := by
  have hg : (w.drew.alloc (.cells (bytesRow ⟨l.toArray⟩ cap) e ((bytesRow ⟨l.toArray⟩ cap).size, (bytesRow ⟨l.toArray⟩ cap).size + 1))).heap[w.heap.size]? = some (.cells (bytesRow ⟨l.toArray⟩ cap) e ((bytesRow ⟨l.toArray⟩ cap).size, (bytesRow ⟨l.toArray⟩ cap).size + 1)) := heap_alloc_new w.drew _
  refine ⟨by simp [World.alloc], fun j x hj => ?_, fun j hj => ?_⟩
  · rw [cell_of_row _ _ _ _ _ _ hg]
    obtain ⟨hj', e⟩ := List.getElem?_eq_some_iff.1 hj
    rw [bytesRow_at _ _ _ (by simpa using hj')]
    simp [e]
  · unfold World.frozen?
    rw [hg]
    have : (bytesRow ⟨l.toArray⟩ cap).size = cap := by simp [bytesRow, ByteArray.size]; omega
    simp [this]; omega
end Go.Proofs.YthoblbdkmlggbaaGreatDoor
