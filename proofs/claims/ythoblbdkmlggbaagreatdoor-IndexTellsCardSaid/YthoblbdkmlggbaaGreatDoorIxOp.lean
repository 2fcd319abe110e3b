/- A parameter of type []index.Entry, opened as a list of entries. -/
import Derived.Test.YthoblbdkmlggbaaGreatDoorIxK
import Derived.Deep.Slices
import Derived.Deep.Strs
import Derived.OpenShut
import Derived.ProofKit
set_option linter.unusedSimpArgs false
set_option linter.unusedVariables false
namespace Go.Proofs.YthoblbdkmlggbaaGreatDoor
set_option maxRecDepth 100000
open Go.ChangeShapes Go.WideShapes Go.RowKit
section
variable {H : Type} {enc : TypeId × Value → H} {w : World} {n : Nat}
theorem ien_open {cs : List Value} {y : DataW H × List MemPlace} (h : DataW.trod enc Tryz.prog w 0 (fun _ => true) true n 38 cs = some y) : ∃ x : Ix.En, IEn x cs := by
  obtain ⟨y0, y1, m, _, hl, h0, h1⟩ := trod_struct2 Tryz.underlying38 h
  have hc : Tryz.prog.cellsOf 38 = 2 := by kernel_rfl
  have h9 : Tryz.prog.cellsOf 9 = 1 := by kernel_rfl
  have h3 : Tryz.prog.cellsOf 3 = 1 := by kernel_rfl
  rw [hc] at hl
  match cs, hl with
  | [a, b], _ =>
    dsimp only at h0 h1
    rw [h9] at h0
    rw [h3] at h1
    obtain ⟨s0, e0, _, z0⟩ := DataW.trod_string Tryz.underlying9 h0
    obtain ⟨z, e1, _, z1⟩ := DataW.trod_int Tryz.underlying3 h1
    simp at e0 e1
    refine ⟨(s0.data.toList, z), ?_⟩
    unfold IEn
    rw [e0, e1]
theorem iens_open {base : Nat} {r : Reach} {v : Value} {d : DataW H} {ps : List MemPlace} (hv : Value.okWide Tryz.prog w r base 23 v) (h : DataW.Trod enc Tryz.prog w 0 (fun _ => true) true 23 v d ps) :
    ∃ (p : Option Addr) (cap : Nat) (l : List Ix.En), v = .slice p l.length cap ∧ l.length ≤ maxLen ∧ OSl 2 IEn w p l := by
  obtain ⟨a0, len0, cap0, rfl⟩ := okWide_slice Tryz.underlying23 hv
  obtain ⟨fuel, hf⟩ := h
  obtain ⟨p, l, cap, e, hl, hO⟩ := slice_open (R := IEn) Tryz.underlying23 (show Tryz.prog.cellsOf 38 = 2 by kernel_rfl) (by decide) (fun m cs y h => ien_open h) (c := .slice a0 len0 cap0) hf
  exact ⟨p, cap, l, e, hl, hO⟩
end
end Go.Proofs.YthoblbdkmlggbaaGreatDoor
