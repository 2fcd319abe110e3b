/- A parameter of type []api.File, opened as a list of files. -/
import Derived.Test.YthoblbdkmlggbaaGreatDoorKF2
import Derived.Deep.Slices
import Derived.Deep.Strs
import Derived.OpenShut
import Derived.ProofKit
set_option linter.unusedSimpArgs false
set_option linter.unusedVariables false
namespace Go.Proofs.YthoblbdkmlggbaaGreatDoor
set_option maxRecDepth 100000
open Go.ChangeShapes Go.WideShapes Go.RowKit
section
variable {H : Type} {enc : TypeId × Value → H} {w : World} {n : Nat}
theorem fl1_open {cs : List Value} {y : DataW H × List MemPlace} (h : DataW.trod enc Tryz.prog w 0 (fun _ => true) true n 53 cs = some y) : ∃ x : Ix.Fl, IFl x cs := by
  obtain ⟨y0, y1, m, _, hl, h0, h1⟩ := trod_struct2 Tryz.underlying53 h
  have hc : Tryz.prog.cellsOf 53 = 2 := by kernel_rfl
  have h9 : Tryz.prog.cellsOf 9 = 1 := by kernel_rfl
  rw [hc] at hl
  match cs, hl with
  | [a, b], _ =>
    dsimp only at h0 h1
    rw [h9] at h0 h1
    obtain ⟨s0, e0, _, z0⟩ := DataW.trod_string Tryz.underlying9 h0
    obtain ⟨s1, e1, _, z1⟩ := DataW.trod_string Tryz.underlying9 h1
    simp at e0 e1
    refine ⟨(s0.data.toList, s1.data.toList), ?_, ?_, ?_⟩
    · rw [e0, e1]
    · show s0.data.toList.length ≤ maxLen
      rw [Array.length_toList]; exact z0
    · show s1.data.toList.length ≤ maxLen
      rw [Array.length_toList]; exact z1
theorem files_open {base : Nat} {r : Reach} {v : Value} {d : DataW H} {ps : List MemPlace} (hv : Value.okWide Tryz.prog w r base 48 v) (h : DataW.Trod enc Tryz.prog w 0 (fun _ => true) true 48 v d ps) :
    ∃ (p : Option Addr) (cap : Nat) (l : List Ix.Fl), v = .slice p l.length cap ∧ l.length ≤ maxLen ∧ OSl 2 IFl w p l := by
  obtain ⟨a0, len0, cap0, rfl⟩ := okWide_slice Tryz.underlying48 hv
  obtain ⟨fuel, hf⟩ := h
  obtain ⟨p, l, cap, e, hl, hO⟩ := slice_open (R := IFl) Tryz.underlying48 (show Tryz.prog.cellsOf 53 = 2 by kernel_rfl) (by decide) (fun m cs y h => fl1_open h) (c := .slice a0 len0 cap0) hf
  exact ⟨p, cap, l, e, hl, hO⟩
end
end Go.Proofs.YthoblbdkmlggbaaGreatDoor
