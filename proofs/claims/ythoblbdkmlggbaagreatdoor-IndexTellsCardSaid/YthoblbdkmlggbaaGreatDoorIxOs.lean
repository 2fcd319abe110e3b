/- A parameter of type []int, opened as a list. -/
import Derived.Test.YthoblbdkmlggbaaGreatDoorIxTc
import Derived.Test.YthoblbdkmlggbaaGreatDoorIxOp
import Derived.Deep.Slices
import Derived.Deep.Strs
import Derived.OpenShut
import Derived.ProofKit
set_option linter.unusedSimpArgs false
set_option linter.unusedVariables false
namespace Go.Proofs.YthoblbdkmlggbaaGreatDoor
set_option maxRecDepth 100000
open Go.ChangeShapes Go.WideShapes Go.RowKit
section
variable {H : Type} {enc : TypeId × Value → H} {w : World} {n : Nat}
theorem int1_open {cs : List Value} {y : DataW H × List MemPlace} (h : DataW.trod enc Tryz.prog w 0 (fun _ => true) true n 3 cs = some y) : ∃ x : Int, RInt x cs := by
  obtain ⟨z, e, _, wz⟩ := DataW.trod_int Tryz.underlying3 h
  exact ⟨z, e⟩
theorem ints_open {base : Nat} {r : Reach} {v : Value} {d : DataW H} {ps : List MemPlace} (hv : Value.okWide Tryz.prog w r base 22 v) (h : DataW.Trod enc Tryz.prog w 0 (fun _ => true) true 22 v d ps) :
    ∃ (p : Option Addr) (cap : Nat) (l : List Int), v = .slice p l.length cap ∧ (l.length ≤ cap ∧ cap ≤ maxLen) ∧ OSl 1 RInt w p l := by
  obtain ⟨a0, len0, cap0, rfl⟩ := okWide_slice Tryz.underlying22 hv
  obtain ⟨fuel, hf⟩ := h
  obtain ⟨p, l, cap, e, hl, hO⟩ := slice_open (R := RInt) Tryz.underlying22 (show Tryz.prog.cellsOf 3 = 1 by kernel_rfl) (by decide) (fun m cs y h => int1_open h) (c := .slice a0 len0 cap0) hf
  refine ⟨p, cap, l, e, ?_, hO⟩
  simp only [Value.slice.injEq] at e
  obtain ⟨_, e1, e2⟩ := e
  rcases Go.Deep.open_slice Tryz.underlying22 hf with ⟨hcs, _⟩ | ⟨a, len, cap', m, k', D, Pl, hcs, _, hl2, hm, _⟩
  · have hcs : [Value.slice a0 len0 cap0] = _ := hcs
    simp only [List.cons.injEq, Value.slice.injEq, and_true] at hcs
    obtain ⟨_, h1, h2⟩ := hcs
    rw [← e1, ← e2, h1, h2]
    exact ⟨Nat.le_refl _, Nat.zero_le _⟩
  · have hcs : [Value.slice a0 len0 cap0] = _ := hcs
    simp only [List.cons.injEq, Value.slice.injEq, and_true] at hcs
    obtain ⟨_, h1, h2⟩ := hcs
    rw [← e1, ← e2, h1, h2]
    exact ⟨hl2, hm⟩
end
end Go.Proofs.YthoblbdkmlggbaaGreatDoor
