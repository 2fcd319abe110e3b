/- A parameter of type []rule.Rule, opened as a list of rules. -/
import Derived.Test.YtibinlpbcoihoaaGreatDoorRuC
import Derived.Test.YtibinlpbcoihoaaGreatDoorOpSl
import Derived.Deep.Slices
import Derived.Deep.Strs
import Derived.OpenShut
import Derived.ProofKit
set_option linter.unusedSimpArgs false
set_option linter.unusedVariables false
namespace Go.Proofs.YtibinlpbcoihoaaGreatDoor
set_option maxRecDepth 100000
open Go.ChangeShapes Go.WideShapes Go.RowKit
section
variable {H : Type} {enc : TypeId × Value → H} {w : World} {n : Nat}
instance : Inhabited Ru.Rl := ⟨⟨0, [], []⟩⟩
theorem rl1_open {cs : List Value} {y : DataW H × List MemPlace} (h : DataW.trod enc Tryz.prog w 0 (fun _ => true) true n 36 cs = some y) : ∃ x : Ru.Rl, RRl x cs := by
  obtain ⟨y0, y1, y2, m, _, hl, h0, h1, h2⟩ := Go.Deep.trod_struct3 Tryz.underlying36 h
  have hc : Tryz.prog.cellsOf 36 = 3 := by kernel_rfl
  have h9 : Tryz.prog.cellsOf 9 = 1 := by kernel_rfl
  have h3 : Tryz.prog.cellsOf 3 = 1 := by kernel_rfl
  rw [hc] at hl
  match cs, hl with
  | [a, b, c], _ =>
    dsimp only at h0 h1 h2
    rw [h9] at h1 h2
    rw [h3] at h0
    obtain ⟨k, e0, _, z0⟩ := DataW.trod_int Tryz.underlying3 h0
    obtain ⟨s1, e1, _, z1⟩ := DataW.trod_string Tryz.underlying9 h1
    obtain ⟨s2, e2, _, z2⟩ := DataW.trod_string Tryz.underlying9 h2
    simp at e0 e1 e2
    exact ⟨⟨k, s1.data.toList, s2.data.toList⟩, by show [a, b, c] = _; rw [e0, e1, e2]⟩
theorem rules_open {base : Nat} {r : Reach} {v : Value} {d : DataW H} {ps : List MemPlace} (hv : Value.okWide Tryz.prog w r base 22 v) (h : DataW.Trod enc Tryz.prog w 0 (fun _ => true) true 22 v d ps) :
    ∃ (p : Option Addr) (cap : Nat) (l : List Ru.Rl), v = .slice p l.length cap ∧ l.length ≤ maxLen ∧ OSl 3 RRl w p l := by
  obtain ⟨a0, len0, cap0, rfl⟩ := okWide_slice Tryz.underlying22 hv
  obtain ⟨fuel, hf⟩ := h
  obtain ⟨p, l, cap, e, hl, hO⟩ := slice_open (R := RRl) Tryz.underlying22 (show Tryz.prog.cellsOf 36 = 3 by kernel_rfl) (by decide) (fun m cs y h => rl1_open h) (c := .slice a0 len0 cap0) hf
  exact ⟨p, cap, l, e, hl, hO⟩
end
end Go.Proofs.YtibinlpbcoihoaaGreatDoor
