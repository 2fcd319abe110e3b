/- A parameter of type []uint8, opened as a list. -/
import Derived.Test.YthoblbdkmlggbaaGreatDoorIxLP
import Derived.Deep.Slices
import Derived.Deep.Strs
import Derived.OpenShut
import Derived.ProofKit
set_option linter.unusedSimpArgs false
set_option linter.unusedVariables false
namespace Go.Proofs.YthoblbdkmlggbaaGreatDoor
set_option maxRecDepth 100000
open Go.ChangeShapes Go.WideShapes Go.RowKit
section
variable {H : Type} {enc : TypeId × Value → H} {w : World} {n : Nat}
theorem u8_ofr {n : Int} (h : (Lit.int .u8 n).wf = true) : ∃ b : UInt8, n = (b.toNat : Int) := by
  have h1 := bounds_u8 h
  exact ⟨UInt8.ofNat n.toNat, by rw [UInt8.toNat_ofNat']; omega⟩
theorem u81_open {cs : List Value} {y : DataW H × List MemPlace} (h : DataW.trod enc Tryz.prog w 0 (fun _ => true) true n 5 cs = some y) : ∃ x : UInt8, IU8 x cs := by
  obtain ⟨z, e, _, wz⟩ := DataW.trod_int Tryz.underlying5 h
  obtain ⟨b, rfl⟩ := u8_ofr wz
  exact ⟨b, e⟩
theorem u8s_open {base : Nat} {r : Reach} {v : Value} {d : DataW H} {ps : List MemPlace} (hv : Value.okWide Tryz.prog w r base 40 v) (h : DataW.Trod enc Tryz.prog w 0 (fun _ => true) true 40 v d ps) :
    ∃ (p : Option Addr) (cap : Nat) (l : List UInt8), v = .slice p l.length cap ∧ l.length ≤ maxLen ∧ OSl 1 IU8 w p l := by
  obtain ⟨a0, len0, cap0, rfl⟩ := okWide_slice Tryz.underlying40 hv
  obtain ⟨fuel, hf⟩ := h
  obtain ⟨p, l, cap, e, hl, hO⟩ := slice_open (R := IU8) Tryz.underlying40 (show Tryz.prog.cellsOf 5 = 1 by kernel_rfl) (by decide) (fun m cs y h => u81_open h) (c := .slice a0 len0 cap0) hf
  exact ⟨p, cap, l, e, hl, hO⟩
end
end Go.Proofs.YthoblbdkmlggbaaGreatDoor
