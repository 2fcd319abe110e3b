/- A parameter of type [][3]uint8, opened as a list. -/
import Derived.Test.YthoblbdkmlggbaaGreatDoorIxLW
import Derived.Deep.Slices
import Derived.Deep.Strs
import Derived.OpenShut
import Derived.ProofKit
import Derived.Laws.IdiomArrays
set_option linter.unusedSimpArgs false
set_option linter.unusedVariables false
namespace Go.Proofs.YthoblbdkmlggbaaGreatDoor
set_option maxRecDepth 100000
open Go.ChangeShapes Go.WideShapes Go.RowKit
section
variable {H : Type} {enc : TypeId × Value → H} {w : World} {n : Nat}
theorem u8_of {n : Int} (h : (Lit.int .u8 n).wf = true) : ∃ b : UInt8, n = (b.toNat : Int) := by
  have h1 := bounds_u8 h
  exact ⟨UInt8.ofNat n.toNat, by rw [UInt8.toNat_ofNat']; omega⟩
theorem it3_open {cs : List Value} {y : DataW H × List MemPlace} (h : DataW.trod enc Tryz.prog w 0 (fun _ => true) true n 44 cs = some y) : ∃ x : Ix.T3, IT3 x cs := by
  obtain ⟨xs, m, _, _, hlen, hxl, hf⟩ := DataW.trod_array Tryz.underlying44 h
  have hc : Tryz.prog.cellsOf 44 = 3 := by kernel_rfl
  have h1 : Tryz.prog.cellsOf 5 = 1 := by kernel_rfl
  rw [hc] at hlen
  clear hf hxl
  match cs, hlen with
  | [c0, c1, c2], _ =>
    obtain ⟨y0, y1, y2, k, _, q0, q1, q2⟩ := trod_array3 Tryz.underlying44 h1 h
    obtain ⟨a, ha, _, wa⟩ := DataW.trod_int Tryz.underlying5 q0
    obtain ⟨b, hb, _, wb⟩ := DataW.trod_int Tryz.underlying5 q1
    obtain ⟨c, hc', _, wc⟩ := DataW.trod_int Tryz.underlying5 q2
    obtain ⟨a', rfl⟩ := u8_of wa
    obtain ⟨b', rfl⟩ := u8_of wb
    obtain ⟨c', rfl⟩ := u8_of wc
    obtain rfl := (List.cons.inj ha).1
    obtain rfl := (List.cons.inj hb).1
    obtain rfl := (List.cons.inj hc').1
    exact ⟨(a', b', c'), rfl⟩
theorem it3s_open {base : Nat} {r : Reach} {v : Value} {d : DataW H} {ps : List MemPlace} (hv : Value.okWide Tryz.prog w r base 43 v) (h : DataW.Trod enc Tryz.prog w 0 (fun _ => true) true 43 v d ps) :
    ∃ (p : Option Addr) (cap : Nat) (l : List Ix.T3), v = .slice p l.length cap ∧ l.length ≤ maxLen ∧ OSl 3 IT3 w p l := by
  obtain ⟨a0, len0, cap0, rfl⟩ := okWide_slice Tryz.underlying43 hv
  obtain ⟨fuel, hf⟩ := h
  obtain ⟨p, l, cap, e, hl, hO⟩ := slice_open (R := IT3) Tryz.underlying43 (show Tryz.prog.cellsOf 44 = 3 by kernel_rfl) (by decide) (fun m cs y h => it3_open h) (c := .slice a0 len0 cap0) hf
  exact ⟨p, cap, l, e, hl, hO⟩
end
end Go.Proofs.YthoblbdkmlggbaaGreatDoor
