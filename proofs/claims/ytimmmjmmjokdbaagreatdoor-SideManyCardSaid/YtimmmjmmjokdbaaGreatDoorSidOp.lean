/- A side as it is handed in, opened: its labels, its headings, its citations, its databases. -/
import Derived.Test.YtimmmjmmjokdbaaGreatDoorSidWg
import Derived.Deep.Slices
import Derived.Deep.Strs
import Derived.OpenShut
import Derived.ProofKit
set_option linter.unusedSimpArgs false
set_option linter.unusedVariables false
namespace Go.Proofs.YtimmmjmmjokdbaaGreatDoor
open Go.ChangeShapes Go.WideShapes Go.RowKit
section
variable {H : Type} {enc : TypeId × Value → H} {w : World} {n : Nat}
set_option maxRecDepth 100000
instance : Inhabited Sd.Lab := ⟨⟨[], [], 0⟩⟩
instance : Inhabited Sd.Hd := ⟨⟨0, [], [], 0⟩⟩
theorem bytes_of (s : ByteArray) : ∃ l : List UInt8, s = ⟨l.toArray⟩ ∧ l.length = s.size := ⟨s.data.toList, by rw [Array.toArray_toList], by rw [Array.length_toList]; rfl⟩
theorem str1_open {cs : List Value} {y : DataW H × List MemPlace} (h : DataW.trod enc Tryz.prog w 0 (fun _ => true) true n 9 cs = some y) : ∃ x : List UInt8, IStr x cs := by
  obtain ⟨s0, e0, _, z0⟩ := DataW.trod_string Tryz.underlying9 h
  obtain ⟨l, rfl, hl⟩ := bytes_of s0
  exact ⟨l, e0, by rw [hl]; exact z0⟩
theorem lab_open {cs : List Value} {y : DataW H × List MemPlace} (h : DataW.trod enc Tryz.prog w 0 (fun _ => true) true n 42 cs = some y) : ∃ x : Sd.Lab, ILab x cs := by
  obtain ⟨y0, y1, y2, m, _, hl, h0, h1, h2⟩ := Go.Deep.trod_struct3 Tryz.underlying42 h
  have hc : Tryz.prog.cellsOf 42 = 3 := by kernel_rfl
  have h9 : Tryz.prog.cellsOf 9 = 1 := by kernel_rfl
  have h3 : Tryz.prog.cellsOf 3 = 1 := by kernel_rfl
  rw [hc] at hl
  match cs, hl with
  | [a, b, c], _ =>
    dsimp only at h0 h1 h2
    rw [h9] at h0 h1
    rw [h3] at h2
    obtain ⟨s0, e0, _, z0⟩ := DataW.trod_string Tryz.underlying9 h0
    obtain ⟨s1, e1, _, z1⟩ := DataW.trod_string Tryz.underlying9 h1
    obtain ⟨k2, e2, _⟩ := DataW.trod_int Tryz.underlying3 h2
    obtain ⟨l0, rfl, hl0⟩ := bytes_of s0
    obtain ⟨l1, rfl, hl1⟩ := bytes_of s1
    simp at e0 e1 e2
    exact ⟨⟨l0, l1, k2⟩, by rw [e0, e1, e2]; rfl, by rw [hl0]; exact z0, by rw [hl1]; exact z1⟩
theorem hd_open {cs : List Value} {y : DataW H × List MemPlace} (h : DataW.trod enc Tryz.prog w 0 (fun _ => true) true n 56 cs = some y) : ∃ x : Sd.Hd, IHd x cs := by
  obtain ⟨y0, y1, y2, y3, m, hl, h0, h1, h2, h4⟩ := trod_struct4 Tryz.underlying56 h
  have hc : Tryz.prog.cellsOf 56 = 4 := by kernel_rfl
  have h9 : Tryz.prog.cellsOf 9 = 1 := by kernel_rfl
  have h3 : Tryz.prog.cellsOf 3 = 1 := by kernel_rfl
  rw [hc] at hl
  match cs, hl with
  | [a, b, c, d], _ =>
    dsimp only at h0 h1 h2 h4
    rw [h9] at h1 h2
    rw [h3] at h0 h4
    obtain ⟨k0, e0, _⟩ := DataW.trod_int Tryz.underlying3 h0
    obtain ⟨s1, e1, _, z1⟩ := DataW.trod_string Tryz.underlying9 h1
    obtain ⟨s2, e2, _, z2⟩ := DataW.trod_string Tryz.underlying9 h2
    obtain ⟨k3, e3, _⟩ := DataW.trod_int Tryz.underlying3 h4
    obtain ⟨l1, rfl, hl1⟩ := bytes_of s1
    obtain ⟨l2, rfl, hl2⟩ := bytes_of s2
    simp at e0 e1 e2 e3
    exact ⟨⟨k0, l1, l2, k3⟩, by rw [e0, e1, e2, e3]; rfl, by rw [hl1]; exact z1, by rw [hl2]; exact z2⟩
theorem side_open {base : Nat} {r : Reach} {v : Value} {d : DataW H} {ps : List MemPlace} (hv : Value.okWide Tryz.prog w r base 26 v) (h : DataW.Trod enc Tryz.prog w 0 (fun _ => true) true 26 v d ps) :
    ∃ x : Sd.Side, OSide w v x := by
  obtain ⟨cs, rfl, hsz⟩ := okWide_struct Tryz.underlying26 hv
  obtain ⟨fuel, hf⟩ := h
  obtain ⟨y0, y1, y2, y3, m, hl, h0, h1, h2, h3⟩ := trod_struct4 Tryz.underlying26 hf
  have hc : Tryz.prog.cellsOf 26 = 4 := by kernel_rfl
  have k0 : Tryz.prog.cellsOf 22 = 1 := by kernel_rfl
  have k1 : Tryz.prog.cellsOf 23 = 1 := by kernel_rfl
  have k2 : Tryz.prog.cellsOf 24 = 1 := by kernel_rfl
  obtain ⟨cs⟩ := cs
  rw [hc] at hsz
  simp only [List.size_toArray] at hsz
  match cs, hsz with
  | [a, b, c, e], _ =>
    simp only [Value.cells] at h0 h1 h2 h3
    rw [k0] at h0
    rw [k1] at h1
    rw [k2] at h2 h3
    obtain ⟨pl, xl, cl, rfl, zl, ol⟩ := slice_open (n := 3) (R := ILab) Tryz.underlying22 (by kernel_rfl) (by decide) (fun _ _ _ h => lab_open h) h0
    obtain ⟨ph, xh, ch, rfl, zh, oh⟩ := slice_open (n := 4) (R := IHd) Tryz.underlying23 (by kernel_rfl) (by decide) (fun _ _ _ h => hd_open h) h1
    obtain ⟨pc, xc, cc, rfl, zc, oc⟩ := slice_open (n := 1) (R := IStr) Tryz.underlying24 (by kernel_rfl) (by decide) (fun _ _ _ h => str1_open h) h2
    obtain ⟨pb, xb, cb, rfl, zb, ob⟩ := slice_open (n := 1) (R := IStr) Tryz.underlying24 (by kernel_rfl) (by decide) (fun _ _ _ h => str1_open h) h3
    exact ⟨⟨xl, xh, xc, xb⟩, ⟨_, _, _, _, _, _, _, _, rfl, ol, oh, oc, ob⟩, zl, zh, zc, zb⟩
end
end Go.Proofs.YtimmmjmmjokdbaaGreatDoor
