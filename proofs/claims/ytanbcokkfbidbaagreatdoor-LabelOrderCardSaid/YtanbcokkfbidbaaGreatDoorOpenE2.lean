/- A parameter of type []entry.Entry, opened as a list of entries. -/
import Derived.Test.YtanbcokkfbidbaaGreatDoorCutW
import Derived.Deep.Slices
import Derived.Deep.Strs
import Derived.OpenShut
import Derived.ProofKit
set_option linter.unusedSimpArgs false
set_option linter.unusedVariables false
set_option maxRecDepth 100000
namespace Go.Proofs.YtanbcokkfbidbaaGreatDoor
open Go.ChangeShapes Go.WideShapes Go.RowKit
section
variable {H : Type} {enc : TypeId × Value → H} {w : World} {n : Nat}
theorem add_zero (a : Addr) : a.add 0 = a := by unfold Addr.add; rw [if_pos rfl]
theorem add_succ (a : Addr) (i : Nat) : a.add (i + 1) = ⟨a.block, a.off + (i + 1), none⟩ := by unfold Addr.add; rw [if_neg (by omega)]
theorem fld_open {cs : List Value} {y : DataW H × List MemPlace} (h : DataW.trod enc Tryz.prog w 0 (fun _ => true) true n 50 cs = some y) :
    ∃ s0 s1 : ByteArray, cs = [.string s0, .string s1] ∧ s0.size ≤ maxLen ∧ s1.size ≤ maxLen := by
  obtain ⟨y0, y1, m, _, hl, h0, h1⟩ := trod_struct2 Tryz.underlying50 h
  have hc : Tryz.prog.cellsOf 50 = 2 := by kernel_rfl
  have h9 : Tryz.prog.cellsOf 9 = 1 := by kernel_rfl
  rw [hc] at hl
  match cs, hl with
  | [a, b], _ =>
    dsimp only at h0 h1
    rw [h9] at h0 h1
    obtain ⟨s0, e0, _, z0⟩ := DataW.trod_string Tryz.underlying9 h0
    obtain ⟨s1, e1, _, z1⟩ := DataW.trod_string Tryz.underlying9 h1
    simp at e0 e1
    exact ⟨s0, s1, by rw [e0, e1], z0, z1⟩
theorem ent_open {cs : List Value} {y : DataW H × List MemPlace} (h : DataW.trod enc Tryz.prog w 0 (fun _ => true) true n 27 cs = some y) :
    ∃ (s0 s1 : ByteArray) (c : Value) (m : Nat) (y2 : DataW H × List MemPlace), cs = [.string s0, .string s1, c] ∧ s0.size ≤ maxLen ∧ s1.size ≤ maxLen ∧ DataW.trod enc Tryz.prog w 0 (fun _ => true) true m 25 [c] = some y2 := by
  obtain ⟨y0, y1, y2, m, _, hl, h0, h1, h2⟩ := Go.Deep.trod_struct3 Tryz.underlying27 h
  have hc : Tryz.prog.cellsOf 27 = 3 := by kernel_rfl
  have h9 : Tryz.prog.cellsOf 9 = 1 := by kernel_rfl
  have h8 : Tryz.prog.cellsOf 25 = 1 := by kernel_rfl
  rw [hc] at hl
  match cs, hl with
  | [a, b, c], _ =>
    dsimp only at h0 h1 h2
    rw [h9] at h0 h1
    rw [h8] at h2
    obtain ⟨s0, e0, _, z0⟩ := DataW.trod_string Tryz.underlying9 h0
    obtain ⟨s1, e1, _, z1⟩ := DataW.trod_string Tryz.underlying9 h1
    simp at e0 e1
    exact ⟨s0, s1, c, m, y2, by rw [e0, e1], z0, z1, h2⟩
def bl8 (s : ByteArray) : List UInt8 := s.data.toList
theorem bl8_mk (s : ByteArray) : (⟨(bl8 s).toArray⟩ : ByteArray) = s := by unfold bl8; rw [Array.toArray_toList]
theorem bl8_len (s : ByteArray) : (bl8 s).length = s.size := by unfold bl8; rw [Array.length_toList]; rfl
theorem flds_open {c : Value} {y : DataW H × List MemPlace} (h : DataW.trod enc Tryz.prog w 0 (fun _ => true) true n 25 [c] = some y) :
    ∃ (p : Option Addr) (fs : List Ent.Fld) (cap : Nat), c = .slice p fs.length cap ∧ fs.length ≤ maxLen ∧ OFld w p fs := by
  rcases Go.Deep.open_slice Tryz.underlying25 h with ⟨hcs, _⟩ | ⟨a, len, cap, m, k, D, Pl, hcs, _, hl, hm, hmm, _, hi⟩
  · simp at hcs
    subst hcs
    exact ⟨none, [], 0, rfl, Nat.zero_le _, fun j f hj => by simp at hj⟩
  · simp at hcs hmm
    subst hcs
    have hc : Tryz.prog.cellsOf 50 = 2 := by kernel_rfl
    have each : ∀ i, ∃ f : Ent.Fld, i < len → ∃ (b o : Nat) (sp : Option Nat), a.add (i * 2) = ⟨b, o, sp⟩ ∧ b < w.heap.size ∧ w.cell? ⟨b, o, sp⟩ = some (.string ⟨f.name.toArray⟩) ∧ w.cell? ⟨b, o + 1, none⟩ = some (.string ⟨f.text.toArray⟩) ∧ f.name.length ≤ maxLen ∧ f.text.length ≤ maxLen := by
      intro i
      by_cases hil : i < len
      · obtain ⟨cs', h1, h2⟩ := hi i (by omega)
        rw [hc] at h1
        obtain ⟨s0, s1, rfl, z0, z1⟩ := fld_open h2
        obtain ⟨_, _, hat⟩ := World.cells?_some h1
        have c0 := hat 0 (by omega)
        have c1 := hat 1 (by omega)
        rw [add_zero] at c0
        rw [add_succ] at c1
        refine ⟨⟨bl8 s0, bl8 s1⟩, fun _ => ⟨_, _, _, rfl, World.block_lt_of_cell? w _ c0, ?_, ?_, by rw [bl8_len]; exact z0, by rw [bl8_len]; exact z1⟩⟩
        · show w.cell? (a.add (i * 2)) = some (.string ⟨(bl8 s0).toArray⟩)
          rw [bl8_mk]; exact c0
        · show w.cell? _ = some (.string ⟨(bl8 s1).toArray⟩)
          rw [bl8_mk]; exact c1
      · exact ⟨⟨[], []⟩, fun h => absurd h hil⟩
    refine ⟨some a, (List.range len).map fun i => Classical.choose (each i), cap, by simp, by simp; omega, fun j f hj => ?_⟩
    rw [List.getElem?_map] at hj
    obtain ⟨i, hr, rfl⟩ := Option.map_eq_some_iff.1 hj
    obtain ⟨h1, h2⟩ : j < len ∧ j = i := by
      have hlt := (List.getElem?_eq_some_iff.1 hr).1
      simp at hlt
      rw [List.getElem?_range hlt] at hr
      exact ⟨hlt, by simpa using hr⟩
    subst h2
    obtain ⟨b, o, sp, e1, e2, e3, e4, e5, e6⟩ := Classical.choose_spec (each j) h1
    exact ⟨a, b, o, sp, rfl, e1, e2, e3, e4, e5, e6⟩
theorem ents_open {base : Nat} {r : Reach} {v : Value} {d : DataW H} {ps : List MemPlace} (hv : Value.okWide Tryz.prog w r base 22 v) (h : DataW.Trod enc Tryz.prog w 0 (fun _ => true) true 22 v d ps) :
    ∃ (p : Option Addr) (cap : Nat) (l : List Ent.Ent), v = .slice p l.length cap ∧ l.length ≤ maxLen ∧ OEnt w p l := by
  obtain ⟨a0, len0, cap0, rfl⟩ := okWide_slice Tryz.underlying22 hv
  obtain ⟨fuel, hf⟩ := h
  rcases Go.Deep.open_slice Tryz.underlying22 hf with ⟨hcs, _⟩ | ⟨a, len, cap, m, k, D, Pl, hcs, _, hl, hm, hmm, _, hi⟩
  · simp [Value.cells] at hcs
    obtain ⟨rfl, rfl, rfl⟩ := hcs
    exact ⟨none, 0, [], rfl, Nat.zero_le _, fun j f hj => by simp at hj⟩
  · simp [Value.cells] at hcs hmm
    obtain ⟨rfl, rfl, rfl⟩ := hcs
    have hc : Tryz.prog.cellsOf 27 = 3 := by kernel_rfl
    have each : ∀ i, ∃ x : Ent.Ent, i < len0 → ∃ (b o : Nat) (sp : Option Nat) (pf : Option Addr) (cf : Nat), a.add (i * 3) = ⟨b, o, sp⟩ ∧ b < w.heap.size ∧ w.cell? ⟨b, o, sp⟩ = some (.string ⟨x.kind.toArray⟩) ∧ w.cell? ⟨b, o + 1, none⟩ = some (.string ⟨x.key.toArray⟩) ∧
        w.cell? ⟨b, o + 2, none⟩ = some (.slice pf x.fields.length cf) ∧ x.kind.length ≤ maxLen ∧ x.key.length ≤ maxLen ∧ x.fields.length ≤ maxLen ∧ OFld w pf x.fields := by
      intro i
      by_cases hil : i < len0
      · obtain ⟨cs', h1, h2⟩ := hi i (by omega)
        rw [hc] at h1
        obtain ⟨s0, s1, c, m2, y2, rfl, z0, z1, h3⟩ := ent_open h2
        obtain ⟨pf, fs, cf, rfl, hfl, hof⟩ := flds_open h3
        obtain ⟨_, _, hat⟩ := World.cells?_some h1
        have c0 := hat 0 (by omega)
        have c1 := hat 1 (by omega)
        have c2 := hat 2 (by omega)
        rw [add_zero] at c0
        rw [add_succ] at c1 c2
        refine ⟨⟨bl8 s0, bl8 s1, fs⟩, fun _ => ⟨_, _, _, pf, cf, rfl, World.block_lt_of_cell? w _ c0, ?_, ?_, c2, by rw [bl8_len]; exact z0, by rw [bl8_len]; exact z1, hfl, hof⟩⟩
        · show w.cell? (a.add (i * 3)) = some (.string ⟨(bl8 s0).toArray⟩)
          rw [bl8_mk]; exact c0
        · show w.cell? _ = some (.string ⟨(bl8 s1).toArray⟩)
          rw [bl8_mk]; exact c1
      · exact ⟨⟨[], [], []⟩, fun h => absurd h hil⟩
    refine ⟨some a, cap0, (List.range len0).map fun i => Classical.choose (each i), by simp, by simp; omega, fun j f hj => ?_⟩
    rw [List.getElem?_map] at hj
    obtain ⟨i, hr, rfl⟩ := Option.map_eq_some_iff.1 hj
    obtain ⟨h1, h2⟩ : j < len0 ∧ j = i := by
      have hlt := (List.getElem?_eq_some_iff.1 hr).1
      simp at hlt
      rw [List.getElem?_range hlt] at hr
      exact ⟨hlt, by simpa using hr⟩
    subst h2
    obtain ⟨b, o, sp, pf, cf, e⟩ := Classical.choose_spec (each j) h1
    exact ⟨a, b, o, sp, pf, cf, rfl, e⟩
end
end Go.Proofs.YtanbcokkfbidbaaGreatDoor
