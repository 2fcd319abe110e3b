/- A parameter of type []string, opened as a list of texts. -/
import Derived.Test.YtcpckgkimelhmaaDoorLawTells
import Derived.SliceStrings
import Derived.OpenShut
import Derived.ProofKit
namespace Go.Proofs.YtcpckgkimelhmaaDoor
open Go.ChangeShapes Go.WideShapes Go.RowKit
theorem strs_open {H : Type} {enc : TypeId × Value → H} {w : World} {t e : TypeId} (ht : Tryd.prog.underlying t = some (.slice e)) (he : Tryd.prog.underlying e = some .string) (hc : Tryd.prog.cellsOf e = 1)
    {base : Nat} {r : Reach} {v : Value} {d : DataW H} {ps : List MemPlace} (hv : Value.okWide Tryd.prog w r base t v) (h : DataW.Trod enc Tryd.prog w 0 (fun _ => true) true t v d ps) :
    ∃ (p : Option Addr) (cap : Nat) (ss : List (List UInt8)), v = .slice p ss.length cap ∧ lawTells.StrsAt w p ss := by
  obtain ⟨a0, len, cap, rfl⟩ := okWide_slice ht hv
  obtain ⟨fuel, hf⟩ := h
  rcases open_strings ht he hc hf with ⟨hcs, _⟩ | ⟨a, len', cap', ss, hcs, _, hl, hm, hz, _, hcell, hsz⟩
  · simp [Value.cells] at hcs
    obtain ⟨rfl, rfl, rfl⟩ := hcs
    exact ⟨none, 0, [], rfl, fun i l hi => by simp at hi⟩
  · simp [Value.cells] at hcs
    obtain ⟨rfl, rfl, rfl⟩ := hcs
    have hlen : len ≤ ss.length := by rw [hz]; simpa using hl
    refine ⟨some a, cap, (ss.take len).map (fun s => s.data.toList), by simp [Nat.min_eq_left hlen], fun i l hi => ⟨a, rfl, ?_⟩⟩
    rw [List.getElem?_map] at hi
    obtain ⟨s, hs, rfl⟩ := Option.map_eq_some_iff.1 hi
    rw [List.getElem?_take] at hs
    split at hs
    · have h1 := hcell i (by omega)
      rw [List.getD_eq_getElem?_getD, hs] at h1
      have h2 := hsz s (List.mem_of_getElem? hs)
      refine ⟨?_, by rw [Array.length_toList]; exact h2⟩
      rw [h1]
      simp only [Option.getD_some, Array.toArray_toList]
    · cases hs
end Go.Proofs.YtcpckgkimelhmaaDoor
