/- A side that may be is small. -/
import Derived.Test.YtimmmjmmjokdbaaGreatDoorSidLw
set_option linter.unusedSimpArgs false
set_option linter.unusedVariables false
namespace Go.Proofs.YtimmmjmmjokdbaaGreatDoor
open Go.RowKit
theorem right_sm {x : Sd.Side} (h : Sd.right x = true) : SideSm x := by
  have hs := Sd.right_small x h
  unfold Sd.right at h
  simp only [Bool.and_eq_true, decide_eq_true_eq] at h
  obtain ⟨⟨⟨⟨⟨⟨⟨⟨n1, n2⟩, n3⟩, n4⟩, _⟩, _⟩, _⟩, _⟩, _⟩ := h
  exact ⟨by omega, by omega, by omega, by omega, fun l hl => by have := hs.lab l hl; omega, fun l hl => by have := hs.head l hl; omega, fun l hl => by have := hs.cite l hl; omega, fun l hl => by have := hs.bib l hl; omega⟩
end Go.Proofs.YtimmmjmmjokdbaaGreatDoor
