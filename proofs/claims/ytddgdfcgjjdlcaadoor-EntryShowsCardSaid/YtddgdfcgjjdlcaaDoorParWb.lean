/- The walks of package entry's reader: how an entry is left. -/
import Derived.Test.YtddgdfcgjjdlcaaDoorParWa
namespace Go.Proofs.YtddgdfcgjjdlcaaDoor
open Go.RowKit

theorem results3 (tmps : Array Value) (w : World) (g : Nat) (k y : List UInt8) (vf : Value) (is : Bool) (e : Int) (h : Res3 w g k y vf is e)
    (h2 : tmps[2]?.getD undef = .pointer (some ⟨g, 0, none⟩)) (h3 : tmps[3]?.getD undef = .pointer (some ⟨g + 1, 0, none⟩)) (h4 : tmps[4]?.getD undef = .pointer (some ⟨g + 2, 0, none⟩)) :
    (results Tryd.f28 tmps).run Tryd.prog w = .ok (.tuple #[.agg #[.string ⟨k.toArray⟩, .string ⟨y.toArray⟩, vf], .bool is, .int .i64 e]) w := by
  have k0 := h.k; have k1 := h.y; have k2 := h.vf; have k3 := h.is; have k4 := h.e
  simp [results, Tryd.results28, go_sem, h2, h3, h4, k0, k1, k2, k3, k4]

def tail1 (g : Nat) : List Deferred := [{ target := .fn (.func 34) #[.pointer (some ⟨g, 0, none⟩), .pointer (some ⟨g + 1, 0, none⟩), .pointer (some ⟨g + 2, 0, none⟩)], args := #[] }]
theorem leaves_idle (tmps : Array Value) (w : World) (g : Nat) (k y : List UInt8) (vf : Value) (is : Bool) (e : Int) (h : Res3 w g k y vf is e)
    (h2 : tmps[2]?.getD undef = .pointer (some ⟨g, 0, none⟩)) (h3 : tmps[3]?.getD undef = .pointer (some ⟨g + 1, 0, none⟩)) (h4 : tmps[4]?.getD undef = .pointer (some ⟨g + 2, 0, none⟩))
    (R : Ending → World → Prop) (hR : ∀ w', Below w.heap.size w w' → R (.returned (.tuple #[.agg #[.string ⟨k.toArray⟩, .string ⟨y.toArray⟩, vf], .bool is, .int .i64 e])) w') :
    Leaves Tryd.prog Tryd.f28 tmps R (tail1 g) .returning w := by
  unfold tail1
  refine leaves_cons (f := 34) (args := #[.pointer (some ⟨g, 0, none⟩), .pointer (some ⟨g + 1, 0, none⟩), .pointer (some ⟨g + 2, 0, none⟩)]) (by simp) (by simp [go_sem]) ?_
  refine (catch_idle g w).mono ?_
  rintro e' u' w' ⟨rfl, rfl, hb⟩
  exact ⟨_, results3 tmps w' g k y vf is e (h.below hb) h2 h3 h4, hR w' hb⟩
/-- what an entry's end leaves -/
structure Died (g : Nat) (w w' : World) : Prop where
  os : w'.os = w.os
  tape : w'.tape = w.tape
  output : w'.output = w.output
  size : w.heap.size ≤ w'.heap.size
  block : ∀ j, j < w.heap.size → j ≠ g → j ≠ g + 1 → j ≠ g + 2 → w'.heap[j]? = w.heap[j]?
theorem leaves_dies (tmps : Array Value) (w : World) (g : Nat) (k y : List UInt8) (vf : Value) (is : Bool) (e0 e : Int) (h : Res3 w g k y vf is e0)
    (h2 : tmps[2]?.getD undef = .pointer (some ⟨g, 0, none⟩)) (h3 : tmps[3]?.getD undef = .pointer (some ⟨g + 1, 0, none⟩)) (h4 : tmps[4]?.getD undef = .pointer (some ⟨g + 2, 0, none⟩))
    (R : Ending → World → Prop) (hR : ∀ w', Died g w w' → R (.returned (.tuple #[.agg #[.string ⟨#[]⟩, .string ⟨#[]⟩, .slice none 0 0], .bool false, .int .i64 e])) w') :
    Leaves Tryd.prog Tryd.f28 tmps R (tail1 g) (.panicking [{ v := .iface 71 (.agg #[.int .i64 e]), recovered := false }]) w := by
  unfold tail1
  refine leaves_cons (f := 34) (args := #[.pointer (some ⟨g, 0, none⟩), .pointer (some ⟨g + 1, 0, none⟩), .pointer (some ⟨g + 2, 0, none⟩)]) (by simp) (by simp [go_sem]) ?_
  refine (catch_panicking g k y vf is e0 e w h).mono ?_
  rintro e' u' w' ⟨rfl, rfl, hr, hk⟩
  exact ⟨_, results3 tmps w' g [] [] (.slice none 0 0) false e hr h2 h3 h4, hR w' ⟨hk.1, hk.2.1, hk.2.2.1, hk.2.2.2.1, hk.2.2.2.2⟩⟩
end Go.Proofs.YtddgdfcgjjdlcaaDoor
