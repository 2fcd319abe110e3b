/- Slices of structs, read as lists: rows of elements of some cells each. No program in sight. -/
import Derived.Test.YthoblbdkmlggbaaGreatDoorSup
set_option linter.unusedSimpArgs false
set_option linter.unusedVariables false
namespace Go.Proofs.YthoblbdkmlggbaaGreatDoor
open Go.RowKit
variable {α : Type}

/-- a row of elements, one behind the other -/
def RepRow (R : α → List Value → Prop) : List α → List Value → Prop
  | [], fl => fl = []
  | x :: xs, fl => ∃ vs rest, fl = vs ++ rest ∧ R x vs ∧ RepRow R xs rest
theorem RepRow.snoc {R : α → List Value → Prop} {x : α} {vs : List Value} (h : R x vs) : ∀ {xs : List α} {fl : List Value}, RepRow R xs fl → RepRow R (xs ++ [x]) (fl ++ vs)
  | [], fl, hr => by
    have : fl = [] := hr
    subst this
    exact ⟨vs, [], by simp, h, rfl⟩
  | y :: ys, fl, hr => by
    obtain ⟨us, rest, rfl, h1, h2⟩ := hr
    exact ⟨us, rest ++ vs, by simp, h1, RepRow.snoc h h2⟩
theorem RepRow.imp {R R' : α → List Value → Prop} : ∀ {xs : List α} {fl : List Value}, RepRow R xs fl → (∀ x vs, x ∈ xs → R x vs → R' x vs) → RepRow R' xs fl
  | [], fl, hr, _ => hr
  | y :: ys, fl, hr, h => by
    obtain ⟨us, rest, rfl, h1, h2⟩ := hr
    exact ⟨us, rest, rfl, h y us (by simp) h1, h2.imp (fun x vs hx => h x vs (by simp [hx]))⟩
theorem RepRow.get {R : α → List Value → Prop} {size : Nat} (hsz : ∀ x vs, R x vs → vs.length = size) : ∀ {xs : List α} {fl : List Value}, RepRow R xs fl → ∀ {i : Nat} {x : α}, xs[i]? = some x →
    ∃ vs, R x vs ∧ ∀ j u, vs[j]? = some u → fl[i * size + j]? = some u
  | [], _, _, i, x, h => by simp at h
  | y :: ys, fl, hr, 0, x, h => by
    obtain ⟨us, rest, rfl, h1, h2⟩ := hr
    simp at h; subst h
    refine ⟨us, h1, fun j u hj => ?_⟩
    have := (List.getElem?_eq_some_iff.1 hj).1
    rw [Nat.zero_mul, Nat.zero_add, List.getElem?_append_left this]
    exact hj
  | y :: ys, fl, hr, i + 1, x, h => by
    obtain ⟨us, rest, rfl, h1, h2⟩ := hr
    obtain ⟨vs, h3, h4⟩ := RepRow.get hsz h2 (i := i) (x := x) (by simpa using h)
    refine ⟨vs, h3, fun j u hj => ?_⟩
    have hl := hsz _ _ h1
    rw [List.getElem?_append_right (by rw [hl, Nat.succ_mul]; omega), hl, show (i + 1) * size + j - size = i * size + j by rw [Nat.succ_mul]; omega]
    exact h4 j u hj
theorem RepRow.length {R : α → List Value → Prop} {size : Nat} (hsz : ∀ x vs, R x vs → vs.length = size) : ∀ {xs : List α} {fl : List Value}, RepRow R xs fl → fl.length = xs.length * size
  | [], fl, hr => by have : fl = [] := hr; subst this; simp
  | y :: ys, fl, hr => by
    obtain ⟨us, rest, rfl, h1, h2⟩ := hr
    rw [List.length_append, hsz _ _ h1, h2.length hsz, List.length_cons, Nat.succ_mul]; omega

/-- a slice, read as a list; its cells lie in blocks that are S -/
def SliceIn (S : Nat → Prop) (size : Nat) (R : α → List Value → Prop) (w : World) (v : Value) (xs : List α) : Prop :=
  ∃ p cap, v = .slice p xs.length cap ∧ xs.length ≤ cap ∧ cap ≤ maxLen ∧
    ∀ i x, xs[i]? = some x → ∃ b off vs, p = some ⟨b, off, none⟩ ∧ S b ∧ b < w.heap.size ∧ R x vs ∧ ∀ j u, vs[j]? = some u → w.cell? ⟨b, off + (i * size + j), none⟩ = some u
theorem SliceIn.kept {S S' : Nat → Prop} {size : Nat} {R R' : α → List Value → Prop} {w w' : World} {v : Value} {xs : List α} (h : SliceIn S size R w v xs)
    (hs : ∀ b, S b → S' b) (hz : w.heap.size ≤ w'.heap.size) (hb : ∀ b, S b → b < w.heap.size → w'.heap[b]? = w.heap[b]?) (hR : ∀ x vs, x ∈ xs → R x vs → R' x vs) : SliceIn S' size R' w' v xs := by
  obtain ⟨p, cap, hv, h1, h2, h3⟩ := h
  refine ⟨p, cap, hv, h1, h2, fun i x hi => ?_⟩
  obtain ⟨b, off, vs, hp, hS, hlt, hr, hc⟩ := h3 i x hi
  exact ⟨b, off, vs, hp, hs b hS, Nat.lt_of_lt_of_le hlt hz, hR x vs (List.mem_of_getElem? hi) hr, fun j u hj => (World.cell?_of_block (hb b hS hlt)).trans (hc j u hj)⟩
theorem SliceIn.below {S : Nat → Prop} {size : Nat} {R R' : α → List Value → Prop} {w w' : World} {v : Value} {xs : List α} (h : SliceIn S size R w v xs) (hb : Below w.heap.size w w')
    (hR : ∀ x vs, x ∈ xs → R x vs → R' x vs) : SliceIn S size R' w' v xs :=
  h.kept (fun _ h => h) hb.size (fun b _ hlt => hb.block b hlt) hR
theorem SliceIn.nil (S : Nat → Prop) (size : Nat) (R : α → List Value → Prop) (w : World) : SliceIn S size R w (.slice none 0 0) [] := ⟨none, 0, rfl, Nat.le_refl _, Nat.zero_le _, fun i x h => by simp at h⟩
/-- a row of the call's own, as a slice -/
theorem SliceIn.own {S : Nat → Prop} {size base e n : Nat} {R : α → List Value → Prop} {w : World} {v : Value} {fl : List Value} {xs : List α} (h : w.ownsRow base e size v n fl) (hr : RepRow R xs fl)
    (hsz : ∀ x vs, R x vs → vs.length = size) (hn : n = xs.length) (hS : ∀ b, v.ownBlock = some b → S b) : SliceIn S size R w v xs := by
  subst hn
  rcases h.2 with ⟨rfl, h0⟩ | ⟨g, cap, cur, rfl, hb, hg, hle, hm, hcs, hcur⟩
  · refine ⟨none, 0, by rw [h0], by omega, Nat.zero_le _, fun i x hi => ?_⟩
    have := (List.getElem?_eq_some_iff.1 hi).1
    omega
  · refine ⟨some ⟨g, 0, none⟩, cap, rfl, hle, hm, fun i x hi => ?_⟩
    obtain ⟨vs, hrx, hvs⟩ := hr.get hsz hi
    refine ⟨g, 0, vs, rfl, hS g rfl, (h.lt g rfl).2, hrx, fun j u hj => ?_⟩
    have h1 := hvs j u hj
    have h2 := (List.getElem?_eq_some_iff.1 h1).1
    rw [h.1] at h2
    rw [Nat.zero_add, World.ownsRow.cellAt h _ h2]
    exact h1
end Go.Proofs.YthoblbdkmlggbaaGreatDoor
