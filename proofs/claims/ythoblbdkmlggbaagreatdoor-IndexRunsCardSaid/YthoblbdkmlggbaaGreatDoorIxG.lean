/- A range over a function whose iterator writes a map that lay ahead of the loop; no round leaves early. No program in sight. -/
import Derived.Test.YthoblbdkmlggbaaGreatDoorBase
import Derived.RangeFuncFrom
import Derived.RangeFuncBound
import Derived.RangeFuncCalls
import Derived.RangeFuncLeaves
set_option linter.unusedSimpArgs false
set_option linter.unusedVariables false
namespace Go.Proofs.YthoblbdkmlggbaaGreatDoor
open Go.RowKit
/-- the blocks of S lie as they lay -/
structure Turn (S : Nat → Prop) (A B : World) : Prop where
  os : B.os = A.os
  tape : B.tape = A.tape
  output : B.output = A.output
  size : A.heap.size ≤ B.heap.size
  block : ∀ k, S k → B.heap[k]? = A.heap[k]?
theorem Turn.refl (S : Nat → Prop) (A : World) : Turn S A A := ⟨rfl, rfl, rfl, Nat.le_refl _, fun _ _ => rfl⟩
theorem Turn.trans {S : Nat → Prop} {A B C : World} (h : Turn S A B) (k : Turn S B C) : Turn S A C :=
  ⟨k.os.trans h.os, k.tape.trans h.tape, k.output.trans h.output, Nat.le_trans h.size k.size, fun i hi => (k.block i hi).trans (h.block i hi)⟩
theorem Turn.mono {S S' : Nat → Prop} {A B : World} (h : Turn S A B) (hs : ∀ k, S' k → S k) : Turn S' A B := ⟨h.os, h.tape, h.output, h.size, fun k hk => h.block k (hs k hk)⟩
theorem Turn.of_below {B : Nat} {S : Nat → Prop} {A W : World} (h : Below B A W) (hs : ∀ k, S k → k < B) : Turn S A W := ⟨h.os, h.tape, h.output, h.size, fun k hk => h.block k (hs k hk)⟩
theorem Turn.of_grown {S : Nat → Prop} {A W : World} {row : Option Nat} (h : A.grownBy W row) (hs : ∀ k, S k → k < A.heap.size ∧ some k ≠ row) : Turn S A W := ⟨h.os, h.tape, h.output, h.size, fun k hk => h.block k (hs k hk).1 (hs k hk).2⟩
theorem Turn.put {S : Nat → Prop} (A : World) (l : Nat) (o : Obj) (hs : ∀ k, S k → k ≠ l) : Turn S A (A.putObj l o) := by
  have h := grownBy_putObj' A l o
  exact ⟨h.os, h.tape, h.output, h.size, fun k hk => World.putObj_heap_other (hs k hk)⟩
theorem wide_depth (n : Nat) : Fence.wide.depth.isSome = true → 1 ≤ n := fun h => by cases h
def allPost (N l : Nat) (E : Nat → Prop) (I : World → Prop) (W : World) : Exit → Act → World → Prop
  | .normal, _, W' => Turn (fun k => k < N ∧ ¬ E k) W W' ∧ I W'
  | _, _, _ => False
theorem range_all {α : Type} {P : Program} {n : Nat} {g : Operand} {ps : Array Tmp} {assign body : Code} {Q : Exit → Act → World → Prop} {a : Act} {w : World} {gf : Nat} {lb : Array Value}
    (hg : a.eval g = .func (.func gf) #[] lb) (eg : ∀ args w, (callFunc gf args).run P w = .ok (.enter gf args) w) {encs : α → Array Value} (hps : ∀ x, (encs x).size = ps.size)
    (xs : List α) (b : Nat) (hb : b < w.heap.size) (E : Nat → Prop) (hE : ∀ k, E k → k < w.heap.size) (I : Nat → List α → World → Prop)
    (hI1 : ∀ N pre A B, I N pre A → Turn (fun k => k < A.heap.size ∧ k ≠ b) A B → I N pre B)
    (hI2 : ∀ N pre A o, I N pre A → w.heap.size + 1 < A.heap.size → I N pre (A.putObj (w.heap.size + 1) o))
    (hI0 : ∀ W, Turn (fun k => k < w.heap.size ∧ k ≠ b) w W → w.heap.size + 2 ≤ W.heap.size → I W.heap.size [] W)
    (hseq : ∀ (J : Nat → List α → World → Prop) (W1 : World), W1.heap.size = w.heap.size + 2 → Turn (fun k => k < w.heap.size) w W1 →
      (∀ N pre A B, J N pre A → Turn (fun k => k < A.heap.size ∧ k ≠ b) A B → J N pre B) →
      (∀ W, Turn (fun k => k < W1.heap.size ∧ k ≠ b) W1 W → J W.heap.size [] W) →
      (∀ N pre x W, J N pre W → (pre ++ [x]) <+: xs → YieldAt Fence.wide n P (w.heap.size + 1) (encs x) W fun e W' => e = .returned (.bool true) ∧ J N (pre ++ [x]) W' ∧ Turn (fun k => k < N ∧ ¬ E k ∧ k ≠ w.heap.size + 1) W W') →
      CallsIn Fence.wide n P gf (#[.func (.yield (w.heap.size + 1)) #[] #[]] ++ lb) W1 fun e W' => (∃ v, e = .returned v) ∧ ∃ N, J N xs W')
    (hround : ∀ N pre x W, I N pre W → (pre ++ [x]) <+: xs → w.heap.size + 2 ≤ N → N ≤ W.heap.size → assign.wpIn (Fence.wide.inRound (w.heap.size + 1)) n P
      (Exit.then (fun a₁ W₁ => Turn (fun k => k < W.heap.size) W W₁ ∧ ∀ W2, Turn (fun k => k ≠ w.heap.size + 1) W₁ W2 → I N pre W2 → body.wpIn (Fence.wide.inRound (w.heap.size + 1)) n P (allPost N (w.heap.size + 1) E (I N (pre ++ [x])) W2) a₁ W2) (fun _ _ _ => False))
      { tmps := (ps.zip (encs x)).foldl (fun t (p, v) => t.setIfInBounds p v) a.tmps, defers := [] } W)
    (hdone : ∀ N W, I N xs W → w.heap.size + 2 ≤ W.heap.size → W.heap[w.heap.size]? = some (.deferred (some [])) → Q .normal { a with defers := { target := .collected w.heap.size, args := #[] } :: a.defers } W) :
    (Code.rangeFunc g ps assign body).wpIn Fence.wide (n + 1) P Q a w := by
  refine wpIn_rangeFunc fun fn hfn => ?_
  obtain ⟨rec, hrec⟩ : ∃ rec : LoopState → Option Code → Loop, rec = fun st pe => { state := st, pending := pe, fn, tmps := a.tmps, params := ps, assign, body, defers := w.heap.size } := ⟨_, rfl⟩
  obtain ⟨W1, hW1⟩ : ∃ W1, (w.alloc (.deferred (some []))).alloc (.loop (rec .ready none)) = W1 := ⟨_, rfl⟩
  have hL1 : W1.heap[w.heap.size + 1]? = some (.loop (rec .ready none)) := by
    rw [← hW1]
    have h := World.alloc_heap_new (w.alloc (.deferred (some []))) (.loop (rec .ready none))
    rwa [World.size_alloc] at h
  have hK1 : W1.heap[w.heap.size]? = some (.deferred (some [])) := by
    rw [← hW1]
    exact (Below.heap_alloc _ _ _ (by simp)).trans (World.alloc_heap_new w _)
  have hz1 : W1.heap.size = w.heap.size + 2 := by rw [← hW1]; simp
  have hb1 : Below w.heap.size w W1 := by
    rw [← hW1]
    exact ((Below.refl _ w).alloc (Nat.le_refl _) _).alloc (by simp) _
  have hT1 : Turn (fun k => k < w.heap.size) w W1 := Turn.of_below hb1 (fun _ h => h)
  refine ⟨w.heap.size + 1, [{ target := .collected w.heap.size, args := #[] }], W1, { target := .fn (.func gf) lb, args := #[.func (.yield (w.heap.size + 1)) #[] #[]] }, W1, gf,
    #[.func (.yield (w.heap.size + 1)) #[] #[]] ++ lb, W1, ?_, ?_, fun _ _ => trivial, ?_, wide_depth _, ?_⟩
  · rw [← hW1, hrec]
    exact run_enterLoop_outer _ _ _ _ _
  · simp only [resolve, hg]
    simp [go_sem]
  · simp [invoke, go_sem, eg]
  · have hcall := hseq (fun N pre W => I N pre W ∧ W.heap[w.heap.size + 1]? = some (.loop (rec .ready none)) ∧ W.heap[w.heap.size]? = some (.deferred (some [])) ∧ w.heap.size + 2 ≤ N ∧ N ≤ W.heap.size) W1 hz1 hT1 ?_ ?_ ?_
    · refine hcall.mono ?_
      rintro e W2 ⟨⟨v, rfl⟩, N, hi, hl, hk, hN1, hN2⟩
      refine ⟨none, _, by have h := run_endLoop (P := P) hl (by rw [hrec]; simp); rw [hrec] at h; exact h, ?_⟩
      exact hdone N _ (hI2 N xs W2 _ hi (by omega)) (Nat.le_trans (by omega : w.heap.size + 2 ≤ W2.heap.size) (grownBy_putObj' W2 _ _).size) ((World.putObj_heap_other (by omega)).trans hk)
    · rintro N pre A B ⟨hi, hl, hk, hN1, hN2⟩ ht
      exact ⟨hI1 N pre A B hi ht, (ht.block _ ⟨by omega, by omega⟩).trans hl, (ht.block _ ⟨by omega, by omega⟩).trans hk, hN1, Nat.le_trans hN2 ht.size⟩
    · intro W ht
      have h1 : Turn (fun k => k < w.heap.size ∧ k ≠ b) w W := (hT1.mono (fun k h => h.1)).trans (ht.mono (fun k h => ⟨by omega, h.2⟩))
      have h2 := ht.size
      exact ⟨hI0 W h1 (by omega), (ht.block _ ⟨by omega, by omega⟩).trans hL1, (ht.block _ ⟨by omega, by omega⟩).trans hK1, by omega, Nat.le_refl _⟩
    · rintro N pre x W ⟨hi, hl, hk, hN1, hN2⟩ hpx
      have hlt : w.heap.size + 1 < W.heap.size := by omega
      have hy := run_yield (P := P) (args := encs x) hl (by rw [hrec]; exact hps x)
      rw [hrec] at hy
      refine ⟨fn, _, assign, body, hy, roundIn_of_wpIn hfn (wpIn_mono (hround N pre x W hi hpx hN1 hN2) ?_)⟩
      rintro e a₁ W₁ hq
      cases e with
      | normal =>
        obtain ⟨ht, hbd⟩ := hq
        have hl1 : W₁.heap[w.heap.size + 1]? = some (.loop (rec .ready none)) := (ht.block _ hlt).trans hl
        have hk1 : W₁.heap[w.heap.size]? = some (.deferred (some [])) := (ht.block _ (by omega)).trans hk
        have hlt1 : w.heap.size + 1 < W₁.heap.size := Nat.lt_of_lt_of_le hlt ht.size
        have hi1 : I N pre W₁ := hI1 N pre W W₁ hi (ht.mono (fun k h => h.1))
        refine ⟨_, run_beginRound hl1 (by rw [hrec]), ?_⟩
        obtain ⟨W2, hW2⟩ : ∃ W2, W2 = W₁.putObj (w.heap.size + 1) (.loop { rec .ready none with state := .busy }) := ⟨_, rfl⟩
        rw [← hW2]
        have ht2 : Turn (fun k => k ≠ w.heap.size + 1) W₁ W2 := by rw [hW2]; exact Turn.put _ _ _ (fun _ h => h)
        have hl2 : W2.heap[w.heap.size + 1]? = some (.loop { rec .ready none with state := .busy }) := by rw [hW2]; exact World.putObj_heap_same hlt1
        have hk2 : W2.heap[w.heap.size]? = some (.deferred (some [])) := (ht2.block _ (by omega)).trans hk1
        refine wpIn_mono (hbd W2 ht2 (by rw [hW2]; exact hI2 N pre W₁ _ hi1 hlt1)) ?_
        rintro e a3 W3 hp
        cases e with
        | normal =>
          obtain ⟨ht3, hi3⟩ := hp
          have hl3 : W3.heap[w.heap.size + 1]? = _ := (ht3.block _ ⟨by omega, fun h => by have := hE _ h; omega⟩).trans hl2
          have hk3 : W3.heap[w.heap.size]? = _ := (ht3.block _ ⟨by omega, fun h => by have := hE _ h; omega⟩).trans hk2
          have hlt3 : w.heap.size + 1 < W3.heap.size := (Array.getElem?_eq_some_iff.1 hl3).1
          refine ⟨_, _, run_endRound none hl3, rfl, ⟨hI2 N _ W3 _ hi3 hlt3, ?_, ?_, hN1, ?_⟩, ?_⟩
          · rw [World.putObj_heap_same hlt3, hrec]
            rfl
          · exact (World.putObj_heap_other (by omega)).trans hk3
          · have h1 := ht3.size
            have h2 := ht2.size
            have h3 := ht.size
            exact Nat.le_trans (by omega : N ≤ W3.heap.size) (grownBy_putObj' W3 _ _).size
          · have h1 : Turn (fun k => k < N ∧ ¬ E k ∧ k ≠ w.heap.size + 1) W W₁ := ht.mono (fun k h => by omega)
            have h2 : Turn (fun k => k < N ∧ ¬ E k ∧ k ≠ w.heap.size + 1) W₁ W2 := ht2.mono (fun k h => h.2.2)
            have h3 : Turn (fun k => k < N ∧ ¬ E k ∧ k ≠ w.heap.size + 1) W2 W3 := ht3.mono (fun k h => ⟨h.1, h.2.1⟩)
            exact ((h1.trans h2).trans h3).trans (Turn.put _ _ _ (fun k h => h.2.2))
        | ret => exact hp.elim
        | exit id => exact hp.elim
        | goto t => exact hp.elim
        | panic ch => exact hp.elim
        | outgrown => exact hp.elim
      | ret => exact hq.elim
      | exit id => exact hq.elim
      | goto t => exact hq.elim
      | panic ch => exact hq.elim
      | outgrown => exact hq.elim
end Go.Proofs.YthoblbdkmlggbaaGreatDoor
