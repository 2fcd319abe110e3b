/- Two, or three, operations of a region that come up in whatever order: what follows is walked once. No program in sight. -/
import Derived.Deep.RegionHeld
set_option linter.unusedSimpArgs false
set_option linter.unusedVariables false
namespace Go.Proofs.YtibinlpbcoihoaaGreatDoor
open Go
section
variable {P : Program} {md : Region.Mode} {ops : Array Oper} {Q : Exit → Act → World → Prop} {S : World → Prop}
/-- an operation's step -/
abbrev opStep (P : Program) (ops : Array Oper) (Q : Exit → Act → World → Prop) (o : Oper) (a : Act) (w : World) (K : Act → World → Prop) : Prop :=
  if Region.wanted o (yielded ops a.tmps) = true then Oper.wp P o a w K Q else K (a.put o.dst undef) w
theorem wpAnyH_two {i j : Nat} {oi oj : Oper} {fuel : Nat} {listed L2 : Array Bool} {a : Act} {w : World} (hi : ops[i]? = some oi) (hj : ops[j]? = some oj)
    (hr : Region.ready md ops listed = [i, j]) (hri : Region.ready md ops (listed.setIfInBounds i true) = [j]) (hrj : Region.ready md ops (listed.setIfInBounds j true) = [i])
    (hL : (listed.setIfInBounds i true).setIfInBounds j true = L2) (hL' : (listed.setIfInBounds j true).setIfInBounds i true = L2) (Φ : Value → Value → World → Prop)
    (hij : ∀ K' : Act → World → Prop, Shut (∀ a1 w1, S w1 → (S w1 → ∀ K'' : Act → World → Prop, Shut (∀ a2 w2, S w2 → (∃ v u, a2 = (a.put oi.dst v).put oj.dst u ∧ Φ v u w2) → K'' a2 w2) → opStep P ops Q oj a1 w1 K'') → K' a1 w1) → opStep P ops Q oi a w K')
    (hji : ∀ K' : Act → World → Prop, Shut (∀ a1 w1, S w1 → (S w1 → ∀ K'' : Act → World → Prop, Shut (∀ a2 w2, S w2 → (∃ v u, a2 = (a.put oi.dst v).put oj.dst u ∧ Φ v u w2) → K'' a2 w2) → opStep P ops Q oi a1 w1 K'') → K' a1 w1) → opStep P ops Q oj a w K')
    (h : ∀ v u w2, S w2 → Φ v u w2 → wpAnyH P md ops Q S fuel L2 ((a.put oi.dst v).put oj.dst u) w2) : wpAnyH P md ops Q S (fuel + 1 + 1) listed a w := by
  refine wpAnyH_all hr (by simp) (fun x hx => ?_)
  rcases List.mem_cons.1 hx with rfl | hx
  · refine wpOp_step hi (fun K' hK => hij K' (fun a1 w1 hS hN => hK a1 w1 ⟨hS, wpAnyH_all hri (by simp) (fun y hy => ?_)⟩))
    rw [List.mem_singleton] at hy
    subst hy
    refine wpOp_step hj (fun K'' hK2 => hN hS K'' (fun a2 w2 hS2 hF => hK2 a2 w2 ⟨hS2, ?_⟩))
    obtain ⟨v, u, rfl, hF⟩ := hF
    rw [hL]
    exact h v u w2 hS2 hF
  · rw [List.mem_singleton] at hx
    subst hx
    refine wpOp_step hj (fun K' hK => hji K' (fun a1 w1 hS hN => hK a1 w1 ⟨hS, wpAnyH_all hrj (by simp) (fun y hy => ?_)⟩))
    rw [List.mem_singleton] at hy
    subst hy
    refine wpOp_step hi (fun K'' hK2 => hN hS K'' (fun a2 w2 hS2 hF => hK2 a2 w2 ⟨hS2, ?_⟩))
    obtain ⟨v, u, rfl, hF⟩ := hF
    rw [hL']
    exact h v u w2 hS2 hF
/-- i, then k behind it; j at any time -/
theorem wpAnyH_three {i k j : Nat} {oi ok oj : Oper} {fuel : Nat} {listed L3 : Array Bool} {a : Act} {w : World} (hi : ops[i]? = some oi) (hk : ops[k]? = some ok) (hj : ops[j]? = some oj)
    (hr : Region.ready md ops listed = [i, j]) (hri : Region.ready md ops (listed.setIfInBounds i true) = [k, j]) (hrj : Region.ready md ops (listed.setIfInBounds j true) = [i])
    (hrik : Region.ready md ops ((listed.setIfInBounds i true).setIfInBounds k true) = [j]) (hrij : Region.ready md ops ((listed.setIfInBounds i true).setIfInBounds j true) = [k]) (hrji : Region.ready md ops ((listed.setIfInBounds j true).setIfInBounds i true) = [k])
    (hL : ((listed.setIfInBounds i true).setIfInBounds k true).setIfInBounds j true = L3) (hL' : ((listed.setIfInBounds i true).setIfInBounds j true).setIfInBounds k true = L3) (hL'' : ((listed.setIfInBounds j true).setIfInBounds i true).setIfInBounds k true = L3) (Φ : Value → Value → Value → World → Prop)
    (hikj : ∀ K' : Act → World → Prop, Shut (∀ a1 w1, S w1 → (S w1 → ∀ K'' : Act → World → Prop, Shut (∀ a2 w2, S w2 → (S w2 → ∀ K3 : Act → World → Prop, Shut (∀ a3 w3, S w3 → (∃ v t u, a3 = ((a.put oi.dst v).put ok.dst t).put oj.dst u ∧ Φ v t u w3) → K3 a3 w3) → opStep P ops Q oj a2 w2 K3) → K'' a2 w2) → opStep P ops Q ok a1 w1 K'') → (S w1 → ∀ K'' : Act → World → Prop, Shut (∀ a2 w2, S w2 → (S w2 → ∀ K3 : Act → World → Prop, Shut (∀ a3 w3, S w3 → (∃ v t u, a3 = ((a.put oi.dst v).put ok.dst t).put oj.dst u ∧ Φ v t u w3) → K3 a3 w3) → opStep P ops Q ok a2 w2 K3) → K'' a2 w2) → opStep P ops Q oj a1 w1 K'') → K' a1 w1) → opStep P ops Q oi a w K')
    (hjik : ∀ K' : Act → World → Prop, Shut (∀ a1 w1, S w1 → (S w1 → ∀ K'' : Act → World → Prop, Shut (∀ a2 w2, S w2 → (S w2 → ∀ K3 : Act → World → Prop, Shut (∀ a3 w3, S w3 → (∃ v t u, a3 = ((a.put oi.dst v).put ok.dst t).put oj.dst u ∧ Φ v t u w3) → K3 a3 w3) → opStep P ops Q ok a2 w2 K3) → K'' a2 w2) → opStep P ops Q oi a1 w1 K'') → K' a1 w1) → opStep P ops Q oj a w K')
    (h : ∀ v t u w3, S w3 → Φ v t u w3 → wpAnyH P md ops Q S fuel L3 (((a.put oi.dst v).put ok.dst t).put oj.dst u) w3) : wpAnyH P md ops Q S (fuel + 1 + 1 + 1) listed a w := by
  refine wpAnyH_all hr (by simp) (fun x hx => ?_)
  rcases List.mem_cons.1 hx with rfl | hx
  · refine wpOp_step hi (fun K' hK => hikj K' (fun a1 w1 hS hN1 hN2 => hK a1 w1 ⟨hS, wpAnyH_all hri (by simp) (fun y hy => ?_)⟩))
    rcases List.mem_cons.1 hy with rfl | hy
    · refine wpOp_step hk (fun K'' hK2 => hN1 hS K'' (fun a2 w2 hS2 hN3 => hK2 a2 w2 ⟨hS2, wpAnyH_all hrik (by simp) (fun z hz => ?_)⟩))
      rw [List.mem_singleton] at hz
      subst hz
      refine wpOp_step hj (fun K3 hK3 => hN3 hS2 K3 (fun a3 w3 hS3 hF => hK3 a3 w3 ⟨hS3, ?_⟩))
      obtain ⟨v, t, u, rfl, hF⟩ := hF
      rw [hL]
      exact h v t u w3 hS3 hF
    · rw [List.mem_singleton] at hy
      subst hy
      refine wpOp_step hj (fun K'' hK2 => hN2 hS K'' (fun a2 w2 hS2 hN3 => hK2 a2 w2 ⟨hS2, wpAnyH_all hrij (by simp) (fun z hz => ?_)⟩))
      rw [List.mem_singleton] at hz
      subst hz
      refine wpOp_step hk (fun K3 hK3 => hN3 hS2 K3 (fun a3 w3 hS3 hF => hK3 a3 w3 ⟨hS3, ?_⟩))
      obtain ⟨v, t, u, rfl, hF⟩ := hF
      rw [hL']
      exact h v t u w3 hS3 hF
  · rw [List.mem_singleton] at hx
    subst hx
    refine wpOp_step hj (fun K' hK => hjik K' (fun a1 w1 hS hN => hK a1 w1 ⟨hS, wpAnyH_all hrj (by simp) (fun y hy => ?_)⟩))
    rw [List.mem_singleton] at hy
    subst hy
    refine wpOp_step hi (fun K'' hK2 => hN hS K'' (fun a2 w2 hS2 hN3 => hK2 a2 w2 ⟨hS2, wpAnyH_all hrji (by simp) (fun z hz => ?_)⟩))
    rw [List.mem_singleton] at hz
    subst hz
    refine wpOp_step hk (fun K3 hK3 => hN3 hS2 K3 (fun a3 w3 hS3 hF => hK3 a3 w3 ⟨hS3, ?_⟩))
    obtain ⟨v, t, u, rfl, hF⟩ := hF
    rw [hL'']
    exact h v t u w3 hS3 hF
end
end Go.Proofs.YtibinlpbcoihoaaGreatDoor
