/- A slice of structs as it is handed in, opened as a list. No program in sight. -/
import Derived.Test.YtibinlpbcoihoaaGreatDoorG04
import Derived.Deep.Slices
import Derived.Deep.Strs
import Derived.OpenShut
import Derived.ProofKit
set_option linter.unusedSimpArgs false
set_option linter.unusedVariables false
namespace Go.Proofs.YtibinlpbcoihoaaGreatDoor
open Go.ChangeShapes Go.WideShapes Go.RowKit
theorem addG_zero (a : Addr) : a.add 0 = a := by unfold Addr.add; rw [if_pos rfl]
theorem addG_succ (a : Addr) (i : Nat) : a.add (i + 1) = ⟨a.block, a.off + (i + 1), none⟩ := by unfold Addr.add; rw [if_neg (by omega)]
theorem addG_cell (a : Addr) (i : Nat) : a.add i = cellAddr a.block a.off a.spot i := by
  cases i with
  | zero => exact addG_zero a
  | succ i => exact addG_succ a i
section
variable {P : Program} {H : Type} {enc : TypeId × Value → H} {w : World}
theorem slice_open {α : Type} [Inhabited α] {t e : TypeId} {n k : Nat} {R : α → List Value → Prop} (ht : P.underlying t = some (.slice e)) (hc : P.cellsOf e = n) (hn : 0 < n)
    (hone : ∀ m cs y, DataW.trod enc P w 0 (fun _ => true) true m e cs = some y → ∃ x, R x cs) {c : Value} {y : DataW H × List MemPlace} (h : DataW.trod enc P w 0 (fun _ => true) true k t [c] = some y) :
    ∃ (p : Option Addr) (l : List α) (cap : Nat), c = .slice p l.length cap ∧ l.length ≤ maxLen ∧ OSl n R w p l := by
  rcases Go.Deep.open_slice ht h with ⟨hcs, _⟩ | ⟨a, len, cap, m, k', D, Pl, hcs, _, hl, hm, hmm, _, hi⟩
  · simp at hcs
    subst hcs
    exact ⟨none, [], 0, rfl, Nat.zero_le _, OSl.nil _ _ _ _⟩
  · simp at hcs hmm
    subst hcs
    have each : ∀ i, ∃ x : α, i < len → ∃ (b o : Nat) (sp : Option Nat) (vs : List Value), a.add (i * n) = ⟨b, o, sp⟩ ∧ b < w.heap.size ∧ R x vs ∧ ∀ j u, vs[j]? = some u → w.cell? (cellAddr b o sp j) = some u := by
      intro i
      by_cases hil : i < len
      · obtain ⟨cs', h1, h2⟩ := hi i (by omega)
        rw [hc] at h1
        obtain ⟨x, hx⟩ := hone _ _ _ h2
        obtain ⟨_, hlen, hat⟩ := World.cells?_some h1
        refine ⟨x, fun _ => ⟨_, _, _, cs', rfl, ?_, hx, fun j u hj => ?_⟩⟩
        · have hj0 : 0 < n := hn
          have := hat 0 (by omega)
          rw [addG_zero] at this
          obtain ⟨v, hv⟩ : ∃ v, cs'[0]? = some v := ⟨_, List.getElem?_eq_getElem (by omega)⟩
          exact World.block_lt_of_cell? w _ (this.trans hv)
        · have hj2 := (List.getElem?_eq_some_iff.1 hj).1
          have := hat j (by omega)
          rw [addG_cell] at this
          exact this.trans hj
      · exact ⟨default, fun h => absurd h hil⟩
    refine ⟨some a, (List.range len).map fun i => Classical.choose (each i), cap, by simp, by simp; omega, fun j f hj => ?_⟩
    rw [List.getElem?_map] at hj
    obtain ⟨i, hr, rfl⟩ := Option.map_eq_some_iff.1 hj
    obtain ⟨h1, h2⟩ : j < len ∧ j = i := by
      have hlt := (List.getElem?_eq_some_iff.1 hr).1
      simp at hlt
      rw [List.getElem?_range hlt] at hr
      exact ⟨hlt, by simpa using hr⟩
    subst h2
    obtain ⟨b, o, sp, vs, e1, e2, e3, e4⟩ := Classical.choose_spec (each j) h1
    exact ⟨a, b, o, sp, vs, rfl, e1, e2, e3, e4⟩
theorem trod_struct4 {t : TypeId} {f0 f1 f2 f3 : Go.Field} {fuel : Nat} {cs : List Value} {x : DataW H × List MemPlace} {base : Nat} {spare : Nat → Bool} {held : Bool} (ht : P.underlying t = some (.struct #[f0, f1, f2, f3])) (h : DataW.trod enc P w base spare held fuel t cs = some x) :
    ∃ y0 y1 y2 y3 n, cs.length = P.cellsOf t ∧ DataW.trod enc P w base spare held n f0.type ((cs.drop f0.offset).take (P.cellsOf f0.type)) = some y0 ∧
      DataW.trod enc P w base spare held n f1.type ((cs.drop f1.offset).take (P.cellsOf f1.type)) = some y1 ∧ DataW.trod enc P w base spare held n f2.type ((cs.drop f2.offset).take (P.cellsOf f2.type)) = some y2 ∧
      DataW.trod enc P w base spare held n f3.type ((cs.drop f3.offset).take (P.cellsOf f3.type)) = some y3 := by
  obtain ⟨xs, n, _, rfl, hl, hlen, hf⟩ := DataW.trod_struct ht h
  match xs, hlen with
  | [y0, y1, y2, y3], _ => exact ⟨y0, y1, y2, y3, n, hl, by simpa using hf 0 f0 rfl, by simpa using hf 1 f1 rfl, by simpa using hf 2 f2 rfl, by simpa using hf 3 f3 rfl⟩
end
end Go.Proofs.YtibinlpbcoihoaaGreatDoor
