/- Names that stand for texts: a map of the call's own. -/
import Derived.Test.YtddgdfcgjjdlcaaDoorMap
import Derived.Test.YtddgdfcgjjdlcaaDoorParW6
namespace Go.Proofs.YtddgdfcgjjdlcaaDoor
open Go.RowKit
open Go.Maps (Keyed)
open Go.MapKept Go.WideElems

/-- how a 'stands' reads -/
def standR (v : Value) : Option (DataW Unit × List MemPlace) :=
  match v with
  | .agg a => match a.toList with
    | [.string s] => some (.lit (.string s.data.toList), [])
    | _ => none
  | _ => none
theorem standR_mk (t : List UInt8) : standR (.agg #[.string ⟨t.toArray⟩]) = some (.lit (.string t), []) := rfl
theorem standR_inv {v : Value} {t : List UInt8} {ps : List MemPlace} (h : standR v = some (.lit (.string t), ps)) : v = .agg #[.string ⟨t.toArray⟩] := by
  unfold standR at h
  split at h
  · rename_i a
    split at h
    · rename_i s hs
      injection h with h
      injection h with h1 h2
      injection h1 with h1
      injection h1 with h1
      subst h1
      have : a = #[.string s] := by rw [← Array.toArray_toList (xs := a), hs]
      rw [this]
    · cases h
  · cases h
def SMap (w : World) (b n : Nat) (f : List UInt8 → Option (List UInt8)) : Prop :=
  ∃ D : DataW Unit, w.ownsMap Tryd.prog 9 standR b n D ∧ ∀ s : List UInt8, Maps.has D (.string s) = (f s).isSome ∧ D.atKey (.string s) (.lit (.string [])) = .lit (.string ((f s).getD []))
theorem zero_stand (w : World) : (zeroValue 76).run Tryd.prog w = .ok (.agg #[.string ⟨#[]⟩]) w := by kernel_rfl
theorem SMap.made (w : World) : SMap (w.alloc (.map #[] 0)) w.heap.size 0 (fun _ => none) := ⟨.map [], World.ownsMap_made w _ _ _, fun _ => ⟨rfl, rfl⟩⟩
theorem SMap.lt {w : World} {b n : Nat} {f : List UInt8 → Option (List UInt8)} (h : SMap w b n f) : b < w.heap.size := let ⟨_, h, _⟩ := h; h.lt
theorem SMap.kept {w w' : World} {b n : Nat} {f : List UInt8 → Option (List UInt8)} (h : SMap w b n f) (hb : w'.heap[b]? = w.heap[b]?) : SMap w' b n f := by
  obtain ⟨D, ⟨es, clock, hb', F, hs, hD⟩, hf⟩ := h
  exact ⟨D, ⟨es, clock, hb.trans hb', F, hs, hD⟩, hf⟩
section
variable {w : World} {ops : Array Oper} {rest : List Oper} {o : Oper} {a : Act} {Q : Exit → Act → World → Prop}
theorem wpList_smap_look (hg : o.guard = none) (m x : Operand) (hop : o.op = Op.lookup 60 m x true) (b n : Nat) (f : List UInt8 → Option (List UInt8)) (hm : a.eval m = .map (some b)) (hown : SMap w b n f)
    (s : List UInt8) (hx : a.eval x = .string ⟨s.toArray⟩) (hs : s.length ≤ maxLen) (y : Option (List UInt8)) (hy : f s = y)
    (hK : wpList Tryd.prog ops Q rest (a.put o.dst (.tuple #[.agg #[.string ⟨(y.getD []).toArray⟩], .bool y.isSome])) w) :
    wpList Tryd.prog ops Q (o :: rest) a w := by
  subst hy
  obtain ⟨D, h1, h2⟩ := hown
  refine wpList_lookup_own_ok w hg m x 60 hop 9 76 skeyed Tryd.underlying60 standR (zero_stand w) (.lit (.string [])) [] rfl b n D hm h1 _ _ hx (skey s hs) ?_
  intro v ps hv
  rw [(h2 s).2] at hv
  rw [standR_inv hv, (h2 s).1]
  exact hK
theorem wpList_smap_store (hg : o.guard = none) (m x v : Operand) (hop : o.op = Op.mapUpdate 60 m x v) (b n : Nat) (f : List UInt8 → Option (List UInt8)) (hm : a.eval m = .map (some b)) (hown : SMap w b n f)
    (s t : List UInt8) (hx : a.eval x = .string ⟨s.toArray⟩) (hs : s.length ≤ maxLen) (hn : n < maxLen) (hv : a.eval v = .agg #[.string ⟨t.toArray⟩])
    (hK : ∀ w', SMap w' b (n + 1) (fun z => if z = s then some t else f z) → w.grownBy w' (some b) → wpList Tryd.prog ops Q rest (a.put o.dst undef) w') :
    wpList Tryd.prog ops Q (o :: rest) a w := by
  obtain ⟨D, h1, h2⟩ := hown
  refine wpList_mapUpdate_own w hg m x v 60 hop 9 76 skeyed Tryd.underlying60 _ b n D hm h1 hn _ _ _ hx hv (skey s hs) (.lit (.string t)) [] (standR_mk t) ?_
  intro w' h3 h4
  refine hK w' ⟨_, h3, fun z => ?_⟩ h4
  show Maps.has _ _ = (if z = s then some t else f z).isSome ∧ DataW.atKey _ _ _ = .lit (.string ((if z = s then some t else f z).getD []))
  by_cases hz : z = s
  · rw [if_pos hz, hz]
    exact ⟨Maps.has_put_same h1.isMap (skeylit s) _, Maps.atKey_put_same h1.isMap (skeylit s) _ _⟩
  · rw [if_neg hz, ← (h2 z).1, ← (h2 z).2]
    have hne : (Lit.string z) ≠ Lit.string s := by intro e; injection e with e; exact hz e
    exact ⟨Maps.has_put_other hne _, Maps.atKey_put_other hne _ _⟩
end
end Go.Proofs.YtddgdfcgjjdlcaaDoor
