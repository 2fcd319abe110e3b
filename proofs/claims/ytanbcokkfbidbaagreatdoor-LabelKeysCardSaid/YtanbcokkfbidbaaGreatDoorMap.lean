/- Maps from texts, as functions: the call's own. -/
import Derived.Test.YtanbcokkfbidbaaGreatDoorEntR
import Derived.Maps.OwnSet
import Derived.Maps.OwnOps
namespace Go.Proofs.YtanbcokkfbidbaaGreatDoor
open Go.RowKit
open Go.Maps (Keyed)
open Go.MapKept Go.WideElems

/-- block b is a map from texts to numbers, of at most n entries; it reads as f -/
def IMap (w : World) (b n : Nat) (f : List UInt8 → Int) : Prop :=
  ∃ D : DataW Unit, w.ownsMap Tryz.prog 9 (plainElem Tryz.prog 3) b n D ∧ ∀ s : List UInt8, D.atKey (.string s) (.lit (.int .i64 0)) = .lit (.int .i64 (f s))
theorem skeyed : Keyed Tryz.prog 9 := Maps.string_keyed Tryz.underlying9
theorem skey (s : List UInt8) (hs : s.length ≤ maxLen) : keyOf Tryz.prog 9 (.string ⟨s.toArray⟩) = some (.string s) := by
  have := WideMaps.keyOf_string_mk (P := Tryz.prog) Tryz.underlying9 (s := ⟨s.toArray⟩) (by simpa [ByteArray.size] using hs)
  simpa using this
theorem skeylit (s : List UInt8) : WideAt.IsKeyLit (.string s) := by
  first | exact trivial | simp [Go.WideAt.IsKeyLit]
theorem zero_int (w : World) : (zeroValue 3).run Tryz.prog w = .ok (.int .i64 0) w := by kernel_rfl
theorem IMap.made (w : World) : IMap (w.alloc (.map #[] 0)) w.heap.size 0 (fun _ => 0) := ⟨.map [], World.ownsMap_made w _ _ _, fun _ => rfl⟩
theorem IMap.lt {w : World} {b n : Nat} {f : List UInt8 → Int} (h : IMap w b n f) : b < w.heap.size := let ⟨_, h, _⟩ := h; h.lt
theorem IMap.kept {w w' : World} {b n : Nat} {f : List UInt8 → Int} (h : IMap w b n f) (hb : w'.heap[b]? = w.heap[b]?) : IMap w' b n f := by
  obtain ⟨D, ⟨es, clock, hb', F, hs, hD⟩, hf⟩ := h
  exact ⟨D, ⟨es, clock, hb.trans hb', F, hs, hD⟩, hf⟩
theorem IMap.below {w w' : World} {b n : Nat} {f : List UInt8 → Int} (h : IMap w b n f) (hb : Below w.heap.size w w') : IMap w' b n f := h.kept (hb.block b h.lt)
theorem IMap.mono {w : World} {b n n' : Nat} {f : List UInt8 → Int} (h : IMap w b n f) (hn : n ≤ n') : IMap w b n' f := let ⟨D, h1, h2⟩ := h; ⟨D, h1.mono hn, h2⟩

section
variable {w : World} {ops : Array Oper} {rest : List Oper} {o : Oper} {a : Act} {Q : Exit → Act → World → Prop}
theorem wpList_imap_look (hg : o.guard = none) (m x : Operand) (hop : o.op = Op.lookup 72 m x false) (b n : Nat) (f : List UInt8 → Int) (hm : a.eval m = .map (some b)) (hown : IMap w b n f)
    (s : List UInt8) (hx : a.eval x = .string ⟨s.toArray⟩) (hs : s.length ≤ maxLen) (hK : wpList Tryz.prog ops Q rest (a.put o.dst (.int .i64 (f s))) w) :
    wpList Tryz.prog ops Q (o :: rest) a w := by
  obtain ⟨D, h1, h2⟩ := hown
  refine wpList_lookup_own_int w hg m x 72 hop 9 3 .i64 skeyed Tryz.underlying72 Tryz.underlying3 (zero_int w) b n D hm h1 _ _ hx (skey s hs) ?_
  intro c hat _
  rw [h2 s] at hat
  injection hat with hat
  injection hat with _ hat
  rw [← hat]
  exact hK
theorem wpList_imap_store (hg : o.guard = none) (m x v : Operand) (hop : o.op = Op.mapUpdate 72 m x v) (b n : Nat) (f : List UInt8 → Int) (hm : a.eval m = .map (some b)) (hown : IMap w b n f)
    (s : List UInt8) (hx : a.eval x = .string ⟨s.toArray⟩) (hs : s.length ≤ maxLen) (hn : n < maxLen) (c : Int) (hv : a.eval v = .int .i64 c) (hc : -9223372036854775808 ≤ c ∧ c ≤ 9223372036854775807)
    (hK : ∀ w', IMap w' b (n + 1) (fun t => if t = s then c else f t) → w.grownBy w' (some b) → wpList Tryz.prog ops Q rest (a.put o.dst undef) w') :
    wpList Tryz.prog ops Q (o :: rest) a w := by
  obtain ⟨D, h1, h2⟩ := hown
  have hwf : (Lit.int IntKind.i64 c).wf = true := by
    have h1 : IntKind.i64.min = -9223372036854775808 := by decide
    have h2 : IntKind.i64.max = 9223372036854775807 := by decide
    show (decide (IntKind.i64.min ≤ c) && decide (c ≤ IntKind.i64.max)) = true
    rw [h1, h2]
    simp [hc.1, hc.2]
  refine wpList_mapUpdate_own w hg m x v 72 hop 9 3 skeyed Tryz.underlying72 _ b n D hm h1 hn _ _ _ hx hv (skey s hs) (.lit (.int .i64 c)) [] (plainElem_int Tryz.underlying3 hwf) ?_
  intro w' h3 h4
  refine hK w' ⟨_, h3, fun t => ?_⟩ h4
  show DataW.atKey _ _ _ = .lit (.int .i64 (if t = s then c else f t))
  by_cases ht : t = s
  · rw [if_pos ht, ht]
    exact Maps.atKey_put_same (h1.isMap) (skeylit s) _ _
  · rw [if_neg ht, ← h2 t]
    exact Maps.atKey_put_other (by intro e; injection e with e; exact ht e) _ _
end
end Go.Proofs.YtanbcokkfbidbaaGreatDoor
