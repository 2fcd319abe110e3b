/- Support: a variable that reads as plain data (numbers, strings, bools, structs, arrays) holds just the cells of these data. No program in sight. -/
import Derived.WalkKit
import Derived.OpenShut
import Derived.Lib.LaidTab
import Derived.Lib.LaidU8T
import Derived.PinnedBridge
set_option linter.unusedSimpArgs false
set_option linter.unusedVariables false
namespace Go.Proofs.YthoblbdkmlggbaaGreatDoor
open Go.RowKit Go.Lib

section
variable {P : Program}
/-- the cells of pieces at their places, one behind the other -/
def piecesCells (P : Program) (rec : TypeId → DataW Unit → Option (List Value)) : Nat → List (TypeId × Nat) → List (DataW Unit) → Option (List Value)
  | _, [], [] => some []
  | off, (t, o) :: ps, d :: ds =>
    if o = off then match rec t d with
      | some c => if c.length = P.cellsOf t then (match piecesCells P rec (off + c.length) ps ds with | some r => some (c ++ r) | none => none) else none
      | none => none
    else none
  | _, _, _ => none
/-- the cells of plain data at a type -/
def plainCells (P : Program) : Nat → TypeId → DataW Unit → Option (List Value)
  | 0, _, _ => none
  | f + 1, t, d => match P.underlying t, d with
    | some (.int _), .lit (.int k n) => some [.int k n]
    | some .string, .lit (.string bs) => some [.string ⟨bs.toArray⟩]
    | some .bool, .lit (.bool b) => some [.bool b]
    | some (.struct fs), .agg ps => (match piecesCells P (plainCells P f) 0 (fs.toList.map fun x => (x.type, x.offset)) ps with | some r => if r.length = P.cellsOf t then some r else none | none => none)
    | some (.array n e), .agg ps => (match piecesCells P (plainCells P f) 0 ((List.range n).map fun i => (e, i * P.cellsOf e)) ps with | some r => if r.length = P.cellsOf t then some r else none | none => none)
    | _, _ => none

variable {w : World} {base : Nat} {sp : Nat → Bool} {held : Bool}
theorem pieces_of (rec : TypeId → DataW Unit → Option (List Value)) {cs : List Value} {m : Nat}
    (hrec : ∀ t d c l q, rec t d = some c → DataW.trod (fun _ => ()) P w base sp held m t l = some (d, q) → l = c) :
    ∀ (ps : List (TypeId × Nat)) (xs : List (DataW Unit × List MemPlace)) (off : Nat) (cells : List Value), piecesCells P rec off ps (xs.map (·.1)) = some cells →
      (∀ (i : Nat) (t : TypeId) (o : Nat), ps[i]? = some (t, o) → DataW.trod (fun _ => ()) P w base sp held m t ((cs.drop o).take (P.cellsOf t)) = xs[i]?) → (cs.drop off).take cells.length = cells
  | [], [], off, cells, h, _ => by simp [piecesCells] at h; subst h; simp
  | [], x :: xs, off, cells, h, _ => by simp [piecesCells] at h
  | (t, o) :: ps, [], off, cells, h, _ => by simp [piecesCells] at h
  | (t, o) :: ps, x :: xs, off, cells, h, hx => by
    simp only [piecesCells, List.map_cons] at h
    split at h
    case isFalse => cases h
    rename_i ho
    subst ho
    split at h
    case h_2 => cases h
    rename_i c hc
    split at h
    case isFalse => cases h
    rename_i hl
    split at h
    case h_2 => cases h
    rename_i r hr
    simp only [Option.some.injEq] at h
    subst h
    have h0 := hx 0 t o rfl
    simp only [List.getElem?_cons_zero] at h0
    have e0 := hrec t x.1 c _ x.2 hc h0
    have e1 := pieces_of rec hrec ps xs (o + c.length) r hr (fun i t' o' hi => by have := hx (i + 1) t' o' (by simpa using hi); simpa using this)
    rw [List.length_append, List.take_add, List.drop_drop]
    congr 1
    rw [hl]; exact e0

theorem plain_of : ∀ (f : Nat) (m : Nat) (t : TypeId) (d : DataW Unit) (c l : List Value) (q : List MemPlace), plainCells P f t d = some c → DataW.trod (fun _ => ()) P w base sp held m t l = some (d, q) → l = c
  | 0, _, _, _, _, _, _, h, _ => by simp [plainCells] at h
  | f + 1, m, t, d, c, l, q, h, hd => by
    unfold plainCells at h
    split at h
    · rename_i hu
      obtain ⟨z, rfl, hz, _⟩ := DataW.trod_int hu hd
      simp only [Prod.mk.injEq, DataW.lit.injEq, Lit.int.injEq] at hz
      obtain ⟨⟨rfl, rfl⟩, _⟩ := hz
      simpa using h
    · rename_i hu
      obtain ⟨s, rfl, hz, _⟩ := DataW.trod_string hu hd
      simp only [Prod.mk.injEq, DataW.lit.injEq, Lit.string.injEq] at hz
      obtain ⟨rfl, _⟩ := hz
      simpa using h
    · rename_i hu
      obtain ⟨b, rfl, hz⟩ := DataW.trod_bool hu hd
      simp only [Prod.mk.injEq, DataW.lit.injEq, Lit.bool.injEq] at hz
      obtain ⟨rfl, _⟩ := hz
      simpa using h
    · rename_i fs ps hu
      split at h
      case h_2 => cases h
      rename_i r hr
      split at h
      case isFalse => cases h
      rename_i hl
      simp only [Option.some.injEq] at h
      subst h
      obtain ⟨xs, n, _, hx, hlen, hxl, hf⟩ := DataW.trod_struct hu hd
      simp only [Prod.mk.injEq, DataW.agg.injEq] at hx
      obtain ⟨rfl, _⟩ := hx
      have := pieces_of (plainCells P f) (cs := l) (m := n) (fun t d c l q h1 h2 => plain_of f n t d c l q h1 h2) _ xs 0 r hr (fun i t' o hi => by
        simp only [List.getElem?_map, Option.map_eq_some_iff, Prod.mk.injEq, Array.getElem?_toList] at hi
        obtain ⟨x, hx, rfl, rfl⟩ := hi
        exact hf i x hx)
      rw [List.drop_zero, List.take_of_length_le (by omega)] at this
      exact this
    · rename_i k e ps hu
      split at h
      case h_2 => cases h
      rename_i r hr
      split at h
      case isFalse => cases h
      rename_i hl
      simp only [Option.some.injEq] at h
      subst h
      obtain ⟨xs, n, _, hx, hlen, hxl, hf⟩ := DataW.trod_array hu hd
      simp only [Prod.mk.injEq, DataW.agg.injEq] at hx
      obtain ⟨rfl, _⟩ := hx
      have := pieces_of (plainCells P f) (cs := l) (m := n) (fun t d c l q h1 h2 => plain_of f n t d c l q h1 h2) _ xs 0 r hr (fun i t' o hi => by
        simp only [List.getElem?_map, Option.map_eq_some_iff, Prod.mk.injEq] at hi
        obtain ⟨x, hx, rfl, rfl⟩ := hi
        obtain ⟨hi', he⟩ := List.getElem?_eq_some_iff.1 hx
        simp only [List.getElem_range, List.length_range] at hi' he
        subst he
        exact hf _ hi')
      rw [List.drop_zero, List.take_of_length_le (by omega)] at this
      exact this
    · cases h
/-- what a variable that reads as plain data holds -/
theorem cells_of_reads {W : World} {name : String} {d : DataW Unit} {g f : Nat} {t : TypeId} {c : List Value}
    (hg : P.globalNamed name = some g) (hty : (P.globals[g]?).map (·.type) = some t) (hc : plainCells P f t d = some c) (h : VarReads P W name d) : ∃ e fr, W.heap[g]? = some (.cells c.toArray e fr) := by
  obtain ⟨g', t', cs, fuel, p, hg', ht', hvar, hd⟩ := h
  obtain rfl := Option.some.inj (hg.symm.trans hg')
  obtain rfl := Option.some.inj (hty.symm.trans ht')
  have e := plain_of f fuel _ _ _ _ _ hc hd
  unfold World.var? at hvar
  simp only [hg, Option.bind_some] at hvar
  split at hvar
  · rename_i cs' e' fr' hh
    simp only [Option.some.injEq] at hvar
    subst hvar
    exact ⟨e', fr', by rw [hh, ← e]⟩
  · cases hvar
theorem tabIs_of_reads {W : World} {name : String} {k : IntKind} {zs : List Int} {g : Nat} {t e : TypeId} {n : Nat}
    (hg : P.globalNamed name = some g) (hty : (P.globals[g]?).map (·.type) = some t) (ht : P.underlying t = some (.array n e)) (he : P.underlying e = some (.int k)) (hce : P.cellsOf e = 1) (hct : P.cellsOf t = n)
    (h : VarReads P W name (tabData k zs)) : TabIs P W name k zs := by
  obtain ⟨g', t', cs, fuel, p, hg', ht', hvar, hd⟩ := h
  obtain rfl := Option.some.inj (hg.symm.trans hg')
  obtain rfl := Option.some.inj (hty.symm.trans ht')
  unfold TabIs
  rw [hvar, ← cells_of_tab ht he hce hct hd]
end
end Go.Proofs.YthoblbdkmlggbaaGreatDoor
