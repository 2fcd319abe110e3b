/- Support: a variable that reads as plain data (numbers, strings, bools, structs, arrays) holds just the cells of these data. No program in sight. What the rows' lists give: the variables hold what counters' texts lean on. A parameter of type []entry.Entry, opened as a list of entries. -/
import Derived.WalkKit
import Derived.OpenShut
import Derived.Lib.LaidTab
import Derived.Lib.LaidU8T
import Derived.PinnedBridge
import Derived.Test.YtanbcokkfbidbaaGreatDoorRows
import Derived.Test.YtanbcokkfbidbaaGreatDoorCA
import Derived.Handed
import Derived.SizedLaws
import Derived.ChangeOld
import Derived.Test.YtanbcokkfbidbaaGreatDoorCutW
import Derived.Deep.Slices
import Derived.Deep.Strs
import Derived.ProofKit
set_option linter.unusedSimpArgs false
set_option linter.unusedVariables false
namespace Go.Proofs.YtanbcokkfbidbaaGreatDoor
section
open Go.RowKit Go.Lib

section
variable {P : Program}
/-- the cells of pieces at their places, one behind the other -/
def piecesCells (P : Program) (rec : TypeId → DataW Unit → Option (List Value)) : Nat → List (TypeId × Nat) → List (DataW Unit) → Option (List Value)
  | _, [], [] => some []
  | off, (t, o) :: ps, d :: ds =>
    if o = off then match rec t d with
      | some c => if c.length = P.cellsOf t then (match piecesCells P rec (off + c.length) ps ds with | some r => some (c ++ r) | none => none) else none
      | none => none
    else none
  | _, _, _ => none
/-- the cells of plain data at a type -/
def plainCells (P : Program) : Nat → TypeId → DataW Unit → Option (List Value)
  | 0, _, _ => none
  | f + 1, t, d => match P.underlying t, d with
    | some (.int _), .lit (.int k n) => some [.int k n]
    | some .string, .lit (.string bs) => some [.string ⟨bs.toArray⟩]
    | some .bool, .lit (.bool b) => some [.bool b]
    | some (.struct fs), .agg ps => (match piecesCells P (plainCells P f) 0 (fs.toList.map fun x => (x.type, x.offset)) ps with | some r => if r.length = P.cellsOf t then some r else none | none => none)
    | some (.array n e), .agg ps => (match piecesCells P (plainCells P f) 0 ((List.range n).map fun i => (e, i * P.cellsOf e)) ps with | some r => if r.length = P.cellsOf t then some r else none | none => none)
    | _, _ => none

variable {w : World} {base : Nat} {sp : Nat → Bool} {held : Bool}
theorem pieces_of (rec : TypeId → DataW Unit → Option (List Value)) {cs : List Value} {m : Nat}
    (hrec : ∀ t d c l q, rec t d = some c → DataW.trod (fun _ => ()) P w base sp held m t l = some (d, q) → l = c) :
    ∀ (ps : List (TypeId × Nat)) (xs : List (DataW Unit × List MemPlace)) (off : Nat) (cells : List Value), piecesCells P rec off ps (xs.map (·.1)) = some cells →
      (∀ (i : Nat) (t : TypeId) (o : Nat), ps[i]? = some (t, o) → DataW.trod (fun _ => ()) P w base sp held m t ((cs.drop o).take (P.cellsOf t)) = xs[i]?) → (cs.drop off).take cells.length = cells
  | [], [], off, cells, h, _ => by simp [piecesCells] at h; subst h; simp
  | [], x :: xs, off, cells, h, _ => by simp [piecesCells] at h
  | (t, o) :: ps, [], off, cells, h, _ => by simp [piecesCells] at h
  | (t, o) :: ps, x :: xs, off, cells, h, hx => by
    simp only [piecesCells, List.map_cons] at h
    split at h
    case isFalse => cases h
    rename_i ho
    subst ho
    split at h
    case h_2 => cases h
    rename_i c hc
    split at h
    case isFalse => cases h
    rename_i hl
    split at h
    case h_2 => cases h
    rename_i r hr
    simp only [Option.some.injEq] at h
    subst h
    have h0 := hx 0 t o rfl
    simp only [List.getElem?_cons_zero] at h0
    have e0 := hrec t x.1 c _ x.2 hc h0
    have e1 := pieces_of rec hrec ps xs (o + c.length) r hr (fun i t' o' hi => by have := hx (i + 1) t' o' (by simpa using hi); simpa using this)
    rw [List.length_append, List.take_add, List.drop_drop]
    congr 1
    rw [hl]; exact e0

theorem plain_of : ∀ (f : Nat) (m : Nat) (t : TypeId) (d : DataW Unit) (c l : List Value) (q : List MemPlace), plainCells P f t d = some c → DataW.trod (fun _ => ()) P w base sp held m t l = some (d, q) → l = c
  | 0, _, _, _, _, _, _, h, _ => by simp [plainCells] at h
  | f + 1, m, t, d, c, l, q, h, hd => by
    unfold plainCells at h
    split at h
    · rename_i hu
      obtain ⟨z, rfl, hz, _⟩ := DataW.trod_int hu hd
      simp only [Prod.mk.injEq, DataW.lit.injEq, Lit.int.injEq] at hz
      obtain ⟨⟨rfl, rfl⟩, _⟩ := hz
      simpa using h
    · rename_i hu
      obtain ⟨s, rfl, hz, _⟩ := DataW.trod_string hu hd
      simp only [Prod.mk.injEq, DataW.lit.injEq, Lit.string.injEq] at hz
      obtain ⟨rfl, _⟩ := hz
      simpa using h
    · rename_i hu
      obtain ⟨b, rfl, hz⟩ := DataW.trod_bool hu hd
      simp only [Prod.mk.injEq, DataW.lit.injEq, Lit.bool.injEq] at hz
      obtain ⟨rfl, _⟩ := hz
      simpa using h
    · rename_i fs ps hu
      split at h
      case h_2 => cases h
      rename_i r hr
      split at h
      case isFalse => cases h
      rename_i hl
      simp only [Option.some.injEq] at h
      subst h
      obtain ⟨xs, n, _, hx, hlen, hxl, hf⟩ := DataW.trod_struct hu hd
      simp only [Prod.mk.injEq, DataW.agg.injEq] at hx
      obtain ⟨rfl, _⟩ := hx
      have := pieces_of (plainCells P f) (cs := l) (m := n) (fun t d c l q h1 h2 => plain_of f n t d c l q h1 h2) _ xs 0 r hr (fun i t' o hi => by
        simp only [List.getElem?_map, Option.map_eq_some_iff, Prod.mk.injEq, Array.getElem?_toList] at hi
        obtain ⟨x, hx, rfl, rfl⟩ := hi
        exact hf i x hx)
      rw [List.drop_zero, List.take_of_length_le (by omega)] at this
      exact this
    · rename_i k e ps hu
      split at h
      case h_2 => cases h
      rename_i r hr
      split at h
      case isFalse => cases h
      rename_i hl
      simp only [Option.some.injEq] at h
      subst h
      obtain ⟨xs, n, _, hx, hlen, hxl, hf⟩ := DataW.trod_array hu hd
      simp only [Prod.mk.injEq, DataW.agg.injEq] at hx
      obtain ⟨rfl, _⟩ := hx
      have := pieces_of (plainCells P f) (cs := l) (m := n) (fun t d c l q h1 h2 => plain_of f n t d c l q h1 h2) _ xs 0 r hr (fun i t' o hi => by
        simp only [List.getElem?_map, Option.map_eq_some_iff, Prod.mk.injEq] at hi
        obtain ⟨x, hx, rfl, rfl⟩ := hi
        obtain ⟨hi', he⟩ := List.getElem?_eq_some_iff.1 hx
        simp only [List.getElem_range, List.length_range] at hi' he
        subst he
        exact hf _ hi')
      rw [List.drop_zero, List.take_of_length_le (by omega)] at this
      exact this
    · cases h
/-- what a variable that reads as plain data holds -/
theorem cells_of_reads {W : World} {name : String} {d : DataW Unit} {g f : Nat} {t : TypeId} {c : List Value}
    (hg : P.globalNamed name = some g) (hty : (P.globals[g]?).map (·.type) = some t) (hc : plainCells P f t d = some c) (h : VarReads P W name d) : ∃ e fr, W.heap[g]? = some (.cells c.toArray e fr) := by
  obtain ⟨g', t', cs, fuel, p, hg', ht', hvar, hd⟩ := h
  obtain rfl := Option.some.inj (hg.symm.trans hg')
  obtain rfl := Option.some.inj (hty.symm.trans ht')
  have e := plain_of f fuel _ _ _ _ _ hc hd
  unfold World.var? at hvar
  simp only [hg, Option.bind_some] at hvar
  split at hvar
  · rename_i cs' e' fr' hh
    simp only [Option.some.injEq] at hvar
    subst hvar
    exact ⟨e', fr', by rw [hh, ← e]⟩
  · cases hvar
theorem tabIs_of_reads {W : World} {name : String} {k : IntKind} {zs : List Int} {g : Nat} {t e : TypeId} {n : Nat}
    (hg : P.globalNamed name = some g) (hty : (P.globals[g]?).map (·.type) = some t) (ht : P.underlying t = some (.array n e)) (he : P.underlying e = some (.int k)) (hce : P.cellsOf e = 1) (hct : P.cellsOf t = n)
    (h : VarReads P W name (tabData k zs)) : TabIs P W name k zs := by
  obtain ⟨g', t', cs, fuel, p, hg', ht', hvar, hd⟩ := h
  obtain rfl := Option.some.inj (hg.symm.trans hg')
  obtain rfl := Option.some.inj (hty.symm.trans ht')
  unfold TabIs
  rw [hvar, ← cells_of_tab ht he hce hct hd]
end
end
section
open Go.RowKit Go.Lib

theorem u8x : U8Extra Tryz.prog Tryz.lays260_ren := ⟨by kernel_rfl, by kernel_rfl, by kernel_rfl, by kernel_rfl, by kernel_rfl, by kernel_rfl, by kernel_rfl⟩
theorem casex : CaseExtra Tryz.prog Tryz.lays158_ren := ⟨by kernel_rfl, by kernel_rfl, by kernel_rfl, by kernel_rfl, by kernel_rfl, by kernel_rfl⟩
theorem accept_eq : (Rows.laid_unicode_utf8_acceptRanges : DataW Unit) = acceptData := by kernel_rfl
theorem pow_eq : (Rows.laid_internal_strconv_uint64pow10 : DataW Unit) = tabData .u64 pow10Tab := by kernel_rfl
theorem num_cells : plainCells Tryz.prog 8 130 Rows.laid_stet_count_numerals = some numCells.toList := by kernel_rfl

theorem laid01_of {W : World} (hp : VarReads Tryz.prog W "internal/strconv.uint64pow10" Rows.laid_internal_strconv_uint64pow10) (ha : VarReads Tryz.prog W "unicode/utf8.acceptRanges" Rows.laid_unicode_utf8_acceptRanges)
    (hn : VarReads Tryz.prog W "stet/count.numerals" Rows.laid_stet_count_numerals) (hc : VarReads Tryz.prog W "unicode.CaseRanges" Rows.laid_unicode_CaseRanges) (hu : VarReads Tryz.prog W "unicode/utf8.first" Rows.laid_unicode_utf8_first) : Laid01 W where
  num := cells_of_reads (g := 1) (t := 130) (f := 8) (by kernel_rfl) (by kernel_rfl) num_cells hn
  pow := tabIs_of_reads (g := 5) (by kernel_rfl) (by kernel_rfl) Tryz.underlying182 Tryz.underlying160 (by kernel_rfl) (by kernel_rfl) (pow_eq ▸ hp)
  cas := caseVar_of_reads { Tryz.lays158 with } Tryz.underlying189 casex (by unfold Rows.laid_unicode_CaseRanges at hc; rw [Pinned.caseRanges_eq] at hc; exact hc)
  utf := utf8Tabs_of_readsT (U8Types.of260 Tryz.lays260) u8x (by unfold Rows.laid_unicode_utf8_first at hu; rw [Pinned.utf8First_eq] at hu; exact hu) (accept_eq ▸ ha)
theorem maxlen_some {W : World} (h : W.ShapedOpen Tryz.prog) : ∃ m, W.cell? ⟨0, 0, none⟩ = some (.int .i64 m) := cell_of_shapedOpen_int (zero := #[.int .i64 0]) (t := 3) h (of_decide_eq_true (by kernel_rfl)) (by kernel_rfl) rfl (by kernel_rfl) (by kernel_rfl) Tryz.underlying3
theorem heap_pos {W : World} (h : W.ShapedOpen Tryz.prog) : 0 < W.heap.size := by
  obtain ⟨m, hm⟩ := maxlen_some h
  exact World.block_lt_of_cell? W _ hm
section
variable {H : Type} {enc : TypeId × Value → H}
/-- a fact of the heap ahead, and the world's shape too, for the contract -/
theorem handed_and_shaped {a : Assume} {C : Checked} {os : Os} {f : FuncId} {fn : Func} {s : ChangeSpec} {conds : List PathCond} {apart fresh handsOn again : Bool} {X : World → Array Value → Prop}
    (hX : ∀ (w w' : World) (args : Array Value), w.heap = w'.heap → X w args → X w' args)
    (own : ownKnob C.prog.godebug = none) (started : os.Started) (noInit : C.prog.inits.idxOf? f = none) (hfn : C.prog.funcs[f]? = some fn)
    (witness : ∃ (w : World) (tape : Tape) (i : Input), w.os = os ∧ (w.forCall tape i).Shaped C.prog ∧ i.vars = [] ∧ Input.okWide C.prog (w.forCall tape i) .any w.heap.size f i ∧
      ((s.pre enc C.prog fn conds apart (w.forCall tape i).memory i.args ∧ X (w.forCall tape i).memory i.args) ∧ sizedMet enc C.prog fn (OpenSpec.ofChange s) apart (w.forCall tape i).memory i.args) ∧ a.holds C.prog (lone (Frame.enter C.prog f i.args .normal) [] (w.forCall tape i)))
    (contract : ∀ (W : World) (base : Nat) (args : Array Value) (ds gs : List (DataW H)) (before : List MemPlace),
      (∀ (j : Nat) t v, fn.params[j]? = some t → args[j]? = some v → Value.okWide C.prog W .any base t v) →
      DataW.Whole enc C.prog fn.params.toList s.vars apart W args.toList ds gs before →
      X W args → W.ShapedOpen C.prog →
      Calls C.prog f args W fun e W' => ∃ v, e = .returned v ∧ s.post enc C.prog fn apart fresh handsOn again W args v W') :
    ReturnsInHanded a C os f .any (fun w args => (s.pre enc C.prog fn conds apart w args ∧ X w args) ∧ sizedMet enc C.prog fn (OpenSpec.ofChange s) apart w args) (s.post enc C.prog fn apart fresh handsOn again) := by
  refine returnsInHanded_of_calls own started noInit witness ?_
  intro w tape i _ hsh _ hok hpre _
  obtain ⟨_, _, _, fn', hfn', _, _, _, _, hval⟩ := hok
  obtain rfl : fn' = fn := Option.some.inj (hfn'.symm.trans hfn)
  obtain ⟨⟨⟨ds, gs, before, hw, _⟩, hx⟩, _⟩ := hpre
  refine (contract (w.forCall tape i) w.heap.size i.args ds gs before hval (DataW.Whole.of_heap (w' := w.forCall tape i) (by rfl) hw) (hX _ _ _ (by rfl) hx) hsh).mono fun e W' ⟨v, he, hp⟩ => ?_
  subst he
  exact ChangeSpec.post_blind hp
end
end
section
set_option maxRecDepth 100000
open Go.ChangeShapes Go.WideShapes Go.RowKit
section
variable {H : Type} {enc : TypeId × Value → H} {w : World} {n : Nat}
theorem add_zero (a : Addr) : a.add 0 = a := by unfold Addr.add; rw [if_pos rfl]
theorem add_succ (a : Addr) (i : Nat) : a.add (i + 1) = ⟨a.block, a.off + (i + 1), none⟩ := by unfold Addr.add; rw [if_neg (by omega)]
theorem fld_open {cs : List Value} {y : DataW H × List MemPlace} (h : DataW.trod enc Tryz.prog w 0 (fun _ => true) true n 50 cs = some y) :
    ∃ s0 s1 : ByteArray, cs = [.string s0, .string s1] ∧ s0.size ≤ maxLen ∧ s1.size ≤ maxLen := by
  obtain ⟨y0, y1, m, _, hl, h0, h1⟩ := trod_struct2 Tryz.underlying50 h
  have hc : Tryz.prog.cellsOf 50 = 2 := by kernel_rfl
  have h9 : Tryz.prog.cellsOf 9 = 1 := by kernel_rfl
  rw [hc] at hl
  match cs, hl with
  | [a, b], _ =>
    dsimp only at h0 h1
    rw [h9] at h0 h1
    obtain ⟨s0, e0, _, z0⟩ := DataW.trod_string Tryz.underlying9 h0
    obtain ⟨s1, e1, _, z1⟩ := DataW.trod_string Tryz.underlying9 h1
    simp at e0 e1
    exact ⟨s0, s1, by rw [e0, e1], z0, z1⟩
theorem ent_open {cs : List Value} {y : DataW H × List MemPlace} (h : DataW.trod enc Tryz.prog w 0 (fun _ => true) true n 27 cs = some y) :
    ∃ (s0 s1 : ByteArray) (c : Value) (m : Nat) (y2 : DataW H × List MemPlace), cs = [.string s0, .string s1, c] ∧ s0.size ≤ maxLen ∧ s1.size ≤ maxLen ∧ DataW.trod enc Tryz.prog w 0 (fun _ => true) true m 25 [c] = some y2 := by
  obtain ⟨y0, y1, y2, m, _, hl, h0, h1, h2⟩ := Go.Deep.trod_struct3 Tryz.underlying27 h
  have hc : Tryz.prog.cellsOf 27 = 3 := by kernel_rfl
  have h9 : Tryz.prog.cellsOf 9 = 1 := by kernel_rfl
  have h8 : Tryz.prog.cellsOf 25 = 1 := by kernel_rfl
  rw [hc] at hl
  match cs, hl with
  | [a, b, c], _ =>
    dsimp only at h0 h1 h2
    rw [h9] at h0 h1
    rw [h8] at h2
    obtain ⟨s0, e0, _, z0⟩ := DataW.trod_string Tryz.underlying9 h0
    obtain ⟨s1, e1, _, z1⟩ := DataW.trod_string Tryz.underlying9 h1
    simp at e0 e1
    exact ⟨s0, s1, c, m, y2, by rw [e0, e1], z0, z1, h2⟩
def bl8 (s : ByteArray) : List UInt8 := s.data.toList
theorem bl8_mk (s : ByteArray) : (⟨(bl8 s).toArray⟩ : ByteArray) = s := by unfold bl8; rw [Array.toArray_toList]
theorem bl8_len (s : ByteArray) : (bl8 s).length = s.size := by unfold bl8; rw [Array.length_toList]; rfl
theorem flds_open {c : Value} {y : DataW H × List MemPlace} (h : DataW.trod enc Tryz.prog w 0 (fun _ => true) true n 25 [c] = some y) :
    ∃ (p : Option Addr) (fs : List Ent.Fld) (cap : Nat), c = .slice p fs.length cap ∧ fs.length ≤ maxLen ∧ OFld w p fs := by
  rcases Go.Deep.open_slice Tryz.underlying25 h with ⟨hcs, _⟩ | ⟨a, len, cap, m, k, D, Pl, hcs, _, hl, hm, hmm, _, hi⟩
  · simp at hcs
    subst hcs
    exact ⟨none, [], 0, rfl, Nat.zero_le _, fun j f hj => by simp at hj⟩
  · simp at hcs hmm
    subst hcs
    have hc : Tryz.prog.cellsOf 50 = 2 := by kernel_rfl
    have each : ∀ i, ∃ f : Ent.Fld, i < len → ∃ (b o : Nat) (sp : Option Nat), a.add (i * 2) = ⟨b, o, sp⟩ ∧ b < w.heap.size ∧ w.cell? ⟨b, o, sp⟩ = some (.string ⟨f.name.toArray⟩) ∧ w.cell? ⟨b, o + 1, none⟩ = some (.string ⟨f.text.toArray⟩) ∧ f.name.length ≤ maxLen ∧ f.text.length ≤ maxLen := by
      intro i
      by_cases hil : i < len
      · obtain ⟨cs', h1, h2⟩ := hi i (by omega)
        rw [hc] at h1
        obtain ⟨s0, s1, rfl, z0, z1⟩ := fld_open h2
        obtain ⟨_, _, hat⟩ := World.cells?_some h1
        have c0 := hat 0 (by omega)
        have c1 := hat 1 (by omega)
        rw [add_zero] at c0
        rw [add_succ] at c1
        refine ⟨⟨bl8 s0, bl8 s1⟩, fun _ => ⟨_, _, _, rfl, World.block_lt_of_cell? w _ c0, ?_, ?_, by rw [bl8_len]; exact z0, by rw [bl8_len]; exact z1⟩⟩
        · show w.cell? (a.add (i * 2)) = some (.string ⟨(bl8 s0).toArray⟩)
          rw [bl8_mk]; exact c0
        · show w.cell? _ = some (.string ⟨(bl8 s1).toArray⟩)
          rw [bl8_mk]; exact c1
      · exact ⟨⟨[], []⟩, fun h => absurd h hil⟩
    refine ⟨some a, (List.range len).map fun i => Classical.choose (each i), cap, by simp, by simp; omega, fun j f hj => ?_⟩
    rw [List.getElem?_map] at hj
    obtain ⟨i, hr, rfl⟩ := Option.map_eq_some_iff.1 hj
    obtain ⟨h1, h2⟩ : j < len ∧ j = i := by
      have hlt := (List.getElem?_eq_some_iff.1 hr).1
      simp at hlt
      rw [List.getElem?_range hlt] at hr
      exact ⟨hlt, by simpa using hr⟩
    subst h2
    obtain ⟨b, o, sp, e1, e2, e3, e4, e5, e6⟩ := Classical.choose_spec (each j) h1
    exact ⟨a, b, o, sp, rfl, e1, e2, e3, e4, e5, e6⟩
theorem ents_open {base : Nat} {r : Reach} {v : Value} {d : DataW H} {ps : List MemPlace} (hv : Value.okWide Tryz.prog w r base 22 v) (h : DataW.Trod enc Tryz.prog w 0 (fun _ => true) true 22 v d ps) :
    ∃ (p : Option Addr) (cap : Nat) (l : List Ent.Ent), v = .slice p l.length cap ∧ l.length ≤ maxLen ∧ OEnt w p l := by
  obtain ⟨a0, len0, cap0, rfl⟩ := okWide_slice Tryz.underlying22 hv
  obtain ⟨fuel, hf⟩ := h
  rcases Go.Deep.open_slice Tryz.underlying22 hf with ⟨hcs, _⟩ | ⟨a, len, cap, m, k, D, Pl, hcs, _, hl, hm, hmm, _, hi⟩
  · simp [Value.cells] at hcs
    obtain ⟨rfl, rfl, rfl⟩ := hcs
    exact ⟨none, 0, [], rfl, Nat.zero_le _, fun j f hj => by simp at hj⟩
  · simp [Value.cells] at hcs hmm
    obtain ⟨rfl, rfl, rfl⟩ := hcs
    have hc : Tryz.prog.cellsOf 27 = 3 := by kernel_rfl
    have each : ∀ i, ∃ x : Ent.Ent, i < len0 → ∃ (b o : Nat) (sp : Option Nat) (pf : Option Addr) (cf : Nat), a.add (i * 3) = ⟨b, o, sp⟩ ∧ b < w.heap.size ∧ w.cell? ⟨b, o, sp⟩ = some (.string ⟨x.kind.toArray⟩) ∧ w.cell? ⟨b, o + 1, none⟩ = some (.string ⟨x.key.toArray⟩) ∧
        w.cell? ⟨b, o + 2, none⟩ = some (.slice pf x.fields.length cf) ∧ x.kind.length ≤ maxLen ∧ x.key.length ≤ maxLen ∧ x.fields.length ≤ maxLen ∧ OFld w pf x.fields := by
      intro i
      by_cases hil : i < len0
      · obtain ⟨cs', h1, h2⟩ := hi i (by omega)
        rw [hc] at h1
        obtain ⟨s0, s1, c, m2, y2, rfl, z0, z1, h3⟩ := ent_open h2
        obtain ⟨pf, fs, cf, rfl, hfl, hof⟩ := flds_open h3
        obtain ⟨_, _, hat⟩ := World.cells?_some h1
        have c0 := hat 0 (by omega)
        have c1 := hat 1 (by omega)
        have c2 := hat 2 (by omega)
        rw [add_zero] at c0
        rw [add_succ] at c1 c2
        refine ⟨⟨bl8 s0, bl8 s1, fs⟩, fun _ => ⟨_, _, _, pf, cf, rfl, World.block_lt_of_cell? w _ c0, ?_, ?_, c2, by rw [bl8_len]; exact z0, by rw [bl8_len]; exact z1, hfl, hof⟩⟩
        · show w.cell? (a.add (i * 3)) = some (.string ⟨(bl8 s0).toArray⟩)
          rw [bl8_mk]; exact c0
        · show w.cell? _ = some (.string ⟨(bl8 s1).toArray⟩)
          rw [bl8_mk]; exact c1
      · exact ⟨⟨[], [], []⟩, fun h => absurd h hil⟩
    refine ⟨some a, cap0, (List.range len0).map fun i => Classical.choose (each i), by simp, by simp; omega, fun j f hj => ?_⟩
    rw [List.getElem?_map] at hj
    obtain ⟨i, hr, rfl⟩ := Option.map_eq_some_iff.1 hj
    obtain ⟨h1, h2⟩ : j < len0 ∧ j = i := by
      have hlt := (List.getElem?_eq_some_iff.1 hr).1
      simp at hlt
      rw [List.getElem?_range hlt] at hr
      exact ⟨hlt, by simpa using hr⟩
    subst h2
    obtain ⟨b, o, sp, pf, cf, e⟩ := Classical.choose_spec (each j) h1
    exact ⟨a, b, o, sp, pf, cf, rfl, e⟩
end
end
end Go.Proofs.YtanbcokkfbidbaaGreatDoor
