/- Support: a variable that reads as plain data (numbers, strings, bools, structs, arrays) holds just the cells of these data. No program in sight. What the rows' lists give: the variables hold what counters' texts lean on. What the rows' list gives, and a world that meets it. The world's shape: the cell of the greatest length, for the contract. RuleRemarks: the law's row and its card, out of its walk: for every input the call returns true, and each argument reads behind it as it did. -/
import Derived.WalkKit
import Derived.OpenShut
import Derived.Lib.LaidTab
import Derived.Lib.LaidU8T
import Derived.PinnedBridge
import Derived.Test.YtibinlpbcoihoaaGreatDoorRows
import Derived.Test.YtibinlpbcoihoaaGreatDoorG04
import Derived.Test.YtibinlpbcoihoaaGreatDoorG10
import Derived.ChangeSame
import Derived.ChangeVars
import Derived.JoinedOf
import Derived.LaidLaws
import Derived.LaidHandle
import Derived.LaidMore
import Derived.Lay
import Derived.Stop.Joined
import Derived.Handed
import Derived.SizedLaws
import Derived.ChangeOld
import Derived.Test.YtibinlpbcoihoaaGreatDoorCards
import Derived.Test.YtibinlpbcoihoaaGreatDoorTie
import Derived.Test.YtibinlpbcoihoaaGreatDoorRuLR
import Derived.ProofKit
import Derived.ShutString
import Derived.SevenTiedAt
import Derived.Deep.DeepHandedRow
set_option linter.unusedSimpArgs false
set_option linter.unusedVariables false
namespace Go.Proofs.YtibinlpbcoihoaaGreatDoor
open Go.RowKit Go.Lib

section
variable {P : Program}
/-- the cells of pieces at their places, one behind the other -/
def piecesCells (P : Program) (rec : TypeId → DataW Unit → Option (List Value)) : Nat → List (TypeId × Nat) → List (DataW Unit) → Option (List Value)
  | _, [], [] => some []
  | off, (t, o) :: ps, d :: ds =>
    if o = off then match rec t d with
      | some c => if c.length = P.cellsOf t then (match piecesCells P rec (off + c.length) ps ds with | some r => some (c ++ r) | none => none) else none
      | none => none
    else none
  | _, _, _ => none
/-- the cells of plain data at a type -/
def plainCells (P : Program) : Nat → TypeId → DataW Unit → Option (List Value)
  | 0, _, _ => none
  | f + 1, t, d => match P.underlying t, d with
    | some (.int _), .lit (.int k n) => some [.int k n]
    | some .string, .lit (.string bs) => some [.string ⟨bs.toArray⟩]
    | some .bool, .lit (.bool b) => some [.bool b]
    | some (.struct fs), .agg ps => (match piecesCells P (plainCells P f) 0 (fs.toList.map fun x => (x.type, x.offset)) ps with | some r => if r.length = P.cellsOf t then some r else none | none => none)
    | some (.array n e), .agg ps => (match piecesCells P (plainCells P f) 0 ((List.range n).map fun i => (e, i * P.cellsOf e)) ps with | some r => if r.length = P.cellsOf t then some r else none | none => none)
    | _, _ => none

variable {w : World} {base : Nat} {sp : Nat → Bool} {held : Bool}
theorem pieces_of (rec : TypeId → DataW Unit → Option (List Value)) {cs : List Value} {m : Nat}
    (hrec : ∀ t d c l q, rec t d = some c → DataW.trod (fun _ => ()) P w base sp held m t l = some (d, q) → l = c) :
    ∀ (ps : List (TypeId × Nat)) (xs : List (DataW Unit × List MemPlace)) (off : Nat) (cells : List Value), piecesCells P rec off ps (xs.map (·.1)) = some cells →
      (∀ (i : Nat) (t : TypeId) (o : Nat), ps[i]? = some (t, o) → DataW.trod (fun _ => ()) P w base sp held m t ((cs.drop o).take (P.cellsOf t)) = xs[i]?) → (cs.drop off).take cells.length = cells
  | [], [], off, cells, h, _ => by simp [piecesCells] at h; subst h; simp
  | [], x :: xs, off, cells, h, _ => by simp [piecesCells] at h
  | (t, o) :: ps, [], off, cells, h, _ => by simp [piecesCells] at h
  | (t, o) :: ps, x :: xs, off, cells, h, hx => by
    simp only [piecesCells, List.map_cons] at h
    split at h
    case isFalse => cases h
    rename_i ho
    subst ho
    split at h
    case h_2 => cases h
    rename_i c hc
    split at h
    case isFalse => cases h
    rename_i hl
    split at h
    case h_2 => cases h
    rename_i r hr
    simp only [Option.some.injEq] at h
    subst h
    have h0 := hx 0 t o rfl
    simp only [List.getElem?_cons_zero] at h0
    have e0 := hrec t x.1 c _ x.2 hc h0
    have e1 := pieces_of rec hrec ps xs (o + c.length) r hr (fun i t' o' hi => by have := hx (i + 1) t' o' (by simpa using hi); simpa using this)
    rw [List.length_append, List.take_add, List.drop_drop]
    congr 1
    rw [hl]; exact e0

theorem plain_of : ∀ (f : Nat) (m : Nat) (t : TypeId) (d : DataW Unit) (c l : List Value) (q : List MemPlace), plainCells P f t d = some c → DataW.trod (fun _ => ()) P w base sp held m t l = some (d, q) → l = c
  | 0, _, _, _, _, _, _, h, _ => by simp [plainCells] at h
  | f + 1, m, t, d, c, l, q, h, hd => by
    unfold plainCells at h
    split at h
    · rename_i hu
      obtain ⟨z, rfl, hz, _⟩ := DataW.trod_int hu hd
      simp only [Prod.mk.injEq, DataW.lit.injEq, Lit.int.injEq] at hz
      obtain ⟨⟨rfl, rfl⟩, _⟩ := hz
      simpa using h
    · rename_i hu
      obtain ⟨s, rfl, hz, _⟩ := DataW.trod_string hu hd
      simp only [Prod.mk.injEq, DataW.lit.injEq, Lit.string.injEq] at hz
      obtain ⟨rfl, _⟩ := hz
      simpa using h
    · rename_i hu
      obtain ⟨b, rfl, hz⟩ := DataW.trod_bool hu hd
      simp only [Prod.mk.injEq, DataW.lit.injEq, Lit.bool.injEq] at hz
      obtain ⟨rfl, _⟩ := hz
      simpa using h
    · rename_i fs ps hu
      split at h
      case h_2 => cases h
      rename_i r hr
      split at h
      case isFalse => cases h
      rename_i hl
      simp only [Option.some.injEq] at h
      subst h
      obtain ⟨xs, n, _, hx, hlen, hxl, hf⟩ := DataW.trod_struct hu hd
      simp only [Prod.mk.injEq, DataW.agg.injEq] at hx
      obtain ⟨rfl, _⟩ := hx
      have := pieces_of (plainCells P f) (cs := l) (m := n) (fun t d c l q h1 h2 => plain_of f n t d c l q h1 h2) _ xs 0 r hr (fun i t' o hi => by
        simp only [List.getElem?_map, Option.map_eq_some_iff, Prod.mk.injEq, Array.getElem?_toList] at hi
        obtain ⟨x, hx, rfl, rfl⟩ := hi
        exact hf i x hx)
      rw [List.drop_zero, List.take_of_length_le (by omega)] at this
      exact this
    · rename_i k e ps hu
      split at h
      case h_2 => cases h
      rename_i r hr
      split at h
      case isFalse => cases h
      rename_i hl
      simp only [Option.some.injEq] at h
      subst h
      obtain ⟨xs, n, _, hx, hlen, hxl, hf⟩ := DataW.trod_array hu hd
      simp only [Prod.mk.injEq, DataW.agg.injEq] at hx
      obtain ⟨rfl, _⟩ := hx
      have := pieces_of (plainCells P f) (cs := l) (m := n) (fun t d c l q h1 h2 => plain_of f n t d c l q h1 h2) _ xs 0 r hr (fun i t' o hi => by
        simp only [List.getElem?_map, Option.map_eq_some_iff, Prod.mk.injEq] at hi
        obtain ⟨x, hx, rfl, rfl⟩ := hi
        obtain ⟨hi', he⟩ := List.getElem?_eq_some_iff.1 hx
        simp only [List.getElem_range, List.length_range] at hi' he
        subst he
        exact hf _ hi')
      rw [List.drop_zero, List.take_of_length_le (by omega)] at this
      exact this
    · cases h
/-- what a variable that reads as plain data holds -/
theorem cells_of_reads {W : World} {name : String} {d : DataW Unit} {g f : Nat} {t : TypeId} {c : List Value}
    (hg : P.globalNamed name = some g) (hty : (P.globals[g]?).map (·.type) = some t) (hc : plainCells P f t d = some c) (h : VarReads P W name d) : ∃ e fr, W.heap[g]? = some (.cells c.toArray e fr) := by
  obtain ⟨g', t', cs, fuel, p, hg', ht', hvar, hd⟩ := h
  obtain rfl := Option.some.inj (hg.symm.trans hg')
  obtain rfl := Option.some.inj (hty.symm.trans ht')
  have e := plain_of f fuel _ _ _ _ _ hc hd
  unfold World.var? at hvar
  simp only [hg, Option.bind_some] at hvar
  split at hvar
  · rename_i cs' e' fr' hh
    simp only [Option.some.injEq] at hvar
    subst hvar
    exact ⟨e', fr', by rw [hh, ← e]⟩
  · cases hvar
theorem tabIs_of_reads {W : World} {name : String} {k : IntKind} {zs : List Int} {g : Nat} {t e : TypeId} {n : Nat}
    (hg : P.globalNamed name = some g) (hty : (P.globals[g]?).map (·.type) = some t) (ht : P.underlying t = some (.array n e)) (he : P.underlying e = some (.int k)) (hce : P.cellsOf e = 1) (hct : P.cellsOf t = n)
    (h : VarReads P W name (tabData k zs)) : TabIs P W name k zs := by
  obtain ⟨g', t', cs, fuel, p, hg', ht', hvar, hd⟩ := h
  obtain rfl := Option.some.inj (hg.symm.trans hg')
  obtain rfl := Option.some.inj (hty.symm.trans ht')
  unfold TabIs
  rw [hvar, ← cells_of_tab ht he hce hct hd]
end
end Go.Proofs.YtibinlpbcoihoaaGreatDoor
namespace Go.Proofs.YtibinlpbcoihoaaGreatDoor
open Go.RowKit Go.Lib

theorem u8x : U8Extra Tryz.prog Tryz.lays260_ren := ⟨by kernel_rfl, by kernel_rfl, by kernel_rfl, by kernel_rfl, by kernel_rfl, by kernel_rfl, by kernel_rfl⟩
theorem casex : CaseExtra Tryz.prog Tryz.lays159_ren := ⟨by kernel_rfl, by kernel_rfl, by kernel_rfl, by kernel_rfl, by kernel_rfl, by kernel_rfl⟩
theorem accept_eq : (Rows.laid_unicode_utf8_acceptRanges : DataW Unit) = acceptData := by kernel_rfl
theorem pow_eq : (Rows.laid_internal_strconv_uint64pow10 : DataW Unit) = tabData .u64 pow10Tab := by kernel_rfl
theorem num_cells : plainCells Tryz.prog 8 414 Rows.laid_stet_count_numerals = some numCells.toList := by kernel_rfl

theorem laid01_of {W : World} (hp : VarReads Tryz.prog W "internal/strconv.uint64pow10" Rows.laid_internal_strconv_uint64pow10) (ha : VarReads Tryz.prog W "unicode/utf8.acceptRanges" Rows.laid_unicode_utf8_acceptRanges)
    (hn : VarReads Tryz.prog W "stet/count.numerals" Rows.laid_stet_count_numerals) (hc : VarReads Tryz.prog W "unicode.CaseRanges" Rows.laid_unicode_CaseRanges) (hu : VarReads Tryz.prog W "unicode/utf8.first" Rows.laid_unicode_utf8_first) : Laid01 W where
  num := cells_of_reads (g := 4) (t := 414) (f := 8) (by kernel_rfl) (by kernel_rfl) num_cells hn
  pow := tabIs_of_reads (g := 6) (by kernel_rfl) (by kernel_rfl) Tryz.underlying478 Tryz.underlying451 (by kernel_rfl) (by kernel_rfl) (pow_eq ▸ hp)
  cas := caseVar_of_reads { Tryz.lays159 with } Tryz.underlying504 casex (by unfold Rows.laid_unicode_CaseRanges at hc; rw [Pinned.caseRanges_eq] at hc; exact hc)
  utf := utf8Tabs_of_readsT (U8Types.of260 Tryz.lays260) u8x (by unfold Rows.laid_unicode_utf8_first at hu; rw [Pinned.utf8First_eq] at hu; exact hu) (accept_eq ▸ ha)
end Go.Proofs.YtibinlpbcoihoaaGreatDoor
set_option linter.unusedVariables false
namespace Go.Proofs.YtibinlpbcoihoaaGreatDoor
open Go.RowKit Go.Lib
def laidD : List (String × DataW Unit) := [("math/bits.deBruijn32tab", Rows.laid_math_bits_deBruijn32tab), ("math/bits.deBruijn64tab", Rows.laid_math_bits_deBruijn64tab), ("internal/strconv.uint64pow10", Rows.laid_internal_strconv_uint64pow10), ("unicode/utf8.acceptRanges", Rows.laid_unicode_utf8_acceptRanges), ("stet/count.numerals", Rows.laid_stet_count_numerals), ("unicode.CaseRanges", Rows.laid_unicode_CaseRanges), ("unicode/utf8.first", Rows.laid_unicode_utf8_first)]
def laidL : List (String × DataW Unit) := [("math/bits.deBruijn32tab", Rows.laid_math_bits_deBruijn32tab), ("math/bits.deBruijn64tab", Rows.laid_math_bits_deBruijn64tab), ("internal/strconv.uint64pow10", Rows.laid_internal_strconv_uint64pow10), ("unicode/utf8.acceptRanges", Rows.laid_unicode_utf8_acceptRanges), ("errors.errorType", Rows.laid_errors_errorType), ("stet/count.numerals", Rows.laid_stet_count_numerals), ("unicode.CaseRanges", Rows.laid_unicode_CaseRanges), ("unicode/utf8.first", Rows.laid_unicode_utf8_first)]
theorem laidL_data : (laidL.filter fun x => x.2.handleName?.isNone) = laidD := by kernel_rfl
theorem gErr : Tryz.prog.globalNamed "errors.errorType" = some 1 := by kernel_rfl
theorem rtErr : (Tryz.prog.cutTypes.find? (·.1 == "internal/reflectlite.rtype")).map (·.2) = some 382 := by kernel_rfl
theorem oneErr : ((List.range Tryz.prog.types.size).filter fun t => Tryz.prog.rowNamed t [101, 114, 114, 111, 114]) = [143] := by kernel_rfl
set_option maxRecDepth 100000 in
theorem err_of {W : World} (h : handlesMet Tryz.prog [("errors.errorType", Rows.laid_errors_errorType)] W) : W.cell? ⟨1, 0, none⟩ = some (.iface 382 (.agg #[asErr.hd 143])) := by
  obtain ⟨name, u, ty, e1, e2, e3, e4, e5⟩ := h _ (List.mem_singleton.2 rfl)
  have en : name = [101, 114, 114, 111, 114] := (Option.some.inj e1).symm
  subst en
  obtain rfl := Option.some.inj (rtErr.symm.trans e2)
  have hm : ty ∈ (List.range Tryz.prog.types.size).filter fun t => Tryz.prog.rowNamed t [101, 114, 114, 111, 114] := List.mem_filter.2 ⟨List.mem_range.2 e3, e4⟩
  rw [oneErr] at hm
  obtain rfl := List.mem_singleton.1 hm
  have hh : typeHandle Tryz.prog 143 = asErr.hd 143 := by kernel_rfl
  rw [hh] at e5
  simpa using World.var?_cell gErr e5 0
theorem laid10_of {W : World} (hD : laidMet Tryz.prog laidD W) (hH : handlesMet Tryz.prog [("errors.errorType", Rows.laid_errors_errorType)] W) : Laid10 W where
  cnt := laid01_of (laidMet.reads hD (List.mem_of_getElem? (i := 2) rfl)) (laidMet.reads hD (List.mem_of_getElem? (i := 3) rfl)) (laidMet.reads hD (List.mem_of_getElem? (i := 4) rfl)) (laidMet.reads hD (List.mem_of_getElem? (i := 5) rfl)) (laidMet.reads hD (List.mem_of_getElem? (i := 6) rfl))
  err := err_of hH
theorem laidL_of {W : World} (h : laidMetH Tryz.prog laidL W) : Laid10 W := by
  have h' : laidMet Tryz.prog laidD W ∧ handlesMet Tryz.prog [("errors.errorType", Rows.laid_errors_errorType)] W := h
  exact laid10_of h'.1 h'.2
/-- the settled world, the handle's cell laid -/
noncomputable def world0 (os : Os) : World :=
  let w0 := World.holding Tryz.prog os ⟨#[], #[], []⟩
  { w0 with heap := w0.heap.modify 1 fun
      | .cells _ t frozen => .cells #[.iface 382 (.agg #[asErr.hd 143])] t frozen
      | o => o }
noncomputable def world10 (os : Os) : World := (world0 os).layVars Tryz.prog laidD
theorem world10_os (os : Os) : (world10 os).os = os := World.layVars_os _ _ _
set_option maxRecDepth 100000 in
theorem world10_data (os : Os) (args : Array Value) : laidMet Tryz.prog laidD ((world10 os).forCall (fun _ _ => 0) ⟨#[], args, []⟩).memory := by
  have e1 : (laidD.filter fun x => (laidD.map (·.1)).contains x.1) = laidD := List.filter_eq_self.2 fun x hx => List.contains_iff_mem.2 (List.mem_map.2 ⟨x, hx, rfl⟩)
  have e2 : (laidD.filter fun x => !(laidD.map (·.1)).contains x.1) = [] := List.filter_eq_nil_iff.2 fun x hx => by rw [List.contains_iff_mem.2 (List.mem_map.2 ⟨x, hx, rfl⟩)]; simp
  have h : laidMet Tryz.prog laidD (world10 os) := laidMet_layVars (w0 := world0 os) (laidD.map (·.1)) [] (by rw [e1]; rfl) (by rw [e1]; kernel_rfl) (by rw [e1]; kernel_rfl) (by rw [e2]; exact LaidIn.none)
  exact h.of_heap (by simp [World.memory, World.forCall, Input.heap])
set_option maxRecDepth 100000 in
theorem world10_met (os : Os) (args : Array Value) : laidMetH Tryz.prog laidL ((world10 os).forCall (fun _ _ => 0) ⟨#[], args, []⟩).memory :=
  laidMetH_of_parts (by rw [laidL_data]; exact world10_data os args) (by kernel_rfl)
set_option maxRecDepth 100000 in
theorem world10_shaped (os : Os) (args : Array Value) : ((world10 os).forCall (fun _ _ => 0) ⟨#[], args, []⟩).Shaped Tryz.prog := World.shaped_of_ZipB (by kernel_rfl) (by kernel_rfl)
end Go.Proofs.YtibinlpbcoihoaaGreatDoor
namespace Go.Proofs.YtibinlpbcoihoaaGreatDoor
open Go.RowKit Go.Lib
theorem maxlen_some {W : World} (h : W.ShapedOpen Tryz.prog) : ∃ m, W.cell? ⟨0, 0, none⟩ = some (.int .i64 m) := cell_of_shapedOpen_int (zero := #[.int .i64 0]) (t := 3) h (of_decide_eq_true (by kernel_rfl)) (by kernel_rfl) rfl (by kernel_rfl) (by kernel_rfl) Tryz.underlying3
theorem heap_pos {W : World} (h : W.ShapedOpen Tryz.prog) : 0 < W.heap.size := by
  obtain ⟨m, hm⟩ := maxlen_some h
  exact World.block_lt_of_cell? W _ hm
section
variable {H : Type} {enc : TypeId × Value → H}
/-- a fact of the heap ahead, and the world's shape too, for the contract -/
theorem handed_and_shaped {a : Assume} {C : Checked} {os : Os} {f : FuncId} {fn : Func} {s : ChangeSpec} {conds : List PathCond} {apart fresh handsOn again : Bool} {X : World → Array Value → Prop}
    (hX : ∀ (w w' : World) (args : Array Value), w.heap = w'.heap → X w args → X w' args)
    (own : ownKnob C.prog.godebug = none) (started : os.Started) (noInit : C.prog.inits.idxOf? f = none) (hfn : C.prog.funcs[f]? = some fn)
    (witness : ∃ (w : World) (tape : Tape) (i : Input), w.os = os ∧ (w.forCall tape i).Shaped C.prog ∧ i.vars = [] ∧ Input.okWide C.prog (w.forCall tape i) .any w.heap.size f i ∧
      ((s.pre enc C.prog fn conds apart (w.forCall tape i).memory i.args ∧ X (w.forCall tape i).memory i.args) ∧ sizedMet enc C.prog fn (OpenSpec.ofChange s) apart (w.forCall tape i).memory i.args) ∧ a.holds C.prog (lone (Frame.enter C.prog f i.args .normal) [] (w.forCall tape i)))
    (contract : ∀ (W : World) (base : Nat) (args : Array Value) (ds gs : List (DataW H)) (before : List MemPlace),
      (∀ (j : Nat) t v, fn.params[j]? = some t → args[j]? = some v → Value.okWide C.prog W .any base t v) →
      DataW.Whole enc C.prog fn.params.toList s.vars apart W args.toList ds gs before →
      X W args → W.ShapedOpen C.prog →
      Calls C.prog f args W fun e W' => ∃ v, e = .returned v ∧ s.post enc C.prog fn apart fresh handsOn again W args v W') :
    ReturnsInHanded a C os f .any (fun w args => (s.pre enc C.prog fn conds apart w args ∧ X w args) ∧ sizedMet enc C.prog fn (OpenSpec.ofChange s) apart w args) (s.post enc C.prog fn apart fresh handsOn again) := by
  refine returnsInHanded_of_calls own started noInit witness ?_
  intro w tape i _ hsh _ hok hpre _
  obtain ⟨_, _, _, fn', hfn', _, _, _, _, hval⟩ := hok
  obtain rfl : fn' = fn := Option.some.inj (hfn'.symm.trans hfn)
  obtain ⟨⟨⟨ds, gs, before, hw, _⟩, hx⟩, _⟩ := hpre
  refine (contract (w.forCall tape i) w.heap.size i.args ds gs before hval (DataW.Whole.of_heap (w' := w.forCall tape i) (by rfl) hw) (hX _ _ _ (by rfl) hx) hsh).mono fun e W' ⟨v, he, hp⟩ => ?_
  subst he
  exact ChangeSpec.post_blind hp
end
end Go.Proofs.YtibinlpbcoihoaaGreatDoor
namespace Go.Proofs.YtibinlpbcoihoaaGreatDoor.ofRuleRemarks
open Go.ChangeShapes Go.WideShapes Go.ChangeAt Go.RowKit Go.Lib
open Go.ChangeMaps (open_string shut_string)
set_option linter.unusedVariables false
theorem own : ownKnob Tryz.prog.godebug = none := by kernel_rfl
theorem laidOut : laidOutB Tryz.prog = true := by kernel_rfl
set_option maxRecDepth 100000 in
theorem lifted (os : Os) (started : os.Started) (H : Type) (enc : TypeId × Value → H) :
    ReturnsInHanded {} Tryz.checked os 5 .any (fun w args => (Rows.ruleRemarksSpec.pre enc Tryz.prog Tryz.f5 Rows.ruleRemarksRow.domain false w args ∧ laidMetH Tryz.prog Rows.ruleRemarksRow.laid w) ∧ sizedMet enc Tryz.prog Tryz.f5 (OpenSpec.ofChange Rows.ruleRemarksSpec) false w args)
      (Rows.ruleRemarksSpec.post enc Tryz.prog Tryz.f5 false true false false) := by
  refine handed_and_shaped (C := Tryz.checked) (X := fun w _ => laidMetH Tryz.prog Rows.ruleRemarksRow.laid w) (fun _ _ _ hh h => h.of_heap hh) own started (by kernel_rfl) Tryz.func5
    (ChangeSpec.witness_shaped (enc := enc) (C := Tryz.checked) (os := os) (X := fun w _ => laidMetH Tryz.prog Rows.ruleRemarksRow.laid w) false (world10 os) #[.string ⟨#[]⟩, .string ⟨#[]⟩] 8 (world10_os os)
      (world10_shaped os _) (by kernel_rfl) (by kernel_rfl) (by kernel_rfl)
      (world10_met os _)) ?_
  intro W base args ds gs before hval0 hW hL hsh
  have hval : ∀ (j : Nat) t v, Tryz.f5.params[j]? = some t → args[j]? = some v → Value.okWide Tryz.prog W .any base t v := hval0
  have hW' := hW
  obtain ⟨p, q, hA0, hV, rfl, hfz, hnd⟩ := hW
  have hA : DataW.TrodAll enc Tryz.prog W 0 (fun _ => true) true Tryz.f5.params.toList args.toList ds p := hA0
  rw [Tryz.params5] at hA hval
  obtain ⟨v0, vs0, d0, ds0, p0, q0, hargs, rfl, rfl, h0, r0⟩ := trodAll_cons hA
  obtain ⟨v1, vs1, d1, ds1, p1, q1, rfl, rfl, rfl, h1, r1⟩ := trodAll_cons r0
  obtain ⟨rfl, rfl, rfl⟩ := trodAll_nil r1
  obtain rfl : args = #[v0, v1] := by cases args; simp_all
  obtain ⟨rfl, rfl⟩ := trodVars_none hV
  obtain ⟨s0, rfl, rfl, rfl, hs0⟩ := open_string Tryz.underlying9 (hval 0 9 v0 rfl rfl) h0
  obtain ⟨a0, rfl⟩ := str_of s0
  obtain ⟨s1, rfl, rfl, rfl, hs1⟩ := open_string Tryz.underlying9 (hval 1 9 v1 rfl rfl) h1
  obtain ⟨a1, rfl⟩ := str_of s1
  clear hA0 hval0
  have hL := laidL_of hL
  refine (lawRem_walk2 a0 a1 W (⟨maxlen_some hsh, heap_pos hsh⟩)).mono fun e W' ⟨he, hb⟩ => ?_
  subst he
  exact ⟨_, rfl, _, _, _, [], _, [], hW', trodAll_mk1 (shut_bool Tryz.underlying4 _), trodAll_cons_mk (shut_string Tryz.underlying9 hs0) (trodAll_cons_mk (shut_string Tryz.underlying9 hs1) trodAll_mk0), rfl, hb.frame _, fun h => by cases h⟩

set_option maxHeartbeats 3200000 in
theorem said : Rows.RuleRemarksSaid :=
  OpenClaim.holds_of_wide 5 Tryz.f5 rfl rfl rfl rfl rfl rfl rfl ⟨rfl, rfl, rfl, rfl, rfl⟩ rfl rfl rfl rfl rfl (by as_aux_lemma => kernel_rfl) Tryz.func5 (by
      unfold joinedFacts
      simp only [Bool.and_eq_true]
      repeat' apply And.intro
      all_goals (as_aux_lemma => kernel_rfl))
    (of_decide_eq_true (by as_aux_lemma => kernel_rfl)) (by as_aux_lemma => unfold Func.isWrapper; first | (rw [if_pos (by decide +kernel)]; kernel_rfl) | (rw [if_neg (by decide +kernel)]; exact ⟨rfl, rfl⟩))
    (fun os started H enc _ => lifted os started H enc)
theorem plain (f : FuncId) (fn : Func) (hf : Tryz.pinned.checked.prog.funcNamed "stet/stetlaw22.RuleRemarks" = some f) (hfn : Tryz.pinned.checked.prog.funcs[f]? = some fn) :
    true = Tryz.pinned.checked.prog.looks [] ∧ ∀ (j : Nat) t, fn.params[j]? = some t → Tryz.pinned.checked.prog.wantsStandIn t = false := by
  obtain rfl : f = 5 := Option.some.inj ((show Tryz.prog.funcNamed "stet/stetlaw22.RuleRemarks" = some 5 by kernel_rfl).symm.trans hf) |>.symm
  obtain rfl : fn = Tryz.f5 := (Option.some.inj (Tryz.func5.symm.trans hfn)).symm
  refine ⟨by as_aux_lemma => kernel_rfl, fun j t ht => ?_⟩
  rw [Tryz.params5] at ht
  have hm : t ∈ [9, 9] := by simpa using Array.mem_of_getElem? ht
  have hall : ([9, 9].all fun u => !Tryz.prog.wantsStandIn u) = true := by kernel_rfl
  exact (show Tryz.prog.wantsStandIn t = false by simpa using List.all_eq_true.1 hall t hm)
theorem card_holds : Rows.RuleRemarksCardSaid :=
  Claim7.holds_tied_plain_at .later [] _ _ _ _ said (fun _ h => by cases h) (by as_aux_lemma => kernel_rfl) (fun _ h => by cases h) ruleRemarks_row_tie rfl ⟨rfl, rfl⟩ (by as_aux_lemma => kernel_rfl) rfl plain (by as_aux_lemma => kernel_rfl)
end Go.Proofs.YtibinlpbcoihoaaGreatDoor.ofRuleRemarks
