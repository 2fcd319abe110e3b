/- What the rows' lists give: the variables hold what counters' texts lean on. -/
import Derived.Test.YtanbcokkfbidbaaGreatDoorRows
import Derived.Test.YtanbcokkfbidbaaGreatDoorCA
import Derived.Test.YtanbcokkfbidbaaGreatDoorLaidS
import Derived.Handed
import Derived.SizedLaws
import Derived.ChangeOld
set_option linter.unusedSimpArgs false
set_option linter.unusedVariables false
namespace Go.Proofs.YtanbcokkfbidbaaGreatDoor
open Go.RowKit Go.Lib

theorem u8x : U8Extra Tryz.prog Tryz.lays260_ren := ⟨by kernel_rfl, by kernel_rfl, by kernel_rfl, by kernel_rfl, by kernel_rfl, by kernel_rfl, by kernel_rfl⟩
theorem casex : CaseExtra Tryz.prog Tryz.lays158_ren := ⟨by kernel_rfl, by kernel_rfl, by kernel_rfl, by kernel_rfl, by kernel_rfl, by kernel_rfl⟩
theorem accept_eq : (Rows.laid_unicode_utf8_acceptRanges : DataW Unit) = acceptData := by kernel_rfl
theorem pow_eq : (Rows.laid_internal_strconv_uint64pow10 : DataW Unit) = tabData .u64 pow10Tab := by kernel_rfl
theorem num_cells : plainCells Tryz.prog 8 130 Rows.laid_stet_count_numerals = some numCells.toList := by kernel_rfl

theorem laid01_of {W : World} (hp : VarReads Tryz.prog W "internal/strconv.uint64pow10" Rows.laid_internal_strconv_uint64pow10) (ha : VarReads Tryz.prog W "unicode/utf8.acceptRanges" Rows.laid_unicode_utf8_acceptRanges)
    (hn : VarReads Tryz.prog W "stet/count.numerals" Rows.laid_stet_count_numerals) (hc : VarReads Tryz.prog W "unicode.CaseRanges" Rows.laid_unicode_CaseRanges) (hu : VarReads Tryz.prog W "unicode/utf8.first" Rows.laid_unicode_utf8_first) : Laid01 W where
  num := cells_of_reads (g := 1) (t := 130) (f := 8) (by kernel_rfl) (by kernel_rfl) num_cells hn
  pow := tabIs_of_reads (g := 5) (by kernel_rfl) (by kernel_rfl) Tryz.underlying182 Tryz.underlying160 (by kernel_rfl) (by kernel_rfl) (pow_eq ▸ hp)
  cas := caseVar_of_reads { Tryz.lays158 with } Tryz.underlying189 casex (by unfold Rows.laid_unicode_CaseRanges at hc; rw [Pinned.caseRanges_eq] at hc; exact hc)
  utf := utf8Tabs_of_readsT (U8Types.of260 Tryz.lays260) u8x (by unfold Rows.laid_unicode_utf8_first at hu; rw [Pinned.utf8First_eq] at hu; exact hu) (accept_eq ▸ ha)
theorem maxlen_some {W : World} (h : W.ShapedOpen Tryz.prog) : ∃ m, W.cell? ⟨0, 0, none⟩ = some (.int .i64 m) := cell_of_shapedOpen_int (zero := #[.int .i64 0]) (t := 3) h (of_decide_eq_true (by kernel_rfl)) (by kernel_rfl) rfl (by kernel_rfl) (by kernel_rfl) Tryz.underlying3
theorem heap_pos {W : World} (h : W.ShapedOpen Tryz.prog) : 0 < W.heap.size := by
  obtain ⟨m, hm⟩ := maxlen_some h
  exact World.block_lt_of_cell? W _ hm
section
variable {H : Type} {enc : TypeId × Value → H}
/-- a fact of the heap ahead, and the world's shape too, for the contract -/
theorem handed_and_shaped {a : Assume} {C : Checked} {os : Os} {f : FuncId} {fn : Func} {s : ChangeSpec} {conds : List PathCond} {apart fresh handsOn again : Bool} {X : World → Array Value → Prop}
    (hX : ∀ (w w' : World) (args : Array Value), w.heap = w'.heap → X w args → X w' args)
    (own : ownKnob C.prog.godebug = none) (started : os.Started) (noInit : C.prog.inits.idxOf? f = none) (hfn : C.prog.funcs[f]? = some fn)
    (witness : ∃ (w : World) (tape : Tape) (i : Input), w.os = os ∧ (w.forCall tape i).Shaped C.prog ∧ i.vars = [] ∧ Input.okWide C.prog (w.forCall tape i) .any w.heap.size f i ∧
      ((s.pre enc C.prog fn conds apart (w.forCall tape i).memory i.args ∧ X (w.forCall tape i).memory i.args) ∧ sizedMet enc C.prog fn (OpenSpec.ofChange s) apart (w.forCall tape i).memory i.args) ∧ a.holds C.prog (lone (Frame.enter C.prog f i.args .normal) [] (w.forCall tape i)))
    (contract : ∀ (W : World) (base : Nat) (args : Array Value) (ds gs : List (DataW H)) (before : List MemPlace),
      (∀ (j : Nat) t v, fn.params[j]? = some t → args[j]? = some v → Value.okWide C.prog W .any base t v) →
      DataW.Whole enc C.prog fn.params.toList s.vars apart W args.toList ds gs before →
      X W args → W.ShapedOpen C.prog →
      Calls C.prog f args W fun e W' => ∃ v, e = .returned v ∧ s.post enc C.prog fn apart fresh handsOn again W args v W') :
    ReturnsInHanded a C os f .any (fun w args => (s.pre enc C.prog fn conds apart w args ∧ X w args) ∧ sizedMet enc C.prog fn (OpenSpec.ofChange s) apart w args) (s.post enc C.prog fn apart fresh handsOn again) := by
  refine returnsInHanded_of_calls own started noInit witness ?_
  intro w tape i _ hsh _ hok hpre _
  obtain ⟨_, _, _, fn', hfn', _, _, _, _, hval⟩ := hok
  obtain rfl : fn' = fn := Option.some.inj (hfn'.symm.trans hfn)
  obtain ⟨⟨⟨ds, gs, before, hw, _⟩, hx⟩, _⟩ := hpre
  refine (contract (w.forCall tape i) w.heap.size i.args ds gs before hval (DataW.Whole.of_heap (w' := w.forCall tape i) (by rfl) hw) (hX _ _ _ (by rfl) hx) hsh).mono fun e W' ⟨v, he, hp⟩ => ?_
  subst he
  exact ChangeSpec.post_blind hp
end
end Go.Proofs.YtanbcokkfbidbaaGreatDoor
