/- What the rows' list gives, and a world that meets it. -/
import Derived.Test.YthoblbdkmlggbaaGreatDoorRows
import Derived.Test.YthoblbdkmlggbaaGreatDoorCntLaid
import Derived.Test.YthoblbdkmlggbaaGreatDoorWireW
import Derived.ChangeSame
import Derived.ChangeVars
import Derived.JoinedOf
import Derived.LaidLaws
import Derived.LaidHandle
import Derived.LaidMore
import Derived.Lay
import Derived.Stop.Joined
set_option linter.unusedVariables false
namespace Go.Proofs.YthoblbdkmlggbaaGreatDoor
open Go.RowKit Go.Lib
def laidD : List (String × DataW Unit) := [("math/bits.deBruijn32tab", Rows.laid_math_bits_deBruijn32tab), ("math/bits.deBruijn64tab", Rows.laid_math_bits_deBruijn64tab), ("internal/strconv.uint64pow10", Rows.laid_internal_strconv_uint64pow10), ("unicode/utf8.acceptRanges", Rows.laid_unicode_utf8_acceptRanges), ("stet/count.numerals", Rows.laid_stet_count_numerals), ("unicode.CaseRanges", Rows.laid_unicode_CaseRanges), ("unicode/utf8.first", Rows.laid_unicode_utf8_first)]
def laidL : List (String × DataW Unit) := [("math/bits.deBruijn32tab", Rows.laid_math_bits_deBruijn32tab), ("math/bits.deBruijn64tab", Rows.laid_math_bits_deBruijn64tab), ("internal/strconv.uint64pow10", Rows.laid_internal_strconv_uint64pow10), ("unicode/utf8.acceptRanges", Rows.laid_unicode_utf8_acceptRanges), ("errors.errorType", Rows.laid_errors_errorType), ("stet/count.numerals", Rows.laid_stet_count_numerals), ("unicode.CaseRanges", Rows.laid_unicode_CaseRanges), ("unicode/utf8.first", Rows.laid_unicode_utf8_first)]
theorem laidL_data : (laidL.filter fun x => x.2.handleName?.isNone) = laidD := by kernel_rfl
theorem gErr : Tryz.prog.globalNamed "errors.errorType" = some 2 := by kernel_rfl
theorem rtErr : (Tryz.prog.cutTypes.find? (·.1 == "internal/reflectlite.rtype")).map (·.2) = some 204 := by kernel_rfl
theorem oneErr : ((List.range Tryz.prog.types.size).filter fun t => Tryz.prog.rowNamed t [101, 114, 114, 111, 114]) = [105] := by kernel_rfl
set_option maxRecDepth 100000 in
theorem err_of {W : World} (h : handlesMet Tryz.prog [("errors.errorType", Rows.laid_errors_errorType)] W) : W.cell? ⟨2, 0, none⟩ = some (.iface 204 (.agg #[asErr.hd 105])) := by
  obtain ⟨name, u, ty, e1, e2, e3, e4, e5⟩ := h _ (List.mem_singleton.2 rfl)
  have en : name = [101, 114, 114, 111, 114] := (Option.some.inj e1).symm
  subst en
  obtain rfl := Option.some.inj (rtErr.symm.trans e2)
  have hm : ty ∈ (List.range Tryz.prog.types.size).filter fun t => Tryz.prog.rowNamed t [101, 114, 114, 111, 114] := List.mem_filter.2 ⟨List.mem_range.2 e3, e4⟩
  rw [oneErr] at hm
  obtain rfl := List.mem_singleton.1 hm
  have hh : typeHandle Tryz.prog 105 = asErr.hd 105 := by kernel_rfl
  rw [hh] at e5
  simpa using World.var?_cell gErr e5 0
theorem laid10_of {W : World} (hD : laidMet Tryz.prog laidD W) (hH : handlesMet Tryz.prog [("errors.errorType", Rows.laid_errors_errorType)] W) : Laid10 W where
  cnt := laid01_of (laidMet.reads hD (List.mem_of_getElem? (i := 2) rfl)) (laidMet.reads hD (List.mem_of_getElem? (i := 3) rfl)) (laidMet.reads hD (List.mem_of_getElem? (i := 4) rfl)) (laidMet.reads hD (List.mem_of_getElem? (i := 5) rfl)) (laidMet.reads hD (List.mem_of_getElem? (i := 6) rfl))
  err := err_of hH
theorem laidL_of {W : World} (h : laidMetH Tryz.prog laidL W) : Laid10 W := by
  have h' : laidMet Tryz.prog laidD W ∧ handlesMet Tryz.prog [("errors.errorType", Rows.laid_errors_errorType)] W := h
  exact laid10_of h'.1 h'.2
/-- the settled world, the handle's cell laid -/
noncomputable def world0 (os : Os) : World :=
  let w0 := World.holding Tryz.prog os ⟨#[], #[], []⟩
  { w0 with heap := w0.heap.modify 2 fun
      | .cells _ t frozen => .cells #[.iface 204 (.agg #[asErr.hd 105])] t frozen
      | o => o }
noncomputable def world10 (os : Os) : World := (world0 os).layVars Tryz.prog laidD
theorem world10_os (os : Os) : (world10 os).os = os := World.layVars_os _ _ _
set_option maxRecDepth 100000 in
theorem world10_data (os : Os) (args : Array Value) : laidMet Tryz.prog laidD ((world10 os).forCall (fun _ _ => 0) ⟨#[], args, []⟩).memory := by
  have e1 : (laidD.filter fun x => (laidD.map (·.1)).contains x.1) = laidD := List.filter_eq_self.2 fun x hx => List.contains_iff_mem.2 (List.mem_map.2 ⟨x, hx, rfl⟩)
  have e2 : (laidD.filter fun x => !(laidD.map (·.1)).contains x.1) = [] := List.filter_eq_nil_iff.2 fun x hx => by rw [List.contains_iff_mem.2 (List.mem_map.2 ⟨x, hx, rfl⟩)]; simp
  have h : laidMet Tryz.prog laidD (world10 os) := laidMet_layVars (w0 := world0 os) (laidD.map (·.1)) [] (by rw [e1]; rfl) (by rw [e1]; kernel_rfl) (by rw [e1]; kernel_rfl) (by rw [e2]; exact LaidIn.none)
  exact h.of_heap (by simp [World.memory, World.forCall, Input.heap])
set_option maxRecDepth 100000 in
theorem world10_met (os : Os) (args : Array Value) : laidMetH Tryz.prog laidL ((world10 os).forCall (fun _ _ => 0) ⟨#[], args, []⟩).memory :=
  laidMetH_of_parts (by rw [laidL_data]; exact world10_data os args) (by kernel_rfl)
set_option maxRecDepth 100000 in
theorem world10_shaped (os : Os) (args : Array Value) : ((world10 os).forCall (fun _ _ => 0) ⟨#[], args, []⟩).Shaped Tryz.prog := World.shaped_of_ZipB (by kernel_rfl) (by kernel_rfl)
end Go.Proofs.YthoblbdkmlggbaaGreatDoor
