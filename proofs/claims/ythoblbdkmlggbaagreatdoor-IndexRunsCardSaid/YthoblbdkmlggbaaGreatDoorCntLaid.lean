/- What the rows' lists give: the variables hold what counters' texts lean on. -/
import Derived.Test.YthoblbdkmlggbaaGreatDoorRows
import Derived.Test.YthoblbdkmlggbaaGreatDoorKC
import Derived.Test.YthoblbdkmlggbaaGreatDoorLaidS
set_option linter.unusedSimpArgs false
set_option linter.unusedVariables false
namespace Go.Proofs.YthoblbdkmlggbaaGreatDoor
open Go.RowKit Go.Lib

theorem u8x : U8Extra Tryz.prog Tryz.lays260_ren := ⟨by kernel_rfl, by kernel_rfl, by kernel_rfl, by kernel_rfl, by kernel_rfl, by kernel_rfl, by kernel_rfl⟩
theorem casex : CaseExtra Tryz.prog Tryz.lays159_ren := ⟨by kernel_rfl, by kernel_rfl, by kernel_rfl, by kernel_rfl, by kernel_rfl, by kernel_rfl⟩
theorem accept_eq : (Rows.laid_unicode_utf8_acceptRanges : DataW Unit) = acceptData := by kernel_rfl
theorem pow_eq : (Rows.laid_internal_strconv_uint64pow10 : DataW Unit) = tabData .u64 pow10Tab := by kernel_rfl
theorem num_cells : plainCells Tryz.prog 8 165 Rows.laid_stet_count_numerals = some numCells.toList := by kernel_rfl

theorem laid01_of {W : World} (hp : VarReads Tryz.prog W "internal/strconv.uint64pow10" Rows.laid_internal_strconv_uint64pow10) (ha : VarReads Tryz.prog W "unicode/utf8.acceptRanges" Rows.laid_unicode_utf8_acceptRanges)
    (hn : VarReads Tryz.prog W "stet/count.numerals" Rows.laid_stet_count_numerals) (hc : VarReads Tryz.prog W "unicode.CaseRanges" Rows.laid_unicode_CaseRanges) (hu : VarReads Tryz.prog W "unicode/utf8.first" Rows.laid_unicode_utf8_first) : Laid01 W where
  num := cells_of_reads (g := 1) (t := 165) (f := 8) (by kernel_rfl) (by kernel_rfl) num_cells hn
  pow := tabIs_of_reads (g := 3) (by kernel_rfl) (by kernel_rfl) Tryz.underlying201 Tryz.underlying134 (by kernel_rfl) (by kernel_rfl) (pow_eq ▸ hp)
  cas := caseVar_of_reads { Tryz.lays159 with } Tryz.underlying234 casex (by unfold Rows.laid_unicode_CaseRanges at hc; rw [Pinned.caseRanges_eq] at hc; exact hc)
  utf := utf8Tabs_of_readsT (U8Types.of260 Tryz.lays260) u8x (by unfold Rows.laid_unicode_utf8_first at hu; rw [Pinned.utf8First_eq] at hu; exact hu) (accept_eq ▸ ha)
end Go.Proofs.YthoblbdkmlggbaaGreatDoor
