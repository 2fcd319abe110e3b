/- What the rows' lists give: the variables hold what counters' texts lean on. -/
import Derived.Test.YtcpckgkimelhmaaDoorRows
import Derived.Test.YtcpckgkimelhmaaDoorCntW3
import Derived.Test.YtcpckgkimelhmaaDoorLaidS
namespace Go.Proofs.YtcpckgkimelhmaaDoor
open Go.RowKit Go.Lib

theorem u8x : U8Extra Tryd.prog Tryd.lays260_ren := ⟨by kernel_rfl, by kernel_rfl, by kernel_rfl, by kernel_rfl, by kernel_rfl, by kernel_rfl, by kernel_rfl⟩
theorem casex : CaseExtra Tryd.prog Tryd.lays159_ren := ⟨by kernel_rfl, by kernel_rfl, by kernel_rfl, by kernel_rfl, by kernel_rfl, by kernel_rfl⟩
theorem accept_eq : (Rows.laid_unicode_utf8_acceptRanges : DataW Unit) = acceptData := by kernel_rfl
theorem pow_eq : (Rows.laid_internal_strconv_uint64pow10 : DataW Unit) = tabData .u64 pow10Tab := by kernel_rfl
theorem num_cells : plainCells Tryd.prog 8 57 Rows.laid_stet_count_numerals = some numCells.toList := by kernel_rfl

theorem laid01_of {W : World} (hp : VarReads Tryd.prog W "internal/strconv.uint64pow10" Rows.laid_internal_strconv_uint64pow10) (ha : VarReads Tryd.prog W "unicode/utf8.acceptRanges" Rows.laid_unicode_utf8_acceptRanges)
    (hn : VarReads Tryd.prog W "stet/count.numerals" Rows.laid_stet_count_numerals) (hc : VarReads Tryd.prog W "unicode.CaseRanges" Rows.laid_unicode_CaseRanges) (hu : VarReads Tryd.prog W "unicode/utf8.first" Rows.laid_unicode_utf8_first) : Laid01 W where
  num := cells_of_reads (g := 0) (t := 57) (f := 8) (by kernel_rfl) (by kernel_rfl) num_cells hn
  pow := tabIs_of_reads (g := 5) (by kernel_rfl) (by kernel_rfl) Tryd.underlying91 Tryd.underlying76 (by kernel_rfl) (by kernel_rfl) (pow_eq ▸ hp)
  cas := caseVar_of_reads { Tryd.lays159 with } Tryd.underlying95 casex (by unfold Rows.laid_unicode_CaseRanges at hc; rw [Pinned.caseRanges_eq] at hc; exact hc)
  utf := utf8Tabs_of_readsT (U8Types.of260 Tryd.lays260) u8x (by unfold Rows.laid_unicode_utf8_first at hu; rw [Pinned.utf8First_eq] at hu; exact hu) (accept_eq ▸ ha)
end Go.Proofs.YtcpckgkimelhmaaDoor
