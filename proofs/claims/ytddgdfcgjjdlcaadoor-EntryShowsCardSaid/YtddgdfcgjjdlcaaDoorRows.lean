/-
  NARROWER THAN 'FOR EVERY INPUT', by the rows' own cells (each row's printed sentence says how): EntryShows: laid · EntryBack: laid · EntryKeys: laid · EntryTwo: laid · EntryStands: laid.
  DERIVED. THE GIVEN ROWS OF THIS SEAT. 5 by the template 'for every input the law returns true; each argument reads behind the call as it read before'; 0 by the template 'total and deterministic' (their statements: YtddgdfcgjjdlcaaDoorTotals.lean).
  GIVEN WITH THE SEED: the statements are not yours to turn. If you find one false, say at which input.
  Laid BY PROGRAM, IN A SANDBOX (cutbox-rows.mjs): the forced cells as the released guide's own fill.sh prints them over the translation 0abb6bb1359f6614… (all of the seat's roots in one cut). By AI agents, Wed Nov 11 2026. No macro, syntax, notation, axiom, sorry.
-/
import Derived.Test.YtddgdfcgjjdlcaaDoorChecked
import GoSem.PinnedTables
import GoSem.Claim
import GoSem.ClaimJoined
import GoSem.ClaimMapViews
import Derived.JoinedTies
import Derived.KernelRfl
namespace Go.Proofs.YtddgdfcgjjdlcaaDoor
/- THE CELL 'sum', in the pinned program and in every row, IS THE sha256 OF THE DUMP (.gsa) THAT YtddgdfcgjjdlcaaDoorProg.lean LOADS. Nothing in Lean hashes anything: it is a label: what it is worth is what the hold of that sum in a sandbox is worth. -/
noncomputable def Tryd.pinned : Pinned := { name := "ytddgdfcgjjdlcaadoor", sum := "0abb6bb1359f661445e02fc4ddb492a9d2c82ffb6e52b362cf3d7d65b5a1df81", checked := Tryd.checked }
namespace Rows
def none {H : Type} : Left H := { results := [], args := [] }

/- WHAT THE LISTED PACKAGE-LEVEL VARIABLES READ AS WHEN THE CALL BEGINS. Each datum BY PROGRAM (the guide's laid-datum.mjs) off the statement by which the dump's own 'gosem.cut.vars' lays the variable. In a bare row this is a premise. The card (YtddgdfcgjjdlcaaDoorCards.lean) ties it to the program's text. -/
def laid_unicode_utf8_acceptRanges {H : Type} : DataW H := .agg [.agg [.lit (.int .u8 128), .lit (.int .u8 191)], .agg [.lit (.int .u8 160), .lit (.int .u8 191)], .agg [.lit (.int .u8 128), .lit (.int .u8 159)], .agg [.lit (.int .u8 144), .lit (.int .u8 191)], .agg [.lit (.int .u8 128), .lit (.int .u8 143)], .agg [.lit (.int .u8 0), .lit (.int .u8 0)], .agg [.lit (.int .u8 0), .lit (.int .u8 0)], .agg [.lit (.int .u8 0), .lit (.int .u8 0)], .agg [.lit (.int .u8 0), .lit (.int .u8 0)], .agg [.lit (.int .u8 0), .lit (.int .u8 0)], .agg [.lit (.int .u8 0), .lit (.int .u8 0)], .agg [.lit (.int .u8 0), .lit (.int .u8 0)], .agg [.lit (.int .u8 0), .lit (.int .u8 0)], .agg [.lit (.int .u8 0), .lit (.int .u8 0)], .agg [.lit (.int .u8 0), .lit (.int .u8 0)], .agg [.lit (.int .u8 0), .lit (.int .u8 0)]]
/-- One of Go's own tables, pinned by name: the form's constant. -/
def laid_unicode_utf8_first : DataW Unit := Go.Pinned.utf8First

/-- 'stetlaw15.EntryShows': WHATEVER THE INPUT: true; the input reads as it did. -/
def entryShowsSpec : ChangeSpec := { name := "entryShows", fn := fun _ => fun
  | [d1, d2] => { results := [.lit (.bool true)], args := [d1, d2] }
  | _ => none }
def entryShowsRow : OpenClaim := { program := "ytddgdfcgjjdlcaadoor", sum := "0abb6bb1359f661445e02fc4ddb492a9d2c82ffb6e52b362cf3d7d65b5a1df81", func := "stet/stetlaw15.EntryShows", spec := "entryShows", inPlace := ["internal/bytealg.IndexByteString", "internal/bytealg.IndexString"], unfollowed := true, recurses := true, named := ["unicode/utf8.first", "unicode/utf8.acceptRanges", "internal/bytealg.MaxLen"], apart := false, laid := [("unicode/utf8.acceptRanges", laid_unicode_utf8_acceptRanges), ("unicode/utf8.first", laid_unicode_utf8_first)] }
def EntryShowsSaid : Prop := entryShowsRow.holds Tryd.pinned (OpenSpec.ofChange entryShowsSpec)

/-- ITS FALSE NEIGHBOUR: 'it returns false'. Refute it at one input. -/
def entryShowsWrong : ChangeSpec := { name := "entryShows", fn := fun _ => fun
  | [d1, d2] => { results := [.lit (.bool false)], args := [d1, d2] }
  | _ => none }
def EntryShowsWrongFalsely : Prop := entryShowsRow.holds Tryd.pinned (OpenSpec.ofChange entryShowsWrong)

/-- 'stetlaw15.EntryBack': WHATEVER THE INPUT: true; the input reads as it did. -/
def entryBackSpec : ChangeSpec := { name := "entryBack", fn := fun _ => fun
  | [d1, d2] => { results := [.lit (.bool true)], args := [d1, d2] }
  | _ => none }
def entryBackRow : OpenClaim := { program := "ytddgdfcgjjdlcaadoor", sum := "0abb6bb1359f661445e02fc4ddb492a9d2c82ffb6e52b362cf3d7d65b5a1df81", func := "stet/stetlaw15.EntryBack", spec := "entryBack", inPlace := ["internal/bytealg.IndexByteString", "internal/bytealg.IndexString"], unfollowed := true, recurses := true, named := ["unicode/utf8.first", "unicode/utf8.acceptRanges", "internal/bytealg.MaxLen"], apart := false, laid := [("unicode/utf8.acceptRanges", laid_unicode_utf8_acceptRanges), ("unicode/utf8.first", laid_unicode_utf8_first)] }
def EntryBackSaid : Prop := entryBackRow.holds Tryd.pinned (OpenSpec.ofChange entryBackSpec)

/-- ITS FALSE NEIGHBOUR: 'it returns false'. Refute it at one input. -/
def entryBackWrong : ChangeSpec := { name := "entryBack", fn := fun _ => fun
  | [d1, d2] => { results := [.lit (.bool false)], args := [d1, d2] }
  | _ => none }
def EntryBackWrongFalsely : Prop := entryBackRow.holds Tryd.pinned (OpenSpec.ofChange entryBackWrong)

/-- 'stetlaw15.EntryKeys': WHATEVER THE INPUT: true; the input reads as it did. -/
def entryKeysSpec : ChangeSpec := { name := "entryKeys", fn := fun _ => fun
  | [d] => { results := [.lit (.bool true)], args := [d] }
  | _ => none }
def entryKeysRow : OpenClaim := { program := "ytddgdfcgjjdlcaadoor", sum := "0abb6bb1359f661445e02fc4ddb492a9d2c82ffb6e52b362cf3d7d65b5a1df81", func := "stet/stetlaw15.EntryKeys", spec := "entryKeys", inPlace := ["internal/bytealg.IndexByteString", "internal/bytealg.IndexString"], unfollowed := true, recurses := true, named := ["unicode/utf8.first", "unicode/utf8.acceptRanges", "internal/bytealg.MaxLen"], apart := false, laid := [("unicode/utf8.acceptRanges", laid_unicode_utf8_acceptRanges), ("unicode/utf8.first", laid_unicode_utf8_first)] }
def EntryKeysSaid : Prop := entryKeysRow.holds Tryd.pinned (OpenSpec.ofChange entryKeysSpec)

/-- ITS FALSE NEIGHBOUR: 'it returns false'. Refute it at one input. -/
def entryKeysWrong : ChangeSpec := { name := "entryKeys", fn := fun _ => fun
  | [d] => { results := [.lit (.bool false)], args := [d] }
  | _ => none }
def EntryKeysWrongFalsely : Prop := entryKeysRow.holds Tryd.pinned (OpenSpec.ofChange entryKeysWrong)

/-- 'stetlaw15.EntryTwo': WHATEVER THE INPUT: true; the input reads as it did. -/
def entryTwoSpec : ChangeSpec := { name := "entryTwo", fn := fun _ => fun
  | [d1, d2] => { results := [.lit (.bool true)], args := [d1, d2] }
  | _ => none }
def entryTwoRow : OpenClaim := { program := "ytddgdfcgjjdlcaadoor", sum := "0abb6bb1359f661445e02fc4ddb492a9d2c82ffb6e52b362cf3d7d65b5a1df81", func := "stet/stetlaw15.EntryTwo", spec := "entryTwo", inPlace := ["internal/bytealg.IndexByteString", "internal/bytealg.IndexString"], unfollowed := true, recurses := true, named := ["unicode/utf8.first", "unicode/utf8.acceptRanges", "internal/bytealg.MaxLen"], apart := false, laid := [("unicode/utf8.acceptRanges", laid_unicode_utf8_acceptRanges), ("unicode/utf8.first", laid_unicode_utf8_first)] }
def EntryTwoSaid : Prop := entryTwoRow.holds Tryd.pinned (OpenSpec.ofChange entryTwoSpec)

/-- ITS FALSE NEIGHBOUR: 'it returns false'. Refute it at one input. -/
def entryTwoWrong : ChangeSpec := { name := "entryTwo", fn := fun _ => fun
  | [d1, d2] => { results := [.lit (.bool false)], args := [d1, d2] }
  | _ => none }
def EntryTwoWrongFalsely : Prop := entryTwoRow.holds Tryd.pinned (OpenSpec.ofChange entryTwoWrong)

/-- 'stetlaw15.EntryStands': WHATEVER THE INPUT: true; the input reads as it did. -/
def entryStandsSpec : ChangeSpec := { name := "entryStands", fn := fun _ => fun
  | [d] => { results := [.lit (.bool true)], args := [d] }
  | _ => none }
def entryStandsRow : OpenClaim := { program := "ytddgdfcgjjdlcaadoor", sum := "0abb6bb1359f661445e02fc4ddb492a9d2c82ffb6e52b362cf3d7d65b5a1df81", func := "stet/stetlaw15.EntryStands", spec := "entryStands", inPlace := ["internal/bytealg.IndexByteString", "internal/bytealg.IndexString"], unfollowed := true, recurses := true, named := ["unicode/utf8.first", "unicode/utf8.acceptRanges", "internal/bytealg.MaxLen"], apart := false, laid := [("unicode/utf8.acceptRanges", laid_unicode_utf8_acceptRanges), ("unicode/utf8.first", laid_unicode_utf8_first)] }
def EntryStandsSaid : Prop := entryStandsRow.holds Tryd.pinned (OpenSpec.ofChange entryStandsSpec)

/-- ITS FALSE NEIGHBOUR: 'it returns false'. Refute it at one input. -/
def entryStandsWrong : ChangeSpec := { name := "entryStands", fn := fun _ => fun
  | [d] => { results := [.lit (.bool false)], args := [d] }
  | _ => none }
def EntryStandsWrongFalsely : Prop := entryStandsRow.holds Tryd.pinned (OpenSpec.ofChange entryStandsWrong)

/- THE SECOND FORM. 'bulk': how many values and letters a reading holds, each counted each time it is reached (what is shared counts as often as it is met; a slice's spare places count too). A statement '..UptoSaid' is the law's where the arguments, and the package variables that the reading takes, are together of bulk at most 1048576: NARROWER than '..Said'. Prove '..Said' where nothing that the law and all that it calls make is longer than what came in: it says more and counts as full. Else prove '..UptoSaid'. A law counts once. -/
mutual
def uptoBulk {H : Type} : DataW H → Nat
  | .lit (.string bytes) => bytes.length + 1
  | .lit _ => 1
  | .nil => 1
  | .ptr d => uptoBulk d + 1
  | .slice elems spare => uptoBulkAll elems + uptoBulkAll spare + 1
  | .agg parts => uptoBulkAll parts + 1
  | .iface _ d => uptoBulk d + 1
  | .map entries => uptoBulkEntries entries + 1
  | .held _ => 1
def uptoBulkAll {H : Type} : List (DataW H) → Nat
  | [] => 0
  | d :: r => uptoBulk d + uptoBulkAll r
def uptoBulkEntries {H : Type} : List (Lit × DataW H) → Nat
  | [] => 0
  | x :: r => uptoBulkEntry x + uptoBulkEntries r
def uptoBulkEntry {H : Type} : Lit × DataW H → Nat
  | (.string bytes, d) => bytes.length + uptoBulk d + 1
  | (_, d) => uptoBulk d + 1
 end
def uptoSmall : (H : Type) → List (DataW H) → Bool := fun _ ds => decide (uptoBulkAll ds ≤ 1048576)
def OpenSpec.upto (s : _root_.Go.ChangeSpec) : _root_.Go.OpenSpec := { _root_.Go.OpenSpec.ofChange s with cond := some uptoSmall }

/-- 'stetlaw15.EntryShows', WHERE WHAT IT READS IS OF BULK AT MOST 1048576: true; the input reads as it did. -/
def entryShowsUptoRow : OpenClaim := { program := "ytddgdfcgjjdlcaadoor", sum := "0abb6bb1359f661445e02fc4ddb492a9d2c82ffb6e52b362cf3d7d65b5a1df81", func := "stet/stetlaw15.EntryShows", spec := "entryShows", inPlace := ["internal/bytealg.IndexByteString", "internal/bytealg.IndexString"], unfollowed := true, recurses := true, named := ["unicode/utf8.first", "unicode/utf8.acceptRanges", "internal/bytealg.MaxLen"], apart := false, laid := [("unicode/utf8.acceptRanges", laid_unicode_utf8_acceptRanges), ("unicode/utf8.first", laid_unicode_utf8_first)], narrowed := true }
def EntryShowsUptoSaid : Prop := entryShowsUptoRow.holds Tryd.pinned (OpenSpec.upto entryShowsSpec)

/-- 'stetlaw15.EntryBack', WHERE WHAT IT READS IS OF BULK AT MOST 1048576: true; the input reads as it did. -/
def entryBackUptoRow : OpenClaim := { program := "ytddgdfcgjjdlcaadoor", sum := "0abb6bb1359f661445e02fc4ddb492a9d2c82ffb6e52b362cf3d7d65b5a1df81", func := "stet/stetlaw15.EntryBack", spec := "entryBack", inPlace := ["internal/bytealg.IndexByteString", "internal/bytealg.IndexString"], unfollowed := true, recurses := true, named := ["unicode/utf8.first", "unicode/utf8.acceptRanges", "internal/bytealg.MaxLen"], apart := false, laid := [("unicode/utf8.acceptRanges", laid_unicode_utf8_acceptRanges), ("unicode/utf8.first", laid_unicode_utf8_first)], narrowed := true }
def EntryBackUptoSaid : Prop := entryBackUptoRow.holds Tryd.pinned (OpenSpec.upto entryBackSpec)

/-- 'stetlaw15.EntryKeys', WHERE WHAT IT READS IS OF BULK AT MOST 1048576: true; the input reads as it did. -/
def entryKeysUptoRow : OpenClaim := { program := "ytddgdfcgjjdlcaadoor", sum := "0abb6bb1359f661445e02fc4ddb492a9d2c82ffb6e52b362cf3d7d65b5a1df81", func := "stet/stetlaw15.EntryKeys", spec := "entryKeys", inPlace := ["internal/bytealg.IndexByteString", "internal/bytealg.IndexString"], unfollowed := true, recurses := true, named := ["unicode/utf8.first", "unicode/utf8.acceptRanges", "internal/bytealg.MaxLen"], apart := false, laid := [("unicode/utf8.acceptRanges", laid_unicode_utf8_acceptRanges), ("unicode/utf8.first", laid_unicode_utf8_first)], narrowed := true }
def EntryKeysUptoSaid : Prop := entryKeysUptoRow.holds Tryd.pinned (OpenSpec.upto entryKeysSpec)

/-- 'stetlaw15.EntryTwo', WHERE WHAT IT READS IS OF BULK AT MOST 1048576: true; the input reads as it did. -/
def entryTwoUptoRow : OpenClaim := { program := "ytddgdfcgjjdlcaadoor", sum := "0abb6bb1359f661445e02fc4ddb492a9d2c82ffb6e52b362cf3d7d65b5a1df81", func := "stet/stetlaw15.EntryTwo", spec := "entryTwo", inPlace := ["internal/bytealg.IndexByteString", "internal/bytealg.IndexString"], unfollowed := true, recurses := true, named := ["unicode/utf8.first", "unicode/utf8.acceptRanges", "internal/bytealg.MaxLen"], apart := false, laid := [("unicode/utf8.acceptRanges", laid_unicode_utf8_acceptRanges), ("unicode/utf8.first", laid_unicode_utf8_first)], narrowed := true }
def EntryTwoUptoSaid : Prop := entryTwoUptoRow.holds Tryd.pinned (OpenSpec.upto entryTwoSpec)

/-- 'stetlaw15.EntryStands', WHERE WHAT IT READS IS OF BULK AT MOST 1048576: true; the input reads as it did. -/
def entryStandsUptoRow : OpenClaim := { program := "ytddgdfcgjjdlcaadoor", sum := "0abb6bb1359f661445e02fc4ddb492a9d2c82ffb6e52b362cf3d7d65b5a1df81", func := "stet/stetlaw15.EntryStands", spec := "entryStands", inPlace := ["internal/bytealg.IndexByteString", "internal/bytealg.IndexString"], unfollowed := true, recurses := true, named := ["unicode/utf8.first", "unicode/utf8.acceptRanges", "internal/bytealg.MaxLen"], apart := false, laid := [("unicode/utf8.acceptRanges", laid_unicode_utf8_acceptRanges), ("unicode/utf8.first", laid_unicode_utf8_first)], narrowed := true }
def EntryStandsUptoSaid : Prop := entryStandsUptoRow.holds Tryd.pinned (OpenSpec.upto entryStandsSpec)

end Rows
end Go.Proofs.YtddgdfcgjjdlcaaDoor
