/-
  DERIVED. GIVEN WITH THE SEED: THE CARDS: each row of YtddgdfcgjjdlcaaDoorRows.lean that lists a variable, with what it lists TIED to the program's text (the seventh form; the later family's looks); each row that meets fmt, with fmt's text TOLD by the authors' own Lean function (tested against real Go, not proved from fmt's source: count such statements apart). THE CARD IS WHAT COUNTS. Prove the row's statement (the work); the ties are given (YtddgdfcgjjdlcaaDoorTie.lean); close each card by the builder's one call (the guide's Derived/Test/ToyasCard.lean, 'card_holds'). Laid BY PROGRAM, IN A SANDBOX (cutbox-door.mjs). By AI agents, Wed Nov 11 2026. No macro, syntax, notation, axiom, sorry.
-/
import Derived.Test.YtddgdfcgjjdlcaaDoorRows
import GoSem.ClaimSeven
namespace Go.Proofs.YtddgdfcgjjdlcaaDoor
namespace Rows

/-- THE TIED CARD OF 'stetlaw15.EntryShows'. -/
def entryShowsCard : Claim7 := { stood := { row := entryShowsRow, standIns := [], harness := (true, "8aa5f3f4e308732027ffe6bf7c20deef4e1fc806fffbee40d8d42e491aa097b1"), looks := true }, kinds := [], alts := [], laidByText := true, laidKinds := [.data, .pinned], laidTests := true, laidLooks := .later }
def EntryShowsCardSaid : Prop := Claim7.holds Tryd.pinned (.plain (OpenSpec.ofChange entryShowsSpec)) entryShowsCard

/-- THE TIED CARD OF 'stetlaw15.EntryBack'. -/
def entryBackCard : Claim7 := { stood := { row := entryBackRow, standIns := [], harness := (true, "8aa5f3f4e308732027ffe6bf7c20deef4e1fc806fffbee40d8d42e491aa097b1"), looks := true }, kinds := [], alts := [], laidByText := true, laidKinds := [.data, .pinned], laidTests := true, laidLooks := .later }
def EntryBackCardSaid : Prop := Claim7.holds Tryd.pinned (.plain (OpenSpec.ofChange entryBackSpec)) entryBackCard

/-- THE TIED CARD OF 'stetlaw15.EntryKeys'. -/
def entryKeysCard : Claim7 := { stood := { row := entryKeysRow, standIns := [], harness := (true, "8aa5f3f4e308732027ffe6bf7c20deef4e1fc806fffbee40d8d42e491aa097b1"), looks := true }, kinds := [], alts := [], laidByText := true, laidKinds := [.data, .pinned], laidTests := true, laidLooks := .later }
def EntryKeysCardSaid : Prop := Claim7.holds Tryd.pinned (.plain (OpenSpec.ofChange entryKeysSpec)) entryKeysCard

/-- THE TIED CARD OF 'stetlaw15.EntryTwo'. -/
def entryTwoCard : Claim7 := { stood := { row := entryTwoRow, standIns := [], harness := (true, "8aa5f3f4e308732027ffe6bf7c20deef4e1fc806fffbee40d8d42e491aa097b1"), looks := true }, kinds := [], alts := [], laidByText := true, laidKinds := [.data, .pinned], laidTests := true, laidLooks := .later }
def EntryTwoCardSaid : Prop := Claim7.holds Tryd.pinned (.plain (OpenSpec.ofChange entryTwoSpec)) entryTwoCard

/-- THE TIED CARD OF 'stetlaw15.EntryStands'. -/
def entryStandsCard : Claim7 := { stood := { row := entryStandsRow, standIns := [], harness := (true, "8aa5f3f4e308732027ffe6bf7c20deef4e1fc806fffbee40d8d42e491aa097b1"), looks := true }, kinds := [], alts := [], laidByText := true, laidKinds := [.data, .pinned], laidTests := true, laidLooks := .later }
def EntryStandsCardSaid : Prop := Claim7.holds Tryd.pinned (.plain (OpenSpec.ofChange entryStandsSpec)) entryStandsCard

/-- THE SECOND FORM's CARD OF 'stetlaw15.EntryShows'. -/
def entryShowsUptoCard : Claim7 := { stood := { row := entryShowsUptoRow, standIns := [], harness := (true, "8aa5f3f4e308732027ffe6bf7c20deef4e1fc806fffbee40d8d42e491aa097b1"), looks := true }, kinds := [], alts := [], laidByText := true, laidKinds := [.data, .pinned], laidTests := true, laidLooks := .later }
def EntryShowsUptoCardSaid : Prop := Claim7.holds Tryd.pinned (.plain (OpenSpec.upto entryShowsSpec)) entryShowsUptoCard

/-- THE SECOND FORM's CARD OF 'stetlaw15.EntryBack'. -/
def entryBackUptoCard : Claim7 := { stood := { row := entryBackUptoRow, standIns := [], harness := (true, "8aa5f3f4e308732027ffe6bf7c20deef4e1fc806fffbee40d8d42e491aa097b1"), looks := true }, kinds := [], alts := [], laidByText := true, laidKinds := [.data, .pinned], laidTests := true, laidLooks := .later }
def EntryBackUptoCardSaid : Prop := Claim7.holds Tryd.pinned (.plain (OpenSpec.upto entryBackSpec)) entryBackUptoCard

/-- THE SECOND FORM's CARD OF 'stetlaw15.EntryKeys'. -/
def entryKeysUptoCard : Claim7 := { stood := { row := entryKeysUptoRow, standIns := [], harness := (true, "8aa5f3f4e308732027ffe6bf7c20deef4e1fc806fffbee40d8d42e491aa097b1"), looks := true }, kinds := [], alts := [], laidByText := true, laidKinds := [.data, .pinned], laidTests := true, laidLooks := .later }
def EntryKeysUptoCardSaid : Prop := Claim7.holds Tryd.pinned (.plain (OpenSpec.upto entryKeysSpec)) entryKeysUptoCard

/-- THE SECOND FORM's CARD OF 'stetlaw15.EntryTwo'. -/
def entryTwoUptoCard : Claim7 := { stood := { row := entryTwoUptoRow, standIns := [], harness := (true, "8aa5f3f4e308732027ffe6bf7c20deef4e1fc806fffbee40d8d42e491aa097b1"), looks := true }, kinds := [], alts := [], laidByText := true, laidKinds := [.data, .pinned], laidTests := true, laidLooks := .later }
def EntryTwoUptoCardSaid : Prop := Claim7.holds Tryd.pinned (.plain (OpenSpec.upto entryTwoSpec)) entryTwoUptoCard

/-- THE SECOND FORM's CARD OF 'stetlaw15.EntryStands'. -/
def entryStandsUptoCard : Claim7 := { stood := { row := entryStandsUptoRow, standIns := [], harness := (true, "8aa5f3f4e308732027ffe6bf7c20deef4e1fc806fffbee40d8d42e491aa097b1"), looks := true }, kinds := [], alts := [], laidByText := true, laidKinds := [.data, .pinned], laidTests := true, laidLooks := .later }
def EntryStandsUptoCardSaid : Prop := Claim7.holds Tryd.pinned (.plain (OpenSpec.upto entryStandsSpec)) entryStandsUptoCard
end Rows
end Go.Proofs.YtddgdfcgjjdlcaaDoor
