/-
  DERIVED. GIVEN WITH THE SEED: THE CARDS: each row of YthoblbdkmlggbaaGreatDoorRows.lean that lists a variable, with what it lists TIED to the program's text (the seventh form; the later family's looks); each row that meets fmt, with fmt's text TOLD by the authors' own Lean function (tested against real Go, not proved from fmt's source: count such statements apart). THE CARD IS WHAT COUNTS. Prove the row's statement (the work); the ties are given (YthoblbdkmlggbaaGreatDoorTie.lean); close each card by the builder's one call (the guide's Derived/Test/ToyasCard.lean, 'card_holds'). Laid BY PROGRAM, IN A SANDBOX (cutbox-door.mjs). By AI agents, Wed Nov 11 2026. No macro, syntax, notation, axiom, sorry.
-/
import Derived.Test.YthoblbdkmlggbaaGreatDoorRows
import GoSem.ClaimSeven
namespace Go.Proofs.YthoblbdkmlggbaaGreatDoor
namespace Rows

/-- THE TIED CARD OF 'stetlaw19.IndexTells'. -/
def indexTellsCard : Claim7 := { stood := { row := indexTellsRow, standIns := [], harness := (true, "631830efbfd1615488c28608a0d73aae3a785724bf895cf524531243eeb4d2be"), looks := true }, kinds := [], alts := [], laidByText := true, laidKinds := [.data, .data, .data, .data, .handle, .data, .pinned, .pinned], laidTests := true, laidLooks := .later }
def IndexTellsCardSaid : Prop := Claim7.holds Tryz.pinned (.plain (OpenSpec.ofChange indexTellsSpec)) indexTellsCard

/-- THE TIED CARD OF 'stetlaw19.IndexOrder'. -/
def indexOrderCard : Claim7 := { stood := { row := indexOrderRow, standIns := [], harness := (true, "631830efbfd1615488c28608a0d73aae3a785724bf895cf524531243eeb4d2be"), looks := true }, kinds := [], alts := [], laidByText := true, laidKinds := [.data, .data, .data, .data, .handle, .data, .pinned, .pinned], laidTests := true, laidLooks := .later }
def IndexOrderCardSaid : Prop := Claim7.holds Tryz.pinned (.plain (OpenSpec.ofChange indexOrderSpec)) indexOrderCard

/-- THE TIED CARD OF 'stetlaw19.IndexPages'. -/
def indexPagesCard : Claim7 := { stood := { row := indexPagesRow, standIns := [], harness := (true, "631830efbfd1615488c28608a0d73aae3a785724bf895cf524531243eeb4d2be"), looks := true }, kinds := [], alts := [], laidByText := true, laidKinds := [.data, .data, .data, .data, .handle, .data, .pinned, .pinned], laidTests := true, laidLooks := .later }
def IndexPagesCardSaid : Prop := Claim7.holds Tryz.pinned (.plain (OpenSpec.ofChange indexPagesSpec)) indexPagesCard

/-- THE TIED CARD OF 'stetlaw19.IndexWords'. -/
def indexWordsCard : Claim7 := { stood := { row := indexWordsRow, standIns := [], harness := (true, "631830efbfd1615488c28608a0d73aae3a785724bf895cf524531243eeb4d2be"), looks := true }, kinds := [], alts := [], laidByText := true, laidKinds := [.data, .data, .data, .data, .handle, .data, .pinned, .pinned], laidTests := true, laidLooks := .later }
def IndexWordsCardSaid : Prop := Claim7.holds Tryz.pinned (.plain (OpenSpec.ofChange indexWordsSpec)) indexWordsCard

/-- THE TIED CARD OF 'stetlaw19.IndexBack'. -/
def indexBackCard : Claim7 := { stood := { row := indexBackRow, standIns := [], harness := (true, "631830efbfd1615488c28608a0d73aae3a785724bf895cf524531243eeb4d2be"), looks := true }, kinds := [], alts := [], laidByText := true, laidKinds := [.data, .data, .data, .data, .handle, .data, .pinned, .pinned], laidTests := true, laidLooks := .later }
def IndexBackCardSaid : Prop := Claim7.holds Tryz.pinned (.plain (OpenSpec.ofChange indexBackSpec)) indexBackCard

/-- THE TIED CARD OF 'stetlaw19.IndexRuns'. -/
def indexRunsCard : Claim7 := { stood := { row := indexRunsRow, standIns := [], harness := (true, "631830efbfd1615488c28608a0d73aae3a785724bf895cf524531243eeb4d2be"), looks := true }, kinds := [], alts := [], laidByText := true, laidKinds := [.data, .data, .data, .data, .handle, .data, .pinned, .pinned], laidTests := true, laidLooks := .later }
def IndexRunsCardSaid : Prop := Claim7.holds Tryz.pinned (.plain (OpenSpec.ofChange indexRunsSpec)) indexRunsCard

/-- THE SECOND FORM's CARD OF 'stetlaw19.IndexTells'. -/
def indexTellsUptoCard : Claim7 := { stood := { row := indexTellsUptoRow, standIns := [], harness := (true, "631830efbfd1615488c28608a0d73aae3a785724bf895cf524531243eeb4d2be"), looks := true }, kinds := [], alts := [], laidByText := true, laidKinds := [.data, .data, .data, .data, .handle, .data, .pinned, .pinned], laidTests := true, laidLooks := .later }
def IndexTellsUptoCardSaid : Prop := Claim7.holds Tryz.pinned (.plain (OpenSpec.upto indexTellsSpec)) indexTellsUptoCard

/-- THE SECOND FORM's CARD OF 'stetlaw19.IndexOrder'. -/
def indexOrderUptoCard : Claim7 := { stood := { row := indexOrderUptoRow, standIns := [], harness := (true, "631830efbfd1615488c28608a0d73aae3a785724bf895cf524531243eeb4d2be"), looks := true }, kinds := [], alts := [], laidByText := true, laidKinds := [.data, .data, .data, .data, .handle, .data, .pinned, .pinned], laidTests := true, laidLooks := .later }
def IndexOrderUptoCardSaid : Prop := Claim7.holds Tryz.pinned (.plain (OpenSpec.upto indexOrderSpec)) indexOrderUptoCard

/-- THE SECOND FORM's CARD OF 'stetlaw19.IndexPages'. -/
def indexPagesUptoCard : Claim7 := { stood := { row := indexPagesUptoRow, standIns := [], harness := (true, "631830efbfd1615488c28608a0d73aae3a785724bf895cf524531243eeb4d2be"), looks := true }, kinds := [], alts := [], laidByText := true, laidKinds := [.data, .data, .data, .data, .handle, .data, .pinned, .pinned], laidTests := true, laidLooks := .later }
def IndexPagesUptoCardSaid : Prop := Claim7.holds Tryz.pinned (.plain (OpenSpec.upto indexPagesSpec)) indexPagesUptoCard

/-- THE SECOND FORM's CARD OF 'stetlaw19.IndexWords'. -/
def indexWordsUptoCard : Claim7 := { stood := { row := indexWordsUptoRow, standIns := [], harness := (true, "631830efbfd1615488c28608a0d73aae3a785724bf895cf524531243eeb4d2be"), looks := true }, kinds := [], alts := [], laidByText := true, laidKinds := [.data, .data, .data, .data, .handle, .data, .pinned, .pinned], laidTests := true, laidLooks := .later }
def IndexWordsUptoCardSaid : Prop := Claim7.holds Tryz.pinned (.plain (OpenSpec.upto indexWordsSpec)) indexWordsUptoCard

/-- THE SECOND FORM's CARD OF 'stetlaw19.IndexBack'. -/
def indexBackUptoCard : Claim7 := { stood := { row := indexBackUptoRow, standIns := [], harness := (true, "631830efbfd1615488c28608a0d73aae3a785724bf895cf524531243eeb4d2be"), looks := true }, kinds := [], alts := [], laidByText := true, laidKinds := [.data, .data, .data, .data, .handle, .data, .pinned, .pinned], laidTests := true, laidLooks := .later }
def IndexBackUptoCardSaid : Prop := Claim7.holds Tryz.pinned (.plain (OpenSpec.upto indexBackSpec)) indexBackUptoCard

/-- THE SECOND FORM's CARD OF 'stetlaw19.IndexRuns'. -/
def indexRunsUptoCard : Claim7 := { stood := { row := indexRunsUptoRow, standIns := [], harness := (true, "631830efbfd1615488c28608a0d73aae3a785724bf895cf524531243eeb4d2be"), looks := true }, kinds := [], alts := [], laidByText := true, laidKinds := [.data, .data, .data, .data, .handle, .data, .pinned, .pinned], laidTests := true, laidLooks := .later }
def IndexRunsUptoCardSaid : Prop := Claim7.holds Tryz.pinned (.plain (OpenSpec.upto indexRunsSpec)) indexRunsUptoCard
end Rows
end Go.Proofs.YthoblbdkmlggbaaGreatDoor
