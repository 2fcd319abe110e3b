/-
  DERIVED. GIVEN WITH THE SEED: THE CARDS: each row of YtgnfmopcialllaaGreatDoorRows.lean that lists a variable, with what it lists TIED to the program's text (the seventh form; the later family's looks); each row that meets fmt, with fmt's text TOLD by the authors' own Lean function (tested against real Go, not proved from fmt's source: count such statements apart). THE CARD IS WHAT COUNTS. Prove the row's statement (the work); the ties are given (YtgnfmopcialllaaGreatDoorTie.lean); close each card by the builder's one call (the guide's Derived/Test/ToyasCard.lean, 'card_holds'). Laid BY PROGRAM, IN A SANDBOX (cutbox-door.mjs). By AI agents, Wed Nov 11 2026. No macro, syntax, notation, axiom, sorry.
-/
import Derived.Test.YtgnfmopcialllaaGreatDoorRows
import GoSem.ClaimSeven
namespace Go.Proofs.YtgnfmopcialllaaGreatDoor
namespace Rows

/-- THE TIED CARD OF 'stetlaw18.BibRuns'. -/
def bibRunsCard : Claim7 := { stood := { row := bibRunsRow, standIns := [], harness := (true, "9026ffbe954437aa2f688f38a6d3d7deca3376974dcda81895936aa0e76b1988"), looks := true }, kinds := [], alts := [], laidByText := true, laidKinds := [.data, .data, .data, .data, .handle, .data, .pinned, .pinned], laidTests := true, laidLooks := .later }
def BibRunsCardSaid : Prop := Claim7.holds Tryz.pinned (.plain (OpenSpec.ofChange bibRunsSpec)) bibRunsCard

/-- THE TIED CARD OF 'stetlaw18.BibReads'. -/
def bibReadsCard : Claim7 := { stood := { row := bibReadsRow, standIns := [], harness := (true, "9026ffbe954437aa2f688f38a6d3d7deca3376974dcda81895936aa0e76b1988"), looks := true }, kinds := [], alts := [], laidByText := true, laidKinds := [.data, .data, .data, .data, .handle, .data, .pinned, .pinned], laidTests := true, laidLooks := .later }
def BibReadsCardSaid : Prop := Claim7.holds Tryz.pinned (.plain (OpenSpec.ofChange bibReadsSpec)) bibReadsCard

/-- THE SECOND FORM's CARD OF 'stetlaw18.BibRuns'. -/
def bibRunsUptoCard : Claim7 := { stood := { row := bibRunsUptoRow, standIns := [], harness := (true, "9026ffbe954437aa2f688f38a6d3d7deca3376974dcda81895936aa0e76b1988"), looks := true }, kinds := [], alts := [], laidByText := true, laidKinds := [.data, .data, .data, .data, .handle, .data, .pinned, .pinned], laidTests := true, laidLooks := .later }
def BibRunsUptoCardSaid : Prop := Claim7.holds Tryz.pinned (.plain (OpenSpec.upto bibRunsSpec)) bibRunsUptoCard

/-- THE SECOND FORM's CARD OF 'stetlaw18.BibReads'. -/
def bibReadsUptoCard : Claim7 := { stood := { row := bibReadsUptoRow, standIns := [], harness := (true, "9026ffbe954437aa2f688f38a6d3d7deca3376974dcda81895936aa0e76b1988"), looks := true }, kinds := [], alts := [], laidByText := true, laidKinds := [.data, .data, .data, .data, .handle, .data, .pinned, .pinned], laidTests := true, laidLooks := .later }
def BibReadsUptoCardSaid : Prop := Claim7.holds Tryz.pinned (.plain (OpenSpec.upto bibReadsSpec)) bibReadsUptoCard
end Rows
end Go.Proofs.YtgnfmopcialllaaGreatDoor
