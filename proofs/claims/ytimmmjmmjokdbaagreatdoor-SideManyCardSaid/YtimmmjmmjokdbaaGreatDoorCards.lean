/-
  DERIVED. GIVEN WITH THE SEED: THE CARDS: each row of YtimmmjmmjokdbaaGreatDoorRows.lean that lists a variable, with what it lists TIED to the program's text (the seventh form; the later family's looks); each row that meets fmt, with fmt's text TOLD by the authors' own Lean function (tested against real Go, not proved from fmt's source: count such statements apart). THE CARD IS WHAT COUNTS. Prove the row's statement (the work); the ties are given (YtimmmjmmjokdbaaGreatDoorTie.lean); close each card by the builder's one call (the guide's Derived/Test/ToyasCard.lean, 'card_holds'). Laid BY PROGRAM, IN A SANDBOX (cutbox-door.mjs). By AI agents, Wed Nov 11 2026. No macro, syntax, notation, axiom, sorry.
-/
import Derived.Test.YtimmmjmmjokdbaaGreatDoorRows
import GoSem.ClaimSeven
namespace Go.Proofs.YtimmmjmmjokdbaaGreatDoor
namespace Rows

/-- THE TIED CARD OF 'stetlaw10.SideTells'. -/
def sideTellsCard : Claim7 := { stood := { row := sideTellsRow, standIns := [], harness := (true, "b4cb506e5e14ad36426592437974a8d35807c889cc315c26f1905f095d75187b"), looks := true }, kinds := [], alts := [], laidByText := true, laidKinds := [.data, .data, .data, .data, .handle, .data, .pinned, .pinned], laidTests := true, laidLooks := .later }
def SideTellsCardSaid : Prop := Claim7.holds Tryz.pinned (.plain (OpenSpec.ofChange sideTellsSpec)) sideTellsCard

/-- THE TIED CARD OF 'stetlaw10.SideMany'. -/
def sideManyCard : Claim7 := { stood := { row := sideManyRow, standIns := [], harness := (true, "b4cb506e5e14ad36426592437974a8d35807c889cc315c26f1905f095d75187b"), looks := true }, kinds := [], alts := [], laidByText := true, laidKinds := [.data, .data, .data, .data, .handle, .data, .pinned, .pinned], laidTests := true, laidLooks := .later }
def SideManyCardSaid : Prop := Claim7.holds Tryz.pinned (.plain (OpenSpec.ofChange sideManySpec)) sideManyCard

/-- THE TIED CARD OF 'stetlaw10.SideBack'. -/
def sideBackCard : Claim7 := { stood := { row := sideBackRow, standIns := [], harness := (true, "b4cb506e5e14ad36426592437974a8d35807c889cc315c26f1905f095d75187b"), looks := true }, kinds := [], alts := [], laidByText := true, laidKinds := [.data, .data, .data, .data, .handle, .data, .pinned, .pinned], laidTests := true, laidLooks := .later }
def SideBackCardSaid : Prop := Claim7.holds Tryz.pinned (.plain (OpenSpec.ofChange sideBackSpec)) sideBackCard

/-- THE TIED CARD OF 'stetlaw10.SideJoins'. -/
def sideJoinsCard : Claim7 := { stood := { row := sideJoinsRow, standIns := [], harness := (true, "b4cb506e5e14ad36426592437974a8d35807c889cc315c26f1905f095d75187b"), looks := true }, kinds := [], alts := [], laidByText := true, laidKinds := [.data, .data, .data, .data, .handle, .data, .pinned, .pinned], laidTests := true, laidLooks := .later }
def SideJoinsCardSaid : Prop := Claim7.holds Tryz.pinned (.plain (OpenSpec.ofChange sideJoinsSpec)) sideJoinsCard

/-- THE TIED CARD OF 'stetlaw10.SideSpoilt'. -/
def sideSpoiltCard : Claim7 := { stood := { row := sideSpoiltRow, standIns := [], harness := (true, "b4cb506e5e14ad36426592437974a8d35807c889cc315c26f1905f095d75187b"), looks := true }, kinds := [], alts := [], laidByText := true, laidKinds := [.data, .data, .data, .data, .handle, .data, .pinned, .pinned], laidTests := true, laidLooks := .later }
def SideSpoiltCardSaid : Prop := Claim7.holds Tryz.pinned (.plain (OpenSpec.ofChange sideSpoiltSpec)) sideSpoiltCard

/-- THE TIED CARD OF 'stetlaw10.SideFind'. -/
def sideFindCard : Claim7 := { stood := { row := sideFindRow, standIns := [], harness := (true, "b4cb506e5e14ad36426592437974a8d35807c889cc315c26f1905f095d75187b"), looks := true }, kinds := [], alts := [], laidByText := true, laidKinds := [.data, .data, .data, .data, .handle, .data, .pinned, .pinned], laidTests := true, laidLooks := .later }
def SideFindCardSaid : Prop := Claim7.holds Tryz.pinned (.plain (OpenSpec.ofChange sideFindSpec)) sideFindCard

/-- THE SECOND FORM's CARD OF 'stetlaw10.SideTells'. -/
def sideTellsUptoCard : Claim7 := { stood := { row := sideTellsUptoRow, standIns := [], harness := (true, "b4cb506e5e14ad36426592437974a8d35807c889cc315c26f1905f095d75187b"), looks := true }, kinds := [], alts := [], laidByText := true, laidKinds := [.data, .data, .data, .data, .handle, .data, .pinned, .pinned], laidTests := true, laidLooks := .later }
def SideTellsUptoCardSaid : Prop := Claim7.holds Tryz.pinned (.plain (OpenSpec.upto sideTellsSpec)) sideTellsUptoCard

/-- THE SECOND FORM's CARD OF 'stetlaw10.SideMany'. -/
def sideManyUptoCard : Claim7 := { stood := { row := sideManyUptoRow, standIns := [], harness := (true, "b4cb506e5e14ad36426592437974a8d35807c889cc315c26f1905f095d75187b"), looks := true }, kinds := [], alts := [], laidByText := true, laidKinds := [.data, .data, .data, .data, .handle, .data, .pinned, .pinned], laidTests := true, laidLooks := .later }
def SideManyUptoCardSaid : Prop := Claim7.holds Tryz.pinned (.plain (OpenSpec.upto sideManySpec)) sideManyUptoCard

/-- THE SECOND FORM's CARD OF 'stetlaw10.SideBack'. -/
def sideBackUptoCard : Claim7 := { stood := { row := sideBackUptoRow, standIns := [], harness := (true, "b4cb506e5e14ad36426592437974a8d35807c889cc315c26f1905f095d75187b"), looks := true }, kinds := [], alts := [], laidByText := true, laidKinds := [.data, .data, .data, .data, .handle, .data, .pinned, .pinned], laidTests := true, laidLooks := .later }
def SideBackUptoCardSaid : Prop := Claim7.holds Tryz.pinned (.plain (OpenSpec.upto sideBackSpec)) sideBackUptoCard

/-- THE SECOND FORM's CARD OF 'stetlaw10.SideJoins'. -/
def sideJoinsUptoCard : Claim7 := { stood := { row := sideJoinsUptoRow, standIns := [], harness := (true, "b4cb506e5e14ad36426592437974a8d35807c889cc315c26f1905f095d75187b"), looks := true }, kinds := [], alts := [], laidByText := true, laidKinds := [.data, .data, .data, .data, .handle, .data, .pinned, .pinned], laidTests := true, laidLooks := .later }
def SideJoinsUptoCardSaid : Prop := Claim7.holds Tryz.pinned (.plain (OpenSpec.upto sideJoinsSpec)) sideJoinsUptoCard

/-- THE SECOND FORM's CARD OF 'stetlaw10.SideSpoilt'. -/
def sideSpoiltUptoCard : Claim7 := { stood := { row := sideSpoiltUptoRow, standIns := [], harness := (true, "b4cb506e5e14ad36426592437974a8d35807c889cc315c26f1905f095d75187b"), looks := true }, kinds := [], alts := [], laidByText := true, laidKinds := [.data, .data, .data, .data, .handle, .data, .pinned, .pinned], laidTests := true, laidLooks := .later }
def SideSpoiltUptoCardSaid : Prop := Claim7.holds Tryz.pinned (.plain (OpenSpec.upto sideSpoiltSpec)) sideSpoiltUptoCard

/-- THE SECOND FORM's CARD OF 'stetlaw10.SideFind'. -/
def sideFindUptoCard : Claim7 := { stood := { row := sideFindUptoRow, standIns := [], harness := (true, "b4cb506e5e14ad36426592437974a8d35807c889cc315c26f1905f095d75187b"), looks := true }, kinds := [], alts := [], laidByText := true, laidKinds := [.data, .data, .data, .data, .handle, .data, .pinned, .pinned], laidTests := true, laidLooks := .later }
def SideFindUptoCardSaid : Prop := Claim7.holds Tryz.pinned (.plain (OpenSpec.upto sideFindSpec)) sideFindUptoCard
end Rows
end Go.Proofs.YtimmmjmmjokdbaaGreatDoor
