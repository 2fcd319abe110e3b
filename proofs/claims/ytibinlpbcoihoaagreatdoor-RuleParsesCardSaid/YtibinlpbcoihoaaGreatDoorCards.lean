/-
  DERIVED. GIVEN WITH THE SEED: THE CARDS: each row of YtibinlpbcoihoaaGreatDoorRows.lean that lists a variable, with what it lists TIED to the program's text (the seventh form; the later family's looks); each row that meets fmt, with fmt's text TOLD by the authors' own Lean function (tested against real Go, not proved from fmt's source: count such statements apart). THE CARD IS WHAT COUNTS. Prove the row's statement (the work); the ties are given (YtibinlpbcoihoaaGreatDoorTie.lean); close each card by the builder's one call (the guide's Derived/Test/ToyasCard.lean, 'card_holds'). Laid BY PROGRAM, IN A SANDBOX (cutbox-door.mjs). By AI agents, Wed Nov 11 2026. No macro, syntax, notation, axiom, sorry.
-/
import Derived.Test.YtibinlpbcoihoaaGreatDoorRows
import GoSem.ClaimSeven
namespace Go.Proofs.YtibinlpbcoihoaaGreatDoor
namespace Rows

/-- THE TIED CARD OF 'stetlaw22.RuleParses'. -/
def ruleParsesCard : Claim7 := { stood := { row := ruleParsesRow, standIns := [], harness := (true, "93c98cc114db87e0f44402e730683235c2cba00810bbd0102af61ffe40eba69e"), looks := true }, kinds := [], alts := [], laidByText := true, laidKinds := [.data, .data, .data, .data, .handle, .data, .pinned, .pinned], laidTests := true, laidLooks := .later }
def RuleParsesCardSaid : Prop := Claim7.holds Tryz.pinned (.plain (OpenSpec.ofChange ruleParsesSpec)) ruleParsesCard

/-- THE TIED CARD OF 'stetlaw22.RuleBack'. -/
def ruleBackCard : Claim7 := { stood := { row := ruleBackRow, standIns := [], harness := (true, "93c98cc114db87e0f44402e730683235c2cba00810bbd0102af61ffe40eba69e"), looks := true }, kinds := [], alts := [], laidByText := true, laidKinds := [.data, .data, .data, .data, .handle, .data, .pinned, .pinned], laidTests := true, laidLooks := .later }
def RuleBackCardSaid : Prop := Claim7.holds Tryz.pinned (.plain (OpenSpec.ofChange ruleBackSpec)) ruleBackCard

/-- THE TIED CARD OF 'stetlaw22.RuleRemarks'. -/
def ruleRemarksCard : Claim7 := { stood := { row := ruleRemarksRow, standIns := [], harness := (true, "93c98cc114db87e0f44402e730683235c2cba00810bbd0102af61ffe40eba69e"), looks := true }, kinds := [], alts := [], laidByText := true, laidKinds := [.data, .data, .data, .data, .handle, .data, .pinned, .pinned], laidTests := true, laidLooks := .later }
def RuleRemarksCardSaid : Prop := Claim7.holds Tryz.pinned (.plain (OpenSpec.ofChange ruleRemarksSpec)) ruleRemarksCard

/-- THE SECOND FORM's CARD OF 'stetlaw22.RuleParses'. -/
def ruleParsesUptoCard : Claim7 := { stood := { row := ruleParsesUptoRow, standIns := [], harness := (true, "93c98cc114db87e0f44402e730683235c2cba00810bbd0102af61ffe40eba69e"), looks := true }, kinds := [], alts := [], laidByText := true, laidKinds := [.data, .data, .data, .data, .handle, .data, .pinned, .pinned], laidTests := true, laidLooks := .later }
def RuleParsesUptoCardSaid : Prop := Claim7.holds Tryz.pinned (.plain (OpenSpec.upto ruleParsesSpec)) ruleParsesUptoCard

/-- THE SECOND FORM's CARD OF 'stetlaw22.RuleBack'. -/
def ruleBackUptoCard : Claim7 := { stood := { row := ruleBackUptoRow, standIns := [], harness := (true, "93c98cc114db87e0f44402e730683235c2cba00810bbd0102af61ffe40eba69e"), looks := true }, kinds := [], alts := [], laidByText := true, laidKinds := [.data, .data, .data, .data, .handle, .data, .pinned, .pinned], laidTests := true, laidLooks := .later }
def RuleBackUptoCardSaid : Prop := Claim7.holds Tryz.pinned (.plain (OpenSpec.upto ruleBackSpec)) ruleBackUptoCard

/-- THE SECOND FORM's CARD OF 'stetlaw22.RuleRemarks'. -/
def ruleRemarksUptoCard : Claim7 := { stood := { row := ruleRemarksUptoRow, standIns := [], harness := (true, "93c98cc114db87e0f44402e730683235c2cba00810bbd0102af61ffe40eba69e"), looks := true }, kinds := [], alts := [], laidByText := true, laidKinds := [.data, .data, .data, .data, .handle, .data, .pinned, .pinned], laidTests := true, laidLooks := .later }
def RuleRemarksUptoCardSaid : Prop := Claim7.holds Tryz.pinned (.plain (OpenSpec.upto ruleRemarksSpec)) ruleRemarksUptoCard
end Rows
end Go.Proofs.YtibinlpbcoihoaaGreatDoor
