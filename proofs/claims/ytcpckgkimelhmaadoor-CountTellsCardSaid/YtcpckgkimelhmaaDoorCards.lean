/-
  DERIVED. GIVEN WITH THE SEED: THE CARDS: each row of YtcpckgkimelhmaaDoorRows.lean that lists a variable, with what it lists TIED to the program's text (the seventh form; the later family's looks); each row that meets fmt, with fmt's text TOLD by the authors' own Lean function (tested against real Go, not proved from fmt's source: count such statements apart). THE CARD IS WHAT COUNTS. Prove the row's statement (the work); the ties are given (YtcpckgkimelhmaaDoorTie.lean); close each card by the builder's one call (the guide's Derived/Test/ToyasCard.lean, 'card_holds'). Laid BY PROGRAM, IN A SANDBOX (cutbox-door.mjs). By AI agents, Wed Nov 11 2026. No macro, syntax, notation, axiom, sorry.
-/
import Derived.Test.YtcpckgkimelhmaaDoorRows
import GoSem.ClaimSeven
namespace Go.Proofs.YtcpckgkimelhmaaDoor
namespace Rows

/-- THE TIED CARD OF 'stetlaw01.CountTells'. -/
def countTellsCard : Claim7 := { stood := { row := countTellsRow, standIns := [], harness := (true, "4c49a940b957ba3cbb30db7637222d23f3d4e32bcdb28244aa353a5848efd8cc"), looks := false }, kinds := [], alts := [], laidByText := true, laidKinds := [.data, .data, .data, .data, .data, .pinned, .pinned], laidTests := true, laidLooks := .later }
def CountTellsCardSaid : Prop := Claim7.holds Tryd.pinned (.plain (OpenSpec.ofChange countTellsSpec)) countTellsCard

/-- THE TIED CARD OF 'stetlaw01.CountBack'. -/
def countBackCard : Claim7 := { stood := { row := countBackRow, standIns := [], harness := (true, "4c49a940b957ba3cbb30db7637222d23f3d4e32bcdb28244aa353a5848efd8cc"), looks := false }, kinds := [], alts := [], laidByText := true, laidKinds := [.data, .data, .data, .data, .data, .pinned, .pinned], laidTests := true, laidLooks := .later }
def CountBackCardSaid : Prop := Claim7.holds Tryd.pinned (.plain (OpenSpec.ofChange countBackSpec)) countBackCard

/-- THE TIED CARD OF 'stetlaw01.CountAdds'. -/
def countAddsCard : Claim7 := { stood := { row := countAddsRow, standIns := [], harness := (true, "4c49a940b957ba3cbb30db7637222d23f3d4e32bcdb28244aa353a5848efd8cc"), looks := false }, kinds := [], alts := [], laidByText := true, laidKinds := [.data, .data, .data, .data, .data, .pinned, .pinned], laidTests := true, laidLooks := .later }
def CountAddsCardSaid : Prop := Claim7.holds Tryd.pinned (.plain (OpenSpec.ofChange countAddsSpec)) countAddsCard

/-- THE TIED CARD OF 'stetlaw01.CountLetters'. -/
def countLettersCard : Claim7 := { stood := { row := countLettersRow, standIns := [], harness := (true, "4c49a940b957ba3cbb30db7637222d23f3d4e32bcdb28244aa353a5848efd8cc"), looks := false }, kinds := [], alts := [], laidByText := true, laidKinds := [.data, .data, .data, .data, .data, .pinned, .pinned], laidTests := true, laidLooks := .later }
def CountLettersCardSaid : Prop := Claim7.holds Tryd.pinned (.plain (OpenSpec.ofChange countLettersSpec)) countLettersCard

/-- THE TIED CARD OF 'stetlaw01.CountRoman'. -/
def countRomanCard : Claim7 := { stood := { row := countRomanRow, standIns := [], harness := (true, "4c49a940b957ba3cbb30db7637222d23f3d4e32bcdb28244aa353a5848efd8cc"), looks := false }, kinds := [], alts := [], laidByText := true, laidKinds := [.data, .data, .data, .data, .data, .pinned, .pinned], laidTests := true, laidLooks := .later }
def CountRomanCardSaid : Prop := Claim7.holds Tryd.pinned (.plain (OpenSpec.ofChange countRomanSpec)) countRomanCard

/-- THE TIED CARD OF 'stetlaw01.CountDigits'. -/
def countDigitsCard : Claim7 := { stood := { row := countDigitsRow, standIns := [], harness := (true, "4c49a940b957ba3cbb30db7637222d23f3d4e32bcdb28244aa353a5848efd8cc"), looks := false }, kinds := [], alts := [], laidByText := true, laidKinds := [.data, .data, .data, .data, .data, .pinned, .pinned], laidTests := true, laidLooks := .later }
def CountDigitsCardSaid : Prop := Claim7.holds Tryd.pinned (.plain (OpenSpec.ofChange countDigitsSpec)) countDigitsCard

/-- THE SECOND FORM's CARD OF 'stetlaw01.CountTells'. -/
def countTellsUptoCard : Claim7 := { stood := { row := countTellsUptoRow, standIns := [], harness := (true, "4c49a940b957ba3cbb30db7637222d23f3d4e32bcdb28244aa353a5848efd8cc"), looks := false }, kinds := [], alts := [], laidByText := true, laidKinds := [.data, .data, .data, .data, .data, .pinned, .pinned], laidTests := true, laidLooks := .later }
def CountTellsUptoCardSaid : Prop := Claim7.holds Tryd.pinned (.plain (OpenSpec.upto countTellsSpec)) countTellsUptoCard

/-- THE SECOND FORM's CARD OF 'stetlaw01.CountBack'. -/
def countBackUptoCard : Claim7 := { stood := { row := countBackUptoRow, standIns := [], harness := (true, "4c49a940b957ba3cbb30db7637222d23f3d4e32bcdb28244aa353a5848efd8cc"), looks := false }, kinds := [], alts := [], laidByText := true, laidKinds := [.data, .data, .data, .data, .data, .pinned, .pinned], laidTests := true, laidLooks := .later }
def CountBackUptoCardSaid : Prop := Claim7.holds Tryd.pinned (.plain (OpenSpec.upto countBackSpec)) countBackUptoCard

/-- THE SECOND FORM's CARD OF 'stetlaw01.CountAdds'. -/
def countAddsUptoCard : Claim7 := { stood := { row := countAddsUptoRow, standIns := [], harness := (true, "4c49a940b957ba3cbb30db7637222d23f3d4e32bcdb28244aa353a5848efd8cc"), looks := false }, kinds := [], alts := [], laidByText := true, laidKinds := [.data, .data, .data, .data, .data, .pinned, .pinned], laidTests := true, laidLooks := .later }
def CountAddsUptoCardSaid : Prop := Claim7.holds Tryd.pinned (.plain (OpenSpec.upto countAddsSpec)) countAddsUptoCard

/-- THE SECOND FORM's CARD OF 'stetlaw01.CountLetters'. -/
def countLettersUptoCard : Claim7 := { stood := { row := countLettersUptoRow, standIns := [], harness := (true, "4c49a940b957ba3cbb30db7637222d23f3d4e32bcdb28244aa353a5848efd8cc"), looks := false }, kinds := [], alts := [], laidByText := true, laidKinds := [.data, .data, .data, .data, .data, .pinned, .pinned], laidTests := true, laidLooks := .later }
def CountLettersUptoCardSaid : Prop := Claim7.holds Tryd.pinned (.plain (OpenSpec.upto countLettersSpec)) countLettersUptoCard

/-- THE SECOND FORM's CARD OF 'stetlaw01.CountRoman'. -/
def countRomanUptoCard : Claim7 := { stood := { row := countRomanUptoRow, standIns := [], harness := (true, "4c49a940b957ba3cbb30db7637222d23f3d4e32bcdb28244aa353a5848efd8cc"), looks := false }, kinds := [], alts := [], laidByText := true, laidKinds := [.data, .data, .data, .data, .data, .pinned, .pinned], laidTests := true, laidLooks := .later }
def CountRomanUptoCardSaid : Prop := Claim7.holds Tryd.pinned (.plain (OpenSpec.upto countRomanSpec)) countRomanUptoCard

/-- THE SECOND FORM's CARD OF 'stetlaw01.CountDigits'. -/
def countDigitsUptoCard : Claim7 := { stood := { row := countDigitsUptoRow, standIns := [], harness := (true, "4c49a940b957ba3cbb30db7637222d23f3d4e32bcdb28244aa353a5848efd8cc"), looks := false }, kinds := [], alts := [], laidByText := true, laidKinds := [.data, .data, .data, .data, .data, .pinned, .pinned], laidTests := true, laidLooks := .later }
def CountDigitsUptoCardSaid : Prop := Claim7.holds Tryd.pinned (.plain (OpenSpec.upto countDigitsSpec)) countDigitsUptoCard
end Rows
end Go.Proofs.YtcpckgkimelhmaaDoor
