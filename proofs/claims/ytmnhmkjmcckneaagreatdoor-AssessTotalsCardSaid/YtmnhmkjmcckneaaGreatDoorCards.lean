/-
  DERIVED. GIVEN WITH THE SEED: THE CARDS: each row of YtmnhmkjmcckneaaGreatDoorRows.lean that lists a variable, with what it lists TIED to the program's text (the seventh form; the later family's looks); each row that meets fmt, with fmt's text TOLD by the authors' own Lean function (tested against real Go, not proved from fmt's source: count such statements apart). THE CARD IS WHAT COUNTS. Prove the row's statement (the work); the ties are given (YtmnhmkjmcckneaaGreatDoorTie.lean); close each card by the builder's one call (the guide's Derived/Test/ToyasCard.lean, 'card_holds'). Laid BY PROGRAM, IN A SANDBOX (cutbox-door.mjs). By AI agents, Wed Nov 11 2026. No macro, syntax, notation, axiom, sorry.
-/
import Derived.Test.YtmnhmkjmcckneaaGreatDoorRows
import GoSem.ClaimSeven
namespace Go.Proofs.YtmnhmkjmcckneaaGreatDoor
namespace Rows

/-- THE TIED CARD OF 'cardnetlaw38.AssessFees'. -/
def assessFeesCard : Claim7 := { stood := { row := assessFeesRow, standIns := [], harness := (true, "1c0cf8e0042c0bd4bcad97e0d3bddd7cc734449bca4bbb904e650b8ed8ca7adc"), looks := false }, kinds := [], alts := [], laidByText := true, laidKinds := [.data, .data, .data], laidTests := true, laidLooks := .later }
def AssessFeesCardSaid : Prop := Claim7.holds Tryz.pinned (.plain (OpenSpec.ofChange assessFeesSpec)) assessFeesCard

/-- THE TIED CARD OF 'cardnetlaw38.AssessBalances'. -/
def assessBalancesCard : Claim7 := { stood := { row := assessBalancesRow, standIns := [], harness := (true, "1c0cf8e0042c0bd4bcad97e0d3bddd7cc734449bca4bbb904e650b8ed8ca7adc"), looks := false }, kinds := [], alts := [], laidByText := true, laidKinds := [.data, .data, .data], laidTests := true, laidLooks := .later }
def AssessBalancesCardSaid : Prop := Claim7.holds Tryz.pinned (.plain (OpenSpec.ofChange assessBalancesSpec)) assessBalancesCard

/-- THE TIED CARD OF 'cardnetlaw38.AssessRefunds'. -/
def assessRefundsCard : Claim7 := { stood := { row := assessRefundsRow, standIns := [], harness := (true, "1c0cf8e0042c0bd4bcad97e0d3bddd7cc734449bca4bbb904e650b8ed8ca7adc"), looks := false }, kinds := [], alts := [], laidByText := true, laidKinds := [.data, .data, .data], laidTests := true, laidLooks := .later }
def AssessRefundsCardSaid : Prop := Claim7.holds Tryz.pinned (.plain (OpenSpec.ofChange assessRefundsSpec)) assessRefundsCard

/-- THE TIED CARD OF 'cardnetlaw38.AssessSums'. -/
def assessSumsCard : Claim7 := { stood := { row := assessSumsRow, standIns := [], harness := (true, "1c0cf8e0042c0bd4bcad97e0d3bddd7cc734449bca4bbb904e650b8ed8ca7adc"), looks := false }, kinds := [], alts := [], laidByText := true, laidKinds := [.data, .data, .data], laidTests := true, laidLooks := .later }
def AssessSumsCardSaid : Prop := Claim7.holds Tryz.pinned (.plain (OpenSpec.ofChange assessSumsSpec)) assessSumsCard

/-- THE TIED CARD OF 'cardnetlaw38.AssessTotals'. -/
def assessTotalsCard : Claim7 := { stood := { row := assessTotalsRow, standIns := [], harness := (true, "1c0cf8e0042c0bd4bcad97e0d3bddd7cc734449bca4bbb904e650b8ed8ca7adc"), looks := false }, kinds := [], alts := [], laidByText := true, laidKinds := [.data, .data, .data], laidTests := true, laidLooks := .later }
def AssessTotalsCardSaid : Prop := Claim7.holds Tryz.pinned (.plain (OpenSpec.ofChange assessTotalsSpec)) assessTotalsCard

/-- THE SECOND FORM's CARD OF 'cardnetlaw38.AssessFees'. -/
def assessFeesUptoCard : Claim7 := { stood := { row := assessFeesUptoRow, standIns := [], harness := (true, "1c0cf8e0042c0bd4bcad97e0d3bddd7cc734449bca4bbb904e650b8ed8ca7adc"), looks := false }, kinds := [], alts := [], laidByText := true, laidKinds := [.data, .data, .data], laidTests := true, laidLooks := .later }
def AssessFeesUptoCardSaid : Prop := Claim7.holds Tryz.pinned (.plain (OpenSpec.upto assessFeesSpec)) assessFeesUptoCard

/-- THE SECOND FORM's CARD OF 'cardnetlaw38.AssessBalances'. -/
def assessBalancesUptoCard : Claim7 := { stood := { row := assessBalancesUptoRow, standIns := [], harness := (true, "1c0cf8e0042c0bd4bcad97e0d3bddd7cc734449bca4bbb904e650b8ed8ca7adc"), looks := false }, kinds := [], alts := [], laidByText := true, laidKinds := [.data, .data, .data], laidTests := true, laidLooks := .later }
def AssessBalancesUptoCardSaid : Prop := Claim7.holds Tryz.pinned (.plain (OpenSpec.upto assessBalancesSpec)) assessBalancesUptoCard

/-- THE SECOND FORM's CARD OF 'cardnetlaw38.AssessRefunds'. -/
def assessRefundsUptoCard : Claim7 := { stood := { row := assessRefundsUptoRow, standIns := [], harness := (true, "1c0cf8e0042c0bd4bcad97e0d3bddd7cc734449bca4bbb904e650b8ed8ca7adc"), looks := false }, kinds := [], alts := [], laidByText := true, laidKinds := [.data, .data, .data], laidTests := true, laidLooks := .later }
def AssessRefundsUptoCardSaid : Prop := Claim7.holds Tryz.pinned (.plain (OpenSpec.upto assessRefundsSpec)) assessRefundsUptoCard

/-- THE SECOND FORM's CARD OF 'cardnetlaw38.AssessSums'. -/
def assessSumsUptoCard : Claim7 := { stood := { row := assessSumsUptoRow, standIns := [], harness := (true, "1c0cf8e0042c0bd4bcad97e0d3bddd7cc734449bca4bbb904e650b8ed8ca7adc"), looks := false }, kinds := [], alts := [], laidByText := true, laidKinds := [.data, .data, .data], laidTests := true, laidLooks := .later }
def AssessSumsUptoCardSaid : Prop := Claim7.holds Tryz.pinned (.plain (OpenSpec.upto assessSumsSpec)) assessSumsUptoCard

/-- THE SECOND FORM's CARD OF 'cardnetlaw38.AssessTotals'. -/
def assessTotalsUptoCard : Claim7 := { stood := { row := assessTotalsUptoRow, standIns := [], harness := (true, "1c0cf8e0042c0bd4bcad97e0d3bddd7cc734449bca4bbb904e650b8ed8ca7adc"), looks := false }, kinds := [], alts := [], laidByText := true, laidKinds := [.data, .data, .data], laidTests := true, laidLooks := .later }
def AssessTotalsUptoCardSaid : Prop := Claim7.holds Tryz.pinned (.plain (OpenSpec.upto assessTotalsSpec)) assessTotalsUptoCard
end Rows
end Go.Proofs.YtmnhmkjmcckneaaGreatDoor
