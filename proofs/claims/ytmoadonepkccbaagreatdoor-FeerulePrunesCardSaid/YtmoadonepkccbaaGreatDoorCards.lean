/-
  DERIVED. GIVEN WITH THE SEED: THE CARDS: each row of YtmoadonepkccbaaGreatDoorRows.lean that lists a variable, with what it lists TIED to the program's text (the seventh form; the later family's looks); each row that meets fmt, with fmt's text TOLD by the authors' own Lean function (tested against real Go, not proved from fmt's source: count such statements apart). THE CARD IS WHAT COUNTS. Prove the row's statement (the work); the ties are given (YtmoadonepkccbaaGreatDoorTie.lean); close each card by the builder's one call (the guide's Derived/Test/ToyasCard.lean, 'card_holds'). Laid BY PROGRAM, IN A SANDBOX (cutbox-door.mjs). By AI agents, Wed Nov 11 2026. No macro, syntax, notation, axiom, sorry.
-/
import Derived.Test.YtmoadonepkccbaaGreatDoorRows
import GoSem.ClaimSeven
namespace Go.Proofs.YtmoadonepkccbaaGreatDoor
namespace Rows

/-- THE TIED CARD OF 'cardnetlaw36.FeeruleApplies'. -/
def feeruleAppliesCard : Claim7 := { stood := { row := feeruleAppliesRow, standIns := [], harness := (true, "ba2ccd1f558c5678a7eac5cc19349d93dbbeb6bc4d26f11f9da72099576e4eeb"), looks := false }, kinds := [], alts := [], laidByText := true, laidKinds := [.data, .data, .data], laidTests := true, laidLooks := .later }
def FeeruleAppliesCardSaid : Prop := Claim7.holds Tryz.pinned (.plain (OpenSpec.ofChange feeruleAppliesSpec)) feeruleAppliesCard

/-- THE TIED CARD OF 'cardnetlaw36.FeeruleFirst'. -/
def feeruleFirstCard : Claim7 := { stood := { row := feeruleFirstRow, standIns := [], harness := (true, "ba2ccd1f558c5678a7eac5cc19349d93dbbeb6bc4d26f11f9da72099576e4eeb"), looks := false }, kinds := [], alts := [], laidByText := true, laidKinds := [.data, .data, .data], laidTests := true, laidLooks := .later }
def FeeruleFirstCardSaid : Prop := Claim7.holds Tryz.pinned (.plain (OpenSpec.ofChange feeruleFirstSpec)) feeruleFirstCard

/-- THE TIED CARD OF 'cardnetlaw36.FeerulePrunes'. -/
def feerulePrunesCard : Claim7 := { stood := { row := feerulePrunesRow, standIns := [], harness := (true, "ba2ccd1f558c5678a7eac5cc19349d93dbbeb6bc4d26f11f9da72099576e4eeb"), looks := false }, kinds := [], alts := [], laidByText := true, laidKinds := [.data, .data, .data], laidTests := true, laidLooks := .later }
def FeerulePrunesCardSaid : Prop := Claim7.holds Tryz.pinned (.plain (OpenSpec.ofChange feerulePrunesSpec)) feerulePrunesCard

/-- THE TIED CARD OF 'cardnetlaw36.FeerulePruned'. -/
def feerulePrunedCard : Claim7 := { stood := { row := feerulePrunedRow, standIns := [], harness := (true, "ba2ccd1f558c5678a7eac5cc19349d93dbbeb6bc4d26f11f9da72099576e4eeb"), looks := false }, kinds := [], alts := [], laidByText := true, laidKinds := [.data, .data, .data], laidTests := true, laidLooks := .later }
def FeerulePrunedCardSaid : Prop := Claim7.holds Tryz.pinned (.plain (OpenSpec.ofChange feerulePrunedSpec)) feerulePrunedCard

/-- THE TIED CARD OF 'cardnetlaw38.AssessFees'. -/
def assessFeesCard : Claim7 := { stood := { row := assessFeesRow, standIns := [], harness := (true, "ba2ccd1f558c5678a7eac5cc19349d93dbbeb6bc4d26f11f9da72099576e4eeb"), looks := false }, kinds := [], alts := [], laidByText := true, laidKinds := [.data, .data, .data], laidTests := true, laidLooks := .later }
def AssessFeesCardSaid : Prop := Claim7.holds Tryz.pinned (.plain (OpenSpec.ofChange assessFeesSpec)) assessFeesCard

/-- THE TIED CARD OF 'cardnetlaw38.AssessBalances'. -/
def assessBalancesCard : Claim7 := { stood := { row := assessBalancesRow, standIns := [], harness := (true, "ba2ccd1f558c5678a7eac5cc19349d93dbbeb6bc4d26f11f9da72099576e4eeb"), looks := false }, kinds := [], alts := [], laidByText := true, laidKinds := [.data, .data, .data], laidTests := true, laidLooks := .later }
def AssessBalancesCardSaid : Prop := Claim7.holds Tryz.pinned (.plain (OpenSpec.ofChange assessBalancesSpec)) assessBalancesCard

/-- THE TIED CARD OF 'cardnetlaw38.AssessRefunds'. -/
def assessRefundsCard : Claim7 := { stood := { row := assessRefundsRow, standIns := [], harness := (true, "ba2ccd1f558c5678a7eac5cc19349d93dbbeb6bc4d26f11f9da72099576e4eeb"), looks := false }, kinds := [], alts := [], laidByText := true, laidKinds := [.data, .data, .data], laidTests := true, laidLooks := .later }
def AssessRefundsCardSaid : Prop := Claim7.holds Tryz.pinned (.plain (OpenSpec.ofChange assessRefundsSpec)) assessRefundsCard

/-- THE TIED CARD OF 'cardnetlaw38.AssessSums'. -/
def assessSumsCard : Claim7 := { stood := { row := assessSumsRow, standIns := [], harness := (true, "ba2ccd1f558c5678a7eac5cc19349d93dbbeb6bc4d26f11f9da72099576e4eeb"), looks := false }, kinds := [], alts := [], laidByText := true, laidKinds := [.data, .data, .data], laidTests := true, laidLooks := .later }
def AssessSumsCardSaid : Prop := Claim7.holds Tryz.pinned (.plain (OpenSpec.ofChange assessSumsSpec)) assessSumsCard

/-- THE TIED CARD OF 'cardnetlaw38.AssessTotals'. -/
def assessTotalsCard : Claim7 := { stood := { row := assessTotalsRow, standIns := [], harness := (true, "ba2ccd1f558c5678a7eac5cc19349d93dbbeb6bc4d26f11f9da72099576e4eeb"), looks := false }, kinds := [], alts := [], laidByText := true, laidKinds := [.data, .data, .data], laidTests := true, laidLooks := .later }
def AssessTotalsCardSaid : Prop := Claim7.holds Tryz.pinned (.plain (OpenSpec.ofChange assessTotalsSpec)) assessTotalsCard

/-- THE SECOND FORM's CARD OF 'cardnetlaw36.FeeruleApplies'. -/
def feeruleAppliesUptoCard : Claim7 := { stood := { row := feeruleAppliesUptoRow, standIns := [], harness := (true, "ba2ccd1f558c5678a7eac5cc19349d93dbbeb6bc4d26f11f9da72099576e4eeb"), looks := false }, kinds := [], alts := [], laidByText := true, laidKinds := [.data, .data, .data], laidTests := true, laidLooks := .later }
def FeeruleAppliesUptoCardSaid : Prop := Claim7.holds Tryz.pinned (.plain (OpenSpec.upto feeruleAppliesSpec)) feeruleAppliesUptoCard

/-- THE SECOND FORM's CARD OF 'cardnetlaw36.FeeruleFirst'. -/
def feeruleFirstUptoCard : Claim7 := { stood := { row := feeruleFirstUptoRow, standIns := [], harness := (true, "ba2ccd1f558c5678a7eac5cc19349d93dbbeb6bc4d26f11f9da72099576e4eeb"), looks := false }, kinds := [], alts := [], laidByText := true, laidKinds := [.data, .data, .data], laidTests := true, laidLooks := .later }
def FeeruleFirstUptoCardSaid : Prop := Claim7.holds Tryz.pinned (.plain (OpenSpec.upto feeruleFirstSpec)) feeruleFirstUptoCard

/-- THE SECOND FORM's CARD OF 'cardnetlaw36.FeerulePrunes'. -/
def feerulePrunesUptoCard : Claim7 := { stood := { row := feerulePrunesUptoRow, standIns := [], harness := (true, "ba2ccd1f558c5678a7eac5cc19349d93dbbeb6bc4d26f11f9da72099576e4eeb"), looks := false }, kinds := [], alts := [], laidByText := true, laidKinds := [.data, .data, .data], laidTests := true, laidLooks := .later }
def FeerulePrunesUptoCardSaid : Prop := Claim7.holds Tryz.pinned (.plain (OpenSpec.upto feerulePrunesSpec)) feerulePrunesUptoCard

/-- THE SECOND FORM's CARD OF 'cardnetlaw36.FeerulePruned'. -/
def feerulePrunedUptoCard : Claim7 := { stood := { row := feerulePrunedUptoRow, standIns := [], harness := (true, "ba2ccd1f558c5678a7eac5cc19349d93dbbeb6bc4d26f11f9da72099576e4eeb"), looks := false }, kinds := [], alts := [], laidByText := true, laidKinds := [.data, .data, .data], laidTests := true, laidLooks := .later }
def FeerulePrunedUptoCardSaid : Prop := Claim7.holds Tryz.pinned (.plain (OpenSpec.upto feerulePrunedSpec)) feerulePrunedUptoCard

/-- THE SECOND FORM's CARD OF 'cardnetlaw38.AssessFees'. -/
def assessFeesUptoCard : Claim7 := { stood := { row := assessFeesUptoRow, standIns := [], harness := (true, "ba2ccd1f558c5678a7eac5cc19349d93dbbeb6bc4d26f11f9da72099576e4eeb"), looks := false }, kinds := [], alts := [], laidByText := true, laidKinds := [.data, .data, .data], laidTests := true, laidLooks := .later }
def AssessFeesUptoCardSaid : Prop := Claim7.holds Tryz.pinned (.plain (OpenSpec.upto assessFeesSpec)) assessFeesUptoCard

/-- THE SECOND FORM's CARD OF 'cardnetlaw38.AssessBalances'. -/
def assessBalancesUptoCard : Claim7 := { stood := { row := assessBalancesUptoRow, standIns := [], harness := (true, "ba2ccd1f558c5678a7eac5cc19349d93dbbeb6bc4d26f11f9da72099576e4eeb"), looks := false }, kinds := [], alts := [], laidByText := true, laidKinds := [.data, .data, .data], laidTests := true, laidLooks := .later }
def AssessBalancesUptoCardSaid : Prop := Claim7.holds Tryz.pinned (.plain (OpenSpec.upto assessBalancesSpec)) assessBalancesUptoCard

/-- THE SECOND FORM's CARD OF 'cardnetlaw38.AssessRefunds'. -/
def assessRefundsUptoCard : Claim7 := { stood := { row := assessRefundsUptoRow, standIns := [], harness := (true, "ba2ccd1f558c5678a7eac5cc19349d93dbbeb6bc4d26f11f9da72099576e4eeb"), looks := false }, kinds := [], alts := [], laidByText := true, laidKinds := [.data, .data, .data], laidTests := true, laidLooks := .later }
def AssessRefundsUptoCardSaid : Prop := Claim7.holds Tryz.pinned (.plain (OpenSpec.upto assessRefundsSpec)) assessRefundsUptoCard

/-- THE SECOND FORM's CARD OF 'cardnetlaw38.AssessSums'. -/
def assessSumsUptoCard : Claim7 := { stood := { row := assessSumsUptoRow, standIns := [], harness := (true, "ba2ccd1f558c5678a7eac5cc19349d93dbbeb6bc4d26f11f9da72099576e4eeb"), looks := false }, kinds := [], alts := [], laidByText := true, laidKinds := [.data, .data, .data], laidTests := true, laidLooks := .later }
def AssessSumsUptoCardSaid : Prop := Claim7.holds Tryz.pinned (.plain (OpenSpec.upto assessSumsSpec)) assessSumsUptoCard

/-- THE SECOND FORM's CARD OF 'cardnetlaw38.AssessTotals'. -/
def assessTotalsUptoCard : Claim7 := { stood := { row := assessTotalsUptoRow, standIns := [], harness := (true, "ba2ccd1f558c5678a7eac5cc19349d93dbbeb6bc4d26f11f9da72099576e4eeb"), looks := false }, kinds := [], alts := [], laidByText := true, laidKinds := [.data, .data, .data], laidTests := true, laidLooks := .later }
def AssessTotalsUptoCardSaid : Prop := Claim7.holds Tryz.pinned (.plain (OpenSpec.upto assessTotalsSpec)) assessTotalsUptoCard
end Rows
end Go.Proofs.YtmoadonepkccbaaGreatDoor
