/-
  DERIVED. GIVEN WITH THE SEED: THE CARDS: each row of YtpdpjindmghfpaaGreatDoorRows.lean that lists a variable, with what it lists TIED to the program's text (the seventh form; the later family's looks); each row that meets fmt, with fmt's text TOLD by the authors' own Lean function (tested against real Go, not proved from fmt's source: count such statements apart). THE CARD IS WHAT COUNTS. Prove the row's statement (the work); the ties are given (YtpdpjindmghfpaaGreatDoorTie.lean); close each card by the builder's one call (the guide's Derived/Test/ToyasCard.lean, 'card_holds'). Laid BY PROGRAM, IN A SANDBOX (cutbox-door.mjs). By AI agents, Wed Nov 11 2026. No macro, syntax, notation, axiom, sorry.
-/
import Derived.Test.YtpdpjindmghfpaaGreatDoorRows
import GoSem.ClaimSeven
namespace Go.Proofs.YtpdpjindmghfpaaGreatDoor
namespace Rows

/-- THE TIED CARD OF 'cardnetlaw36.FeeruleFees'. -/
def feeruleFeesCard : Claim7 := { stood := { row := feeruleFeesRow, standIns := [], harness := (true, "adf397de1a7a30ed30afd8e9857aceee283925bfa672a429f9bdc1b06fda152e"), looks := false }, kinds := [], alts := [], laidByText := true, laidKinds := [.data, .data, .data], laidTests := true, laidLooks := .later }
def FeeruleFeesCardSaid : Prop := Claim7.holds Tryz.pinned (.plain (OpenSpec.ofChange feeruleFeesSpec)) feeruleFeesCard

/-- THE TIED CARD OF 'cardnetlaw36.FeeruleApplies'. -/
def feeruleAppliesCard : Claim7 := { stood := { row := feeruleAppliesRow, standIns := [], harness := (true, "adf397de1a7a30ed30afd8e9857aceee283925bfa672a429f9bdc1b06fda152e"), looks := false }, kinds := [], alts := [], laidByText := true, laidKinds := [.data, .data, .data], laidTests := true, laidLooks := .later }
def FeeruleAppliesCardSaid : Prop := Claim7.holds Tryz.pinned (.plain (OpenSpec.ofChange feeruleAppliesSpec)) feeruleAppliesCard

/-- THE TIED CARD OF 'cardnetlaw36.FeeruleFirst'. -/
def feeruleFirstCard : Claim7 := { stood := { row := feeruleFirstRow, standIns := [], harness := (true, "adf397de1a7a30ed30afd8e9857aceee283925bfa672a429f9bdc1b06fda152e"), looks := false }, kinds := [], alts := [], laidByText := true, laidKinds := [.data, .data, .data], laidTests := true, laidLooks := .later }
def FeeruleFirstCardSaid : Prop := Claim7.holds Tryz.pinned (.plain (OpenSpec.ofChange feeruleFirstSpec)) feeruleFirstCard

/-- THE TIED CARD OF 'cardnetlaw36.FeeruleBounds'. -/
def feeruleBoundsCard : Claim7 := { stood := { row := feeruleBoundsRow, standIns := [], harness := (true, "adf397de1a7a30ed30afd8e9857aceee283925bfa672a429f9bdc1b06fda152e"), looks := false }, kinds := [], alts := [], laidByText := true, laidKinds := [.data, .data, .data], laidTests := true, laidLooks := .later }
def FeeruleBoundsCardSaid : Prop := Claim7.holds Tryz.pinned (.plain (OpenSpec.ofChange feeruleBoundsSpec)) feeruleBoundsCard

/-- THE TIED CARD OF 'cardnetlaw36.FeerulePrunes'. -/
def feerulePrunesCard : Claim7 := { stood := { row := feerulePrunesRow, standIns := [], harness := (true, "adf397de1a7a30ed30afd8e9857aceee283925bfa672a429f9bdc1b06fda152e"), looks := false }, kinds := [], alts := [], laidByText := true, laidKinds := [.data, .data, .data], laidTests := true, laidLooks := .later }
def FeerulePrunesCardSaid : Prop := Claim7.holds Tryz.pinned (.plain (OpenSpec.ofChange feerulePrunesSpec)) feerulePrunesCard

/-- THE TIED CARD OF 'cardnetlaw36.FeerulePruned'. -/
def feerulePrunedCard : Claim7 := { stood := { row := feerulePrunedRow, standIns := [], harness := (true, "adf397de1a7a30ed30afd8e9857aceee283925bfa672a429f9bdc1b06fda152e"), looks := false }, kinds := [], alts := [], laidByText := true, laidKinds := [.data, .data, .data], laidTests := true, laidLooks := .later }
def FeerulePrunedCardSaid : Prop := Claim7.holds Tryz.pinned (.plain (OpenSpec.ofChange feerulePrunedSpec)) feerulePrunedCard

/-- THE SECOND FORM's CARD OF 'cardnetlaw36.FeeruleFees'. -/
def feeruleFeesUptoCard : Claim7 := { stood := { row := feeruleFeesUptoRow, standIns := [], harness := (true, "adf397de1a7a30ed30afd8e9857aceee283925bfa672a429f9bdc1b06fda152e"), looks := false }, kinds := [], alts := [], laidByText := true, laidKinds := [.data, .data, .data], laidTests := true, laidLooks := .later }
def FeeruleFeesUptoCardSaid : Prop := Claim7.holds Tryz.pinned (.plain (OpenSpec.upto feeruleFeesSpec)) feeruleFeesUptoCard

/-- THE SECOND FORM's CARD OF 'cardnetlaw36.FeeruleApplies'. -/
def feeruleAppliesUptoCard : Claim7 := { stood := { row := feeruleAppliesUptoRow, standIns := [], harness := (true, "adf397de1a7a30ed30afd8e9857aceee283925bfa672a429f9bdc1b06fda152e"), looks := false }, kinds := [], alts := [], laidByText := true, laidKinds := [.data, .data, .data], laidTests := true, laidLooks := .later }
def FeeruleAppliesUptoCardSaid : Prop := Claim7.holds Tryz.pinned (.plain (OpenSpec.upto feeruleAppliesSpec)) feeruleAppliesUptoCard

/-- THE SECOND FORM's CARD OF 'cardnetlaw36.FeeruleFirst'. -/
def feeruleFirstUptoCard : Claim7 := { stood := { row := feeruleFirstUptoRow, standIns := [], harness := (true, "adf397de1a7a30ed30afd8e9857aceee283925bfa672a429f9bdc1b06fda152e"), looks := false }, kinds := [], alts := [], laidByText := true, laidKinds := [.data, .data, .data], laidTests := true, laidLooks := .later }
def FeeruleFirstUptoCardSaid : Prop := Claim7.holds Tryz.pinned (.plain (OpenSpec.upto feeruleFirstSpec)) feeruleFirstUptoCard

/-- THE SECOND FORM's CARD OF 'cardnetlaw36.FeeruleBounds'. -/
def feeruleBoundsUptoCard : Claim7 := { stood := { row := feeruleBoundsUptoRow, standIns := [], harness := (true, "adf397de1a7a30ed30afd8e9857aceee283925bfa672a429f9bdc1b06fda152e"), looks := false }, kinds := [], alts := [], laidByText := true, laidKinds := [.data, .data, .data], laidTests := true, laidLooks := .later }
def FeeruleBoundsUptoCardSaid : Prop := Claim7.holds Tryz.pinned (.plain (OpenSpec.upto feeruleBoundsSpec)) feeruleBoundsUptoCard

/-- THE SECOND FORM's CARD OF 'cardnetlaw36.FeerulePrunes'. -/
def feerulePrunesUptoCard : Claim7 := { stood := { row := feerulePrunesUptoRow, standIns := [], harness := (true, "adf397de1a7a30ed30afd8e9857aceee283925bfa672a429f9bdc1b06fda152e"), looks := false }, kinds := [], alts := [], laidByText := true, laidKinds := [.data, .data, .data], laidTests := true, laidLooks := .later }
def FeerulePrunesUptoCardSaid : Prop := Claim7.holds Tryz.pinned (.plain (OpenSpec.upto feerulePrunesSpec)) feerulePrunesUptoCard

/-- THE SECOND FORM's CARD OF 'cardnetlaw36.FeerulePruned'. -/
def feerulePrunedUptoCard : Claim7 := { stood := { row := feerulePrunedUptoRow, standIns := [], harness := (true, "adf397de1a7a30ed30afd8e9857aceee283925bfa672a429f9bdc1b06fda152e"), looks := false }, kinds := [], alts := [], laidByText := true, laidKinds := [.data, .data, .data], laidTests := true, laidLooks := .later }
def FeerulePrunedUptoCardSaid : Prop := Claim7.holds Tryz.pinned (.plain (OpenSpec.upto feerulePrunedSpec)) feerulePrunedUptoCard
end Rows
end Go.Proofs.YtpdpjindmghfpaaGreatDoor
