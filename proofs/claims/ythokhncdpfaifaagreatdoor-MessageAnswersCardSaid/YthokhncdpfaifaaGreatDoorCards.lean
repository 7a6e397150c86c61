/-
  DERIVED. GIVEN WITH THE SEED: THE CARDS: each row of YthokhncdpfaifaaGreatDoorRows.lean that lists a variable, with what it lists TIED to the program's text (the seventh form; the later family's looks); each row that meets fmt, with fmt's text TOLD by the authors' own Lean function (tested against real Go, not proved from fmt's source: count such statements apart). THE CARD IS WHAT COUNTS. Prove the row's statement (the work); the ties are given (YthokhncdpfaifaaGreatDoorTie.lean); close each card by the builder's one call (the guide's Derived/Test/ToyasCard.lean, 'card_holds'). Laid BY PROGRAM, IN A SANDBOX (cutbox-door.mjs). By AI agents, Wed Nov 11 2026. No macro, syntax, notation, axiom, sorry.
-/
import Derived.Test.YthokhncdpfaifaaGreatDoorRows
import GoSem.ClaimSeven
namespace Go.Proofs.YthokhncdpfaifaaGreatDoor
namespace Rows

/-- THE TIED CARD OF 'cardnetlaw11.MessageCodes'. -/
def messageCodesCard : Claim7 := { stood := { row := messageCodesRow, standIns := [], harness := (true, "5b7c2e55e5d132ef184d4ce6f9c5cfae9308bd32560e541b148794409e6ae8fc"), looks := false }, kinds := [], alts := [], laidByText := true, laidKinds := [.data, .data, .data, .data, .data, .pinned], laidTests := true, laidLooks := .later }
def MessageCodesCardSaid : Prop := Claim7.holds Tryz.pinned (.plain (OpenSpec.ofChange messageCodesSpec)) messageCodesCard

/-- THE TIED CARD OF 'cardnetlaw11.MessageDecodes'. -/
def messageDecodesCard : Claim7 := { stood := { row := messageDecodesRow, standIns := [], harness := (true, "5b7c2e55e5d132ef184d4ce6f9c5cfae9308bd32560e541b148794409e6ae8fc"), looks := false }, kinds := [], alts := [], laidByText := true, laidKinds := [.data, .data, .data, .data, .data, .pinned], laidTests := true, laidLooks := .later }
def MessageDecodesCardSaid : Prop := Claim7.holds Tryz.pinned (.plain (OpenSpec.ofChange messageDecodesSpec)) messageDecodesCard

/-- THE TIED CARD OF 'cardnetlaw11.MessageRoundTrip'. -/
def messageRoundTripCard : Claim7 := { stood := { row := messageRoundTripRow, standIns := [], harness := (true, "5b7c2e55e5d132ef184d4ce6f9c5cfae9308bd32560e541b148794409e6ae8fc"), looks := false }, kinds := [], alts := [], laidByText := true, laidKinds := [.data, .data, .data, .data, .data, .pinned], laidTests := true, laidLooks := .later }
def MessageRoundTripCardSaid : Prop := Claim7.holds Tryz.pinned (.plain (OpenSpec.ofChange messageRoundTripSpec)) messageRoundTripCard

/-- THE TIED CARD OF 'cardnetlaw11.MessageReplies'. -/
def messageRepliesCard : Claim7 := { stood := { row := messageRepliesRow, standIns := [], harness := (true, "5b7c2e55e5d132ef184d4ce6f9c5cfae9308bd32560e541b148794409e6ae8fc"), looks := false }, kinds := [], alts := [], laidByText := true, laidKinds := [.data, .data, .data, .data, .data, .pinned], laidTests := true, laidLooks := .later }
def MessageRepliesCardSaid : Prop := Claim7.holds Tryz.pinned (.plain (OpenSpec.ofChange messageRepliesSpec)) messageRepliesCard

/-- THE TIED CARD OF 'cardnetlaw11.MessageAnswers'. -/
def messageAnswersCard : Claim7 := { stood := { row := messageAnswersRow, standIns := [], harness := (true, "5b7c2e55e5d132ef184d4ce6f9c5cfae9308bd32560e541b148794409e6ae8fc"), looks := false }, kinds := [], alts := [], laidByText := true, laidKinds := [.data, .data, .data, .data, .data, .pinned], laidTests := true, laidLooks := .later }
def MessageAnswersCardSaid : Prop := Claim7.holds Tryz.pinned (.plain (OpenSpec.ofChange messageAnswersSpec)) messageAnswersCard

/-- THE TIED CARD OF 'cardnetlaw11.MessageElements'. -/
def messageElementsCard : Claim7 := { stood := { row := messageElementsRow, standIns := [], harness := (true, "5b7c2e55e5d132ef184d4ce6f9c5cfae9308bd32560e541b148794409e6ae8fc"), looks := false }, kinds := [], alts := [], laidByText := true, laidKinds := [.data, .data, .data, .data, .data, .pinned], laidTests := true, laidLooks := .later }
def MessageElementsCardSaid : Prop := Claim7.holds Tryz.pinned (.plain (OpenSpec.ofChange messageElementsSpec)) messageElementsCard

/-- THE SECOND FORM's CARD OF 'cardnetlaw11.MessageCodes'. -/
def messageCodesUptoCard : Claim7 := { stood := { row := messageCodesUptoRow, standIns := [], harness := (true, "5b7c2e55e5d132ef184d4ce6f9c5cfae9308bd32560e541b148794409e6ae8fc"), looks := false }, kinds := [], alts := [], laidByText := true, laidKinds := [.data, .data, .data, .data, .data, .pinned], laidTests := true, laidLooks := .later }
def MessageCodesUptoCardSaid : Prop := Claim7.holds Tryz.pinned (.plain (OpenSpec.upto messageCodesSpec)) messageCodesUptoCard

/-- THE SECOND FORM's CARD OF 'cardnetlaw11.MessageDecodes'. -/
def messageDecodesUptoCard : Claim7 := { stood := { row := messageDecodesUptoRow, standIns := [], harness := (true, "5b7c2e55e5d132ef184d4ce6f9c5cfae9308bd32560e541b148794409e6ae8fc"), looks := false }, kinds := [], alts := [], laidByText := true, laidKinds := [.data, .data, .data, .data, .data, .pinned], laidTests := true, laidLooks := .later }
def MessageDecodesUptoCardSaid : Prop := Claim7.holds Tryz.pinned (.plain (OpenSpec.upto messageDecodesSpec)) messageDecodesUptoCard

/-- THE SECOND FORM's CARD OF 'cardnetlaw11.MessageRoundTrip'. -/
def messageRoundTripUptoCard : Claim7 := { stood := { row := messageRoundTripUptoRow, standIns := [], harness := (true, "5b7c2e55e5d132ef184d4ce6f9c5cfae9308bd32560e541b148794409e6ae8fc"), looks := false }, kinds := [], alts := [], laidByText := true, laidKinds := [.data, .data, .data, .data, .data, .pinned], laidTests := true, laidLooks := .later }
def MessageRoundTripUptoCardSaid : Prop := Claim7.holds Tryz.pinned (.plain (OpenSpec.upto messageRoundTripSpec)) messageRoundTripUptoCard

/-- THE SECOND FORM's CARD OF 'cardnetlaw11.MessageReplies'. -/
def messageRepliesUptoCard : Claim7 := { stood := { row := messageRepliesUptoRow, standIns := [], harness := (true, "5b7c2e55e5d132ef184d4ce6f9c5cfae9308bd32560e541b148794409e6ae8fc"), looks := false }, kinds := [], alts := [], laidByText := true, laidKinds := [.data, .data, .data, .data, .data, .pinned], laidTests := true, laidLooks := .later }
def MessageRepliesUptoCardSaid : Prop := Claim7.holds Tryz.pinned (.plain (OpenSpec.upto messageRepliesSpec)) messageRepliesUptoCard

/-- THE SECOND FORM's CARD OF 'cardnetlaw11.MessageAnswers'. -/
def messageAnswersUptoCard : Claim7 := { stood := { row := messageAnswersUptoRow, standIns := [], harness := (true, "5b7c2e55e5d132ef184d4ce6f9c5cfae9308bd32560e541b148794409e6ae8fc"), looks := false }, kinds := [], alts := [], laidByText := true, laidKinds := [.data, .data, .data, .data, .data, .pinned], laidTests := true, laidLooks := .later }
def MessageAnswersUptoCardSaid : Prop := Claim7.holds Tryz.pinned (.plain (OpenSpec.upto messageAnswersSpec)) messageAnswersUptoCard

/-- THE SECOND FORM's CARD OF 'cardnetlaw11.MessageElements'. -/
def messageElementsUptoCard : Claim7 := { stood := { row := messageElementsUptoRow, standIns := [], harness := (true, "5b7c2e55e5d132ef184d4ce6f9c5cfae9308bd32560e541b148794409e6ae8fc"), looks := false }, kinds := [], alts := [], laidByText := true, laidKinds := [.data, .data, .data, .data, .data, .pinned], laidTests := true, laidLooks := .later }
def MessageElementsUptoCardSaid : Prop := Claim7.holds Tryz.pinned (.plain (OpenSpec.upto messageElementsSpec)) messageElementsUptoCard
end Rows
end Go.Proofs.YthokhncdpfaifaaGreatDoor
