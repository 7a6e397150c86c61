/-
  DERIVED. GIVEN WITH THE SEED: THE CARDS: each row of YthokhncdpfaifaaDoorRows.lean that lists a variable, with what it lists TIED to the program's text (the seventh form; the later family's looks); each row that meets fmt, with fmt's text TOLD by the authors' own Lean function (tested against real Go, not proved from fmt's source: count such statements apart). THE CARD IS WHAT COUNTS. Prove the row's statement (the work); the ties are given (YthokhncdpfaifaaDoorTie.lean); close each card by the builder's one call (the guide's Derived/Test/ToyasCard.lean, 'card_holds'). Laid BY PROGRAM, IN A SANDBOX (cutbox-door.mjs). By AI agents, Wed Nov 11 2026. No macro, syntax, notation, axiom, sorry.
-/
import Derived.Test.YthokhncdpfaifaaDoorRows
import GoSem.ClaimSeven
namespace Go.Proofs.YthokhncdpfaifaaDoor
namespace Rows

/-- THE TIED CARD OF 'cardnetlaw10.ElementChecks'. -/
def elementChecksCard : Claim7 := { stood := { row := elementChecksRow, standIns := [], harness := (true, "08224dda89617a89752477bc0990e7b476b5ff8fa88862cf493a9292fdf741c2"), looks := false }, kinds := [], alts := [], laidByText := true, laidKinds := [.data, .data, .data, .data, .data, .pinned], laidTests := true, laidLooks := .later }
def ElementChecksCardSaid : Prop := Claim7.holds Tryd.pinned (.plain (OpenSpec.ofChange elementChecksSpec)) elementChecksCard

/-- THE TIED CARD OF 'cardnetlaw10.ElementDecodes'. -/
def elementDecodesCard : Claim7 := { stood := { row := elementDecodesRow, standIns := [], harness := (true, "08224dda89617a89752477bc0990e7b476b5ff8fa88862cf493a9292fdf741c2"), looks := false }, kinds := [], alts := [], laidByText := true, laidKinds := [.data, .data, .data, .data, .data, .pinned], laidTests := true, laidLooks := .later }
def ElementDecodesCardSaid : Prop := Claim7.holds Tryd.pinned (.plain (OpenSpec.ofChange elementDecodesSpec)) elementDecodesCard

/-- THE TIED CARD OF 'cardnetlaw10.ElementRoundTrip'. -/
def elementRoundTripCard : Claim7 := { stood := { row := elementRoundTripRow, standIns := [], harness := (true, "08224dda89617a89752477bc0990e7b476b5ff8fa88862cf493a9292fdf741c2"), looks := false }, kinds := [], alts := [], laidByText := true, laidKinds := [.data, .data, .data, .data, .data, .pinned], laidTests := true, laidLooks := .later }
def ElementRoundTripCardSaid : Prop := Claim7.holds Tryd.pinned (.plain (OpenSpec.ofChange elementRoundTripSpec)) elementRoundTripCard

/-- THE TIED CARD OF 'cardnetlaw10.ElementOnly'. -/
def elementOnlyCard : Claim7 := { stood := { row := elementOnlyRow, standIns := [], harness := (true, "08224dda89617a89752477bc0990e7b476b5ff8fa88862cf493a9292fdf741c2"), looks := false }, kinds := [], alts := [], laidByText := true, laidKinds := [.data, .data, .data, .data, .data, .pinned], laidTests := true, laidLooks := .later }
def ElementOnlyCardSaid : Prop := Claim7.holds Tryd.pinned (.plain (OpenSpec.ofChange elementOnlySpec)) elementOnlyCard

/-- THE TIED CARD OF 'cardnetlaw10.ElementNames'. -/
def elementNamesCard : Claim7 := { stood := { row := elementNamesRow, standIns := [], harness := (true, "08224dda89617a89752477bc0990e7b476b5ff8fa88862cf493a9292fdf741c2"), looks := false }, kinds := [], alts := [], laidByText := true, laidKinds := [.data, .data, .data, .data, .data, .pinned], laidTests := true, laidLooks := .later }
def ElementNamesCardSaid : Prop := Claim7.holds Tryd.pinned (.plain (OpenSpec.ofChange elementNamesSpec)) elementNamesCard

/-- THE TIED CARD OF 'cardnetlaw10.ElementFinds'. -/
def elementFindsCard : Claim7 := { stood := { row := elementFindsRow, standIns := [], harness := (true, "08224dda89617a89752477bc0990e7b476b5ff8fa88862cf493a9292fdf741c2"), looks := false }, kinds := [], alts := [], laidByText := true, laidKinds := [.data, .data, .data, .data, .data, .pinned], laidTests := true, laidLooks := .later }
def ElementFindsCardSaid : Prop := Claim7.holds Tryd.pinned (.plain (OpenSpec.ofChange elementFindsSpec)) elementFindsCard

/-- THE SECOND FORM's CARD OF 'cardnetlaw10.ElementChecks'. -/
def elementChecksUptoCard : Claim7 := { stood := { row := elementChecksUptoRow, standIns := [], harness := (true, "08224dda89617a89752477bc0990e7b476b5ff8fa88862cf493a9292fdf741c2"), looks := false }, kinds := [], alts := [], laidByText := true, laidKinds := [.data, .data, .data, .data, .data, .pinned], laidTests := true, laidLooks := .later }
def ElementChecksUptoCardSaid : Prop := Claim7.holds Tryd.pinned (.plain (OpenSpec.upto elementChecksSpec)) elementChecksUptoCard

/-- THE SECOND FORM's CARD OF 'cardnetlaw10.ElementDecodes'. -/
def elementDecodesUptoCard : Claim7 := { stood := { row := elementDecodesUptoRow, standIns := [], harness := (true, "08224dda89617a89752477bc0990e7b476b5ff8fa88862cf493a9292fdf741c2"), looks := false }, kinds := [], alts := [], laidByText := true, laidKinds := [.data, .data, .data, .data, .data, .pinned], laidTests := true, laidLooks := .later }
def ElementDecodesUptoCardSaid : Prop := Claim7.holds Tryd.pinned (.plain (OpenSpec.upto elementDecodesSpec)) elementDecodesUptoCard

/-- THE SECOND FORM's CARD OF 'cardnetlaw10.ElementRoundTrip'. -/
def elementRoundTripUptoCard : Claim7 := { stood := { row := elementRoundTripUptoRow, standIns := [], harness := (true, "08224dda89617a89752477bc0990e7b476b5ff8fa88862cf493a9292fdf741c2"), looks := false }, kinds := [], alts := [], laidByText := true, laidKinds := [.data, .data, .data, .data, .data, .pinned], laidTests := true, laidLooks := .later }
def ElementRoundTripUptoCardSaid : Prop := Claim7.holds Tryd.pinned (.plain (OpenSpec.upto elementRoundTripSpec)) elementRoundTripUptoCard

/-- THE SECOND FORM's CARD OF 'cardnetlaw10.ElementOnly'. -/
def elementOnlyUptoCard : Claim7 := { stood := { row := elementOnlyUptoRow, standIns := [], harness := (true, "08224dda89617a89752477bc0990e7b476b5ff8fa88862cf493a9292fdf741c2"), looks := false }, kinds := [], alts := [], laidByText := true, laidKinds := [.data, .data, .data, .data, .data, .pinned], laidTests := true, laidLooks := .later }
def ElementOnlyUptoCardSaid : Prop := Claim7.holds Tryd.pinned (.plain (OpenSpec.upto elementOnlySpec)) elementOnlyUptoCard

/-- THE SECOND FORM's CARD OF 'cardnetlaw10.ElementNames'. -/
def elementNamesUptoCard : Claim7 := { stood := { row := elementNamesUptoRow, standIns := [], harness := (true, "08224dda89617a89752477bc0990e7b476b5ff8fa88862cf493a9292fdf741c2"), looks := false }, kinds := [], alts := [], laidByText := true, laidKinds := [.data, .data, .data, .data, .data, .pinned], laidTests := true, laidLooks := .later }
def ElementNamesUptoCardSaid : Prop := Claim7.holds Tryd.pinned (.plain (OpenSpec.upto elementNamesSpec)) elementNamesUptoCard

/-- THE SECOND FORM's CARD OF 'cardnetlaw10.ElementFinds'. -/
def elementFindsUptoCard : Claim7 := { stood := { row := elementFindsUptoRow, standIns := [], harness := (true, "08224dda89617a89752477bc0990e7b476b5ff8fa88862cf493a9292fdf741c2"), looks := false }, kinds := [], alts := [], laidByText := true, laidKinds := [.data, .data, .data, .data, .data, .pinned], laidTests := true, laidLooks := .later }
def ElementFindsUptoCardSaid : Prop := Claim7.holds Tryd.pinned (.plain (OpenSpec.upto elementFindsSpec)) elementFindsUptoCard
end Rows
end Go.Proofs.YthokhncdpfaifaaDoor
