/-
  DERIVED. GIVEN WITH THE SEED: THE CARDS: each row of YtkggloeaojkhaaaGreatDoorRows.lean that lists a variable, with what it lists TIED to the program's text (the seventh form; the later family's looks); each row that meets fmt, with fmt's text TOLD by the authors' own Lean function (tested against real Go, not proved from fmt's source: count such statements apart). THE CARD IS WHAT COUNTS. Prove the row's statement (the work); the ties are given (YtkggloeaojkhaaaGreatDoorTie.lean); close each card by the builder's one call (the guide's Derived/Test/ToyasCard.lean, 'card_holds'). Laid BY PROGRAM, IN A SANDBOX (cutbox-door.mjs). By AI agents, Wed Nov 11 2026. No macro, syntax, notation, axiom, sorry.
-/
import Derived.Test.YtkggloeaojkhaaaGreatDoorRows
import GoSem.ClaimSeven
namespace Go.Proofs.YtkggloeaojkhaaaGreatDoor
namespace Rows

/-- THE TIED CARD OF 'cardnetlaw30.AcquirerReverses'. -/
def acquirerReversesCard : Claim7 := { stood := { row := acquirerReversesRow, standIns := [], harness := (true, "dbd89056afbcebde7298b6a724d565c9b597be68de7045a43a161475285fe5dd"), looks := false }, kinds := [], alts := [], laidByText := true, laidKinds := [.data, .data, .data, .data, .data, .pinned], laidTests := true, laidLooks := .later }
def AcquirerReversesCardSaid : Prop := Claim7.holds Tryz.pinned (.plain (OpenSpec.ofChange acquirerReversesSpec)) acquirerReversesCard

/-- THE TIED CARD OF 'cardnetlaw30.AcquirerEnds'. -/
def acquirerEndsCard : Claim7 := { stood := { row := acquirerEndsRow, standIns := [], harness := (true, "dbd89056afbcebde7298b6a724d565c9b597be68de7045a43a161475285fe5dd"), looks := false }, kinds := [], alts := [], laidByText := true, laidKinds := [.data, .data, .data, .data, .data, .pinned], laidTests := true, laidLooks := .later }
def AcquirerEndsCardSaid : Prop := Claim7.holds Tryz.pinned (.plain (OpenSpec.ofChange acquirerEndsSpec)) acquirerEndsCard

/-- THE SECOND FORM's CARD OF 'cardnetlaw30.AcquirerReverses'. -/
def acquirerReversesUptoCard : Claim7 := { stood := { row := acquirerReversesUptoRow, standIns := [], harness := (true, "dbd89056afbcebde7298b6a724d565c9b597be68de7045a43a161475285fe5dd"), looks := false }, kinds := [], alts := [], laidByText := true, laidKinds := [.data, .data, .data, .data, .data, .pinned], laidTests := true, laidLooks := .later }
def AcquirerReversesUptoCardSaid : Prop := Claim7.holds Tryz.pinned (.plain (OpenSpec.upto acquirerReversesSpec)) acquirerReversesUptoCard

/-- THE SECOND FORM's CARD OF 'cardnetlaw30.AcquirerEnds'. -/
def acquirerEndsUptoCard : Claim7 := { stood := { row := acquirerEndsUptoRow, standIns := [], harness := (true, "dbd89056afbcebde7298b6a724d565c9b597be68de7045a43a161475285fe5dd"), looks := false }, kinds := [], alts := [], laidByText := true, laidKinds := [.data, .data, .data, .data, .data, .pinned], laidTests := true, laidLooks := .later }
def AcquirerEndsUptoCardSaid : Prop := Claim7.holds Tryz.pinned (.plain (OpenSpec.upto acquirerEndsSpec)) acquirerEndsUptoCard
end Rows
end Go.Proofs.YtkggloeaojkhaaaGreatDoor
