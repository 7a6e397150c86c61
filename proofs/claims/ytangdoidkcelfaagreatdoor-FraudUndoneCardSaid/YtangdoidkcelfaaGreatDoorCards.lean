/-
  DERIVED. GIVEN WITH THE SEED: THE CARDS: each row of YtangdoidkcelfaaGreatDoorRows.lean that lists a variable, with what it lists TIED to the program's text (the seventh form; the later family's looks); each row that meets fmt, with fmt's text TOLD by the authors' own Lean function (tested against real Go, not proved from fmt's source: count such statements apart). THE CARD IS WHAT COUNTS. Prove the row's statement (the work); the ties are given (YtangdoidkcelfaaGreatDoorTie.lean); close each card by the builder's one call (the guide's Derived/Test/ToyasCard.lean, 'card_holds'). Laid BY PROGRAM, IN A SANDBOX (cutbox-door.mjs). By AI agents, Wed Nov 11 2026. No macro, syntax, notation, axiom, sorry.
-/
import Derived.Test.YtangdoidkcelfaaGreatDoorRows
import GoSem.ClaimSeven
namespace Go.Proofs.YtangdoidkcelfaaGreatDoor
namespace Rows

/-- THE TIED CARD OF 'cardnetlaw26.FraudTexts'. -/
def fraudTextsCard : Claim7 := { stood := { row := fraudTextsRow, standIns := [], harness := (true, "e2ff76011b43adee9136b3810badb56dd1549c1db7807aad078f312b48b415a7"), looks := false }, kinds := [], alts := [], laidByText := true, laidKinds := [.data, .data, .data], laidTests := true, laidLooks := .later }
def FraudTextsCardSaid : Prop := Claim7.holds Tryz.pinned (.plain (OpenSpec.ofChange fraudTextsSpec)) fraudTextsCard

/-- THE TIED CARD OF 'cardnetlaw26.FraudWindows'. -/
def fraudWindowsCard : Claim7 := { stood := { row := fraudWindowsRow, standIns := [], harness := (true, "e2ff76011b43adee9136b3810badb56dd1549c1db7807aad078f312b48b415a7"), looks := false }, kinds := [], alts := [], laidByText := true, laidKinds := [.data, .data, .data], laidTests := true, laidLooks := .later }
def FraudWindowsCardSaid : Prop := Claim7.holds Tryz.pinned (.plain (OpenSpec.ofChange fraudWindowsSpec)) fraudWindowsCard

/-- THE TIED CARD OF 'cardnetlaw26.FraudExact'. -/
def fraudExactCard : Claim7 := { stood := { row := fraudExactRow, standIns := [], harness := (true, "e2ff76011b43adee9136b3810badb56dd1549c1db7807aad078f312b48b415a7"), looks := false }, kinds := [], alts := [], laidByText := true, laidKinds := [.data, .data, .data], laidTests := true, laidLooks := .later }
def FraudExactCardSaid : Prop := Claim7.holds Tryz.pinned (.plain (OpenSpec.ofChange fraudExactSpec)) fraudExactCard

/-- THE TIED CARD OF 'cardnetlaw26.FraudUndone'. -/
def fraudUndoneCard : Claim7 := { stood := { row := fraudUndoneRow, standIns := [], harness := (true, "e2ff76011b43adee9136b3810badb56dd1549c1db7807aad078f312b48b415a7"), looks := false }, kinds := [], alts := [], laidByText := true, laidKinds := [.data, .data, .data], laidTests := true, laidLooks := .later }
def FraudUndoneCardSaid : Prop := Claim7.holds Tryz.pinned (.plain (OpenSpec.ofChange fraudUndoneSpec)) fraudUndoneCard

/-- THE SECOND FORM's CARD OF 'cardnetlaw26.FraudTexts'. -/
def fraudTextsUptoCard : Claim7 := { stood := { row := fraudTextsUptoRow, standIns := [], harness := (true, "e2ff76011b43adee9136b3810badb56dd1549c1db7807aad078f312b48b415a7"), looks := false }, kinds := [], alts := [], laidByText := true, laidKinds := [.data, .data, .data], laidTests := true, laidLooks := .later }
def FraudTextsUptoCardSaid : Prop := Claim7.holds Tryz.pinned (.plain (OpenSpec.upto fraudTextsSpec)) fraudTextsUptoCard

/-- THE SECOND FORM's CARD OF 'cardnetlaw26.FraudWindows'. -/
def fraudWindowsUptoCard : Claim7 := { stood := { row := fraudWindowsUptoRow, standIns := [], harness := (true, "e2ff76011b43adee9136b3810badb56dd1549c1db7807aad078f312b48b415a7"), looks := false }, kinds := [], alts := [], laidByText := true, laidKinds := [.data, .data, .data], laidTests := true, laidLooks := .later }
def FraudWindowsUptoCardSaid : Prop := Claim7.holds Tryz.pinned (.plain (OpenSpec.upto fraudWindowsSpec)) fraudWindowsUptoCard

/-- THE SECOND FORM's CARD OF 'cardnetlaw26.FraudExact'. -/
def fraudExactUptoCard : Claim7 := { stood := { row := fraudExactUptoRow, standIns := [], harness := (true, "e2ff76011b43adee9136b3810badb56dd1549c1db7807aad078f312b48b415a7"), looks := false }, kinds := [], alts := [], laidByText := true, laidKinds := [.data, .data, .data], laidTests := true, laidLooks := .later }
def FraudExactUptoCardSaid : Prop := Claim7.holds Tryz.pinned (.plain (OpenSpec.upto fraudExactSpec)) fraudExactUptoCard

/-- THE SECOND FORM's CARD OF 'cardnetlaw26.FraudUndone'. -/
def fraudUndoneUptoCard : Claim7 := { stood := { row := fraudUndoneUptoRow, standIns := [], harness := (true, "e2ff76011b43adee9136b3810badb56dd1549c1db7807aad078f312b48b415a7"), looks := false }, kinds := [], alts := [], laidByText := true, laidKinds := [.data, .data, .data], laidTests := true, laidLooks := .later }
def FraudUndoneUptoCardSaid : Prop := Claim7.holds Tryz.pinned (.plain (OpenSpec.upto fraudUndoneSpec)) fraudUndoneUptoCard
end Rows
end Go.Proofs.YtangdoidkcelfaaGreatDoor
