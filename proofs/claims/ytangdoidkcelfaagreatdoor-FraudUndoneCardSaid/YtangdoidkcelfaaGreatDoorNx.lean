/- The purchases of law 26 as data (printed by gen/h69.py). -/
import Derived.Test.YtangdoidkcelfaaGreatDoorKp
namespace Go.Proofs.YtangdoidkcelfaaGreatDoor
open Go.RowKit
structure LUse where
 gap : Nat
 card : Nat
 amt : Nat
def luD : LUse := ⟨0, 0, 0⟩
/-- The slice v reads as the law's purchases. -/
def LUsM (w : World) (v : Value) (l : List LUse) : Prop :=
 ∃ p c, v = .slice p l.length c ∧ (∀ i, (l.getD i luD).gap ≤ 255 ∧ (l.getD i luD).card ≤ 255 ∧ (l.getD i luD).amt ≤ 65535) ∧ (0 < l.length → ∃ b off, p = some ⟨b, off, none⟩ ∧ ∀ i, i < l.length → w.cell? ⟨b, off + i * 3, none⟩ = some (.int .u8 (l.getD i luD).gap) ∧ w.cell? ⟨b, off + i * 3 + 1, none⟩ = some (.int .u8 (l.getD i luD).card) ∧ w.cell? ⟨b, off + i * 3 + 2, none⟩ = some (.int .u16 (l.getD i luD).amt))
/-- The time behind k gaps; the purchases so far; how many of them count. -/
def tmL (l : List LUse) : Nat → Int
 | 0 => 0
 | k + 1 => tmL l k + ((l.getD k luD).gap : Int)
theorem tmL_bd {l : List LUse} (h : ∀ i, (l.getD i luD).gap ≤ 255 ∧ (l.getD i luD).card ≤ 255 ∧ (l.getD i luD).amt ≤ 65535) : ∀ k, 0 ≤ tmL l k ∧ tmL l k ≤ (k : Int) * 255
 | 0 => ⟨Int.le_refl _, Int.le_refl _⟩
 | k + 1 => by
  have h1 := tmL_bd h k
  have h2 := (h k).1
  unfold tmL
  push_cast
  omega
end Go.Proofs.YtangdoidkcelfaaGreatDoor
