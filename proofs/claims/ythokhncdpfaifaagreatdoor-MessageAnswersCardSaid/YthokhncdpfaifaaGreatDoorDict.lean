/- The dictionary of data elements as plain data: its rows, its cells, and what a row's cells are. -/
import Derived.Test.YthokhncdpfaifaaGreatDoorProg
import Derived.WalkKit
import Derived.WalkSpells
import Derived.WalkLawsBesides
import Derived.Lib.Hide
import Derived.KernelRfl
namespace Go.Proofs.YthokhncdpfaifaaGreatDoor
open Go.RowKit

def dRows : List (Int × List UInt8 × Int × Int × Int) := [(2, [99, 97, 114, 100], 1, 19, 2), (3, [112, 114, 111, 99, 101, 115, 115], 1, 6, 0), (4, [97, 109, 111, 117, 110, 116], 1, 12, 0), (7, [115, 101, 110, 116], 1, 13, 0), (11, [116, 114, 97, 99, 101], 1, 6, 0), (14, [101, 120, 112, 105, 114, 121], 1, 5, 0), (18, [99, 97, 116, 101, 103, 111, 114, 121], 1, 4, 0), (32, [97, 99, 113, 117, 105, 114, 101, 114], 2, 16, 2), (37, [114, 101, 102, 101, 114, 101, 110, 99, 101], 1, 12, 0), (38, [97, 112, 112, 114, 111, 118, 97, 108], 1, 6, 0), (39, [114, 101, 115, 112, 111, 110, 115, 101], 1, 2, 0), (41, [116, 101, 114, 109, 105, 110, 97, 108], 2, 8, 0), (42, [109, 101, 114, 99, 104, 97, 110, 116], 2, 16, 2), (48, [101, 120, 116, 114, 97], 2, 255, 3), (49, [99, 117, 114, 114, 101, 110, 99, 121], 2, 3, 0), (52, [99, 114, 121, 112, 116, 111, 103, 114, 97, 109], 3, 16, 0), (54, [112, 97, 114, 116, 105, 97, 108], 1, 12, 0), (55, [99, 111, 117, 110, 116, 101, 114], 1, 6, 0), (56, [111, 114, 105, 103, 105, 110, 97, 108], 1, 12, 0), (59, [110, 111, 110, 99, 101], 2, 8, 0), (70, [110, 101, 116, 119, 111, 114, 107], 1, 3, 0), (95, [114, 97, 105, 115, 101], 1, 12, 0), (100, [114, 101, 99, 101, 105, 118, 101, 114], 2, 16, 2)]
def dCells : Array Value := #[.int .i64 2, .string ⟨#[99, 97, 114, 100]⟩, .int .i64 1, .int .i64 19, .int .i64 2, .int .i64 3, .string ⟨#[112, 114, 111, 99, 101, 115, 115]⟩, .int .i64 1, .int .i64 6, .int .i64 0, .int .i64 4, .string ⟨#[97, 109, 111, 117, 110, 116]⟩, .int .i64 1, .int .i64 12, .int .i64 0, .int .i64 7, .string ⟨#[115, 101, 110, 116]⟩, .int .i64 1, .int .i64 13, .int .i64 0, .int .i64 11, .string ⟨#[116, 114, 97, 99, 101]⟩, .int .i64 1, .int .i64 6, .int .i64 0, .int .i64 14, .string ⟨#[101, 120, 112, 105, 114, 121]⟩, .int .i64 1, .int .i64 5, .int .i64 0, .int .i64 18, .string ⟨#[99, 97, 116, 101, 103, 111, 114, 121]⟩, .int .i64 1, .int .i64 4, .int .i64 0, .int .i64 32, .string ⟨#[97, 99, 113, 117, 105, 114, 101, 114]⟩, .int .i64 2, .int .i64 16, .int .i64 2, .int .i64 37, .string ⟨#[114, 101, 102, 101, 114, 101, 110, 99, 101]⟩, .int .i64 1, .int .i64 12, .int .i64 0, .int .i64 38, .string ⟨#[97, 112, 112, 114, 111, 118, 97, 108]⟩, .int .i64 1, .int .i64 6, .int .i64 0, .int .i64 39, .string ⟨#[114, 101, 115, 112, 111, 110, 115, 101]⟩, .int .i64 1, .int .i64 2, .int .i64 0, .int .i64 41, .string ⟨#[116, 101, 114, 109, 105, 110, 97, 108]⟩, .int .i64 2, .int .i64 8, .int .i64 0, .int .i64 42, .string ⟨#[109, 101, 114, 99, 104, 97, 110, 116]⟩, .int .i64 2, .int .i64 16, .int .i64 2, .int .i64 48, .string ⟨#[101, 120, 116, 114, 97]⟩, .int .i64 2, .int .i64 255, .int .i64 3, .int .i64 49, .string ⟨#[99, 117, 114, 114, 101, 110, 99, 121]⟩, .int .i64 2, .int .i64 3, .int .i64 0, .int .i64 52, .string ⟨#[99, 114, 121, 112, 116, 111, 103, 114, 97, 109]⟩, .int .i64 3, .int .i64 16, .int .i64 0, .int .i64 54, .string ⟨#[112, 97, 114, 116, 105, 97, 108]⟩, .int .i64 1, .int .i64 12, .int .i64 0, .int .i64 55, .string ⟨#[99, 111, 117, 110, 116, 101, 114]⟩, .int .i64 1, .int .i64 6, .int .i64 0, .int .i64 56, .string ⟨#[111, 114, 105, 103, 105, 110, 97, 108]⟩, .int .i64 1, .int .i64 12, .int .i64 0, .int .i64 59, .string ⟨#[110, 111, 110, 99, 101]⟩, .int .i64 2, .int .i64 8, .int .i64 0, .int .i64 70, .string ⟨#[110, 101, 116, 119, 111, 114, 107]⟩, .int .i64 1, .int .i64 3, .int .i64 0, .int .i64 95, .string ⟨#[114, 97, 105, 115, 101]⟩, .int .i64 1, .int .i64 12, .int .i64 0, .int .i64 100, .string ⟨#[114, 101, 99, 101, 105, 118, 101, 114]⟩, .int .i64 2, .int .i64 16, .int .i64 2]
def dRow (k : Nat) : Int × List UInt8 × Int × Int × Int := dRows.getD k (0, [], 0, 0, 0)
def dNum (k : Nat) : Int := (dRow k).1
def dName (k : Nat) : ByteArray := ⟨(dRow k).2.1.toArray⟩
def dKind (k : Nat) : Int := (dRow k).2.2.1
def dLen (k : Nat) : Int := (dRow k).2.2.2.1
def dVar (k : Nat) : Int := (dRow k).2.2.2.2

/-- A fact of each k below 23, from 23 facts. -/
theorem below23 {P : Nat → Prop} (h : ∀ k : Fin 23, P k.val) (k : Nat) (hk : k < 23) : P k := h ⟨k, hk⟩

theorem all23 {P : Nat → Prop} (h0 : P 0) (h1 : P 1) (h2 : P 2) (h3 : P 3) (h4 : P 4) (h5 : P 5) (h6 : P 6) (h7 : P 7) (h8 : P 8) (h9 : P 9) (h10 : P 10) (h11 : P 11) (h12 : P 12) (h13 : P 13) (h14 : P 14) (h15 : P 15) (h16 : P 16) (h17 : P 17) (h18 : P 18) (h19 : P 19) (h20 : P 20) (h21 : P 21) (h22 : P 22) (k : Nat) (hk : k < 23) : P k := by
  match k, hk with
  | 0, _ => exact h0
  | 1, _ => exact h1
  | 2, _ => exact h2
  | 3, _ => exact h3
  | 4, _ => exact h4
  | 5, _ => exact h5
  | 6, _ => exact h6
  | 7, _ => exact h7
  | 8, _ => exact h8
  | 9, _ => exact h9
  | 10, _ => exact h10
  | 11, _ => exact h11
  | 12, _ => exact h12
  | 13, _ => exact h13
  | 14, _ => exact h14
  | 15, _ => exact h15
  | 16, _ => exact h16
  | 17, _ => exact h17
  | 18, _ => exact h18
  | 19, _ => exact h19
  | 20, _ => exact h20
  | 21, _ => exact h21
  | 22, _ => exact h22
  | n + 23, h => exact absurd h (by omega)

theorem dCells_size : dCells.size = 115 := by kernel_rfl
def rowVal (k : Nat) : Array Value := #[.int .i64 (dNum k), .string (dName k), .int .i64 (dKind k), .int .i64 (dLen k), .int .i64 (dVar k)]

/-- Indexing the array of all rows. -/
theorem index_dict (k : Nat) (hk : k < 23) : ∀ w : World, (Instr.index 121 (.agg dCells) (.int .i64 k)).run Tryz.prog w = .ok (.agg (rowVal k)) w :=
  all23 (P := fun k => ∀ w : World, (Instr.index 121 (.agg dCells) (.int .i64 k)).run Tryz.prog w = .ok (.agg (rowVal k)) w)
    (fun _ => by kernel_rfl) (fun _ => by kernel_rfl) (fun _ => by kernel_rfl) (fun _ => by kernel_rfl) (fun _ => by kernel_rfl) (fun _ => by kernel_rfl) (fun _ => by kernel_rfl) (fun _ => by kernel_rfl) (fun _ => by kernel_rfl) (fun _ => by kernel_rfl) (fun _ => by kernel_rfl) (fun _ => by kernel_rfl) (fun _ => by kernel_rfl) (fun _ => by kernel_rfl) (fun _ => by kernel_rfl) (fun _ => by kernel_rfl) (fun _ => by kernel_rfl) (fun _ => by kernel_rfl) (fun _ => by kernel_rfl) (fun _ => by kernel_rfl) (fun _ => by kernel_rfl) (fun _ => by kernel_rfl) (fun _ => by kernel_rfl) k hk

/-- The cells of row k. -/
theorem dict_cell (k : Nat) (hk : k < 23) : dCells[5 * k]? = some (.int .i64 (dNum k)) ∧ dCells[5 * k + 1]? = some (.string (dName k)) ∧ dCells[5 * k + 2]? = some (.int .i64 (dKind k)) ∧ dCells[5 * k + 3]? = some (.int .i64 (dLen k)) ∧ dCells[5 * k + 4]? = some (.int .i64 (dVar k)) :=
  all23 (P := fun k => dCells[5 * k]? = some (.int .i64 (dNum k)) ∧ dCells[5 * k + 1]? = some (.string (dName k)) ∧ dCells[5 * k + 2]? = some (.int .i64 (dKind k)) ∧ dCells[5 * k + 3]? = some (.int .i64 (dLen k)) ∧ dCells[5 * k + 4]? = some (.int .i64 (dVar k)))
    (by refine ⟨?_, ?_, ?_, ?_, ?_⟩ <;> kernel_rfl) (by refine ⟨?_, ?_, ?_, ?_, ?_⟩ <;> kernel_rfl) (by refine ⟨?_, ?_, ?_, ?_, ?_⟩ <;> kernel_rfl) (by refine ⟨?_, ?_, ?_, ?_, ?_⟩ <;> kernel_rfl) (by refine ⟨?_, ?_, ?_, ?_, ?_⟩ <;> kernel_rfl) (by refine ⟨?_, ?_, ?_, ?_, ?_⟩ <;> kernel_rfl) (by refine ⟨?_, ?_, ?_, ?_, ?_⟩ <;> kernel_rfl) (by refine ⟨?_, ?_, ?_, ?_, ?_⟩ <;> kernel_rfl) (by refine ⟨?_, ?_, ?_, ?_, ?_⟩ <;> kernel_rfl) (by refine ⟨?_, ?_, ?_, ?_, ?_⟩ <;> kernel_rfl) (by refine ⟨?_, ?_, ?_, ?_, ?_⟩ <;> kernel_rfl) (by refine ⟨?_, ?_, ?_, ?_, ?_⟩ <;> kernel_rfl) (by refine ⟨?_, ?_, ?_, ?_, ?_⟩ <;> kernel_rfl) (by refine ⟨?_, ?_, ?_, ?_, ?_⟩ <;> kernel_rfl) (by refine ⟨?_, ?_, ?_, ?_, ?_⟩ <;> kernel_rfl) (by refine ⟨?_, ?_, ?_, ?_, ?_⟩ <;> kernel_rfl) (by refine ⟨?_, ?_, ?_, ?_, ?_⟩ <;> kernel_rfl) (by refine ⟨?_, ?_, ?_, ?_, ?_⟩ <;> kernel_rfl) (by refine ⟨?_, ?_, ?_, ?_, ?_⟩ <;> kernel_rfl) (by refine ⟨?_, ?_, ?_, ?_, ?_⟩ <;> kernel_rfl) (by refine ⟨?_, ?_, ?_, ?_, ?_⟩ <;> kernel_rfl) (by refine ⟨?_, ?_, ?_, ?_, ?_⟩ <;> kernel_rfl) (by refine ⟨?_, ?_, ?_, ?_, ?_⟩ <;> kernel_rfl) k hk
end Go.Proofs.YthokhncdpfaifaaGreatDoor
