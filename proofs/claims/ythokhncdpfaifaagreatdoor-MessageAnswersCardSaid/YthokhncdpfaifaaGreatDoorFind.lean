/- Contracts of element.Find and element.ByName (walks). -/
import Derived.Test.YthokhncdpfaifaaGreatDoorBase
import Derived.LoopTactic
import Derived.Outline
import Derived.Laws.Rows
namespace Go.Proofs.YthokhncdpfaifaaGreatDoor
open Go.RowKit

/-- The result of Find: row k of the dictionary, or none. -/
def specAgg (k : Nat) : Value := .agg #[.int .i64 (dNum k), .string (dName k), .int .i64 (dKind k), .int .i64 (dLen k), .int .i64 (dVar k)]
def specZero : Value := .agg #[.int .i64 0, .string ⟨#[]⟩, .int .i64 0, .int .i64 0, .int .i64 0]
def FindPost (n : Int) (w : World) (e : Ending) (w' : World) : Prop :=
  (∃ k, k < 23 ∧ dNum k = n ∧ e = .returned (.tuple #[specAgg k, .bool true]) ∧ Ext w w') ∨ ((∀ k, k < 23 → dNum k ≠ n) ∧ e = .returned (.tuple #[specZero, .bool false]) ∧ Ext w w')

theorem sizeDict : (Tryz.prog.info? 121).map (·.size) = some dCells.size := by rw [dCells_size]; kernel_rfl

set_option maxHeartbeats 1000000 in
theorem find_any (n : Int) (w : World) (g : Gl w) :
    Calls Tryz.prog 67 #[.int .i64 n] w (FindPost n w) := by
  obtain ⟨t, fr, hd⟩ := g.dict
  have hsz : 0 < w.heap.size := (Array.getElem?_eq_some_iff.1 hd).1
  have hD : ∀ o, (w.alloc o).heap[0]? = some (.cells dCells t fr) := fun o => by rw [Below.heap_alloc _ _ _ hsz]; exact hd
  have HD := Lib.hid hD
  clear hD hd
  go_enter Tryz.func67, Tryz.ntmps67
  go_wp2_with (refine wpList_load_row rfl 121 _ rfl 0 rfl t dCells fr _ (HD.out _) Tryz.underlying121 rfl sizeDict ?_)
  go_loopw [7] (fun i wr => ∃ k : Nat, k ≤ 23 ∧ i = .int .i64 k ∧ (∀ j, j < k → dNum j ≠ n) ∧ Ext w wr ∧ Blk wr w.heap.size #[.int .i64 0, .string ⟨#[]⟩, .int .i64 0, .int .i64 0, .int .i64 0] 85) (fun i _ => 23 - (intOf i).toNat)
  case atStart => exact ⟨0, by omega, rfl, fun j hj => absurd hj (by omega), (by repeat (first | with_reducible exact Ext.refl _ | with_reducible exact hE0 | with_reducible exact hE | with_reducible refine Ext.alloc ?_ _ | with_reducible refine Ext.drewN ?_ _ | with_reducible refine Ext.drew ?_ | ((with_reducible refine Ext.setCell ?_ ?side _); (case side => first | exact Nat.le_refl _ | (simp; done) | (simp; omega))))), Blk.new _ _ _⟩
  case round =>
    obtain ⟨k, hk, rfl, hno, hE, hB⟩ := hrel
    have hno := Lib.hid hno
    by_cases hlt : k < 23
    · have hidx := index_dict k hlt
      unfold rowVal at hidx
      have z0 := hB.cell 0
      have z1 := hB.cell 1
      have z2 := hB.cell 2
      have z3 := hB.cell 3
      have z4 := hB.cell 4
      have y0 := hB.fz 0
      have y1 := hB.fz 1
      have y2 := hB.fz 2
      have y3 := hB.fz 3
      have y4 := hB.fz 4
      have hl := hB.lt
      simp at z0 z1 z2 z3 z4
      by_cases he : dNum k = n
      · have hb : (dNum k == n) = true := by simpa using he
        have he := Lib.hid he
        go_wp2
        refine bodyPost_ret (v := .tuple #[specAgg k, .bool true]) ?_ rfl (Or.inl ⟨k, hlt, he.out, rfl, ?_⟩)
        · simp [results, Tryz.results67, go_sem, specAgg, he.out, z0, z1, z2, z3, z4, hl]
        · (repeat (first | with_reducible exact Ext.refl _ | with_reducible exact hE0 | with_reducible exact hE | with_reducible refine Ext.alloc ?_ _ | with_reducible refine Ext.drewN ?_ _ | with_reducible refine Ext.drew ?_ | ((with_reducible refine Ext.setCell ?_ ?side _); (case side => first | exact Nat.le_refl _ | (simp; done) | (simp; omega)))))
      · have hb : (dNum k == n) = false := by simpa using he
        have he := Lib.hid he
        go_wp2
        go_roundw
        case rel => exact ⟨k + 1, by omega, by go_num, fun j hj => (by by_cases e : j = k; exact e ▸ he.out; exact hno.out j (by omega)), hE.alloc _, hB.alloc _⟩
        case measure => simp [intOf]; omega
    · have z0 := hB.cell 0
      have z1 := hB.cell 1
      have z2 := hB.cell 2
      have z3 := hB.cell 3
      have z4 := hB.cell 4
      have y0 := hB.fz 0
      have y1 := hB.fz 1
      have y2 := hB.fz 2
      have y3 := hB.fz 3
      have y4 := hB.fz 4
      have hl := hB.lt
      simp at z0 z1 z2 z3 z4
      go_wp2
      refine bodyPost_ret (v := .tuple #[specZero, .bool false]) ?_ rfl (Or.inr ⟨fun j hj => hno.out j (by omega), rfl, ?_⟩)
      · simp [results, Tryz.results67, go_sem, specZero, z0, z1, z2, z3, z4]
      · (repeat (first | with_reducible exact Ext.refl _ | with_reducible exact hE0 | with_reducible exact hE | with_reducible refine Ext.alloc ?_ _ | with_reducible refine Ext.drewN ?_ _ | with_reducible refine Ext.drew ?_ | ((with_reducible refine Ext.setCell ?_ ?side _); (case side => first | exact Nat.le_refl _ | (simp; done) | (simp; omega)))))
end Go.Proofs.YthokhncdpfaifaaGreatDoor
