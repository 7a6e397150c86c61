/- Contract of the reference's Find (walk). -/
import Derived.Test.YthokhncdpfaifaaGreatDoorRdict
import Derived.Test.YthokhncdpfaifaaGreatDoorFind
namespace Go.Proofs.YthokhncdpfaifaaGreatDoor
open Go.RowKit

theorem dcell {w : World} {B : Nat} {T : TypeId} (h : Blk w B dCells T) (k : Nat) (hk : k < 23) :
    w.cell? ⟨B, k * 5, none⟩ = some (.int .i64 (dNum k)) ∧ w.cell? ⟨B, k * 5 + 1, none⟩ = some (.string (dName k)) ∧ w.cell? ⟨B, k * 5 + 2, none⟩ = some (.int .i64 (dKind k)) ∧ w.cell? ⟨B, k * 5 + 3, none⟩ = some (.int .i64 (dLen k)) ∧ w.cell? ⟨B, k * 5 + 4, none⟩ = some (.int .i64 (dVar k)) := by
  have hd := dict_cell k hk
  rw [Nat.mul_comm 5 k] at hd
  exact ⟨(h.cell _).trans hd.1, (h.cell _).trans hd.2.1, (h.cell _).trans hd.2.2.1, (h.cell _).trans hd.2.2.2.1, (h.cell _).trans hd.2.2.2.2⟩

set_option maxHeartbeats 1000000 in
theorem rFind_any (n : Int) (w : World) :
    Calls Tryz.prog 82 #[.int .i64 n] w (FindPost n w) := by
  go_enter Tryz.func82, Tryz.ntmps82
  go_wp2_with (go_at_call 108; refine (rDict_any _).mono ?_; rintro e w1 ⟨rfl, rfl⟩)
  go_loopw [5] (fun i wr => ∃ k : Nat, k ≤ 23 ∧ i = .int .i64 k ∧ (∀ j, j < k → dNum j ≠ n) ∧ Ext w wr ∧ Blk wr w.heap.size #[.int .i64 0, .string ⟨#[]⟩, .int .i64 0, .int .i64 0, .int .i64 0] 102 ∧ Blk wr (w.heap.size + 1) dCells 102) (fun i _ => 23 - (intOf i).toNat)
  case atStart => exact ⟨0, by omega, rfl, fun j hj => absurd hj (by omega), (by repeat (first | with_reducible exact Ext.refl _ | with_reducible exact hE0 | with_reducible exact hE | with_reducible refine Ext.alloc ?_ _ | with_reducible refine Ext.drewN ?_ _ | with_reducible refine Ext.drew ?_ | ((with_reducible refine Ext.setCell ?_ ?side _); (case side => first | exact Nat.le_refl _ | (simp; done) | (simp; omega))))), (Blk.new _ _ _).alloc _, Blk.new' _ _ _ _ (by simp)⟩
  case round =>
    obtain ⟨k, hk, rfl, hno, hE, hB, hC⟩ := hrel
    have hno := Lib.hid hno
    have z0 := hB.cell 0
    have z1 := hB.cell 1
    have z2 := hB.cell 2
    have z3 := hB.cell 3
    have z4 := hB.cell 4
    have y0 := hB.fz 0
    have y1 := hB.fz 1
    have y2 := hB.fz 2
    have y3 := hB.fz 3
    have y4 := hB.fz 4
    have hl := hB.lt
    simp at z0 z1 z2 z3 z4
    by_cases hlt : k < 23
    · obtain ⟨d0, d1, d2, d3, d4⟩ := dcell hC k hlt
      by_cases he : dNum k = n
      · have hb : (dNum k == n) = true := by simpa using he
        have he := Lib.hid he
        go_wp2
        refine bodyPost_ret (v := .tuple #[specAgg k, .bool true]) ?_ rfl (Or.inl ⟨k, hlt, he.out, rfl, ?_⟩)
        · simp [results, Tryz.results82, go_sem, specAgg, he.out, z0, z1, z2, z3, z4]
        · (repeat (first | with_reducible exact Ext.refl _ | with_reducible exact hE0 | with_reducible exact hE | with_reducible refine Ext.alloc ?_ _ | with_reducible refine Ext.drewN ?_ _ | with_reducible refine Ext.drew ?_ | ((with_reducible refine Ext.setCell ?_ ?side _); (case side => first | exact Nat.le_refl _ | (simp; done) | (simp; omega)))))
      · have hb : (dNum k == n) = false := by simpa using he
        have he := Lib.hid he
        go_wp2
        go_roundw
        case rel => exact ⟨k + 1, by omega, by go_num, fun j hj => (by by_cases e : j = k; exact e ▸ he.out; exact hno.out j (by omega)), hE, hB, hC⟩
        case measure => simp [intOf]; omega
    · go_wp2
      refine bodyPost_ret (v := .tuple #[specZero, .bool false]) ?_ rfl (Or.inr ⟨fun j hj => hno.out j (by omega), rfl, ?_⟩)
      · simp [results, Tryz.results82, go_sem, specZero, z0, z1, z2, z3, z4]
      · (repeat (first | with_reducible exact Ext.refl _ | with_reducible exact hE0 | with_reducible exact hE | with_reducible refine Ext.alloc ?_ _ | with_reducible refine Ext.drewN ?_ _ | with_reducible refine Ext.drew ?_ | ((with_reducible refine Ext.setCell ?_ ?side _); (case side => first | exact Nat.le_refl _ | (simp; done) | (simp; omega)))))

end Go.Proofs.YthokhncdpfaifaaGreatDoor
