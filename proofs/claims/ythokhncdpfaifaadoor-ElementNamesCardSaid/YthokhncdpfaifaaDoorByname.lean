/- Contract of element.ByName (walk). -/
import Derived.Test.YthokhncdpfaifaaDoorFind
namespace Go.Proofs.YthokhncdpfaifaaDoor
open Go.RowKit

def ByPost (name : ByteArray) (w : World) (e : Ending) (w' : World) : Prop :=
  (∃ k, k < 23 ∧ dName k = name ∧ e = .returned (.tuple #[.int .i64 (dNum k), .bool true]) ∧ Ext w w') ∨ ((∀ k, k < 23 → dName k ≠ name) ∧ e = .returned (.tuple #[.int .i64 0, .bool false]) ∧ Ext w w')
set_option maxHeartbeats 1000000 in
theorem byName_any (name : ByteArray) (w : World) (g : Gl w) :
    Calls Tryd.prog 16 #[.string name] w (ByPost name w) := by
  obtain ⟨t, fr, hd⟩ := g.dict
  have HD := Lib.hid hd
  clear hd
  go_enter Tryd.func16, Tryd.ntmps16
  go_wp2_with (refine wpList_load_row rfl 57 _ rfl 0 rfl t dCells fr _ HD.out Tryd.underlying57 rfl sizeDict ?_)
  go_loopw [7] (fun i wr => ∃ k : Nat, k ≤ 23 ∧ i = .int .i64 k ∧ (∀ j, j < k → dName j ≠ name) ∧ Ext w wr) (fun i _ => 23 - (intOf i).toNat)
  case atStart => exact ⟨0, by omega, rfl, fun j hj => absurd hj (by omega), (by repeat (first | with_reducible exact Ext.refl _ | with_reducible exact hE0 | with_reducible exact hE | with_reducible refine Ext.alloc ?_ _ | with_reducible refine Ext.drewN ?_ _ | with_reducible refine Ext.drew ?_ | ((with_reducible refine Ext.setCell ?_ ?side _); (case side => first | exact Nat.le_refl _ | (simp; done) | (simp; omega)))))⟩
  case round =>
    obtain ⟨k, hk, rfl, hno, hE⟩ := hrel
    have hno := Lib.hid hno
    by_cases hlt : k < 23
    · have hidx := index_dict k hlt
      unfold rowVal at hidx
      by_cases he : dName k = name
      · have hb := strEq he
        have he := Lib.hid he
        go_wp2
        go_ret2
        exact Or.inl ⟨k, hlt, he.out, rfl, hE.alloc _⟩
      · have hb := strNe he
        have he := Lib.hid he
        go_wp2
        go_roundw
        case rel => exact ⟨k + 1, by omega, by go_num, fun j hj => (by by_cases e : j = k; exact e ▸ he.out; exact hno.out j (by omega)), hE.alloc _⟩
        case measure => simp [intOf]; omega
    · go_wp2
      go_ret2
      exact Or.inr ⟨fun j hj => hno.out j (by omega), rfl, hE⟩
end Go.Proofs.YthokhncdpfaifaaDoor
