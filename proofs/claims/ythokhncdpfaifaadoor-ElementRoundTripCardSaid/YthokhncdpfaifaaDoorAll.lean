/- Contracts of element.All and of the reference's All (walks). -/
import Derived.Test.YthokhncdpfaifaaDoorRfind
import Derived.Test.YthokhncdpfaifaaDoorBitmapm
namespace Go.Proofs.YthokhncdpfaifaaDoor
open Go.RowKit

theorem cell_one_new' (w : World) (v : Value) (T : TypeId) (n : Nat) (h : n = w.heap.size) : ∀ j u, [v][j]? = some u → (w.alloc (.cells #[v] T)).cell? ((⟨n, 0, none⟩ : Addr).add j) = some u := by subst h; exact cell_one_new w v T
def dNums (k : Nat) : List Int := (List.range k).map dNum
theorem dNums_succ (k : Nat) : dNums (k + 1) = dNums k ++ [dNum k] := by simp [dNums, List.range_succ]
theorem dNums_len (k : Nat) : (dNums k).length = k := by simp [dNums]

set_option maxRecDepth 8000 in
set_option maxHeartbeats 1000000 in
theorem all_any (w : World) (g : Gl w) : Calls Tryd.prog 21 #[] w (ListPost (dNums 23) w) := by
  obtain ⟨t, fr, hd⟩ := g.dict
  have hsz : 0 < w.heap.size := (Array.getElem?_eq_some_iff.1 hd).1
  have HD := Lib.hid hd
  clear hd
  obtain ⟨i0, hi, hz0, hz1, hz2⟩ := info_parts infoInt
  have hI := Lib.hid hi
  have hZ0 := Lib.hid hz0
  have hZ1 := Lib.hid hz1
  have hZ2 := Lib.hid hz2
  clear hi hz0 hz1 hz2
  go_enter Tryd.func21, Tryd.ntmps21
  go_wp2_with (at_make; refine wpList_make_own _ rfl _ _ 39 rfl w.heap.size 3 i0 (.int .i64 0) 1 Tryd.underlying39 hI.out hZ0.out hZ1.out _ _ _ 23 rfl rfl rfl ?_ ?_ ?_ ?_)
  · rw [hZ2.out]; decide
  · unfold maxLen; decide
  · exact Nat.le_refl _
  intro w2 hown hgrow
  have hE : Ext w w2 := Below.grown (Below.refl _ _) hgrow (Nat.le_refl _) (fun k hk => by cases hk)
  clear hgrow
  have HD2 := Lib.hid (show w2.heap[0]? = _ from (hE.block _ hsz).trans HD.out)
  go_wp2_with (refine wpList_load_row rfl 57 _ rfl 0 rfl t dCells fr _ HD2.out Tryd.underlying57 rfl sizeDict ?_)
  go_loopw [1, 6] (fun v i wr => ∃ k : Nat, k ≤ 23 ∧ i = .int .i64 k ∧ wr.ownsRow w.heap.size 3 1 v (dNums k).length ((dNums k).map (Value.int .i64)) ∧ Ext w wr) (fun _ i _ => 23 - (intOf i).toNat)
  case atStart => exact ⟨0, by omega, rfl, hown, hE⟩
  case round =>
    obtain ⟨k, hk, rfl, hownr, hEr⟩ := hrel
    have hlen := dNums_len k
    have hs := hEr.size
    by_cases hlt : k < 23
    · have hidx := index_dict k hlt
      unfold rowVal at hidx
      have hS := Lib.hid (dNums_succ k)
      have hL := Lib.hid hlen
      clear hlen
      go_wp2_with (at_builtin; refine wpList_append_own _ rfl _ _ 39 rfl w.heap.size 3 i0 (.int .i64 0) 1 8 Tryd.underlying39 hI.out hZ0.out hZ1.out hZ2.out rfl (by decide) _ _ _ rfl ((hownr.alloc _).alloc _) ⟨wr.heap.size + 1, 0, none⟩ 1 1 [.int .i64 (dNum k)] rfl rfl ?_ ?_ ?_ ?_ ?_ ?_)
      · exact cell_one_new' _ _ _ _ (by simp)
      · intro u hu; rw [List.mem_singleton.1 hu]; rfl
      · unfold maxLen; rw [hL.out]; omega
      · rw [hL.out]; omega
      · simp; omega
      intro v' w4 hown4 hgrow4 _
      go_wp2
      go_roundw
      case rel => exact ⟨k + 1, by omega, by go_num, by rw [hS.out]; simpa using hown4, Below.grown ((hEr.alloc _).alloc _) hgrow4 (by simp; omega) (fun k hk => (hownr.lt k hk).1)⟩
      case measure => simp [intOf]; omega
    · obtain rfl : k = 23 := by omega
      go_wp2
      go_ret
      exact ⟨_, rfl, ints_of_owns hownr, hEr⟩
set_option maxRecDepth 8000 in
set_option maxHeartbeats 1000000 in
theorem rAll_any (w : World) : Calls Tryd.prog 22 #[] w (ListPost (dNums 23) w) := by
  obtain ⟨i0, hi, hz0, hz1, hz2⟩ := info_parts infoInt
  have hI := Lib.hid hi
  have hZ0 := Lib.hid hz0
  have hZ1 := Lib.hid hz1
  have hZ2 := Lib.hid hz2
  clear hi hz0 hz1 hz2
  go_enter Tryd.func22, Tryd.ntmps22
  go_wp2_with (go_at_call 38; refine (rDict_any _).mono ?_; rintro e w1 ⟨rfl, rfl⟩)
  go_loopw [2, 3] (fun v i wr => ∃ k : Nat, k ≤ 23 ∧ i = .int .i64 k ∧ wr.ownsRow (w.heap.size + 1) 3 1 v (dNums k).length ((dNums k).map (Value.int .i64)) ∧ Below (w.heap.size + 1) (w.alloc (.cells dCells 42)) wr) (fun _ i _ => 23 - (intOf i).toNat)
  case atStart => exact ⟨0, by omega, rfl, World.ownsRow_nil _ _ _ _, Below.refl _ _⟩
  case round =>
    obtain ⟨k, hk, rfl, hownr, hBr⟩ := hrel
    have hlen := dNums_len k
    have hs := hBr.size
    simp at hs
    have hC : Blk wr w.heap.size dCells 42 := by unfold Blk; rw [hBr.block _ (by omega)]; exact Blk.new w _ _
    by_cases hlt : k < 23
    · obtain ⟨d0, d1, d2, d3, d4⟩ := dcell hC k hlt
      have hS := Lib.hid (dNums_succ k)
      have hL := Lib.hid hlen
      clear hlen
      go_wp2_with (at_builtin; refine wpList_append_own _ rfl _ _ 39 rfl (w.heap.size + 1) 3 i0 (.int .i64 0) 1 8 Tryd.underlying39 hI.out hZ0.out hZ1.out hZ2.out rfl (by decide) _ _ _ rfl (hownr.alloc _) ⟨wr.heap.size, 0, none⟩ 1 1 [.int .i64 (dNum k)] rfl rfl ?_ ?_ ?_ ?_ ?_ ?_)
      · exact cell_one_new _ _ _
      · intro u hu; rw [List.mem_singleton.1 hu]; rfl
      · unfold maxLen; rw [hL.out]; omega
      · rw [hL.out]; omega
      · simp; omega
      intro v' w4 hown4 hgrow4 _
      go_wp2
      go_roundw
      case rel => exact ⟨k + 1, by omega, by go_num, by rw [hS.out]; simpa using hown4, Below.grown (Below.alloc hBr (by omega) _) hgrow4 (by simp; omega) (fun k hk => (hownr.lt k hk).1)⟩
      case measure => simp [intOf]; omega
    · obtain rfl : k = 23 := by omega
      go_wp2
      go_ret
      exact ⟨_, rfl, ints_of_owns hownr, ((Ext.refl w).alloc _).trans (Below.mono hBr (by simp))⟩
end Go.Proofs.YthokhncdpfaifaaDoor
