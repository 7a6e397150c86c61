/- Contracts of element.Required and of the reference's Required (walks), a case a kind. Written by gen/required.py. -/
import Derived.Test.YthokhncdpfaifaaGreatDoorBitmapm
namespace Go.Proofs.YthokhncdpfaifaaGreatDoor
open Go.RowKit
def reqL (k : Int) : List Int := if k = 100 then [2, 3, 4, 7, 11, 32, 37, 41, 42, 49] else if k = 110 then [37, 39] else if k = 130 then [37, 39] else if k = 120 then [2, 3, 4, 7, 11, 32, 37, 39, 41, 42, 49] else if k = 400 then [2, 4, 11, 32, 37, 49, 56] else if k = 420 then [2, 4, 11, 32, 37, 49, 56] else if k = 410 then [37, 39, 56] else if k = 430 then [37, 39, 56] else if k = 800 then [11, 70] else if k = 810 then [11, 39] else []
def litInts (l : List Int) : Array Value := (l.map (Value.int .i64)).toArray
theorem lit_cell (w : World) (l : List Int) (i : Nat) (hi : i < l.length) : (w.alloc (.cells (litInts l) 3)).cell? ⟨w.heap.size, 0 + i, none⟩ = some (.int .i64 (l.getD i 0)) := by
  rw [(Blk.new w (litInts l) 3).cell, Nat.zero_add]
  unfold litInts
  simp [List.getElem?_map, List.getElem?_eq_getElem hi]
theorem ints_lit (w : World) (l : List Int) (c : Nat) : Ints (w.alloc (.cells (litInts l) 3)) (.slice (some ⟨w.heap.size, 0, none⟩) l.length c) l :=
  Or.inr ⟨_, 0, c, rfl, fun i hi => lit_cell w l i hi⟩
theorem back_of (l : List Int) (h : (blist (bof l (0, 0)).1 (bof l (0, 0)).2 129 == l) = true) : blist (bof l (0, 0)).1 (bof l (0, 0)).2 129 = l := by simpa using h


set_option maxRecDepth 8000 in
set_option maxHeartbeats 1000000 in
theorem required_100 (w : World) : Calls Tryz.prog 45 #[.int .i64 100] w (ListPost [2, 3, 4, 7, 11, 32, 37, 41, 42, 49] w) := by
  go_enter Tryz.func45, Tryz.ntmps45
  go_wp2_with fail
  refine (of_some w.heap.size 0 10 [2, 3, 4, 7, 11, 32, 37, 41, 42, 49] (w.alloc (.cells (litInts [2, 3, 4, 7, 11, 32, 37, 41, 42, 49]) 3)) (by decide) (by intro n hn; simp only [List.mem_cons, List.not_mem_nil, or_false] at hn; omega) (fun i hi => lit_cell w _ i hi)).mono ?_
  rintro e w1 ⟨rfl, hE1⟩
  have hwd := Wd_bof [2, 3, 4, 7, 11, 32, 37, 41, 42, 49] (by intro n hn; simp only [List.mem_cons, List.not_mem_nil, or_false] at hn; omega) (0, 0) (by unfold Wd; decide) (by unfold Wd; decide)
  have hback := Lib.hid (back_of [2, 3, 4, 7, 11, 32, 37, 41, 42, 49] (by decide +kernel))
  generalize (bof [2, 3, 4, 7, 11, 32, 37, 41, 42, 49] (0, 0)).1 = pa at *
  generalize (bof [2, 3, 4, 7, 11, 32, 37, 41, 42, 49] (0, 0)).2 = pb at *
  go_wp2_with fail
  refine (list_any pa pb _ hwd.1 hwd.2).mono ?_
  rintro e w2 ⟨v, rfl, hi, hE2⟩
  rw [hback.out] at hi
  go_wp2
  go_ret
  exact ⟨_, rfl, hi, (((Ext.refl w).alloc _).trans hE1).trans (((Ext.refl w1).alloc _).trans hE2)⟩
set_option maxHeartbeats 1000000 in
theorem rRequired_100 (w : World) : Calls Tryz.prog 47 #[.int .i64 100] w (ListPost [2, 3, 4, 7, 11, 32, 37, 41, 42, 49] w) := by
  go_enter Tryz.func47, Tryz.ntmps47
  go_wp2
  go_ret
  exact ⟨_, rfl, ints_lit w [2, 3, 4, 7, 11, 32, 37, 41, 42, 49] 10, (Ext.refl w).alloc _⟩

set_option maxRecDepth 8000 in
set_option maxHeartbeats 1000000 in
theorem required_110 (w : World) : Calls Tryz.prog 45 #[.int .i64 110] w (ListPost [37, 39] w) := by
  go_enter Tryz.func45, Tryz.ntmps45
  go_wp2_with fail
  refine (of_some w.heap.size 0 2 [37, 39] (w.alloc (.cells (litInts [37, 39]) 3)) (by decide) (by intro n hn; simp only [List.mem_cons, List.not_mem_nil, or_false] at hn; omega) (fun i hi => lit_cell w _ i hi)).mono ?_
  rintro e w1 ⟨rfl, hE1⟩
  have hwd := Wd_bof [37, 39] (by intro n hn; simp only [List.mem_cons, List.not_mem_nil, or_false] at hn; omega) (0, 0) (by unfold Wd; decide) (by unfold Wd; decide)
  have hback := Lib.hid (back_of [37, 39] (by decide +kernel))
  generalize (bof [37, 39] (0, 0)).1 = pa at *
  generalize (bof [37, 39] (0, 0)).2 = pb at *
  go_wp2_with fail
  refine (list_any pa pb _ hwd.1 hwd.2).mono ?_
  rintro e w2 ⟨v, rfl, hi, hE2⟩
  rw [hback.out] at hi
  go_wp2
  go_ret
  exact ⟨_, rfl, hi, (((Ext.refl w).alloc _).trans hE1).trans (((Ext.refl w1).alloc _).trans hE2)⟩
set_option maxHeartbeats 1000000 in
theorem rRequired_110 (w : World) : Calls Tryz.prog 47 #[.int .i64 110] w (ListPost [37, 39] w) := by
  go_enter Tryz.func47, Tryz.ntmps47
  go_wp2
  go_ret
  exact ⟨_, rfl, ints_lit w [37, 39] 2, (Ext.refl w).alloc _⟩

set_option maxRecDepth 8000 in
set_option maxHeartbeats 1000000 in
theorem required_130 (w : World) : Calls Tryz.prog 45 #[.int .i64 130] w (ListPost [37, 39] w) := by
  go_enter Tryz.func45, Tryz.ntmps45
  go_wp2_with fail
  refine (of_some w.heap.size 0 2 [37, 39] (w.alloc (.cells (litInts [37, 39]) 3)) (by decide) (by intro n hn; simp only [List.mem_cons, List.not_mem_nil, or_false] at hn; omega) (fun i hi => lit_cell w _ i hi)).mono ?_
  rintro e w1 ⟨rfl, hE1⟩
  have hwd := Wd_bof [37, 39] (by intro n hn; simp only [List.mem_cons, List.not_mem_nil, or_false] at hn; omega) (0, 0) (by unfold Wd; decide) (by unfold Wd; decide)
  have hback := Lib.hid (back_of [37, 39] (by decide +kernel))
  generalize (bof [37, 39] (0, 0)).1 = pa at *
  generalize (bof [37, 39] (0, 0)).2 = pb at *
  go_wp2_with fail
  refine (list_any pa pb _ hwd.1 hwd.2).mono ?_
  rintro e w2 ⟨v, rfl, hi, hE2⟩
  rw [hback.out] at hi
  go_wp2
  go_ret
  exact ⟨_, rfl, hi, (((Ext.refl w).alloc _).trans hE1).trans (((Ext.refl w1).alloc _).trans hE2)⟩
set_option maxHeartbeats 1000000 in
theorem rRequired_130 (w : World) : Calls Tryz.prog 47 #[.int .i64 130] w (ListPost [37, 39] w) := by
  go_enter Tryz.func47, Tryz.ntmps47
  go_wp2
  go_ret
  exact ⟨_, rfl, ints_lit w [37, 39] 2, (Ext.refl w).alloc _⟩

set_option maxRecDepth 8000 in
set_option maxHeartbeats 1000000 in
theorem required_120 (w : World) : Calls Tryz.prog 45 #[.int .i64 120] w (ListPost [2, 3, 4, 7, 11, 32, 37, 39, 41, 42, 49] w) := by
  go_enter Tryz.func45, Tryz.ntmps45
  go_wp2_with fail
  refine (of_some w.heap.size 0 11 [2, 3, 4, 7, 11, 32, 37, 39, 41, 42, 49] (w.alloc (.cells (litInts [2, 3, 4, 7, 11, 32, 37, 39, 41, 42, 49]) 3)) (by decide) (by intro n hn; simp only [List.mem_cons, List.not_mem_nil, or_false] at hn; omega) (fun i hi => lit_cell w _ i hi)).mono ?_
  rintro e w1 ⟨rfl, hE1⟩
  have hwd := Wd_bof [2, 3, 4, 7, 11, 32, 37, 39, 41, 42, 49] (by intro n hn; simp only [List.mem_cons, List.not_mem_nil, or_false] at hn; omega) (0, 0) (by unfold Wd; decide) (by unfold Wd; decide)
  have hback := Lib.hid (back_of [2, 3, 4, 7, 11, 32, 37, 39, 41, 42, 49] (by decide +kernel))
  generalize (bof [2, 3, 4, 7, 11, 32, 37, 39, 41, 42, 49] (0, 0)).1 = pa at *
  generalize (bof [2, 3, 4, 7, 11, 32, 37, 39, 41, 42, 49] (0, 0)).2 = pb at *
  go_wp2_with fail
  refine (list_any pa pb _ hwd.1 hwd.2).mono ?_
  rintro e w2 ⟨v, rfl, hi, hE2⟩
  rw [hback.out] at hi
  go_wp2
  go_ret
  exact ⟨_, rfl, hi, (((Ext.refl w).alloc _).trans hE1).trans (((Ext.refl w1).alloc _).trans hE2)⟩
set_option maxHeartbeats 1000000 in
theorem rRequired_120 (w : World) : Calls Tryz.prog 47 #[.int .i64 120] w (ListPost [2, 3, 4, 7, 11, 32, 37, 39, 41, 42, 49] w) := by
  go_enter Tryz.func47, Tryz.ntmps47
  go_wp2
  go_ret
  exact ⟨_, rfl, ints_lit w [2, 3, 4, 7, 11, 32, 37, 39, 41, 42, 49] 11, (Ext.refl w).alloc _⟩

set_option maxRecDepth 8000 in
set_option maxHeartbeats 1000000 in
theorem required_400 (w : World) : Calls Tryz.prog 45 #[.int .i64 400] w (ListPost [2, 4, 11, 32, 37, 49, 56] w) := by
  go_enter Tryz.func45, Tryz.ntmps45
  go_wp2_with fail
  refine (of_some w.heap.size 0 7 [2, 4, 11, 32, 37, 49, 56] (w.alloc (.cells (litInts [2, 4, 11, 32, 37, 49, 56]) 3)) (by decide) (by intro n hn; simp only [List.mem_cons, List.not_mem_nil, or_false] at hn; omega) (fun i hi => lit_cell w _ i hi)).mono ?_
  rintro e w1 ⟨rfl, hE1⟩
  have hwd := Wd_bof [2, 4, 11, 32, 37, 49, 56] (by intro n hn; simp only [List.mem_cons, List.not_mem_nil, or_false] at hn; omega) (0, 0) (by unfold Wd; decide) (by unfold Wd; decide)
  have hback := Lib.hid (back_of [2, 4, 11, 32, 37, 49, 56] (by decide +kernel))
  generalize (bof [2, 4, 11, 32, 37, 49, 56] (0, 0)).1 = pa at *
  generalize (bof [2, 4, 11, 32, 37, 49, 56] (0, 0)).2 = pb at *
  go_wp2_with fail
  refine (list_any pa pb _ hwd.1 hwd.2).mono ?_
  rintro e w2 ⟨v, rfl, hi, hE2⟩
  rw [hback.out] at hi
  go_wp2
  go_ret
  exact ⟨_, rfl, hi, (((Ext.refl w).alloc _).trans hE1).trans (((Ext.refl w1).alloc _).trans hE2)⟩
set_option maxHeartbeats 1000000 in
theorem rRequired_400 (w : World) : Calls Tryz.prog 47 #[.int .i64 400] w (ListPost [2, 4, 11, 32, 37, 49, 56] w) := by
  go_enter Tryz.func47, Tryz.ntmps47
  go_wp2
  go_ret
  exact ⟨_, rfl, ints_lit w [2, 4, 11, 32, 37, 49, 56] 7, (Ext.refl w).alloc _⟩

set_option maxRecDepth 8000 in
set_option maxHeartbeats 1000000 in
theorem required_420 (w : World) : Calls Tryz.prog 45 #[.int .i64 420] w (ListPost [2, 4, 11, 32, 37, 49, 56] w) := by
  go_enter Tryz.func45, Tryz.ntmps45
  go_wp2_with fail
  refine (of_some w.heap.size 0 7 [2, 4, 11, 32, 37, 49, 56] (w.alloc (.cells (litInts [2, 4, 11, 32, 37, 49, 56]) 3)) (by decide) (by intro n hn; simp only [List.mem_cons, List.not_mem_nil, or_false] at hn; omega) (fun i hi => lit_cell w _ i hi)).mono ?_
  rintro e w1 ⟨rfl, hE1⟩
  have hwd := Wd_bof [2, 4, 11, 32, 37, 49, 56] (by intro n hn; simp only [List.mem_cons, List.not_mem_nil, or_false] at hn; omega) (0, 0) (by unfold Wd; decide) (by unfold Wd; decide)
  have hback := Lib.hid (back_of [2, 4, 11, 32, 37, 49, 56] (by decide +kernel))
  generalize (bof [2, 4, 11, 32, 37, 49, 56] (0, 0)).1 = pa at *
  generalize (bof [2, 4, 11, 32, 37, 49, 56] (0, 0)).2 = pb at *
  go_wp2_with fail
  refine (list_any pa pb _ hwd.1 hwd.2).mono ?_
  rintro e w2 ⟨v, rfl, hi, hE2⟩
  rw [hback.out] at hi
  go_wp2
  go_ret
  exact ⟨_, rfl, hi, (((Ext.refl w).alloc _).trans hE1).trans (((Ext.refl w1).alloc _).trans hE2)⟩
set_option maxHeartbeats 1000000 in
theorem rRequired_420 (w : World) : Calls Tryz.prog 47 #[.int .i64 420] w (ListPost [2, 4, 11, 32, 37, 49, 56] w) := by
  go_enter Tryz.func47, Tryz.ntmps47
  go_wp2
  go_ret
  exact ⟨_, rfl, ints_lit w [2, 4, 11, 32, 37, 49, 56] 7, (Ext.refl w).alloc _⟩

set_option maxRecDepth 8000 in
set_option maxHeartbeats 1000000 in
theorem required_410 (w : World) : Calls Tryz.prog 45 #[.int .i64 410] w (ListPost [37, 39, 56] w) := by
  go_enter Tryz.func45, Tryz.ntmps45
  go_wp2_with fail
  refine (of_some w.heap.size 0 3 [37, 39, 56] (w.alloc (.cells (litInts [37, 39, 56]) 3)) (by decide) (by intro n hn; simp only [List.mem_cons, List.not_mem_nil, or_false] at hn; omega) (fun i hi => lit_cell w _ i hi)).mono ?_
  rintro e w1 ⟨rfl, hE1⟩
  have hwd := Wd_bof [37, 39, 56] (by intro n hn; simp only [List.mem_cons, List.not_mem_nil, or_false] at hn; omega) (0, 0) (by unfold Wd; decide) (by unfold Wd; decide)
  have hback := Lib.hid (back_of [37, 39, 56] (by decide +kernel))
  generalize (bof [37, 39, 56] (0, 0)).1 = pa at *
  generalize (bof [37, 39, 56] (0, 0)).2 = pb at *
  go_wp2_with fail
  refine (list_any pa pb _ hwd.1 hwd.2).mono ?_
  rintro e w2 ⟨v, rfl, hi, hE2⟩
  rw [hback.out] at hi
  go_wp2
  go_ret
  exact ⟨_, rfl, hi, (((Ext.refl w).alloc _).trans hE1).trans (((Ext.refl w1).alloc _).trans hE2)⟩
set_option maxHeartbeats 1000000 in
theorem rRequired_410 (w : World) : Calls Tryz.prog 47 #[.int .i64 410] w (ListPost [37, 39, 56] w) := by
  go_enter Tryz.func47, Tryz.ntmps47
  go_wp2
  go_ret
  exact ⟨_, rfl, ints_lit w [37, 39, 56] 3, (Ext.refl w).alloc _⟩

set_option maxRecDepth 8000 in
set_option maxHeartbeats 1000000 in
theorem required_430 (w : World) : Calls Tryz.prog 45 #[.int .i64 430] w (ListPost [37, 39, 56] w) := by
  go_enter Tryz.func45, Tryz.ntmps45
  go_wp2_with fail
  refine (of_some w.heap.size 0 3 [37, 39, 56] (w.alloc (.cells (litInts [37, 39, 56]) 3)) (by decide) (by intro n hn; simp only [List.mem_cons, List.not_mem_nil, or_false] at hn; omega) (fun i hi => lit_cell w _ i hi)).mono ?_
  rintro e w1 ⟨rfl, hE1⟩
  have hwd := Wd_bof [37, 39, 56] (by intro n hn; simp only [List.mem_cons, List.not_mem_nil, or_false] at hn; omega) (0, 0) (by unfold Wd; decide) (by unfold Wd; decide)
  have hback := Lib.hid (back_of [37, 39, 56] (by decide +kernel))
  generalize (bof [37, 39, 56] (0, 0)).1 = pa at *
  generalize (bof [37, 39, 56] (0, 0)).2 = pb at *
  go_wp2_with fail
  refine (list_any pa pb _ hwd.1 hwd.2).mono ?_
  rintro e w2 ⟨v, rfl, hi, hE2⟩
  rw [hback.out] at hi
  go_wp2
  go_ret
  exact ⟨_, rfl, hi, (((Ext.refl w).alloc _).trans hE1).trans (((Ext.refl w1).alloc _).trans hE2)⟩
set_option maxHeartbeats 1000000 in
theorem rRequired_430 (w : World) : Calls Tryz.prog 47 #[.int .i64 430] w (ListPost [37, 39, 56] w) := by
  go_enter Tryz.func47, Tryz.ntmps47
  go_wp2
  go_ret
  exact ⟨_, rfl, ints_lit w [37, 39, 56] 3, (Ext.refl w).alloc _⟩

set_option maxRecDepth 8000 in
set_option maxHeartbeats 1000000 in
theorem required_800 (w : World) : Calls Tryz.prog 45 #[.int .i64 800] w (ListPost [11, 70] w) := by
  go_enter Tryz.func45, Tryz.ntmps45
  go_wp2_with fail
  refine (of_some w.heap.size 0 2 [11, 70] (w.alloc (.cells (litInts [11, 70]) 3)) (by decide) (by intro n hn; simp only [List.mem_cons, List.not_mem_nil, or_false] at hn; omega) (fun i hi => lit_cell w _ i hi)).mono ?_
  rintro e w1 ⟨rfl, hE1⟩
  have hwd := Wd_bof [11, 70] (by intro n hn; simp only [List.mem_cons, List.not_mem_nil, or_false] at hn; omega) (0, 0) (by unfold Wd; decide) (by unfold Wd; decide)
  have hback := Lib.hid (back_of [11, 70] (by decide +kernel))
  generalize (bof [11, 70] (0, 0)).1 = pa at *
  generalize (bof [11, 70] (0, 0)).2 = pb at *
  go_wp2_with fail
  refine (list_any pa pb _ hwd.1 hwd.2).mono ?_
  rintro e w2 ⟨v, rfl, hi, hE2⟩
  rw [hback.out] at hi
  go_wp2
  go_ret
  exact ⟨_, rfl, hi, (((Ext.refl w).alloc _).trans hE1).trans (((Ext.refl w1).alloc _).trans hE2)⟩
set_option maxHeartbeats 1000000 in
theorem rRequired_800 (w : World) : Calls Tryz.prog 47 #[.int .i64 800] w (ListPost [11, 70] w) := by
  go_enter Tryz.func47, Tryz.ntmps47
  go_wp2
  go_ret
  exact ⟨_, rfl, ints_lit w [11, 70] 2, (Ext.refl w).alloc _⟩

set_option maxRecDepth 8000 in
set_option maxHeartbeats 1000000 in
theorem required_810 (w : World) : Calls Tryz.prog 45 #[.int .i64 810] w (ListPost [11, 39] w) := by
  go_enter Tryz.func45, Tryz.ntmps45
  go_wp2_with fail
  refine (of_some w.heap.size 0 2 [11, 39] (w.alloc (.cells (litInts [11, 39]) 3)) (by decide) (by intro n hn; simp only [List.mem_cons, List.not_mem_nil, or_false] at hn; omega) (fun i hi => lit_cell w _ i hi)).mono ?_
  rintro e w1 ⟨rfl, hE1⟩
  have hwd := Wd_bof [11, 39] (by intro n hn; simp only [List.mem_cons, List.not_mem_nil, or_false] at hn; omega) (0, 0) (by unfold Wd; decide) (by unfold Wd; decide)
  have hback := Lib.hid (back_of [11, 39] (by decide +kernel))
  generalize (bof [11, 39] (0, 0)).1 = pa at *
  generalize (bof [11, 39] (0, 0)).2 = pb at *
  go_wp2_with fail
  refine (list_any pa pb _ hwd.1 hwd.2).mono ?_
  rintro e w2 ⟨v, rfl, hi, hE2⟩
  rw [hback.out] at hi
  go_wp2
  go_ret
  exact ⟨_, rfl, hi, (((Ext.refl w).alloc _).trans hE1).trans (((Ext.refl w1).alloc _).trans hE2)⟩
set_option maxHeartbeats 1000000 in
theorem rRequired_810 (w : World) : Calls Tryz.prog 47 #[.int .i64 810] w (ListPost [11, 39] w) := by
  go_enter Tryz.func47, Tryz.ntmps47
  go_wp2
  go_ret
  exact ⟨_, rfl, ints_lit w [11, 39] 2, (Ext.refl w).alloc _⟩

set_option maxRecDepth 8000 in
set_option maxHeartbeats 1000000 in
theorem required_none (k : Int) (w : World) (h100 : k ≠ 100) (h110 : k ≠ 110) (h130 : k ≠ 130) (h120 : k ≠ 120) (h400 : k ≠ 400) (h420 : k ≠ 420) (h410 : k ≠ 410) (h430 : k ≠ 430) (h800 : k ≠ 800) (h810 : k ≠ 810) : Calls Tryz.prog 45 #[.int .i64 k] w (ListPost [] w) := by
  have b100 : (k == 100) = false := by simpa using h100
  have b110 : (k == 110) = false := by simpa using h110
  have b130 : (k == 130) = false := by simpa using h130
  have b120 : (k == 120) = false := by simpa using h120
  have b400 : (k == 400) = false := by simpa using h400
  have b420 : (k == 420) = false := by simpa using h420
  have b410 : (k == 410) = false := by simpa using h410
  have b430 : (k == 430) = false := by simpa using h430
  have b800 : (k == 800) = false := by simpa using h800
  have b810 : (k == 810) = false := by simpa using h810
  go_enter Tryz.func45, Tryz.ntmps45
  go_wp2_with fail
  refine (of_nil _).mono ?_
  rintro e w1 ⟨rfl, hE1⟩
  go_wp2_with fail
  refine (list_any 0 0 _ (by unfold Wd; decide) (by unfold Wd; decide)).mono ?_
  rintro e w2 ⟨v, rfl, hi, hE2⟩
  have hnil : blist 0 0 129 = [] := by decide +kernel
  rw [hnil] at hi
  go_wp2
  go_ret
  exact ⟨_, rfl, hi, hE1.trans (((Ext.refl w1).alloc _).trans hE2)⟩
set_option maxHeartbeats 1000000 in
theorem rRequired_none (k : Int) (w : World) (h100 : k ≠ 100) (h110 : k ≠ 110) (h130 : k ≠ 130) (h120 : k ≠ 120) (h400 : k ≠ 400) (h420 : k ≠ 420) (h410 : k ≠ 410) (h430 : k ≠ 430) (h800 : k ≠ 800) (h810 : k ≠ 810) : Calls Tryz.prog 47 #[.int .i64 k] w (ListPost [] w) := by
  have b100 : (k == 100) = false := by simpa using h100
  have b110 : (k == 110) = false := by simpa using h110
  have b130 : (k == 130) = false := by simpa using h130
  have b120 : (k == 120) = false := by simpa using h120
  have b400 : (k == 400) = false := by simpa using h400
  have b420 : (k == 420) = false := by simpa using h420
  have b410 : (k == 410) = false := by simpa using h410
  have b430 : (k == 430) = false := by simpa using h430
  have b800 : (k == 800) = false := by simpa using h800
  have b810 : (k == 810) = false := by simpa using h810
  go_enter Tryz.func47, Tryz.ntmps47
  go_wp2
  go_ret
  exact ⟨_, rfl, Or.inl ⟨rfl, rfl⟩, Ext.refl w⟩


theorem required_any (k : Int) (w : World) : Calls Tryz.prog 45 #[.int .i64 k] w (ListPost (reqL k) w) := by
  by_cases h100 : k = 100
  · subst h100; exact required_100 w
  by_cases h110 : k = 110
  · subst h110; exact required_110 w
  by_cases h130 : k = 130
  · subst h130; exact required_130 w
  by_cases h120 : k = 120
  · subst h120; exact required_120 w
  by_cases h400 : k = 400
  · subst h400; exact required_400 w
  by_cases h420 : k = 420
  · subst h420; exact required_420 w
  by_cases h410 : k = 410
  · subst h410; exact required_410 w
  by_cases h430 : k = 430
  · subst h430; exact required_430 w
  by_cases h800 : k = 800
  · subst h800; exact required_800 w
  by_cases h810 : k = 810
  · subst h810; exact required_810 w
  have e : reqL k = [] := by unfold reqL; simp only [h100, h110, h130, h120, h400, h420, h410, h430, h800, h810, if_false]
  rw [e]
  exact required_none k w h100 h110 h130 h120 h400 h420 h410 h430 h800 h810

theorem rRequired_any (k : Int) (w : World) : Calls Tryz.prog 47 #[.int .i64 k] w (ListPost (reqL k) w) := by
  by_cases h100 : k = 100
  · subst h100; exact rRequired_100 w
  by_cases h110 : k = 110
  · subst h110; exact rRequired_110 w
  by_cases h130 : k = 130
  · subst h130; exact rRequired_130 w
  by_cases h120 : k = 120
  · subst h120; exact rRequired_120 w
  by_cases h400 : k = 400
  · subst h400; exact rRequired_400 w
  by_cases h420 : k = 420
  · subst h420; exact rRequired_420 w
  by_cases h410 : k = 410
  · subst h410; exact rRequired_410 w
  by_cases h430 : k = 430
  · subst h430; exact rRequired_430 w
  by_cases h800 : k = 800
  · subst h800; exact rRequired_800 w
  by_cases h810 : k = 810
  · subst h810; exact rRequired_810 w
  have e : reqL k = [] := by unfold reqL; simp only [h100, h110, h130, h120, h400, h420, h410, h430, h800, h810, if_false]
  rw [e]
  exact rRequired_none k w h100 h110 h130 h120 h400 h420 h410 h430 h800 h810
end Go.Proofs.YthokhncdpfaifaaGreatDoor
