/- Contract of bitmap.List (walk). -/
import Derived.Test.YthokhncdpfaifaaGreatDoorBitmapl
import Derived.OwnWalk
import Derived.Laws.OwnMore
namespace Go.Proofs.YthokhncdpfaifaaGreatDoor
open Go.RowKit

/-- Whether a number is in a bitmap. -/
def bmem (a b n : Nat) : Bool := if n ≤ 64 then a.testBit (64 - n) else b.testBit (128 - n)
/-- The numbers from 2 on and below n that are in a bitmap. -/
def blist (a b n : Nat) : List Int := ((List.range' 2 (n - 2)).filter (bmem a b)).map Int.ofNat
theorem blist_two (a b : Nat) : blist a b 2 = [] := rfl
theorem blist_succ (a b n : Nat) (h : 2 ≤ n) : blist a b (n + 1) = blist a b n ++ if bmem a b n then [(n : Int)] else [] := by
  unfold blist
  rw [show n + 1 - 2 = (n - 2) + 1 by omega, List.range'_concat, List.filter_append, List.map_append]
  congr 1
  rw [show 2 + 1 * (n - 2) = n by omega, List.filter_cons]
  split <;> rfl
theorem blist_len (a b n : Nat) : (blist a b n).length ≤ n := by
  unfold blist
  rw [List.length_map]
  have := List.length_filter_le (bmem a b) (List.range' 2 (n - 2))
  rw [List.length_range'] at this
  omega
theorem int_ne0_true {x : Int} (h : x ≠ 0) : (x != 0) = true := by simpa using h
theorem int_ne0_false {x : Int} (h : ¬ x ≠ 0) : (x != 0) = false := by simpa using h

theorem infoInt : (Tryz.prog.info? 3).map (fun i => (i.zero, i.size, i.bytes)) = some (some (.int .i64 0), 1, 8) := by kernel_rfl
theorem ints_of_owns {w : World} {B : Nat} {v : Value} {zs : List Int} (h : w.ownsRow B 3 1 v zs.length (zs.map (Value.int .i64))) : Ints w v zs := by
  obtain ⟨_, h | ⟨g, cap, cur, rfl, _, hb, _, _, _, hx⟩⟩ := h
  · exact Or.inl ⟨h.1, List.length_eq_zero_iff.1 h.2⟩
  · refine Or.inr ⟨g, 0, cap, rfl, fun i hi => ?_⟩
    have h1 : cur.toList[i]? = some (.int .i64 (zs.getD i 0)) := by
      have := congrArg (fun l => l[i]?) hx
      simp only [List.getElem?_take, List.getElem?_map] at this
      rw [if_pos (by omega)] at this
      rw [this, List.getD_eq_getElem?_getD, List.getElem?_eq_getElem hi]; rfl
    unfold World.cell?
    simp only [hb, Nat.zero_add]
    simpa using h1
def ListPost (zs : List Int) (w : World) (e : Ending) (w' : World) : Prop := ∃ v, e = .returned v ∧ Ints w' v zs ∧ Ext w w'

set_option maxRecDepth 4000 in
set_option maxHeartbeats 1000000 in
theorem list_any (a b : Nat) (w : World) (ha : Wd a) (hb : Wd b) :
    Calls Tryz.prog 50 #[.agg #[.int .u64 a, .int .u64 b]] w (ListPost (blist a b 129) w) := by
  obtain ⟨i0, hi, hz0, hz1, hz2⟩ := info_parts infoInt
  have hI := Lib.hid hi
  have hZ0 := Lib.hid hz0
  have hZ1 := Lib.hid hz1
  have hZ2 := Lib.hid hz2
  clear hi hz0 hz1 hz2
  go_enter Tryz.func50, Tryz.ntmps50
  go_wp2_with fail
  refine (count_any a b _ ha hb).mono ?_
  rintro e w1 ⟨c, hc, rfl, hE⟩
  have hs1 := hE.size
  simp only [World.size_alloc] at hs1
  go_wp2_with (at_make; refine wpList_make_own _ rfl _ _ 49 rfl (w.heap.size + 1) 3 i0 (.int .i64 0) 1 Tryz.underlying49 hI.out hZ0.out hZ1.out _ _ _ c rfl rfl rfl ?_ ?_ ?_ ?_)
  · rw [hZ2.out]; omega
  · unfold maxLen; omega
  · omega
  intro w2 hown hgrow
  have hB : Below (w.heap.size + 1) (w.alloc (.cells #[.int .u64 a, .int .u64 b] 61)) w2 := Below.grown (Below.mono hE (by simp)) hgrow (by omega) (fun k hk => by cases hk)
  clear hgrow hE
  go_wp2
  go_loopw [3, 4] (fun v i wr => ∃ n : Nat, 2 ≤ n ∧ n ≤ 129 ∧ i = .int .i64 n ∧ wr.ownsRow (w.heap.size + 1) 3 1 v (blist a b n).length ((blist a b n).map (Value.int .i64)) ∧ Below (w.heap.size + 1) (w.alloc (.cells #[.int .u64 a, .int .u64 b] 61)) wr) (fun _ i _ => 129 - (intOf i).toNat)
  case atStart => exact ⟨2, by omega, by omega, rfl, hown, hB⟩
  case round =>
    obtain ⟨n, hn1, hn2, rfl, hownr, hBr⟩ := hrel
    have hbl : Blk wr w.heap.size #[.int .u64 a, .int .u64 b] 61 := by unfold Blk; rw [hBr.block _ (by omega)]; exact Blk.new w _ _
    have c0 : wr.cell? ⟨w.heap.size, 0, none⟩ = some (.int .u64 a) := hbl.cell 0
    have c1 : wr.cell? ⟨w.heap.size, 1, none⟩ = some (.int .u64 b) := hbl.cell 1
    clear hown hB hbl
    by_cases hlt : n ≤ 128
    · by_cases h64 : n ≤ 64
      · by_cases ht : a.testBit (64 - n) = true
        · have hbm : bmem a b n = true := by unfold bmem; rw [if_pos h64]; exact ht
          have hS := Lib.hid (blist_succ a b n hn1)
          have hand := bits_and a (pw (64 - n)) ha (Wd_pw _ (by omega))
          have hne : (((a &&& pw (64 - n) : Nat) : Int) != 0) = true := int_ne0_true ((and_pw_ne _ _).2 ht)
          have hM := Lib.hid hbm
          clear hbm ht
          go_wp2_with (first | (go_at_call 87; refine (place_lo n _ (by omega) (by omega)).mono ?_; rintro e w3 ⟨rfl, k1, rfl⟩; generalize hw0 : wr.drewN k1 = w0; obtain ⟨hz, hE0⟩ := draw_eq hw0; have hB0 := hBr.trans (Below.mono hE0 (by have := hBr.size; simp at this; omega)); have c0 : w0.cell? ⟨w.heap.size, 0, none⟩ = some (.int .u64 a) := hE0.get c0; have hown0 : w0.ownsRow (w.heap.size + 1) 3 1 u3 (blist a b n).length ((blist a b n).map (Value.int .i64)) := (by rw [← hw0]; exact hownr); clear hw0 hz) | (at_builtin; refine wpList_append_own _ rfl _ _ 49 rfl (w.heap.size + 1) 3 i0 (.int .i64 0) 1 8 Tryz.underlying49 hI.out hZ0.out hZ1.out hZ2.out rfl (by decide) _ _ _ rfl (hown0.alloc _) ⟨w0.heap.size, 0, none⟩ 1 1 [.int .i64 n] rfl rfl ?_ ?_ ?_ ?_ ?_ ?_))
          · exact cell_one_new _ _ _
          · intro u hu; rw [List.mem_singleton.1 hu]; rfl
          · unfold maxLen; have := blist_len a b n; omega
          · have := blist_len a b n; omega
          · have := hB0.size; simp at this ⊢; omega
          intro v' w4 hown4 hgrow4 _
          go_wp2
          go_roundw
          case rel => exact ⟨n + 1, by omega, by omega, by go_num, by rw [hS.out, hM.out]; simpa using hown4, Below.grown (Below.alloc hB0 (by have := hB0.size; simp at this; omega) _) hgrow4 (by have := hB0.size; simp at this ⊢; omega) (fun k hk => (hown0.lt k hk).1)⟩
          case measure => simp [intOf]; omega
        · have hbm : bmem a b n = false := by unfold bmem; rw [if_pos h64]; exact Bool.eq_false_iff.2 ht
          have hS := Lib.hid (blist_succ a b n hn1)
          have hand := bits_and a (pw (64 - n)) ha (Wd_pw _ (by omega))
          have hne : (((a &&& pw (64 - n) : Nat) : Int) != 0) = false := int_ne0_false (fun h => ht ((and_pw_ne _ _).1 h))
          have hM := Lib.hid hbm
          clear hbm ht
          go_wp2_with (first | (go_at_call 87; refine (place_lo n _ (by omega) (by omega)).mono ?_; rintro e w3 ⟨rfl, k1, rfl⟩; generalize hw0 : wr.drewN k1 = w0; obtain ⟨hz, hE0⟩ := draw_eq hw0; have hB0 := hBr.trans (Below.mono hE0 (by have := hBr.size; simp at this; omega)); have c0 : w0.cell? ⟨w.heap.size, 0, none⟩ = some (.int .u64 a) := hE0.get c0; have hown0 : w0.ownsRow (w.heap.size + 1) 3 1 u3 (blist a b n).length ((blist a b n).map (Value.int .i64)) := (by rw [← hw0]; exact hownr); clear hw0 hz))
          go_roundw
          case rel => exact ⟨n + 1, by omega, by omega, by go_num, by rw [hS.out, hM.out]; simpa using hown0, hB0⟩
          case measure => simp [intOf]; omega
      · by_cases ht : b.testBit (128 - n) = true
        · have hbm : bmem a b n = true := by unfold bmem; rw [if_neg h64]; exact ht
          have hS := Lib.hid (blist_succ a b n hn1)
          have hand := bits_and b (pw (128 - n)) hb (Wd_pw _ (by omega))
          have hne : (((b &&& pw (128 - n) : Nat) : Int) != 0) = true := int_ne0_true ((and_pw_ne _ _).2 ht)
          have hM := Lib.hid hbm
          clear hbm ht
          go_wp2_with (first | (go_at_call 87; refine (place_hi n _ (by omega) (by omega)).mono ?_; rintro e w3 ⟨rfl, k1, rfl⟩; generalize hw0 : wr.drewN k1 = w0; obtain ⟨hz, hE0⟩ := draw_eq hw0; have hB0 := hBr.trans (Below.mono hE0 (by have := hBr.size; simp at this; omega)); have c0 : w0.cell? ⟨w.heap.size, 1, none⟩ = some (.int .u64 b) := hE0.get c1; have hown0 : w0.ownsRow (w.heap.size + 1) 3 1 u3 (blist a b n).length ((blist a b n).map (Value.int .i64)) := (by rw [← hw0]; exact hownr); clear hw0 hz) | (at_builtin; refine wpList_append_own _ rfl _ _ 49 rfl (w.heap.size + 1) 3 i0 (.int .i64 0) 1 8 Tryz.underlying49 hI.out hZ0.out hZ1.out hZ2.out rfl (by decide) _ _ _ rfl (hown0.alloc _) ⟨w0.heap.size, 0, none⟩ 1 1 [.int .i64 n] rfl rfl ?_ ?_ ?_ ?_ ?_ ?_))
          · exact cell_one_new _ _ _
          · intro u hu; rw [List.mem_singleton.1 hu]; rfl
          · unfold maxLen; have := blist_len a b n; omega
          · have := blist_len a b n; omega
          · have := hB0.size; simp at this ⊢; omega
          intro v' w4 hown4 hgrow4 _
          go_wp2
          go_roundw
          case rel => exact ⟨n + 1, by omega, by omega, by go_num, by rw [hS.out, hM.out]; simpa using hown4, Below.grown (Below.alloc hB0 (by have := hB0.size; simp at this; omega) _) hgrow4 (by have := hB0.size; simp at this ⊢; omega) (fun k hk => (hown0.lt k hk).1)⟩
          case measure => simp [intOf]; omega
        · have hbm : bmem a b n = false := by unfold bmem; rw [if_neg h64]; exact Bool.eq_false_iff.2 ht
          have hS := Lib.hid (blist_succ a b n hn1)
          have hand := bits_and b (pw (128 - n)) hb (Wd_pw _ (by omega))
          have hne : (((b &&& pw (128 - n) : Nat) : Int) != 0) = false := int_ne0_false (fun h => ht ((and_pw_ne _ _).1 h))
          have hM := Lib.hid hbm
          clear hbm ht
          go_wp2_with (first | (go_at_call 87; refine (place_hi n _ (by omega) (by omega)).mono ?_; rintro e w3 ⟨rfl, k1, rfl⟩; generalize hw0 : wr.drewN k1 = w0; obtain ⟨hz, hE0⟩ := draw_eq hw0; have hB0 := hBr.trans (Below.mono hE0 (by have := hBr.size; simp at this; omega)); have c0 : w0.cell? ⟨w.heap.size, 1, none⟩ = some (.int .u64 b) := hE0.get c1; have hown0 : w0.ownsRow (w.heap.size + 1) 3 1 u3 (blist a b n).length ((blist a b n).map (Value.int .i64)) := (by rw [← hw0]; exact hownr); clear hw0 hz))
          go_roundw
          case rel => exact ⟨n + 1, by omega, by omega, by go_num, by rw [hS.out, hM.out]; simpa using hown0, hB0⟩
          case measure => simp [intOf]; omega
    · obtain rfl : n = 129 := by omega
      go_wp2
      go_ret
      exact ⟨_, rfl, ints_of_owns hownr, ((Ext.refl w).alloc _).trans (Below.mono hBr (by simp))⟩
end Go.Proofs.YthokhncdpfaifaaGreatDoor
