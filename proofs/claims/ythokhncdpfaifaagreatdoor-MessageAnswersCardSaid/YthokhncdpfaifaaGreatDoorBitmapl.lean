/- Contracts of bitmap.Of and bitmap.List (walks). -/
import Derived.Test.YthokhncdpfaifaaGreatDoorBitmap
import Derived.LoopTactic
import Derived.OwnWalk
namespace Go.Proofs.YthokhncdpfaifaaGreatDoor
open Go.RowKit

/-- The bitmap of a list of numbers. -/
def bof : List Int → Nat × Nat → Nat × Nat
  | [], p => p
  | n :: l, p => bof l (bset p.1 p.2 n.toNat)
theorem bof_snoc (l : List Int) (n : Int) (p : Nat × Nat) : bof (l ++ [n]) p = bset (bof l p).1 (bof l p).2 n.toNat := by
  induction l generalizing p with
  | nil => rfl
  | cons m l ih => simp only [List.cons_append, bof]; exact ih _
def In128 (l : List Int) : Prop := ∀ n ∈ l, 2 ≤ n ∧ n ≤ 128
theorem Wd_bof (l : List Int) (h : In128 l) (p : Nat × Nat) (h1 : Wd p.1) (h2 : Wd p.2) : Wd (bof l p).1 ∧ Wd (bof l p).2 := by
  induction l generalizing p with
  | nil => exact ⟨h1, h2⟩
  | cons m l ih =>
    have hm := h m (by simp)
    have := Wd_bset p.1 p.2 m.toNat h2 (by omega) (by omega)
    exact ih (fun n hn => h n (by simp [hn])) _ this.1 this.2
def OfPost (p : Nat × Nat) (w : World) (e : Ending) (w' : World) : Prop := e = .returned (.tuple #[.agg #[.int .u64 p.1, .int .u64 p.2], .int .i64 0]) ∧ Ext w w'

theorem of_step (zs : List Int) (k : Nat) (hlt : k < zs.length) (hin : In128 zs) : ∃ n : Nat, zs.getD k 0 = (n : Int) ∧ 2 ≤ n ∧ n ≤ 128 ∧ bof (zs.take (k + 1)) (0, 0) = bset (bof (zs.take k) (0, 0)).1 (bof (zs.take k) (0, 0)).2 n ∧ Wd (bof (zs.take k) (0, 0)).1 ∧ Wd (bof (zs.take k) (0, 0)).2 := by
  have hm := hin (zs[k]) (List.getElem_mem hlt)
  have hw := Wd_bof (zs.take k) (fun n hn => hin n (List.mem_of_mem_take hn)) (0, 0) (by unfold Wd; decide) (by unfold Wd; decide)
  refine ⟨zs[k].toNat, ?_, by omega, by omega, ?_, hw.1, hw.2⟩
  · rw [List.getD_eq_getElem?_getD, List.getElem?_eq_getElem hlt]; simp only [Option.getD_some]; omega
  · rw [List.take_succ_eq_append_getElem hlt, bof_snoc]

set_option maxHeartbeats 400000 in
theorem of_nil (w : World) : Calls Tryz.prog 35 #[.slice none 0 0] w (OfPost (bof [] (0, 0)) w) := by
  go_enter Tryz.func35, Tryz.ntmps35
  go_wp2
  go_loop [12] (fun i => i = .int .i64 0) (fun _ => 0)
  case atStart => rfl
  case round =>
    subst hrel
    go_wp2
    exact bodyPost_ret (v := .tuple #[.agg #[.int .u64 0, .int .u64 0], .int .i64 0]) (by simp [results, Tryz.results35, go_sem]) rfl ⟨rfl, (by repeat (first | with_reducible exact Ext.refl _ | with_reducible exact hE0 | with_reducible exact hE | with_reducible refine Ext.alloc ?_ _ | with_reducible refine Ext.drewN ?_ _ | with_reducible refine Ext.drew ?_ | ((with_reducible refine Ext.setCell ?_ ?side _); (case side => first | exact Nat.le_refl _ | (simp; done) | (simp; omega)))))⟩

set_option maxHeartbeats 1000000 in
theorem of_some (b off cap : Nat) (zs : List Int) (w : World) (hl : zs.length ≤ 1000000) (hin : In128 zs) (hc : ∀ i, i < zs.length → w.cell? ⟨b, off + i, none⟩ = some (.int .i64 (zs.getD i 0))) :
    Calls Tryz.prog 35 #[.slice (some ⟨b, off, none⟩) zs.length cap] w (OfPost (bof zs (0, 0)) w) := by
  have hc := Lib.hid hc
  have hin := Lib.hid hin
  go_enter Tryz.func35, Tryz.ntmps35
  go_wp2
  go_loopw [12] (fun i wr => ∃ k : Nat, k ≤ zs.length ∧ i = .int .i64 k ∧ Ext w wr ∧ Blk wr w.heap.size #[.int .u64 0, .int .u64 0] 61 ∧ Blk wr (w.heap.size + 1) #[.int .u64 (bof (zs.take k) (0, 0)).1, .int .u64 (bof (zs.take k) (0, 0)).2] 61) (fun i _ => zs.length - (intOf i).toNat)
  case atStart => exact ⟨0, Nat.zero_le _, rfl, (by repeat (first | with_reducible exact Ext.refl _ | with_reducible exact hE0 | with_reducible exact hE | with_reducible refine Ext.alloc ?_ _ | with_reducible refine Ext.drewN ?_ _ | with_reducible refine Ext.drew ?_ | ((with_reducible refine Ext.setCell ?_ ?side _); (case side => first | exact Nat.le_refl _ | (simp; done) | (simp; omega))))), (Blk.new _ _ _).alloc _, Blk.new' _ _ _ _ (by simp)⟩
  case round =>
    obtain ⟨k, hk, rfl, hE, hB0, hB1⟩ := hrel
    by_cases hlt : k < zs.length
    · obtain ⟨n, hz, hn1, hn2, hs, hwa, hwb⟩ := of_step zs k hlt hin.out
      have hcell : wr.cell? ⟨b, off + k, none⟩ = some (.int .i64 n) := by rw [← hz]; exact hE.get (hc.out k hlt)
      clear hz
      have hS := Lib.hid hs
      clear hs
      generalize (bof (zs.take k) (0, 0)).1 = pa at *
      generalize (bof (zs.take k) (0, 0)).2 = pb at *
      have c0 : wr.cell? ⟨w.heap.size + 1, 0, none⟩ = some (.int .u64 pa) := hB1.cell 0
      have c1 : wr.cell? ⟨w.heap.size + 1, 1, none⟩ = some (.int .u64 pb) := hB1.cell 1
      go_wp2_with fail
      refine (set_any pa pb n _ hwa hwb hn1 hn2).mono ?_
      rintro e w1 ⟨rfl, hE1⟩
      have hB0' := hB0.ext hE1
      have hB1' := hB1.ext hE1
      have hlt1 := hB1'.lt
      have c0 : w1.cell? ⟨w.heap.size + 1, 0, none⟩ = some (.int .u64 pa) := hB1'.cell 0
      have c1 : w1.cell? ⟨w.heap.size + 1, 1, none⟩ = some (.int .u64 pb) := hB1'.cell 1
      have f0 : w1.frozen? ⟨w.heap.size + 1, 0, none⟩ = false := hB1'.fz 0
      have f1 : w1.frozen? ⟨w.heap.size + 1, 1, none⟩ = false := hB1'.fz 1
      have hE0 := hE.trans hE1
      go_wp2_with fail
      go_roundw
      case rel => exact ⟨k + 1, by omega, by go_num, (by repeat (first | with_reducible exact Ext.refl _ | with_reducible exact hE0 | with_reducible exact hE | with_reducible refine Ext.alloc ?_ _ | with_reducible refine Ext.drewN ?_ _ | with_reducible refine Ext.drew ?_ | ((with_reducible refine Ext.setCell ?_ ?side _); (case side => first | exact Nat.le_refl _ | (simp; done) | (simp; omega))))), ((hB0'.other 0 _ (by omega)).other 1 _ (by omega)).alloc _, by rw [hS.out]; exact ((hB1'.set 0 _).set 1 _).alloc _⟩
      case measure => simp [intOf]; omega
    · have hkk : zs.take k = zs := List.take_of_length_le (by omega)
      rw [hkk] at hB1
      have c0 := hB1.cell 0
      have c1 := hB1.cell 1
      have d0 := hB0.cell 0
      have d1 := hB0.cell 1
      have f0 := hB0.fz 0
      have f1 := hB0.fz 1
      go_wp2_with fail
      exact bodyPost_ret (v := .tuple #[.agg #[.int .u64 (bof zs (0, 0)).1, .int .u64 (bof zs (0, 0)).2], .int .i64 0]) (by simp [results, Tryz.results35, go_sem, d0, d1]) rfl ⟨rfl, by repeat (first | exact hE | refine Ext.setCell ?_ (by simp) _)⟩
end Go.Proofs.YthokhncdpfaifaaGreatDoor
