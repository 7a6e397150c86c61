/- Contract of message.With (walk). -/
import Derived.Test.YthokhncdpfaifaaGreatDoorMsgj
import Derived.Test.YthokhncdpfaifaaGreatDoorMsgF
namespace Go.Proofs.YthokhncdpfaifaaGreatDoor
open Go.RowKit
theorem with1_any (B : Nat) (n m : Int) (s : ByteArray) (w : World) (hc : w.cell? ⟨B, 0, none⟩ = some (.int .i64 n)) :
    Calls Tryz.prog 63 #[.agg #[.int .i64 m, .string s], .pointer (some ⟨B, 0, none⟩)] w (OneV (.bool (decide (n < m))) w) := by
  have hB : B < w.heap.size := cell_lt hc
  go_enter Tryz.func63, Tryz.ntmps63
  go_wp2
  go_ret
  exact ⟨rfl, (Ext.refl w).alloc _⟩
def withL (n : Int) (val : ByteArray) (es : List El) : List El := insL (fun m => decide (n < m)) (n, val) (keepL (fun m => m != n) es)
def WithPost (ty n : Int) (val : ByteArray) (es : List El) (w : World) (e : Ending) (w' : World) : Prop :=
  (chkC n val ≠ 0 ∧ e = .returned (.tuple #[msgAgg 0 (.slice none 0 0), .int .i64 (chkC n val)]) ∧ Ext w w') ∨
  (chkC n val = 0 ∧ ∃ v, e = .returned (.tuple #[msgAgg ty v, .int .i64 0]) ∧ Elems w' v (withL n val es) ∧ Ext w w')
theorem keepL_len (p : Int → Bool) (es : List El) : (keepL p es).length ≤ es.length := List.length_filter_le _ _
set_option maxRecDepth 8000 in
set_option maxHeartbeats 4000000 in
theorem with_any (ty n : Int) (val : ByteArray) (v : Value) (es : List El) (w : World) (g : Gl w) (hv : Elems w v es) (hl : es.length ≤ 1000000) (hvs : val.size ≤ 1000000) :
    Calls Tryz.prog 24 #[msgAgg ty v, .int .i64 n, .string val] w (WithPost ty n val es w) := by
  have hV := Lib.hid hv
  obtain ⟨q, cp, rfl⟩ := elems_form hv
  clear hv
  unfold msgAgg
  go_enter Tryz.func24, Tryz.ntmps24
  go_wp2_with fail
  refine (checkF n val _ (g.ext (by repeat (first | with_reducible exact Ext.refl _ | with_reducible exact hE0 | with_reducible exact hE | with_reducible refine Ext.alloc ?_ _ | with_reducible refine Ext.drewN ?_ _ | with_reducible refine Ext.drew ?_ | ((with_reducible refine Ext.setCell ?_ ?side _); (case side => first | exact Nat.le_refl _ | (simp; done) | (simp; omega)))))) hvs).mono ?_
  rintro e w1 ⟨rfl, hE1⟩
  have hA0 := (((Blk.new w #[.int .i64 ty, .slice q es.length cp] 24).alloc (.cells #[.int .i64 n] 3)).alloc (.cells #[.int .i64 0, .slice none 0 0] 24)).ext hE1
  have hA1 := ((Blk.new' (w.alloc (.cells #[.int .i64 ty, .slice q es.length cp] 24)) #[.int .i64 n] 3 (w.heap.size + 1) (by simp)).alloc (.cells #[.int .i64 0, .slice none 0 0] 24)).ext hE1
  have hA2 := (Blk.new' ((w.alloc (.cells #[.int .i64 ty, .slice q es.length cp] 24)).alloc (.cells #[.int .i64 n] 3)) #[.int .i64 0, .slice none 0 0] 24 (w.heap.size + 1 + 1) (by simp)).ext hE1
  have hE01 : Ext w w1 := ((((Ext.refl w).alloc _).alloc _).alloc _).trans hE1
  clear hE1
  have z0 := hA0.cell 0
  have z1 := hA0.cell 1
  have y0 := hA1.cell 0
  have r0 := hA2.cell 0
  have r1 := hA2.cell 1
  have f0 := hA2.fz 0
  have f1 := hA2.fz 1
  have rl := hA2.lt
  simp at z0 z1 y0 r0 r1
  by_cases hz : chkC n val = 0
  · have hZ := Lib.hid hz
    rw [hz]
    clear hz
    have hW := Lib.hid (fun w h => without_any ty n (.slice q es.length cp) es w h hl)
    unfold msgAgg at hW
    go_wp2_with fail
    refine (hW.out _ (hV.out.ext hE01)).mono ?_
    rintro e w2 ⟨v2, rfl, ho2, hE2⟩
    have hE02 := hE01.trans hE2
    have hO2 := Lib.hid ho2
    obtain ⟨p2, c2, rfl⟩ := owns_form ho2
    have hB0 := hA0.ext hE2
    have hB1 := hA1.ext hE2
    have hB2 := hA2.ext hE2
    have hkl := keepL_len (fun m => m != n) es
    clear hE2 hA0 hA1 hA2 z0 z1 y0 r0 r1 f0 f1 rl ho2 hW
    unfold msgAgg
    have hfld : ∀ (w : World) (m : Nat), (Instr.field 24 (.agg #[.int .i64 ty, .slice p2 m c2]) 1).run Tryz.prog w = .ok (.slice p2 m c2) w := fun _ _ => by kernel_rfl
    have z0 := hB0.cell 0
    have y0 := hB1.cell 0
    have hl0 := hB0.lt
    have hl1 := hB1.lt
    have hl2 := hB2.lt
    simp at z0 y0
    go_wp2_with fail
    clear hfld
    obtain ⟨BX, hBX⟩ : ∃ BX, BX = w2.heap.size := ⟨_, rfl⟩
    rw [← hBX]
    have hE0 : Ext w (w2.alloc (.cells #[.int .i64 n, .string val] 41)) := hE02.alloc _
    have hC0 := hB0.alloc (.cells #[.int .i64 n, .string val] 41)
    have hC1 := hB1.alloc (.cells #[.int .i64 n, .string val] 41)
    have hC2 := hB2.alloc (.cells #[.int .i64 n, .string val] 41)
    have hCX : Blk (w2.alloc (.cells #[.int .i64 n, .string val] 41)) BX #[.int .i64 n, .string val] 41 := by rw [hBX]; exact Blk.new w2 _ _
    have hO3 := Lib.hid (owns_ext hO2.out ((Ext.refl w2).alloc (.cells #[.int .i64 n, .string val] 41)))
    generalize w2.alloc (.cells #[.int .i64 n, .string val] 41) = w3 at *
    have hBXl : w.heap.size + 1 + 1 < BX := by omega
    clear hBX hB0 hB1 hB2 z0 y0
    have x0 : w3.cell? ⟨w.heap.size, 0, none⟩ = some (.int .i64 ty) := hC0.cell 0
    have x1 : w3.cell? ⟨BX, 0, none⟩ = some (.int .i64 n) := hCX.cell 0
    have x2 : w3.cell? ⟨BX, 1, none⟩ = some (.string val) := hCX.cell 1
    have hl3 := hC2.lt
    have yc : w3.cell? ⟨w.heap.size + 1, 0, none⟩ = some (.int .i64 n) := hC1.cell 0
    go_region_held3 (fun w' => w'.cell? ⟨w.heap.size, 0, none⟩ = some (.int .i64 ty) ∧ w'.cell? ⟨BX, 0, none⟩ = some (.int .i64 n) ∧ w'.cell? ⟨BX, 1, none⟩ = some (.string val)) (first | exact ⟨by assumption, by assumption, by assumption⟩ | exact ⟨x0, x1, x2⟩ | exact ⟨(World.cell?_setCell_far _ _ _ _ (by simp; omega)).trans ((World.cell?_setCell_far _ _ _ _ (by simp; omega)).trans x0), (World.cell?_setCell_far _ _ _ _ (by simp; omega)).trans ((World.cell?_setCell_far _ _ _ _ (by simp; omega)).trans x1), (World.cell?_setCell_far _ _ _ _ (by simp; omega)).trans ((World.cell?_setCell_far _ _ _ _ (by simp; omega)).trans x2)⟩) ((go_at_call 62; refine (insert_any 63 _ _ (fun m => decide (n < m)) (keepL (fun m => m != n) es) n val _ w3.drew (owns_ext hO3.out (Ext.refl w3).drew) (by omega) (fun _ _ => by kernel_rfl) (fun wr hE m s => with1_any _ n m s wr (hE.get yc))).mono ?_; rintro e w4 ⟨v4, rfl, hi4, hE4⟩; have hS := ext_at hE0 (by first | exact hE4 | exact Ext.undrew hE4); have hE0 := hE0.trans hS; have x0 := hS.get x0; have x1 := hS.get x1; have x2 := hS.get x2; have hC2 := hC2.ext hS; have hI4 := Lib.hid hi4; obtain ⟨p4, c4, rfl⟩ := owns_form hi4; have y0 := hC2.cell 0; have y1 := hC2.cell 1; have k0 := hC2.fz 0; have k1 := hC2.fz 1; have yl := hC2.lt; simp at y0 y1; clear hE4 hi4))
    all_goals go_wp2
    all_goals refine bodyPost_ret (v := .tuple #[msgAgg ty (.slice p4 (withL n val es).length c4), .int .i64 0]) ?_ rfl (Or.inr ⟨hZ.out, .slice p4 (withL n val es).length c4, rfl, ?_, ?_⟩)
    all_goals first | (simp [results, Tryz.results24, go_sem, msgAgg, y0, y1, withL]; done) | exact (hE0.setCell (by show w.heap.size ≤ w.heap.size + 1 + 1; omega) _).setCell (by show w.heap.size ≤ w.heap.size + 1 + 1; omega) _ | exact elems_of_owns (owns_set (owns_set hI4.out (by simp; omega)) (by simp; omega))
  · have hzb : (chkC n val != 0) = true := by simpa using hz
    have hZ := Lib.hid hz
    clear hz
    go_wp2
    refine bodyPost_ret (v := .tuple #[msgAgg 0 (.slice none 0 0), .int .i64 (chkC n val)]) ?_ rfl (Or.inl ⟨hZ.out, rfl, (hE01.setCell (by show w.heap.size ≤ w.heap.size + 1 + 1; omega) _).setCell (by show w.heap.size ≤ w.heap.size + 1 + 1; omega) _⟩)
    simp [results, Tryz.results24, go_sem, msgAgg, r0, r1]
end Go.Proofs.YthokhncdpfaifaaGreatDoor
