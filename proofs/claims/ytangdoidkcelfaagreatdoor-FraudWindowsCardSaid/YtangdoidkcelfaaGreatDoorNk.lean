/- Contracts of the reference's text, number, Features, SameFeatures, SameVerdict of layer 26 (walks; printed by gen/h51.py). -/
import Derived.Test.YtangdoidkcelfaaGreatDoorJc
import Derived.Test.YtangdoidkcelfaaGreatDoorKq
import Derived.Test.YtangdoidkcelfaaGreatDoorKv
namespace Go.Proofs.YtangdoidkcelfaaGreatDoor
open Go.RowKit
theorem ftO_blk {w : World} {B C : Nat} {cs : Array Value} {l : List Feat} (h : Blk w C cs 62) (hB : B ≤ C) (hl : l.length ≤ 1000000) (hcs : cs.toList = l.flatMap ftCells) : FtO w B (.slice (some ⟨C, 0, none⟩) l.length l.length) l :=
 ⟨hl, ftFlat_len l, Or.inr ⟨C, l.length, cs, rfl, hB, h, Nat.le_refl _, by unfold maxLen; omega, by rw [← Array.length_toList, hcs, ftFlat_len], by rw [hcs, List.take_of_length_le (by rw [ftFlat_len]; exact Nat.le_refl _)]⟩⟩
set_option maxRecDepth 8000 in
set_option maxHeartbeats 1000000 in
theorem rtext26_any (ty n : Int) (nm : ByteArray) (v : Value) (es : List El) (w : World) (hv : Elems w v es) (hl : es.length ≤ 1000000) : Calls Tryz.prog 32 #[.agg #[.int .i64 ty, v], .string nm, .int .i64 n] w (fun e w' => e = .returned (.agg #[.string nm, .int .i64 2, .int .i64 0, .string (getS n es)]) ∧ Ext w w') := by
 have kG := Lib.hid (fun w1 (h : Ext w w1) => rGet_any ty n v es w1 (hv.ext h) hl)
 obtain ⟨q, cp, rfl, -⟩ := hv
 unfold OneV msgAgg at kG
 generalize getS n es = s at *
 generalize getB n es = b at *
 go_enter Tryz.func32, Tryz.ntmps32
 go_wp2_with fail
 refine (kG.out _ xt).mono ?_
 rintro e w1 ⟨rfl, hE1⟩
 have bR := (Blk.new' (w.alloc (.cells #[.int .i64 ty, .slice q es.length cp] 27)) #[.string ⟨#[]⟩, .int .i64 0, .int .i64 0, .string ⟨#[]⟩] 62 (w.heap.size + 1) (by simp)).ext hE1
 have hE : Ext w w1 := Ext.trans (show Ext w ((w.alloc (.cells #[.int .i64 ty, .slice q es.length cp] 27)).alloc (.cells #[.string ⟨#[]⟩, .int .i64 0, .int .i64 0, .string ⟨#[]⟩] 62)) from xt) hE1
 have r0 : w1.cell? ⟨w.heap.size + 1, 0, none⟩ = some (.string ⟨#[]⟩) := (bR.cell 0).trans rfl
 have r1 : w1.cell? ⟨w.heap.size + 1, 1, none⟩ = some (.int .i64 0) := (bR.cell 1).trans rfl
 have r2 : w1.cell? ⟨w.heap.size + 1, 2, none⟩ = some (.int .i64 0) := (bR.cell 2).trans rfl
 have r3 : w1.cell? ⟨w.heap.size + 1, 3, none⟩ = some (.string ⟨#[]⟩) := (bR.cell 3).trans rfl
 have f0 : w1.frozen? ⟨w.heap.size + 1, 0, none⟩ = false := bR.fz 0
 have f1 : w1.frozen? ⟨w.heap.size + 1, 1, none⟩ = false := bR.fz 1
 have f2 : w1.frozen? ⟨w.heap.size + 1, 2, none⟩ = false := bR.fz 2
 have f3 : w1.frozen? ⟨w.heap.size + 1, 3, none⟩ = false := bR.fz 3
 have lr := bR.lt
 have hlr : w.heap.size ≤ w.heap.size + 1 := Nat.le_succ _
 go_wp2_with fail
 have bF := (((bR.set 0 (.string nm)).set 1 (.int .i64 2)).set 2 (.int .i64 0)).set 3 (.string s)
 have hEF : Ext w ((((w1.setCell ⟨w.heap.size + 1, 0, none⟩ (.string nm)).setCell ⟨w.heap.size + 1, 1, none⟩ (.int .i64 2)).setCell ⟨w.heap.size + 1, 2, none⟩ (.int .i64 0)).setCell ⟨w.heap.size + 1, 3, none⟩ (.string s)) := (((hE.setCell hlr _).setCell hlr _).setCell hlr _).setCell hlr _
 have s0 := (bF.cell 0).trans (show _ = some (Value.string nm) from rfl)
 have s1 := (bF.cell 1).trans (show _ = some (Value.int .i64 2) from rfl)
 have s2 := (bF.cell 2).trans (show _ = some (Value.int .i64 0) from rfl)
 have s3 := (bF.cell 3).trans (show _ = some (Value.string s) from rfl)
 clear bF bR r0 r1 r2 r3 f0 f1 f2 f3 lr
 generalize ((((w1.setCell ⟨w.heap.size + 1, 0, none⟩ (.string nm)).setCell ⟨w.heap.size + 1, 1, none⟩ (.int .i64 2)).setCell ⟨w.heap.size + 1, 2, none⟩ (.int .i64 0)).setCell ⟨w.heap.size + 1, 3, none⟩ (.string s)) = W at *
 exact bodyPost_ret (v := .agg #[.string nm, .int .i64 2, .int .i64 0, .string s]) (by simp [results, Tryz.results32, go_sem, s0, s1, s2, s3]) rfl ⟨rfl, hEF⟩
set_option maxRecDepth 8000 in
set_option maxHeartbeats 1000000 in
theorem rnum26_any (ty n : Int) (nm : ByteArray) (v : Value) (es : List El) (w : World) (hv : Elems w v es) (hl : es.length ≤ 1000000) : Calls Tryz.prog 33 #[.agg #[.int .i64 ty, v], .string nm, .int .i64 n] w (fun e w' => e = .returned (.agg #[.string nm, .int .i64 1, .int .i64 (numV n es), .string ⟨#[]⟩]) ∧ Ext w w') := by
 have kG := Lib.hid (fun w1 (h : Ext w w1) => rNumber_any ty n v es w1 (hv.ext h) hl)
 obtain ⟨q, cp, rfl, -⟩ := hv
 unfold NumbP msgAgg at kG
 generalize numV n es = s at *
 generalize numE n es = b at *
 go_enter Tryz.func33, Tryz.ntmps33
 go_wp2_with fail
 refine (kG.out _ xt).mono ?_
 rintro e w1 ⟨rfl, hE1⟩
 have bR := (Blk.new' (w.alloc (.cells #[.int .i64 ty, .slice q es.length cp] 27)) #[.string ⟨#[]⟩, .int .i64 0, .int .i64 0, .string ⟨#[]⟩] 62 (w.heap.size + 1) (by simp)).ext hE1
 have hE : Ext w w1 := Ext.trans (show Ext w ((w.alloc (.cells #[.int .i64 ty, .slice q es.length cp] 27)).alloc (.cells #[.string ⟨#[]⟩, .int .i64 0, .int .i64 0, .string ⟨#[]⟩] 62)) from xt) hE1
 have r0 : w1.cell? ⟨w.heap.size + 1, 0, none⟩ = some (.string ⟨#[]⟩) := (bR.cell 0).trans rfl
 have r1 : w1.cell? ⟨w.heap.size + 1, 1, none⟩ = some (.int .i64 0) := (bR.cell 1).trans rfl
 have r2 : w1.cell? ⟨w.heap.size + 1, 2, none⟩ = some (.int .i64 0) := (bR.cell 2).trans rfl
 have r3 : w1.cell? ⟨w.heap.size + 1, 3, none⟩ = some (.string ⟨#[]⟩) := (bR.cell 3).trans rfl
 have f0 : w1.frozen? ⟨w.heap.size + 1, 0, none⟩ = false := bR.fz 0
 have f1 : w1.frozen? ⟨w.heap.size + 1, 1, none⟩ = false := bR.fz 1
 have f2 : w1.frozen? ⟨w.heap.size + 1, 2, none⟩ = false := bR.fz 2
 have f3 : w1.frozen? ⟨w.heap.size + 1, 3, none⟩ = false := bR.fz 3
 have lr := bR.lt
 have hlr : w.heap.size ≤ w.heap.size + 1 := Nat.le_succ _
 go_wp2_with fail
 have bF := (((bR.set 0 (.string nm)).set 1 (.int .i64 1)).set 2 (.int .i64 s)).set 3 (.string ⟨#[]⟩)
 have hEF : Ext w ((((w1.setCell ⟨w.heap.size + 1, 0, none⟩ (.string nm)).setCell ⟨w.heap.size + 1, 1, none⟩ (.int .i64 1)).setCell ⟨w.heap.size + 1, 2, none⟩ (.int .i64 s)).setCell ⟨w.heap.size + 1, 3, none⟩ (.string ⟨#[]⟩)) := (((hE.setCell hlr _).setCell hlr _).setCell hlr _).setCell hlr _
 have s0 := (bF.cell 0).trans (show _ = some (Value.string nm) from rfl)
 have s1 := (bF.cell 1).trans (show _ = some (Value.int .i64 1) from rfl)
 have s2 := (bF.cell 2).trans (show _ = some (Value.int .i64 s) from rfl)
 have s3 := (bF.cell 3).trans (show _ = some (Value.string ⟨#[]⟩) from rfl)
 clear bF bR r0 r1 r2 r3 f0 f1 f2 f3 lr
 generalize ((((w1.setCell ⟨w.heap.size + 1, 0, none⟩ (.string nm)).setCell ⟨w.heap.size + 1, 1, none⟩ (.int .i64 1)).setCell ⟨w.heap.size + 1, 2, none⟩ (.int .i64 s)).setCell ⟨w.heap.size + 1, 3, none⟩ (.string ⟨#[]⟩)) = W at *
 exact bodyPost_ret (v := .agg #[.string nm, .int .i64 1, .int .i64 s, .string ⟨#[]⟩]) (by simp [results, Tryz.results33, go_sem, s0, s1, s2, s3]) rfl ⟨rfl, hEF⟩
set_option maxRecDepth 8000 in
set_option maxHeartbeats 8000000 in
theorem rfeatures_any (ty : Int) (v : Value) (es : List El) (w : World) (hv : Elems w v es) (hl : es.length ≤ 1000000) : Calls Tryz.prog 12 #[.agg #[.int .i64 ty, v]] w (FeaP es w) := by
 have hfin := Lib.hid (fun (a : Int) (C : Nat) (w' : World) (ha : a = if getB 52 es then 1 else 0) (h : Blk w' C #[.string ⟨#[99, 97, 114, 100]⟩, .int .i64 2, .int .i64 0, .string (getS 2 es), .string ⟨#[109, 101, 114, 99, 104, 97, 110, 116]⟩, .int .i64 2, .int .i64 0, .string (getS 42 es), .string ⟨#[97, 99, 113, 117, 105, 114, 101, 114]⟩, .int .i64 2, .int .i64 0, .string (getS 32 es), .string ⟨#[99, 117, 114, 114, 101, 110, 99, 121]⟩, .int .i64 2, .int .i64 0, .string (getS 49 es), .string ⟨#[116, 101, 114, 109, 105, 110, 97, 108]⟩, .int .i64 2, .int .i64 0, .string (getS 41 es), .string ⟨#[97, 109, 111, 117, 110, 116]⟩, .int .i64 1, .int .i64 (numV 4 es), .string ⟨#[]⟩, .string ⟨#[99, 97, 116, 101, 103, 111, 114, 121]⟩, .int .i64 1, .int .i64 (numV 18 es), .string ⟨#[]⟩, .string ⟨#[115, 101, 110, 116]⟩, .int .i64 1, .int .i64 (numV 7 es), .string ⟨#[]⟩, .string ⟨#[116, 111, 107, 101, 110]⟩, .int .i64 3, .int .i64 a, .string ⟨#[]⟩] 62) (hB : w.heap.size ≤ C) (hE : Ext w w') => show FeaP es w (.returned (.slice (some ⟨C, 0, none⟩) 9 9)) w' from ⟨_, rfl, ftO_blk (l := msgF es) h hB (by simp [msgF]) (by subst ha; rfl), hE⟩)
 have kG := Lib.hid (fun w1 (h : Ext w w1) => rGet_any ty 52 v es w1 (hv.ext h) hl)
 unfold OneV msgAgg at kG
 obtain ⟨q, cp, rfl⟩ : ∃ q cp, v = .slice q es.length cp := by
  obtain ⟨q, cp, h, -⟩ := hv
  exact ⟨q, cp, h⟩
 have k2 := Lib.hid (fun w1 (h : Ext w w1) => rtext26_any ty 2 ⟨#[99, 97, 114, 100]⟩ (.slice q es.length cp) es w1 (hv.ext h) hl)
 have k42 := Lib.hid (fun w1 (h : Ext w w1) => rtext26_any ty 42 ⟨#[109, 101, 114, 99, 104, 97, 110, 116]⟩ (.slice q es.length cp) es w1 (hv.ext h) hl)
 have k32 := Lib.hid (fun w1 (h : Ext w w1) => rtext26_any ty 32 ⟨#[97, 99, 113, 117, 105, 114, 101, 114]⟩ (.slice q es.length cp) es w1 (hv.ext h) hl)
 have k49 := Lib.hid (fun w1 (h : Ext w w1) => rtext26_any ty 49 ⟨#[99, 117, 114, 114, 101, 110, 99, 121]⟩ (.slice q es.length cp) es w1 (hv.ext h) hl)
 have k41 := Lib.hid (fun w1 (h : Ext w w1) => rtext26_any ty 41 ⟨#[116, 101, 114, 109, 105, 110, 97, 108]⟩ (.slice q es.length cp) es w1 (hv.ext h) hl)
 have k4 := Lib.hid (fun w1 (h : Ext w w1) => rnum26_any ty 4 ⟨#[97, 109, 111, 117, 110, 116]⟩ (.slice q es.length cp) es w1 (hv.ext h) hl)
 have k18 := Lib.hid (fun w1 (h : Ext w w1) => rnum26_any ty 18 ⟨#[99, 97, 116, 101, 103, 111, 114, 121]⟩ (.slice q es.length cp) es w1 (hv.ext h) hl)
 have k7 := Lib.hid (fun w1 (h : Ext w w1) => rnum26_any ty 7 ⟨#[115, 101, 110, 116]⟩ (.slice q es.length cp) es w1 (hv.ext h) hl)
 clear hv
 generalize getS 2 es = s2 at *
 generalize getS 42 es = s42 at *
 generalize getS 32 es = s32 at *
 generalize getS 49 es = s49 at *
 generalize getS 41 es = s41 at *
 generalize numV 4 es = n4 at *
 generalize numV 18 es = n18 at *
 generalize numV 7 es = n7 at *
 generalize getS 52 es = s52 at *
 generalize FeaP es w = PP at *
 cases hb : getB 52 es with
 | true =>
  rw [hb] at kG hfin
  replace hfin := Lib.hid (fun C w' h hB hE => hfin.out 1 C w' rfl h hB hE)
  go_enter Tryz.func12, Tryz.ntmps12
  go_wp2_with fail
  refine (kG.out _ xt).mono ?_
  rintro e w1 ⟨rfl, hE1⟩
  have bM := Lib.hid (((Blk.new w #[.int .i64 ty, .slice q es.length cp] 27).alloc (.cells #[.string ⟨#[116, 111, 107, 101, 110]⟩, .int .i64 3, .int .i64 0, .string ⟨#[]⟩] 62)).ext hE1)
  have bT := (Blk.new' (w.alloc (.cells #[.int .i64 ty, .slice q es.length cp] 27)) #[.string ⟨#[116, 111, 107, 101, 110]⟩, .int .i64 3, .int .i64 0, .string ⟨#[]⟩] 62 (w.heap.size + 1) (by simp)).ext hE1
  have hE5 : Ext w w1 := Ext.trans (show Ext w ((w.alloc (.cells #[.int .i64 ty, .slice q es.length cp] 27)).alloc (.cells #[.string ⟨#[116, 111, 107, 101, 110]⟩, .int .i64 3, .int .i64 0, .string ⟨#[]⟩] 62)) from xt) hE1
  clear hE1 kG
  have hAB : w.heap.size ≠ w.heap.size + 1 := by omega
  have hwB : w.heap.size ≤ w.heap.size + 1 := by omega
  generalize hAA : w.heap.size + 1 = B at *
  have t2 : w1.cell? ⟨B, 2, none⟩ = some (.int .i64 0) := (bT.cell 2).trans rfl
  have f2 : w1.frozen? ⟨B, 2, none⟩ = false := bT.fz 2
  have lB := bT.lt
  go_wp2_with fail
  replace bT := Lib.hid (bT.set 2 (.int .i64 1))
  replace bM := Lib.hid (bM.out.chg (F := fun k => k = B) ((Chg.refl (fun k => k = B) w1).setCell (p := ⟨B, 2, none⟩) (Or.inl rfl) (.int .i64 1)) (fun e => hAB e))
  replace hE5 := hE5.setCell (p := ⟨B, 2, none⟩) hwB (.int .i64 1)
  clear t2 f2 lB
  generalize w1.setCell ⟨B, 2, none⟩ (.int .i64 1) = w5 at *
  have m0 : w5.cell? ⟨w.heap.size, 0, none⟩ = some (.int .i64 ty) := (bM.out.cell 0).trans rfl
  have m1 : w5.cell? ⟨w.heap.size, 1, none⟩ = some (.slice q es.length cp) := (bM.out.cell 1).trans rfl
  have t0 : w5.cell? ⟨B, 0, none⟩ = some (.string ⟨#[116, 111, 107, 101, 110]⟩) := (bT.out.cell 0).trans rfl
  have t1 : w5.cell? ⟨B, 1, none⟩ = some (.int .i64 3) := (bT.out.cell 1).trans rfl
  have t2 : w5.cell? ⟨B, 2, none⟩ = some (.int .i64 1) := (bT.out.cell 2).trans rfl
  have t3 : w5.cell? ⟨B, 3, none⟩ = some (.string ⟨#[]⟩) := (bT.out.cell 3).trans rfl
  clear bM bT
  refine wp_region_grow (by kernel_rfl) ?_
  refine grow_take (i := 0) (v := .agg #[.int .i64 ty, .slice q es.length cp]) rfl (by kernel_rfl) (by kernel_rfl) (by kernel_rfl) (fun _ _ _ h => h) ⟨by rfl, fun w' hE => Or.inl (by have y := hE.get (show w5.drew.cell? ⟨w.heap.size, 0, none⟩ = some (.int .i64 ty) from m0); have z := hE.get (show w5.drew.cell? ⟨w.heap.size, 1, none⟩ = some (.slice q es.length cp) from m1); first | (go_simp; done) | (go_simp; with_reducible rfl))⟩ ?_
  simp only [Act.put, List.setIfInBounds_toArray]
  refine grow_take (i := 1) (v := .agg #[.string ⟨#[99, 97, 114, 100]⟩, .int .i64 2, .int .i64 0, .string s2]) rfl (by kernel_rfl) (by kernel_rfl) (by kernel_rfl) (fun _ _ _ h => h) ⟨by rfl, fun w' hE => Or.inr ⟨32, #[.agg #[.int .i64 ty, .slice q es.length cp], .string ⟨#[99, 97, 114, 100]⟩, .int .i64 2], (by first | (go_simp; done) | (go_simp; with_reducible rfl) | rfl), k2.out w' (Ext.trans hE5.drew hE)⟩⟩ ?_
  simp only [Act.put]
  refine grow_take (i := 2) (v := .agg #[.int .i64 ty, .slice q es.length cp]) rfl (by kernel_rfl) (by kernel_rfl) (by kernel_rfl) (fun _ _ _ h => h) ⟨by rfl, fun w' hE => Or.inl (by have y := hE.get (show w5.drew.cell? ⟨w.heap.size, 0, none⟩ = some (.int .i64 ty) from m0); have z := hE.get (show w5.drew.cell? ⟨w.heap.size, 1, none⟩ = some (.slice q es.length cp) from m1); first | (go_simp; done) | (go_simp; with_reducible rfl))⟩ ?_
  simp only [Act.put]
  refine grow_take (i := 3) (v := .agg #[.string ⟨#[109, 101, 114, 99, 104, 97, 110, 116]⟩, .int .i64 2, .int .i64 0, .string s42]) rfl (by kernel_rfl) (by kernel_rfl) (by kernel_rfl) (fun _ _ _ h => h) ⟨by rfl, fun w' hE => Or.inr ⟨32, #[.agg #[.int .i64 ty, .slice q es.length cp], .string ⟨#[109, 101, 114, 99, 104, 97, 110, 116]⟩, .int .i64 42], (by first | (go_simp; done) | (go_simp; with_reducible rfl) | rfl), k42.out w' (Ext.trans hE5.drew hE)⟩⟩ ?_
  simp only [Act.put]
  refine grow_take (i := 4) (v := .agg #[.int .i64 ty, .slice q es.length cp]) rfl (by kernel_rfl) (by kernel_rfl) (by kernel_rfl) (fun _ _ _ h => h) ⟨by rfl, fun w' hE => Or.inl (by have y := hE.get (show w5.drew.cell? ⟨w.heap.size, 0, none⟩ = some (.int .i64 ty) from m0); have z := hE.get (show w5.drew.cell? ⟨w.heap.size, 1, none⟩ = some (.slice q es.length cp) from m1); first | (go_simp; done) | (go_simp; with_reducible rfl))⟩ ?_
  simp only [Act.put]
  refine grow_take (i := 5) (v := .agg #[.string ⟨#[97, 99, 113, 117, 105, 114, 101, 114]⟩, .int .i64 2, .int .i64 0, .string s32]) rfl (by kernel_rfl) (by kernel_rfl) (by kernel_rfl) (fun _ _ _ h => h) ⟨by rfl, fun w' hE => Or.inr ⟨32, #[.agg #[.int .i64 ty, .slice q es.length cp], .string ⟨#[97, 99, 113, 117, 105, 114, 101, 114]⟩, .int .i64 32], (by first | (go_simp; done) | (go_simp; with_reducible rfl) | rfl), k32.out w' (Ext.trans hE5.drew hE)⟩⟩ ?_
  simp only [Act.put]
  refine grow_take (i := 6) (v := .agg #[.int .i64 ty, .slice q es.length cp]) rfl (by kernel_rfl) (by kernel_rfl) (by kernel_rfl) (fun _ _ _ h => h) ⟨by rfl, fun w' hE => Or.inl (by have y := hE.get (show w5.drew.cell? ⟨w.heap.size, 0, none⟩ = some (.int .i64 ty) from m0); have z := hE.get (show w5.drew.cell? ⟨w.heap.size, 1, none⟩ = some (.slice q es.length cp) from m1); first | (go_simp; done) | (go_simp; with_reducible rfl))⟩ ?_
  simp only [Act.put]
  refine grow_take (i := 7) (v := .agg #[.string ⟨#[99, 117, 114, 114, 101, 110, 99, 121]⟩, .int .i64 2, .int .i64 0, .string s49]) rfl (by kernel_rfl) (by kernel_rfl) (by kernel_rfl) (fun _ _ _ h => h) ⟨by rfl, fun w' hE => Or.inr ⟨32, #[.agg #[.int .i64 ty, .slice q es.length cp], .string ⟨#[99, 117, 114, 114, 101, 110, 99, 121]⟩, .int .i64 49], (by first | (go_simp; done) | (go_simp; with_reducible rfl) | rfl), k49.out w' (Ext.trans hE5.drew hE)⟩⟩ ?_
  simp only [Act.put]
  refine grow_take (i := 8) (v := .agg #[.int .i64 ty, .slice q es.length cp]) rfl (by kernel_rfl) (by kernel_rfl) (by kernel_rfl) (fun _ _ _ h => h) ⟨by rfl, fun w' hE => Or.inl (by have y := hE.get (show w5.drew.cell? ⟨w.heap.size, 0, none⟩ = some (.int .i64 ty) from m0); have z := hE.get (show w5.drew.cell? ⟨w.heap.size, 1, none⟩ = some (.slice q es.length cp) from m1); first | (go_simp; done) | (go_simp; with_reducible rfl))⟩ ?_
  simp only [Act.put]
  refine grow_take (i := 9) (v := .agg #[.string ⟨#[116, 101, 114, 109, 105, 110, 97, 108]⟩, .int .i64 2, .int .i64 0, .string s41]) rfl (by kernel_rfl) (by kernel_rfl) (by kernel_rfl) (fun _ _ _ h => h) ⟨by rfl, fun w' hE => Or.inr ⟨32, #[.agg #[.int .i64 ty, .slice q es.length cp], .string ⟨#[116, 101, 114, 109, 105, 110, 97, 108]⟩, .int .i64 41], (by first | (go_simp; done) | (go_simp; with_reducible rfl) | rfl), k41.out w' (Ext.trans hE5.drew hE)⟩⟩ ?_
  simp only [Act.put]
  refine grow_take (i := 10) (v := .agg #[.int .i64 ty, .slice q es.length cp]) rfl (by kernel_rfl) (by kernel_rfl) (by kernel_rfl) (fun _ _ _ h => h) ⟨by rfl, fun w' hE => Or.inl (by have y := hE.get (show w5.drew.cell? ⟨w.heap.size, 0, none⟩ = some (.int .i64 ty) from m0); have z := hE.get (show w5.drew.cell? ⟨w.heap.size, 1, none⟩ = some (.slice q es.length cp) from m1); first | (go_simp; done) | (go_simp; with_reducible rfl))⟩ ?_
  simp only [Act.put]
  refine grow_take (i := 11) (v := .agg #[.string ⟨#[97, 109, 111, 117, 110, 116]⟩, .int .i64 1, .int .i64 n4, .string ⟨#[]⟩]) rfl (by kernel_rfl) (by kernel_rfl) (by kernel_rfl) (fun _ _ _ h => h) ⟨by rfl, fun w' hE => Or.inr ⟨33, #[.agg #[.int .i64 ty, .slice q es.length cp], .string ⟨#[97, 109, 111, 117, 110, 116]⟩, .int .i64 4], (by first | (go_simp; done) | (go_simp; with_reducible rfl) | rfl), k4.out w' (Ext.trans hE5.drew hE)⟩⟩ ?_
  simp only [Act.put]
  refine grow_take (i := 12) (v := .agg #[.int .i64 ty, .slice q es.length cp]) rfl (by kernel_rfl) (by kernel_rfl) (by kernel_rfl) (fun _ _ _ h => h) ⟨by rfl, fun w' hE => Or.inl (by have y := hE.get (show w5.drew.cell? ⟨w.heap.size, 0, none⟩ = some (.int .i64 ty) from m0); have z := hE.get (show w5.drew.cell? ⟨w.heap.size, 1, none⟩ = some (.slice q es.length cp) from m1); first | (go_simp; done) | (go_simp; with_reducible rfl))⟩ ?_
  simp only [Act.put]
  refine grow_take (i := 13) (v := .agg #[.string ⟨#[99, 97, 116, 101, 103, 111, 114, 121]⟩, .int .i64 1, .int .i64 n18, .string ⟨#[]⟩]) rfl (by kernel_rfl) (by kernel_rfl) (by kernel_rfl) (fun _ _ _ h => h) ⟨by rfl, fun w' hE => Or.inr ⟨33, #[.agg #[.int .i64 ty, .slice q es.length cp], .string ⟨#[99, 97, 116, 101, 103, 111, 114, 121]⟩, .int .i64 18], (by first | (go_simp; done) | (go_simp; with_reducible rfl) | rfl), k18.out w' (Ext.trans hE5.drew hE)⟩⟩ ?_
  simp only [Act.put]
  refine grow_take (i := 14) (v := .agg #[.int .i64 ty, .slice q es.length cp]) rfl (by kernel_rfl) (by kernel_rfl) (by kernel_rfl) (fun _ _ _ h => h) ⟨by rfl, fun w' hE => Or.inl (by have y := hE.get (show w5.drew.cell? ⟨w.heap.size, 0, none⟩ = some (.int .i64 ty) from m0); have z := hE.get (show w5.drew.cell? ⟨w.heap.size, 1, none⟩ = some (.slice q es.length cp) from m1); first | (go_simp; done) | (go_simp; with_reducible rfl))⟩ ?_
  simp only [Act.put]
  refine grow_take (i := 15) (v := .agg #[.string ⟨#[115, 101, 110, 116]⟩, .int .i64 1, .int .i64 n7, .string ⟨#[]⟩]) rfl (by kernel_rfl) (by kernel_rfl) (by kernel_rfl) (fun _ _ _ h => h) ⟨by rfl, fun w' hE => Or.inr ⟨33, #[.agg #[.int .i64 ty, .slice q es.length cp], .string ⟨#[115, 101, 110, 116]⟩, .int .i64 7], (by first | (go_simp; done) | (go_simp; with_reducible rfl) | rfl), k7.out w' (Ext.trans hE5.drew hE)⟩⟩ ?_
  simp only [Act.put]
  refine grow_take (i := 16) (v := .agg #[.string ⟨#[116, 111, 107, 101, 110]⟩, .int .i64 3, .int .i64 1, .string ⟨#[]⟩]) rfl (by kernel_rfl) (by kernel_rfl) (by kernel_rfl) (fun _ _ _ h => h) ⟨by rfl, fun w' hE => Or.inl (by have y0 := hE.get (show w5.drew.cell? ⟨B, 0, none⟩ = some (.string ⟨#[116, 111, 107, 101, 110]⟩) from t0); have y1 := hE.get (show w5.drew.cell? ⟨B, 1, none⟩ = some (.int .i64 3) from t1); have y2 := hE.get (show w5.drew.cell? ⟨B, 2, none⟩ = some (.int .i64 1) from t2); have y3 := hE.get (show w5.drew.cell? ⟨B, 3, none⟩ = some (.string ⟨#[]⟩) from t3); first | (go_simp; done) | (go_simp; with_reducible rfl))⟩ ?_
  simp only [Act.put]
  refine grow_one (i := 17) rfl (by kernel_rfl) (by rfl) (fun w6 hE6 => ?_)
  clear m0 m1 t0 t1 t2 t3
  go_simp
  refine ⟨(Ext.refl _).alloc _, ?_⟩
  have bS := Lib.hid (Blk.new w6 #[.string ⟨#[99, 97, 114, 100]⟩, .int .i64 2, .int .i64 0, .string s2, .string ⟨#[109, 101, 114, 99, 104, 97, 110, 116]⟩, .int .i64 2, .int .i64 0, .string s42, .string ⟨#[97, 99, 113, 117, 105, 114, 101, 114]⟩, .int .i64 2, .int .i64 0, .string s32, .string ⟨#[99, 117, 114, 114, 101, 110, 99, 121]⟩, .int .i64 2, .int .i64 0, .string s49, .string ⟨#[116, 101, 114, 109, 105, 110, 97, 108]⟩, .int .i64 2, .int .i64 0, .string s41, .string ⟨#[97, 109, 111, 117, 110, 116]⟩, .int .i64 1, .int .i64 n4, .string ⟨#[]⟩, .string ⟨#[99, 97, 116, 101, 103, 111, 114, 121]⟩, .int .i64 1, .int .i64 n18, .string ⟨#[]⟩, .string ⟨#[115, 101, 110, 116]⟩, .int .i64 1, .int .i64 n7, .string ⟨#[]⟩, .string ⟨#[116, 111, 107, 101, 110]⟩, .int .i64 3, .int .i64 1, .string ⟨#[]⟩] 62)
  have hs1 : w.heap.size ≤ w6.heap.size := Nat.le_trans hE5.size hE6.size
  have hE2 : Ext w (w6.alloc (.cells #[.string ⟨#[99, 97, 114, 100]⟩, .int .i64 2, .int .i64 0, .string s2, .string ⟨#[109, 101, 114, 99, 104, 97, 110, 116]⟩, .int .i64 2, .int .i64 0, .string s42, .string ⟨#[97, 99, 113, 117, 105, 114, 101, 114]⟩, .int .i64 2, .int .i64 0, .string s32, .string ⟨#[99, 117, 114, 114, 101, 110, 99, 121]⟩, .int .i64 2, .int .i64 0, .string s49, .string ⟨#[116, 101, 114, 109, 105, 110, 97, 108]⟩, .int .i64 2, .int .i64 0, .string s41, .string ⟨#[97, 109, 111, 117, 110, 116]⟩, .int .i64 1, .int .i64 n4, .string ⟨#[]⟩, .string ⟨#[99, 97, 116, 101, 103, 111, 114, 121]⟩, .int .i64 1, .int .i64 n18, .string ⟨#[]⟩, .string ⟨#[115, 101, 110, 116]⟩, .int .i64 1, .int .i64 n7, .string ⟨#[]⟩, .string ⟨#[116, 111, 107, 101, 110]⟩, .int .i64 3, .int .i64 1, .string ⟨#[]⟩] 62)) := (Ext.trans (Ext.trans hE5 (Ext.drew (Ext.refl _))) hE6).alloc _
  clear hE5 hE6
  obtain ⟨C, hC⟩ : ∃ C, C = w6.heap.size := ⟨_, rfl⟩
  obtain ⟨w7, hw7⟩ : ∃ w7, w7 = w6.alloc (.cells #[.string ⟨#[99, 97, 114, 100]⟩, .int .i64 2, .int .i64 0, .string s2, .string ⟨#[109, 101, 114, 99, 104, 97, 110, 116]⟩, .int .i64 2, .int .i64 0, .string s42, .string ⟨#[97, 99, 113, 117, 105, 114, 101, 114]⟩, .int .i64 2, .int .i64 0, .string s32, .string ⟨#[99, 117, 114, 114, 101, 110, 99, 121]⟩, .int .i64 2, .int .i64 0, .string s49, .string ⟨#[116, 101, 114, 109, 105, 110, 97, 108]⟩, .int .i64 2, .int .i64 0, .string s41, .string ⟨#[97, 109, 111, 117, 110, 116]⟩, .int .i64 1, .int .i64 n4, .string ⟨#[]⟩, .string ⟨#[99, 97, 116, 101, 103, 111, 114, 121]⟩, .int .i64 1, .int .i64 n18, .string ⟨#[]⟩, .string ⟨#[115, 101, 110, 116]⟩, .int .i64 1, .int .i64 n7, .string ⟨#[]⟩, .string ⟨#[116, 111, 107, 101, 110]⟩, .int .i64 3, .int .i64 1, .string ⟨#[]⟩] 62) := ⟨_, rfl⟩
  rw [← hw7] at bS hE2
  rw [← hC] at bS hs1
  first | rw [← hw7, ← hC] | (simp only [← hw7, ← hC])
  clear hw7 hC
  refine grow_take (i := 18) (v := .slice (some ⟨C, 0, none⟩) 9 9) rfl (by kernel_rfl) (by kernel_rfl) (by kernel_rfl) (fun _ _ _ h => h) ⟨by rfl, fun w' hE => Or.inl (by first | (go_simp; done) | (go_simp; with_reducible rfl) | rfl)⟩ ?_
  simp only [Act.put, List.setIfInBounds_toArray]
  refine grow_end (by kernel_rfl) (fun w8 hE8 => ?_) _
  have hfin2 := Lib.hid (hfin.out C w8 (bS.out.ext hE8) hs1 (hE2.trans hE8))
  go_wp2
  try go_ret
  exact hfin2.out
 | false =>
  rw [hb] at kG hfin
  replace hfin := Lib.hid (fun C w' h hB hE => hfin.out 0 C w' rfl h hB hE)
  go_enter Tryz.func12, Tryz.ntmps12
  go_wp2_with fail
  refine (kG.out _ xt).mono ?_
  rintro e w1 ⟨rfl, hE1⟩
  have bM := Lib.hid (((Blk.new w #[.int .i64 ty, .slice q es.length cp] 27).alloc (.cells #[.string ⟨#[116, 111, 107, 101, 110]⟩, .int .i64 3, .int .i64 0, .string ⟨#[]⟩] 62)).ext hE1)
  have bT := (Blk.new' (w.alloc (.cells #[.int .i64 ty, .slice q es.length cp] 27)) #[.string ⟨#[116, 111, 107, 101, 110]⟩, .int .i64 3, .int .i64 0, .string ⟨#[]⟩] 62 (w.heap.size + 1) (by simp)).ext hE1
  have hE5 : Ext w w1 := Ext.trans (show Ext w ((w.alloc (.cells #[.int .i64 ty, .slice q es.length cp] 27)).alloc (.cells #[.string ⟨#[116, 111, 107, 101, 110]⟩, .int .i64 3, .int .i64 0, .string ⟨#[]⟩] 62)) from xt) hE1
  clear hE1 kG
  have hAB : w.heap.size ≠ w.heap.size + 1 := by omega
  have hwB : w.heap.size ≤ w.heap.size + 1 := by omega
  generalize hAA : w.heap.size + 1 = B at *
  go_wp2_with fail
  replace bT := Lib.hid bT
  obtain ⟨w5, hw5⟩ : ∃ w5, w5 = w1 := ⟨_, rfl⟩
  subst hw5
  have m0 : w5.cell? ⟨w.heap.size, 0, none⟩ = some (.int .i64 ty) := (bM.out.cell 0).trans rfl
  have m1 : w5.cell? ⟨w.heap.size, 1, none⟩ = some (.slice q es.length cp) := (bM.out.cell 1).trans rfl
  have t0 : w5.cell? ⟨B, 0, none⟩ = some (.string ⟨#[116, 111, 107, 101, 110]⟩) := (bT.out.cell 0).trans rfl
  have t1 : w5.cell? ⟨B, 1, none⟩ = some (.int .i64 3) := (bT.out.cell 1).trans rfl
  have t2 : w5.cell? ⟨B, 2, none⟩ = some (.int .i64 0) := (bT.out.cell 2).trans rfl
  have t3 : w5.cell? ⟨B, 3, none⟩ = some (.string ⟨#[]⟩) := (bT.out.cell 3).trans rfl
  clear bM bT
  refine wp_region_grow (by kernel_rfl) ?_
  refine grow_take (i := 0) (v := .agg #[.int .i64 ty, .slice q es.length cp]) rfl (by kernel_rfl) (by kernel_rfl) (by kernel_rfl) (fun _ _ _ h => h) ⟨by rfl, fun w' hE => Or.inl (by have y := hE.get (show w5.drew.cell? ⟨w.heap.size, 0, none⟩ = some (.int .i64 ty) from m0); have z := hE.get (show w5.drew.cell? ⟨w.heap.size, 1, none⟩ = some (.slice q es.length cp) from m1); first | (go_simp; done) | (go_simp; with_reducible rfl))⟩ ?_
  simp only [Act.put, List.setIfInBounds_toArray]
  refine grow_take (i := 1) (v := .agg #[.string ⟨#[99, 97, 114, 100]⟩, .int .i64 2, .int .i64 0, .string s2]) rfl (by kernel_rfl) (by kernel_rfl) (by kernel_rfl) (fun _ _ _ h => h) ⟨by rfl, fun w' hE => Or.inr ⟨32, #[.agg #[.int .i64 ty, .slice q es.length cp], .string ⟨#[99, 97, 114, 100]⟩, .int .i64 2], (by first | (go_simp; done) | (go_simp; with_reducible rfl) | rfl), k2.out w' (Ext.trans hE5.drew hE)⟩⟩ ?_
  simp only [Act.put]
  refine grow_take (i := 2) (v := .agg #[.int .i64 ty, .slice q es.length cp]) rfl (by kernel_rfl) (by kernel_rfl) (by kernel_rfl) (fun _ _ _ h => h) ⟨by rfl, fun w' hE => Or.inl (by have y := hE.get (show w5.drew.cell? ⟨w.heap.size, 0, none⟩ = some (.int .i64 ty) from m0); have z := hE.get (show w5.drew.cell? ⟨w.heap.size, 1, none⟩ = some (.slice q es.length cp) from m1); first | (go_simp; done) | (go_simp; with_reducible rfl))⟩ ?_
  simp only [Act.put]
  refine grow_take (i := 3) (v := .agg #[.string ⟨#[109, 101, 114, 99, 104, 97, 110, 116]⟩, .int .i64 2, .int .i64 0, .string s42]) rfl (by kernel_rfl) (by kernel_rfl) (by kernel_rfl) (fun _ _ _ h => h) ⟨by rfl, fun w' hE => Or.inr ⟨32, #[.agg #[.int .i64 ty, .slice q es.length cp], .string ⟨#[109, 101, 114, 99, 104, 97, 110, 116]⟩, .int .i64 42], (by first | (go_simp; done) | (go_simp; with_reducible rfl) | rfl), k42.out w' (Ext.trans hE5.drew hE)⟩⟩ ?_
  simp only [Act.put]
  refine grow_take (i := 4) (v := .agg #[.int .i64 ty, .slice q es.length cp]) rfl (by kernel_rfl) (by kernel_rfl) (by kernel_rfl) (fun _ _ _ h => h) ⟨by rfl, fun w' hE => Or.inl (by have y := hE.get (show w5.drew.cell? ⟨w.heap.size, 0, none⟩ = some (.int .i64 ty) from m0); have z := hE.get (show w5.drew.cell? ⟨w.heap.size, 1, none⟩ = some (.slice q es.length cp) from m1); first | (go_simp; done) | (go_simp; with_reducible rfl))⟩ ?_
  simp only [Act.put]
  refine grow_take (i := 5) (v := .agg #[.string ⟨#[97, 99, 113, 117, 105, 114, 101, 114]⟩, .int .i64 2, .int .i64 0, .string s32]) rfl (by kernel_rfl) (by kernel_rfl) (by kernel_rfl) (fun _ _ _ h => h) ⟨by rfl, fun w' hE => Or.inr ⟨32, #[.agg #[.int .i64 ty, .slice q es.length cp], .string ⟨#[97, 99, 113, 117, 105, 114, 101, 114]⟩, .int .i64 32], (by first | (go_simp; done) | (go_simp; with_reducible rfl) | rfl), k32.out w' (Ext.trans hE5.drew hE)⟩⟩ ?_
  simp only [Act.put]
  refine grow_take (i := 6) (v := .agg #[.int .i64 ty, .slice q es.length cp]) rfl (by kernel_rfl) (by kernel_rfl) (by kernel_rfl) (fun _ _ _ h => h) ⟨by rfl, fun w' hE => Or.inl (by have y := hE.get (show w5.drew.cell? ⟨w.heap.size, 0, none⟩ = some (.int .i64 ty) from m0); have z := hE.get (show w5.drew.cell? ⟨w.heap.size, 1, none⟩ = some (.slice q es.length cp) from m1); first | (go_simp; done) | (go_simp; with_reducible rfl))⟩ ?_
  simp only [Act.put]
  refine grow_take (i := 7) (v := .agg #[.string ⟨#[99, 117, 114, 114, 101, 110, 99, 121]⟩, .int .i64 2, .int .i64 0, .string s49]) rfl (by kernel_rfl) (by kernel_rfl) (by kernel_rfl) (fun _ _ _ h => h) ⟨by rfl, fun w' hE => Or.inr ⟨32, #[.agg #[.int .i64 ty, .slice q es.length cp], .string ⟨#[99, 117, 114, 114, 101, 110, 99, 121]⟩, .int .i64 49], (by first | (go_simp; done) | (go_simp; with_reducible rfl) | rfl), k49.out w' (Ext.trans hE5.drew hE)⟩⟩ ?_
  simp only [Act.put]
  refine grow_take (i := 8) (v := .agg #[.int .i64 ty, .slice q es.length cp]) rfl (by kernel_rfl) (by kernel_rfl) (by kernel_rfl) (fun _ _ _ h => h) ⟨by rfl, fun w' hE => Or.inl (by have y := hE.get (show w5.drew.cell? ⟨w.heap.size, 0, none⟩ = some (.int .i64 ty) from m0); have z := hE.get (show w5.drew.cell? ⟨w.heap.size, 1, none⟩ = some (.slice q es.length cp) from m1); first | (go_simp; done) | (go_simp; with_reducible rfl))⟩ ?_
  simp only [Act.put]
  refine grow_take (i := 9) (v := .agg #[.string ⟨#[116, 101, 114, 109, 105, 110, 97, 108]⟩, .int .i64 2, .int .i64 0, .string s41]) rfl (by kernel_rfl) (by kernel_rfl) (by kernel_rfl) (fun _ _ _ h => h) ⟨by rfl, fun w' hE => Or.inr ⟨32, #[.agg #[.int .i64 ty, .slice q es.length cp], .string ⟨#[116, 101, 114, 109, 105, 110, 97, 108]⟩, .int .i64 41], (by first | (go_simp; done) | (go_simp; with_reducible rfl) | rfl), k41.out w' (Ext.trans hE5.drew hE)⟩⟩ ?_
  simp only [Act.put]
  refine grow_take (i := 10) (v := .agg #[.int .i64 ty, .slice q es.length cp]) rfl (by kernel_rfl) (by kernel_rfl) (by kernel_rfl) (fun _ _ _ h => h) ⟨by rfl, fun w' hE => Or.inl (by have y := hE.get (show w5.drew.cell? ⟨w.heap.size, 0, none⟩ = some (.int .i64 ty) from m0); have z := hE.get (show w5.drew.cell? ⟨w.heap.size, 1, none⟩ = some (.slice q es.length cp) from m1); first | (go_simp; done) | (go_simp; with_reducible rfl))⟩ ?_
  simp only [Act.put]
  refine grow_take (i := 11) (v := .agg #[.string ⟨#[97, 109, 111, 117, 110, 116]⟩, .int .i64 1, .int .i64 n4, .string ⟨#[]⟩]) rfl (by kernel_rfl) (by kernel_rfl) (by kernel_rfl) (fun _ _ _ h => h) ⟨by rfl, fun w' hE => Or.inr ⟨33, #[.agg #[.int .i64 ty, .slice q es.length cp], .string ⟨#[97, 109, 111, 117, 110, 116]⟩, .int .i64 4], (by first | (go_simp; done) | (go_simp; with_reducible rfl) | rfl), k4.out w' (Ext.trans hE5.drew hE)⟩⟩ ?_
  simp only [Act.put]
  refine grow_take (i := 12) (v := .agg #[.int .i64 ty, .slice q es.length cp]) rfl (by kernel_rfl) (by kernel_rfl) (by kernel_rfl) (fun _ _ _ h => h) ⟨by rfl, fun w' hE => Or.inl (by have y := hE.get (show w5.drew.cell? ⟨w.heap.size, 0, none⟩ = some (.int .i64 ty) from m0); have z := hE.get (show w5.drew.cell? ⟨w.heap.size, 1, none⟩ = some (.slice q es.length cp) from m1); first | (go_simp; done) | (go_simp; with_reducible rfl))⟩ ?_
  simp only [Act.put]
  refine grow_take (i := 13) (v := .agg #[.string ⟨#[99, 97, 116, 101, 103, 111, 114, 121]⟩, .int .i64 1, .int .i64 n18, .string ⟨#[]⟩]) rfl (by kernel_rfl) (by kernel_rfl) (by kernel_rfl) (fun _ _ _ h => h) ⟨by rfl, fun w' hE => Or.inr ⟨33, #[.agg #[.int .i64 ty, .slice q es.length cp], .string ⟨#[99, 97, 116, 101, 103, 111, 114, 121]⟩, .int .i64 18], (by first | (go_simp; done) | (go_simp; with_reducible rfl) | rfl), k18.out w' (Ext.trans hE5.drew hE)⟩⟩ ?_
  simp only [Act.put]
  refine grow_take (i := 14) (v := .agg #[.int .i64 ty, .slice q es.length cp]) rfl (by kernel_rfl) (by kernel_rfl) (by kernel_rfl) (fun _ _ _ h => h) ⟨by rfl, fun w' hE => Or.inl (by have y := hE.get (show w5.drew.cell? ⟨w.heap.size, 0, none⟩ = some (.int .i64 ty) from m0); have z := hE.get (show w5.drew.cell? ⟨w.heap.size, 1, none⟩ = some (.slice q es.length cp) from m1); first | (go_simp; done) | (go_simp; with_reducible rfl))⟩ ?_
  simp only [Act.put]
  refine grow_take (i := 15) (v := .agg #[.string ⟨#[115, 101, 110, 116]⟩, .int .i64 1, .int .i64 n7, .string ⟨#[]⟩]) rfl (by kernel_rfl) (by kernel_rfl) (by kernel_rfl) (fun _ _ _ h => h) ⟨by rfl, fun w' hE => Or.inr ⟨33, #[.agg #[.int .i64 ty, .slice q es.length cp], .string ⟨#[115, 101, 110, 116]⟩, .int .i64 7], (by first | (go_simp; done) | (go_simp; with_reducible rfl) | rfl), k7.out w' (Ext.trans hE5.drew hE)⟩⟩ ?_
  simp only [Act.put]
  refine grow_take (i := 16) (v := .agg #[.string ⟨#[116, 111, 107, 101, 110]⟩, .int .i64 3, .int .i64 0, .string ⟨#[]⟩]) rfl (by kernel_rfl) (by kernel_rfl) (by kernel_rfl) (fun _ _ _ h => h) ⟨by rfl, fun w' hE => Or.inl (by have y0 := hE.get (show w5.drew.cell? ⟨B, 0, none⟩ = some (.string ⟨#[116, 111, 107, 101, 110]⟩) from t0); have y1 := hE.get (show w5.drew.cell? ⟨B, 1, none⟩ = some (.int .i64 3) from t1); have y2 := hE.get (show w5.drew.cell? ⟨B, 2, none⟩ = some (.int .i64 0) from t2); have y3 := hE.get (show w5.drew.cell? ⟨B, 3, none⟩ = some (.string ⟨#[]⟩) from t3); first | (go_simp; done) | (go_simp; with_reducible rfl))⟩ ?_
  simp only [Act.put]
  refine grow_one (i := 17) rfl (by kernel_rfl) (by rfl) (fun w6 hE6 => ?_)
  clear m0 m1 t0 t1 t2 t3
  go_simp
  refine ⟨(Ext.refl _).alloc _, ?_⟩
  have bS := Lib.hid (Blk.new w6 #[.string ⟨#[99, 97, 114, 100]⟩, .int .i64 2, .int .i64 0, .string s2, .string ⟨#[109, 101, 114, 99, 104, 97, 110, 116]⟩, .int .i64 2, .int .i64 0, .string s42, .string ⟨#[97, 99, 113, 117, 105, 114, 101, 114]⟩, .int .i64 2, .int .i64 0, .string s32, .string ⟨#[99, 117, 114, 114, 101, 110, 99, 121]⟩, .int .i64 2, .int .i64 0, .string s49, .string ⟨#[116, 101, 114, 109, 105, 110, 97, 108]⟩, .int .i64 2, .int .i64 0, .string s41, .string ⟨#[97, 109, 111, 117, 110, 116]⟩, .int .i64 1, .int .i64 n4, .string ⟨#[]⟩, .string ⟨#[99, 97, 116, 101, 103, 111, 114, 121]⟩, .int .i64 1, .int .i64 n18, .string ⟨#[]⟩, .string ⟨#[115, 101, 110, 116]⟩, .int .i64 1, .int .i64 n7, .string ⟨#[]⟩, .string ⟨#[116, 111, 107, 101, 110]⟩, .int .i64 3, .int .i64 0, .string ⟨#[]⟩] 62)
  have hs1 : w.heap.size ≤ w6.heap.size := Nat.le_trans hE5.size hE6.size
  have hE2 : Ext w (w6.alloc (.cells #[.string ⟨#[99, 97, 114, 100]⟩, .int .i64 2, .int .i64 0, .string s2, .string ⟨#[109, 101, 114, 99, 104, 97, 110, 116]⟩, .int .i64 2, .int .i64 0, .string s42, .string ⟨#[97, 99, 113, 117, 105, 114, 101, 114]⟩, .int .i64 2, .int .i64 0, .string s32, .string ⟨#[99, 117, 114, 114, 101, 110, 99, 121]⟩, .int .i64 2, .int .i64 0, .string s49, .string ⟨#[116, 101, 114, 109, 105, 110, 97, 108]⟩, .int .i64 2, .int .i64 0, .string s41, .string ⟨#[97, 109, 111, 117, 110, 116]⟩, .int .i64 1, .int .i64 n4, .string ⟨#[]⟩, .string ⟨#[99, 97, 116, 101, 103, 111, 114, 121]⟩, .int .i64 1, .int .i64 n18, .string ⟨#[]⟩, .string ⟨#[115, 101, 110, 116]⟩, .int .i64 1, .int .i64 n7, .string ⟨#[]⟩, .string ⟨#[116, 111, 107, 101, 110]⟩, .int .i64 3, .int .i64 0, .string ⟨#[]⟩] 62)) := (Ext.trans (Ext.trans hE5 (Ext.drew (Ext.refl _))) hE6).alloc _
  clear hE5 hE6
  obtain ⟨C, hC⟩ : ∃ C, C = w6.heap.size := ⟨_, rfl⟩
  obtain ⟨w7, hw7⟩ : ∃ w7, w7 = w6.alloc (.cells #[.string ⟨#[99, 97, 114, 100]⟩, .int .i64 2, .int .i64 0, .string s2, .string ⟨#[109, 101, 114, 99, 104, 97, 110, 116]⟩, .int .i64 2, .int .i64 0, .string s42, .string ⟨#[97, 99, 113, 117, 105, 114, 101, 114]⟩, .int .i64 2, .int .i64 0, .string s32, .string ⟨#[99, 117, 114, 114, 101, 110, 99, 121]⟩, .int .i64 2, .int .i64 0, .string s49, .string ⟨#[116, 101, 114, 109, 105, 110, 97, 108]⟩, .int .i64 2, .int .i64 0, .string s41, .string ⟨#[97, 109, 111, 117, 110, 116]⟩, .int .i64 1, .int .i64 n4, .string ⟨#[]⟩, .string ⟨#[99, 97, 116, 101, 103, 111, 114, 121]⟩, .int .i64 1, .int .i64 n18, .string ⟨#[]⟩, .string ⟨#[115, 101, 110, 116]⟩, .int .i64 1, .int .i64 n7, .string ⟨#[]⟩, .string ⟨#[116, 111, 107, 101, 110]⟩, .int .i64 3, .int .i64 0, .string ⟨#[]⟩] 62) := ⟨_, rfl⟩
  rw [← hw7] at bS hE2
  rw [← hC] at bS hs1
  first | rw [← hw7, ← hC] | (simp only [← hw7, ← hC])
  clear hw7 hC
  refine grow_take (i := 18) (v := .slice (some ⟨C, 0, none⟩) 9 9) rfl (by kernel_rfl) (by kernel_rfl) (by kernel_rfl) (fun _ _ _ h => h) ⟨by rfl, fun w' hE => Or.inl (by first | (go_simp; done) | (go_simp; with_reducible rfl) | rfl)⟩ ?_
  simp only [Act.put, List.setIfInBounds_toArray]
  refine grow_end (by kernel_rfl) (fun w8 hE8 => ?_) _
  have hfin2 := Lib.hid (hfin.out C w8 (bS.out.ext hE8) hs1 (hE2.trans hE8))
  go_wp2
  try go_ret
  exact hfin2.out
set_option maxRecDepth 8000 in
set_option maxHeartbeats 4000000 in
theorem rsamef_any (fa fb : Value) (l : List Feat) (w : World) (ha : Feats w fa l) (hb : Feats w fb l) : Calls Tryz.prog 10 #[fa, fb] w (fun e w' => e = .returned (.bool true) ∧ Ext w w') := by
 have hll := ha.1
 obtain ⟨pa, ca, rfl⟩ := ha.form
 obtain ⟨pb, cb, rfl⟩ := hb.form
 replace ha := Lib.hid ha
 replace hb := Lib.hid hb
 have hq : ∀ (f : Feat) (w : World), (binOp .neq 62 (.agg #[.string f.name, .int .i64 f.kind, .int .i64 f.n, .string f.text]) (.agg #[.string f.name, .int .i64 f.kind, .int .i64 f.n, .string f.text])).run Tryz.prog w = .ok (.bool false) w := fun f w => by go_simp
 replace hq := Lib.hid hq
 go_enter Tryz.func10, Tryz.ntmps10
 go_wp2_with fail
 go_loopw [5] (fun i wr => ∃ k : Nat, k ≤ l.length ∧ i = .int .i64 k ∧ Ext w wr) (fun i _ => l.length - (intOf i).toNat)
 case atStart => exact ⟨0, Nat.zero_le _, rfl, Ext.refl _⟩
 case round =>
  obtain ⟨k, hk, rfl, hE⟩ := hrel
  by_cases hlt : k < l.length
  · obtain ⟨ba, oa, rfl, hxa⟩ := ha.out.at (by omega)
    obtain ⟨bb, ob, rfl, hxb⟩ := hb.out.at (by omega)
    obtain ⟨x0, x1, x2, x3⟩ := hxa k hlt
    obtain ⟨y0, y1, y2, y3⟩ := hxb k hlt
    replace x0 := hE.get x0
    replace x1 := hE.get x1
    replace x2 := hE.get x2
    replace x3 := hE.get x3
    replace y0 := hE.get y0
    replace y1 := hE.get y1
    replace y2 := hE.get y2
    replace y3 := hE.get y3
    clear hxa hxb
    have hq2 := hq.out (l.getD k fD)
    generalize l.getD k fD = f at *
    go_wp2_with fail
    go_quiet (fail)
    go_wp2
    go_roundw
    case rel => exact ⟨k + 1, by omega, by go_num, xt⟩
    case measure => simp [intOf]; omega
  · obtain rfl : k = l.length := by omega
    clear hq
    go_wp2
    try go_ret
    exact ⟨rfl, hE⟩
end Go.Proofs.YtangdoidkcelfaaGreatDoor
