/- The walk of the law AssessTotals without rows (printed by gen/h15.py). -/
import Derived.Test.YtmnhmkjmcckneaaGreatDoorHh
import Derived.Test.YtmnhmkjmcckneaaGreatDoorHw
import Derived.Test.YtmnhmkjmcckneaaGreatDoorHo
import Derived.Deep.AppendLies
import Derived.Deep.RegionHeld3
namespace Go.Proofs.YtmnhmkjmcckneaaGreatDoor
open Go.RowKit
/-- The first k rows are small. -/
def Q4N (l : List Q4D) (k : Nat) : Prop := ∀ j, j < k → Q4Ok (l.getD j q4D)
theorem q4n_all {l : List Q4D} (h : Q4N l l.length) : ∀ q ∈ l, Q4Ok q := fun q hq => by
 obtain ⟨j, hj, rfl⟩ := List.mem_iff_getElem.1 hq
 have := h j hj
 rw [List.getD_eq_getElem?_getD, List.getElem?_eq_getElem hj, Option.getD_some] at this
 exact this
theorem q4n_snoc {l : List Q4D} {k : Nat} (h : Q4N l k) (hk : Q4Ok (l.getD k q4D)) : Q4N l (k + 1) := fun j hj => by
 by_cases e : j = k
 · rw [e]; exact hk
 · exact h j (by omega)
theorem blk_drewT {w : World} {B : Nat} {cs : Array Value} {T : TypeId} (h : Blk w B cs T) : Blk w.drew B cs T := h
theorem resQ_take {l : List Q4D} {k : Nat} (h : k < l.length) : (l.take (k + 1)).map resQ = (l.take k).map resQ ++ [resQ (l.getD k q4D)] := by
 rw [List.take_add_one, List.getD_eq_getElem?_getD, List.getElem?_eq_getElem h, List.map_append]
 rfl
theorem tmod_nat {c : Int} {n : Nat} (h : 0 ≤ c) : c.tmod ((n : Int) + 1) = ((c.toNat % (n + 1) : Nat) : Int) := by
 obtain ⟨k, rfl⟩ := Int.eq_ofNat_of_zero_le h
 rw [Int.toNat_natCast, Int.ofNat_tmod]
 rfl
theorem sums_at (v : Value) (l : List ResD) (w : World) (h : ResM w v l) {f : Nat → Int} (e : sumsV l = (sumR f, 0)) : Calls Tryz.prog 23 #[v] w fun e w' => e = .returned (.tuple #[.agg #[.string ⟨#[115, 117, 109]⟩, .int .i64 (f 5), .string ⟨#[]⟩, .string ⟨#[115, 117, 109]⟩, .int .i64 (f 6), .string ⟨#[]⟩, .string ⟨#[115, 117, 109]⟩, .int .i64 (f 7), .string ⟨#[]⟩, .int .i64 (f 0), .int .i64 (f 1), .int .i64 (f 2), .int .i64 (f 3), .int .i64 (f 4)], .int .i64 0]) ∧ Ext w w' := by
 have k := sums_any v l w h
 rw [e] at k
 exact k
theorem res_two {w : World} {B : Nat} {x y : ResD} {T : TypeId} (h : Blk w B (resCells x ++ resCells y).toArray T) : ResM w (.slice (some ⟨B, 0, none⟩) 2 2) [x, y] := by
 refine ⟨by simp, Or.inr ⟨B, 0, 2, rfl, fun i hi => ?_⟩⟩
 have hi : i < 2 := hi
 match i, hi with
 | 0, _ => exact ⟨(h.cell 0).trans rfl, (h.cell 1).trans rfl, (h.cell 2).trans rfl, (h.cell 3).trans rfl, (h.cell 4).trans rfl, (h.cell 5).trans rfl, (h.cell 6).trans rfl, (h.cell 7).trans rfl, (h.cell 8).trans rfl, (h.cell 9).trans rfl, (h.cell 10).trans rfl, (h.cell 11).trans rfl, (h.cell 12).trans rfl, (h.cell 13).trans rfl⟩
 | 1, _ => exact ⟨(h.cell 14).trans rfl, (h.cell 15).trans rfl, (h.cell 16).trans rfl, (h.cell 17).trans rfl, (h.cell 18).trans rfl, (h.cell 19).trans rfl, (h.cell 20).trans rfl, (h.cell 21).trans rfl, (h.cell 22).trans rfl, (h.cell 23).trans rfl, (h.cell 24).trans rfl, (h.cell 25).trans rfl, (h.cell 26).trans rfl, (h.cell 27).trans rfl⟩

set_option maxRecDepth 8000 in
set_option maxHeartbeats 8000000 in
theorem law_totals_nil (lp : Option Addr) (lc : Nat) (cut : Int) (w : World) (g : Gw w) (hc0 : 0 ≤ cut) (hc1 : cut ≤ 255) : Calls Tryz.prog 7 #[.slice lp 0 lc, .int .u8 cut] w (OneV (.bool true) w) := by
 have kW := Lib.hid (fun w1 (h : Ext w w1) => awake38_any w1 (g.ext h))
 have hsm : Small [] := fun y hy => absurd hy (by simp)
 have f1 := sums_ok hsm (by simp)
 have f2 := f1
 have f5 := sums_two hsm (by simp) 0
 have f6 := bal_resQ (l := []) (fun y hy => absurd hy (by simp)) (by simp)
 have f7 := (zero_resQ []).2
 simp only [List.map_nil, List.take_nil, List.drop_nil] at f5 f6 f7
 have fp := f1
 have fq := f1
 have fz := f5
 clear hsm f5
 generalize tot [] = S at *
 replace f7 := Lib.hid f7
 have hM0 := Lib.hid (fun (w2 : World) => show ResM w2 (.slice none 0 0) [] from ⟨by simp, Or.inl ⟨none, 0, rfl, rfl⟩⟩)
 go_enter Tryz.func7, Tryz.ntmps7
 go_wp2_with fail
 go_loopw [5, 7] (fun v i wr => v = .slice none 0 0 ∧ i = .int .i64 0 ∧ Ext w wr) (fun _ _ _ => 0)
 case atStart => exact ⟨rfl, rfl, Ext.refl _⟩
 case round =>
  obtain ⟨hv1, hi1, hE⟩ := hrel
  subst hv1 hi1
  rename World => w1
  go_wp2_with fail
  go_loopw [6, 9] (fun v i wr => v = .slice none 0 0 ∧ i = .int .i64 (-1) ∧ Ext w1 wr) (fun _ i _ => (intOf i + 1).toNat)
  case atStart => exact ⟨rfl, by go_num, Ext.refl _⟩
  case round =>
   obtain ⟨hv, hiv, hEr⟩ := hrel
   subst hv hiv
   have hE2 := hE.trans hEr
   go_wp2_with fail
   refine (sums_at _ [] wr (hM0.out _) f1).mono ?_
   rintro e w2 ⟨rfl, hE3⟩
   have hE4 : Ext wr (w2.alloc (.cells #[.string ⟨#[115, 117, 109]⟩, .int .i64 (S 5), .string ⟨#[]⟩, .string ⟨#[115, 117, 109]⟩, .int .i64 (S 6), .string ⟨#[]⟩, .string ⟨#[115, 117, 109]⟩, .int .i64 (S 7), .string ⟨#[]⟩, .int .i64 (S 0), .int .i64 (S 1), .int .i64 (S 2), .int .i64 (S 3), .int .i64 (S 4)] 35)) := hE3.alloc _
   have bX := Lib.hid (Blk.new w2 #[.string ⟨#[115, 117, 109]⟩, .int .i64 (S 5), .string ⟨#[]⟩, .string ⟨#[115, 117, 109]⟩, .int .i64 (S 6), .string ⟨#[]⟩, .string ⟨#[115, 117, 109]⟩, .int .i64 (S 7), .string ⟨#[]⟩, .int .i64 (S 0), .int .i64 (S 1), .int .i64 (S 2), .int .i64 (S 3), .int .i64 (S 4)] 35)
   go_wp2_with fail
   refine (sums_at _ [] _ (hM0.out _) f2).mono ?_
   rintro e w3 ⟨rfl, hE5⟩
   replace bX := Lib.hid (bX.out.ext hE5)
   replace hE4 := hE4.trans hE5
   clear hE5 hE3
   obtain ⟨BX, hBX⟩ : ∃ BX, BX = w2.heap.size := ⟨_, rfl⟩
   rw [← hBX] at bX ⊢
   clear hBX
   go_wp2_with fail
   have hE5 : Ext wr (w3.alloc (.cells #[.string ⟨#[115, 117, 109]⟩, .int .i64 (S 5), .string ⟨#[]⟩, .string ⟨#[115, 117, 109]⟩, .int .i64 (S 6), .string ⟨#[]⟩, .string ⟨#[115, 117, 109]⟩, .int .i64 (S 7), .string ⟨#[]⟩, .int .i64 (S 0), .int .i64 (S 1), .int .i64 (S 2), .int .i64 (S 3), .int .i64 (S 4)] 35)) := hE4.alloc _
   refine (sums_at _ [] _ (hM0.out _) fp).mono ?_
   rintro e w4 ⟨rfl, hE6⟩
   have bY := Lib.hid ((Blk.new w3 #[.string ⟨#[115, 117, 109]⟩, .int .i64 (S 5), .string ⟨#[]⟩, .string ⟨#[115, 117, 109]⟩, .int .i64 (S 6), .string ⟨#[]⟩, .string ⟨#[115, 117, 109]⟩, .int .i64 (S 7), .string ⟨#[]⟩, .int .i64 (S 0), .int .i64 (S 1), .int .i64 (S 2), .int .i64 (S 3), .int .i64 (S 4)] 35).ext hE6)
   replace bX := Lib.hid ((bX.out.alloc (.cells #[.string ⟨#[115, 117, 109]⟩, .int .i64 (S 5), .string ⟨#[]⟩, .string ⟨#[115, 117, 109]⟩, .int .i64 (S 6), .string ⟨#[]⟩, .string ⟨#[115, 117, 109]⟩, .int .i64 (S 7), .string ⟨#[]⟩, .int .i64 (S 0), .int .i64 (S 1), .int .i64 (S 2), .int .i64 (S 3), .int .i64 (S 4)] 35)).ext hE6)
   replace hE4 := hE5.trans hE6
   clear hE5 hE6
   obtain ⟨BY, hBY⟩ : ∃ BY, BY = w3.heap.size := ⟨_, rfl⟩
   rw [← hBY] at bY ⊢
   clear hBY
   go_wp2_with fail
   have hE5 : Ext wr (w4.alloc (.cells #[.string ⟨#[115, 117, 109]⟩, .int .i64 (S 5), .string ⟨#[]⟩, .string ⟨#[115, 117, 109]⟩, .int .i64 (S 6), .string ⟨#[]⟩, .string ⟨#[115, 117, 109]⟩, .int .i64 (S 7), .string ⟨#[]⟩, .int .i64 (S 0), .int .i64 (S 1), .int .i64 (S 2), .int .i64 (S 3), .int .i64 (S 4)] 35)) := hE4.alloc _
   refine (sums_at _ [] _ (hM0.out _) fq).mono ?_
   rintro e w5 ⟨rfl, hE6⟩
   have bP := Lib.hid ((Blk.new w4 #[.string ⟨#[115, 117, 109]⟩, .int .i64 (S 5), .string ⟨#[]⟩, .string ⟨#[115, 117, 109]⟩, .int .i64 (S 6), .string ⟨#[]⟩, .string ⟨#[115, 117, 109]⟩, .int .i64 (S 7), .string ⟨#[]⟩, .int .i64 (S 0), .int .i64 (S 1), .int .i64 (S 2), .int .i64 (S 3), .int .i64 (S 4)] 35).ext hE6)
   replace bX := Lib.hid ((bX.out.alloc (.cells #[.string ⟨#[115, 117, 109]⟩, .int .i64 (S 5), .string ⟨#[]⟩, .string ⟨#[115, 117, 109]⟩, .int .i64 (S 6), .string ⟨#[]⟩, .string ⟨#[115, 117, 109]⟩, .int .i64 (S 7), .string ⟨#[]⟩, .int .i64 (S 0), .int .i64 (S 1), .int .i64 (S 2), .int .i64 (S 3), .int .i64 (S 4)] 35)).ext hE6)
   replace bY := Lib.hid ((bY.out.alloc (.cells #[.string ⟨#[115, 117, 109]⟩, .int .i64 (S 5), .string ⟨#[]⟩, .string ⟨#[115, 117, 109]⟩, .int .i64 (S 6), .string ⟨#[]⟩, .string ⟨#[115, 117, 109]⟩, .int .i64 (S 7), .string ⟨#[]⟩, .int .i64 (S 0), .int .i64 (S 1), .int .i64 (S 2), .int .i64 (S 3), .int .i64 (S 4)] 35)).ext hE6)
   replace hE4 := hE5.trans hE6
   clear hE5 hE6 hM0
   obtain ⟨BP, hBP⟩ : ∃ BP, BP = w4.heap.size := ⟨_, rfl⟩
   rw [← hBP] at bP ⊢
   clear hBP
   have ps := bP.out.lt
   have p0 : w5.cell? ⟨BP, 0, none⟩ = some (.string ⟨#[115, 117, 109]⟩) := (bP.out.cell 0).trans rfl
   have p1 : w5.cell? ⟨BP, 1, none⟩ = some (.int .i64 (S 5)) := (bP.out.cell 1).trans rfl
   have p2 : w5.cell? ⟨BP, 2, none⟩ = some (.string ⟨#[]⟩) := (bP.out.cell 2).trans rfl
   have p3 : w5.cell? ⟨BP, 3, none⟩ = some (.string ⟨#[115, 117, 109]⟩) := (bP.out.cell 3).trans rfl
   have p4 : w5.cell? ⟨BP, 4, none⟩ = some (.int .i64 (S 6)) := (bP.out.cell 4).trans rfl
   have p5 : w5.cell? ⟨BP, 5, none⟩ = some (.string ⟨#[]⟩) := (bP.out.cell 5).trans rfl
   have p6 : w5.cell? ⟨BP, 6, none⟩ = some (.string ⟨#[115, 117, 109]⟩) := (bP.out.cell 6).trans rfl
   have p7 : w5.cell? ⟨BP, 7, none⟩ = some (.int .i64 (S 7)) := (bP.out.cell 7).trans rfl
   have p8 : w5.cell? ⟨BP, 8, none⟩ = some (.string ⟨#[]⟩) := (bP.out.cell 8).trans rfl
   have p9 : w5.cell? ⟨BP, 9, none⟩ = some (.int .i64 (S 0)) := (bP.out.cell 9).trans rfl
   have p10 : w5.cell? ⟨BP, 10, none⟩ = some (.int .i64 (S 1)) := (bP.out.cell 10).trans rfl
   have p11 : w5.cell? ⟨BP, 11, none⟩ = some (.int .i64 (S 2)) := (bP.out.cell 11).trans rfl
   have p12 : w5.cell? ⟨BP, 12, none⟩ = some (.int .i64 (S 3)) := (bP.out.cell 12).trans rfl
   have p13 : w5.cell? ⟨BP, 13, none⟩ = some (.int .i64 (S 4)) := (bP.out.cell 13).trans rfl
   go_wp2_with fail
   have hQ2 : Blk ((w5.alloc (.cells #[.string ⟨#[115, 117, 109]⟩, .int .i64 (S 5), .string ⟨#[]⟩, .string ⟨#[115, 117, 109]⟩, .int .i64 (S 6), .string ⟨#[]⟩, .string ⟨#[115, 117, 109]⟩, .int .i64 (S 7), .string ⟨#[]⟩, .int .i64 (S 0), .int .i64 (S 1), .int .i64 (S 2), .int .i64 (S 3), .int .i64 (S 4)] 35)).alloc (.cells (resCells (sumR S) ++ resCells (sumR S)).toArray 35)) (w5.heap.size + 1) (resCells (sumR S) ++ resCells (sumR S)).toArray 35 := Blk.new' _ _ _ _ (by simp)
   refine (sums_at _ [sumR S, sumR S] _ (res_two hQ2) fz).mono ?_
   rintro e w6 ⟨rfl, hE6⟩
   clear p0 p1 p2 p3 p4 p5 p6 p7 p8 p9 p10 p11 p12 p13 ps hQ2 bP
   have hE7 : Ext w5 w6 := (((Ext.refl w5).alloc (.cells #[.string ⟨#[115, 117, 109]⟩, .int .i64 (S 5), .string ⟨#[]⟩, .string ⟨#[115, 117, 109]⟩, .int .i64 (S 6), .string ⟨#[]⟩, .string ⟨#[115, 117, 109]⟩, .int .i64 (S 7), .string ⟨#[]⟩, .int .i64 (S 0), .int .i64 (S 1), .int .i64 (S 2), .int .i64 (S 3), .int .i64 (S 4)] 35)).alloc (.cells (resCells (sumR S) ++ resCells (sumR S)).toArray 35)).trans hE6
   replace bX := Lib.hid (bX.out.ext hE7)
   replace bY := Lib.hid (bY.out.ext hE7)
   replace hE4 := hE4.trans hE7
   clear hE6 hE7
   have xs := bX.out.lt
   have ys1 := bY.out.lt
   have x0 : w6.cell? ⟨BX, 0, none⟩ = some (.string ⟨#[115, 117, 109]⟩) := (bX.out.cell 0).trans rfl
   have x1 : w6.cell? ⟨BX, 1, none⟩ = some (.int .i64 (S 5)) := (bX.out.cell 1).trans rfl
   have x2 : w6.cell? ⟨BX, 2, none⟩ = some (.string ⟨#[]⟩) := (bX.out.cell 2).trans rfl
   have x3 : w6.cell? ⟨BX, 3, none⟩ = some (.string ⟨#[115, 117, 109]⟩) := (bX.out.cell 3).trans rfl
   have x4 : w6.cell? ⟨BX, 4, none⟩ = some (.int .i64 (S 6)) := (bX.out.cell 4).trans rfl
   have x5 : w6.cell? ⟨BX, 5, none⟩ = some (.string ⟨#[]⟩) := (bX.out.cell 5).trans rfl
   have x6 : w6.cell? ⟨BX, 6, none⟩ = some (.string ⟨#[115, 117, 109]⟩) := (bX.out.cell 6).trans rfl
   have x7 : w6.cell? ⟨BX, 7, none⟩ = some (.int .i64 (S 7)) := (bX.out.cell 7).trans rfl
   have x8 : w6.cell? ⟨BX, 8, none⟩ = some (.string ⟨#[]⟩) := (bX.out.cell 8).trans rfl
   have x9 : w6.cell? ⟨BX, 9, none⟩ = some (.int .i64 (S 0)) := (bX.out.cell 9).trans rfl
   have x10 : w6.cell? ⟨BX, 10, none⟩ = some (.int .i64 (S 1)) := (bX.out.cell 10).trans rfl
   have x11 : w6.cell? ⟨BX, 11, none⟩ = some (.int .i64 (S 2)) := (bX.out.cell 11).trans rfl
   have x12 : w6.cell? ⟨BX, 12, none⟩ = some (.int .i64 (S 3)) := (bX.out.cell 12).trans rfl
   have x13 : w6.cell? ⟨BX, 13, none⟩ = some (.int .i64 (S 4)) := (bX.out.cell 13).trans rfl
   have y0 : w6.cell? ⟨BY, 0, none⟩ = some (.string ⟨#[115, 117, 109]⟩) := (bY.out.cell 0).trans rfl
   have y1 : w6.cell? ⟨BY, 1, none⟩ = some (.int .i64 (S 5)) := (bY.out.cell 1).trans rfl
   have y2 : w6.cell? ⟨BY, 2, none⟩ = some (.string ⟨#[]⟩) := (bY.out.cell 2).trans rfl
   have y3 : w6.cell? ⟨BY, 3, none⟩ = some (.string ⟨#[115, 117, 109]⟩) := (bY.out.cell 3).trans rfl
   have y4 : w6.cell? ⟨BY, 4, none⟩ = some (.int .i64 (S 6)) := (bY.out.cell 4).trans rfl
   have y5 : w6.cell? ⟨BY, 5, none⟩ = some (.string ⟨#[]⟩) := (bY.out.cell 5).trans rfl
   have y6 : w6.cell? ⟨BY, 6, none⟩ = some (.string ⟨#[115, 117, 109]⟩) := (bY.out.cell 6).trans rfl
   have y7 : w6.cell? ⟨BY, 7, none⟩ = some (.int .i64 (S 7)) := (bY.out.cell 7).trans rfl
   have y8 : w6.cell? ⟨BY, 8, none⟩ = some (.string ⟨#[]⟩) := (bY.out.cell 8).trans rfl
   have y9 : w6.cell? ⟨BY, 9, none⟩ = some (.int .i64 (S 0)) := (bY.out.cell 9).trans rfl
   have y10 : w6.cell? ⟨BY, 10, none⟩ = some (.int .i64 (S 1)) := (bY.out.cell 10).trans rfl
   have y11 : w6.cell? ⟨BY, 11, none⟩ = some (.int .i64 (S 2)) := (bY.out.cell 11).trans rfl
   have y12 : w6.cell? ⟨BY, 12, none⟩ = some (.int .i64 (S 3)) := (bY.out.cell 12).trans rfl
   have y13 : w6.cell? ⟨BY, 13, none⟩ = some (.int .i64 (S 4)) := (bY.out.cell 13).trans rfl
   go_wp2_with fail
   have hE5 : Ext wr (w6.alloc (.cells #[.string ⟨#[115, 117, 109]⟩, .int .i64 (S 5), .string ⟨#[]⟩, .string ⟨#[115, 117, 109]⟩, .int .i64 (S 6), .string ⟨#[]⟩, .string ⟨#[115, 117, 109]⟩, .int .i64 (S 7), .string ⟨#[]⟩, .int .i64 (S 0), .int .i64 (S 1), .int .i64 (S 2), .int .i64 (S 3), .int .i64 (S 4)] 35)) := hE4.alloc _
   refine (bal_at (sumR S) _ f6).mono ?_
   rintro e w7 ⟨rfl, hE6⟩
   replace bX := Lib.hid ((bX.out.alloc (.cells #[.string ⟨#[115, 117, 109]⟩, .int .i64 (S 5), .string ⟨#[]⟩, .string ⟨#[115, 117, 109]⟩, .int .i64 (S 6), .string ⟨#[]⟩, .string ⟨#[115, 117, 109]⟩, .int .i64 (S 7), .string ⟨#[]⟩, .int .i64 (S 0), .int .i64 (S 1), .int .i64 (S 2), .int .i64 (S 3), .int .i64 (S 4)] 35)).ext hE6)
   replace hE4 := hE5.trans hE6
   clear hE5 hE6 bY x0 y0 x1 y1 x2 y2 x3 y3 x4 y4 x5 y5 x6 y6 x7 y7 x8 y8 x9 y9 x10 y10 x11 y11 x12 y12 x13 y13 xs ys1
   have x0 : w7.cell? ⟨BX, 0, none⟩ = some (.string ⟨#[115, 117, 109]⟩) := (bX.out.cell 0).trans rfl
   have x1 : w7.cell? ⟨BX, 1, none⟩ = some (.int .i64 (S 5)) := (bX.out.cell 1).trans rfl
   have x2 : w7.cell? ⟨BX, 2, none⟩ = some (.string ⟨#[]⟩) := (bX.out.cell 2).trans rfl
   have x3 : w7.cell? ⟨BX, 3, none⟩ = some (.string ⟨#[115, 117, 109]⟩) := (bX.out.cell 3).trans rfl
   have x4 : w7.cell? ⟨BX, 4, none⟩ = some (.int .i64 (S 6)) := (bX.out.cell 4).trans rfl
   have x5 : w7.cell? ⟨BX, 5, none⟩ = some (.string ⟨#[]⟩) := (bX.out.cell 5).trans rfl
   have x6 : w7.cell? ⟨BX, 6, none⟩ = some (.string ⟨#[115, 117, 109]⟩) := (bX.out.cell 6).trans rfl
   have x7 : w7.cell? ⟨BX, 7, none⟩ = some (.int .i64 (S 7)) := (bX.out.cell 7).trans rfl
   have x8 : w7.cell? ⟨BX, 8, none⟩ = some (.string ⟨#[]⟩) := (bX.out.cell 8).trans rfl
   have x9 : w7.cell? ⟨BX, 9, none⟩ = some (.int .i64 (S 0)) := (bX.out.cell 9).trans rfl
   have x10 : w7.cell? ⟨BX, 10, none⟩ = some (.int .i64 (S 1)) := (bX.out.cell 10).trans rfl
   have x11 : w7.cell? ⟨BX, 11, none⟩ = some (.int .i64 (S 2)) := (bX.out.cell 11).trans rfl
   have x12 : w7.cell? ⟨BX, 12, none⟩ = some (.int .i64 (S 3)) := (bX.out.cell 12).trans rfl
   have x13 : w7.cell? ⟨BX, 13, none⟩ = some (.int .i64 (S 4)) := (bX.out.cell 13).trans rfl
   have d6 : (S 6 == 0) = true := by rw [f7.out]; rfl
   go_wp2_with fail
   have hE8 := hE2.trans hE4
   refine (kW.out _ hE8).mono ?_
   rintro e w9 ⟨rfl, hE9⟩
   have hE10 := hE8.trans hE9
   clear hE9
   go_wp2
   go_ret
   exact ⟨rfl, hE10⟩
end Go.Proofs.YtmnhmkjmcckneaaGreatDoor
