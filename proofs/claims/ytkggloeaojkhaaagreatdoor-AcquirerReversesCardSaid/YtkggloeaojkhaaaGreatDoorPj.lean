/- Contracts of acquirer's Purchase.check, Host.Sale, Host.Next (walks; printed by gen/h79.py). -/
import Derived.Test.YtkggloeaojkhaaaGreatDoorPi
namespace Go.Proofs.YtkggloeaojkhaaaGreatDoor
open Go.RowKit
/-- The error of a purchase. -/
def chkP (p : PurD) : Int :=
 if idnS p.mer = false ∨ trmS p.ter = false then 5 else if crdS p.car = false then 17 else if p.amt < 1 ∨ 999999999999 < p.amt ∨ p.least < 0 ∨ p.amt < p.least then 4 else if p.cat < 1 ∨ 9999 < p.cat then 4 else if curS p.cur = false then 11 else 0
set_option maxRecDepth 8000 in
set_option maxHeartbeats 8000000 in
theorem pcheck_any (p : PurD) (w : World) : Calls Tryz.prog 22 #[purAgg p] w (OneQ (.int .i64 (chkP p)) w) := by
 have kI := Lib.hid (fun s w1 => idn_any s w1)
 have kT := Lib.hid (fun s w1 => trm_any s w1)
 have kC := Lib.hid (fun s w1 => crd_any s w1)
 have kU := Lib.hid (fun s w1 => cur_any s w1)
 have hb := Lib.hid (Blk.new w (purCells p).toArray 33)
 unfold purAgg
 unfold purCells at hb
 by_cases c0 : idnS p.mer = false
 · have e : chkP p = 5 := by unfold chkP; rw [if_pos (by first | exact Or.inl c0 | exact Or.inr c1)]
   rw [e]
   clear e
   have r0 : idnS p.mer = false := c0
   clear c0
   go_enter Tryz.func22, Tryz.ntmps22
   go_wp2_with fail
   refine (kI.out _ _).mono ?_
   rintro e w1 ⟨rfl, hE1⟩
   have hE := Ext.trans (Ext.alloc (Ext.refl w) _) hE1
   replace hb := Lib.hid (hb.out.ext hE1)
   have y0 : w1.cell? ⟨w.heap.size, 0, none⟩ = some (.string p.mer) := (hb.out.cell 0).trans rfl
   have y1 : w1.cell? ⟨w.heap.size, 1, none⟩ = some (.string p.ter) := (hb.out.cell 1).trans rfl
   have y2 : w1.cell? ⟨w.heap.size, 2, none⟩ = some (.string p.car) := (hb.out.cell 2).trans rfl
   have y3 : w1.cell? ⟨w.heap.size, 3, none⟩ = some (.int .i64 p.amt) := (hb.out.cell 3).trans rfl
   have y4 : w1.cell? ⟨w.heap.size, 4, none⟩ = some (.int .i64 p.least) := (hb.out.cell 4).trans rfl
   have y5 : w1.cell? ⟨w.heap.size, 5, none⟩ = some (.string p.cur) := (hb.out.cell 5).trans rfl
   have y6 : w1.cell? ⟨w.heap.size, 6, none⟩ = some (.int .i64 p.cat) := (hb.out.cell 6).trans rfl
   clear hE1
   rw [r0]
   go_wp2
   try go_ret
   exact ⟨rfl, hE⟩
 by_cases c1 : trmS p.ter = false
 · have e : chkP p = 5 := by unfold chkP; rw [if_pos (by first | exact Or.inl c0 | exact Or.inr c1)]
   rw [e]
   clear e
   have r0 : idnS p.mer = true := by simpa using c0
   have r1 : trmS p.ter = false := c1
   clear c0
   clear c1
   go_enter Tryz.func22, Tryz.ntmps22
   go_wp2_with fail
   refine (kI.out _ _).mono ?_
   rintro e w1 ⟨rfl, hE1⟩
   have hE := Ext.trans (Ext.alloc (Ext.refl w) _) hE1
   replace hb := Lib.hid (hb.out.ext hE1)
   have y0 : w1.cell? ⟨w.heap.size, 0, none⟩ = some (.string p.mer) := (hb.out.cell 0).trans rfl
   have y1 : w1.cell? ⟨w.heap.size, 1, none⟩ = some (.string p.ter) := (hb.out.cell 1).trans rfl
   have y2 : w1.cell? ⟨w.heap.size, 2, none⟩ = some (.string p.car) := (hb.out.cell 2).trans rfl
   have y3 : w1.cell? ⟨w.heap.size, 3, none⟩ = some (.int .i64 p.amt) := (hb.out.cell 3).trans rfl
   have y4 : w1.cell? ⟨w.heap.size, 4, none⟩ = some (.int .i64 p.least) := (hb.out.cell 4).trans rfl
   have y5 : w1.cell? ⟨w.heap.size, 5, none⟩ = some (.string p.cur) := (hb.out.cell 5).trans rfl
   have y6 : w1.cell? ⟨w.heap.size, 6, none⟩ = some (.int .i64 p.cat) := (hb.out.cell 6).trans rfl
   clear hE1
   rw [r0]
   go_wp2_with fail
   refine (kT.out _ _).mono ?_
   rintro e w2 ⟨rfl, hE2⟩
   replace hE := hE.trans hE2
   replace hb := Lib.hid (hb.out.ext hE2)
   replace y0 : w2.cell? ⟨w.heap.size, 0, none⟩ = some (.string p.mer) := (hb.out.cell 0).trans rfl
   replace y1 : w2.cell? ⟨w.heap.size, 1, none⟩ = some (.string p.ter) := (hb.out.cell 1).trans rfl
   replace y2 : w2.cell? ⟨w.heap.size, 2, none⟩ = some (.string p.car) := (hb.out.cell 2).trans rfl
   replace y3 : w2.cell? ⟨w.heap.size, 3, none⟩ = some (.int .i64 p.amt) := (hb.out.cell 3).trans rfl
   replace y4 : w2.cell? ⟨w.heap.size, 4, none⟩ = some (.int .i64 p.least) := (hb.out.cell 4).trans rfl
   replace y5 : w2.cell? ⟨w.heap.size, 5, none⟩ = some (.string p.cur) := (hb.out.cell 5).trans rfl
   replace y6 : w2.cell? ⟨w.heap.size, 6, none⟩ = some (.int .i64 p.cat) := (hb.out.cell 6).trans rfl
   clear hE2
   rw [r1]
   go_wp2
   try go_ret
   exact ⟨rfl, hE⟩
 by_cases c2 : crdS p.car = false
 · have e : chkP p = 17 := by unfold chkP; rw [if_neg (by rintro (h | h); exact c0 h; exact c1 h)]; rw [if_pos c2]
   rw [e]
   clear e
   have r0 : idnS p.mer = true := by simpa using c0
   have r1 : trmS p.ter = true := by simpa using c1
   have r2 : crdS p.car = false := c2
   clear c0
   clear c1
   clear c2
   go_enter Tryz.func22, Tryz.ntmps22
   go_wp2_with fail
   refine (kI.out _ _).mono ?_
   rintro e w1 ⟨rfl, hE1⟩
   have hE := Ext.trans (Ext.alloc (Ext.refl w) _) hE1
   replace hb := Lib.hid (hb.out.ext hE1)
   have y0 : w1.cell? ⟨w.heap.size, 0, none⟩ = some (.string p.mer) := (hb.out.cell 0).trans rfl
   have y1 : w1.cell? ⟨w.heap.size, 1, none⟩ = some (.string p.ter) := (hb.out.cell 1).trans rfl
   have y2 : w1.cell? ⟨w.heap.size, 2, none⟩ = some (.string p.car) := (hb.out.cell 2).trans rfl
   have y3 : w1.cell? ⟨w.heap.size, 3, none⟩ = some (.int .i64 p.amt) := (hb.out.cell 3).trans rfl
   have y4 : w1.cell? ⟨w.heap.size, 4, none⟩ = some (.int .i64 p.least) := (hb.out.cell 4).trans rfl
   have y5 : w1.cell? ⟨w.heap.size, 5, none⟩ = some (.string p.cur) := (hb.out.cell 5).trans rfl
   have y6 : w1.cell? ⟨w.heap.size, 6, none⟩ = some (.int .i64 p.cat) := (hb.out.cell 6).trans rfl
   clear hE1
   rw [r0]
   go_wp2_with fail
   refine (kT.out _ _).mono ?_
   rintro e w2 ⟨rfl, hE2⟩
   replace hE := hE.trans hE2
   replace hb := Lib.hid (hb.out.ext hE2)
   replace y0 : w2.cell? ⟨w.heap.size, 0, none⟩ = some (.string p.mer) := (hb.out.cell 0).trans rfl
   replace y1 : w2.cell? ⟨w.heap.size, 1, none⟩ = some (.string p.ter) := (hb.out.cell 1).trans rfl
   replace y2 : w2.cell? ⟨w.heap.size, 2, none⟩ = some (.string p.car) := (hb.out.cell 2).trans rfl
   replace y3 : w2.cell? ⟨w.heap.size, 3, none⟩ = some (.int .i64 p.amt) := (hb.out.cell 3).trans rfl
   replace y4 : w2.cell? ⟨w.heap.size, 4, none⟩ = some (.int .i64 p.least) := (hb.out.cell 4).trans rfl
   replace y5 : w2.cell? ⟨w.heap.size, 5, none⟩ = some (.string p.cur) := (hb.out.cell 5).trans rfl
   replace y6 : w2.cell? ⟨w.heap.size, 6, none⟩ = some (.int .i64 p.cat) := (hb.out.cell 6).trans rfl
   clear hE2
   rw [r1]
   go_wp2_with fail
   refine (kC.out _ _).mono ?_
   rintro e w3 ⟨rfl, hE3⟩
   replace hE := hE.trans hE3
   replace hb := Lib.hid (hb.out.ext hE3)
   replace y0 : w3.cell? ⟨w.heap.size, 0, none⟩ = some (.string p.mer) := (hb.out.cell 0).trans rfl
   replace y1 : w3.cell? ⟨w.heap.size, 1, none⟩ = some (.string p.ter) := (hb.out.cell 1).trans rfl
   replace y2 : w3.cell? ⟨w.heap.size, 2, none⟩ = some (.string p.car) := (hb.out.cell 2).trans rfl
   replace y3 : w3.cell? ⟨w.heap.size, 3, none⟩ = some (.int .i64 p.amt) := (hb.out.cell 3).trans rfl
   replace y4 : w3.cell? ⟨w.heap.size, 4, none⟩ = some (.int .i64 p.least) := (hb.out.cell 4).trans rfl
   replace y5 : w3.cell? ⟨w.heap.size, 5, none⟩ = some (.string p.cur) := (hb.out.cell 5).trans rfl
   replace y6 : w3.cell? ⟨w.heap.size, 6, none⟩ = some (.int .i64 p.cat) := (hb.out.cell 6).trans rfl
   clear hE3
   rw [r2]
   go_wp2
   try go_ret
   exact ⟨rfl, hE⟩
 by_cases c3 : p.amt < 1
 · have e : chkP p = 4 := by unfold chkP; rw [if_neg (by rintro (h | h); exact c0 h; exact c1 h)]; rw [if_neg c2]; rw [if_pos (by omega)]
   rw [e]
   clear e
   have r0 : idnS p.mer = true := by simpa using c0
   have r1 : trmS p.ter = true := by simpa using c1
   have r2 : crdS p.car = true := by simpa using c2
   have q3 : decide (p.amt < 1) = true := decide_eq_true c3
   clear c0
   clear c1
   clear c2
   clear c3
   go_enter Tryz.func22, Tryz.ntmps22
   go_wp2_with fail
   refine (kI.out _ _).mono ?_
   rintro e w1 ⟨rfl, hE1⟩
   have hE := Ext.trans (Ext.alloc (Ext.refl w) _) hE1
   replace hb := Lib.hid (hb.out.ext hE1)
   have y0 : w1.cell? ⟨w.heap.size, 0, none⟩ = some (.string p.mer) := (hb.out.cell 0).trans rfl
   have y1 : w1.cell? ⟨w.heap.size, 1, none⟩ = some (.string p.ter) := (hb.out.cell 1).trans rfl
   have y2 : w1.cell? ⟨w.heap.size, 2, none⟩ = some (.string p.car) := (hb.out.cell 2).trans rfl
   have y3 : w1.cell? ⟨w.heap.size, 3, none⟩ = some (.int .i64 p.amt) := (hb.out.cell 3).trans rfl
   have y4 : w1.cell? ⟨w.heap.size, 4, none⟩ = some (.int .i64 p.least) := (hb.out.cell 4).trans rfl
   have y5 : w1.cell? ⟨w.heap.size, 5, none⟩ = some (.string p.cur) := (hb.out.cell 5).trans rfl
   have y6 : w1.cell? ⟨w.heap.size, 6, none⟩ = some (.int .i64 p.cat) := (hb.out.cell 6).trans rfl
   clear hE1
   rw [r0]
   go_wp2_with fail
   refine (kT.out _ _).mono ?_
   rintro e w2 ⟨rfl, hE2⟩
   replace hE := hE.trans hE2
   replace hb := Lib.hid (hb.out.ext hE2)
   replace y0 : w2.cell? ⟨w.heap.size, 0, none⟩ = some (.string p.mer) := (hb.out.cell 0).trans rfl
   replace y1 : w2.cell? ⟨w.heap.size, 1, none⟩ = some (.string p.ter) := (hb.out.cell 1).trans rfl
   replace y2 : w2.cell? ⟨w.heap.size, 2, none⟩ = some (.string p.car) := (hb.out.cell 2).trans rfl
   replace y3 : w2.cell? ⟨w.heap.size, 3, none⟩ = some (.int .i64 p.amt) := (hb.out.cell 3).trans rfl
   replace y4 : w2.cell? ⟨w.heap.size, 4, none⟩ = some (.int .i64 p.least) := (hb.out.cell 4).trans rfl
   replace y5 : w2.cell? ⟨w.heap.size, 5, none⟩ = some (.string p.cur) := (hb.out.cell 5).trans rfl
   replace y6 : w2.cell? ⟨w.heap.size, 6, none⟩ = some (.int .i64 p.cat) := (hb.out.cell 6).trans rfl
   clear hE2
   rw [r1]
   go_wp2_with fail
   refine (kC.out _ _).mono ?_
   rintro e w3 ⟨rfl, hE3⟩
   replace hE := hE.trans hE3
   replace hb := Lib.hid (hb.out.ext hE3)
   replace y0 : w3.cell? ⟨w.heap.size, 0, none⟩ = some (.string p.mer) := (hb.out.cell 0).trans rfl
   replace y1 : w3.cell? ⟨w.heap.size, 1, none⟩ = some (.string p.ter) := (hb.out.cell 1).trans rfl
   replace y2 : w3.cell? ⟨w.heap.size, 2, none⟩ = some (.string p.car) := (hb.out.cell 2).trans rfl
   replace y3 : w3.cell? ⟨w.heap.size, 3, none⟩ = some (.int .i64 p.amt) := (hb.out.cell 3).trans rfl
   replace y4 : w3.cell? ⟨w.heap.size, 4, none⟩ = some (.int .i64 p.least) := (hb.out.cell 4).trans rfl
   replace y5 : w3.cell? ⟨w.heap.size, 5, none⟩ = some (.string p.cur) := (hb.out.cell 5).trans rfl
   replace y6 : w3.cell? ⟨w.heap.size, 6, none⟩ = some (.int .i64 p.cat) := (hb.out.cell 6).trans rfl
   clear hE3
   rw [r2]
   go_wp2
   try go_ret
   exact ⟨rfl, hE⟩
 by_cases c4 : 999999999999 < p.amt
 · have e : chkP p = 4 := by unfold chkP; rw [if_neg (by rintro (h | h); exact c0 h; exact c1 h)]; rw [if_neg c2]; rw [if_pos (by omega)]
   rw [e]
   clear e
   have r0 : idnS p.mer = true := by simpa using c0
   have r1 : trmS p.ter = true := by simpa using c1
   have r2 : crdS p.car = true := by simpa using c2
   have q3 : decide (p.amt < 1) = false := decide_eq_false c3
   have q4 : decide ((999999999999 : Int) < p.amt) = true := decide_eq_true c4
   clear c0
   clear c1
   clear c2
   clear c3
   clear c4
   go_enter Tryz.func22, Tryz.ntmps22
   go_wp2_with fail
   refine (kI.out _ _).mono ?_
   rintro e w1 ⟨rfl, hE1⟩
   have hE := Ext.trans (Ext.alloc (Ext.refl w) _) hE1
   replace hb := Lib.hid (hb.out.ext hE1)
   have y0 : w1.cell? ⟨w.heap.size, 0, none⟩ = some (.string p.mer) := (hb.out.cell 0).trans rfl
   have y1 : w1.cell? ⟨w.heap.size, 1, none⟩ = some (.string p.ter) := (hb.out.cell 1).trans rfl
   have y2 : w1.cell? ⟨w.heap.size, 2, none⟩ = some (.string p.car) := (hb.out.cell 2).trans rfl
   have y3 : w1.cell? ⟨w.heap.size, 3, none⟩ = some (.int .i64 p.amt) := (hb.out.cell 3).trans rfl
   have y4 : w1.cell? ⟨w.heap.size, 4, none⟩ = some (.int .i64 p.least) := (hb.out.cell 4).trans rfl
   have y5 : w1.cell? ⟨w.heap.size, 5, none⟩ = some (.string p.cur) := (hb.out.cell 5).trans rfl
   have y6 : w1.cell? ⟨w.heap.size, 6, none⟩ = some (.int .i64 p.cat) := (hb.out.cell 6).trans rfl
   clear hE1
   rw [r0]
   go_wp2_with fail
   refine (kT.out _ _).mono ?_
   rintro e w2 ⟨rfl, hE2⟩
   replace hE := hE.trans hE2
   replace hb := Lib.hid (hb.out.ext hE2)
   replace y0 : w2.cell? ⟨w.heap.size, 0, none⟩ = some (.string p.mer) := (hb.out.cell 0).trans rfl
   replace y1 : w2.cell? ⟨w.heap.size, 1, none⟩ = some (.string p.ter) := (hb.out.cell 1).trans rfl
   replace y2 : w2.cell? ⟨w.heap.size, 2, none⟩ = some (.string p.car) := (hb.out.cell 2).trans rfl
   replace y3 : w2.cell? ⟨w.heap.size, 3, none⟩ = some (.int .i64 p.amt) := (hb.out.cell 3).trans rfl
   replace y4 : w2.cell? ⟨w.heap.size, 4, none⟩ = some (.int .i64 p.least) := (hb.out.cell 4).trans rfl
   replace y5 : w2.cell? ⟨w.heap.size, 5, none⟩ = some (.string p.cur) := (hb.out.cell 5).trans rfl
   replace y6 : w2.cell? ⟨w.heap.size, 6, none⟩ = some (.int .i64 p.cat) := (hb.out.cell 6).trans rfl
   clear hE2
   rw [r1]
   go_wp2_with fail
   refine (kC.out _ _).mono ?_
   rintro e w3 ⟨rfl, hE3⟩
   replace hE := hE.trans hE3
   replace hb := Lib.hid (hb.out.ext hE3)
   replace y0 : w3.cell? ⟨w.heap.size, 0, none⟩ = some (.string p.mer) := (hb.out.cell 0).trans rfl
   replace y1 : w3.cell? ⟨w.heap.size, 1, none⟩ = some (.string p.ter) := (hb.out.cell 1).trans rfl
   replace y2 : w3.cell? ⟨w.heap.size, 2, none⟩ = some (.string p.car) := (hb.out.cell 2).trans rfl
   replace y3 : w3.cell? ⟨w.heap.size, 3, none⟩ = some (.int .i64 p.amt) := (hb.out.cell 3).trans rfl
   replace y4 : w3.cell? ⟨w.heap.size, 4, none⟩ = some (.int .i64 p.least) := (hb.out.cell 4).trans rfl
   replace y5 : w3.cell? ⟨w.heap.size, 5, none⟩ = some (.string p.cur) := (hb.out.cell 5).trans rfl
   replace y6 : w3.cell? ⟨w.heap.size, 6, none⟩ = some (.int .i64 p.cat) := (hb.out.cell 6).trans rfl
   clear hE3
   rw [r2]
   go_wp2
   try go_ret
   exact ⟨rfl, hE⟩
 by_cases c5 : p.least < 0
 · have e : chkP p = 4 := by unfold chkP; rw [if_neg (by rintro (h | h); exact c0 h; exact c1 h)]; rw [if_neg c2]; rw [if_pos (by omega)]
   rw [e]
   clear e
   have r0 : idnS p.mer = true := by simpa using c0
   have r1 : trmS p.ter = true := by simpa using c1
   have r2 : crdS p.car = true := by simpa using c2
   have q3 : decide (p.amt < 1) = false := decide_eq_false c3
   have q4 : decide ((999999999999 : Int) < p.amt) = false := decide_eq_false c4
   have q5 : decide (p.least < 0) = true := decide_eq_true c5
   clear c0
   clear c1
   clear c2
   clear c3
   clear c4
   clear c5
   go_enter Tryz.func22, Tryz.ntmps22
   go_wp2_with fail
   refine (kI.out _ _).mono ?_
   rintro e w1 ⟨rfl, hE1⟩
   have hE := Ext.trans (Ext.alloc (Ext.refl w) _) hE1
   replace hb := Lib.hid (hb.out.ext hE1)
   have y0 : w1.cell? ⟨w.heap.size, 0, none⟩ = some (.string p.mer) := (hb.out.cell 0).trans rfl
   have y1 : w1.cell? ⟨w.heap.size, 1, none⟩ = some (.string p.ter) := (hb.out.cell 1).trans rfl
   have y2 : w1.cell? ⟨w.heap.size, 2, none⟩ = some (.string p.car) := (hb.out.cell 2).trans rfl
   have y3 : w1.cell? ⟨w.heap.size, 3, none⟩ = some (.int .i64 p.amt) := (hb.out.cell 3).trans rfl
   have y4 : w1.cell? ⟨w.heap.size, 4, none⟩ = some (.int .i64 p.least) := (hb.out.cell 4).trans rfl
   have y5 : w1.cell? ⟨w.heap.size, 5, none⟩ = some (.string p.cur) := (hb.out.cell 5).trans rfl
   have y6 : w1.cell? ⟨w.heap.size, 6, none⟩ = some (.int .i64 p.cat) := (hb.out.cell 6).trans rfl
   clear hE1
   rw [r0]
   go_wp2_with fail
   refine (kT.out _ _).mono ?_
   rintro e w2 ⟨rfl, hE2⟩
   replace hE := hE.trans hE2
   replace hb := Lib.hid (hb.out.ext hE2)
   replace y0 : w2.cell? ⟨w.heap.size, 0, none⟩ = some (.string p.mer) := (hb.out.cell 0).trans rfl
   replace y1 : w2.cell? ⟨w.heap.size, 1, none⟩ = some (.string p.ter) := (hb.out.cell 1).trans rfl
   replace y2 : w2.cell? ⟨w.heap.size, 2, none⟩ = some (.string p.car) := (hb.out.cell 2).trans rfl
   replace y3 : w2.cell? ⟨w.heap.size, 3, none⟩ = some (.int .i64 p.amt) := (hb.out.cell 3).trans rfl
   replace y4 : w2.cell? ⟨w.heap.size, 4, none⟩ = some (.int .i64 p.least) := (hb.out.cell 4).trans rfl
   replace y5 : w2.cell? ⟨w.heap.size, 5, none⟩ = some (.string p.cur) := (hb.out.cell 5).trans rfl
   replace y6 : w2.cell? ⟨w.heap.size, 6, none⟩ = some (.int .i64 p.cat) := (hb.out.cell 6).trans rfl
   clear hE2
   rw [r1]
   go_wp2_with fail
   refine (kC.out _ _).mono ?_
   rintro e w3 ⟨rfl, hE3⟩
   replace hE := hE.trans hE3
   replace hb := Lib.hid (hb.out.ext hE3)
   replace y0 : w3.cell? ⟨w.heap.size, 0, none⟩ = some (.string p.mer) := (hb.out.cell 0).trans rfl
   replace y1 : w3.cell? ⟨w.heap.size, 1, none⟩ = some (.string p.ter) := (hb.out.cell 1).trans rfl
   replace y2 : w3.cell? ⟨w.heap.size, 2, none⟩ = some (.string p.car) := (hb.out.cell 2).trans rfl
   replace y3 : w3.cell? ⟨w.heap.size, 3, none⟩ = some (.int .i64 p.amt) := (hb.out.cell 3).trans rfl
   replace y4 : w3.cell? ⟨w.heap.size, 4, none⟩ = some (.int .i64 p.least) := (hb.out.cell 4).trans rfl
   replace y5 : w3.cell? ⟨w.heap.size, 5, none⟩ = some (.string p.cur) := (hb.out.cell 5).trans rfl
   replace y6 : w3.cell? ⟨w.heap.size, 6, none⟩ = some (.int .i64 p.cat) := (hb.out.cell 6).trans rfl
   clear hE3
   rw [r2]
   go_wp2
   try go_ret
   exact ⟨rfl, hE⟩
 by_cases c6 : p.amt < p.least
 · have e : chkP p = 4 := by unfold chkP; rw [if_neg (by rintro (h | h); exact c0 h; exact c1 h)]; rw [if_neg c2]; rw [if_pos (by omega)]
   rw [e]
   clear e
   have r0 : idnS p.mer = true := by simpa using c0
   have r1 : trmS p.ter = true := by simpa using c1
   have r2 : crdS p.car = true := by simpa using c2
   have q3 : decide (p.amt < 1) = false := decide_eq_false c3
   have q4 : decide ((999999999999 : Int) < p.amt) = false := decide_eq_false c4
   have q5 : decide (p.least < 0) = false := decide_eq_false c5
   have q6 : decide (p.amt < p.least) = true := decide_eq_true c6
   clear c0
   clear c1
   clear c2
   clear c3
   clear c4
   clear c5
   clear c6
   go_enter Tryz.func22, Tryz.ntmps22
   go_wp2_with fail
   refine (kI.out _ _).mono ?_
   rintro e w1 ⟨rfl, hE1⟩
   have hE := Ext.trans (Ext.alloc (Ext.refl w) _) hE1
   replace hb := Lib.hid (hb.out.ext hE1)
   have y0 : w1.cell? ⟨w.heap.size, 0, none⟩ = some (.string p.mer) := (hb.out.cell 0).trans rfl
   have y1 : w1.cell? ⟨w.heap.size, 1, none⟩ = some (.string p.ter) := (hb.out.cell 1).trans rfl
   have y2 : w1.cell? ⟨w.heap.size, 2, none⟩ = some (.string p.car) := (hb.out.cell 2).trans rfl
   have y3 : w1.cell? ⟨w.heap.size, 3, none⟩ = some (.int .i64 p.amt) := (hb.out.cell 3).trans rfl
   have y4 : w1.cell? ⟨w.heap.size, 4, none⟩ = some (.int .i64 p.least) := (hb.out.cell 4).trans rfl
   have y5 : w1.cell? ⟨w.heap.size, 5, none⟩ = some (.string p.cur) := (hb.out.cell 5).trans rfl
   have y6 : w1.cell? ⟨w.heap.size, 6, none⟩ = some (.int .i64 p.cat) := (hb.out.cell 6).trans rfl
   clear hE1
   rw [r0]
   go_wp2_with fail
   refine (kT.out _ _).mono ?_
   rintro e w2 ⟨rfl, hE2⟩
   replace hE := hE.trans hE2
   replace hb := Lib.hid (hb.out.ext hE2)
   replace y0 : w2.cell? ⟨w.heap.size, 0, none⟩ = some (.string p.mer) := (hb.out.cell 0).trans rfl
   replace y1 : w2.cell? ⟨w.heap.size, 1, none⟩ = some (.string p.ter) := (hb.out.cell 1).trans rfl
   replace y2 : w2.cell? ⟨w.heap.size, 2, none⟩ = some (.string p.car) := (hb.out.cell 2).trans rfl
   replace y3 : w2.cell? ⟨w.heap.size, 3, none⟩ = some (.int .i64 p.amt) := (hb.out.cell 3).trans rfl
   replace y4 : w2.cell? ⟨w.heap.size, 4, none⟩ = some (.int .i64 p.least) := (hb.out.cell 4).trans rfl
   replace y5 : w2.cell? ⟨w.heap.size, 5, none⟩ = some (.string p.cur) := (hb.out.cell 5).trans rfl
   replace y6 : w2.cell? ⟨w.heap.size, 6, none⟩ = some (.int .i64 p.cat) := (hb.out.cell 6).trans rfl
   clear hE2
   rw [r1]
   go_wp2_with fail
   refine (kC.out _ _).mono ?_
   rintro e w3 ⟨rfl, hE3⟩
   replace hE := hE.trans hE3
   replace hb := Lib.hid (hb.out.ext hE3)
   replace y0 : w3.cell? ⟨w.heap.size, 0, none⟩ = some (.string p.mer) := (hb.out.cell 0).trans rfl
   replace y1 : w3.cell? ⟨w.heap.size, 1, none⟩ = some (.string p.ter) := (hb.out.cell 1).trans rfl
   replace y2 : w3.cell? ⟨w.heap.size, 2, none⟩ = some (.string p.car) := (hb.out.cell 2).trans rfl
   replace y3 : w3.cell? ⟨w.heap.size, 3, none⟩ = some (.int .i64 p.amt) := (hb.out.cell 3).trans rfl
   replace y4 : w3.cell? ⟨w.heap.size, 4, none⟩ = some (.int .i64 p.least) := (hb.out.cell 4).trans rfl
   replace y5 : w3.cell? ⟨w.heap.size, 5, none⟩ = some (.string p.cur) := (hb.out.cell 5).trans rfl
   replace y6 : w3.cell? ⟨w.heap.size, 6, none⟩ = some (.int .i64 p.cat) := (hb.out.cell 6).trans rfl
   clear hE3
   rw [r2]
   go_wp2
   try go_ret
   exact ⟨rfl, hE⟩
 by_cases c7 : p.cat < 1
 · have e : chkP p = 4 := by unfold chkP; rw [if_neg (by rintro (h | h); exact c0 h; exact c1 h)]; rw [if_neg c2]; rw [if_neg (by omega)]; rw [if_pos (by omega)]
   rw [e]
   clear e
   have r0 : idnS p.mer = true := by simpa using c0
   have r1 : trmS p.ter = true := by simpa using c1
   have r2 : crdS p.car = true := by simpa using c2
   have q3 : decide (p.amt < 1) = false := decide_eq_false c3
   have q4 : decide ((999999999999 : Int) < p.amt) = false := decide_eq_false c4
   have q5 : decide (p.least < 0) = false := decide_eq_false c5
   have q6 : decide (p.amt < p.least) = false := decide_eq_false c6
   have q7 : decide (p.cat < 1) = true := decide_eq_true c7
   clear c0
   clear c1
   clear c2
   clear c3
   clear c4
   clear c5
   clear c6
   clear c7
   go_enter Tryz.func22, Tryz.ntmps22
   go_wp2_with fail
   refine (kI.out _ _).mono ?_
   rintro e w1 ⟨rfl, hE1⟩
   have hE := Ext.trans (Ext.alloc (Ext.refl w) _) hE1
   replace hb := Lib.hid (hb.out.ext hE1)
   have y0 : w1.cell? ⟨w.heap.size, 0, none⟩ = some (.string p.mer) := (hb.out.cell 0).trans rfl
   have y1 : w1.cell? ⟨w.heap.size, 1, none⟩ = some (.string p.ter) := (hb.out.cell 1).trans rfl
   have y2 : w1.cell? ⟨w.heap.size, 2, none⟩ = some (.string p.car) := (hb.out.cell 2).trans rfl
   have y3 : w1.cell? ⟨w.heap.size, 3, none⟩ = some (.int .i64 p.amt) := (hb.out.cell 3).trans rfl
   have y4 : w1.cell? ⟨w.heap.size, 4, none⟩ = some (.int .i64 p.least) := (hb.out.cell 4).trans rfl
   have y5 : w1.cell? ⟨w.heap.size, 5, none⟩ = some (.string p.cur) := (hb.out.cell 5).trans rfl
   have y6 : w1.cell? ⟨w.heap.size, 6, none⟩ = some (.int .i64 p.cat) := (hb.out.cell 6).trans rfl
   clear hE1
   rw [r0]
   go_wp2_with fail
   refine (kT.out _ _).mono ?_
   rintro e w2 ⟨rfl, hE2⟩
   replace hE := hE.trans hE2
   replace hb := Lib.hid (hb.out.ext hE2)
   replace y0 : w2.cell? ⟨w.heap.size, 0, none⟩ = some (.string p.mer) := (hb.out.cell 0).trans rfl
   replace y1 : w2.cell? ⟨w.heap.size, 1, none⟩ = some (.string p.ter) := (hb.out.cell 1).trans rfl
   replace y2 : w2.cell? ⟨w.heap.size, 2, none⟩ = some (.string p.car) := (hb.out.cell 2).trans rfl
   replace y3 : w2.cell? ⟨w.heap.size, 3, none⟩ = some (.int .i64 p.amt) := (hb.out.cell 3).trans rfl
   replace y4 : w2.cell? ⟨w.heap.size, 4, none⟩ = some (.int .i64 p.least) := (hb.out.cell 4).trans rfl
   replace y5 : w2.cell? ⟨w.heap.size, 5, none⟩ = some (.string p.cur) := (hb.out.cell 5).trans rfl
   replace y6 : w2.cell? ⟨w.heap.size, 6, none⟩ = some (.int .i64 p.cat) := (hb.out.cell 6).trans rfl
   clear hE2
   rw [r1]
   go_wp2_with fail
   refine (kC.out _ _).mono ?_
   rintro e w3 ⟨rfl, hE3⟩
   replace hE := hE.trans hE3
   replace hb := Lib.hid (hb.out.ext hE3)
   replace y0 : w3.cell? ⟨w.heap.size, 0, none⟩ = some (.string p.mer) := (hb.out.cell 0).trans rfl
   replace y1 : w3.cell? ⟨w.heap.size, 1, none⟩ = some (.string p.ter) := (hb.out.cell 1).trans rfl
   replace y2 : w3.cell? ⟨w.heap.size, 2, none⟩ = some (.string p.car) := (hb.out.cell 2).trans rfl
   replace y3 : w3.cell? ⟨w.heap.size, 3, none⟩ = some (.int .i64 p.amt) := (hb.out.cell 3).trans rfl
   replace y4 : w3.cell? ⟨w.heap.size, 4, none⟩ = some (.int .i64 p.least) := (hb.out.cell 4).trans rfl
   replace y5 : w3.cell? ⟨w.heap.size, 5, none⟩ = some (.string p.cur) := (hb.out.cell 5).trans rfl
   replace y6 : w3.cell? ⟨w.heap.size, 6, none⟩ = some (.int .i64 p.cat) := (hb.out.cell 6).trans rfl
   clear hE3
   rw [r2]
   go_wp2
   try go_ret
   exact ⟨rfl, hE⟩
 by_cases c8 : 9999 < p.cat
 · have e : chkP p = 4 := by unfold chkP; rw [if_neg (by rintro (h | h); exact c0 h; exact c1 h)]; rw [if_neg c2]; rw [if_neg (by omega)]; rw [if_pos (by omega)]
   rw [e]
   clear e
   have r0 : idnS p.mer = true := by simpa using c0
   have r1 : trmS p.ter = true := by simpa using c1
   have r2 : crdS p.car = true := by simpa using c2
   have q3 : decide (p.amt < 1) = false := decide_eq_false c3
   have q4 : decide ((999999999999 : Int) < p.amt) = false := decide_eq_false c4
   have q5 : decide (p.least < 0) = false := decide_eq_false c5
   have q6 : decide (p.amt < p.least) = false := decide_eq_false c6
   have q7 : decide (p.cat < 1) = false := decide_eq_false c7
   have q8 : decide ((9999 : Int) < p.cat) = true := decide_eq_true c8
   clear c0
   clear c1
   clear c2
   clear c3
   clear c4
   clear c5
   clear c6
   clear c7
   clear c8
   go_enter Tryz.func22, Tryz.ntmps22
   go_wp2_with fail
   refine (kI.out _ _).mono ?_
   rintro e w1 ⟨rfl, hE1⟩
   have hE := Ext.trans (Ext.alloc (Ext.refl w) _) hE1
   replace hb := Lib.hid (hb.out.ext hE1)
   have y0 : w1.cell? ⟨w.heap.size, 0, none⟩ = some (.string p.mer) := (hb.out.cell 0).trans rfl
   have y1 : w1.cell? ⟨w.heap.size, 1, none⟩ = some (.string p.ter) := (hb.out.cell 1).trans rfl
   have y2 : w1.cell? ⟨w.heap.size, 2, none⟩ = some (.string p.car) := (hb.out.cell 2).trans rfl
   have y3 : w1.cell? ⟨w.heap.size, 3, none⟩ = some (.int .i64 p.amt) := (hb.out.cell 3).trans rfl
   have y4 : w1.cell? ⟨w.heap.size, 4, none⟩ = some (.int .i64 p.least) := (hb.out.cell 4).trans rfl
   have y5 : w1.cell? ⟨w.heap.size, 5, none⟩ = some (.string p.cur) := (hb.out.cell 5).trans rfl
   have y6 : w1.cell? ⟨w.heap.size, 6, none⟩ = some (.int .i64 p.cat) := (hb.out.cell 6).trans rfl
   clear hE1
   rw [r0]
   go_wp2_with fail
   refine (kT.out _ _).mono ?_
   rintro e w2 ⟨rfl, hE2⟩
   replace hE := hE.trans hE2
   replace hb := Lib.hid (hb.out.ext hE2)
   replace y0 : w2.cell? ⟨w.heap.size, 0, none⟩ = some (.string p.mer) := (hb.out.cell 0).trans rfl
   replace y1 : w2.cell? ⟨w.heap.size, 1, none⟩ = some (.string p.ter) := (hb.out.cell 1).trans rfl
   replace y2 : w2.cell? ⟨w.heap.size, 2, none⟩ = some (.string p.car) := (hb.out.cell 2).trans rfl
   replace y3 : w2.cell? ⟨w.heap.size, 3, none⟩ = some (.int .i64 p.amt) := (hb.out.cell 3).trans rfl
   replace y4 : w2.cell? ⟨w.heap.size, 4, none⟩ = some (.int .i64 p.least) := (hb.out.cell 4).trans rfl
   replace y5 : w2.cell? ⟨w.heap.size, 5, none⟩ = some (.string p.cur) := (hb.out.cell 5).trans rfl
   replace y6 : w2.cell? ⟨w.heap.size, 6, none⟩ = some (.int .i64 p.cat) := (hb.out.cell 6).trans rfl
   clear hE2
   rw [r1]
   go_wp2_with fail
   refine (kC.out _ _).mono ?_
   rintro e w3 ⟨rfl, hE3⟩
   replace hE := hE.trans hE3
   replace hb := Lib.hid (hb.out.ext hE3)
   replace y0 : w3.cell? ⟨w.heap.size, 0, none⟩ = some (.string p.mer) := (hb.out.cell 0).trans rfl
   replace y1 : w3.cell? ⟨w.heap.size, 1, none⟩ = some (.string p.ter) := (hb.out.cell 1).trans rfl
   replace y2 : w3.cell? ⟨w.heap.size, 2, none⟩ = some (.string p.car) := (hb.out.cell 2).trans rfl
   replace y3 : w3.cell? ⟨w.heap.size, 3, none⟩ = some (.int .i64 p.amt) := (hb.out.cell 3).trans rfl
   replace y4 : w3.cell? ⟨w.heap.size, 4, none⟩ = some (.int .i64 p.least) := (hb.out.cell 4).trans rfl
   replace y5 : w3.cell? ⟨w.heap.size, 5, none⟩ = some (.string p.cur) := (hb.out.cell 5).trans rfl
   replace y6 : w3.cell? ⟨w.heap.size, 6, none⟩ = some (.int .i64 p.cat) := (hb.out.cell 6).trans rfl
   clear hE3
   rw [r2]
   go_wp2
   try go_ret
   exact ⟨rfl, hE⟩
 by_cases c9 : curS p.cur = false
 · have e : chkP p = 11 := by unfold chkP; rw [if_neg (by rintro (h | h); exact c0 h; exact c1 h)]; rw [if_neg c2]; rw [if_neg (by omega)]; rw [if_neg (by omega)]; rw [if_pos c9]
   rw [e]
   clear e
   have r0 : idnS p.mer = true := by simpa using c0
   have r1 : trmS p.ter = true := by simpa using c1
   have r2 : crdS p.car = true := by simpa using c2
   have q3 : decide (p.amt < 1) = false := decide_eq_false c3
   have q4 : decide ((999999999999 : Int) < p.amt) = false := decide_eq_false c4
   have q5 : decide (p.least < 0) = false := decide_eq_false c5
   have q6 : decide (p.amt < p.least) = false := decide_eq_false c6
   have q7 : decide (p.cat < 1) = false := decide_eq_false c7
   have q8 : decide ((9999 : Int) < p.cat) = false := decide_eq_false c8
   have r9 : curS p.cur = false := c9
   clear c0
   clear c1
   clear c2
   clear c3
   clear c4
   clear c5
   clear c6
   clear c7
   clear c8
   clear c9
   go_enter Tryz.func22, Tryz.ntmps22
   go_wp2_with fail
   refine (kI.out _ _).mono ?_
   rintro e w1 ⟨rfl, hE1⟩
   have hE := Ext.trans (Ext.alloc (Ext.refl w) _) hE1
   replace hb := Lib.hid (hb.out.ext hE1)
   have y0 : w1.cell? ⟨w.heap.size, 0, none⟩ = some (.string p.mer) := (hb.out.cell 0).trans rfl
   have y1 : w1.cell? ⟨w.heap.size, 1, none⟩ = some (.string p.ter) := (hb.out.cell 1).trans rfl
   have y2 : w1.cell? ⟨w.heap.size, 2, none⟩ = some (.string p.car) := (hb.out.cell 2).trans rfl
   have y3 : w1.cell? ⟨w.heap.size, 3, none⟩ = some (.int .i64 p.amt) := (hb.out.cell 3).trans rfl
   have y4 : w1.cell? ⟨w.heap.size, 4, none⟩ = some (.int .i64 p.least) := (hb.out.cell 4).trans rfl
   have y5 : w1.cell? ⟨w.heap.size, 5, none⟩ = some (.string p.cur) := (hb.out.cell 5).trans rfl
   have y6 : w1.cell? ⟨w.heap.size, 6, none⟩ = some (.int .i64 p.cat) := (hb.out.cell 6).trans rfl
   clear hE1
   rw [r0]
   go_wp2_with fail
   refine (kT.out _ _).mono ?_
   rintro e w2 ⟨rfl, hE2⟩
   replace hE := hE.trans hE2
   replace hb := Lib.hid (hb.out.ext hE2)
   replace y0 : w2.cell? ⟨w.heap.size, 0, none⟩ = some (.string p.mer) := (hb.out.cell 0).trans rfl
   replace y1 : w2.cell? ⟨w.heap.size, 1, none⟩ = some (.string p.ter) := (hb.out.cell 1).trans rfl
   replace y2 : w2.cell? ⟨w.heap.size, 2, none⟩ = some (.string p.car) := (hb.out.cell 2).trans rfl
   replace y3 : w2.cell? ⟨w.heap.size, 3, none⟩ = some (.int .i64 p.amt) := (hb.out.cell 3).trans rfl
   replace y4 : w2.cell? ⟨w.heap.size, 4, none⟩ = some (.int .i64 p.least) := (hb.out.cell 4).trans rfl
   replace y5 : w2.cell? ⟨w.heap.size, 5, none⟩ = some (.string p.cur) := (hb.out.cell 5).trans rfl
   replace y6 : w2.cell? ⟨w.heap.size, 6, none⟩ = some (.int .i64 p.cat) := (hb.out.cell 6).trans rfl
   clear hE2
   rw [r1]
   go_wp2_with fail
   refine (kC.out _ _).mono ?_
   rintro e w3 ⟨rfl, hE3⟩
   replace hE := hE.trans hE3
   replace hb := Lib.hid (hb.out.ext hE3)
   replace y0 : w3.cell? ⟨w.heap.size, 0, none⟩ = some (.string p.mer) := (hb.out.cell 0).trans rfl
   replace y1 : w3.cell? ⟨w.heap.size, 1, none⟩ = some (.string p.ter) := (hb.out.cell 1).trans rfl
   replace y2 : w3.cell? ⟨w.heap.size, 2, none⟩ = some (.string p.car) := (hb.out.cell 2).trans rfl
   replace y3 : w3.cell? ⟨w.heap.size, 3, none⟩ = some (.int .i64 p.amt) := (hb.out.cell 3).trans rfl
   replace y4 : w3.cell? ⟨w.heap.size, 4, none⟩ = some (.int .i64 p.least) := (hb.out.cell 4).trans rfl
   replace y5 : w3.cell? ⟨w.heap.size, 5, none⟩ = some (.string p.cur) := (hb.out.cell 5).trans rfl
   replace y6 : w3.cell? ⟨w.heap.size, 6, none⟩ = some (.int .i64 p.cat) := (hb.out.cell 6).trans rfl
   clear hE3
   rw [r2]
   go_wp2_with fail
   refine (kU.out _ _).mono ?_
   rintro e w4 ⟨rfl, hE4⟩
   replace hE := hE.trans hE4
   replace hb := Lib.hid (hb.out.ext hE4)
   replace y0 : w4.cell? ⟨w.heap.size, 0, none⟩ = some (.string p.mer) := (hb.out.cell 0).trans rfl
   replace y1 : w4.cell? ⟨w.heap.size, 1, none⟩ = some (.string p.ter) := (hb.out.cell 1).trans rfl
   replace y2 : w4.cell? ⟨w.heap.size, 2, none⟩ = some (.string p.car) := (hb.out.cell 2).trans rfl
   replace y3 : w4.cell? ⟨w.heap.size, 3, none⟩ = some (.int .i64 p.amt) := (hb.out.cell 3).trans rfl
   replace y4 : w4.cell? ⟨w.heap.size, 4, none⟩ = some (.int .i64 p.least) := (hb.out.cell 4).trans rfl
   replace y5 : w4.cell? ⟨w.heap.size, 5, none⟩ = some (.string p.cur) := (hb.out.cell 5).trans rfl
   replace y6 : w4.cell? ⟨w.heap.size, 6, none⟩ = some (.int .i64 p.cat) := (hb.out.cell 6).trans rfl
   clear hE4
   rw [r9]
   go_wp2
   try go_ret
   exact ⟨rfl, hE⟩
 have e : chkP p = 0 := by unfold chkP; rw [if_neg (by rintro (h | h); exact c0 h; exact c1 h)]; rw [if_neg c2]; rw [if_neg (by omega)]; rw [if_neg (by omega)]; rw [if_neg c9]
 rw [e]
 clear e
 have r0 : idnS p.mer = true := by simpa using c0
 have r1 : trmS p.ter = true := by simpa using c1
 have r2 : crdS p.car = true := by simpa using c2
 have q3 : decide (p.amt < 1) = false := decide_eq_false c3
 have q4 : decide ((999999999999 : Int) < p.amt) = false := decide_eq_false c4
 have q5 : decide (p.least < 0) = false := decide_eq_false c5
 have q6 : decide (p.amt < p.least) = false := decide_eq_false c6
 have q7 : decide (p.cat < 1) = false := decide_eq_false c7
 have q8 : decide ((9999 : Int) < p.cat) = false := decide_eq_false c8
 have r9 : curS p.cur = true := by simpa using c9
 clear c0
 clear c1
 clear c2
 clear c3
 clear c4
 clear c5
 clear c6
 clear c7
 clear c8
 clear c9
 go_enter Tryz.func22, Tryz.ntmps22
 go_wp2_with fail
 refine (kI.out _ _).mono ?_
 rintro e w1 ⟨rfl, hE1⟩
 have hE := Ext.trans (Ext.alloc (Ext.refl w) _) hE1
 replace hb := Lib.hid (hb.out.ext hE1)
 have y0 : w1.cell? ⟨w.heap.size, 0, none⟩ = some (.string p.mer) := (hb.out.cell 0).trans rfl
 have y1 : w1.cell? ⟨w.heap.size, 1, none⟩ = some (.string p.ter) := (hb.out.cell 1).trans rfl
 have y2 : w1.cell? ⟨w.heap.size, 2, none⟩ = some (.string p.car) := (hb.out.cell 2).trans rfl
 have y3 : w1.cell? ⟨w.heap.size, 3, none⟩ = some (.int .i64 p.amt) := (hb.out.cell 3).trans rfl
 have y4 : w1.cell? ⟨w.heap.size, 4, none⟩ = some (.int .i64 p.least) := (hb.out.cell 4).trans rfl
 have y5 : w1.cell? ⟨w.heap.size, 5, none⟩ = some (.string p.cur) := (hb.out.cell 5).trans rfl
 have y6 : w1.cell? ⟨w.heap.size, 6, none⟩ = some (.int .i64 p.cat) := (hb.out.cell 6).trans rfl
 clear hE1
 rw [r0]
 go_wp2_with fail
 refine (kT.out _ _).mono ?_
 rintro e w2 ⟨rfl, hE2⟩
 replace hE := hE.trans hE2
 replace hb := Lib.hid (hb.out.ext hE2)
 replace y0 : w2.cell? ⟨w.heap.size, 0, none⟩ = some (.string p.mer) := (hb.out.cell 0).trans rfl
 replace y1 : w2.cell? ⟨w.heap.size, 1, none⟩ = some (.string p.ter) := (hb.out.cell 1).trans rfl
 replace y2 : w2.cell? ⟨w.heap.size, 2, none⟩ = some (.string p.car) := (hb.out.cell 2).trans rfl
 replace y3 : w2.cell? ⟨w.heap.size, 3, none⟩ = some (.int .i64 p.amt) := (hb.out.cell 3).trans rfl
 replace y4 : w2.cell? ⟨w.heap.size, 4, none⟩ = some (.int .i64 p.least) := (hb.out.cell 4).trans rfl
 replace y5 : w2.cell? ⟨w.heap.size, 5, none⟩ = some (.string p.cur) := (hb.out.cell 5).trans rfl
 replace y6 : w2.cell? ⟨w.heap.size, 6, none⟩ = some (.int .i64 p.cat) := (hb.out.cell 6).trans rfl
 clear hE2
 rw [r1]
 go_wp2_with fail
 refine (kC.out _ _).mono ?_
 rintro e w3 ⟨rfl, hE3⟩
 replace hE := hE.trans hE3
 replace hb := Lib.hid (hb.out.ext hE3)
 replace y0 : w3.cell? ⟨w.heap.size, 0, none⟩ = some (.string p.mer) := (hb.out.cell 0).trans rfl
 replace y1 : w3.cell? ⟨w.heap.size, 1, none⟩ = some (.string p.ter) := (hb.out.cell 1).trans rfl
 replace y2 : w3.cell? ⟨w.heap.size, 2, none⟩ = some (.string p.car) := (hb.out.cell 2).trans rfl
 replace y3 : w3.cell? ⟨w.heap.size, 3, none⟩ = some (.int .i64 p.amt) := (hb.out.cell 3).trans rfl
 replace y4 : w3.cell? ⟨w.heap.size, 4, none⟩ = some (.int .i64 p.least) := (hb.out.cell 4).trans rfl
 replace y5 : w3.cell? ⟨w.heap.size, 5, none⟩ = some (.string p.cur) := (hb.out.cell 5).trans rfl
 replace y6 : w3.cell? ⟨w.heap.size, 6, none⟩ = some (.int .i64 p.cat) := (hb.out.cell 6).trans rfl
 clear hE3
 rw [r2]
 go_wp2_with fail
 refine (kU.out _ _).mono ?_
 rintro e w4 ⟨rfl, hE4⟩
 replace hE := hE.trans hE4
 replace hb := Lib.hid (hb.out.ext hE4)
 replace y0 : w4.cell? ⟨w.heap.size, 0, none⟩ = some (.string p.mer) := (hb.out.cell 0).trans rfl
 replace y1 : w4.cell? ⟨w.heap.size, 1, none⟩ = some (.string p.ter) := (hb.out.cell 1).trans rfl
 replace y2 : w4.cell? ⟨w.heap.size, 2, none⟩ = some (.string p.car) := (hb.out.cell 2).trans rfl
 replace y3 : w4.cell? ⟨w.heap.size, 3, none⟩ = some (.int .i64 p.amt) := (hb.out.cell 3).trans rfl
 replace y4 : w4.cell? ⟨w.heap.size, 4, none⟩ = some (.int .i64 p.least) := (hb.out.cell 4).trans rfl
 replace y5 : w4.cell? ⟨w.heap.size, 5, none⟩ = some (.string p.cur) := (hb.out.cell 5).trans rfl
 replace y6 : w4.cell? ⟨w.heap.size, 6, none⟩ = some (.int .i64 p.cat) := (hb.out.cell 6).trans rfl
 clear hE4
 rw [r9]
 go_wp2
 try go_ret
 exact ⟨rfl, hE⟩
end Go.Proofs.YtkggloeaojkhaaaGreatDoor
