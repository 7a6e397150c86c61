/- The contract of law38's awake (walk; printed by gen/h12.py). -/
import Derived.Test.YtmnhmkjmcckneaaGreatDoorHv
import Derived.Test.YtmnhmkjmcckneaaGreatDoorHq
import Derived.Test.YtmnhmkjmcckneaaGreatDoorHf
import Derived.Test.YtmnhmkjmcckneaaGreatDoorHn
import Derived.Test.YtmnhmkjmcckneaaGreatDoorHx
namespace Go.Proofs.YtmnhmkjmcckneaaGreatDoor
open Go.RowKit
theorem bou_i (k c : Int) (hk : I64 k) (hc : I64 c) : RecI (bouR k c) := ⟨hk, show I64 1000 from ⟨by decide, by decide⟩, show I64 1 from ⟨by decide, by decide⟩, hc⟩
theorem bou_s (k c : Int) : ShOk (bouR k c) := by
 exact ⟨Nat.le_of_ble_eq_true rfl, Nat.le_of_ble_eq_true rfl, Nat.le_of_ble_eq_true rfl, Nat.le_of_ble_eq_true rfl, Nat.le_of_ble_eq_true rfl, Nat.le_of_ble_eq_true rfl, Nat.le_of_ble_eq_true rfl⟩
theorem sma_parts {t : TabsD} (h : SmaOk t) : ∀ j, j < 3 → ∀ i, i < (t.at j).length → ((t.at j).getD i rD).when.parts.length ≤ 1000000 := fun j hj i hi => by
 match j, hj with
 | 0, _ => have := (h.i.parts i hi).1; exact Nat.le_trans this (by omega)
 | 1, _ => have := (h.s.parts i hi).1; exact Nat.le_trans this (by omega)
 | 2, _ => have := (h.m.parts i hi).1; exact Nat.le_trans this (by omega)
theorem assess_at (tv : Value) (t : TabsD) (r : RecD) (w : World) (g : Gw w) (hT : TabsM w tv t) (ht : SmaOk t) (hs : ShOk r) (hi : RecI r) {x : ResD} {c : Int} (h : assessV t r = (x, c)) : Calls Tryz.prog 11 #[tv, recAgg r] w fun e w' => e = .returned (.tuple #[resAgg x, .int .i64 c]) ∧ Ext w w' := by
 have k := assess_any tv t r w g hT (few_tab ht.i hs hi) (few_tab ht.s hs hi) (few_tab ht.m hs hi)
 rw [h] at k
 exact k
theorem check38_at (tv : Value) (t : TabsD) (w : World) (hT : TabsM w tv t) (ht : SmaOk t) {c : Int} (h : tabsE t = c) : Calls Tryz.prog 16 #[tv] w (OneW (.int .i64 c) w) := by
 have k := acheck_any tv t w hT (sma_parts ht)
 rw [h] at k
 exact k
theorem bal_at (x : ResD) (w : World) {b : Bool} (h : balB x = b) : Calls Tryz.prog 18 #[resAgg x] w (OneW (.bool b) w) := by
 have k := balanced_any x w
 rw [h] at k
 exact k
def expS : ByteArray := ⟨#[105, 110, 116, 101, 114, 99, 104, 97, 110, 103, 101, 32, 102, 111, 111, 100, 32, 53, 32, 98, 101, 99, 97, 117, 115, 101, 32, 99, 97, 116, 101, 103, 111, 114, 121, 61, 53, 52, 49, 49, 10, 115, 99, 104, 101, 109, 101, 32, 97, 108, 108, 32, 50, 10, 109, 101, 114, 99, 104, 97, 110, 116, 32, 97, 108, 108, 32, 49, 53, 10, 99, 97, 114, 100, 104, 111, 108, 100, 101, 114, 32, 45, 49, 48, 48, 48, 10, 105, 115, 115, 117, 101, 114, 32, 53, 10, 97, 99, 113, 117, 105, 114, 101, 114, 32, 56, 10, 115, 104, 111, 112, 32, 57, 56, 53, 10, 110, 101, 116, 119, 111, 114, 107, 32, 50, 10]⟩
theorem expl_x : explT resX = expS.data.toList := by decide +kernel
theorem resX_ok : ResOk resX := ⟨⟨by decide, by decide, ⟨by decide, by decide⟩⟩, ⟨by decide, by decide, ⟨by decide, by decide⟩⟩, ⟨by decide, by decide, ⟨by decide, by decide⟩⟩, ⟨by decide, by decide⟩, ⟨by decide, by decide⟩, ⟨by decide, by decide⟩, ⟨by decide, by decide⟩, ⟨by decide, by decide⟩⟩
theorem explain_x (w : World) (g : Gw w) : Calls Tryz.prog 21 #[resAgg resX] w (OneW (.string expS) w) := by
 refine (explain_any resX w g resX_ok).mono ?_
 rintro e w' ⟨r, rfl, h, hE⟩
 refine ⟨?_, hE⟩
 rw [expl_x] at h
 have : r = expS := by
  obtain ⟨⟨r⟩⟩ := r
  simp only at h
  rw [h]
 rw [this]
theorem bal_x : balB resX = true := by decide +kernel
theorem bal_y : balB resY = true := by decide +kernel
theorem bal_z : balB ⟨lineD, lineD, lineD, 0, 0, 0, 1, 0⟩ = false := by decide +kernel
set_option maxRecDepth 8000 in
set_option maxHeartbeats 8000000 in
theorem awake38_any (w : World) (g : Gw w) : Calls Tryz.prog 10 #[] w (OneV (.bool true) w) := by
 replace g := Lib.hid g
 go_enter Tryz.func10, Tryz.ntmps10
 go_wp2_with fail
 refine (sam38_any _).mono ?_
 rintro e w1 ⟨B1, B2, B3, rfl, hT, -, hE1⟩
 replace hT := Lib.hid hT
 have hE : Ext w w1 := Ext.trans xt hE1
 clear hE1
 go_wp2_with fail
 refine (bou_any 1 5411 _).mono ?_
 rintro e w2 ⟨rfl, hE2⟩
 replace hT := Lib.hid (hT.out.ext hE2)
 replace hE := hE.trans hE2
 clear hE2
 go_wp2_with fail
 refine (assess_at _ samT (bouR 1 5411) _ (g.out.ext hE) hT.out sma_sam (bou_s _ _) (bou_i _ _ ⟨by decide, by decide⟩ ⟨by decide, by decide⟩) as_x).mono ?_
 rintro e w3 ⟨rfl, hE3⟩
 clear hT
 replace hE := hE.trans hE3
 clear hE3
 unfold resAgg resX
 go_wp2_with fail
 refine (sam38_any _).mono ?_
 rintro e w4 ⟨B4, B5, B6, rfl, hT, -, hE4⟩
 replace hT := Lib.hid hT
 have hX := Lib.hid ((Blk.new w3 #[.string ⟨#[102, 111, 111, 100]⟩, .int .i64 5, .string ⟨#[99, 97, 116, 101, 103, 111, 114, 121, 61, 53, 52, 49, 49]⟩, .string ⟨#[97, 108, 108]⟩, .int .i64 2, .string ⟨#[]⟩, .string ⟨#[97, 108, 108]⟩, .int .i64 15, .string ⟨#[]⟩, .int .i64 (-1000), .int .i64 5, .int .i64 8, .int .i64 985, .int .i64 2] 35).ext hE4)
 replace hE := (hE.alloc _).trans hE4
 clear hE4
 obtain ⟨BX, hBX⟩ : ∃ BX, BX = w3.heap.size := ⟨_, rfl⟩
 rw [← hBX] at hX ⊢
 clear hBX
 go_wp2_with fail
 refine (bou_any 2 7995 _).mono ?_
 rintro e w5 ⟨rfl, hE5⟩
 replace hT := Lib.hid (hT.out.ext hE5)
 replace hX := Lib.hid (hX.out.ext hE5)
 replace hE := hE.trans hE5
 clear hE5
 go_wp2_with fail
 refine (assess_at _ samT (bouR 2 7995) _ (g.out.ext hE) hT.out sma_sam (bou_s _ _) (bou_i _ _ ⟨by decide, by decide⟩ ⟨by decide, by decide⟩) as_y).mono ?_
 rintro e w6 ⟨rfl, hE6⟩
 clear hT
 replace hX := Lib.hid (hX.out.ext hE6)
 replace hE := hE.trans hE6
 clear hE6
 unfold resAgg resY
 go_wp2_with fail
 refine (sam38_any _).mono ?_
 rintro e w7 ⟨B7, B8, B9, rfl, -, hT, hE7⟩
 replace hT := Lib.hid hT
 have hY := Lib.hid ((Blk.new w6 #[.string ⟨#[114, 101, 115, 116]⟩, .int .i64 10, .string ⟨#[]⟩, .string ⟨#[97, 108, 108]⟩, .int .i64 2, .string ⟨#[]⟩, .string ⟨#[97, 108, 108]⟩, .int .i64 15, .string ⟨#[]⟩, .int .i64 1000, .int .i64 (-10), .int .i64 (-7), .int .i64 (-985), .int .i64 2] 35).ext hE7)
 replace hX := Lib.hid ((hX.out.alloc (.cells #[.string ⟨#[114, 101, 115, 116]⟩, .int .i64 10, .string ⟨#[]⟩, .string ⟨#[97, 108, 108]⟩, .int .i64 2, .string ⟨#[]⟩, .string ⟨#[97, 108, 108]⟩, .int .i64 15, .string ⟨#[]⟩, .int .i64 1000, .int .i64 (-10), .int .i64 (-7), .int .i64 (-985), .int .i64 2] 35)).ext hE7)
 replace hE := (hE.alloc _).trans hE7
 clear hE7
 obtain ⟨BY, hBY⟩ : ∃ BY, BY = w6.heap.size := ⟨_, rfl⟩
 rw [← hBY] at hY ⊢
 clear hBY
 have x0 : w7.cell? ⟨BX, 0, none⟩ = some (.string ⟨#[102, 111, 111, 100]⟩) := (hX.out.cell 0).trans rfl
 have x1 : w7.cell? ⟨BX, 1, none⟩ = some (.int .i64 5) := (hX.out.cell 1).trans rfl
 have x2 : w7.cell? ⟨BX, 2, none⟩ = some (.string ⟨#[99, 97, 116, 101, 103, 111, 114, 121, 61, 53, 52, 49, 49]⟩) := (hX.out.cell 2).trans rfl
 have x3 : w7.cell? ⟨BX, 3, none⟩ = some (.string ⟨#[97, 108, 108]⟩) := (hX.out.cell 3).trans rfl
 have x4 : w7.cell? ⟨BX, 4, none⟩ = some (.int .i64 2) := (hX.out.cell 4).trans rfl
 have x5 : w7.cell? ⟨BX, 5, none⟩ = some (.string ⟨#[]⟩) := (hX.out.cell 5).trans rfl
 have x6 : w7.cell? ⟨BX, 6, none⟩ = some (.string ⟨#[97, 108, 108]⟩) := (hX.out.cell 6).trans rfl
 have x7 : w7.cell? ⟨BX, 7, none⟩ = some (.int .i64 15) := (hX.out.cell 7).trans rfl
 have x8 : w7.cell? ⟨BX, 8, none⟩ = some (.string ⟨#[]⟩) := (hX.out.cell 8).trans rfl
 have x9 : w7.cell? ⟨BX, 9, none⟩ = some (.int .i64 (-1000)) := (hX.out.cell 9).trans rfl
 have x10 : w7.cell? ⟨BX, 10, none⟩ = some (.int .i64 5) := (hX.out.cell 10).trans rfl
 have x11 : w7.cell? ⟨BX, 11, none⟩ = some (.int .i64 8) := (hX.out.cell 11).trans rfl
 have x12 : w7.cell? ⟨BX, 12, none⟩ = some (.int .i64 985) := (hX.out.cell 12).trans rfl
 have x13 : w7.cell? ⟨BX, 13, none⟩ = some (.int .i64 2) := (hX.out.cell 13).trans rfl
 have y0 : w7.cell? ⟨BY, 0, none⟩ = some (.string ⟨#[114, 101, 115, 116]⟩) := (hY.out.cell 0).trans rfl
 have y1 : w7.cell? ⟨BY, 1, none⟩ = some (.int .i64 10) := (hY.out.cell 1).trans rfl
 have y2 : w7.cell? ⟨BY, 2, none⟩ = some (.string ⟨#[]⟩) := (hY.out.cell 2).trans rfl
 have y3 : w7.cell? ⟨BY, 3, none⟩ = some (.string ⟨#[97, 108, 108]⟩) := (hY.out.cell 3).trans rfl
 have y4 : w7.cell? ⟨BY, 4, none⟩ = some (.int .i64 2) := (hY.out.cell 4).trans rfl
 have y5 : w7.cell? ⟨BY, 5, none⟩ = some (.string ⟨#[]⟩) := (hY.out.cell 5).trans rfl
 have y6 : w7.cell? ⟨BY, 6, none⟩ = some (.string ⟨#[97, 108, 108]⟩) := (hY.out.cell 6).trans rfl
 have y7 : w7.cell? ⟨BY, 7, none⟩ = some (.int .i64 15) := (hY.out.cell 7).trans rfl
 have y8 : w7.cell? ⟨BY, 8, none⟩ = some (.string ⟨#[]⟩) := (hY.out.cell 8).trans rfl
 have y9 : w7.cell? ⟨BY, 9, none⟩ = some (.int .i64 1000) := (hY.out.cell 9).trans rfl
 have y10 : w7.cell? ⟨BY, 10, none⟩ = some (.int .i64 (-10)) := (hY.out.cell 10).trans rfl
 have y11 : w7.cell? ⟨BY, 11, none⟩ = some (.int .i64 (-7)) := (hY.out.cell 11).trans rfl
 have y12 : w7.cell? ⟨BY, 12, none⟩ = some (.int .i64 (-985)) := (hY.out.cell 12).trans rfl
 have y13 : w7.cell? ⟨BY, 13, none⟩ = some (.int .i64 2) := (hY.out.cell 13).trans rfl
 have xs := hX.out.lt
 have ys := hY.out.lt
 go_wp2_with fail
 have hN : Ext w7 ((w7.alloc (.cells #[.slice (some ⟨B7, 0, none⟩) 1 2, .slice (some ⟨B8, 0, none⟩) 1 1, .slice (some ⟨B9, 0, none⟩) 1 1] 24)).alloc (.cells #[.string ⟨#[102, 111, 111, 100]⟩, .int .i64 5, .string ⟨#[99, 97, 116, 101, 103, 111, 114, 121, 61, 53, 52, 49, 49]⟩, .string ⟨#[97, 108, 108]⟩, .int .i64 2, .string ⟨#[]⟩, .string ⟨#[97, 108, 108]⟩, .int .i64 15, .string ⟨#[]⟩, .int .i64 (-1000), .int .i64 5, .int .i64 8, .int .i64 985, .int .i64 2] 35)) := ((Ext.refl _).alloc _).alloc _
 refine (check38_at _ samT1 _ (hT.out.ext hN) sma_sam1 tab_sam1).mono ?_
 rintro e w8 ⟨rfl, hE8⟩
 replace hE8 := hN.trans hE8
 clear hT hN
 replace hX := Lib.hid (hX.out.ext hE8)
 replace hY := Lib.hid (hY.out.ext hE8)
 replace hE := hE.trans hE8
 clear hE8
 clear x0 y0 x1 y1 x2 y2 x3 y3 x4 y4 x5 y5 x6 y6 x7 y7 x8 y8 x9 y9 x10 y10 x11 y11 x12 y12 x13 y13 xs ys
 have x0 : w8.cell? ⟨BX, 0, none⟩ = some (.string ⟨#[102, 111, 111, 100]⟩) := (hX.out.cell 0).trans rfl
 have x1 : w8.cell? ⟨BX, 1, none⟩ = some (.int .i64 5) := (hX.out.cell 1).trans rfl
 have x2 : w8.cell? ⟨BX, 2, none⟩ = some (.string ⟨#[99, 97, 116, 101, 103, 111, 114, 121, 61, 53, 52, 49, 49]⟩) := (hX.out.cell 2).trans rfl
 have x3 : w8.cell? ⟨BX, 3, none⟩ = some (.string ⟨#[97, 108, 108]⟩) := (hX.out.cell 3).trans rfl
 have x4 : w8.cell? ⟨BX, 4, none⟩ = some (.int .i64 2) := (hX.out.cell 4).trans rfl
 have x5 : w8.cell? ⟨BX, 5, none⟩ = some (.string ⟨#[]⟩) := (hX.out.cell 5).trans rfl
 have x6 : w8.cell? ⟨BX, 6, none⟩ = some (.string ⟨#[97, 108, 108]⟩) := (hX.out.cell 6).trans rfl
 have x7 : w8.cell? ⟨BX, 7, none⟩ = some (.int .i64 15) := (hX.out.cell 7).trans rfl
 have x8 : w8.cell? ⟨BX, 8, none⟩ = some (.string ⟨#[]⟩) := (hX.out.cell 8).trans rfl
 have x9 : w8.cell? ⟨BX, 9, none⟩ = some (.int .i64 (-1000)) := (hX.out.cell 9).trans rfl
 have x10 : w8.cell? ⟨BX, 10, none⟩ = some (.int .i64 5) := (hX.out.cell 10).trans rfl
 have x11 : w8.cell? ⟨BX, 11, none⟩ = some (.int .i64 8) := (hX.out.cell 11).trans rfl
 have x12 : w8.cell? ⟨BX, 12, none⟩ = some (.int .i64 985) := (hX.out.cell 12).trans rfl
 have x13 : w8.cell? ⟨BX, 13, none⟩ = some (.int .i64 2) := (hX.out.cell 13).trans rfl
 go_wp2_with fail
 refine (bal_at resX _ bal_x).mono ?_
 rintro e w9 ⟨rfl, hE9⟩
 clear x0 x1 x2 x3 x4 x5 x6 x7 x8 x9 x10 x11 x12 x13
 replace hX := Lib.hid (hX.out.ext hE9)
 replace hY := Lib.hid (hY.out.ext hE9)
 replace hE := hE.trans hE9
 clear hE9
 have y0 : w9.cell? ⟨BY, 0, none⟩ = some (.string ⟨#[114, 101, 115, 116]⟩) := (hY.out.cell 0).trans rfl
 have y1 : w9.cell? ⟨BY, 1, none⟩ = some (.int .i64 10) := (hY.out.cell 1).trans rfl
 have y2 : w9.cell? ⟨BY, 2, none⟩ = some (.string ⟨#[]⟩) := (hY.out.cell 2).trans rfl
 have y3 : w9.cell? ⟨BY, 3, none⟩ = some (.string ⟨#[97, 108, 108]⟩) := (hY.out.cell 3).trans rfl
 have y4 : w9.cell? ⟨BY, 4, none⟩ = some (.int .i64 2) := (hY.out.cell 4).trans rfl
 have y5 : w9.cell? ⟨BY, 5, none⟩ = some (.string ⟨#[]⟩) := (hY.out.cell 5).trans rfl
 have y6 : w9.cell? ⟨BY, 6, none⟩ = some (.string ⟨#[97, 108, 108]⟩) := (hY.out.cell 6).trans rfl
 have y7 : w9.cell? ⟨BY, 7, none⟩ = some (.int .i64 15) := (hY.out.cell 7).trans rfl
 have y8 : w9.cell? ⟨BY, 8, none⟩ = some (.string ⟨#[]⟩) := (hY.out.cell 8).trans rfl
 have y9 : w9.cell? ⟨BY, 9, none⟩ = some (.int .i64 1000) := (hY.out.cell 9).trans rfl
 have y10 : w9.cell? ⟨BY, 10, none⟩ = some (.int .i64 (-10)) := (hY.out.cell 10).trans rfl
 have y11 : w9.cell? ⟨BY, 11, none⟩ = some (.int .i64 (-7)) := (hY.out.cell 11).trans rfl
 have y12 : w9.cell? ⟨BY, 12, none⟩ = some (.int .i64 (-985)) := (hY.out.cell 12).trans rfl
 have y13 : w9.cell? ⟨BY, 13, none⟩ = some (.int .i64 2) := (hY.out.cell 13).trans rfl
 go_wp2_with fail
 refine (bal_at resY _ bal_y).mono ?_
 rintro e w10 ⟨rfl, hE10⟩
 clear y0 y1 y2 y3 y4 y5 y6 y7 y8 y9 y10 y11 y12 y13
 replace hX := Lib.hid (hX.out.ext hE10)
 replace hE := hE.trans hE10
 clear hE10
 go_wp2_with fail
 refine (bal_at ⟨lineD, lineD, lineD, 0, 0, 0, 1, 0⟩ _ bal_z).mono ?_
 rintro e w11 ⟨rfl, hE11⟩
 replace hX := Lib.hid (hX.out.ext hE11)
 replace hE := hE.trans hE11
 clear hE11
 have x0 : w11.cell? ⟨BX, 0, none⟩ = some (.string ⟨#[102, 111, 111, 100]⟩) := (hX.out.cell 0).trans rfl
 have x1 : w11.cell? ⟨BX, 1, none⟩ = some (.int .i64 5) := (hX.out.cell 1).trans rfl
 have x2 : w11.cell? ⟨BX, 2, none⟩ = some (.string ⟨#[99, 97, 116, 101, 103, 111, 114, 121, 61, 53, 52, 49, 49]⟩) := (hX.out.cell 2).trans rfl
 have x3 : w11.cell? ⟨BX, 3, none⟩ = some (.string ⟨#[97, 108, 108]⟩) := (hX.out.cell 3).trans rfl
 have x4 : w11.cell? ⟨BX, 4, none⟩ = some (.int .i64 2) := (hX.out.cell 4).trans rfl
 have x5 : w11.cell? ⟨BX, 5, none⟩ = some (.string ⟨#[]⟩) := (hX.out.cell 5).trans rfl
 have x6 : w11.cell? ⟨BX, 6, none⟩ = some (.string ⟨#[97, 108, 108]⟩) := (hX.out.cell 6).trans rfl
 have x7 : w11.cell? ⟨BX, 7, none⟩ = some (.int .i64 15) := (hX.out.cell 7).trans rfl
 have x8 : w11.cell? ⟨BX, 8, none⟩ = some (.string ⟨#[]⟩) := (hX.out.cell 8).trans rfl
 have x9 : w11.cell? ⟨BX, 9, none⟩ = some (.int .i64 (-1000)) := (hX.out.cell 9).trans rfl
 have x10 : w11.cell? ⟨BX, 10, none⟩ = some (.int .i64 5) := (hX.out.cell 10).trans rfl
 have x11 : w11.cell? ⟨BX, 11, none⟩ = some (.int .i64 8) := (hX.out.cell 11).trans rfl
 have x12 : w11.cell? ⟨BX, 12, none⟩ = some (.int .i64 985) := (hX.out.cell 12).trans rfl
 have x13 : w11.cell? ⟨BX, 13, none⟩ = some (.int .i64 2) := (hX.out.cell 13).trans rfl
 go_wp2_with fail
 refine (explain_x _ (g.out.ext hE)).mono ?_
 rintro e w12 ⟨rfl, hE12⟩
 clear x0 x1 x2 x3 x4 x5 x6 x7 x8 x9 x10 x11 x12 x13
 replace hE := hE.trans hE12
 clear hE12
 have d : (expS.toList == [105, 110, 116, 101, 114, 99, 104, 97, 110, 103, 101, 32, 102, 111, 111, 100, 32, 53, 32, 98, 101, 99, 97, 117, 115, 101, 32, 99, 97, 116, 101, 103, 111, 114, 121, 61, 53, 52, 49, 49, 10, 115, 99, 104, 101, 109, 101, 32, 97, 108, 108, 32, 50, 10, 109, 101, 114, 99, 104, 97, 110, 116, 32, 97, 108, 108, 32, 49, 53, 10, 99, 97, 114, 100, 104, 111, 108, 100, 101, 114, 32, 45, 49, 48, 48, 48, 10, 105, 115, 115, 117, 101, 114, 32, 53, 10, 97, 99, 113, 117, 105, 114, 101, 114, 32, 56, 10, 115, 104, 111, 112, 32, 57, 56, 53, 10, 110, 101, 116, 119, 111, 114, 107, 32, 50, 10]) = true := by rw [ByteArray.toList_eq]; rfl
 go_wp2
 go_ret
 exact ⟨rfl, hE⟩
end Go.Proofs.YtmnhmkjmcckneaaGreatDoor
