/- The walk of the law ExprOrders (printed by gen/elo.py). -/
import Derived.Test.YtpdpjindmghfpaaEaw
namespace Go.Proofs.Ytpdpjindmghfpaa
open Go.RowKit
theorem feats_four {w : World} {B : Nat} {a b pn qn : Int} {T : TypeId} (h : Blk w B #[.string ⟨#[97]⟩, .int .i64 1, .int .i64 a, .string ⟨#[]⟩, .string ⟨#[98]⟩, .int .i64 1, .int .i64 b, .string ⟨#[]⟩, .string ⟨#[112]⟩, .int .i64 3, .int .i64 pn, .string ⟨#[]⟩, .string ⟨#[113]⟩, .int .i64 3, .int .i64 qn, .string ⟨#[]⟩] T) : Feats w (.slice (some ⟨B, 0, none⟩) 4 4) (ordL a b pn qn) := by
  refine ⟨by simp [ordL], Or.inr ⟨B, 0, 4, rfl, fun i hi => ?_⟩⟩
  have hi : i < 4 := hi
  match i, hi with
  | 0, _ => exact ⟨(h.cell 0).trans rfl, (h.cell 1).trans rfl, (h.cell 2).trans rfl, (h.cell 3).trans rfl⟩
  | 1, _ => exact ⟨(h.cell 4).trans rfl, (h.cell 5).trans rfl, (h.cell 6).trans rfl, (h.cell 7).trans rfl⟩
  | 2, _ => exact ⟨(h.cell 8).trans rfl, (h.cell 9).trans rfl, (h.cell 10).trans rfl, (h.cell 11).trans rfl⟩
  | 3, _ => exact ⟨(h.cell 12).trans rfl, (h.cell 13).trans rfl, (h.cell 14).trans rfl, (h.cell 15).trans rfl⟩
theorem is_at {w : World} {v : Value} (x : Ex) (hS : ExS w v x.args) (fv : Value) (l : List Feat) (hF : Feats w fv l) {b : Bool} (h : isV (evalV x l nilS) = b) : Calls Try.prog 8 #[exAgg x v, fv] w (OneV (.bool b) w) := by
  have k := is_any x hS fv l hF
  rw [h] at k
  exact k
theorem isV_and (p q : Bool) : isV ((if ofB p = 0 then (⟨emS, 3, ofB p, emS⟩ : Feat) else ⟨emS, 3, ofB q, emS⟩), 0) = (p && q) := by cases p <;> cases q <;> rfl
theorem isV_not (p q : Bool) : isV (truthF (decide (ofB p = 0) && decide (ofB q = 0)), 0) = (!p && !q) := by cases p <;> cases q <;> rfl
theorem ofB_two (p : Bool) : ofB p = 0 ∨ ofB p = 1 := by cases p <;> simp [ofB]
/-- A name in a cell of its own. -/
def leafC (s : ByteArray) : Array Value := #[.int .i64 3, .string s, .string ⟨#[]⟩, .int .i64 0, .slice none 0 0]
set_option maxRecDepth 8000 in
set_option maxHeartbeats 8000000 in
theorem law_orders (a b : Int) (p q : Bool) (w : World) (ha : -2147483648 ≤ a ∧ a ≤ 2147483647) (hb : -2147483648 ≤ b ∧ b ≤ 2147483647) : Calls Try.prog 3 #[.int .i32 a, .int .i32 b, .bool p, .bool q] w (OneV (.bool true) w) := by
  have hN : namesE [] (ordL a b (ofB p) (ofB q)) = 0 := ord_names (by simp only [nbr_iff]; omega) (by simp only [nbr_iff]; omega) (ofB_two p) (ofB_two q)
  have wa : wrap64 a = a := wrap64_id a (by omega) (by omega)
  have wb : wrap64 b = b := wrap64_id b (by omega) (by omega)
  have i1 : isV (evalV (exTwo 10 (leafS ⟨#[97]⟩) (leafS ⟨#[98]⟩)) (ordL a b (ofB p) (ofB q)) nilS) = decide (a < b) := by rw [ord_cmp a b _ _ hN nilS 10 (by decide) (by decide), isV_truth]; rfl
  have i2 : isV (evalV (exTwo 11 (leafS ⟨#[97]⟩) (leafS ⟨#[98]⟩)) (ordL a b (ofB p) (ofB q)) nilS) = decide (a ≤ b) := by rw [ord_cmp a b _ _ hN nilS 11 (by decide) (by decide), isV_truth]; rfl
  have i3 : isV (evalV (exTwo 8 (leafS ⟨#[97]⟩) (leafS ⟨#[98]⟩)) (ordL a b (ofB p) (ofB q)) nilS) = decide (a = b) := by rw [ord_cmp a b _ _ hN nilS 8 (by decide) (by decide), isV_truth]; rfl
  have i4 : isV (evalV (exTwo 9 (leafS ⟨#[97]⟩) (leafS ⟨#[98]⟩)) (ordL a b (ofB p) (ofB q)) nilS) = decide (a ≠ b) := by rw [ord_cmp a b _ _ hN nilS 9 (by decide) (by decide), isV_truth]; rfl
  have i5 : isV (evalV (exTwo 6 (leafS ⟨#[112]⟩) (leafS ⟨#[113]⟩)) (ordL a b (ofB p) (ofB q)) nilS) = (p && q) := by rw [ord_and a b _ _ hN nilS (ofB_two p), isV_and]
  have i6 : isV (evalV (.mk 4 emS emS 0 [exTwo 7 (leafS ⟨#[112]⟩) (leafS ⟨#[113]⟩)]) (ordL a b (ofB p) (ofB q)) nilS) = (!p && !q) := by rw [ord_not a b _ _ hN nilS (ofB_two p), isV_not]
  have i7 : isV (evalV (.mk 15 emS emS 0 [leafS ⟨#[97]⟩, leafS ⟨#[98]⟩, leafS ⟨#[97]⟩]) (ordL a b (ofB p) (ofB q)) nilS) = true := by rw [ord_in a b _ _ hN nilS, isV_truth]
  have e3 : decide (a = b) = (a == b) := by by_cases h : a = b <;> simp [h]
  have e4 : decide (a ≠ b) = (a != b) := by by_cases h : a = b <;> simp [h]
  rw [e3] at i3
  rw [e4] at i4
  clear hN e3 e4
  replace i1 := Lib.hid i1
  replace i2 := Lib.hid i2
  replace i3 := Lib.hid i3
  replace i4 := Lib.hid i4
  replace i5 := Lib.hid i5
  replace i6 := Lib.hid i6
  replace i7 := Lib.hid i7
  clear ha hb

  cases p <;> cases q
  all_goals
    go_enter Try.func3, Try.ntmps3
    go_wp2_with fail
    refine (mkName_any ⟨#[97]⟩ _).mono ?_
    rintro e w1 ⟨rfl, hE9⟩
    have hF := Lib.hid (feats_four (a := a) (b := b) (Blk.ext (by first | exact Blk.new _ _ _ | exact (Blk.new _ _ _).set 10 _ | exact (Blk.new _ _ _).set 14 _ | exact ((Blk.new _ _ _).set 10 _).set 14 _) hE9))
    have hE : Ext w w1 := Ext.trans (by repeat (first | with_reducible exact Ext.refl _ | with_reducible exact hE0 | with_reducible exact hE | with_reducible refine Ext.alloc ?_ _ | with_reducible refine Ext.drewN ?_ _ | with_reducible refine Ext.drew ?_ | ((with_reducible refine Ext.setCell ?_ ?side _); (case side => first | exact Nat.le_refl _ | (simp; done) | (simp; omega))))) hE9
    clear hE9
    go_wp2_with fail
    refine (mkName_any ⟨#[98]⟩ _).mono ?_
    rintro e w2 ⟨rfl, hE9⟩
    replace hF := Lib.hid (hF.out.ext hE9)
    replace hE := hE.trans hE9
    clear hE9
    go_wp2_with fail
    refine (mkName_any ⟨#[112]⟩ _).mono ?_
    rintro e w3 ⟨rfl, hE9⟩
    replace hF := Lib.hid (hF.out.ext hE9)
    replace hE := hE.trans hE9
    clear hE9
    go_wp2_with fail
    refine (mkName_any ⟨#[113]⟩ _).mono ?_
    rintro e w4 ⟨rfl, hE9⟩
    replace hF := Lib.hid (hF.out.ext hE9)
    replace hE := hE.trans hE9
    clear hE9
    go_wp2_with fail
    refine (two_any 7 (leafS ⟨#[112]⟩) (leafS ⟨#[113]⟩) none none 0 0 0 0 _ (.nil _ _) (.nil _ _)).mono ?_
    rintro e w5 ⟨pO, cO, rfl, hO, hE9⟩
    have hE8 : Ext w4 w5 := Ext.trans (by repeat (first | with_reducible exact Ext.refl _ | with_reducible exact hE0 | with_reducible exact hE | with_reducible refine Ext.alloc ?_ _ | with_reducible refine Ext.drewN ?_ _ | with_reducible refine Ext.drew ?_ | ((with_reducible refine Ext.setCell ?_ ?side _); (case side => first | exact Nat.le_refl _ | (simp; done) | (simp; omega))))) hE9
    have hBx := Lib.hid (Blk.ext (((Blk.new w4 #[.int .i64 3, .string ⟨#[97]⟩, .string ⟨#[]⟩, .int .i64 0, .slice none 0 0] 27).alloc _ |>.alloc _ |>.alloc _)) hE9)
    have hBy := Lib.hid (Blk.ext (((Blk.new' _ #[.int .i64 3, .string ⟨#[98]⟩, .string ⟨#[]⟩, .int .i64 0, .slice none 0 0] 27 (w4.heap.size + 1) (by simp)).alloc _ |>.alloc _)) hE9)
    have hBu := Lib.hid (Blk.ext (((Blk.new' _ #[.int .i64 3, .string ⟨#[112]⟩, .string ⟨#[]⟩, .int .i64 0, .slice none 0 0] 27 (w4.heap.size + 1 + 1) (by simp)).alloc _)) hE9)
    have hBv := Lib.hid (Blk.ext ((Blk.new' _ #[.int .i64 3, .string ⟨#[113]⟩, .string ⟨#[]⟩, .int .i64 0, .slice none 0 0] 27 (w4.heap.size + 1 + 1 + 1) (by simp))) hE9)
    clear hE9
    replace hO := Lib.hid hO
    replace hF := Lib.hid (hF.out.ext hE8)
    replace hE := hE.trans hE8
    clear hE8
    generalize w4.heap.size + 1 + 1 + 1 = Bv at *
    generalize w4.heap.size + 1 + 1 = Bu at *
    generalize w4.heap.size + 1 = By at *
    generalize w4.heap.size = Bx at *
    have x0 := hBx.out.cell 0
    have x1 := hBx.out.cell 1
    have x2 := hBx.out.cell 2
    have x3 := hBx.out.cell 3
    have x4 := hBx.out.cell 4
    have xs := hBx.out.lt
    have y0 := hBy.out.cell 0
    have y1 := hBy.out.cell 1
    have y2 := hBy.out.cell 2
    have y3 := hBy.out.cell 3
    have y4 := hBy.out.cell 4
    have ys := hBy.out.lt
    simp at x0 x1 x2 x3 x4 y0 y1 y2 y3 y4
    go_wp2_with fail
    refine (two_any 10 (leafS ⟨#[97]⟩) (leafS ⟨#[98]⟩) none none 0 0 0 0 _ (.nil _ _) (.nil _ _)).mono ?_
    rintro e w6 ⟨pX, cX, rfl, hX, hE9⟩
    clear x0 x1 x2 x3 x4 xs y0 y1 y2 y3 y4 ys
    have hE8 : Ext w5 w6 := Ext.trans (by repeat (first | with_reducible exact Ext.refl _ | with_reducible exact hE0 | with_reducible exact hE | with_reducible refine Ext.alloc ?_ _ | with_reducible refine Ext.drewN ?_ _ | with_reducible refine Ext.drew ?_ | ((with_reducible refine Ext.setCell ?_ ?side _); (case side => first | exact Nat.le_refl _ | (simp; done) | (simp; omega))))) hE9
    have hNb := (Blk.new w5 #[.int .i64 7, .string ⟨#[]⟩, .string ⟨#[]⟩, .int .i64 0, .slice pO 2 cO] 27).alloc (.cells #[.int .i64 4, .string ⟨#[]⟩, .string ⟨#[]⟩, .int .i64 0, .slice (some ⟨w5.heap.size, 0, none⟩) 1 1] 27)
    have hBn := Lib.hid ((Blk.new' (w5.alloc (.cells #[.int .i64 7, .string ⟨#[]⟩, .string ⟨#[]⟩, .int .i64 0, .slice pO 2 cO] 27)) #[.int .i64 4, .string ⟨#[]⟩, .string ⟨#[]⟩, .int .i64 0, .slice (some ⟨w5.heap.size, 0, none⟩) 1 1] 27 (w5.heap.size + 1) (by simp)).ext hE9)
    have hT := Lib.hid (exs_one (x := exTwo 7 (leafS ⟨#[112]⟩) (leafS ⟨#[113]⟩)) (c := 1) (hNb.ext hE9) (hO.out.ext hE8) (by omega))
    clear hE9 hNb hO
    replace hX := Lib.hid hX
    replace hF := Lib.hid (hF.out.ext hE8)
    replace hBx := Lib.hid (hBx.out.ext hE8)
    replace hBy := Lib.hid (hBy.out.ext hE8)
    replace hBu := Lib.hid (hBu.out.ext hE8)
    replace hBv := Lib.hid (hBv.out.ext hE8)
    replace hE := hE.trans hE8
    clear hE8
    generalize w5.heap.size + 1 = Bn at *
    generalize w5.heap.size = Bm at *
    go_wp2_with fail
    refine (is_at (exTwo 10 (leafS ⟨#[97]⟩) (leafS ⟨#[98]⟩)) hX.out _ (ordL a b _ _) hF.out i1.out).mono ?_
    rintro e w7 ⟨rfl, hE9⟩
    clear hX
    replace hF := Lib.hid (hF.out.ext hE9)
    replace hT := Lib.hid (hT.out.ext hE9)
    replace hBx := Lib.hid (hBx.out.ext hE9)
    replace hBy := Lib.hid (hBy.out.ext hE9)
    replace hBu := Lib.hid (hBu.out.ext hE9)
    replace hBv := Lib.hid (hBv.out.ext hE9)
    replace hBn := Lib.hid (hBn.out.ext hE9)
    replace hE := hE.trans hE9
    clear hE9
    have x0 := hBx.out.cell 0
    have x1 := hBx.out.cell 1
    have x2 := hBx.out.cell 2
    have x3 := hBx.out.cell 3
    have x4 := hBx.out.cell 4
    have xs := hBx.out.lt
    have y0 := hBy.out.cell 0
    have y1 := hBy.out.cell 1
    have y2 := hBy.out.cell 2
    have y3 := hBy.out.cell 3
    have y4 := hBy.out.cell 4
    have ys := hBy.out.lt
    simp at x0 x1 x2 x3 x4 y0 y1 y2 y3 y4
    go_wp2_with fail
    refine (two_any 11 (leafS ⟨#[97]⟩) (leafS ⟨#[98]⟩) none none 0 0 0 0 _ (.nil _ _) (.nil _ _)).mono ?_
    rintro e w8 ⟨pX, cX, rfl, hX, hE9⟩
    clear x0 x1 x2 x3 x4 xs y0 y1 y2 y3 y4 ys
    replace hX := Lib.hid hX
    replace hF := Lib.hid (hF.out.ext hE9)
    replace hT := Lib.hid (hT.out.ext hE9)
    replace hBx := Lib.hid (hBx.out.ext hE9)
    replace hBy := Lib.hid (hBy.out.ext hE9)
    replace hBu := Lib.hid (hBu.out.ext hE9)
    replace hBv := Lib.hid (hBv.out.ext hE9)
    replace hBn := Lib.hid (hBn.out.ext hE9)
    replace hE := hE.trans hE9
    clear hE9
    go_wp2_with fail
    refine (is_at (exTwo 11 (leafS ⟨#[97]⟩) (leafS ⟨#[98]⟩)) hX.out _ (ordL a b _ _) hF.out i2.out).mono ?_
    rintro e w9 ⟨rfl, hE9⟩
    clear hX
    replace hF := Lib.hid (hF.out.ext hE9)
    replace hT := Lib.hid (hT.out.ext hE9)
    replace hBx := Lib.hid (hBx.out.ext hE9)
    replace hBy := Lib.hid (hBy.out.ext hE9)
    replace hBu := Lib.hid (hBu.out.ext hE9)
    replace hBv := Lib.hid (hBv.out.ext hE9)
    replace hBn := Lib.hid (hBn.out.ext hE9)
    replace hE := hE.trans hE9
    clear hE9
    have x0 := hBx.out.cell 0
    have x1 := hBx.out.cell 1
    have x2 := hBx.out.cell 2
    have x3 := hBx.out.cell 3
    have x4 := hBx.out.cell 4
    have xs := hBx.out.lt
    have y0 := hBy.out.cell 0
    have y1 := hBy.out.cell 1
    have y2 := hBy.out.cell 2
    have y3 := hBy.out.cell 3
    have y4 := hBy.out.cell 4
    have ys := hBy.out.lt
    simp at x0 x1 x2 x3 x4 y0 y1 y2 y3 y4
    go_wp2_with fail
    refine (two_any 8 (leafS ⟨#[97]⟩) (leafS ⟨#[98]⟩) none none 0 0 0 0 _ (.nil _ _) (.nil _ _)).mono ?_
    rintro e w10 ⟨pX, cX, rfl, hX, hE9⟩
    clear x0 x1 x2 x3 x4 xs y0 y1 y2 y3 y4 ys
    replace hX := Lib.hid hX
    replace hF := Lib.hid (hF.out.ext hE9)
    replace hT := Lib.hid (hT.out.ext hE9)
    replace hBx := Lib.hid (hBx.out.ext hE9)
    replace hBy := Lib.hid (hBy.out.ext hE9)
    replace hBu := Lib.hid (hBu.out.ext hE9)
    replace hBv := Lib.hid (hBv.out.ext hE9)
    replace hBn := Lib.hid (hBn.out.ext hE9)
    replace hE := hE.trans hE9
    clear hE9
    go_wp2_with fail
    refine (is_at (exTwo 8 (leafS ⟨#[97]⟩) (leafS ⟨#[98]⟩)) hX.out _ (ordL a b _ _) hF.out i3.out).mono ?_
    rintro e w11 ⟨rfl, hE9⟩
    clear hX
    replace hF := Lib.hid (hF.out.ext hE9)
    replace hT := Lib.hid (hT.out.ext hE9)
    replace hBx := Lib.hid (hBx.out.ext hE9)
    replace hBy := Lib.hid (hBy.out.ext hE9)
    replace hBu := Lib.hid (hBu.out.ext hE9)
    replace hBv := Lib.hid (hBv.out.ext hE9)
    replace hBn := Lib.hid (hBn.out.ext hE9)
    replace hE := hE.trans hE9
    clear hE9
    have x0 := hBx.out.cell 0
    have x1 := hBx.out.cell 1
    have x2 := hBx.out.cell 2
    have x3 := hBx.out.cell 3
    have x4 := hBx.out.cell 4
    have xs := hBx.out.lt
    have y0 := hBy.out.cell 0
    have y1 := hBy.out.cell 1
    have y2 := hBy.out.cell 2
    have y3 := hBy.out.cell 3
    have y4 := hBy.out.cell 4
    have ys := hBy.out.lt
    simp at x0 x1 x2 x3 x4 y0 y1 y2 y3 y4
    go_wp2_with fail
    refine (two_any 9 (leafS ⟨#[97]⟩) (leafS ⟨#[98]⟩) none none 0 0 0 0 _ (.nil _ _) (.nil _ _)).mono ?_
    rintro e w12 ⟨pX, cX, rfl, hX, hE9⟩
    clear x0 x1 x2 x3 x4 xs y0 y1 y2 y3 y4 ys
    replace hX := Lib.hid hX
    replace hF := Lib.hid (hF.out.ext hE9)
    replace hT := Lib.hid (hT.out.ext hE9)
    replace hBx := Lib.hid (hBx.out.ext hE9)
    replace hBy := Lib.hid (hBy.out.ext hE9)
    replace hBu := Lib.hid (hBu.out.ext hE9)
    replace hBv := Lib.hid (hBv.out.ext hE9)
    replace hBn := Lib.hid (hBn.out.ext hE9)
    replace hE := hE.trans hE9
    clear hE9
    go_wp2_with fail
    refine (is_at (exTwo 9 (leafS ⟨#[97]⟩) (leafS ⟨#[98]⟩)) hX.out _ (ordL a b _ _) hF.out i4.out).mono ?_
    rintro e w13 ⟨rfl, hE9⟩
    clear hX
    replace hF := Lib.hid (hF.out.ext hE9)
    replace hT := Lib.hid (hT.out.ext hE9)
    replace hBx := Lib.hid (hBx.out.ext hE9)
    replace hBy := Lib.hid (hBy.out.ext hE9)
    replace hBu := Lib.hid (hBu.out.ext hE9)
    replace hBv := Lib.hid (hBv.out.ext hE9)
    replace hBn := Lib.hid (hBn.out.ext hE9)
    replace hE := hE.trans hE9
    clear hE9
    have u0 := hBu.out.cell 0
    have u1 := hBu.out.cell 1
    have u2 := hBu.out.cell 2
    have u3 := hBu.out.cell 3
    have u4 := hBu.out.cell 4
    have us := hBu.out.lt
    have v0 := hBv.out.cell 0
    have v1 := hBv.out.cell 1
    have v2 := hBv.out.cell 2
    have v3 := hBv.out.cell 3
    have v4 := hBv.out.cell 4
    have vs := hBv.out.lt
    simp at u0 u1 u2 u3 u4 v0 v1 v2 v3 v4
    go_wp2_with fail
    refine (two_any 6 (leafS ⟨#[112]⟩) (leafS ⟨#[113]⟩) none none 0 0 0 0 _ (.nil _ _) (.nil _ _)).mono ?_
    rintro e w14 ⟨pX, cX, rfl, hX, hE9⟩
    clear u0 u1 u2 u3 u4 us v0 v1 v2 v3 v4 vs
    replace hX := Lib.hid hX
    replace hF := Lib.hid (hF.out.ext hE9)
    replace hT := Lib.hid (hT.out.ext hE9)
    replace hBx := Lib.hid (hBx.out.ext hE9)
    replace hBy := Lib.hid (hBy.out.ext hE9)
    replace hBu := Lib.hid (hBu.out.ext hE9)
    replace hBv := Lib.hid (hBv.out.ext hE9)
    replace hBn := Lib.hid (hBn.out.ext hE9)
    replace hE := hE.trans hE9
    clear hE9
    go_wp2_with fail
    refine (is_at (exTwo 6 (leafS ⟨#[112]⟩) (leafS ⟨#[113]⟩)) hX.out _ (ordL a b _ _) hF.out i5.out).mono ?_
    rintro e w15 ⟨rfl, hE9⟩
    clear hX
    replace hF := Lib.hid (hF.out.ext hE9)
    replace hT := Lib.hid (hT.out.ext hE9)
    replace hBx := Lib.hid (hBx.out.ext hE9)
    replace hBy := Lib.hid (hBy.out.ext hE9)
    replace hBu := Lib.hid (hBu.out.ext hE9)
    replace hBv := Lib.hid (hBv.out.ext hE9)
    replace hBn := Lib.hid (hBn.out.ext hE9)
    replace hE := hE.trans hE9
    clear hE9
    have n0 := hBn.out.cell 0
    have n1 := hBn.out.cell 1
    have n2 := hBn.out.cell 2
    have n3 := hBn.out.cell 3
    have n4 := hBn.out.cell 4
    have ns := hBn.out.lt
    simp at n0 n1 n2 n3 n4
    go_wp2_with fail
    refine (is_at (.mk 4 emS emS 0 [exTwo 7 (leafS ⟨#[112]⟩) (leafS ⟨#[113]⟩)]) hT.out _ (ordL a b _ _) hF.out i6.out).mono ?_
    rintro e w16 ⟨rfl, hE9⟩
    clear n0 n1 n2 n3 n4 ns
    clear hT
    replace hF := Lib.hid (hF.out.ext hE9)
    replace hBx := Lib.hid (hBx.out.ext hE9)
    replace hBy := Lib.hid (hBy.out.ext hE9)
    replace hBu := Lib.hid (hBu.out.ext hE9)
    replace hBv := Lib.hid (hBv.out.ext hE9)
    replace hBn := Lib.hid (hBn.out.ext hE9)
    replace hE := hE.trans hE9
    clear hE9
    have x0 := hBx.out.cell 0
    have x1 := hBx.out.cell 1
    have x2 := hBx.out.cell 2
    have x3 := hBx.out.cell 3
    have x4 := hBx.out.cell 4
    have xs := hBx.out.lt
    have y0 := hBy.out.cell 0
    have y1 := hBy.out.cell 1
    have y2 := hBy.out.cell 2
    have y3 := hBy.out.cell 3
    have y4 := hBy.out.cell 4
    have ys := hBy.out.lt
    simp at x0 x1 x2 x3 x4 y0 y1 y2 y3 y4
    have hI := exs_three (x := leafS ⟨#[97]⟩) (y := leafS ⟨#[98]⟩) (z := leafS ⟨#[97]⟩) (c := 3) (Blk.new w16 #[.int .i64 3, .string ⟨#[97]⟩, .string ⟨#[]⟩, .int .i64 0, .slice none 0 0, .int .i64 3, .string ⟨#[98]⟩, .string ⟨#[]⟩, .int .i64 0, .slice none 0 0, .int .i64 3, .string ⟨#[97]⟩, .string ⟨#[]⟩, .int .i64 0, .slice none 0 0] 27) (.nil none 0) (.nil none 0) (.nil none 0) (by omega)
    replace hI := Lib.hid hI
    go_wp2_with fail
    refine (is_at (.mk 15 emS emS 0 [leafS ⟨#[97]⟩, leafS ⟨#[98]⟩, leafS ⟨#[97]⟩]) hI.out _ (ordL a b _ _) (hF.out.ext ((Ext.refl _).alloc _)) i7.out).mono ?_
    rintro e w17 ⟨rfl, hE9⟩
    clear x0 x1 x2 x3 x4 xs y0 y1 y2 y3 y4 ys
    replace hE := (hE.alloc _).trans hE9
    clear hE9 hI hF hBx hBy hBu hBv hBn
    go_wp2_with fail
    refine (awake_any _).mono ?_
    rintro e w18 ⟨rfl, hE9⟩
    replace hE := hE.trans hE9
    clear hE9
    go_wp2
    go_ret
    exact ⟨rfl, hE⟩
end Go.Proofs.Ytpdpjindmghfpaa
