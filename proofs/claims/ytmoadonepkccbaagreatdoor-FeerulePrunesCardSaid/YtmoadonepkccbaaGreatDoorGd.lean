/- Contracts of the reference's Fold, folds, Total (walks; printed by gen/g12.py). -/
import Derived.Test.YtmoadonepkccbaaGreatDoorGc
import Derived.Test.YtmoadonepkccbaaGreatDoorFx
namespace Go.Proofs.YtmoadonepkccbaaGreatDoor
open Go.RowKit
theorem unDr {a b : World} (h : Ext a.drew b) : Ext a b := Ext.trans (Ext.refl _).drew h
theorem exAt {w z u : World} (_ : Ext w z) (h : Ext z u) : Ext z u := h
theorem FoP.of {y : Ex} {w : World} {e : Ending} {w' : World} (h : ExP y w e w') : FoP y w e w' := by
  obtain ⟨p, c, he, hB, hE⟩ := h
  exact ⟨p, c, he, hB.toS, hE⟩
set_option maxRecDepth 8000 in
set_option maxHeartbeats 4000000 in
theorem rFold_any {w : World} {v : Value} (x : Ex) (hS : ExS w v x.args) (hok : StrOk [x]) (hp : x.parts.length ≤ 999999) (hl : x.levels ≤ 1000000) : Calls Tryz.prog 107 #[exAgg x v] w (FoP (foldTop x) w) := by
  obtain ⟨q, cp, rfl⟩ := hS.form
  have hD := Lib.hid (fun w1 (h : Ext w w1) => rlevels_any hS x rfl w1 h hl)
  have hF := Lib.hid (fun w1 (h : Ext w w1) => rwell_any hS x rfl hok w1 h)
  have hO := Lib.hid (fun w1 (h : Ext w w1) => rfold_any hS x rfl hok w1 h hp)
  have hT : foldTop x = if 8 < x.levels ∨ x.formed = false then x else x.foldV := rfl
  obtain ⟨op, nm, tx, n, args⟩ := x
  clear hp hok
  generalize foldTop (.mk op nm tx n args) = T at *
  generalize (Ex.mk op nm tx n args).foldV = V at *
  simp only [exAgg_mk, Ex.args] at hD hF hO hS ⊢
  generalize (Ex.mk op nm tx n args).levels = L at *
  generalize (Ex.mk op nm tx n args).formed = Fm at *
  replace hT := Lib.hid hT
  replace hS := Lib.hid hS
  go_enter Tryz.func107, Tryz.ntmps107
  go_wp2_with fail
  refine (hD.out _ (by repeat (first | with_reducible exact Ext.refl _ | with_reducible exact hE0 | with_reducible exact hE | with_reducible refine Ext.alloc ?_ _ | with_reducible refine Ext.drewN ?_ _ | with_reducible refine Ext.drew ?_ | ((with_reducible refine Ext.setCell ?_ ?side _); (case side => first | exact Nat.le_refl _ | (simp; done) | (simp; omega)))))).mono ?_
  rintro e w1 ⟨rfl, hE1⟩
  have hbx : Blk ((w.alloc (.cells #[.int .i64 op, .string nm, .string tx, .int .i64 n, .slice q args.length cp] 40)).alloc (.cells #[.int .i64 0, .string ⟨#[]⟩, .string ⟨#[]⟩, .int .i64 0, .slice none 0 0] 40)) w.heap.size #[.int .i64 op, .string nm, .string tx, .int .i64 n, .slice q args.length cp] 40 := (Blk.new _ _ _).alloc _
  have hbr : Blk ((w.alloc (.cells #[.int .i64 op, .string nm, .string tx, .int .i64 n, .slice q args.length cp] 40)).alloc (.cells #[.int .i64 0, .string ⟨#[]⟩, .string ⟨#[]⟩, .int .i64 0, .slice none 0 0] 40)) (w.heap.size + 1) #[.int .i64 0, .string ⟨#[]⟩, .string ⟨#[]⟩, .int .i64 0, .slice none 0 0] 40 := Blk.new' _ _ _ _ (by simp)
  replace hbx := Lib.hid (hbx.ext hE1)
  replace hbr := Lib.hid (hbr.ext hE1)
  have hE : Ext w w1 := Ext.trans (by repeat (first | with_reducible exact Ext.refl _ | with_reducible exact hE0 | with_reducible exact hE | with_reducible refine Ext.alloc ?_ _ | with_reducible refine Ext.drewN ?_ _ | with_reducible refine Ext.drew ?_ | ((with_reducible refine Ext.setCell ?_ ?side _); (case side => first | exact Nat.le_refl _ | (simp; done) | (simp; omega))))) hE1
  clear hE1 hD
  have x0 : w1.cell? ⟨w.heap.size, 0, none⟩ = some (.int .i64 op) := (hbx.out.cell 0).trans rfl
  have x1 : w1.cell? ⟨w.heap.size, 1, none⟩ = some (.string nm) := (hbx.out.cell 1).trans rfl
  have x2 : w1.cell? ⟨w.heap.size, 2, none⟩ = some (.string tx) := (hbx.out.cell 2).trans rfl
  have x3 : w1.cell? ⟨w.heap.size, 3, none⟩ = some (.int .i64 n) := (hbx.out.cell 3).trans rfl
  have x4 : w1.cell? ⟨w.heap.size, 4, none⟩ = some (.slice q args.length cp) := (hbx.out.cell 4).trans rfl
  by_cases hd : 8 < L
  · have hR := Lib.hid (hT.out.trans (if_pos (Or.inl hd)))
    have d1 : decide ((8 : Int) < (L : Int)) = true := decide_eq_true (by omega)
    clear hd hT hF hO
    have hs1 := hbr.out.lt
    have y0 : w1.cell? ⟨w.heap.size + 1, 0, none⟩ = some (.int .i64 0) := (hbr.out.cell 0).trans rfl
    have f0 := hbr.out.fz 0
    have y1 : w1.cell? ⟨w.heap.size + 1, 1, none⟩ = some (.string ⟨#[]⟩) := (hbr.out.cell 1).trans rfl
    have f1 := hbr.out.fz 1
    have y2 : w1.cell? ⟨w.heap.size + 1, 2, none⟩ = some (.string ⟨#[]⟩) := (hbr.out.cell 2).trans rfl
    have f2 := hbr.out.fz 2
    have y3 : w1.cell? ⟨w.heap.size + 1, 3, none⟩ = some (.int .i64 0) := (hbr.out.cell 3).trans rfl
    have f3 := hbr.out.fz 3
    have y4 : w1.cell? ⟨w.heap.size + 1, 4, none⟩ = some (.slice none 0 0) := (hbr.out.cell 4).trans rfl
    have f4 := hbr.out.fz 4
    go_wp2
    rw [hR.out]
    refine bodyPost_ret (v := .agg #[.int .i64 op, .string nm, .string tx, .int .i64 n, .slice q args.length cp]) (by simp [results, Tryz.results107, go_sem, y0, y1, y2, y3, y4]) rfl ⟨q, cp, rfl, hS.out.ext (by repeat (first | with_reducible exact Ext.refl _ | with_reducible exact hE0 | with_reducible exact hE | with_reducible refine Ext.alloc ?_ _ | with_reducible refine Ext.drewN ?_ _ | with_reducible refine Ext.drew ?_ | ((with_reducible refine Ext.setCell ?_ ?side _); (case side => first | exact Nat.le_refl _ | (simp; done) | (simp; omega))))), (by repeat (first | with_reducible exact Ext.refl _ | with_reducible exact hE0 | with_reducible exact hE | with_reducible refine Ext.alloc ?_ _ | with_reducible refine Ext.drewN ?_ _ | with_reducible refine Ext.drew ?_ | ((with_reducible refine Ext.setCell ?_ ?side _); (case side => first | exact Nat.le_refl _ | (simp; done) | (simp; omega)))))⟩
  · have d1 : decide ((8 : Int) < (L : Int)) = false := decide_eq_false (by omega)
    go_wp2_with fail
    refine (hF.out _ hE).mono ?_
    rintro e w2 ⟨rfl, hE2⟩
    replace hbx := Lib.hid (hbx.out.ext hE2)
    replace hbr := Lib.hid (hbr.out.ext hE2)
    replace hE := hE.trans hE2
    clear hE2 hF x0 x1 x2 x3 x4
    have x0 : w2.cell? ⟨w.heap.size, 0, none⟩ = some (.int .i64 op) := (hbx.out.cell 0).trans rfl
    have x1 : w2.cell? ⟨w.heap.size, 1, none⟩ = some (.string nm) := (hbx.out.cell 1).trans rfl
    have x2 : w2.cell? ⟨w.heap.size, 2, none⟩ = some (.string tx) := (hbx.out.cell 2).trans rfl
    have x3 : w2.cell? ⟨w.heap.size, 3, none⟩ = some (.int .i64 n) := (hbx.out.cell 3).trans rfl
    have x4 : w2.cell? ⟨w.heap.size, 4, none⟩ = some (.slice q args.length cp) := (hbx.out.cell 4).trans rfl
    cases Fm with
    | false =>
      have hR := Lib.hid (hT.out.trans (if_pos (Or.inr rfl)))
      clear hd hT hO
      have hs1 := hbr.out.lt
      have y0 : w2.cell? ⟨w.heap.size + 1, 0, none⟩ = some (.int .i64 0) := (hbr.out.cell 0).trans rfl
      have f0 := hbr.out.fz 0
      have y1 : w2.cell? ⟨w.heap.size + 1, 1, none⟩ = some (.string ⟨#[]⟩) := (hbr.out.cell 1).trans rfl
      have f1 := hbr.out.fz 1
      have y2 : w2.cell? ⟨w.heap.size + 1, 2, none⟩ = some (.string ⟨#[]⟩) := (hbr.out.cell 2).trans rfl
      have f2 := hbr.out.fz 2
      have y3 : w2.cell? ⟨w.heap.size + 1, 3, none⟩ = some (.int .i64 0) := (hbr.out.cell 3).trans rfl
      have f3 := hbr.out.fz 3
      have y4 : w2.cell? ⟨w.heap.size + 1, 4, none⟩ = some (.slice none 0 0) := (hbr.out.cell 4).trans rfl
      have f4 := hbr.out.fz 4
      go_wp2
      rw [hR.out]
      refine bodyPost_ret (v := .agg #[.int .i64 op, .string nm, .string tx, .int .i64 n, .slice q args.length cp]) (by simp [results, Tryz.results107, go_sem, y0, y1, y2, y3, y4]) rfl ⟨q, cp, rfl, hS.out.ext (by repeat (first | with_reducible exact Ext.refl _ | with_reducible exact hE0 | with_reducible exact hE | with_reducible refine Ext.alloc ?_ _ | with_reducible refine Ext.drewN ?_ _ | with_reducible refine Ext.drew ?_ | ((with_reducible refine Ext.setCell ?_ ?side _); (case side => first | exact Nat.le_refl _ | (simp; done) | (simp; omega))))), (by repeat (first | with_reducible exact Ext.refl _ | with_reducible exact hE0 | with_reducible exact hE | with_reducible refine Ext.alloc ?_ _ | with_reducible refine Ext.drewN ?_ _ | with_reducible refine Ext.drew ?_ | ((with_reducible refine Ext.setCell ?_ ?side _); (case side => first | exact Nat.le_refl _ | (simp; done) | (simp; omega)))))⟩
    | true =>
      have hR := Lib.hid (hT.out.trans (if_neg (by simp; omega)))
      clear hd hT hS
      go_wp2_with fail
      refine (hO.out _ hE).mono ?_
      rintro e w3 ⟨lp, lc, rfl, hB, hE3⟩
      have hlt := Lib.hid hbr.out.lt
      replace hbr := Lib.hid (hbr.out.ext hE3)
      replace hE := hE.trans hE3
      replace hB := Lib.hid hB
      have y0 : w3.cell? ⟨w.heap.size + 1, 0, none⟩ = some (.int .i64 0) := (hbr.out.cell 0).trans rfl
      have f0 := hbr.out.fz 0
      have y1 : w3.cell? ⟨w.heap.size + 1, 1, none⟩ = some (.string ⟨#[]⟩) := (hbr.out.cell 1).trans rfl
      have f1 := hbr.out.fz 1
      have y2 : w3.cell? ⟨w.heap.size + 1, 2, none⟩ = some (.string ⟨#[]⟩) := (hbr.out.cell 2).trans rfl
      have f2 := hbr.out.fz 2
      have y3 : w3.cell? ⟨w.heap.size + 1, 3, none⟩ = some (.int .i64 0) := (hbr.out.cell 3).trans rfl
      have f3 := hbr.out.fz 3
      have y4 : w3.cell? ⟨w.heap.size + 1, 4, none⟩ = some (.slice none 0 0) := (hbr.out.cell 4).trans rfl
      have f4 := hbr.out.fz 4
      clear hE3 x0 x1 x2 x3 x4
      go_wp2
      rw [hR.out]
      refine bodyPost_ret (v := .agg #[.int .i64 V.op, .string V.name, .string V.text, .int .i64 V.n, .slice lp V.args.length lc]) (by simp [results, Tryz.results107, go_sem, y0, y1, y2, y3, y4]) rfl ⟨lp, lc, rfl, ?_, (by repeat (first | with_reducible exact Ext.refl _ | with_reducible exact hE0 | with_reducible exact hE | with_reducible refine Ext.alloc ?_ _ | with_reducible refine Ext.drewN ?_ _ | with_reducible refine Ext.drew ?_ | ((with_reducible refine Ext.setCell ?_ ?side _); (case side => first | exact Nat.le_refl _ | (simp; done) | (simp; omega)))))⟩
      have hl := hlt.out
      exact (((((hB.out.set (fun j hj => by omega)).set (fun j hj => by omega)).set (fun j hj => by omega)).set (fun j hj => by omega)).set (fun j hj => by omega)).toS
set_option maxRecDepth 8000 in
set_option maxHeartbeats 4000000 in
theorem folds_any (x : Ex) (m : Int) (q : Option Addr) (cp : Nat) (w : World) (hX : ExS w (.slice q x.args.length cp) x.args) (hok : StrOk [x]) (hp : x.parts.length ≤ 999999) (hl : x.levels ≤ 1000000) : Calls Tryz.prog 59 #[exAgg x (.slice q x.args.length cp), .int .i64 m] w (OneV (.bool ((foldTop x).same (eqE m))) w) := by
  have kF := Lib.hid (fun w1 (h : Ext w w1) => rFold_any (w := w1) (v := .slice q x.args.length cp) x (hX.ext h) hok hp hl)
  have hK : ∀ (W : World) (B : Nat), Blk W B #[.int .i64 1, .string ⟨#[]⟩, .string ⟨#[]⟩, .int .i64 1, .slice none 0 0, .int .i64 1, .string ⟨#[]⟩, .string ⟨#[]⟩, .int .i64 m, .slice none 0 0] 40 → ExS W (.slice (some ⟨B, 0, none⟩) 2 2) (eqE m).args := fun W B h => (exb_two (ok := fun _ => True) (x := leafN 1) (y := leafN m) (c := 2) h trivial (.nil none 0) (.nil none 0) (by omega)).toS
  replace hK := Lib.hid hK
  generalize foldTop x = y at *
  obtain ⟨op, nm, tx, n, args⟩ := x
  simp only [exAgg_mk, Ex.args] at kF ⊢
  clear hX hok hp hl
  go_enter Tryz.func59, Tryz.ntmps59
  go_wp2_with fail
  have hb0 : Blk (((w.alloc (.cells #[.int .i64 op, .string nm, .string tx, .int .i64 n, .slice q args.length cp] 40)).alloc (.cells #[.int .i64 1, .string ⟨#[]⟩, .string ⟨#[]⟩, .int .i64 1, .slice none 0 0, .int .i64 1, .string ⟨#[]⟩, .string ⟨#[]⟩, .int .i64 m, .slice none 0 0] 40)).alloc (.cells #[.int .i64 8, .string ⟨#[]⟩, .string ⟨#[]⟩, .int .i64 0, .slice (some ⟨w.heap.size + 1, 0, none⟩) 2 2] 40)) w.heap.size #[.int .i64 op, .string nm, .string tx, .int .i64 n, .slice q args.length cp] 40 := ((Blk.new _ _ _).alloc _).alloc _
  have hb1 : Blk (((w.alloc (.cells #[.int .i64 op, .string nm, .string tx, .int .i64 n, .slice q args.length cp] 40)).alloc (.cells #[.int .i64 1, .string ⟨#[]⟩, .string ⟨#[]⟩, .int .i64 1, .slice none 0 0, .int .i64 1, .string ⟨#[]⟩, .string ⟨#[]⟩, .int .i64 m, .slice none 0 0] 40)).alloc (.cells #[.int .i64 8, .string ⟨#[]⟩, .string ⟨#[]⟩, .int .i64 0, .slice (some ⟨w.heap.size + 1, 0, none⟩) 2 2] 40)) (w.heap.size + 1) #[.int .i64 1, .string ⟨#[]⟩, .string ⟨#[]⟩, .int .i64 1, .slice none 0 0, .int .i64 1, .string ⟨#[]⟩, .string ⟨#[]⟩, .int .i64 m, .slice none 0 0] 40 := (Blk.new' _ _ _ _ (by simp)).alloc _
  have hb2 : Blk (((w.alloc (.cells #[.int .i64 op, .string nm, .string tx, .int .i64 n, .slice q args.length cp] 40)).alloc (.cells #[.int .i64 1, .string ⟨#[]⟩, .string ⟨#[]⟩, .int .i64 1, .slice none 0 0, .int .i64 1, .string ⟨#[]⟩, .string ⟨#[]⟩, .int .i64 m, .slice none 0 0] 40)).alloc (.cells #[.int .i64 8, .string ⟨#[]⟩, .string ⟨#[]⟩, .int .i64 0, .slice (some ⟨w.heap.size + 1, 0, none⟩) 2 2] 40)) (w.heap.size + 1 + 1) #[.int .i64 8, .string ⟨#[]⟩, .string ⟨#[]⟩, .int .i64 0, .slice (some ⟨w.heap.size + 1, 0, none⟩) 2 2] 40 := Blk.new' _ _ _ _ (by simp)
  have hE : Ext w (((w.alloc (.cells #[.int .i64 op, .string nm, .string tx, .int .i64 n, .slice q args.length cp] 40)).alloc (.cells #[.int .i64 1, .string ⟨#[]⟩, .string ⟨#[]⟩, .int .i64 1, .slice none 0 0, .int .i64 1, .string ⟨#[]⟩, .string ⟨#[]⟩, .int .i64 m, .slice none 0 0] 40)).alloc (.cells #[.int .i64 8, .string ⟨#[]⟩, .string ⟨#[]⟩, .int .i64 0, .slice (some ⟨w.heap.size + 1, 0, none⟩) 2 2] 40)) := ((((Ext.refl _).alloc _).alloc _).alloc _)
  have hQ := Lib.hid (hK.out _ _ hb1)
  clear hb1 hK
  generalize (((w.alloc (.cells #[.int .i64 op, .string nm, .string tx, .int .i64 n, .slice q args.length cp] 40)).alloc (.cells #[.int .i64 1, .string ⟨#[]⟩, .string ⟨#[]⟩, .int .i64 1, .slice none 0 0, .int .i64 1, .string ⟨#[]⟩, .string ⟨#[]⟩, .int .i64 m, .slice none 0 0] 40)).alloc (.cells #[.int .i64 8, .string ⟨#[]⟩, .string ⟨#[]⟩, .int .i64 0, .slice (some ⟨w.heap.size + 1, 0, none⟩) 2 2] 40)) = w9 at *
  have x0 : w9.cell? ⟨w.heap.size, 0, none⟩ = some (.int .i64 op) := (hb0.cell 0).trans rfl
  have x1 : w9.cell? ⟨w.heap.size, 1, none⟩ = some (.string nm) := (hb0.cell 1).trans rfl
  have x2 : w9.cell? ⟨w.heap.size, 2, none⟩ = some (.string tx) := (hb0.cell 2).trans rfl
  have x3 : w9.cell? ⟨w.heap.size, 3, none⟩ = some (.int .i64 n) := (hb0.cell 3).trans rfl
  have x4 : w9.cell? ⟨w.heap.size, 4, none⟩ = some (.slice q args.length cp) := (hb0.cell 4).trans rfl
  have z0 : w9.cell? ⟨w.heap.size + 1 + 1, 0, none⟩ = some (.int .i64 8) := (hb2.cell 0).trans rfl
  have z1 : w9.cell? ⟨w.heap.size + 1 + 1, 1, none⟩ = some (.string ⟨#[]⟩) := (hb2.cell 1).trans rfl
  have z2 : w9.cell? ⟨w.heap.size + 1 + 1, 2, none⟩ = some (.string ⟨#[]⟩) := (hb2.cell 2).trans rfl
  have z3 : w9.cell? ⟨w.heap.size + 1 + 1, 3, none⟩ = some (.int .i64 0) := (hb2.cell 3).trans rfl
  have z4 : w9.cell? ⟨w.heap.size + 1 + 1, 4, none⟩ = some (.slice (some ⟨w.heap.size + 1, 0, none⟩) 2 2) := (hb2.cell 4).trans rfl
  clear hb0 hb2
  go_region_held3 (fun w' => w'.cell? ⟨w.heap.size, 0, none⟩ = some (.int .i64 op) ∧ w'.cell? ⟨w.heap.size, 1, none⟩ = some (.string nm) ∧ w'.cell? ⟨w.heap.size, 2, none⟩ = some (.string tx) ∧ w'.cell? ⟨w.heap.size, 3, none⟩ = some (.int .i64 n) ∧ w'.cell? ⟨w.heap.size, 4, none⟩ = some (.slice q args.length cp) ∧ w'.cell? ⟨w.heap.size + 1 + 1, 0, none⟩ = some (.int .i64 8) ∧ w'.cell? ⟨w.heap.size + 1 + 1, 1, none⟩ = some (.string ⟨#[]⟩) ∧ w'.cell? ⟨w.heap.size + 1 + 1, 2, none⟩ = some (.string ⟨#[]⟩) ∧ w'.cell? ⟨w.heap.size + 1 + 1, 3, none⟩ = some (.int .i64 0) ∧ w'.cell? ⟨w.heap.size + 1 + 1, 4, none⟩ = some (.slice (some ⟨w.heap.size + 1, 0, none⟩) 2 2)) (first | exact ⟨x0, x1, x2, x3, x4, z0, z1, z2, z3, z4⟩ | exact ⟨by assumption, by assumption, by assumption, by assumption, by assumption, by assumption, by assumption, by assumption, by assumption, by assumption⟩) (first | (go_at_call 107; refine (kF.out _ (by first | exact hE | exact hE.drew)).mono ?_; rintro e w6 ⟨p6, c6, rfl, hY6, hE6⟩; have hS := exAt hE (by first | exact hE6 | exact unDr hE6); have hE := hE.trans hS; have x0 := hS.get x0; have x1 := hS.get x1; have x2 := hS.get x2; have x3 := hS.get x3; have x4 := hS.get x4; have z0 := hS.get z0; have z1 := hS.get z1; have z2 := hS.get z2; have z3 := hS.get z3; have z4 := hS.get z4; have hQ := Lib.hid (hQ.out.ext hS); have hY := Lib.hid hY6; clear hE6 hY6 hS) | (go_at_call 60; refine (rsame_any hY.out y rfl (eqE m) _ hQ.out _ (by first | exact Ext.refl _ | exact (Ext.refl _).drew)).mono ?_; rintro e w6 ⟨rfl, hE6⟩; have hS := exAt hE (by first | exact hE6 | exact unDr hE6); have hE := hE.trans hS; have x0 := hS.get x0; have x1 := hS.get x1; have x2 := hS.get x2; have x3 := hS.get x3; have x4 := hS.get x4; have z0 := hS.get z0; have z1 := hS.get z1; have z2 := hS.get z2; have z3 := hS.get z3; have z4 := hS.get z4; clear hE6 hS))
  all_goals go_wp2
  all_goals go_ret
  all_goals exact ⟨rfl, hE⟩
end Go.Proofs.YtmoadonepkccbaaGreatDoor
