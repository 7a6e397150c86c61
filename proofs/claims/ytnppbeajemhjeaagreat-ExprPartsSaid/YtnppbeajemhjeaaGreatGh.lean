/- Contract of the reference's Fold (cut out of XGd). -/
import Derived.Test.YtnppbeajemhjeaaGreatGc
namespace Go.Proofs.YtnppbeajemhjeaaGreat
open Go.RowKit
theorem unDr {a b : World} (h : Ext a.drew b) : Ext a b := Ext.trans (Ext.refl _).drew h
theorem exAt {w z u : World} (_ : Ext w z) (h : Ext z u) : Ext z u := h
theorem FoP.of {y : Ex} {w : World} {e : Ending} {w' : World} (h : ExP y w e w') : FoP y w e w' := by
  obtain ⟨p, c, he, hB, hE⟩ := h
  exact ⟨p, c, he, hB.toS, hE⟩
set_option maxRecDepth 8000 in
set_option maxHeartbeats 4000000 in
theorem rFold_any {w : World} {v : Value} (x : Ex) (hS : ExS w v x.args) (hok : StrOk [x]) (hp : x.parts.length ≤ 999999) (hl : x.levels ≤ 1000000) : Calls Tryz.prog 13 #[exAgg x v] w (FoP (foldTop x) w) := by
  obtain ⟨q, cp, rfl⟩ := hS.form
  have hD := Lib.hid (fun w1 (h : Ext w w1) => rlevels_any hS x rfl w1 h hl)
  have hF := Lib.hid (fun w1 (h : Ext w w1) => rwell_any hS x rfl hok w1 h)
  have hO := Lib.hid (fun w1 (h : Ext w w1) => rfold_any hS x rfl hok w1 h hp)
  have hT : foldTop x = if 8 < x.levels ∨ x.formed = false then x else x.foldV := rfl
  obtain ⟨op, nm, tx, n, args⟩ := x
  clear hp hok
  generalize foldTop (.mk op nm tx n args) = T at *
  generalize (Ex.mk op nm tx n args).foldV = V at *
  simp only [exAgg_mk, Ex.args] at hD hF hO hS ⊢
  generalize (Ex.mk op nm tx n args).levels = L at *
  generalize (Ex.mk op nm tx n args).formed = Fm at *
  replace hT := Lib.hid hT
  replace hS := Lib.hid hS
  go_enter Tryz.func13, Tryz.ntmps13
  go_wp2_with fail
  refine (hD.out _ (by repeat (first | with_reducible exact Ext.refl _ | with_reducible exact hE0 | with_reducible exact hE | with_reducible refine Ext.alloc ?_ _ | with_reducible refine Ext.drewN ?_ _ | with_reducible refine Ext.drew ?_ | ((with_reducible refine Ext.setCell ?_ ?side _); (case side => first | exact Nat.le_refl _ | (simp; done) | (simp; omega)))))).mono ?_
  rintro e w1 ⟨rfl, hE1⟩
  have hbx : Blk ((w.alloc (.cells #[.int .i64 op, .string nm, .string tx, .int .i64 n, .slice q args.length cp] 24)).alloc (.cells #[.int .i64 0, .string ⟨#[]⟩, .string ⟨#[]⟩, .int .i64 0, .slice none 0 0] 24)) w.heap.size #[.int .i64 op, .string nm, .string tx, .int .i64 n, .slice q args.length cp] 24 := (Blk.new _ _ _).alloc _
  have hbr : Blk ((w.alloc (.cells #[.int .i64 op, .string nm, .string tx, .int .i64 n, .slice q args.length cp] 24)).alloc (.cells #[.int .i64 0, .string ⟨#[]⟩, .string ⟨#[]⟩, .int .i64 0, .slice none 0 0] 24)) (w.heap.size + 1) #[.int .i64 0, .string ⟨#[]⟩, .string ⟨#[]⟩, .int .i64 0, .slice none 0 0] 24 := Blk.new' _ _ _ _ (by simp)
  replace hbx := Lib.hid (hbx.ext hE1)
  replace hbr := Lib.hid (hbr.ext hE1)
  have hE : Ext w w1 := Ext.trans (by repeat (first | with_reducible exact Ext.refl _ | with_reducible exact hE0 | with_reducible exact hE | with_reducible refine Ext.alloc ?_ _ | with_reducible refine Ext.drewN ?_ _ | with_reducible refine Ext.drew ?_ | ((with_reducible refine Ext.setCell ?_ ?side _); (case side => first | exact Nat.le_refl _ | (simp; done) | (simp; omega))))) hE1
  clear hE1 hD
  have x0 : w1.cell? ⟨w.heap.size, 0, none⟩ = some (.int .i64 op) := (hbx.out.cell 0).trans rfl
  have x1 : w1.cell? ⟨w.heap.size, 1, none⟩ = some (.string nm) := (hbx.out.cell 1).trans rfl
  have x2 : w1.cell? ⟨w.heap.size, 2, none⟩ = some (.string tx) := (hbx.out.cell 2).trans rfl
  have x3 : w1.cell? ⟨w.heap.size, 3, none⟩ = some (.int .i64 n) := (hbx.out.cell 3).trans rfl
  have x4 : w1.cell? ⟨w.heap.size, 4, none⟩ = some (.slice q args.length cp) := (hbx.out.cell 4).trans rfl
  by_cases hd : 8 < L
  · have hR := Lib.hid (hT.out.trans (if_pos (Or.inl hd)))
    have d1 : decide ((8 : Int) < (L : Int)) = true := decide_eq_true (by omega)
    clear hd hT hF hO
    have hs1 := hbr.out.lt
    have y0 : w1.cell? ⟨w.heap.size + 1, 0, none⟩ = some (.int .i64 0) := (hbr.out.cell 0).trans rfl
    have f0 := hbr.out.fz 0
    have y1 : w1.cell? ⟨w.heap.size + 1, 1, none⟩ = some (.string ⟨#[]⟩) := (hbr.out.cell 1).trans rfl
    have f1 := hbr.out.fz 1
    have y2 : w1.cell? ⟨w.heap.size + 1, 2, none⟩ = some (.string ⟨#[]⟩) := (hbr.out.cell 2).trans rfl
    have f2 := hbr.out.fz 2
    have y3 : w1.cell? ⟨w.heap.size + 1, 3, none⟩ = some (.int .i64 0) := (hbr.out.cell 3).trans rfl
    have f3 := hbr.out.fz 3
    have y4 : w1.cell? ⟨w.heap.size + 1, 4, none⟩ = some (.slice none 0 0) := (hbr.out.cell 4).trans rfl
    have f4 := hbr.out.fz 4
    go_wp2
    rw [hR.out]
    refine bodyPost_ret (v := .agg #[.int .i64 op, .string nm, .string tx, .int .i64 n, .slice q args.length cp]) (by simp [results, Tryz.results13, go_sem, y0, y1, y2, y3, y4]) rfl ⟨q, cp, rfl, hS.out.ext (by repeat (first | with_reducible exact Ext.refl _ | with_reducible exact hE0 | with_reducible exact hE | with_reducible refine Ext.alloc ?_ _ | with_reducible refine Ext.drewN ?_ _ | with_reducible refine Ext.drew ?_ | ((with_reducible refine Ext.setCell ?_ ?side _); (case side => first | exact Nat.le_refl _ | (simp; done) | (simp; omega))))), (by repeat (first | with_reducible exact Ext.refl _ | with_reducible exact hE0 | with_reducible exact hE | with_reducible refine Ext.alloc ?_ _ | with_reducible refine Ext.drewN ?_ _ | with_reducible refine Ext.drew ?_ | ((with_reducible refine Ext.setCell ?_ ?side _); (case side => first | exact Nat.le_refl _ | (simp; done) | (simp; omega)))))⟩
  · have d1 : decide ((8 : Int) < (L : Int)) = false := decide_eq_false (by omega)
    go_wp2_with fail
    refine (hF.out _ hE).mono ?_
    rintro e w2 ⟨rfl, hE2⟩
    replace hbx := Lib.hid (hbx.out.ext hE2)
    replace hbr := Lib.hid (hbr.out.ext hE2)
    replace hE := hE.trans hE2
    clear hE2 hF x0 x1 x2 x3 x4
    have x0 : w2.cell? ⟨w.heap.size, 0, none⟩ = some (.int .i64 op) := (hbx.out.cell 0).trans rfl
    have x1 : w2.cell? ⟨w.heap.size, 1, none⟩ = some (.string nm) := (hbx.out.cell 1).trans rfl
    have x2 : w2.cell? ⟨w.heap.size, 2, none⟩ = some (.string tx) := (hbx.out.cell 2).trans rfl
    have x3 : w2.cell? ⟨w.heap.size, 3, none⟩ = some (.int .i64 n) := (hbx.out.cell 3).trans rfl
    have x4 : w2.cell? ⟨w.heap.size, 4, none⟩ = some (.slice q args.length cp) := (hbx.out.cell 4).trans rfl
    cases Fm with
    | false =>
      have hR := Lib.hid (hT.out.trans (if_pos (Or.inr rfl)))
      clear hd hT hO
      have hs1 := hbr.out.lt
      have y0 : w2.cell? ⟨w.heap.size + 1, 0, none⟩ = some (.int .i64 0) := (hbr.out.cell 0).trans rfl
      have f0 := hbr.out.fz 0
      have y1 : w2.cell? ⟨w.heap.size + 1, 1, none⟩ = some (.string ⟨#[]⟩) := (hbr.out.cell 1).trans rfl
      have f1 := hbr.out.fz 1
      have y2 : w2.cell? ⟨w.heap.size + 1, 2, none⟩ = some (.string ⟨#[]⟩) := (hbr.out.cell 2).trans rfl
      have f2 := hbr.out.fz 2
      have y3 : w2.cell? ⟨w.heap.size + 1, 3, none⟩ = some (.int .i64 0) := (hbr.out.cell 3).trans rfl
      have f3 := hbr.out.fz 3
      have y4 : w2.cell? ⟨w.heap.size + 1, 4, none⟩ = some (.slice none 0 0) := (hbr.out.cell 4).trans rfl
      have f4 := hbr.out.fz 4
      go_wp2
      rw [hR.out]
      refine bodyPost_ret (v := .agg #[.int .i64 op, .string nm, .string tx, .int .i64 n, .slice q args.length cp]) (by simp [results, Tryz.results13, go_sem, y0, y1, y2, y3, y4]) rfl ⟨q, cp, rfl, hS.out.ext (by repeat (first | with_reducible exact Ext.refl _ | with_reducible exact hE0 | with_reducible exact hE | with_reducible refine Ext.alloc ?_ _ | with_reducible refine Ext.drewN ?_ _ | with_reducible refine Ext.drew ?_ | ((with_reducible refine Ext.setCell ?_ ?side _); (case side => first | exact Nat.le_refl _ | (simp; done) | (simp; omega))))), (by repeat (first | with_reducible exact Ext.refl _ | with_reducible exact hE0 | with_reducible exact hE | with_reducible refine Ext.alloc ?_ _ | with_reducible refine Ext.drewN ?_ _ | with_reducible refine Ext.drew ?_ | ((with_reducible refine Ext.setCell ?_ ?side _); (case side => first | exact Nat.le_refl _ | (simp; done) | (simp; omega)))))⟩
    | true =>
      have hR := Lib.hid (hT.out.trans (if_neg (by simp; omega)))
      clear hd hT hS
      go_wp2_with fail
      refine (hO.out _ hE).mono ?_
      rintro e w3 ⟨lp, lc, rfl, hB, hE3⟩
      have hlt := Lib.hid hbr.out.lt
      replace hbr := Lib.hid (hbr.out.ext hE3)
      replace hE := hE.trans hE3
      replace hB := Lib.hid hB
      have y0 : w3.cell? ⟨w.heap.size + 1, 0, none⟩ = some (.int .i64 0) := (hbr.out.cell 0).trans rfl
      have f0 := hbr.out.fz 0
      have y1 : w3.cell? ⟨w.heap.size + 1, 1, none⟩ = some (.string ⟨#[]⟩) := (hbr.out.cell 1).trans rfl
      have f1 := hbr.out.fz 1
      have y2 : w3.cell? ⟨w.heap.size + 1, 2, none⟩ = some (.string ⟨#[]⟩) := (hbr.out.cell 2).trans rfl
      have f2 := hbr.out.fz 2
      have y3 : w3.cell? ⟨w.heap.size + 1, 3, none⟩ = some (.int .i64 0) := (hbr.out.cell 3).trans rfl
      have f3 := hbr.out.fz 3
      have y4 : w3.cell? ⟨w.heap.size + 1, 4, none⟩ = some (.slice none 0 0) := (hbr.out.cell 4).trans rfl
      have f4 := hbr.out.fz 4
      clear hE3 x0 x1 x2 x3 x4
      go_wp2
      rw [hR.out]
      refine bodyPost_ret (v := .agg #[.int .i64 V.op, .string V.name, .string V.text, .int .i64 V.n, .slice lp V.args.length lc]) (by simp [results, Tryz.results13, go_sem, y0, y1, y2, y3, y4]) rfl ⟨lp, lc, rfl, ?_, (by repeat (first | with_reducible exact Ext.refl _ | with_reducible exact hE0 | with_reducible exact hE | with_reducible refine Ext.alloc ?_ _ | with_reducible refine Ext.drewN ?_ _ | with_reducible refine Ext.drew ?_ | ((with_reducible refine Ext.setCell ?_ ?side _); (case side => first | exact Nat.le_refl _ | (simp; done) | (simp; omega)))))⟩
      have hl := hlt.out
      exact (((((hB.out.set (fun j hj => by omega)).set (fun j hj => by omega)).set (fun j hj => by omega)).set (fun j hj => by omega)).set (fun j hj => by omega)).toS
end Go.Proofs.YtnppbeajemhjeaaGreat
