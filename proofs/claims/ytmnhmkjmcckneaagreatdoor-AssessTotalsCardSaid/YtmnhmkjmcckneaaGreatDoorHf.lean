/- The contract of assess.Assess (walk; printed by gen/h7.py). -/
import Derived.Test.YtmnhmkjmcckneaaGreatDoorHe
namespace Go.Proofs.YtmnhmkjmcckneaaGreatDoor
open Go.RowKit
set_option maxRecDepth 8000 in
set_option maxHeartbeats 8000000 in
theorem assess_err (tv : Value) (t : TabsD) (r : RecD) (w : World) (g : Gw w) (hT : TabsM w tv t) (ok0 : TabOk t.i (recF r)) (ok1 : TabOk t.s (recF r)) (ok2 : TabOk t.m (recF r)) (hne : ¬ (recE r = 0 ∧ tabsE t = 0 ∧ (applyV t.i (recF r) r.amt).2 = 0 ∧ (applyV t.s (recF r) r.amt).2 = 0 ∧ (applyV t.m (recF r) r.amt).2 = 0)) : Calls Tryz.prog 11 #[tv, recAgg r] w (AssP (assessV t r) w) := by
 have kR := Lib.hid (fun w1 => rcheck_any r w1)
 have kC := Lib.hid (fun w1 (h : Ext w w1) => acheck_any tv t w1 (hT.ext h) (fun j hj => by
  match j, hj with
  | 0, _ => exact ok0.parts
  | 1, _ => exact ok1.parts
  | 2, _ => exact ok2.parts))
 have kF := Lib.hid (fun w1 => feaR_any r w1)
 obtain ⟨v1, v2, v3, rfl, h1, h2, h3⟩ := hT
 obtain ⟨p1, c1, rfl⟩ := h1.form
 obtain ⟨p2, c2, rfl⟩ := h2.form
 obtain ⟨p3, c3, rfl⟩ := h3.form
 have kA0 := Lib.hid (fun fv w1 (h : Ext w w1) (hF : Feats w1 fv (recF r)) => apply_any _ fv t.i (recF r) r.amt w1 (g.ext h) (h1.ext h) hF ok0)
 have kA1 := Lib.hid (fun fv w1 (h : Ext w w1) (hF : Feats w1 fv (recF r)) => apply_any _ fv t.s (recF r) r.amt w1 (g.ext h) (h2.ext h) hF ok1)
 have kA2 := Lib.hid (fun fv w1 (h : Ext w w1) (hF : Feats w1 fv (recF r)) => apply_any _ fv t.m (recF r) r.amt w1 (g.ext h) (h3.ext h) hF ok2)
 obtain ⟨R, hR⟩ : ∃ R, R = assessV t r := ⟨_, rfl⟩
 rw [← hR]
 unfold assessV at hR
 have hamt := fun h => rec_amt (r := r) h
 have htp0 := fun h => apply_top (l := t.i) (fs := recF r) (n := r.amt) h
 have htp1 := fun h => apply_top (l := t.s) (fs := recF r) (n := r.amt) h
 have htp2 := fun h => apply_top (l := t.m) (fs := recF r) (n := r.amt) h
 unfold FeaRP at kF
 unfold LineP at kA0 kA1 kA2
 generalize recE r = RE at *
 generalize tabsE t = TE at *
 generalize applyV t.i (recF r) r.amt = A0 at *
 generalize applyV t.s (recF r) r.amt = A1 at *
 generalize applyV t.m (recF r) r.amt = A2 at *
 generalize recF r = fs at *
 obtain ⟨⟨r0, a0, y0⟩, e0⟩ := A0
 obtain ⟨⟨r1, a1, y1⟩, e1⟩ := A1
 obtain ⟨⟨r2, a2, y2⟩, e2⟩ := A2
 obtain ⟨kind, id, auth, acq, iss, mer, card, amt, cur, date, cat, fin⟩ := r
 obtain ⟨li, ls, lm⟩ := t
 simp only [recAgg] at kR kF kA0 kA1 kA2 hR hamt htp0 htp1 htp2 kC hne ⊢
 replace hne := Lib.hid hne
 have hl0 := h1.1
 have hl1 := h2.1
 have hl2 := h3.1
 simp only at hl0 hl1 hl2
 replace hR := Lib.hid hR
 replace hamt := Lib.hid hamt
 replace htp0 := Lib.hid htp0
 replace htp1 := Lib.hid htp1
 replace htp2 := Lib.hid htp2
 replace g := Lib.hid g
 clear h1 h2 h3 ok0 ok1 ok2
 go_enter Tryz.func11, Tryz.ntmps11
 go_wp2_with fail
 refine (kR.out _).mono ?_
 rintro e w1 ⟨rfl, hE1⟩
 have bT := Lib.hid ((((Blk.new w #[.slice p1 li.length c1, .slice p2 ls.length c2, .slice p3 lm.length c3] 24).alloc (.cells #[.int .i64 kind, .string id, .string auth, .string acq, .string iss, .string mer, .string card, .int .i64 amt, .string cur, .int .i64 date, .int .i64 cat, .bool fin] 28)).alloc (.cells #[.string ⟨#[]⟩, .int .i64 0, .string ⟨#[]⟩, .string ⟨#[]⟩, .int .i64 0, .string ⟨#[]⟩, .string ⟨#[]⟩, .int .i64 0, .string ⟨#[]⟩, .int .i64 0, .int .i64 0, .int .i64 0, .int .i64 0, .int .i64 0] 35)).ext hE1)
 have bR0 : Blk ((w.alloc (.cells #[.slice p1 li.length c1, .slice p2 ls.length c2, .slice p3 lm.length c3] 24)).alloc (.cells #[.int .i64 kind, .string id, .string auth, .string acq, .string iss, .string mer, .string card, .int .i64 amt, .string cur, .int .i64 date, .int .i64 cat, .bool fin] 28)) (w.heap.size + 1) #[.int .i64 kind, .string id, .string auth, .string acq, .string iss, .string mer, .string card, .int .i64 amt, .string cur, .int .i64 date, .int .i64 cat, .bool fin] 28 := Blk.new' _ _ _ _ (by simp)
 have bR := Lib.hid ((bR0.alloc (.cells #[.string ⟨#[]⟩, .int .i64 0, .string ⟨#[]⟩, .string ⟨#[]⟩, .int .i64 0, .string ⟨#[]⟩, .string ⟨#[]⟩, .int .i64 0, .string ⟨#[]⟩, .int .i64 0, .int .i64 0, .int .i64 0, .int .i64 0, .int .i64 0] 35)).ext hE1)
 have bX0 : Blk (((w.alloc (.cells #[.slice p1 li.length c1, .slice p2 ls.length c2, .slice p3 lm.length c3] 24)).alloc (.cells #[.int .i64 kind, .string id, .string auth, .string acq, .string iss, .string mer, .string card, .int .i64 amt, .string cur, .int .i64 date, .int .i64 cat, .bool fin] 28)).alloc (.cells #[.string ⟨#[]⟩, .int .i64 0, .string ⟨#[]⟩, .string ⟨#[]⟩, .int .i64 0, .string ⟨#[]⟩, .string ⟨#[]⟩, .int .i64 0, .string ⟨#[]⟩, .int .i64 0, .int .i64 0, .int .i64 0, .int .i64 0, .int .i64 0] 35)) (w.heap.size + 1 + 1) #[.string ⟨#[]⟩, .int .i64 0, .string ⟨#[]⟩, .string ⟨#[]⟩, .int .i64 0, .string ⟨#[]⟩, .string ⟨#[]⟩, .int .i64 0, .string ⟨#[]⟩, .int .i64 0, .int .i64 0, .int .i64 0, .int .i64 0, .int .i64 0] 35 := Blk.new' _ _ _ _ (by simp)
 have bX := Lib.hid (bX0.ext hE1)
 have hE : Ext w w1 := Ext.trans xt hE1
 clear hE1 kR bR0 bX0
 by_cases hre : RE = 0
 case neg =>
  have d : (RE != 0) = true := by simp [hre]
  have hRR := Lib.hid (hR.out.trans (if_pos hre))
  clear hR
  have x0 : w1.cell? ⟨w.heap.size + 1 + 1, 0, none⟩ = some (.string ⟨#[]⟩) := (bX.out.cell 0).trans rfl
  have x1 : w1.cell? ⟨w.heap.size + 1 + 1, 1, none⟩ = some (.int .i64 0) := (bX.out.cell 1).trans rfl
  have x2 : w1.cell? ⟨w.heap.size + 1 + 1, 2, none⟩ = some (.string ⟨#[]⟩) := (bX.out.cell 2).trans rfl
  have x3 : w1.cell? ⟨w.heap.size + 1 + 1, 3, none⟩ = some (.string ⟨#[]⟩) := (bX.out.cell 3).trans rfl
  have x4 : w1.cell? ⟨w.heap.size + 1 + 1, 4, none⟩ = some (.int .i64 0) := (bX.out.cell 4).trans rfl
  have x5 : w1.cell? ⟨w.heap.size + 1 + 1, 5, none⟩ = some (.string ⟨#[]⟩) := (bX.out.cell 5).trans rfl
  have x6 : w1.cell? ⟨w.heap.size + 1 + 1, 6, none⟩ = some (.string ⟨#[]⟩) := (bX.out.cell 6).trans rfl
  have x7 : w1.cell? ⟨w.heap.size + 1 + 1, 7, none⟩ = some (.int .i64 0) := (bX.out.cell 7).trans rfl
  have x8 : w1.cell? ⟨w.heap.size + 1 + 1, 8, none⟩ = some (.string ⟨#[]⟩) := (bX.out.cell 8).trans rfl
  have x9 : w1.cell? ⟨w.heap.size + 1 + 1, 9, none⟩ = some (.int .i64 0) := (bX.out.cell 9).trans rfl
  have x10 : w1.cell? ⟨w.heap.size + 1 + 1, 10, none⟩ = some (.int .i64 0) := (bX.out.cell 10).trans rfl
  have x11 : w1.cell? ⟨w.heap.size + 1 + 1, 11, none⟩ = some (.int .i64 0) := (bX.out.cell 11).trans rfl
  have x12 : w1.cell? ⟨w.heap.size + 1 + 1, 12, none⟩ = some (.int .i64 0) := (bX.out.cell 12).trans rfl
  have x13 : w1.cell? ⟨w.heap.size + 1 + 1, 13, none⟩ = some (.int .i64 0) := (bX.out.cell 13).trans rfl
  have f0 : w1.frozen? ⟨w.heap.size + 1 + 1, 0, none⟩ = false := bX.out.fz 0
  have f1 : w1.frozen? ⟨w.heap.size + 1 + 1, 1, none⟩ = false := bX.out.fz 1
  have f2 : w1.frozen? ⟨w.heap.size + 1 + 1, 2, none⟩ = false := bX.out.fz 2
  have f3 : w1.frozen? ⟨w.heap.size + 1 + 1, 3, none⟩ = false := bX.out.fz 3
  have f4 : w1.frozen? ⟨w.heap.size + 1 + 1, 4, none⟩ = false := bX.out.fz 4
  have f5 : w1.frozen? ⟨w.heap.size + 1 + 1, 5, none⟩ = false := bX.out.fz 5
  have f6 : w1.frozen? ⟨w.heap.size + 1 + 1, 6, none⟩ = false := bX.out.fz 6
  have f7 : w1.frozen? ⟨w.heap.size + 1 + 1, 7, none⟩ = false := bX.out.fz 7
  have f8 : w1.frozen? ⟨w.heap.size + 1 + 1, 8, none⟩ = false := bX.out.fz 8
  have f9 : w1.frozen? ⟨w.heap.size + 1 + 1, 9, none⟩ = false := bX.out.fz 9
  have f10 : w1.frozen? ⟨w.heap.size + 1 + 1, 10, none⟩ = false := bX.out.fz 10
  have f11 : w1.frozen? ⟨w.heap.size + 1 + 1, 11, none⟩ = false := bX.out.fz 11
  have f12 : w1.frozen? ⟨w.heap.size + 1 + 1, 12, none⟩ = false := bX.out.fz 12
  have f13 : w1.frozen? ⟨w.heap.size + 1 + 1, 13, none⟩ = false := bX.out.fz 13
  go_wp2
  exact bodyPost_ret (v := .tuple #[.agg #[.string ⟨#[]⟩, .int .i64 0, .string ⟨#[]⟩, .string ⟨#[]⟩, .int .i64 0, .string ⟨#[]⟩, .string ⟨#[]⟩, .int .i64 0, .string ⟨#[]⟩, .int .i64 0, .int .i64 0, .int .i64 0, .int .i64 0, .int .i64 0], .int .i64 RE]) (by first | (simp [results, Tryz.results11, go_sem, x0, x1, x2, x3, x4, x5, x6, x7, x8, x9, x10, x11, x12, x13]; done) | simp [results, Tryz.results11, go_sem]) rfl (assP (x := resD) hRR.out xt)
 subst hre
 replace hR := Lib.hid (hR.out.trans (if_neg (by decide)))
 replace hamt := Lib.hid (hamt.out rfl)
 have z0 : w1.cell? ⟨w.heap.size, 0, none⟩ = some (.slice p1 li.length c1) := (bT.out.cell 0).trans rfl
 have z1 : w1.cell? ⟨w.heap.size, 1, none⟩ = some (.slice p2 ls.length c2) := (bT.out.cell 1).trans rfl
 have z2 : w1.cell? ⟨w.heap.size, 2, none⟩ = some (.slice p3 lm.length c3) := (bT.out.cell 2).trans rfl
 go_wp2_with fail
 refine (kC.out _ hE).mono ?_
 rintro e w2 ⟨rfl, hE2⟩
 replace bT := Lib.hid (bT.out.ext hE2)
 replace bR := Lib.hid (bR.out.ext hE2)
 replace bX := Lib.hid (bX.out.ext hE2)
 replace hE := hE.trans hE2
 clear hE2 kC z0 z1 z2
 by_cases hte : TE = 0
 case neg =>
  have d : (TE != 0) = true := by simp [hte]
  have hRR := Lib.hid (hR.out.trans (if_pos hte))
  clear hR
  have x0 : w2.cell? ⟨w.heap.size + 1 + 1, 0, none⟩ = some (.string ⟨#[]⟩) := (bX.out.cell 0).trans rfl
  have x1 : w2.cell? ⟨w.heap.size + 1 + 1, 1, none⟩ = some (.int .i64 0) := (bX.out.cell 1).trans rfl
  have x2 : w2.cell? ⟨w.heap.size + 1 + 1, 2, none⟩ = some (.string ⟨#[]⟩) := (bX.out.cell 2).trans rfl
  have x3 : w2.cell? ⟨w.heap.size + 1 + 1, 3, none⟩ = some (.string ⟨#[]⟩) := (bX.out.cell 3).trans rfl
  have x4 : w2.cell? ⟨w.heap.size + 1 + 1, 4, none⟩ = some (.int .i64 0) := (bX.out.cell 4).trans rfl
  have x5 : w2.cell? ⟨w.heap.size + 1 + 1, 5, none⟩ = some (.string ⟨#[]⟩) := (bX.out.cell 5).trans rfl
  have x6 : w2.cell? ⟨w.heap.size + 1 + 1, 6, none⟩ = some (.string ⟨#[]⟩) := (bX.out.cell 6).trans rfl
  have x7 : w2.cell? ⟨w.heap.size + 1 + 1, 7, none⟩ = some (.int .i64 0) := (bX.out.cell 7).trans rfl
  have x8 : w2.cell? ⟨w.heap.size + 1 + 1, 8, none⟩ = some (.string ⟨#[]⟩) := (bX.out.cell 8).trans rfl
  have x9 : w2.cell? ⟨w.heap.size + 1 + 1, 9, none⟩ = some (.int .i64 0) := (bX.out.cell 9).trans rfl
  have x10 : w2.cell? ⟨w.heap.size + 1 + 1, 10, none⟩ = some (.int .i64 0) := (bX.out.cell 10).trans rfl
  have x11 : w2.cell? ⟨w.heap.size + 1 + 1, 11, none⟩ = some (.int .i64 0) := (bX.out.cell 11).trans rfl
  have x12 : w2.cell? ⟨w.heap.size + 1 + 1, 12, none⟩ = some (.int .i64 0) := (bX.out.cell 12).trans rfl
  have x13 : w2.cell? ⟨w.heap.size + 1 + 1, 13, none⟩ = some (.int .i64 0) := (bX.out.cell 13).trans rfl
  have f0 : w2.frozen? ⟨w.heap.size + 1 + 1, 0, none⟩ = false := bX.out.fz 0
  have f1 : w2.frozen? ⟨w.heap.size + 1 + 1, 1, none⟩ = false := bX.out.fz 1
  have f2 : w2.frozen? ⟨w.heap.size + 1 + 1, 2, none⟩ = false := bX.out.fz 2
  have f3 : w2.frozen? ⟨w.heap.size + 1 + 1, 3, none⟩ = false := bX.out.fz 3
  have f4 : w2.frozen? ⟨w.heap.size + 1 + 1, 4, none⟩ = false := bX.out.fz 4
  have f5 : w2.frozen? ⟨w.heap.size + 1 + 1, 5, none⟩ = false := bX.out.fz 5
  have f6 : w2.frozen? ⟨w.heap.size + 1 + 1, 6, none⟩ = false := bX.out.fz 6
  have f7 : w2.frozen? ⟨w.heap.size + 1 + 1, 7, none⟩ = false := bX.out.fz 7
  have f8 : w2.frozen? ⟨w.heap.size + 1 + 1, 8, none⟩ = false := bX.out.fz 8
  have f9 : w2.frozen? ⟨w.heap.size + 1 + 1, 9, none⟩ = false := bX.out.fz 9
  have f10 : w2.frozen? ⟨w.heap.size + 1 + 1, 10, none⟩ = false := bX.out.fz 10
  have f11 : w2.frozen? ⟨w.heap.size + 1 + 1, 11, none⟩ = false := bX.out.fz 11
  have f12 : w2.frozen? ⟨w.heap.size + 1 + 1, 12, none⟩ = false := bX.out.fz 12
  have f13 : w2.frozen? ⟨w.heap.size + 1 + 1, 13, none⟩ = false := bX.out.fz 13
  go_wp2
  exact bodyPost_ret (v := .tuple #[.agg #[.string ⟨#[]⟩, .int .i64 0, .string ⟨#[]⟩, .string ⟨#[]⟩, .int .i64 0, .string ⟨#[]⟩, .string ⟨#[]⟩, .int .i64 0, .string ⟨#[]⟩, .int .i64 0, .int .i64 0, .int .i64 0, .int .i64 0, .int .i64 0], .int .i64 TE]) (by first | (simp [results, Tryz.results11, go_sem, x0, x1, x2, x3, x4, x5, x6, x7, x8, x9, x10, x11, x12, x13]; done) | simp [results, Tryz.results11, go_sem]) rfl (assP (x := resD) hRR.out xt)
 subst hte
 replace hR := Lib.hid (hR.out.trans (if_neg (by decide)))
 have x0 : w2.cell? ⟨w.heap.size + 1, 0, none⟩ = some (.int .i64 kind) := (bR.out.cell 0).trans rfl
 have x1 : w2.cell? ⟨w.heap.size + 1, 1, none⟩ = some (.string id) := (bR.out.cell 1).trans rfl
 have x2 : w2.cell? ⟨w.heap.size + 1, 2, none⟩ = some (.string auth) := (bR.out.cell 2).trans rfl
 have x3 : w2.cell? ⟨w.heap.size + 1, 3, none⟩ = some (.string acq) := (bR.out.cell 3).trans rfl
 have x4 : w2.cell? ⟨w.heap.size + 1, 4, none⟩ = some (.string iss) := (bR.out.cell 4).trans rfl
 have x5 : w2.cell? ⟨w.heap.size + 1, 5, none⟩ = some (.string mer) := (bR.out.cell 5).trans rfl
 have x6 : w2.cell? ⟨w.heap.size + 1, 6, none⟩ = some (.string card) := (bR.out.cell 6).trans rfl
 have x7 : w2.cell? ⟨w.heap.size + 1, 7, none⟩ = some (.int .i64 amt) := (bR.out.cell 7).trans rfl
 have x8 : w2.cell? ⟨w.heap.size + 1, 8, none⟩ = some (.string cur) := (bR.out.cell 8).trans rfl
 have x9 : w2.cell? ⟨w.heap.size + 1, 9, none⟩ = some (.int .i64 date) := (bR.out.cell 9).trans rfl
 have x10 : w2.cell? ⟨w.heap.size + 1, 10, none⟩ = some (.int .i64 cat) := (bR.out.cell 10).trans rfl
 have x11 : w2.cell? ⟨w.heap.size + 1, 11, none⟩ = some (.bool fin) := (bR.out.cell 11).trans rfl
 go_wp2_with fail
 have hE0 := Ext.refl w2
 go_region_held3 (fun w' => w'.cell? ⟨w.heap.size + 1, 0, none⟩ = some (.int .i64 kind) ∧ w'.cell? ⟨w.heap.size + 1, 1, none⟩ = some (.string id) ∧ w'.cell? ⟨w.heap.size + 1, 2, none⟩ = some (.string auth) ∧ w'.cell? ⟨w.heap.size + 1, 3, none⟩ = some (.string acq) ∧ w'.cell? ⟨w.heap.size + 1, 4, none⟩ = some (.string iss) ∧ w'.cell? ⟨w.heap.size + 1, 5, none⟩ = some (.string mer) ∧ w'.cell? ⟨w.heap.size + 1, 6, none⟩ = some (.string card) ∧ w'.cell? ⟨w.heap.size + 1, 7, none⟩ = some (.int .i64 amt) ∧ w'.cell? ⟨w.heap.size + 1, 8, none⟩ = some (.string cur) ∧ w'.cell? ⟨w.heap.size + 1, 9, none⟩ = some (.int .i64 date) ∧ w'.cell? ⟨w.heap.size + 1, 10, none⟩ = some (.int .i64 cat) ∧ w'.cell? ⟨w.heap.size + 1, 11, none⟩ = some (.bool fin)) (first | exact ⟨x0, x1, x2, x3, x4, x5, x6, x7, x8, x9, x10, x11⟩ | exact ⟨by assumption, by assumption, by assumption, by assumption, by assumption, by assumption, by assumption, by assumption, by assumption, by assumption, by assumption, by assumption⟩) (first | (go_at_call 14; refine (kF.out _).mono ?_; rintro e w6 ⟨BF, rfl, hF, hE6⟩; have hS := ext_at hE0 (by first | exact hE6 | exact Ext.undrew hE6); have hE0 := hE0.trans hS; have x0 := hS.get x0; have x1 := hS.get x1; have x2 := hS.get x2; have x3 := hS.get x3; have x4 := hS.get x4; have x5 := hS.get x5; have x6 := hS.get x6; have x7 := hS.get x7; have x8 := hS.get x8; have x9 := hS.get x9; have x10 := hS.get x10; have x11 := hS.get x11; have hF := Lib.hid hF; clear hE6 hS))
 clear x0 x1 x2 x3 x4 x5 x6 x7 x8 x9 x10 x11
 replace bT := Lib.hid (bT.out.ext hE0)
 replace bR := Lib.hid (bR.out.ext hE0)
 replace bX := Lib.hid (bX.out.ext hE0)
 replace hE := hE.trans hE0
 clear hE0
 have zs : w.heap.size < w6.heap.size := bT.out.lt
 have z0 : w6.cell? ⟨w.heap.size, 0, none⟩ = some (.slice p1 li.length c1) := (bT.out.cell 0).trans rfl
 have z1 : w6.cell? ⟨w.heap.size, 1, none⟩ = some (.slice p2 ls.length c2) := (bT.out.cell 1).trans rfl
 have z2 : w6.cell? ⟨w.heap.size, 2, none⟩ = some (.slice p3 lm.length c3) := (bT.out.cell 2).trans rfl
 go_wp2_with fail
 have bL := Lib.hid ((Blk.new w6 #[.string ⟨#[]⟩, .int .i64 0, .string ⟨#[]⟩, .string ⟨#[]⟩, .int .i64 0, .string ⟨#[]⟩, .string ⟨#[]⟩, .int .i64 0, .string ⟨#[]⟩] 72).alloc (.cells #[.slice p1 li.length c1, .slice p2 ls.length c2, .slice p3 lm.length c3] 22))
 have bS := Lib.hid (Blk.new' (w6.alloc (.cells #[.string ⟨#[]⟩, .int .i64 0, .string ⟨#[]⟩, .string ⟨#[]⟩, .int .i64 0, .string ⟨#[]⟩, .string ⟨#[]⟩, .int .i64 0, .string ⟨#[]⟩] 72)) #[.slice p1 li.length c1, .slice p2 ls.length c2, .slice p3 lm.length c3] 22 (w6.heap.size + 1) (by simp))
 have hEa : Ext w6 ((w6.alloc (.cells #[.string ⟨#[]⟩, .int .i64 0, .string ⟨#[]⟩, .string ⟨#[]⟩, .int .i64 0, .string ⟨#[]⟩, .string ⟨#[]⟩, .int .i64 0, .string ⟨#[]⟩] 72)).alloc (.cells #[.slice p1 li.length c1, .slice p2 ls.length c2, .slice p3 lm.length c3] 22)) := xt
 generalize (w6.alloc (.cells #[.string ⟨#[]⟩, .int .i64 0, .string ⟨#[]⟩, .string ⟨#[]⟩, .int .i64 0, .string ⟨#[]⟩, .string ⟨#[]⟩, .int .i64 0, .string ⟨#[]⟩] 72)).alloc (.cells #[.slice p1 li.length c1, .slice p2 ls.length c2, .slice p3 lm.length c3] 22) = w7 at *
 obtain ⟨L, hL⟩ : ∃ L, L = w6.heap.size := ⟨_, rfl⟩
 have hLw : w6.heap.size ≤ L := by omega
 have hXL : w.heap.size + 1 + 1 < L := by rw [hL]; exact bX.out.lt
 have hRL : w.heap.size + 1 < L := by omega
 rw [← hL] at bL bS ⊢
 clear z0 z1 z2 zs hL
 go_loopw [44] (fun i wr => Ext w6 wr ∧ Blk wr (L + 1) #[.slice p1 li.length c1, .slice p2 ls.length c2, .slice p3 lm.length c3] 22 ∧ ((i = .int .i64 0 ∧ Blk wr L (linC lineD lineD lineD) 72) ∨ (i = .int .i64 1 ∧ e0 = 0 ∧ Blk wr L (linC ⟨r0, a0, y0⟩ lineD lineD) 72) ∨ (i = .int .i64 2 ∧ e0 = 0 ∧ e1 = 0 ∧ Blk wr L (linC ⟨r0, a0, y0⟩ ⟨r1, a1, y1⟩ lineD) 72) ∨ (i = .int .i64 3 ∧ e0 = 0 ∧ e1 = 0 ∧ e2 = 0 ∧ Blk wr L (linC ⟨r0, a0, y0⟩ ⟨r1, a1, y1⟩ ⟨r2, a2, y2⟩) 72))) (fun i _ => 3 - (intOf i).toNat)
 case atStart => exact ⟨hEa, bS.out, Or.inl ⟨rfl, bL.out⟩⟩
 case round =>
  obtain ⟨hEr, hS, hrel⟩ := hrel
  clear hEa bL bS bT
  rcases hrel with ⟨rfl, hB⟩ | ⟨rfl, q0, hB⟩ | ⟨rfl, q0, q1, hB⟩ | ⟨rfl, q0, q1, q2, hB⟩
  · have y : wr.cell? ⟨L + 1, 0, none⟩ = some (.slice p1 li.length c1) := (hS.cell 0).trans rfl
    have kA := Lib.hid (kA0.out _ wr (hE.trans hEr) (hF.out.ext hEr))
    replace hB := Lib.hid hB
    replace hS := Lib.hid hS
    go_wp2_with fail
    refine kA.out.mono ?_
    rintro e w8 ⟨rfl, hE8⟩
    replace hB := Lib.hid (hB.out.ext hE8)
    replace hS := Lib.hid (hS.out.ext hE8)
    replace hEr := hEr.trans hE8
    clear hE8 y kA
    by_cases hz : e0 = 0
    case neg =>
     have d : (e0 != 0) = true := by simp [hz]
     have hRR := Lib.hid (hR.out.trans (if_pos hz))
     have bX8 := Lib.hid (bX.out.ext hEr)
     have bXs := bX8.out.lt
     replace hE := hE.trans hEr
     clear hR hB hS hEr
     have x0 : w8.cell? ⟨w.heap.size + 1 + 1, 0, none⟩ = some (.string ⟨#[]⟩) := (bX8.out.cell 0).trans rfl
     have x1 : w8.cell? ⟨w.heap.size + 1 + 1, 1, none⟩ = some (.int .i64 0) := (bX8.out.cell 1).trans rfl
     have x2 : w8.cell? ⟨w.heap.size + 1 + 1, 2, none⟩ = some (.string ⟨#[]⟩) := (bX8.out.cell 2).trans rfl
     have x3 : w8.cell? ⟨w.heap.size + 1 + 1, 3, none⟩ = some (.string ⟨#[]⟩) := (bX8.out.cell 3).trans rfl
     have x4 : w8.cell? ⟨w.heap.size + 1 + 1, 4, none⟩ = some (.int .i64 0) := (bX8.out.cell 4).trans rfl
     have x5 : w8.cell? ⟨w.heap.size + 1 + 1, 5, none⟩ = some (.string ⟨#[]⟩) := (bX8.out.cell 5).trans rfl
     have x6 : w8.cell? ⟨w.heap.size + 1 + 1, 6, none⟩ = some (.string ⟨#[]⟩) := (bX8.out.cell 6).trans rfl
     have x7 : w8.cell? ⟨w.heap.size + 1 + 1, 7, none⟩ = some (.int .i64 0) := (bX8.out.cell 7).trans rfl
     have x8 : w8.cell? ⟨w.heap.size + 1 + 1, 8, none⟩ = some (.string ⟨#[]⟩) := (bX8.out.cell 8).trans rfl
     have x9 : w8.cell? ⟨w.heap.size + 1 + 1, 9, none⟩ = some (.int .i64 0) := (bX8.out.cell 9).trans rfl
     have x10 : w8.cell? ⟨w.heap.size + 1 + 1, 10, none⟩ = some (.int .i64 0) := (bX8.out.cell 10).trans rfl
     have x11 : w8.cell? ⟨w.heap.size + 1 + 1, 11, none⟩ = some (.int .i64 0) := (bX8.out.cell 11).trans rfl
     have x12 : w8.cell? ⟨w.heap.size + 1 + 1, 12, none⟩ = some (.int .i64 0) := (bX8.out.cell 12).trans rfl
     have x13 : w8.cell? ⟨w.heap.size + 1 + 1, 13, none⟩ = some (.int .i64 0) := (bX8.out.cell 13).trans rfl
     have f0 : w8.frozen? ⟨w.heap.size + 1 + 1, 0, none⟩ = false := bX8.out.fz 0
     have f1 : w8.frozen? ⟨w.heap.size + 1 + 1, 1, none⟩ = false := bX8.out.fz 1
     have f2 : w8.frozen? ⟨w.heap.size + 1 + 1, 2, none⟩ = false := bX8.out.fz 2
     have f3 : w8.frozen? ⟨w.heap.size + 1 + 1, 3, none⟩ = false := bX8.out.fz 3
     have f4 : w8.frozen? ⟨w.heap.size + 1 + 1, 4, none⟩ = false := bX8.out.fz 4
     have f5 : w8.frozen? ⟨w.heap.size + 1 + 1, 5, none⟩ = false := bX8.out.fz 5
     have f6 : w8.frozen? ⟨w.heap.size + 1 + 1, 6, none⟩ = false := bX8.out.fz 6
     have f7 : w8.frozen? ⟨w.heap.size + 1 + 1, 7, none⟩ = false := bX8.out.fz 7
     have f8 : w8.frozen? ⟨w.heap.size + 1 + 1, 8, none⟩ = false := bX8.out.fz 8
     have f9 : w8.frozen? ⟨w.heap.size + 1 + 1, 9, none⟩ = false := bX8.out.fz 9
     have f10 : w8.frozen? ⟨w.heap.size + 1 + 1, 10, none⟩ = false := bX8.out.fz 10
     have f11 : w8.frozen? ⟨w.heap.size + 1 + 1, 11, none⟩ = false := bX8.out.fz 11
     have f12 : w8.frozen? ⟨w.heap.size + 1 + 1, 12, none⟩ = false := bX8.out.fz 12
     have f13 : w8.frozen? ⟨w.heap.size + 1 + 1, 13, none⟩ = false := bX8.out.fz 13
     go_wp2
     exact bodyPost_ret (v := .tuple #[.agg #[.string ⟨#[]⟩, .int .i64 0, .string ⟨#[]⟩, .string ⟨#[]⟩, .int .i64 0, .string ⟨#[]⟩, .string ⟨#[]⟩, .int .i64 0, .string ⟨#[]⟩, .int .i64 0, .int .i64 0, .int .i64 0, .int .i64 0, .int .i64 0], .int .i64 e0]) (by first | (simp [results, Tryz.results11, go_sem, x0, x1, x2, x3, x4, x5, x6, x7, x8, x9, x10, x11, x12, x13, bXs]; done) | simp [results, Tryz.results11, go_sem]) rfl (assP (x := resD) hRR.out xt)
    have d : (e0 != 0) = false := by simp [hz]
    have bLs := hB.out.lt
    have x0 : w8.cell? ⟨L, 0, none⟩ = some (.string ⟨#[]⟩) := (hB.out.cell 0).trans rfl
    have x1 : w8.cell? ⟨L, 1, none⟩ = some (.int .i64 0) := (hB.out.cell 1).trans rfl
    have x2 : w8.cell? ⟨L, 2, none⟩ = some (.string ⟨#[]⟩) := (hB.out.cell 2).trans rfl
    have x3 : w8.cell? ⟨L, 3, none⟩ = some (.string ⟨#[]⟩) := (hB.out.cell 3).trans rfl
    have x4 : w8.cell? ⟨L, 4, none⟩ = some (.int .i64 0) := (hB.out.cell 4).trans rfl
    have x5 : w8.cell? ⟨L, 5, none⟩ = some (.string ⟨#[]⟩) := (hB.out.cell 5).trans rfl
    have x6 : w8.cell? ⟨L, 6, none⟩ = some (.string ⟨#[]⟩) := (hB.out.cell 6).trans rfl
    have x7 : w8.cell? ⟨L, 7, none⟩ = some (.int .i64 0) := (hB.out.cell 7).trans rfl
    have x8 : w8.cell? ⟨L, 8, none⟩ = some (.string ⟨#[]⟩) := (hB.out.cell 8).trans rfl
    have f0 : w8.frozen? ⟨L, 0, none⟩ = false := hB.out.fz 0
    have f1 : w8.frozen? ⟨L, 1, none⟩ = false := hB.out.fz 1
    have f2 : w8.frozen? ⟨L, 2, none⟩ = false := hB.out.fz 2
    have f3 : w8.frozen? ⟨L, 3, none⟩ = false := hB.out.fz 3
    have f4 : w8.frozen? ⟨L, 4, none⟩ = false := hB.out.fz 4
    have f5 : w8.frozen? ⟨L, 5, none⟩ = false := hB.out.fz 5
    have f6 : w8.frozen? ⟨L, 6, none⟩ = false := hB.out.fz 6
    have f7 : w8.frozen? ⟨L, 7, none⟩ = false := hB.out.fz 7
    have f8 : w8.frozen? ⟨L, 8, none⟩ = false := hB.out.fz 8
    go_wp2
    go_roundw
    case rel => exact ⟨((((hEr.setCell hLw _).setCell hLw _).setCell hLw _).alloc _), ((((hS.out.other _ _ (by omega)).other _ _ (by omega)).other _ _ (by omega)).alloc _), Or.inr (Or.inl ⟨by go_num, hz, (((hB.out.set _ _).set _ _).set _ _).alloc _⟩)⟩
    case measure => simp [intOf]
  · have y : wr.cell? ⟨L + 1, 1, none⟩ = some (.slice p2 ls.length c2) := (hS.cell 1).trans rfl
    have kA := Lib.hid (kA1.out _ wr (hE.trans hEr) (hF.out.ext hEr))
    replace hB := Lib.hid hB
    replace hS := Lib.hid hS
    go_wp2_with fail
    refine kA.out.mono ?_
    rintro e w8 ⟨rfl, hE8⟩
    replace hB := Lib.hid (hB.out.ext hE8)
    replace hS := Lib.hid (hS.out.ext hE8)
    replace hEr := hEr.trans hE8
    clear hE8 y kA
    by_cases hz : e1 = 0
    case neg =>
     have d : (e1 != 0) = true := by simp [hz]
     have hRR := Lib.hid (hR.out.trans ((if_neg (show ¬ e0 ≠ 0 from fun h => h q0)).trans (if_pos hz)))
     have bX8 := Lib.hid (bX.out.ext hEr)
     have bXs := bX8.out.lt
     replace hE := hE.trans hEr
     clear hR hB hS hEr
     have x0 : w8.cell? ⟨w.heap.size + 1 + 1, 0, none⟩ = some (.string ⟨#[]⟩) := (bX8.out.cell 0).trans rfl
     have x1 : w8.cell? ⟨w.heap.size + 1 + 1, 1, none⟩ = some (.int .i64 0) := (bX8.out.cell 1).trans rfl
     have x2 : w8.cell? ⟨w.heap.size + 1 + 1, 2, none⟩ = some (.string ⟨#[]⟩) := (bX8.out.cell 2).trans rfl
     have x3 : w8.cell? ⟨w.heap.size + 1 + 1, 3, none⟩ = some (.string ⟨#[]⟩) := (bX8.out.cell 3).trans rfl
     have x4 : w8.cell? ⟨w.heap.size + 1 + 1, 4, none⟩ = some (.int .i64 0) := (bX8.out.cell 4).trans rfl
     have x5 : w8.cell? ⟨w.heap.size + 1 + 1, 5, none⟩ = some (.string ⟨#[]⟩) := (bX8.out.cell 5).trans rfl
     have x6 : w8.cell? ⟨w.heap.size + 1 + 1, 6, none⟩ = some (.string ⟨#[]⟩) := (bX8.out.cell 6).trans rfl
     have x7 : w8.cell? ⟨w.heap.size + 1 + 1, 7, none⟩ = some (.int .i64 0) := (bX8.out.cell 7).trans rfl
     have x8 : w8.cell? ⟨w.heap.size + 1 + 1, 8, none⟩ = some (.string ⟨#[]⟩) := (bX8.out.cell 8).trans rfl
     have x9 : w8.cell? ⟨w.heap.size + 1 + 1, 9, none⟩ = some (.int .i64 0) := (bX8.out.cell 9).trans rfl
     have x10 : w8.cell? ⟨w.heap.size + 1 + 1, 10, none⟩ = some (.int .i64 0) := (bX8.out.cell 10).trans rfl
     have x11 : w8.cell? ⟨w.heap.size + 1 + 1, 11, none⟩ = some (.int .i64 0) := (bX8.out.cell 11).trans rfl
     have x12 : w8.cell? ⟨w.heap.size + 1 + 1, 12, none⟩ = some (.int .i64 0) := (bX8.out.cell 12).trans rfl
     have x13 : w8.cell? ⟨w.heap.size + 1 + 1, 13, none⟩ = some (.int .i64 0) := (bX8.out.cell 13).trans rfl
     have f0 : w8.frozen? ⟨w.heap.size + 1 + 1, 0, none⟩ = false := bX8.out.fz 0
     have f1 : w8.frozen? ⟨w.heap.size + 1 + 1, 1, none⟩ = false := bX8.out.fz 1
     have f2 : w8.frozen? ⟨w.heap.size + 1 + 1, 2, none⟩ = false := bX8.out.fz 2
     have f3 : w8.frozen? ⟨w.heap.size + 1 + 1, 3, none⟩ = false := bX8.out.fz 3
     have f4 : w8.frozen? ⟨w.heap.size + 1 + 1, 4, none⟩ = false := bX8.out.fz 4
     have f5 : w8.frozen? ⟨w.heap.size + 1 + 1, 5, none⟩ = false := bX8.out.fz 5
     have f6 : w8.frozen? ⟨w.heap.size + 1 + 1, 6, none⟩ = false := bX8.out.fz 6
     have f7 : w8.frozen? ⟨w.heap.size + 1 + 1, 7, none⟩ = false := bX8.out.fz 7
     have f8 : w8.frozen? ⟨w.heap.size + 1 + 1, 8, none⟩ = false := bX8.out.fz 8
     have f9 : w8.frozen? ⟨w.heap.size + 1 + 1, 9, none⟩ = false := bX8.out.fz 9
     have f10 : w8.frozen? ⟨w.heap.size + 1 + 1, 10, none⟩ = false := bX8.out.fz 10
     have f11 : w8.frozen? ⟨w.heap.size + 1 + 1, 11, none⟩ = false := bX8.out.fz 11
     have f12 : w8.frozen? ⟨w.heap.size + 1 + 1, 12, none⟩ = false := bX8.out.fz 12
     have f13 : w8.frozen? ⟨w.heap.size + 1 + 1, 13, none⟩ = false := bX8.out.fz 13
     go_wp2
     exact bodyPost_ret (v := .tuple #[.agg #[.string ⟨#[]⟩, .int .i64 0, .string ⟨#[]⟩, .string ⟨#[]⟩, .int .i64 0, .string ⟨#[]⟩, .string ⟨#[]⟩, .int .i64 0, .string ⟨#[]⟩, .int .i64 0, .int .i64 0, .int .i64 0, .int .i64 0, .int .i64 0], .int .i64 e1]) (by first | (simp [results, Tryz.results11, go_sem, x0, x1, x2, x3, x4, x5, x6, x7, x8, x9, x10, x11, x12, x13, bXs]; done) | simp [results, Tryz.results11, go_sem]) rfl (assP (x := resD) hRR.out xt)
    have d : (e1 != 0) = false := by simp [hz]
    have bLs := hB.out.lt
    have x0 : w8.cell? ⟨L, 0, none⟩ = some (.string r0) := (hB.out.cell 0).trans rfl
    have x1 : w8.cell? ⟨L, 1, none⟩ = some (.int .i64 a0) := (hB.out.cell 1).trans rfl
    have x2 : w8.cell? ⟨L, 2, none⟩ = some (.string y0) := (hB.out.cell 2).trans rfl
    have x3 : w8.cell? ⟨L, 3, none⟩ = some (.string ⟨#[]⟩) := (hB.out.cell 3).trans rfl
    have x4 : w8.cell? ⟨L, 4, none⟩ = some (.int .i64 0) := (hB.out.cell 4).trans rfl
    have x5 : w8.cell? ⟨L, 5, none⟩ = some (.string ⟨#[]⟩) := (hB.out.cell 5).trans rfl
    have x6 : w8.cell? ⟨L, 6, none⟩ = some (.string ⟨#[]⟩) := (hB.out.cell 6).trans rfl
    have x7 : w8.cell? ⟨L, 7, none⟩ = some (.int .i64 0) := (hB.out.cell 7).trans rfl
    have x8 : w8.cell? ⟨L, 8, none⟩ = some (.string ⟨#[]⟩) := (hB.out.cell 8).trans rfl
    have f0 : w8.frozen? ⟨L, 0, none⟩ = false := hB.out.fz 0
    have f1 : w8.frozen? ⟨L, 1, none⟩ = false := hB.out.fz 1
    have f2 : w8.frozen? ⟨L, 2, none⟩ = false := hB.out.fz 2
    have f3 : w8.frozen? ⟨L, 3, none⟩ = false := hB.out.fz 3
    have f4 : w8.frozen? ⟨L, 4, none⟩ = false := hB.out.fz 4
    have f5 : w8.frozen? ⟨L, 5, none⟩ = false := hB.out.fz 5
    have f6 : w8.frozen? ⟨L, 6, none⟩ = false := hB.out.fz 6
    have f7 : w8.frozen? ⟨L, 7, none⟩ = false := hB.out.fz 7
    have f8 : w8.frozen? ⟨L, 8, none⟩ = false := hB.out.fz 8
    go_wp2
    go_roundw
    case rel => exact ⟨((((hEr.setCell hLw _).setCell hLw _).setCell hLw _).alloc _), ((((hS.out.other _ _ (by omega)).other _ _ (by omega)).other _ _ (by omega)).alloc _), Or.inr (Or.inr (Or.inl ⟨by go_num, q0, hz, (((hB.out.set _ _).set _ _).set _ _).alloc _⟩))⟩
    case measure => simp [intOf]
  · have y : wr.cell? ⟨L + 1, 2, none⟩ = some (.slice p3 lm.length c3) := (hS.cell 2).trans rfl
    have kA := Lib.hid (kA2.out _ wr (hE.trans hEr) (hF.out.ext hEr))
    replace hB := Lib.hid hB
    replace hS := Lib.hid hS
    go_wp2_with fail
    refine kA.out.mono ?_
    rintro e w8 ⟨rfl, hE8⟩
    replace hB := Lib.hid (hB.out.ext hE8)
    replace hS := Lib.hid (hS.out.ext hE8)
    replace hEr := hEr.trans hE8
    clear hE8 y kA
    by_cases hz : e2 = 0
    case neg =>
     have d : (e2 != 0) = true := by simp [hz]
     have hRR := Lib.hid (hR.out.trans ((if_neg (show ¬ e0 ≠ 0 from fun h => h q0)).trans ((if_neg (show ¬ e1 ≠ 0 from fun h => h q1)).trans (if_pos hz))))
     have bX8 := Lib.hid (bX.out.ext hEr)
     have bXs := bX8.out.lt
     replace hE := hE.trans hEr
     clear hR hB hS hEr
     have x0 : w8.cell? ⟨w.heap.size + 1 + 1, 0, none⟩ = some (.string ⟨#[]⟩) := (bX8.out.cell 0).trans rfl
     have x1 : w8.cell? ⟨w.heap.size + 1 + 1, 1, none⟩ = some (.int .i64 0) := (bX8.out.cell 1).trans rfl
     have x2 : w8.cell? ⟨w.heap.size + 1 + 1, 2, none⟩ = some (.string ⟨#[]⟩) := (bX8.out.cell 2).trans rfl
     have x3 : w8.cell? ⟨w.heap.size + 1 + 1, 3, none⟩ = some (.string ⟨#[]⟩) := (bX8.out.cell 3).trans rfl
     have x4 : w8.cell? ⟨w.heap.size + 1 + 1, 4, none⟩ = some (.int .i64 0) := (bX8.out.cell 4).trans rfl
     have x5 : w8.cell? ⟨w.heap.size + 1 + 1, 5, none⟩ = some (.string ⟨#[]⟩) := (bX8.out.cell 5).trans rfl
     have x6 : w8.cell? ⟨w.heap.size + 1 + 1, 6, none⟩ = some (.string ⟨#[]⟩) := (bX8.out.cell 6).trans rfl
     have x7 : w8.cell? ⟨w.heap.size + 1 + 1, 7, none⟩ = some (.int .i64 0) := (bX8.out.cell 7).trans rfl
     have x8 : w8.cell? ⟨w.heap.size + 1 + 1, 8, none⟩ = some (.string ⟨#[]⟩) := (bX8.out.cell 8).trans rfl
     have x9 : w8.cell? ⟨w.heap.size + 1 + 1, 9, none⟩ = some (.int .i64 0) := (bX8.out.cell 9).trans rfl
     have x10 : w8.cell? ⟨w.heap.size + 1 + 1, 10, none⟩ = some (.int .i64 0) := (bX8.out.cell 10).trans rfl
     have x11 : w8.cell? ⟨w.heap.size + 1 + 1, 11, none⟩ = some (.int .i64 0) := (bX8.out.cell 11).trans rfl
     have x12 : w8.cell? ⟨w.heap.size + 1 + 1, 12, none⟩ = some (.int .i64 0) := (bX8.out.cell 12).trans rfl
     have x13 : w8.cell? ⟨w.heap.size + 1 + 1, 13, none⟩ = some (.int .i64 0) := (bX8.out.cell 13).trans rfl
     have f0 : w8.frozen? ⟨w.heap.size + 1 + 1, 0, none⟩ = false := bX8.out.fz 0
     have f1 : w8.frozen? ⟨w.heap.size + 1 + 1, 1, none⟩ = false := bX8.out.fz 1
     have f2 : w8.frozen? ⟨w.heap.size + 1 + 1, 2, none⟩ = false := bX8.out.fz 2
     have f3 : w8.frozen? ⟨w.heap.size + 1 + 1, 3, none⟩ = false := bX8.out.fz 3
     have f4 : w8.frozen? ⟨w.heap.size + 1 + 1, 4, none⟩ = false := bX8.out.fz 4
     have f5 : w8.frozen? ⟨w.heap.size + 1 + 1, 5, none⟩ = false := bX8.out.fz 5
     have f6 : w8.frozen? ⟨w.heap.size + 1 + 1, 6, none⟩ = false := bX8.out.fz 6
     have f7 : w8.frozen? ⟨w.heap.size + 1 + 1, 7, none⟩ = false := bX8.out.fz 7
     have f8 : w8.frozen? ⟨w.heap.size + 1 + 1, 8, none⟩ = false := bX8.out.fz 8
     have f9 : w8.frozen? ⟨w.heap.size + 1 + 1, 9, none⟩ = false := bX8.out.fz 9
     have f10 : w8.frozen? ⟨w.heap.size + 1 + 1, 10, none⟩ = false := bX8.out.fz 10
     have f11 : w8.frozen? ⟨w.heap.size + 1 + 1, 11, none⟩ = false := bX8.out.fz 11
     have f12 : w8.frozen? ⟨w.heap.size + 1 + 1, 12, none⟩ = false := bX8.out.fz 12
     have f13 : w8.frozen? ⟨w.heap.size + 1 + 1, 13, none⟩ = false := bX8.out.fz 13
     go_wp2
     exact bodyPost_ret (v := .tuple #[.agg #[.string ⟨#[]⟩, .int .i64 0, .string ⟨#[]⟩, .string ⟨#[]⟩, .int .i64 0, .string ⟨#[]⟩, .string ⟨#[]⟩, .int .i64 0, .string ⟨#[]⟩, .int .i64 0, .int .i64 0, .int .i64 0, .int .i64 0, .int .i64 0], .int .i64 e2]) (by first | (simp [results, Tryz.results11, go_sem, x0, x1, x2, x3, x4, x5, x6, x7, x8, x9, x10, x11, x12, x13, bXs]; done) | simp [results, Tryz.results11, go_sem]) rfl (assP (x := resD) hRR.out xt)
    exact (hne.out ⟨by first | rfl | trivial, by first | rfl | trivial, q0, q1, hz⟩).elim
  · exact (hne.out ⟨by first | rfl | trivial, by first | rfl | trivial, q0, q1, q2⟩).elim
theorem assess_any (tv : Value) (t : TabsD) (r : RecD) (w : World) (g : Gw w) (hT : TabsM w tv t) (ok0 : TabOk t.i (recF r)) (ok1 : TabOk t.s (recF r)) (ok2 : TabOk t.m (recF r)) : Calls Tryz.prog 11 #[tv, recAgg r] w (AssP (assessV t r) w) := by
 by_cases h : recE r = 0 ∧ tabsE t = 0 ∧ (applyV t.i (recF r) r.amt).2 = 0 ∧ (applyV t.s (recF r) r.amt).2 = 0 ∧ (applyV t.m (recF r) r.amt).2 = 0
 · obtain ⟨a, b, c, d, e⟩ := h
   exact assess_ok tv t r w g hT ok0 ok1 ok2 a b c d e
 · exact assess_err tv t r w g hT ok0 ok1 ok2 h
end Go.Proofs.YtmnhmkjmcckneaaGreatDoor
