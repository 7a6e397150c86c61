/- The contract of the reference's Assess of layer 38 (walk; printed by gen/h28.py). -/
import Derived.Test.YtmnhmkjmcckneaaGreatDoorJh
namespace Go.Proofs.YtmnhmkjmcckneaaGreatDoor
open Go.RowKit
set_option maxRecDepth 8000 in
set_option maxHeartbeats 8000000 in
theorem rassess_err (tv : Value) (t : TabsD) (r : RecD) (w : World) (g : Gw w) (hT : TabsM w tv t) (hp : ∀ j, j < 3 → RefIn (t.at j)) (ok0 : TabOk t.i (recF r)) (ok1 : TabOk t.s (recF r)) (ok2 : TabOk t.m (recF r)) (hs : RecS r) (hne : ¬ (recE r = 0 ∧ tabsE t = 0)) : Calls Tryz.prog 12 #[tv, recAgg r] w (AssP (assessV t r) w) := by
 have kR := Lib.hid (fun w1 => rrcheck_any r w1 hs)
 have kC := Lib.hid (fun w1 (h : Ext w w1) => r38check_any tv t w1 (hT.ext h) hp)
 obtain ⟨v1, v2, v3, rfl, h1, h2, h3⟩ := hT
 obtain ⟨p1, c1, rfl⟩ := h1.form
 obtain ⟨p2, c2, rfl⟩ := h2.form
 obtain ⟨p3, c3, rfl⟩ := h3.form
 obtain ⟨R, hR⟩ : ∃ R, R = assessV t r := ⟨_, rfl⟩
 rw [← hR]
 unfold assessV at hR
 generalize recE r = RE at *
 generalize tabsE t = TE at *
 obtain ⟨kind, id, auth, acq, iss, mer, card, amt, cur, date, cat, fin⟩ := r
 obtain ⟨li, ls, lm⟩ := t
 simp only [recAgg] at kR kC hR ⊢
 have hl0 := h1.1
 have hl1 := h2.1
 have hl2 := h3.1
 simp only at hl0 hl1 hl2
 replace hR := Lib.hid hR
 clear h1 h2 h3 ok0 ok1 ok2 hp hs
 replace hne := Lib.hid hne
 clear g
 go_enter Tryz.func12, Tryz.ntmps12
 go_wp2_with fail
 refine (kR.out _).mono ?_
 rintro e w1 ⟨rfl, hE1⟩
 have bT := Lib.hid ((((Blk.new w #[.slice p1 li.length c1, .slice p2 ls.length c2, .slice p3 lm.length c3] 42).alloc (.cells #[.int .i64 kind, .string id, .string auth, .string acq, .string iss, .string mer, .string card, .int .i64 amt, .string cur, .int .i64 date, .int .i64 cat, .bool fin] 28)).alloc (.cells #[.string ⟨#[]⟩, .int .i64 0, .string ⟨#[]⟩, .string ⟨#[]⟩, .int .i64 0, .string ⟨#[]⟩, .string ⟨#[]⟩, .int .i64 0, .string ⟨#[]⟩, .int .i64 0, .int .i64 0, .int .i64 0, .int .i64 0, .int .i64 0] 39)).ext hE1)
 have bR0 : Blk ((w.alloc (.cells #[.slice p1 li.length c1, .slice p2 ls.length c2, .slice p3 lm.length c3] 42)).alloc (.cells #[.int .i64 kind, .string id, .string auth, .string acq, .string iss, .string mer, .string card, .int .i64 amt, .string cur, .int .i64 date, .int .i64 cat, .bool fin] 28)) (w.heap.size + 1) #[.int .i64 kind, .string id, .string auth, .string acq, .string iss, .string mer, .string card, .int .i64 amt, .string cur, .int .i64 date, .int .i64 cat, .bool fin] 28 := Blk.new' _ _ _ _ (by simp)
 have bR := Lib.hid ((bR0.alloc (.cells #[.string ⟨#[]⟩, .int .i64 0, .string ⟨#[]⟩, .string ⟨#[]⟩, .int .i64 0, .string ⟨#[]⟩, .string ⟨#[]⟩, .int .i64 0, .string ⟨#[]⟩, .int .i64 0, .int .i64 0, .int .i64 0, .int .i64 0, .int .i64 0] 39)).ext hE1)
 have bX0 : Blk (((w.alloc (.cells #[.slice p1 li.length c1, .slice p2 ls.length c2, .slice p3 lm.length c3] 42)).alloc (.cells #[.int .i64 kind, .string id, .string auth, .string acq, .string iss, .string mer, .string card, .int .i64 amt, .string cur, .int .i64 date, .int .i64 cat, .bool fin] 28)).alloc (.cells #[.string ⟨#[]⟩, .int .i64 0, .string ⟨#[]⟩, .string ⟨#[]⟩, .int .i64 0, .string ⟨#[]⟩, .string ⟨#[]⟩, .int .i64 0, .string ⟨#[]⟩, .int .i64 0, .int .i64 0, .int .i64 0, .int .i64 0, .int .i64 0] 39)) (w.heap.size + 1 + 1) #[.string ⟨#[]⟩, .int .i64 0, .string ⟨#[]⟩, .string ⟨#[]⟩, .int .i64 0, .string ⟨#[]⟩, .string ⟨#[]⟩, .int .i64 0, .string ⟨#[]⟩, .int .i64 0, .int .i64 0, .int .i64 0, .int .i64 0, .int .i64 0] 39 := Blk.new' _ _ _ _ (by simp)
 have bX := Lib.hid (bX0.ext hE1)
 have hE : Ext w w1 := Ext.trans xt hE1
 clear hE1 bR0 bX0
 by_cases hre : RE = 0
 case neg =>
  have d : (RE != 0) = true := by simp [hre]
  have hRR := Lib.hid (hR.out.trans (if_pos hre))
  clear hR kC
  have y0 : w1.cell? ⟨w.heap.size + 1, 0, none⟩ = some (.int .i64 kind) := (bR.out.cell 0).trans rfl
  have y1 : w1.cell? ⟨w.heap.size + 1, 1, none⟩ = some (.string id) := (bR.out.cell 1).trans rfl
  have y2 : w1.cell? ⟨w.heap.size + 1, 2, none⟩ = some (.string auth) := (bR.out.cell 2).trans rfl
  have y3 : w1.cell? ⟨w.heap.size + 1, 3, none⟩ = some (.string acq) := (bR.out.cell 3).trans rfl
  have y4 : w1.cell? ⟨w.heap.size + 1, 4, none⟩ = some (.string iss) := (bR.out.cell 4).trans rfl
  have y5 : w1.cell? ⟨w.heap.size + 1, 5, none⟩ = some (.string mer) := (bR.out.cell 5).trans rfl
  have y6 : w1.cell? ⟨w.heap.size + 1, 6, none⟩ = some (.string card) := (bR.out.cell 6).trans rfl
  have y7 : w1.cell? ⟨w.heap.size + 1, 7, none⟩ = some (.int .i64 amt) := (bR.out.cell 7).trans rfl
  have y8 : w1.cell? ⟨w.heap.size + 1, 8, none⟩ = some (.string cur) := (bR.out.cell 8).trans rfl
  have y9 : w1.cell? ⟨w.heap.size + 1, 9, none⟩ = some (.int .i64 date) := (bR.out.cell 9).trans rfl
  have y10 : w1.cell? ⟨w.heap.size + 1, 10, none⟩ = some (.int .i64 cat) := (bR.out.cell 10).trans rfl
  have y11 : w1.cell? ⟨w.heap.size + 1, 11, none⟩ = some (.bool fin) := (bR.out.cell 11).trans rfl
  go_wp2_with fail
  refine (kR.out _).mono ?_
  rintro e w2 ⟨rfl, hE2⟩
  replace bX := Lib.hid (bX.out.ext hE2)
  replace hE := hE.trans hE2
  clear hE2 kR y0 y1 y2 y3 y4 y5 y6 y7 y8 y9 y10 y11
  have x0 : w2.cell? ⟨w.heap.size + 1 + 1, 0, none⟩ = some (.string ⟨#[]⟩) := (bX.out.cell 0).trans rfl
  have x1 : w2.cell? ⟨w.heap.size + 1 + 1, 1, none⟩ = some (.int .i64 0) := (bX.out.cell 1).trans rfl
  have x2 : w2.cell? ⟨w.heap.size + 1 + 1, 2, none⟩ = some (.string ⟨#[]⟩) := (bX.out.cell 2).trans rfl
  have x3 : w2.cell? ⟨w.heap.size + 1 + 1, 3, none⟩ = some (.string ⟨#[]⟩) := (bX.out.cell 3).trans rfl
  have x4 : w2.cell? ⟨w.heap.size + 1 + 1, 4, none⟩ = some (.int .i64 0) := (bX.out.cell 4).trans rfl
  have x5 : w2.cell? ⟨w.heap.size + 1 + 1, 5, none⟩ = some (.string ⟨#[]⟩) := (bX.out.cell 5).trans rfl
  have x6 : w2.cell? ⟨w.heap.size + 1 + 1, 6, none⟩ = some (.string ⟨#[]⟩) := (bX.out.cell 6).trans rfl
  have x7 : w2.cell? ⟨w.heap.size + 1 + 1, 7, none⟩ = some (.int .i64 0) := (bX.out.cell 7).trans rfl
  have x8 : w2.cell? ⟨w.heap.size + 1 + 1, 8, none⟩ = some (.string ⟨#[]⟩) := (bX.out.cell 8).trans rfl
  have x9 : w2.cell? ⟨w.heap.size + 1 + 1, 9, none⟩ = some (.int .i64 0) := (bX.out.cell 9).trans rfl
  have x10 : w2.cell? ⟨w.heap.size + 1 + 1, 10, none⟩ = some (.int .i64 0) := (bX.out.cell 10).trans rfl
  have x11 : w2.cell? ⟨w.heap.size + 1 + 1, 11, none⟩ = some (.int .i64 0) := (bX.out.cell 11).trans rfl
  have x12 : w2.cell? ⟨w.heap.size + 1 + 1, 12, none⟩ = some (.int .i64 0) := (bX.out.cell 12).trans rfl
  have x13 : w2.cell? ⟨w.heap.size + 1 + 1, 13, none⟩ = some (.int .i64 0) := (bX.out.cell 13).trans rfl
  have f0 : w2.frozen? ⟨w.heap.size + 1 + 1, 0, none⟩ = false := bX.out.fz 0
  have f1 : w2.frozen? ⟨w.heap.size + 1 + 1, 1, none⟩ = false := bX.out.fz 1
  have f2 : w2.frozen? ⟨w.heap.size + 1 + 1, 2, none⟩ = false := bX.out.fz 2
  have f3 : w2.frozen? ⟨w.heap.size + 1 + 1, 3, none⟩ = false := bX.out.fz 3
  have f4 : w2.frozen? ⟨w.heap.size + 1 + 1, 4, none⟩ = false := bX.out.fz 4
  have f5 : w2.frozen? ⟨w.heap.size + 1 + 1, 5, none⟩ = false := bX.out.fz 5
  have f6 : w2.frozen? ⟨w.heap.size + 1 + 1, 6, none⟩ = false := bX.out.fz 6
  have f7 : w2.frozen? ⟨w.heap.size + 1 + 1, 7, none⟩ = false := bX.out.fz 7
  have f8 : w2.frozen? ⟨w.heap.size + 1 + 1, 8, none⟩ = false := bX.out.fz 8
  have f9 : w2.frozen? ⟨w.heap.size + 1 + 1, 9, none⟩ = false := bX.out.fz 9
  have f10 : w2.frozen? ⟨w.heap.size + 1 + 1, 10, none⟩ = false := bX.out.fz 10
  have f11 : w2.frozen? ⟨w.heap.size + 1 + 1, 11, none⟩ = false := bX.out.fz 11
  have f12 : w2.frozen? ⟨w.heap.size + 1 + 1, 12, none⟩ = false := bX.out.fz 12
  have f13 : w2.frozen? ⟨w.heap.size + 1 + 1, 13, none⟩ = false := bX.out.fz 13
  go_wp2
  exact bodyPost_ret (v := .tuple #[.agg #[.string ⟨#[]⟩, .int .i64 0, .string ⟨#[]⟩, .string ⟨#[]⟩, .int .i64 0, .string ⟨#[]⟩, .string ⟨#[]⟩, .int .i64 0, .string ⟨#[]⟩, .int .i64 0, .int .i64 0, .int .i64 0, .int .i64 0, .int .i64 0], .int .i64 RE]) (by first | (simp [results, Tryz.results12, go_sem, x0, x1, x2, x3, x4, x5, x6, x7, x8, x9, x10, x11, x12, x13]; done) | simp [results, Tryz.results12, go_sem]) rfl (assP (x := resD) hRR.out xt)
 subst hre
 replace hR := Lib.hid (hR.out.trans (if_neg (by decide)))
 clear kR
 have z0 : w1.cell? ⟨w.heap.size, 0, none⟩ = some (.slice p1 li.length c1) := (bT.out.cell 0).trans rfl
 have z1 : w1.cell? ⟨w.heap.size, 1, none⟩ = some (.slice p2 ls.length c2) := (bT.out.cell 1).trans rfl
 have z2 : w1.cell? ⟨w.heap.size, 2, none⟩ = some (.slice p3 lm.length c3) := (bT.out.cell 2).trans rfl
 go_wp2_with fail
 refine (kC.out _ hE).mono ?_
 rintro e w2 ⟨rfl, hE2⟩
 replace bT := Lib.hid (bT.out.ext hE2)
 replace bR := Lib.hid (bR.out.ext hE2)
 replace bX := Lib.hid (bX.out.ext hE2)
 replace hE := hE.trans hE2
 clear hE2 z0 z1 z2
 by_cases hte : TE = 0
 case pos => exact (hne.out ⟨by first | rfl | trivial, hte⟩).elim
 have d : (TE != 0) = true := by simp [hte]
 have hRR := Lib.hid (hR.out.trans (if_pos hte))
 clear hR
 have z0 : w2.cell? ⟨w.heap.size, 0, none⟩ = some (.slice p1 li.length c1) := (bT.out.cell 0).trans rfl
 have z1 : w2.cell? ⟨w.heap.size, 1, none⟩ = some (.slice p2 ls.length c2) := (bT.out.cell 1).trans rfl
 have z2 : w2.cell? ⟨w.heap.size, 2, none⟩ = some (.slice p3 lm.length c3) := (bT.out.cell 2).trans rfl
 go_wp2_with fail
 refine (kC.out _ hE).mono ?_
 rintro e w3 ⟨rfl, hE3⟩
 replace bX := Lib.hid (bX.out.ext hE3)
 replace hE := hE.trans hE3
 clear hE3 kC z0 z1 z2 bT bR
 have x0 : w3.cell? ⟨w.heap.size + 1 + 1, 0, none⟩ = some (.string ⟨#[]⟩) := (bX.out.cell 0).trans rfl
 have x1 : w3.cell? ⟨w.heap.size + 1 + 1, 1, none⟩ = some (.int .i64 0) := (bX.out.cell 1).trans rfl
 have x2 : w3.cell? ⟨w.heap.size + 1 + 1, 2, none⟩ = some (.string ⟨#[]⟩) := (bX.out.cell 2).trans rfl
 have x3 : w3.cell? ⟨w.heap.size + 1 + 1, 3, none⟩ = some (.string ⟨#[]⟩) := (bX.out.cell 3).trans rfl
 have x4 : w3.cell? ⟨w.heap.size + 1 + 1, 4, none⟩ = some (.int .i64 0) := (bX.out.cell 4).trans rfl
 have x5 : w3.cell? ⟨w.heap.size + 1 + 1, 5, none⟩ = some (.string ⟨#[]⟩) := (bX.out.cell 5).trans rfl
 have x6 : w3.cell? ⟨w.heap.size + 1 + 1, 6, none⟩ = some (.string ⟨#[]⟩) := (bX.out.cell 6).trans rfl
 have x7 : w3.cell? ⟨w.heap.size + 1 + 1, 7, none⟩ = some (.int .i64 0) := (bX.out.cell 7).trans rfl
 have x8 : w3.cell? ⟨w.heap.size + 1 + 1, 8, none⟩ = some (.string ⟨#[]⟩) := (bX.out.cell 8).trans rfl
 have x9 : w3.cell? ⟨w.heap.size + 1 + 1, 9, none⟩ = some (.int .i64 0) := (bX.out.cell 9).trans rfl
 have x10 : w3.cell? ⟨w.heap.size + 1 + 1, 10, none⟩ = some (.int .i64 0) := (bX.out.cell 10).trans rfl
 have x11 : w3.cell? ⟨w.heap.size + 1 + 1, 11, none⟩ = some (.int .i64 0) := (bX.out.cell 11).trans rfl
 have x12 : w3.cell? ⟨w.heap.size + 1 + 1, 12, none⟩ = some (.int .i64 0) := (bX.out.cell 12).trans rfl
 have x13 : w3.cell? ⟨w.heap.size + 1 + 1, 13, none⟩ = some (.int .i64 0) := (bX.out.cell 13).trans rfl
 have f0 : w3.frozen? ⟨w.heap.size + 1 + 1, 0, none⟩ = false := bX.out.fz 0
 have f1 : w3.frozen? ⟨w.heap.size + 1 + 1, 1, none⟩ = false := bX.out.fz 1
 have f2 : w3.frozen? ⟨w.heap.size + 1 + 1, 2, none⟩ = false := bX.out.fz 2
 have f3 : w3.frozen? ⟨w.heap.size + 1 + 1, 3, none⟩ = false := bX.out.fz 3
 have f4 : w3.frozen? ⟨w.heap.size + 1 + 1, 4, none⟩ = false := bX.out.fz 4
 have f5 : w3.frozen? ⟨w.heap.size + 1 + 1, 5, none⟩ = false := bX.out.fz 5
 have f6 : w3.frozen? ⟨w.heap.size + 1 + 1, 6, none⟩ = false := bX.out.fz 6
 have f7 : w3.frozen? ⟨w.heap.size + 1 + 1, 7, none⟩ = false := bX.out.fz 7
 have f8 : w3.frozen? ⟨w.heap.size + 1 + 1, 8, none⟩ = false := bX.out.fz 8
 have f9 : w3.frozen? ⟨w.heap.size + 1 + 1, 9, none⟩ = false := bX.out.fz 9
 have f10 : w3.frozen? ⟨w.heap.size + 1 + 1, 10, none⟩ = false := bX.out.fz 10
 have f11 : w3.frozen? ⟨w.heap.size + 1 + 1, 11, none⟩ = false := bX.out.fz 11
 have f12 : w3.frozen? ⟨w.heap.size + 1 + 1, 12, none⟩ = false := bX.out.fz 12
 have f13 : w3.frozen? ⟨w.heap.size + 1 + 1, 13, none⟩ = false := bX.out.fz 13
 go_wp2
 exact bodyPost_ret (v := .tuple #[.agg #[.string ⟨#[]⟩, .int .i64 0, .string ⟨#[]⟩, .string ⟨#[]⟩, .int .i64 0, .string ⟨#[]⟩, .string ⟨#[]⟩, .int .i64 0, .string ⟨#[]⟩, .int .i64 0, .int .i64 0, .int .i64 0, .int .i64 0, .int .i64 0], .int .i64 TE]) (by first | (simp [results, Tryz.results12, go_sem, x0, x1, x2, x3, x4, x5, x6, x7, x8, x9, x10, x11, x12, x13]; done) | simp [results, Tryz.results12, go_sem]) rfl (assP (x := resD) hRR.out xt)
theorem rassess_any (tv : Value) (t : TabsD) (r : RecD) (w : World) (g : Gw w) (hT : TabsM w tv t) (hp : ∀ j, j < 3 → RefIn (t.at j)) (ok0 : TabOk t.i (recF r)) (ok1 : TabOk t.s (recF r)) (ok2 : TabOk t.m (recF r)) (hs : RecS r) : Calls Tryz.prog 12 #[tv, recAgg r] w (AssP (assessV t r) w) := by
 by_cases h : recE r = 0 ∧ tabsE t = 0
 · exact rassess_ok tv t r w g hT hp ok0 ok1 ok2 hs h.1 h.2
 · exact rassess_err tv t r w g hT hp ok0 ok1 ok2 hs h
end Go.Proofs.YtmnhmkjmcckneaaGreatDoor
