/- The walk of the law AssessBalances (printed by gen/h13.py). -/
import Derived.Test.YtmnhmkjmcckneaaGreatDoorHw
namespace Go.Proofs.YtmnhmkjmcckneaaGreatDoor
open Go.RowKit
theorem bal_share {k a : Int} {i s m : LineD} (h1 : 1 ≤ a) (h2 : a ≤ 999999999999) (hi : LinI i) (hs : LinI s) (hm : LinI m) : balB (shareV k a i s m) = true := by
  obtain ⟨i1, i2⟩ := hi
  obtain ⟨s1, s2⟩ := hs
  obtain ⟨m1, m2⟩ := hm
  unfold shareV
  split
  · unfold balB totalB
    simp only [Bool.and_eq_true, decide_eq_true_eq]
    omega
  · unfold balB totalB
    simp only [Bool.and_eq_true, decide_eq_true_eq]
    omega
set_option maxRecDepth 8000 in
set_option maxHeartbeats 8000000 in
theorem law_balances (tv : Value) (t : TabsD) (r : RecD) (w : World) (g : Gw w) (hT : TabsM w tv t) (hI : RecI r) : Calls Tryz.prog 4 #[tv, recAgg r] w (OneV (.bool true) w) := by
  have kS := Lib.hid (fun w1 (h : Ext w w1) => small38_any tv t w1 (hT.ext h))
  have kH := Lib.hid (fun w1 => short_any r w1)
  have kA := Lib.hid (fun w1 (h : Ext w w1) (a : SmaOk t) (b : ShOk r) => assess_any tv t r w1 (g.ext h) (hT.ext h) (few_tab a.i b hI) (few_tab a.s b hI) (few_tab a.m b hI))
  have kC := Lib.hid (fun w1 (h : Ext w w1) (a : SmaOk t) (e : tabsE t = 0) => check38_at tv t w1 (hT.ext h) a e)
  have kW := Lib.hid (fun w1 (h : Ext w w1) => awake38_any w1 (g.ext h))
  have kB := Lib.hid (fun k a (i s m : LineD) w1 (h1 : 1 ≤ a) (h2 : a ≤ 999999999999) (hi : LinI i) (hs : LinI s) (hm : LinI m) => bal_at (shareV k a i s m) w1 (bal_share h1 h2 hi hs hm))
  have hcs := assess_cases t r
  have hrk := fun h => rec_kind (r := r) h
  have hra := fun h => rec_amt (r := r) h
  obtain ⟨v1, v2, v3, rfl, h1, h2, h3⟩ := hT
  obtain ⟨p1, c1, rfl⟩ := h1.form
  obtain ⟨p2, c2, rfl⟩ := h2.form
  obtain ⟨p3, c3, rfl⟩ := h3.form
  clear h1 h2 h3 hI g
  unfold SmaP at kS
  unfold ShP at kH
  unfold AssP at kA
  generalize assessV t r = AV at *
  obtain ⟨kind, id, auth, acq, iss, mer, card, amt, cur, date, cat, fin⟩ := r
  simp only [recAgg] at kH kA hcs hrk hra ⊢
  generalize recE (RecD.mk kind id auth acq iss mer card amt cur date cat fin) = RE at *
  generalize RecD.mk kind id auth acq iss mer card amt cur date cat fin = r at *
  replace hcs := Lib.hid hcs
  replace hrk := Lib.hid hrk
  replace hra := Lib.hid hra
  go_enter Tryz.func4, Tryz.ntmps4
  go_wp2_with fail
  refine (kS.out _ (by repeat (first | with_reducible exact Ext.refl _ | with_reducible exact hE0 | with_reducible exact hE | with_reducible refine Ext.alloc ?_ _ | with_reducible refine Ext.drewN ?_ _ | with_reducible refine Ext.drew ?_ | ((with_reducible refine Ext.setCell ?_ ?side _); (case side => first | exact Nat.le_refl _ | (simp; done) | (simp; omega)))))).mono ?_
  rintro e w1 ⟨b1, rfl, a1, hE1⟩
  have bT := Lib.hid (((Blk.new w #[.slice p1 t.i.length c1, .slice p2 t.s.length c2, .slice p3 t.m.length c3] 24).alloc (.cells #[.int .i64 kind, .string id, .string auth, .string acq, .string iss, .string mer, .string card, .int .i64 amt, .string cur, .int .i64 date, .int .i64 cat, .bool fin] 28)).ext hE1)
  have bR0 : Blk ((w.alloc (.cells #[.slice p1 t.i.length c1, .slice p2 t.s.length c2, .slice p3 t.m.length c3] 24)).alloc (.cells #[.int .i64 kind, .string id, .string auth, .string acq, .string iss, .string mer, .string card, .int .i64 amt, .string cur, .int .i64 date, .int .i64 cat, .bool fin] 28)) (w.heap.size + 1) #[.int .i64 kind, .string id, .string auth, .string acq, .string iss, .string mer, .string card, .int .i64 amt, .string cur, .int .i64 date, .int .i64 cat, .bool fin] 28 := Blk.new' _ _ _ _ (by simp)
  have bR := Lib.hid (bR0.ext hE1)
  have hE : Ext w w1 := Ext.trans (by repeat (first | with_reducible exact Ext.refl _ | with_reducible exact hE0 | with_reducible exact hE | with_reducible refine Ext.alloc ?_ _ | with_reducible refine Ext.drewN ?_ _ | with_reducible refine Ext.drew ?_ | ((with_reducible refine Ext.setCell ?_ ?side _); (case side => first | exact Nat.le_refl _ | (simp; done) | (simp; omega))))) hE1
  clear hE1 kS bR0
  cases b1 with
  | false =>
    clear a1
    go_wp2_with fail
    have hE8 := hE
    refine (kW.out _ hE8).mono ?_
    rintro e w9 ⟨rfl, hE9⟩
    replace hE := hE8.trans hE9
    clear hE9
    go_wp2
    go_ret
    exact ⟨rfl, hE⟩
  | true =>
    replace a1 := Lib.hid (a1 rfl)
    have x0 : w1.cell? ⟨w.heap.size + 1, 0, none⟩ = some (.int .i64 kind) := (bR.out.cell 0).trans rfl
    have x1 : w1.cell? ⟨w.heap.size + 1, 1, none⟩ = some (.string id) := (bR.out.cell 1).trans rfl
    have x2 : w1.cell? ⟨w.heap.size + 1, 2, none⟩ = some (.string auth) := (bR.out.cell 2).trans rfl
    have x3 : w1.cell? ⟨w.heap.size + 1, 3, none⟩ = some (.string acq) := (bR.out.cell 3).trans rfl
    have x4 : w1.cell? ⟨w.heap.size + 1, 4, none⟩ = some (.string iss) := (bR.out.cell 4).trans rfl
    have x5 : w1.cell? ⟨w.heap.size + 1, 5, none⟩ = some (.string mer) := (bR.out.cell 5).trans rfl
    have x6 : w1.cell? ⟨w.heap.size + 1, 6, none⟩ = some (.string card) := (bR.out.cell 6).trans rfl
    have x7 : w1.cell? ⟨w.heap.size + 1, 7, none⟩ = some (.int .i64 amt) := (bR.out.cell 7).trans rfl
    have x8 : w1.cell? ⟨w.heap.size + 1, 8, none⟩ = some (.string cur) := (bR.out.cell 8).trans rfl
    have x9 : w1.cell? ⟨w.heap.size + 1, 9, none⟩ = some (.int .i64 date) := (bR.out.cell 9).trans rfl
    have x10 : w1.cell? ⟨w.heap.size + 1, 10, none⟩ = some (.int .i64 cat) := (bR.out.cell 10).trans rfl
    have x11 : w1.cell? ⟨w.heap.size + 1, 11, none⟩ = some (.bool fin) := (bR.out.cell 11).trans rfl
    go_wp2_with fail
    refine (kH.out _).mono ?_
    rintro e w2 ⟨b2, rfl, a2, hE2⟩
    clear x0 x1 x2 x3 x4 x5 x6 x7 x8 x9 x10 x11 kH
    replace bT := Lib.hid (bT.out.ext hE2)
    replace bR := Lib.hid (bR.out.ext hE2)
    replace hE := hE.trans hE2
    clear hE2
    cases b2 with
    | false =>
      clear a2
      go_wp2_with fail
      have hE8 := hE
      refine (kW.out _ hE8).mono ?_
      rintro e w9 ⟨rfl, hE9⟩
      replace hE := hE8.trans hE9
      clear hE9
      go_wp2
      go_ret
      exact ⟨rfl, hE⟩
    | true =>
      replace a2 := Lib.hid (a2 rfl)
      have x0 : w2.cell? ⟨w.heap.size + 1, 0, none⟩ = some (.int .i64 kind) := (bR.out.cell 0).trans rfl
      have x1 : w2.cell? ⟨w.heap.size + 1, 1, none⟩ = some (.string id) := (bR.out.cell 1).trans rfl
      have x2 : w2.cell? ⟨w.heap.size + 1, 2, none⟩ = some (.string auth) := (bR.out.cell 2).trans rfl
      have x3 : w2.cell? ⟨w.heap.size + 1, 3, none⟩ = some (.string acq) := (bR.out.cell 3).trans rfl
      have x4 : w2.cell? ⟨w.heap.size + 1, 4, none⟩ = some (.string iss) := (bR.out.cell 4).trans rfl
      have x5 : w2.cell? ⟨w.heap.size + 1, 5, none⟩ = some (.string mer) := (bR.out.cell 5).trans rfl
      have x6 : w2.cell? ⟨w.heap.size + 1, 6, none⟩ = some (.string card) := (bR.out.cell 6).trans rfl
      have x7 : w2.cell? ⟨w.heap.size + 1, 7, none⟩ = some (.int .i64 amt) := (bR.out.cell 7).trans rfl
      have x8 : w2.cell? ⟨w.heap.size + 1, 8, none⟩ = some (.string cur) := (bR.out.cell 8).trans rfl
      have x9 : w2.cell? ⟨w.heap.size + 1, 9, none⟩ = some (.int .i64 date) := (bR.out.cell 9).trans rfl
      have x10 : w2.cell? ⟨w.heap.size + 1, 10, none⟩ = some (.int .i64 cat) := (bR.out.cell 10).trans rfl
      have x11 : w2.cell? ⟨w.heap.size + 1, 11, none⟩ = some (.bool fin) := (bR.out.cell 11).trans rfl
      have z0 : w2.cell? ⟨w.heap.size, 0, none⟩ = some (.slice p1 t.i.length c1) := (bT.out.cell 0).trans rfl
      have z1 : w2.cell? ⟨w.heap.size, 1, none⟩ = some (.slice p2 t.s.length c2) := (bT.out.cell 1).trans rfl
      have z2 : w2.cell? ⟨w.heap.size, 2, none⟩ = some (.slice p3 t.m.length c3) := (bT.out.cell 2).trans rfl
      go_wp2_with fail
      refine (kA.out _ hE a1.out a2.out).mono ?_
      rintro e w3 ⟨rfl, hE3⟩
      clear x0 x1 x2 x3 x4 x5 x6 x7 x8 x9 x10 x11 z0 z1 z2 kA
      replace bT := Lib.hid (bT.out.ext hE3)
      replace bR := Lib.hid (bR.out.ext hE3)
      replace hE := hE.trans hE3
      clear hE3
      rcases hcs.out with ⟨he, hx⟩ | ⟨hre, hte, i, s, m, hav, hi, hs, hm⟩
      · obtain ⟨X, E⟩ := AV
        simp only at he hx
        subst hx
        have d : (E != 0) = true := by simp [he]
        clear hcs hrk hra he
        unfold resAgg resD lineD
        go_wp2_with fail
        have hE8 := hE.alloc (.cells #[.string ⟨#[]⟩, .int .i64 0, .string ⟨#[]⟩, .string ⟨#[]⟩, .int .i64 0, .string ⟨#[]⟩, .string ⟨#[]⟩, .int .i64 0, .string ⟨#[]⟩, .int .i64 0, .int .i64 0, .int .i64 0, .int .i64 0, .int .i64 0] 35)
        refine (kW.out _ hE8).mono ?_
        rintro e w9 ⟨rfl, hE9⟩
        replace hE := hE8.trans hE9
        clear hE9
        go_wp2
        go_ret
        exact ⟨rfl, hE⟩
      · have hk := hrk.out hre
        obtain ⟨ha1, ha2, -, -⟩ := hra.out hre
        subst hav
        obtain ⟨ir, ia, iy⟩ := i
        obtain ⟨sr, sa, sy⟩ := s
        obtain ⟨mr, ma, my⟩ := m
        replace kC := Lib.hid (fun w1 h => kC.out w1 h a1.out hte)
        replace kB := Lib.hid (fun w1 => kB.out kind amt _ _ _ w1 ha1 ha2 hi hs hm)
        obtain ⟨i1, i2⟩ := hi
        obtain ⟨sn1, sn2⟩ := hs
        obtain ⟨m1, m2⟩ := hm
        simp only at i1 i2 sn1 sn2 m1 m2 ha1 ha2 hk
        clear hcs hrk hra hre hte a1 a2
        have q1 : decide (amt < 1) = false := decide_eq_false (by omega)
        have q2 : decide ((999999999999 : Int) < amt) = false := decide_eq_false (by omega)
        have q3 : decide (ia < 0) = false := decide_eq_false (by omega)
        have q4 : decide (sa < 0) = false := decide_eq_false (by omega)
        have q5 : decide (ma < 0) = false := decide_eq_false (by omega)
        have hcase : kind = 1 ∨ kind = 2 ∨ kind = 3 ∨ kind = 4 := by omega
        rcases hcase with rfl | rfl | rfl | rfl
        · rw [share_yes (k := 1) (by decide)] at kB ⊢
          simp only [resAgg] at kB ⊢
          have x0 : w3.cell? ⟨w.heap.size + 1, 0, none⟩ = some (.int .i64 1) := (bR.out.cell 0).trans rfl
          have x7 : w3.cell? ⟨w.heap.size + 1, 7, none⟩ = some (.int .i64 amt) := (bR.out.cell 7).trans rfl
          have z0 : w3.cell? ⟨w.heap.size, 0, none⟩ = some (.slice p1 t.i.length c1) := (bT.out.cell 0).trans rfl
          have z1 : w3.cell? ⟨w.heap.size, 1, none⟩ = some (.slice p2 t.s.length c2) := (bT.out.cell 1).trans rfl
          have z2 : w3.cell? ⟨w.heap.size, 2, none⟩ = some (.slice p3 t.m.length c3) := (bT.out.cell 2).trans rfl
          have zs : w.heap.size < w3.heap.size := bT.out.lt
          have xs : w.heap.size + 1 < w3.heap.size := bR.out.lt
          go_wp2_with fail
          have hN : Ext w3 (w3.alloc (.cells #[.string ir, .int .i64 ia, .string iy, .string sr, .int .i64 sa, .string sy, .string mr, .int .i64 ma, .string my, .int .i64 (-amt), .int .i64 ia, .int .i64 (ma - ia - sa), .int .i64 (amt - ma), .int .i64 sa] 35)) := (Ext.refl _).alloc _
          refine (kC.out _ (hE.trans hN)).mono ?_
          rintro e w4 ⟨rfl, hE4⟩
          have bX := Lib.hid ((Blk.new w3 #[.string ir, .int .i64 ia, .string iy, .string sr, .int .i64 sa, .string sy, .string mr, .int .i64 ma, .string my, .int .i64 (-amt), .int .i64 ia, .int .i64 (ma - ia - sa), .int .i64 (amt - ma), .int .i64 sa] 35).ext hE4)
          replace hE := hE.trans (hN.trans hE4)
          obtain ⟨BX, hBX⟩ : ∃ BX, BX = w3.heap.size := ⟨_, rfl⟩
          rw [← hBX] at bX ⊢
          clear hBX hN hE4 kC bT bR x0 x7 z0 z1 z2 zs xs q1 q2 q3 q4 q5
          have c0 : w4.cell? ⟨BX, 0, none⟩ = some (.string ir) := (bX.out.cell 0).trans rfl
          have c1 : w4.cell? ⟨BX, 1, none⟩ = some (.int .i64 ia) := (bX.out.cell 1).trans rfl
          have c2 : w4.cell? ⟨BX, 2, none⟩ = some (.string iy) := (bX.out.cell 2).trans rfl
          have c3 : w4.cell? ⟨BX, 3, none⟩ = some (.string sr) := (bX.out.cell 3).trans rfl
          have c4 : w4.cell? ⟨BX, 4, none⟩ = some (.int .i64 sa) := (bX.out.cell 4).trans rfl
          have c5 : w4.cell? ⟨BX, 5, none⟩ = some (.string sy) := (bX.out.cell 5).trans rfl
          have c6 : w4.cell? ⟨BX, 6, none⟩ = some (.string mr) := (bX.out.cell 6).trans rfl
          have c7 : w4.cell? ⟨BX, 7, none⟩ = some (.int .i64 ma) := (bX.out.cell 7).trans rfl
          have c8 : w4.cell? ⟨BX, 8, none⟩ = some (.string my) := (bX.out.cell 8).trans rfl
          have c9 : w4.cell? ⟨BX, 9, none⟩ = some (.int .i64 (-amt)) := (bX.out.cell 9).trans rfl
          have c10 : w4.cell? ⟨BX, 10, none⟩ = some (.int .i64 ia) := (bX.out.cell 10).trans rfl
          have c11 : w4.cell? ⟨BX, 11, none⟩ = some (.int .i64 (ma - ia - sa)) := (bX.out.cell 11).trans rfl
          have c12 : w4.cell? ⟨BX, 12, none⟩ = some (.int .i64 (amt - ma)) := (bX.out.cell 12).trans rfl
          have c13 : w4.cell? ⟨BX, 13, none⟩ = some (.int .i64 sa) := (bX.out.cell 13).trans rfl
          have f1 : wrap64 (-amt) = -amt := by unfold wrap64; omega
          have f2 : wrap64 (amt - ma) = amt - ma := by unfold wrap64; omega
          have f3 : wrap64 ia = ia := by unfold wrap64; omega
          have f4 : wrap64 amt = amt := by unfold wrap64; omega
          have f5 : wrap64 (-ia) = -ia := by unfold wrap64; omega
          have f6 : wrap64 (-(amt - ma)) = ma - amt := by unfold wrap64; omega
          have s1 : wrap64 ((-amt) + ia) = (-amt) + ia := by unfold wrap64; omega
          have s2 : wrap64 ((-amt) + ia + (ma - ia - sa)) = (-amt) + ia + (ma - ia - sa) := by unfold wrap64; omega
          have s3 : wrap64 ((-amt) + ia + (ma - ia - sa) + (amt - ma)) = (-amt) + ia + (ma - ia - sa) + (amt - ma) := by unfold wrap64; omega
          have s4 : wrap64 ((-amt) + ia + (ma - ia - sa) + (amt - ma) + sa) = 0 := by unfold wrap64; omega
          skip
          go_wp2_with fail
          refine (kB.out _).mono ?_
          rintro e w5 ⟨rfl, hE5⟩
          replace hE := hE.trans hE5
          clear hE5 kB bX c0 c1 c2 c3 c4 c5 c6 c7 c8 c9 c10 c11 c12 c13 s1 s2 s3 s4 f1 f2 f3 f4 f5 f6
          go_wp2_with fail
          have hE8 := hE
          refine (kW.out _ hE8).mono ?_
          rintro e w9 ⟨rfl, hE9⟩
          replace hE := hE8.trans hE9
          clear hE9
          go_wp2
          go_ret
          exact ⟨rfl, hE⟩
        · rw [share_no (k := 2) (by decide)] at kB ⊢
          simp only [resAgg] at kB ⊢
          have x0 : w3.cell? ⟨w.heap.size + 1, 0, none⟩ = some (.int .i64 2) := (bR.out.cell 0).trans rfl
          have x7 : w3.cell? ⟨w.heap.size + 1, 7, none⟩ = some (.int .i64 amt) := (bR.out.cell 7).trans rfl
          have z0 : w3.cell? ⟨w.heap.size, 0, none⟩ = some (.slice p1 t.i.length c1) := (bT.out.cell 0).trans rfl
          have z1 : w3.cell? ⟨w.heap.size, 1, none⟩ = some (.slice p2 t.s.length c2) := (bT.out.cell 1).trans rfl
          have z2 : w3.cell? ⟨w.heap.size, 2, none⟩ = some (.slice p3 t.m.length c3) := (bT.out.cell 2).trans rfl
          have zs : w.heap.size < w3.heap.size := bT.out.lt
          have xs : w.heap.size + 1 < w3.heap.size := bR.out.lt
          go_wp2_with fail
          have hN : Ext w3 (w3.alloc (.cells #[.string ir, .int .i64 ia, .string iy, .string sr, .int .i64 sa, .string sy, .string mr, .int .i64 ma, .string my, .int .i64 amt, .int .i64 (-ia), .int .i64 (ia - ma - sa), .int .i64 (ma - amt), .int .i64 sa] 35)) := (Ext.refl _).alloc _
          refine (kC.out _ (hE.trans hN)).mono ?_
          rintro e w4 ⟨rfl, hE4⟩
          have bX := Lib.hid ((Blk.new w3 #[.string ir, .int .i64 ia, .string iy, .string sr, .int .i64 sa, .string sy, .string mr, .int .i64 ma, .string my, .int .i64 amt, .int .i64 (-ia), .int .i64 (ia - ma - sa), .int .i64 (ma - amt), .int .i64 sa] 35).ext hE4)
          replace hE := hE.trans (hN.trans hE4)
          obtain ⟨BX, hBX⟩ : ∃ BX, BX = w3.heap.size := ⟨_, rfl⟩
          rw [← hBX] at bX ⊢
          clear hBX hN hE4 kC bT bR x0 x7 z0 z1 z2 zs xs q1 q2 q3 q4 q5
          have c0 : w4.cell? ⟨BX, 0, none⟩ = some (.string ir) := (bX.out.cell 0).trans rfl
          have c1 : w4.cell? ⟨BX, 1, none⟩ = some (.int .i64 ia) := (bX.out.cell 1).trans rfl
          have c2 : w4.cell? ⟨BX, 2, none⟩ = some (.string iy) := (bX.out.cell 2).trans rfl
          have c3 : w4.cell? ⟨BX, 3, none⟩ = some (.string sr) := (bX.out.cell 3).trans rfl
          have c4 : w4.cell? ⟨BX, 4, none⟩ = some (.int .i64 sa) := (bX.out.cell 4).trans rfl
          have c5 : w4.cell? ⟨BX, 5, none⟩ = some (.string sy) := (bX.out.cell 5).trans rfl
          have c6 : w4.cell? ⟨BX, 6, none⟩ = some (.string mr) := (bX.out.cell 6).trans rfl
          have c7 : w4.cell? ⟨BX, 7, none⟩ = some (.int .i64 ma) := (bX.out.cell 7).trans rfl
          have c8 : w4.cell? ⟨BX, 8, none⟩ = some (.string my) := (bX.out.cell 8).trans rfl
          have c9 : w4.cell? ⟨BX, 9, none⟩ = some (.int .i64 amt) := (bX.out.cell 9).trans rfl
          have c10 : w4.cell? ⟨BX, 10, none⟩ = some (.int .i64 (-ia)) := (bX.out.cell 10).trans rfl
          have c11 : w4.cell? ⟨BX, 11, none⟩ = some (.int .i64 (ia - ma - sa)) := (bX.out.cell 11).trans rfl
          have c12 : w4.cell? ⟨BX, 12, none⟩ = some (.int .i64 (ma - amt)) := (bX.out.cell 12).trans rfl
          have c13 : w4.cell? ⟨BX, 13, none⟩ = some (.int .i64 sa) := (bX.out.cell 13).trans rfl
          have f1 : wrap64 (-amt) = -amt := by unfold wrap64; omega
          have f2 : wrap64 (amt - ma) = amt - ma := by unfold wrap64; omega
          have f3 : wrap64 ia = ia := by unfold wrap64; omega
          have f4 : wrap64 amt = amt := by unfold wrap64; omega
          have f5 : wrap64 (-ia) = -ia := by unfold wrap64; omega
          have f6 : wrap64 (-(amt - ma)) = ma - amt := by unfold wrap64; omega
          have s1 : wrap64 (amt + (-ia)) = amt + (-ia) := by unfold wrap64; omega
          have s2 : wrap64 (amt + (-ia) + (ia - ma - sa)) = amt + (-ia) + (ia - ma - sa) := by unfold wrap64; omega
          have s3 : wrap64 (amt + (-ia) + (ia - ma - sa) + (ma - amt)) = amt + (-ia) + (ia - ma - sa) + (ma - amt) := by unfold wrap64; omega
          have s4 : wrap64 (amt + (-ia) + (ia - ma - sa) + (ma - amt) + sa) = 0 := by unfold wrap64; omega
          rw [show ma - amt = -(amt - ma) by omega] at kB
          go_wp2_with fail
          refine (kB.out _).mono ?_
          rintro e w5 ⟨rfl, hE5⟩
          replace hE := hE.trans hE5
          clear hE5 kB bX c0 c1 c2 c3 c4 c5 c6 c7 c8 c9 c10 c11 c12 c13 s1 s2 s3 s4 f1 f2 f3 f4 f5 f6
          go_wp2_with fail
          have hE8 := hE
          refine (kW.out _ hE8).mono ?_
          rintro e w9 ⟨rfl, hE9⟩
          replace hE := hE8.trans hE9
          clear hE9
          go_wp2
          go_ret
          exact ⟨rfl, hE⟩
        · rw [share_no (k := 3) (by decide)] at kB ⊢
          simp only [resAgg] at kB ⊢
          have x0 : w3.cell? ⟨w.heap.size + 1, 0, none⟩ = some (.int .i64 3) := (bR.out.cell 0).trans rfl
          have x7 : w3.cell? ⟨w.heap.size + 1, 7, none⟩ = some (.int .i64 amt) := (bR.out.cell 7).trans rfl
          have z0 : w3.cell? ⟨w.heap.size, 0, none⟩ = some (.slice p1 t.i.length c1) := (bT.out.cell 0).trans rfl
          have z1 : w3.cell? ⟨w.heap.size, 1, none⟩ = some (.slice p2 t.s.length c2) := (bT.out.cell 1).trans rfl
          have z2 : w3.cell? ⟨w.heap.size, 2, none⟩ = some (.slice p3 t.m.length c3) := (bT.out.cell 2).trans rfl
          have zs : w.heap.size < w3.heap.size := bT.out.lt
          have xs : w.heap.size + 1 < w3.heap.size := bR.out.lt
          go_wp2_with fail
          have hN : Ext w3 (w3.alloc (.cells #[.string ir, .int .i64 ia, .string iy, .string sr, .int .i64 sa, .string sy, .string mr, .int .i64 ma, .string my, .int .i64 amt, .int .i64 (-ia), .int .i64 (ia - ma - sa), .int .i64 (ma - amt), .int .i64 sa] 35)) := (Ext.refl _).alloc _
          refine (kC.out _ (hE.trans hN)).mono ?_
          rintro e w4 ⟨rfl, hE4⟩
          have bX := Lib.hid ((Blk.new w3 #[.string ir, .int .i64 ia, .string iy, .string sr, .int .i64 sa, .string sy, .string mr, .int .i64 ma, .string my, .int .i64 amt, .int .i64 (-ia), .int .i64 (ia - ma - sa), .int .i64 (ma - amt), .int .i64 sa] 35).ext hE4)
          replace hE := hE.trans (hN.trans hE4)
          obtain ⟨BX, hBX⟩ : ∃ BX, BX = w3.heap.size := ⟨_, rfl⟩
          rw [← hBX] at bX ⊢
          clear hBX hN hE4 kC bT bR x0 x7 z0 z1 z2 zs xs q1 q2 q3 q4 q5
          have c0 : w4.cell? ⟨BX, 0, none⟩ = some (.string ir) := (bX.out.cell 0).trans rfl
          have c1 : w4.cell? ⟨BX, 1, none⟩ = some (.int .i64 ia) := (bX.out.cell 1).trans rfl
          have c2 : w4.cell? ⟨BX, 2, none⟩ = some (.string iy) := (bX.out.cell 2).trans rfl
          have c3 : w4.cell? ⟨BX, 3, none⟩ = some (.string sr) := (bX.out.cell 3).trans rfl
          have c4 : w4.cell? ⟨BX, 4, none⟩ = some (.int .i64 sa) := (bX.out.cell 4).trans rfl
          have c5 : w4.cell? ⟨BX, 5, none⟩ = some (.string sy) := (bX.out.cell 5).trans rfl
          have c6 : w4.cell? ⟨BX, 6, none⟩ = some (.string mr) := (bX.out.cell 6).trans rfl
          have c7 : w4.cell? ⟨BX, 7, none⟩ = some (.int .i64 ma) := (bX.out.cell 7).trans rfl
          have c8 : w4.cell? ⟨BX, 8, none⟩ = some (.string my) := (bX.out.cell 8).trans rfl
          have c9 : w4.cell? ⟨BX, 9, none⟩ = some (.int .i64 amt) := (bX.out.cell 9).trans rfl
          have c10 : w4.cell? ⟨BX, 10, none⟩ = some (.int .i64 (-ia)) := (bX.out.cell 10).trans rfl
          have c11 : w4.cell? ⟨BX, 11, none⟩ = some (.int .i64 (ia - ma - sa)) := (bX.out.cell 11).trans rfl
          have c12 : w4.cell? ⟨BX, 12, none⟩ = some (.int .i64 (ma - amt)) := (bX.out.cell 12).trans rfl
          have c13 : w4.cell? ⟨BX, 13, none⟩ = some (.int .i64 sa) := (bX.out.cell 13).trans rfl
          have f1 : wrap64 (-amt) = -amt := by unfold wrap64; omega
          have f2 : wrap64 (amt - ma) = amt - ma := by unfold wrap64; omega
          have f3 : wrap64 ia = ia := by unfold wrap64; omega
          have f4 : wrap64 amt = amt := by unfold wrap64; omega
          have f5 : wrap64 (-ia) = -ia := by unfold wrap64; omega
          have f6 : wrap64 (-(amt - ma)) = ma - amt := by unfold wrap64; omega
          have s1 : wrap64 (amt + (-ia)) = amt + (-ia) := by unfold wrap64; omega
          have s2 : wrap64 (amt + (-ia) + (ia - ma - sa)) = amt + (-ia) + (ia - ma - sa) := by unfold wrap64; omega
          have s3 : wrap64 (amt + (-ia) + (ia - ma - sa) + (ma - amt)) = amt + (-ia) + (ia - ma - sa) + (ma - amt) := by unfold wrap64; omega
          have s4 : wrap64 (amt + (-ia) + (ia - ma - sa) + (ma - amt) + sa) = 0 := by unfold wrap64; omega
          rw [show ma - amt = -(amt - ma) by omega] at kB
          go_wp2_with fail
          refine (kB.out _).mono ?_
          rintro e w5 ⟨rfl, hE5⟩
          replace hE := hE.trans hE5
          clear hE5 kB bX c0 c1 c2 c3 c4 c5 c6 c7 c8 c9 c10 c11 c12 c13 s1 s2 s3 s4 f1 f2 f3 f4 f5 f6
          go_wp2_with fail
          have hE8 := hE
          refine (kW.out _ hE8).mono ?_
          rintro e w9 ⟨rfl, hE9⟩
          replace hE := hE8.trans hE9
          clear hE9
          go_wp2
          go_ret
          exact ⟨rfl, hE⟩
        · rw [share_yes (k := 4) (by decide)] at kB ⊢
          simp only [resAgg] at kB ⊢
          have x0 : w3.cell? ⟨w.heap.size + 1, 0, none⟩ = some (.int .i64 4) := (bR.out.cell 0).trans rfl
          have x7 : w3.cell? ⟨w.heap.size + 1, 7, none⟩ = some (.int .i64 amt) := (bR.out.cell 7).trans rfl
          have z0 : w3.cell? ⟨w.heap.size, 0, none⟩ = some (.slice p1 t.i.length c1) := (bT.out.cell 0).trans rfl
          have z1 : w3.cell? ⟨w.heap.size, 1, none⟩ = some (.slice p2 t.s.length c2) := (bT.out.cell 1).trans rfl
          have z2 : w3.cell? ⟨w.heap.size, 2, none⟩ = some (.slice p3 t.m.length c3) := (bT.out.cell 2).trans rfl
          have zs : w.heap.size < w3.heap.size := bT.out.lt
          have xs : w.heap.size + 1 < w3.heap.size := bR.out.lt
          go_wp2_with fail
          have hN : Ext w3 (w3.alloc (.cells #[.string ir, .int .i64 ia, .string iy, .string sr, .int .i64 sa, .string sy, .string mr, .int .i64 ma, .string my, .int .i64 (-amt), .int .i64 ia, .int .i64 (ma - ia - sa), .int .i64 (amt - ma), .int .i64 sa] 35)) := (Ext.refl _).alloc _
          refine (kC.out _ (hE.trans hN)).mono ?_
          rintro e w4 ⟨rfl, hE4⟩
          have bX := Lib.hid ((Blk.new w3 #[.string ir, .int .i64 ia, .string iy, .string sr, .int .i64 sa, .string sy, .string mr, .int .i64 ma, .string my, .int .i64 (-amt), .int .i64 ia, .int .i64 (ma - ia - sa), .int .i64 (amt - ma), .int .i64 sa] 35).ext hE4)
          replace hE := hE.trans (hN.trans hE4)
          obtain ⟨BX, hBX⟩ : ∃ BX, BX = w3.heap.size := ⟨_, rfl⟩
          rw [← hBX] at bX ⊢
          clear hBX hN hE4 kC bT bR x0 x7 z0 z1 z2 zs xs q1 q2 q3 q4 q5
          have c0 : w4.cell? ⟨BX, 0, none⟩ = some (.string ir) := (bX.out.cell 0).trans rfl
          have c1 : w4.cell? ⟨BX, 1, none⟩ = some (.int .i64 ia) := (bX.out.cell 1).trans rfl
          have c2 : w4.cell? ⟨BX, 2, none⟩ = some (.string iy) := (bX.out.cell 2).trans rfl
          have c3 : w4.cell? ⟨BX, 3, none⟩ = some (.string sr) := (bX.out.cell 3).trans rfl
          have c4 : w4.cell? ⟨BX, 4, none⟩ = some (.int .i64 sa) := (bX.out.cell 4).trans rfl
          have c5 : w4.cell? ⟨BX, 5, none⟩ = some (.string sy) := (bX.out.cell 5).trans rfl
          have c6 : w4.cell? ⟨BX, 6, none⟩ = some (.string mr) := (bX.out.cell 6).trans rfl
          have c7 : w4.cell? ⟨BX, 7, none⟩ = some (.int .i64 ma) := (bX.out.cell 7).trans rfl
          have c8 : w4.cell? ⟨BX, 8, none⟩ = some (.string my) := (bX.out.cell 8).trans rfl
          have c9 : w4.cell? ⟨BX, 9, none⟩ = some (.int .i64 (-amt)) := (bX.out.cell 9).trans rfl
          have c10 : w4.cell? ⟨BX, 10, none⟩ = some (.int .i64 ia) := (bX.out.cell 10).trans rfl
          have c11 : w4.cell? ⟨BX, 11, none⟩ = some (.int .i64 (ma - ia - sa)) := (bX.out.cell 11).trans rfl
          have c12 : w4.cell? ⟨BX, 12, none⟩ = some (.int .i64 (amt - ma)) := (bX.out.cell 12).trans rfl
          have c13 : w4.cell? ⟨BX, 13, none⟩ = some (.int .i64 sa) := (bX.out.cell 13).trans rfl
          have f1 : wrap64 (-amt) = -amt := by unfold wrap64; omega
          have f2 : wrap64 (amt - ma) = amt - ma := by unfold wrap64; omega
          have f3 : wrap64 ia = ia := by unfold wrap64; omega
          have f4 : wrap64 amt = amt := by unfold wrap64; omega
          have f5 : wrap64 (-ia) = -ia := by unfold wrap64; omega
          have f6 : wrap64 (-(amt - ma)) = ma - amt := by unfold wrap64; omega
          have s1 : wrap64 ((-amt) + ia) = (-amt) + ia := by unfold wrap64; omega
          have s2 : wrap64 ((-amt) + ia + (ma - ia - sa)) = (-amt) + ia + (ma - ia - sa) := by unfold wrap64; omega
          have s3 : wrap64 ((-amt) + ia + (ma - ia - sa) + (amt - ma)) = (-amt) + ia + (ma - ia - sa) + (amt - ma) := by unfold wrap64; omega
          have s4 : wrap64 ((-amt) + ia + (ma - ia - sa) + (amt - ma) + sa) = 0 := by unfold wrap64; omega
          skip
          go_wp2_with fail
          refine (kB.out _).mono ?_
          rintro e w5 ⟨rfl, hE5⟩
          replace hE := hE.trans hE5
          clear hE5 kB bX c0 c1 c2 c3 c4 c5 c6 c7 c8 c9 c10 c11 c12 c13 s1 s2 s3 s4 f1 f2 f3 f4 f5 f6
          go_wp2_with fail
          have hE8 := hE
          refine (kW.out _ hE8).mono ?_
          rintro e w9 ⟨rfl, hE9⟩
          replace hE := hE8.trans hE9
          clear hE9
          go_wp2
          go_ret
          exact ⟨rfl, hE⟩
end Go.Proofs.YtmnhmkjmcckneaaGreatDoor
