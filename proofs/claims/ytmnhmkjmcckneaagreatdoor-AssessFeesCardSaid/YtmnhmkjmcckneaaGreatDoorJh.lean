/- The contract of the reference's Assess of layer 38 of a good record under good tables (walk; printed by gen/h28.py). -/
import Derived.Test.YtmnhmkjmcckneaaGreatDoorJf
import Derived.Test.YtmnhmkjmcckneaaGreatDoorJx
import Derived.Test.YtmnhmkjmcckneaaGreatDoorJg
import Derived.Test.YtmnhmkjmcckneaaGreatDoorGu
import Derived.Test.YtmnhmkjmcckneaaGreatDoorHe
import Derived.Deep.RegionHeld3
import Derived.Deep.QuietTactic
import Derived.BigQuiet
namespace Go.Proofs.YtmnhmkjmcckneaaGreatDoor
open Go.RowKit
theorem far3 {w : World} {X B i j l k : Nat} {a b c v : Value} (h : X ≠ B) (y : w.cell? ⟨B, k, none⟩ = some v) : (((w.setCell ⟨X, i, none⟩ a).setCell ⟨X, j, none⟩ b).setCell ⟨X, l, none⟩ c).cell? ⟨B, k, none⟩ = some v :=
 (World.cell?_setCell_far _ _ _ _ h).trans ((World.cell?_setCell_far _ _ _ _ h).trans ((World.cell?_setCell_far _ _ _ _ h).trans y))
theorem Blk.far3 {w : World} {X B i j l : Nat} {a b c : Value} {cs : Array Value} {T : TypeId} (h : X ≠ B) (y : Blk w B cs T) : Blk (((w.setCell ⟨X, i, none⟩ a).setCell ⟨X, j, none⟩ b).setCell ⟨X, l, none⟩ c) B cs T :=
 ((y.other i a h.symm).other j b h.symm).other l c h.symm
theorem Ext.set3 {w w' : World} {X i j l : Nat} {a b c : Value} (h : w.heap.size ≤ X) (k : Ext w w') : Ext w (((w'.setCell ⟨X, i, none⟩ a).setCell ⟨X, j, none⟩ b).setCell ⟨X, l, none⟩ c) :=
 ((k.setCell (p := ⟨X, i, none⟩) h a).setCell (p := ⟨X, j, none⟩) h b).setCell (p := ⟨X, l, none⟩) h c
theorem feats_far3 {w : World} {X B n m i j l : Nat} {a b c : Value} {fs : List Feat} (h : X ≠ B) (y : Feats w (.slice (some ⟨B, 0, none⟩) n m) fs) : Feats (((w.setCell ⟨X, i, none⟩ a).setCell ⟨X, j, none⟩ b).setCell ⟨X, l, none⟩ c) (.slice (some ⟨B, 0, none⟩) n m) fs := by
 refine ⟨y.1, ?_⟩
 rcases y.2 with ⟨p, q, hv, hl⟩ | ⟨b', off, q, hv, hc⟩
 · exact Or.inl ⟨p, q, hv, hl⟩
 · refine Or.inr ⟨b', off, q, hv, fun i hi => ?_⟩
   obtain ⟨y0, y1, y2, y3⟩ := hc i hi
   injection hv with h1 h2 h3
   injection h1 with h1
   injection h1 with h1
   subst h1
   exact ⟨Go.Proofs.YtmnhmkjmcckneaaGreatDoor.far3 h y0, Go.Proofs.YtmnhmkjmcckneaaGreatDoor.far3 h y1, Go.Proofs.YtmnhmkjmcckneaaGreatDoor.far3 h y2, Go.Proofs.YtmnhmkjmcckneaaGreatDoor.far3 h y3⟩
theorem feats_ne {w : World} {B Y : Nat} {r : RecD} (hF : Feats w (.slice (some ⟨B, 0, none⟩) 9 9) (recF r)) (hY : w.cell? ⟨Y, 0, none⟩ = some (.string ⟨#[]⟩)) : Y ≠ B := by
 rintro rfl
 rcases hF.2 with ⟨p, q, hv, hl⟩ | ⟨b', off, q, hv, hc⟩
 · cases hl
 · obtain ⟨y0, -⟩ := hc 0 (by rw [recF_len]; omega)
   injection hv with h1 h2 h3
   injection h1 with h1
   injection h1 with h1 h4
   subst h1 h4
   rw [hY] at y0
   injection y0 with y0
   injection y0 with y0
   have : (⟨#[]⟩ : ByteArray) = kinN := y0
   exact absurd (congrArg ByteArray.size this) (by decide)
theorem rapply9 (lv : Value) (B : Nat) (l : List RuleD) (fs : List Feat) (n : Int) (w : World) (hn : fs.length = 9) (hs : ∀ i, i < fs.length → (fs.getD i fD).name.size ≤ 140737488355328) (g : Gw w) (hR : RulesM w lv l) (hI : RefIn l) (hF : Feats w (.slice (some ⟨B, 0, none⟩) 9 9) fs) (hok : TabOk l fs) : Calls Tryz.prog 31 #[lv, .slice (some ⟨B, 0, none⟩) 9 9, .int .i64 n] w (LineP (applyV l fs n) w) := by
 have h := rapply_any lv (some ⟨B, 0, none⟩) 9 l fs n w g hR (by rw [hn]; exact hF) hok ⟨hI.fo, by omega, hs⟩ hI.1
 rw [hn] at h
 exact h
/-- What is known of a record, for the reference. -/
def RecS (r : RecD) : Prop := r.id.size ≤ 1000 ∧ r.auth.size ≤ 1000 ∧ r.acq.size ≤ 1000 ∧ r.iss.size ≤ 1000 ∧ r.mer.size ≤ 1000 ∧ r.cur.size ≤ 1000
set_option maxRecDepth 8000 in
set_option maxHeartbeats 8000000 in
theorem rassess_ok (tv : Value) (t : TabsD) (r : RecD) (w : World) (g : Gw w) (hT : TabsM w tv t) (hp : ∀ j, j < 3 → RefIn (t.at j)) (ok0 : TabOk t.i (recF r)) (ok1 : TabOk t.s (recF r)) (ok2 : TabOk t.m (recF r)) (hs : RecS r) (hre : recE r = 0) (hte : tabsE t = 0) : Calls Tryz.prog 12 #[tv, recAgg r] w (AssP (assessV t r) w) := by
 have kR := Lib.hid (fun w1 => rrcheck_any r w1 hs)
 have kC := Lib.hid (fun w1 (h : Ext w w1) => r38check_any tv t w1 (hT.ext h) hp)
 have kF := Lib.hid (fun w1 => rfeaR_any r w1)
 have hne9 := Lib.hid (fun w1 B Y h1 h2 => feats_ne (w := w1) (B := B) (Y := Y) (r := r) h1 h2)
 have hone : oneE t.i = 0 ∧ oneE t.s = 0 ∧ oneE t.m = 0 := tabs_one hte
 have htp0 := apply_top (apply_ok hre hone.1)
 have htp1 := apply_top (apply_ok hre hone.2.1)
 have htp2 := apply_top (apply_ok hre hone.2.2)
 have hamt := rec_amt hre
 have hfull := assess_full hre hte
 have q0 := hp 0 (by omega)
 have q1 := hp 1 (by omega)
 have q2 := hp 2 (by omega)
 simp only [TabsD.at] at q0 q1 q2
 obtain ⟨v1, v2, v3, rfl, h1, h2, h3⟩ := hT
 obtain ⟨p1, c1, rfl⟩ := h1.form
 obtain ⟨p2, c2, rfl⟩ := h2.form
 obtain ⟨p3, c3, rfl⟩ := h3.form
 have kA0 := Lib.hid (fun B w1 (h : Ext w w1) (hF : Feats w1 (.slice (some ⟨B, 0, none⟩) 9 9) (recF r)) => rapply9 _ B t.i (recF r) r.amt w1 (recF_len r) (recF_nm r) (g.ext h) (h1.ext h) q0 hF ok0)
 have kA1 := Lib.hid (fun B w1 (h : Ext w w1) (hF : Feats w1 (.slice (some ⟨B, 0, none⟩) 9 9) (recF r)) => rapply9 _ B t.s (recF r) r.amt w1 (recF_len r) (recF_nm r) (g.ext h) (h2.ext h) q1 hF ok1)
 have kA2 := Lib.hid (fun B w1 (h : Ext w w1) (hF : Feats w1 (.slice (some ⟨B, 0, none⟩) 9 9) (recF r)) => rapply9 _ B t.m (recF r) r.amt w1 (recF_len r) (recF_nm r) (g.ext h) (h3.ext h) q2 hF ok2)
 obtain ⟨R, hR⟩ : ∃ R, R = assessV t r := ⟨_, rfl⟩
 rw [← hR]
 replace hR := hR.trans hfull
 clear hfull q0 q1 q2 hone
 unfold FeaRP at kF
 unfold LineP at kA0 kA1 kA2
 rw [hre] at kR
 rw [hte] at kC
 clear hre hte
 generalize applyV t.i (recF r) r.amt = A0 at *
 generalize applyV t.s (recF r) r.amt = A1 at *
 generalize applyV t.m (recF r) r.amt = A2 at *
 generalize recF r = fs at *
 obtain ⟨⟨r0, a0, y0⟩, e0⟩ := A0
 obtain ⟨⟨r1, a1, y1⟩, e1⟩ := A1
 obtain ⟨⟨r2, a2, y2⟩, e2⟩ := A2
 obtain ⟨kind, id, auth, acq, iss, mer, card, amt, cur, date, cat, fin⟩ := r
 obtain ⟨li, ls, lm⟩ := t
 simp only [recAgg] at kR kC kF kA0 kA1 kA2 hR hamt htp0 htp1 htp2 ⊢
 have hl0 := h1.1
 have hl1 := h2.1
 have hl2 := h3.1
 simp only at hl0 hl1 hl2
 replace hR := Lib.hid hR
 clear h1 h2 h3 ok0 ok1 ok2 hp hs
 replace hamt := Lib.hid hamt
 replace htp0 := Lib.hid htp0
 replace htp1 := Lib.hid htp1
 replace htp2 := Lib.hid htp2
 replace g := Lib.hid g
 go_enter Tryz.func12, Tryz.ntmps12
 go_wp2_with fail
 refine (kR.out _).mono ?_
 rintro e w1 ⟨rfl, hE1⟩
 have bT := Lib.hid ((((Blk.new w #[.slice p1 li.length c1, .slice p2 ls.length c2, .slice p3 lm.length c3] 42).alloc (.cells #[.int .i64 kind, .string id, .string auth, .string acq, .string iss, .string mer, .string card, .int .i64 amt, .string cur, .int .i64 date, .int .i64 cat, .bool fin] 28)).alloc (.cells #[.string ⟨#[]⟩, .int .i64 0, .string ⟨#[]⟩, .string ⟨#[]⟩, .int .i64 0, .string ⟨#[]⟩, .string ⟨#[]⟩, .int .i64 0, .string ⟨#[]⟩, .int .i64 0, .int .i64 0, .int .i64 0, .int .i64 0, .int .i64 0] 39)).ext hE1)
 have bR0 : Blk ((w.alloc (.cells #[.slice p1 li.length c1, .slice p2 ls.length c2, .slice p3 lm.length c3] 42)).alloc (.cells #[.int .i64 kind, .string id, .string auth, .string acq, .string iss, .string mer, .string card, .int .i64 amt, .string cur, .int .i64 date, .int .i64 cat, .bool fin] 28)) (w.heap.size + 1) #[.int .i64 kind, .string id, .string auth, .string acq, .string iss, .string mer, .string card, .int .i64 amt, .string cur, .int .i64 date, .int .i64 cat, .bool fin] 28 := Blk.new' _ _ _ _ (by simp)
 have bR := Lib.hid ((bR0.alloc (.cells #[.string ⟨#[]⟩, .int .i64 0, .string ⟨#[]⟩, .string ⟨#[]⟩, .int .i64 0, .string ⟨#[]⟩, .string ⟨#[]⟩, .int .i64 0, .string ⟨#[]⟩, .int .i64 0, .int .i64 0, .int .i64 0, .int .i64 0, .int .i64 0] 39)).ext hE1)
 have bX0 : Blk (((w.alloc (.cells #[.slice p1 li.length c1, .slice p2 ls.length c2, .slice p3 lm.length c3] 42)).alloc (.cells #[.int .i64 kind, .string id, .string auth, .string acq, .string iss, .string mer, .string card, .int .i64 amt, .string cur, .int .i64 date, .int .i64 cat, .bool fin] 28)).alloc (.cells #[.string ⟨#[]⟩, .int .i64 0, .string ⟨#[]⟩, .string ⟨#[]⟩, .int .i64 0, .string ⟨#[]⟩, .string ⟨#[]⟩, .int .i64 0, .string ⟨#[]⟩, .int .i64 0, .int .i64 0, .int .i64 0, .int .i64 0, .int .i64 0] 39)) (w.heap.size + 1 + 1) #[.string ⟨#[]⟩, .int .i64 0, .string ⟨#[]⟩, .string ⟨#[]⟩, .int .i64 0, .string ⟨#[]⟩, .string ⟨#[]⟩, .int .i64 0, .string ⟨#[]⟩, .int .i64 0, .int .i64 0, .int .i64 0, .int .i64 0, .int .i64 0] 39 := Blk.new' _ _ _ _ (by simp)
 have bX := Lib.hid (bX0.ext hE1)
 have hE : Ext w w1 := Ext.trans xt hE1
 clear hE1 bR0 bX0
 clear kR
 have z0 : w1.cell? ⟨w.heap.size, 0, none⟩ = some (.slice p1 li.length c1) := (bT.out.cell 0).trans rfl
 have z1 : w1.cell? ⟨w.heap.size, 1, none⟩ = some (.slice p2 ls.length c2) := (bT.out.cell 1).trans rfl
 have z2 : w1.cell? ⟨w.heap.size, 2, none⟩ = some (.slice p3 lm.length c3) := (bT.out.cell 2).trans rfl
 go_wp2_with fail
 refine (kC.out _ hE).mono ?_
 rintro e w2 ⟨rfl, hE2⟩
 replace bT := Lib.hid (bT.out.ext hE2)
 replace bR := Lib.hid (bR.out.ext hE2)
 replace bX := Lib.hid (bX.out.ext hE2)
 replace hE := hE.trans hE2
 clear hE2 z0 z1 z2
 clear kC
 go_wp2_with fail
 have bY := Lib.hid (Blk.new w2 #[.string ⟨#[]⟩, .int .i64 0, .string ⟨#[]⟩, .string ⟨#[]⟩, .int .i64 0, .string ⟨#[]⟩, .string ⟨#[]⟩, .int .i64 0, .string ⟨#[]⟩, .int .i64 0, .int .i64 0, .int .i64 0, .int .i64 0, .int .i64 0] 39)
 have hAY : w.heap.size + 1 + 1 < w2.heap.size := bX.out.lt
 replace bT := Lib.hid (bT.out.alloc (.cells #[.string ⟨#[]⟩, .int .i64 0, .string ⟨#[]⟩, .string ⟨#[]⟩, .int .i64 0, .string ⟨#[]⟩, .string ⟨#[]⟩, .int .i64 0, .string ⟨#[]⟩, .int .i64 0, .int .i64 0, .int .i64 0, .int .i64 0, .int .i64 0] 39))
 replace bR := Lib.hid (bR.out.alloc (.cells #[.string ⟨#[]⟩, .int .i64 0, .string ⟨#[]⟩, .string ⟨#[]⟩, .int .i64 0, .string ⟨#[]⟩, .string ⟨#[]⟩, .int .i64 0, .string ⟨#[]⟩, .int .i64 0, .int .i64 0, .int .i64 0, .int .i64 0, .int .i64 0] 39))
 replace bX := Lib.hid (bX.out.alloc (.cells #[.string ⟨#[]⟩, .int .i64 0, .string ⟨#[]⟩, .string ⟨#[]⟩, .int .i64 0, .string ⟨#[]⟩, .string ⟨#[]⟩, .int .i64 0, .string ⟨#[]⟩, .int .i64 0, .int .i64 0, .int .i64 0, .int .i64 0, .int .i64 0] 39))
 replace hE := hE.alloc (.cells #[.string ⟨#[]⟩, .int .i64 0, .string ⟨#[]⟩, .string ⟨#[]⟩, .int .i64 0, .string ⟨#[]⟩, .string ⟨#[]⟩, .int .i64 0, .string ⟨#[]⟩, .int .i64 0, .int .i64 0, .int .i64 0, .int .i64 0, .int .i64 0] 39)
 obtain ⟨Y, hY⟩ : ∃ Y, Y = w2.heap.size := ⟨_, rfl⟩
 obtain ⟨w3, hw3⟩ : ∃ w3, w3 = w2.alloc (.cells #[.string ⟨#[]⟩, .int .i64 0, .string ⟨#[]⟩, .string ⟨#[]⟩, .int .i64 0, .string ⟨#[]⟩, .string ⟨#[]⟩, .int .i64 0, .string ⟨#[]⟩, .int .i64 0, .int .i64 0, .int .i64 0, .int .i64 0, .int .i64 0] 39) := ⟨_, rfl⟩
 rw [← hw3] at bT bR bX bY hE
 rw [← hY] at bY hAY
 first | rw [← hw3, ← hY] | simp only [← hw3, ← hY]
 clear hw3 hY
 have x0 : w3.cell? ⟨w.heap.size + 1, 0, none⟩ = some (.int .i64 kind) := (bR.out.cell 0).trans rfl
 have x1 : w3.cell? ⟨w.heap.size + 1, 1, none⟩ = some (.string id) := (bR.out.cell 1).trans rfl
 have x2 : w3.cell? ⟨w.heap.size + 1, 2, none⟩ = some (.string auth) := (bR.out.cell 2).trans rfl
 have x3 : w3.cell? ⟨w.heap.size + 1, 3, none⟩ = some (.string acq) := (bR.out.cell 3).trans rfl
 have x4 : w3.cell? ⟨w.heap.size + 1, 4, none⟩ = some (.string iss) := (bR.out.cell 4).trans rfl
 have x5 : w3.cell? ⟨w.heap.size + 1, 5, none⟩ = some (.string mer) := (bR.out.cell 5).trans rfl
 have x6 : w3.cell? ⟨w.heap.size + 1, 6, none⟩ = some (.string card) := (bR.out.cell 6).trans rfl
 have x7 : w3.cell? ⟨w.heap.size + 1, 7, none⟩ = some (.int .i64 amt) := (bR.out.cell 7).trans rfl
 have x8 : w3.cell? ⟨w.heap.size + 1, 8, none⟩ = some (.string cur) := (bR.out.cell 8).trans rfl
 have x9 : w3.cell? ⟨w.heap.size + 1, 9, none⟩ = some (.int .i64 date) := (bR.out.cell 9).trans rfl
 have x10 : w3.cell? ⟨w.heap.size + 1, 10, none⟩ = some (.int .i64 cat) := (bR.out.cell 10).trans rfl
 have x11 : w3.cell? ⟨w.heap.size + 1, 11, none⟩ = some (.bool fin) := (bR.out.cell 11).trans rfl
 have hE0 := Ext.refl w3
 go_region_held3 (fun w' => w'.cell? ⟨w.heap.size + 1, 0, none⟩ = some (.int .i64 kind) ∧ w'.cell? ⟨w.heap.size + 1, 1, none⟩ = some (.string id) ∧ w'.cell? ⟨w.heap.size + 1, 2, none⟩ = some (.string auth) ∧ w'.cell? ⟨w.heap.size + 1, 3, none⟩ = some (.string acq) ∧ w'.cell? ⟨w.heap.size + 1, 4, none⟩ = some (.string iss) ∧ w'.cell? ⟨w.heap.size + 1, 5, none⟩ = some (.string mer) ∧ w'.cell? ⟨w.heap.size + 1, 6, none⟩ = some (.string card) ∧ w'.cell? ⟨w.heap.size + 1, 7, none⟩ = some (.int .i64 amt) ∧ w'.cell? ⟨w.heap.size + 1, 8, none⟩ = some (.string cur) ∧ w'.cell? ⟨w.heap.size + 1, 9, none⟩ = some (.int .i64 date) ∧ w'.cell? ⟨w.heap.size + 1, 10, none⟩ = some (.int .i64 cat) ∧ w'.cell? ⟨w.heap.size + 1, 11, none⟩ = some (.bool fin)) (first | exact ⟨x0, x1, x2, x3, x4, x5, x6, x7, x8, x9, x10, x11⟩) (first | (go_at_call 15; refine (kF.out _).mono ?_; rintro e w6 ⟨BF, rfl, hF, hE6⟩; have hS := ext_at hE0 (by first | exact hE6 | exact Ext.undrew hE6); replace hE0 := hE0.trans hS; replace x0 := hS.get x0; replace x1 := hS.get x1; replace x2 := hS.get x2; replace x3 := hS.get x3; replace x4 := hS.get x4; replace x5 := hS.get x5; replace x6 := hS.get x6; replace x7 := hS.get x7; replace x8 := hS.get x8; replace x9 := hS.get x9; replace x10 := hS.get x10; replace x11 := hS.get x11; clear hE6 hS))
 clear x0 x1 x2 x3 x4 x5 x6 x7 x8 x9 x10 x11 kF
 replace bT := Lib.hid (bT.out.ext hE0)
 replace bR := Lib.hid (bR.out.ext hE0)
 replace bX := Lib.hid (bX.out.ext hE0)
 replace bY := Lib.hid (bY.out.ext hE0)
 replace hE := hE.trans hE0
 clear hE0
 have hYB : Y ≠ BF := hne9.out w6 BF Y hF ((bY.out.cell 0).trans rfl)
 replace hF := Lib.hid hF
 have hYw : w.heap.size ≤ Y := by omega
 have hYT : Y ≠ w.heap.size := by omega
 have hYR : Y ≠ w.heap.size + 1 := by omega
 have hYX : Y ≠ w.heap.size + 1 + 1 := by omega
 clear hne9
 have z0 : w6.cell? ⟨w.heap.size, 0, none⟩ = some (.slice p1 li.length c1) := (bT.out.cell 0).trans rfl
 go_wp2_with fail
 refine (kA0.out _ _ hE hF.out).mono ?_
 rintro e w7 ⟨rfl, hE7⟩
 replace bT := Lib.hid (bT.out.ext hE7)
 replace bR := Lib.hid (bR.out.ext hE7)
 replace bX := Lib.hid (bX.out.ext hE7)
 replace bY := Lib.hid (bY.out.ext hE7)
 replace hF := Lib.hid (hF.out.ext hE7)
 replace hE := hE.trans hE7
 clear hE7 kA0 z0
 have hYs : Y < w7.heap.size := bY.out.lt
 have x0 : w7.cell? ⟨Y, 0, none⟩ = some (.string ⟨#[]⟩) := (bY.out.cell 0).trans rfl
 have x1 : w7.cell? ⟨Y, 1, none⟩ = some (.int .i64 0) := (bY.out.cell 1).trans rfl
 have x2 : w7.cell? ⟨Y, 2, none⟩ = some (.string ⟨#[]⟩) := (bY.out.cell 2).trans rfl
 have f0 : w7.frozen? ⟨Y, 0, none⟩ = false := bY.out.fz 0
 have f1 : w7.frozen? ⟨Y, 1, none⟩ = false := bY.out.fz 1
 have f2 : w7.frozen? ⟨Y, 2, none⟩ = false := bY.out.fz 2
 replace bY := Lib.hid (show Blk (((w7.setCell ⟨Y, 0, none⟩ (.string r0)).setCell ⟨Y, 1, none⟩ (.int .i64 a0)).setCell ⟨Y, 2, none⟩ (.string y0)) Y #[.string r0, .int .i64 a0, .string y0, .string ⟨#[]⟩, .int .i64 0, .string ⟨#[]⟩, .string ⟨#[]⟩, .int .i64 0, .string ⟨#[]⟩, .int .i64 0, .int .i64 0, .int .i64 0, .int .i64 0, .int .i64 0] 39 from ((bY.out.set 0 (.string r0)).set 1 (.int .i64 a0)).set 2 (.string y0))
 replace bT := Lib.hid (show Blk (((w7.setCell ⟨Y, 0, none⟩ (.string r0)).setCell ⟨Y, 1, none⟩ (.int .i64 a0)).setCell ⟨Y, 2, none⟩ (.string y0)) w.heap.size #[.slice p1 li.length c1, .slice p2 ls.length c2, .slice p3 lm.length c3] 42 from Blk.far3 hYT bT.out)
 replace bR := Lib.hid (show Blk (((w7.setCell ⟨Y, 0, none⟩ (.string r0)).setCell ⟨Y, 1, none⟩ (.int .i64 a0)).setCell ⟨Y, 2, none⟩ (.string y0)) (w.heap.size + 1) #[.int .i64 kind, .string id, .string auth, .string acq, .string iss, .string mer, .string card, .int .i64 amt, .string cur, .int .i64 date, .int .i64 cat, .bool fin] 28 from Blk.far3 hYR bR.out)
 replace bX := Lib.hid (show Blk (((w7.setCell ⟨Y, 0, none⟩ (.string r0)).setCell ⟨Y, 1, none⟩ (.int .i64 a0)).setCell ⟨Y, 2, none⟩ (.string y0)) (w.heap.size + 1 + 1) #[.string ⟨#[]⟩, .int .i64 0, .string ⟨#[]⟩, .string ⟨#[]⟩, .int .i64 0, .string ⟨#[]⟩, .string ⟨#[]⟩, .int .i64 0, .string ⟨#[]⟩, .int .i64 0, .int .i64 0, .int .i64 0, .int .i64 0, .int .i64 0] 39 from Blk.far3 hYX bX.out)
 replace hF := Lib.hid (show Feats (((w7.setCell ⟨Y, 0, none⟩ (.string r0)).setCell ⟨Y, 1, none⟩ (.int .i64 a0)).setCell ⟨Y, 2, none⟩ (.string y0)) (.slice (some ⟨BF, 0, none⟩) 9 9) fs from feats_far3 hYB hF.out)
 replace hE : Ext w (((w7.setCell ⟨Y, 0, none⟩ (.string r0)).setCell ⟨Y, 1, none⟩ (.int .i64 a0)).setCell ⟨Y, 2, none⟩ (.string y0)) := Ext.set3 hYw hE
 have z1 : (((w7.setCell ⟨Y, 0, none⟩ (.string r0)).setCell ⟨Y, 1, none⟩ (.int .i64 a0)).setCell ⟨Y, 2, none⟩ (.string y0)).cell? ⟨w.heap.size, 1, none⟩ = some (.slice p2 ls.length c2) := (bT.out.cell 1).trans rfl
 go_wp2_with fail
 refine (kA1.out _ _ hE hF.out).mono ?_
 rintro e w8 ⟨rfl, hE7⟩
 replace bT := Lib.hid (bT.out.ext hE7)
 replace bR := Lib.hid (bR.out.ext hE7)
 replace bX := Lib.hid (bX.out.ext hE7)
 replace bY := Lib.hid (bY.out.ext hE7)
 replace hF := Lib.hid (hF.out.ext hE7)
 replace hE := hE.trans hE7
 clear hE7 kA1 z1 hYs x0 f0 x1 f1 x2 f2
 have hYs : Y < w8.heap.size := bY.out.lt
 have x3 : w8.cell? ⟨Y, 3, none⟩ = some (.string ⟨#[]⟩) := (bY.out.cell 3).trans rfl
 have x4 : w8.cell? ⟨Y, 4, none⟩ = some (.int .i64 0) := (bY.out.cell 4).trans rfl
 have x5 : w8.cell? ⟨Y, 5, none⟩ = some (.string ⟨#[]⟩) := (bY.out.cell 5).trans rfl
 have f3 : w8.frozen? ⟨Y, 3, none⟩ = false := bY.out.fz 3
 have f4 : w8.frozen? ⟨Y, 4, none⟩ = false := bY.out.fz 4
 have f5 : w8.frozen? ⟨Y, 5, none⟩ = false := bY.out.fz 5
 replace bY := Lib.hid (show Blk (((w8.setCell ⟨Y, 3, none⟩ (.string r1)).setCell ⟨Y, 4, none⟩ (.int .i64 a1)).setCell ⟨Y, 5, none⟩ (.string y1)) Y #[.string r0, .int .i64 a0, .string y0, .string r1, .int .i64 a1, .string y1, .string ⟨#[]⟩, .int .i64 0, .string ⟨#[]⟩, .int .i64 0, .int .i64 0, .int .i64 0, .int .i64 0, .int .i64 0] 39 from ((bY.out.set 3 (.string r1)).set 4 (.int .i64 a1)).set 5 (.string y1))
 replace bT := Lib.hid (show Blk (((w8.setCell ⟨Y, 3, none⟩ (.string r1)).setCell ⟨Y, 4, none⟩ (.int .i64 a1)).setCell ⟨Y, 5, none⟩ (.string y1)) w.heap.size #[.slice p1 li.length c1, .slice p2 ls.length c2, .slice p3 lm.length c3] 42 from Blk.far3 hYT bT.out)
 replace bR := Lib.hid (show Blk (((w8.setCell ⟨Y, 3, none⟩ (.string r1)).setCell ⟨Y, 4, none⟩ (.int .i64 a1)).setCell ⟨Y, 5, none⟩ (.string y1)) (w.heap.size + 1) #[.int .i64 kind, .string id, .string auth, .string acq, .string iss, .string mer, .string card, .int .i64 amt, .string cur, .int .i64 date, .int .i64 cat, .bool fin] 28 from Blk.far3 hYR bR.out)
 replace bX := Lib.hid (show Blk (((w8.setCell ⟨Y, 3, none⟩ (.string r1)).setCell ⟨Y, 4, none⟩ (.int .i64 a1)).setCell ⟨Y, 5, none⟩ (.string y1)) (w.heap.size + 1 + 1) #[.string ⟨#[]⟩, .int .i64 0, .string ⟨#[]⟩, .string ⟨#[]⟩, .int .i64 0, .string ⟨#[]⟩, .string ⟨#[]⟩, .int .i64 0, .string ⟨#[]⟩, .int .i64 0, .int .i64 0, .int .i64 0, .int .i64 0, .int .i64 0] 39 from Blk.far3 hYX bX.out)
 replace hF := Lib.hid (show Feats (((w8.setCell ⟨Y, 3, none⟩ (.string r1)).setCell ⟨Y, 4, none⟩ (.int .i64 a1)).setCell ⟨Y, 5, none⟩ (.string y1)) (.slice (some ⟨BF, 0, none⟩) 9 9) fs from feats_far3 hYB hF.out)
 replace hE : Ext w (((w8.setCell ⟨Y, 3, none⟩ (.string r1)).setCell ⟨Y, 4, none⟩ (.int .i64 a1)).setCell ⟨Y, 5, none⟩ (.string y1)) := Ext.set3 hYw hE
 have z2 : (((w8.setCell ⟨Y, 3, none⟩ (.string r1)).setCell ⟨Y, 4, none⟩ (.int .i64 a1)).setCell ⟨Y, 5, none⟩ (.string y1)).cell? ⟨w.heap.size, 2, none⟩ = some (.slice p3 lm.length c3) := (bT.out.cell 2).trans rfl
 go_wp2_with fail
 refine (kA2.out _ _ hE hF.out).mono ?_
 rintro e w9 ⟨rfl, hE7⟩
 replace bT := Lib.hid (bT.out.ext hE7)
 replace bR := Lib.hid (bR.out.ext hE7)
 replace bX := Lib.hid (bX.out.ext hE7)
 replace bY := Lib.hid (bY.out.ext hE7)
 replace hF := Lib.hid (hF.out.ext hE7)
 replace hE := hE.trans hE7
 clear hE7 kA2 z2 hYs x3 f3 x4 f4 x5 f5
 have hYs : Y < w9.heap.size := bY.out.lt
 have x6 : w9.cell? ⟨Y, 6, none⟩ = some (.string ⟨#[]⟩) := (bY.out.cell 6).trans rfl
 have x7 : w9.cell? ⟨Y, 7, none⟩ = some (.int .i64 0) := (bY.out.cell 7).trans rfl
 have x8 : w9.cell? ⟨Y, 8, none⟩ = some (.string ⟨#[]⟩) := (bY.out.cell 8).trans rfl
 have f6 : w9.frozen? ⟨Y, 6, none⟩ = false := bY.out.fz 6
 have f7 : w9.frozen? ⟨Y, 7, none⟩ = false := bY.out.fz 7
 have f8 : w9.frozen? ⟨Y, 8, none⟩ = false := bY.out.fz 8
 replace bY := Lib.hid (show Blk (((w9.setCell ⟨Y, 6, none⟩ (.string r2)).setCell ⟨Y, 7, none⟩ (.int .i64 a2)).setCell ⟨Y, 8, none⟩ (.string y2)) Y #[.string r0, .int .i64 a0, .string y0, .string r1, .int .i64 a1, .string y1, .string r2, .int .i64 a2, .string y2, .int .i64 0, .int .i64 0, .int .i64 0, .int .i64 0, .int .i64 0] 39 from ((bY.out.set 6 (.string r2)).set 7 (.int .i64 a2)).set 8 (.string y2))
 replace bT := Lib.hid (show Blk (((w9.setCell ⟨Y, 6, none⟩ (.string r2)).setCell ⟨Y, 7, none⟩ (.int .i64 a2)).setCell ⟨Y, 8, none⟩ (.string y2)) w.heap.size #[.slice p1 li.length c1, .slice p2 ls.length c2, .slice p3 lm.length c3] 42 from Blk.far3 hYT bT.out)
 replace bR := Lib.hid (show Blk (((w9.setCell ⟨Y, 6, none⟩ (.string r2)).setCell ⟨Y, 7, none⟩ (.int .i64 a2)).setCell ⟨Y, 8, none⟩ (.string y2)) (w.heap.size + 1) #[.int .i64 kind, .string id, .string auth, .string acq, .string iss, .string mer, .string card, .int .i64 amt, .string cur, .int .i64 date, .int .i64 cat, .bool fin] 28 from Blk.far3 hYR bR.out)
 replace bX := Lib.hid (show Blk (((w9.setCell ⟨Y, 6, none⟩ (.string r2)).setCell ⟨Y, 7, none⟩ (.int .i64 a2)).setCell ⟨Y, 8, none⟩ (.string y2)) (w.heap.size + 1 + 1) #[.string ⟨#[]⟩, .int .i64 0, .string ⟨#[]⟩, .string ⟨#[]⟩, .int .i64 0, .string ⟨#[]⟩, .string ⟨#[]⟩, .int .i64 0, .string ⟨#[]⟩, .int .i64 0, .int .i64 0, .int .i64 0, .int .i64 0, .int .i64 0] 39 from Blk.far3 hYX bX.out)
 replace hF := Lib.hid (show Feats (((w9.setCell ⟨Y, 6, none⟩ (.string r2)).setCell ⟨Y, 7, none⟩ (.int .i64 a2)).setCell ⟨Y, 8, none⟩ (.string y2)) (.slice (some ⟨BF, 0, none⟩) 9 9) fs from feats_far3 hYB hF.out)
 replace hE : Ext w (((w9.setCell ⟨Y, 6, none⟩ (.string r2)).setCell ⟨Y, 7, none⟩ (.int .i64 a2)).setCell ⟨Y, 8, none⟩ (.string y2)) := Ext.set3 hYw hE
 have u1 : (((w9.setCell ⟨Y, 6, none⟩ (.string r2)).setCell ⟨Y, 7, none⟩ (.int .i64 a2)).setCell ⟨Y, 8, none⟩ (.string y2)).cell? ⟨Y, 1, none⟩ = some (.int .i64 a0) := (bY.out.cell 1).trans rfl
 have u4 : (((w9.setCell ⟨Y, 6, none⟩ (.string r2)).setCell ⟨Y, 7, none⟩ (.int .i64 a2)).setCell ⟨Y, 8, none⟩ (.string y2)).cell? ⟨Y, 4, none⟩ = some (.int .i64 a1) := (bY.out.cell 4).trans rfl
 have u7 : (((w9.setCell ⟨Y, 6, none⟩ (.string r2)).setCell ⟨Y, 7, none⟩ (.int .i64 a2)).setCell ⟨Y, 8, none⟩ (.string y2)).cell? ⟨Y, 7, none⟩ = some (.int .i64 a2) := (bY.out.cell 7).trans rfl
 go_wp2_with fail
 go_quiet (fail)
 obtain ⟨w11, hw11⟩ : ∃ w11, w11 = (((w9.setCell ⟨Y, 6, none⟩ (.string r2)).setCell ⟨Y, 7, none⟩ (.int .i64 a2)).setCell ⟨Y, 8, none⟩ (.string y2)).drewN nq := ⟨_, rfl⟩
 replace bY : Hid (Blk w11 Y #[.string r0, .int .i64 a0, .string y0, .string r1, .int .i64 a1, .string y1, .string r2, .int .i64 a2, .string y2, .int .i64 0, .int .i64 0, .int .i64 0, .int .i64 0, .int .i64 0] 39) := Lib.hid (by rw [hw11]; exact bY.out)
 replace bR : Hid (Blk w11 (w.heap.size + 1) #[.int .i64 kind, .string id, .string auth, .string acq, .string iss, .string mer, .string card, .int .i64 amt, .string cur, .int .i64 date, .int .i64 cat, .bool fin] 28) := Lib.hid (by rw [hw11]; exact bR.out)
 replace bX : Hid (Blk w11 (w.heap.size + 1 + 1) #[.string ⟨#[]⟩, .int .i64 0, .string ⟨#[]⟩, .string ⟨#[]⟩, .int .i64 0, .string ⟨#[]⟩, .string ⟨#[]⟩, .int .i64 0, .string ⟨#[]⟩, .int .i64 0, .int .i64 0, .int .i64 0, .int .i64 0, .int .i64 0] 39) := Lib.hid (by rw [hw11]; exact bX.out)
 replace hE : Ext w w11 := by rw [hw11]; exact hE.drewN nq
 rw [← hw11]
 clear hw11 bT hF hYs u1 u4 u7 x6 f6 x7 f7 x8 f8 hYT hYB
 obtain ⟨b0, b1⟩ := htp0.out
 obtain ⟨b2, b3⟩ := htp1.out
 obtain ⟨b4, b5⟩ := htp2.out
 obtain ⟨b6, b7, -, -⟩ := hamt.out
 have e4 : wrap64 (a2 - a0) = a2 - a0 := by unfold wrap64; omega
 have e5 : wrap64 (a2 - a0 - a1) = a2 - a0 - a1 := by unfold wrap64; omega
 have e6 : wrap64 (a0 - a2) = a0 - a2 := by unfold wrap64; omega
 have e7 : wrap64 (a0 - a2 - a1) = a0 - a2 - a1 := by unfold wrap64; omega
 have e8 : wrap64 (amt - a2) = amt - a2 := by unfold wrap64; omega
 have e9 : wrap64 (a2 - amt) = a2 - amt := by unfold wrap64; omega
 have e10 : wrap64 (-amt) = -amt := by unfold wrap64; omega
 have e11 : wrap64 (-a0) = -a0 := by unfold wrap64; omega
 clear b0 b1 b2 b3 b4 b5 b6 b7 hamt htp0 htp1 htp2 g
 have hy : paysB kind = true → R = (⟨⟨r0, a0, y0⟩, ⟨r1, a1, y1⟩, ⟨r2, a2, y2⟩, -amt, a0, a2 - a0 - a1, amt - a2, a1⟩, 0) := fun h => by rw [hR.out, share_yes h]
 have hn : paysB kind = false → R = (⟨⟨r0, a0, y0⟩, ⟨r1, a1, y1⟩, ⟨r2, a2, y2⟩, amt, -a0, a0 - a2 - a1, a2 - amt, a1⟩, 0) := fun h => by rw [hR.out, share_no h]
 replace hy := Lib.hid hy
 replace hn := Lib.hid hn
 clear hR
 have hYs : Y < w11.heap.size := bY.out.lt
 have bXs : w.heap.size + 1 + 1 < w11.heap.size := bX.out.lt
 have z0 : w11.cell? ⟨w.heap.size + 1, 0, none⟩ = some (.int .i64 kind) := (bR.out.cell 0).trans rfl
 have x0 : w11.cell? ⟨Y, 0, none⟩ = some (.string r0) := (bY.out.cell 0).trans rfl
 have x1 : w11.cell? ⟨Y, 1, none⟩ = some (.int .i64 a0) := (bY.out.cell 1).trans rfl
 have x2 : w11.cell? ⟨Y, 2, none⟩ = some (.string y0) := (bY.out.cell 2).trans rfl
 have x3 : w11.cell? ⟨Y, 3, none⟩ = some (.string r1) := (bY.out.cell 3).trans rfl
 have x4 : w11.cell? ⟨Y, 4, none⟩ = some (.int .i64 a1) := (bY.out.cell 4).trans rfl
 have x5 : w11.cell? ⟨Y, 5, none⟩ = some (.string y1) := (bY.out.cell 5).trans rfl
 have x6 : w11.cell? ⟨Y, 6, none⟩ = some (.string r2) := (bY.out.cell 6).trans rfl
 have x7 : w11.cell? ⟨Y, 7, none⟩ = some (.int .i64 a2) := (bY.out.cell 7).trans rfl
 have x8 : w11.cell? ⟨Y, 8, none⟩ = some (.string y2) := (bY.out.cell 8).trans rfl
 have x9 : w11.cell? ⟨Y, 9, none⟩ = some (.int .i64 0) := (bY.out.cell 9).trans rfl
 have x10 : w11.cell? ⟨Y, 10, none⟩ = some (.int .i64 0) := (bY.out.cell 10).trans rfl
 have x11 : w11.cell? ⟨Y, 11, none⟩ = some (.int .i64 0) := (bY.out.cell 11).trans rfl
 have x12 : w11.cell? ⟨Y, 12, none⟩ = some (.int .i64 0) := (bY.out.cell 12).trans rfl
 have x13 : w11.cell? ⟨Y, 13, none⟩ = some (.int .i64 0) := (bY.out.cell 13).trans rfl
 have g0 : w11.frozen? ⟨Y, 0, none⟩ = false := bY.out.fz 0
 have g1 : w11.frozen? ⟨Y, 1, none⟩ = false := bY.out.fz 1
 have g2 : w11.frozen? ⟨Y, 2, none⟩ = false := bY.out.fz 2
 have g3 : w11.frozen? ⟨Y, 3, none⟩ = false := bY.out.fz 3
 have g4 : w11.frozen? ⟨Y, 4, none⟩ = false := bY.out.fz 4
 have g5 : w11.frozen? ⟨Y, 5, none⟩ = false := bY.out.fz 5
 have g6 : w11.frozen? ⟨Y, 6, none⟩ = false := bY.out.fz 6
 have g7 : w11.frozen? ⟨Y, 7, none⟩ = false := bY.out.fz 7
 have g8 : w11.frozen? ⟨Y, 8, none⟩ = false := bY.out.fz 8
 have g9 : w11.frozen? ⟨Y, 9, none⟩ = false := bY.out.fz 9
 have g10 : w11.frozen? ⟨Y, 10, none⟩ = false := bY.out.fz 10
 have g11 : w11.frozen? ⟨Y, 11, none⟩ = false := bY.out.fz 11
 have g12 : w11.frozen? ⟨Y, 12, none⟩ = false := bY.out.fz 12
 have g13 : w11.frozen? ⟨Y, 13, none⟩ = false := bY.out.fz 13
 have v0 : w11.cell? ⟨w.heap.size + 1 + 1, 0, none⟩ = some (.string ⟨#[]⟩) := (bX.out.cell 0).trans rfl
 have v1 : w11.cell? ⟨w.heap.size + 1 + 1, 1, none⟩ = some (.int .i64 0) := (bX.out.cell 1).trans rfl
 have v2 : w11.cell? ⟨w.heap.size + 1 + 1, 2, none⟩ = some (.string ⟨#[]⟩) := (bX.out.cell 2).trans rfl
 have v3 : w11.cell? ⟨w.heap.size + 1 + 1, 3, none⟩ = some (.string ⟨#[]⟩) := (bX.out.cell 3).trans rfl
 have v4 : w11.cell? ⟨w.heap.size + 1 + 1, 4, none⟩ = some (.int .i64 0) := (bX.out.cell 4).trans rfl
 have v5 : w11.cell? ⟨w.heap.size + 1 + 1, 5, none⟩ = some (.string ⟨#[]⟩) := (bX.out.cell 5).trans rfl
 have v6 : w11.cell? ⟨w.heap.size + 1 + 1, 6, none⟩ = some (.string ⟨#[]⟩) := (bX.out.cell 6).trans rfl
 have v7 : w11.cell? ⟨w.heap.size + 1 + 1, 7, none⟩ = some (.int .i64 0) := (bX.out.cell 7).trans rfl
 have v8 : w11.cell? ⟨w.heap.size + 1 + 1, 8, none⟩ = some (.string ⟨#[]⟩) := (bX.out.cell 8).trans rfl
 have v9 : w11.cell? ⟨w.heap.size + 1 + 1, 9, none⟩ = some (.int .i64 0) := (bX.out.cell 9).trans rfl
 have v10 : w11.cell? ⟨w.heap.size + 1 + 1, 10, none⟩ = some (.int .i64 0) := (bX.out.cell 10).trans rfl
 have v11 : w11.cell? ⟨w.heap.size + 1 + 1, 11, none⟩ = some (.int .i64 0) := (bX.out.cell 11).trans rfl
 have v12 : w11.cell? ⟨w.heap.size + 1 + 1, 12, none⟩ = some (.int .i64 0) := (bX.out.cell 12).trans rfl
 have v13 : w11.cell? ⟨w.heap.size + 1 + 1, 13, none⟩ = some (.int .i64 0) := (bX.out.cell 13).trans rfl
 have f0 : w11.frozen? ⟨w.heap.size + 1 + 1, 0, none⟩ = false := bX.out.fz 0
 have f1 : w11.frozen? ⟨w.heap.size + 1 + 1, 1, none⟩ = false := bX.out.fz 1
 have f2 : w11.frozen? ⟨w.heap.size + 1 + 1, 2, none⟩ = false := bX.out.fz 2
 have f3 : w11.frozen? ⟨w.heap.size + 1 + 1, 3, none⟩ = false := bX.out.fz 3
 have f4 : w11.frozen? ⟨w.heap.size + 1 + 1, 4, none⟩ = false := bX.out.fz 4
 have f5 : w11.frozen? ⟨w.heap.size + 1 + 1, 5, none⟩ = false := bX.out.fz 5
 have f6 : w11.frozen? ⟨w.heap.size + 1 + 1, 6, none⟩ = false := bX.out.fz 6
 have f7 : w11.frozen? ⟨w.heap.size + 1 + 1, 7, none⟩ = false := bX.out.fz 7
 have f8 : w11.frozen? ⟨w.heap.size + 1 + 1, 8, none⟩ = false := bX.out.fz 8
 have f9 : w11.frozen? ⟨w.heap.size + 1 + 1, 9, none⟩ = false := bX.out.fz 9
 have f10 : w11.frozen? ⟨w.heap.size + 1 + 1, 10, none⟩ = false := bX.out.fz 10
 have f11 : w11.frozen? ⟨w.heap.size + 1 + 1, 11, none⟩ = false := bX.out.fz 11
 have f12 : w11.frozen? ⟨w.heap.size + 1 + 1, 12, none⟩ = false := bX.out.fz 12
 have f13 : w11.frozen? ⟨w.heap.size + 1 + 1, 13, none⟩ = false := bX.out.fz 13
 clear bY bR bX
 by_cases k1 : (kind == 1) = true
 · have hRR := Lib.hid (hy.out (pays1 k1))
   clear hy hn
   go_wp2
   exact bodyPost_ret (v := .tuple #[.agg #[.string r0, .int .i64 a0, .string y0, .string r1, .int .i64 a1, .string y1, .string r2, .int .i64 a2, .string y2, .int .i64 (-amt), .int .i64 a0, .int .i64 (a2 - a0 - a1), .int .i64 (amt - a2), .int .i64 a1], .int .i64 0]) (by first | (simp [results, Tryz.results12, go_sem, v0, v1, v2, v3, v4, v5, v6, v7, v8, v9, v10, v11, v12, v13, bXs]; done) | simp [results, Tryz.results12, go_sem]) rfl (assP (x := ⟨⟨r0, a0, y0⟩, ⟨r1, a1, y1⟩, ⟨r2, a2, y2⟩, -amt, a0, a2 - a0 - a1, amt - a2, a1⟩) hRR.out xt)
 · replace k1 : (kind == 1) = false := by simpa using k1
   by_cases k4 : (kind == 4) = true
   · have hRR := Lib.hid (hy.out (pays4 k4))
     clear hy hn
     go_wp2
     exact bodyPost_ret (v := .tuple #[.agg #[.string r0, .int .i64 a0, .string y0, .string r1, .int .i64 a1, .string y1, .string r2, .int .i64 a2, .string y2, .int .i64 (-amt), .int .i64 a0, .int .i64 (a2 - a0 - a1), .int .i64 (amt - a2), .int .i64 a1], .int .i64 0]) (by first | (simp [results, Tryz.results12, go_sem, v0, v1, v2, v3, v4, v5, v6, v7, v8, v9, v10, v11, v12, v13, bXs]; done) | simp [results, Tryz.results12, go_sem]) rfl (assP (x := ⟨⟨r0, a0, y0⟩, ⟨r1, a1, y1⟩, ⟨r2, a2, y2⟩, -amt, a0, a2 - a0 - a1, amt - a2, a1⟩) hRR.out xt)
   · replace k4 : (kind == 4) = false := by simpa using k4
     have hRR := Lib.hid (hn.out (paysn k1 k4))
     clear hy hn
     go_wp2
     exact bodyPost_ret (v := .tuple #[.agg #[.string r0, .int .i64 a0, .string y0, .string r1, .int .i64 a1, .string y1, .string r2, .int .i64 a2, .string y2, .int .i64 amt, .int .i64 (-a0), .int .i64 (a0 - a2 - a1), .int .i64 (a2 - amt), .int .i64 a1], .int .i64 0]) (by first | (simp [results, Tryz.results12, go_sem, v0, v1, v2, v3, v4, v5, v6, v7, v8, v9, v10, v11, v12, v13, bXs]; done) | simp [results, Tryz.results12, go_sem]) rfl (assP (x := ⟨⟨r0, a0, y0⟩, ⟨r1, a1, y1⟩, ⟨r2, a2, y2⟩, amt, -a0, a0 - a2 - a1, a2 - amt, a1⟩) hRR.out xt)
end Go.Proofs.YtmnhmkjmcckneaaGreatDoor
