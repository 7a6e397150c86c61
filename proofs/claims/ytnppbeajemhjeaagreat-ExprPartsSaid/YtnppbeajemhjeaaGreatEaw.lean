/- The contract of the law's awake (walk). -/
import Derived.Test.YtnppbeajemhjeaaGreatEap
import Derived.Test.YtnppbeajemhjeaaGreatEg
import Derived.Deep.RegionHeld3
namespace Go.Proofs.YtnppbeajemhjeaaGreat
open Go.RowKit
theorem Ext.undrew {a b : World} (h : Ext a.drew b) : Ext a b := ⟨h.os, h.tape, h.output, h.size, h.block⟩
theorem ext_at {w z u : World} (_ : Ext w z) (h : Ext z u) : Ext z u := h
theorem feats_one {w : World} {B : Nat} {f : Feat} {T : TypeId} (h : Blk w B #[.string f.name, .int .i64 f.kind, .int .i64 f.n, .string f.text] T) : Feats w (.slice (some ⟨B, 0, none⟩) 1 1) [f] := by
  refine ⟨by simp, Or.inr ⟨B, 0, 1, rfl, fun i hi => ?_⟩⟩
  obtain rfl : i = 0 := by simp at hi; omega
  exact ⟨(h.cell 0).trans rfl, (h.cell 1).trans rfl, (h.cell 2).trans rfl, (h.cell 3).trans rfl⟩
theorem feats_nil (w : World) : Feats w (.slice none 0 0) [] := ⟨by simp, Or.inl ⟨none, 0, rfl, rfl⟩⟩
/-- Eval without a source, where the value is known. -/
theorem eval_at {w : World} {v : Value} (x : Ex) (hS : ExS w v x.args) (fv : Value) (l : List Feat) (hF : Feats w fv l) {nm tx : ByteArray} {k n c : Int} (h : evalV x l nilS = (⟨nm, k, n, tx⟩, c)) : Calls Tryz.prog 19 #[exAgg x v, fv, .nilIface] w fun e w' => e = .returned (.tuple #[.agg #[.string nm, .int .i64 k, .int .i64 n, .string tx], .int .i64 c]) ∧ Ext w w' := by
  have k := eval_nil x hS fv l hF nilS (fun _ _ _ hc => asker_nil hc)
  rw [h] at k
  exact k
theorem check_at {w : World} {v : Value} (x : Ex) (hS : ExS w v x.args) (fv : Value) (l : List Feat) (hF : Feats w fv l) {c : Int} (h : (checkV x l).2 = c) : Calls Tryz.prog 20 #[exAgg x v, fv] w fun e w' => ∃ t, e = .returned (.tuple #[.int .i64 t, .int .i64 c]) ∧ Ext w w' := by
  have k := check_any x hS fv l hF
  refine k.mono ?_
  rintro e w' ⟨rfl, hE⟩
  exact ⟨_, by rw [h], hE⟩
theorem blk5 {w w1 : World} {c0 c1 c2 c3 c4 : Value} {T : TypeId} (h : Ext (w.alloc (.cells #[c0, c1, c2, c3, c4] T)) w1) : Blk w1 w.heap.size #[c0, c1, c2, c3, c4] T := (Blk.new w _ T).ext h
set_option maxRecDepth 8000 in
set_option maxHeartbeats 4000000 in
theorem awake_any (w : World) : Calls Tryz.prog 5 #[] w (OneV (.bool true) w) := by
  go_enter Tryz.func5, Tryz.ntmps5
  go_wp2_with fail
  refine (mkName_any amtS _).mono ?_
  rintro e w1 ⟨rfl, hE1⟩
  have hF := Lib.hid (feats_one (f := ⟨amtS, 1, 5, emS⟩) ((Blk.new w #[.string amtS, .int .i64 1, .int .i64 5, .string emS] 36).ext hE1))
  have hE : Ext w w1 := Ext.trans (by repeat (first | with_reducible exact Ext.refl _ | with_reducible exact hE0 | with_reducible exact hE | with_reducible refine Ext.alloc ?_ _ | with_reducible refine Ext.drewN ?_ _ | with_reducible refine Ext.drew ?_ | ((with_reducible refine Ext.setCell ?_ ?side _); (case side => first | exact Nat.le_refl _ | (simp; done) | (simp; omega))))) hE1
  clear hE1
  go_wp2_with fail
  refine (mkNum_any 1 _).mono ?_
  rintro e w2 ⟨rfl, hE2⟩
  replace hF := Lib.hid (hF.out.ext hE2)
  replace hE := hE.trans hE2
  clear hE2
  go_wp2_with fail
  refine (two_any 12 (leafS amtS) (leafN 1) none none 0 0 0 0 _ (.nil _ _) (.nil _ _)).mono ?_
  rintro e w3 ⟨p1, c1, rfl, hX, hE3⟩
  replace hX := Lib.hid hX
  replace hF := Lib.hid (hF.out.ext hE3)
  replace hE := hE.trans hE3
  clear hE3
  have hN : Ext w3 (w3.alloc (.cells #[.int .i64 12, .string ⟨#[]⟩, .string ⟨#[]⟩, .int .i64 0, .slice p1 2 c1] 24)) := (Ext.refl _).alloc _
  go_wp2_with fail
  refine (eval_at awSum (hX.out.ext hN) _ awL (hF.out.ext hN) (show evalV awSum awL nilS = (⟨⟨#[]⟩, 1, 6, ⟨#[]⟩⟩, 0) from aw1)).mono ?_
  rintro e w4 ⟨rfl, hE4⟩
  have hB2 := Lib.hid ((Blk.new w3 #[.int .i64 12, .string ⟨#[]⟩, .string ⟨#[]⟩, .int .i64 0, .slice p1 2 c1] 24).ext hE4)
  replace hE4 := hN.trans hE4
  clear hN
  replace hF := Lib.hid (hF.out.ext hE4)
  replace hX := Lib.hid (hX.out.ext hE4)
  replace hE := hE.trans hE4
  clear hE4
  obtain ⟨B2, hB2e⟩ : ∃ B2, B2 = w3.heap.size := ⟨_, rfl⟩
  rw [← hB2e] at hB2 ⊢
  clear hB2e
  have x0 := hB2.out.cell 0
  have x1 := hB2.out.cell 1
  have x2 := hB2.out.cell 2
  have x3 := hB2.out.cell 3
  have x4 := hB2.out.cell 4
  have hs := hB2.out.lt
  simp at x0 x1 x2 x3 x4
  have hN : Ext w4 (w4.alloc (.cells #[.string ⟨#[]⟩, .int .i64 1, .int .i64 6, .string ⟨#[]⟩] 36)) := (Ext.refl _).alloc _
  go_wp2_with fail
  refine (check_at awSum (hX.out.ext hN) (.slice none 0 0) [] (feats_nil _) aw2).mono ?_
  rintro e w5 ⟨t5, rfl, hE5⟩
  have hB3 := Lib.hid ((Blk.new w4 #[.string ⟨#[]⟩, .int .i64 1, .int .i64 6, .string ⟨#[]⟩] 36).ext hE5)
  replace hE5 := hN.trans hE5
  replace hB2 := Lib.hid (hB2.out.ext hE5)
  clear hN x0 x1 x2 x3 x4 hs
  replace hF := Lib.hid (hF.out.ext hE5)
  replace hX := Lib.hid (hX.out.ext hE5)
  replace hE := hE.trans hE5
  clear hE5
  obtain ⟨B3, hB3e⟩ : ∃ B3, B3 = w4.heap.size := ⟨_, rfl⟩
  rw [← hB3e] at hB3 ⊢
  clear hB3e
  go_wp2_with fail
  refine (check_at awTxt (.nil none 0) _ awL hF.out aw3).mono ?_
  rintro e w6 ⟨t6, rfl, hE6⟩
  replace hB2 := Lib.hid (hB2.out.ext hE6)
  replace hB3 := Lib.hid (hB3.out.ext hE6)
  replace hF := Lib.hid (hF.out.ext hE6)
  replace hX := Lib.hid (hX.out.ext hE6)
  replace hE := hE.trans hE6
  clear hE6
  go_wp2_with fail
  refine (mkNum_any 1 _).mono ?_
  rintro e w7 ⟨rfl, hE7⟩
  replace hB2 := Lib.hid (hB2.out.ext hE7)
  replace hB3 := Lib.hid (hB3.out.ext hE7)
  replace hF := Lib.hid (hF.out.ext hE7)
  replace hX := Lib.hid (hX.out.ext hE7)
  replace hE := hE.trans hE7
  clear hE7
  go_wp2_with fail
  refine (mkNum_any 2 _).mono ?_
  rintro e w8 ⟨rfl, hE8⟩
  replace hB2 := Lib.hid (hB2.out.ext hE8)
  replace hB3 := Lib.hid (hB3.out.ext hE8)
  replace hF := Lib.hid (hF.out.ext hE8)
  replace hX := Lib.hid (hX.out.ext hE8)
  replace hE := hE.trans hE8
  clear hE8
  go_wp2_with fail
  refine (two_any 8 (leafN 1) (leafN 2) none none 0 0 0 0 _ (.nil _ _) (.nil _ _)).mono ?_
  rintro e w9 ⟨p2, c2, rfl, hX2, hE9⟩
  replace hX2 := Lib.hid hX2
  replace hB2 := Lib.hid (hB2.out.ext hE9)
  replace hB3 := Lib.hid (hB3.out.ext hE9)
  replace hF := Lib.hid (hF.out.ext hE9)
  replace hX := Lib.hid (hX.out.ext hE9)
  replace hE := hE.trans hE9
  clear hE9
  go_wp2_with fail
  refine (mkName_any amtS _).mono ?_
  rintro e w10 ⟨rfl, hE10⟩
  replace hB2 := Lib.hid (hB2.out.ext hE10)
  replace hB3 := Lib.hid (hB3.out.ext hE10)
  replace hF := Lib.hid (hF.out.ext hE10)
  replace hX := Lib.hid (hX.out.ext hE10)
  replace hX2 := Lib.hid (hX2.out.ext hE10)
  replace hE := hE.trans hE10
  clear hE10
  go_wp2_with fail
  refine (mkNum_any 3 _).mono ?_
  rintro e w11 ⟨rfl, hE11⟩
  replace hB2 := Lib.hid (hB2.out.ext hE11)
  replace hB3 := Lib.hid (hB3.out.ext hE11)
  replace hF := Lib.hid (hF.out.ext hE11)
  replace hX := Lib.hid (hX.out.ext hE11)
  replace hX2 := Lib.hid (hX2.out.ext hE11)
  replace hE := hE.trans hE11
  clear hE11
  go_wp2_with fail
  refine (two_any 10 (leafS amtS) (leafN 3) none none 0 0 0 0 _ (.nil _ _) (.nil _ _)).mono ?_
  rintro e w12 ⟨p3, c3, rfl, hX3, hE12⟩
  replace hX3 := Lib.hid hX3
  replace hB2 := Lib.hid (hB2.out.ext hE12)
  replace hB3 := Lib.hid (hB3.out.ext hE12)
  replace hF := Lib.hid (hF.out.ext hE12)
  replace hX := Lib.hid (hX.out.ext hE12)
  replace hX2 := Lib.hid (hX2.out.ext hE12)
  replace hE := hE.trans hE12
  clear hE12
  go_wp2_with fail
  refine (two_any 6 (exTwo 8 (leafN 1) (leafN 2)) (exTwo 10 (leafS amtS) (leafN 3)) p2 p3 2 2 c2 c3 _ hX2.out hX3.out).mono ?_
  rintro e w13 ⟨p4, c4, rfl, hX4, hE13⟩
  replace hX4 := Lib.hid hX4
  replace hB2 := Lib.hid (hB2.out.ext hE13)
  replace hB3 := Lib.hid (hB3.out.ext hE13)
  clear hX2 hX3
  replace hF := Lib.hid (hF.out.ext hE13)
  replace hX := Lib.hid (hX.out.ext hE13)
  replace hE := hE.trans hE13
  clear hE13
  go_wp2_with fail
  refine (eval_at awAnd hX4.out _ awL hF.out (show evalV awAnd awL nilS = (⟨⟨#[]⟩, 3, 0, ⟨#[]⟩⟩, 0) from aw4)).mono ?_
  rintro e w14 ⟨rfl, hE14⟩
  replace hB2 := Lib.hid (hB2.out.ext hE14)
  replace hB3 := Lib.hid (hB3.out.ext hE14)
  clear hX4 hF
  replace hX := Lib.hid (hX.out.ext hE14)
  replace hE := hE.trans hE14
  clear hE14
  have hN : Ext w14 (w14.alloc (.cells #[.string ⟨#[]⟩, .int .i64 3, .int .i64 0, .string ⟨#[]⟩] 36)) := (Ext.refl _).alloc _
  go_wp2_with fail
  refine (mkNum_any 2 _).mono ?_
  rintro e w15 ⟨rfl, hE15⟩
  have hB9 := Lib.hid ((Blk.new w14 #[.string ⟨#[]⟩, .int .i64 3, .int .i64 0, .string ⟨#[]⟩] 36).ext hE15)
  replace hE15 := hN.trans hE15
  replace hB2 := Lib.hid (hB2.out.ext hE15)
  replace hB3 := Lib.hid (hB3.out.ext hE15)
  clear hN
  replace hX := Lib.hid (hX.out.ext hE15)
  replace hE := hE.trans hE15
  clear hE15
  obtain ⟨B9, hB9e⟩ : ∃ B9, B9 = w14.heap.size := ⟨_, rfl⟩
  rw [← hB9e] at hB9 ⊢
  clear hB9e
  go_wp2_with fail
  refine (mkNum_any 3 _).mono ?_
  rintro e w16 ⟨rfl, hE16⟩
  replace hB2 := Lib.hid (hB2.out.ext hE16)
  replace hB3 := Lib.hid (hB3.out.ext hE16)
  replace hB9 := Lib.hid (hB9.out.ext hE16)
  replace hX := Lib.hid (hX.out.ext hE16)
  replace hE := hE.trans hE16
  clear hE16
  go_wp2_with fail
  refine (two_any 14 (leafN 2) (leafN 3) none none 0 0 0 0 _ (.nil _ _) (.nil _ _)).mono ?_
  rintro e w17 ⟨p5, c5, rfl, hX5, hE17⟩
  replace hX5 := Lib.hid hX5
  replace hB2 := Lib.hid (hB2.out.ext hE17)
  replace hB3 := Lib.hid (hB3.out.ext hE17)
  replace hB9 := Lib.hid (hB9.out.ext hE17)
  replace hX := Lib.hid (hX.out.ext hE17)
  replace hE := hE.trans hE17
  clear hE17
  go_wp2_with fail
  refine (mkName_any amtS _).mono ?_
  rintro e w18 ⟨rfl, hE18⟩
  replace hB2 := Lib.hid (hB2.out.ext hE18)
  replace hB3 := Lib.hid (hB3.out.ext hE18)
  replace hB9 := Lib.hid (hB9.out.ext hE18)
  replace hX := Lib.hid (hX.out.ext hE18)
  replace hX5 := Lib.hid (hX5.out.ext hE18)
  replace hE := hE.trans hE18
  clear hE18
  go_wp2_with fail
  refine (two_any 10 (exTwo 14 (leafN 2) (leafN 3)) (leafS amtS) p5 none 2 0 c5 0 _ hX5.out (.nil _ _)).mono ?_
  rintro e w19 ⟨p6, c6, rfl, hX6, hE19⟩
  replace hX6 := Lib.hid hX6
  replace hB2 := Lib.hid (hB2.out.ext hE19)
  replace hB3 := Lib.hid (hB3.out.ext hE19)
  replace hB9 := Lib.hid (hB9.out.ext hE19)
  clear hX5
  replace hX := Lib.hid (hX.out.ext hE19)
  replace hE := hE.trans hE19
  clear hE19
  go_wp2_with fail
  have hFold : Calls Tryz.prog 12 #[exAgg awMul (.slice p6 2 c6)] w19 (ExP (foldTop awMul) w19) := Fold_fn awMul hX6.out (by decide)
  have hsm := aw5
  generalize foldTop awMul = y at *
  refine hFold.mono ?_
  rintro e w20 ⟨p7, c7, rfl, hY, hE20⟩
  replace hY := Lib.hid hY.toS
  replace hB2 := Lib.hid (hB2.out.ext hE20)
  replace hB3 := Lib.hid (hB3.out.ext hE20)
  replace hB9 := Lib.hid (hB9.out.ext hE20)
  clear hX6 hFold
  replace hX := Lib.hid (hX.out.ext hE20)
  replace hE := hE.trans hE20
  clear hE20
  have h30 := hB3.out.cell 0
  have h31 := hB3.out.cell 1
  have h32 := hB3.out.cell 2
  have h33 := hB3.out.cell 3
  have h90 := hB9.out.cell 0
  have h91 := hB9.out.cell 1
  have h92 := hB9.out.cell 2
  have h93 := hB9.out.cell 3
  have hs3 := hB3.out.lt
  have hs9 := hB9.out.lt
  simp at h30 h31 h32 h33 h90 h91 h92 h93
  go_wp2_with fail
  have hN : Ext w20 (w20.alloc (.cells #[.int .i64 y.op, .string y.name, .string y.text, .int .i64 y.n, .slice p7 y.args.length c7] 24)) := (Ext.refl _).alloc _
  have hE0 := hE.trans hN
  have hBY := Blk.new w20 #[.int .i64 y.op, .string y.name, .string y.text, .int .i64 y.n, .slice p7 y.args.length c7] 24
  replace hB2 := hB2.out.ext hN
  replace hX := Lib.hid (hX.out.ext hN)
  replace hY := Lib.hid (hY.out.ext hN)
  obtain ⟨BY, hBYe⟩ : ∃ BY, BY = w20.heap.size := ⟨_, rfl⟩
  rw [← hBYe] at hBY ⊢
  generalize w20.alloc (.cells #[.int .i64 y.op, .string y.name, .string y.text, .int .i64 y.n, .slice p7 y.args.length c7] 24) = w21 at *
  clear hBYe hN hE h30 h31 h32 h33 h90 h91 h92 h93 hs3 hs9 hB3 hB9
  have x0 : w21.cell? ⟨B2, 0, none⟩ = some (.int .i64 12) := hB2.cell 0
  have x1 : w21.cell? ⟨B2, 1, none⟩ = some (.string ⟨#[]⟩) := hB2.cell 1
  have x2 : w21.cell? ⟨B2, 2, none⟩ = some (.string ⟨#[]⟩) := hB2.cell 2
  have x3 : w21.cell? ⟨B2, 3, none⟩ = some (.int .i64 0) := hB2.cell 3
  have x4 : w21.cell? ⟨B2, 4, none⟩ = some (.slice p1 2 c1) := hB2.cell 4
  have y0 : w21.cell? ⟨BY, 0, none⟩ = some (.int .i64 y.op) := hBY.cell 0
  have y1 : w21.cell? ⟨BY, 1, none⟩ = some (.string y.name) := hBY.cell 1
  have y2 : w21.cell? ⟨BY, 2, none⟩ = some (.string y.text) := hBY.cell 2
  have y3 : w21.cell? ⟨BY, 3, none⟩ = some (.int .i64 y.n) := hBY.cell 3
  have y4 : w21.cell? ⟨BY, 4, none⟩ = some (.slice p7 y.args.length c7) := hBY.cell 4
  clear hB2 hBY
  have k1 := Lib.hid (fun w => mkNum_any 6 w)
  have k2 := Lib.hid (fun w => mkName_any amtS w)
  have k3 := Lib.hid (fun w => two_any 10 (leafN 6) (leafS amtS) none none 0 0 0 0 w (.nil _ _) (.nil _ _))
  have k4 := Lib.hid (fun w p c (h1 : ExS w (.slice p7 y.args.length c7) y.args) (h2 : ExS w (.slice p 2 c) awOut.args) => rsame_any h1 y rfl awOut (.slice p 2 c) h2 w (Ext.refl _))
  have k5 := Lib.hid (fun w (h : ExS w (.slice p1 2 c1) awSum.args) => levels_any h awSum rfl w (Ext.refl _) (by decide))
  rw [aw6] at k5
  go_region_held3 (fun w' => w'.cell? ⟨B2, 0, none⟩ = some (.int .i64 12) ∧ w'.cell? ⟨B2, 1, none⟩ = some (.string ⟨#[]⟩) ∧ w'.cell? ⟨B2, 2, none⟩ = some (.string ⟨#[]⟩) ∧ w'.cell? ⟨B2, 3, none⟩ = some (.int .i64 0) ∧ w'.cell? ⟨B2, 4, none⟩ = some (.slice p1 2 c1) ∧ w'.cell? ⟨BY, 0, none⟩ = some (.int .i64 y.op) ∧ w'.cell? ⟨BY, 1, none⟩ = some (.string y.name) ∧ w'.cell? ⟨BY, 2, none⟩ = some (.string y.text) ∧ w'.cell? ⟨BY, 3, none⟩ = some (.int .i64 y.n) ∧ w'.cell? ⟨BY, 4, none⟩ = some (.slice p7 y.args.length c7)) (first | exact ⟨by assumption, by assumption, by assumption, by assumption, by assumption, by assumption, by assumption, by assumption, by assumption, by assumption⟩ | exact ⟨x0, x1, x2, x3, x4, y0, y1, y2, y3, y4⟩) (first | (go_at_call 18; ((refine (k1.out _).mono ?_); rintro e w6 ⟨rfl, hE6⟩; have hS := ext_at hE0 (by first | exact hE6 | exact Ext.undrew hE6); have hE0 := hE0.trans hS; have x0 := hS.get x0; have x1 := hS.get x1; have x2 := hS.get x2; have x3 := hS.get x3; have x4 := hS.get x4; have y0 := hS.get y0; have y1 := hS.get y1; have y2 := hS.get y2; have y3 := hS.get y3; have y4 := hS.get y4; have hX := Lib.hid (hX.out.ext hS); have hY := Lib.hid (hY.out.ext hS); clear hE6 hS)) | (go_at_call 17; ((refine (k2.out _).mono ?_); rintro e w6 ⟨rfl, hE6⟩; have hS := ext_at hE0 (by first | exact hE6 | exact Ext.undrew hE6); have hE0 := hE0.trans hS; have x0 := hS.get x0; have x1 := hS.get x1; have x2 := hS.get x2; have x3 := hS.get x3; have x4 := hS.get x4; have y0 := hS.get y0; have y1 := hS.get y1; have y2 := hS.get y2; have y3 := hS.get y3; have y4 := hS.get y4; have hX := Lib.hid (hX.out.ext hS); have hY := Lib.hid (hY.out.ext hS); clear hE6 hS)) | (go_at_call 16; ((refine (k3.out _).mono ?_); rintro e w6 ⟨p8, c8, rfl, hZ, hE6⟩; replace hZ := Lib.hid hZ; have hS := ext_at hE0 (by first | exact hE6 | exact Ext.undrew hE6); have hE0 := hE0.trans hS; have x0 := hS.get x0; have x1 := hS.get x1; have x2 := hS.get x2; have x3 := hS.get x3; have x4 := hS.get x4; have y0 := hS.get y0; have y1 := hS.get y1; have y2 := hS.get y2; have y3 := hS.get y3; have y4 := hS.get y4; have hX := Lib.hid (hX.out.ext hS); have hY := Lib.hid (hY.out.ext hS); clear hE6 hS)) | (go_at_call 11; ((refine (k4.out _ p8 c8 (by first | exact hY.out | exact hY.out.ext (Ext.refl _).drew) (by first | exact hZ.out | exact hZ.out.ext (Ext.refl _).drew)).mono ?_); rintro e w6 ⟨rfl, hE6⟩; rw [hsm]; have hS := ext_at hE0 (by first | exact hE6 | exact Ext.undrew hE6); have hE0 := hE0.trans hS; have x0 := hS.get x0; have x1 := hS.get x1; have x2 := hS.get x2; have x3 := hS.get x3; have x4 := hS.get x4; have y0 := hS.get y0; have y1 := hS.get y1; have y2 := hS.get y2; have y3 := hS.get y3; have y4 := hS.get y4; have hX := Lib.hid (hX.out.ext hS); have hY := Lib.hid (hY.out.ext hS); clear hE6 hS)) | (go_at_call 21; ((refine (k5.out _ (by first | exact hX.out | exact hX.out.ext (Ext.refl _).drew)).mono ?_); rintro e w6 ⟨rfl, hE6⟩; have hS := ext_at hE0 (by first | exact hE6 | exact Ext.undrew hE6); have hE0 := hE0.trans hS; have x0 := hS.get x0; have x1 := hS.get x1; have x2 := hS.get x2; have x3 := hS.get x3; have x4 := hS.get x4; have y0 := hS.get y0; have y1 := hS.get y1; have y2 := hS.get y2; have y3 := hS.get y3; have y4 := hS.get y4; have hX := Lib.hid (hX.out.ext hS); have hY := Lib.hid (hY.out.ext hS); clear hE6 hS)))
  all_goals go_wp2
  all_goals go_ret
  all_goals exact ⟨rfl, hE0⟩
end Go.Proofs.YtnppbeajemhjeaaGreat
