/- The walk of the law ExprParts (printed by gen/g17.py). -/
import Derived.Test.YtnppbeajemhjeaaGreatGw
import Derived.Test.YtnppbeajemhjeaaGreatGh
import Derived.Test.YtnppbeajemhjeaaGreatEss
import Derived.Test.YtnppbeajemhjeaaGreatEe
import Derived.Test.YtnppbeajemhjeaaGreatEsz
import Derived.Test.YtnppbeajemhjeaaGreatEaw
namespace Go.Proofs.YtnppbeajemhjeaaGreat
open Go.RowKit
set_option maxRecDepth 8000 in
set_option maxHeartbeats 8000000 in
theorem law_parts (x : Ex) (u1 : Value) (y : Ex) (u2 : Value) (w : World) (hX : ExS w u1 x.args) (hox : StrOk [x]) (hY : ExS w u2 y.args) (_ : StrOk [y]) : Calls Tryz.prog 3 #[exAgg x u1, exAgg y u2] w (OneV (.bool true) w) := by
  have hFn : FeatsL w (.slice none 0 0) [] := ⟨by simp, Or.inl ⟨none, 0, rfl, rfl⟩⟩
  have kS1 := Lib.hid (fun w1 (h : Ext w w1) => small_any x (hX.ext h) _ [] (hFn.ext h))
  have kS2 := Lib.hid (fun w1 (h : Ext w w1) => small_any y (hY.ext h) _ [] (hFn.ext h))
  have kW1 := Lib.hid (fun (hp : x.parts.length ≤ 300) w1 (h : Ext w w1) => windows_fn x (hX.ext h) (by omega))
  have kW2 := Lib.hid (fun (hp : x.parts.length ≤ 300) w1 (h : Ext w w1) => rWindows_any x (hX.ext h) (by omega))
  have kN1 := Lib.hid (fun (hp : x.parts.length ≤ 300) w1 (h : Ext w w1) => names_fn x (hX.ext h) (by omega))
  have kN2 := Lib.hid (fun (hp : x.parts.length ≤ 300) w1 (h : Ext w w1) => rNames_any x (hX.ext h) (by omega))
  have kF1 := Lib.hid (fun (hp : x.parts.length ≤ 300) w1 (h : Ext w w1) => Fold_fn x (hX.ext h) (by omega))
  have kF2 := Lib.hid (fun (hp : x.parts.length ≤ 300) w1 (h : Ext w w1) => rFold_any x (hX.ext h) hox (by omega) (by have := levels_parts x; omega))
  have kE1 := Lib.hid (fun w1 (h : Ext w w1) => esame_any hX x rfl y u2 hY w1 h)
  have kE2 := Lib.hid (fun w1 (h : Ext w w1) => rsame_any hX x rfl y u2 hY w1 h)
  have kE3 := Lib.hid (fun w1 (h : Ext w w1) => esame_any hX x rfl x u1 hX w1 h)
  have hfx := Lib.hid (fun (v1 v2 : Value) (w1 : World) (h1 : ExS w1 v1 (foldTop x).args) (h2 : ExS w1 v2 (foldTop x).args) => rsame_any h1 (foldTop x) rfl (foldTop x) v2 h2 w1 (Ext.refl _))
  have hU : ∀ (l : List (List UInt8)) (v1 v2 : Value) (w1 : World), StrsM w1 v1 l → StrsM w1 v2 l → Calls Tryz.prog 8 #[v1, v2] w1 (OneV (.bool true) w1) := fun l v1 v2 w1 h1 h2 => by simpa using sameS_any v1 v2 l l w1 h1 h2
  replace hU := Lib.hid hU
  have hU1 := hU
  rw [same_refl] at kE3 hfx
  obtain ⟨q, cp, rfl⟩ := hX.form
  obtain ⟨q2, cp2, rfl⟩ := hY.form
  generalize x.same y = B at *
  generalize foldTop x = z at *
  generalize uniL x.wins = U at *
  generalize x.long = M at *
  generalize uniL x.occ = UN at *
  obtain ⟨op, nm, tx, n, args⟩ := x
  obtain ⟨op2, nm2, tx2, n2, args2⟩ := y
  simp only [exAgg_mk, Ex.args] at kS1 kS2 kW1 kW2 kN1 kN2 kF1 kF2 kE1 kE2 kE3 ⊢
  unfold exAgg at hfx
  unfold SmPost at kS1 kS2
  unfold WinsP at kW1 kW2
  unfold NamesP at kN1 kN2
  clear hFn hX hY hox
  go_enter Tryz.func3, Tryz.ntmps3
  go_wp2_with fail
  refine (kS1.out _ (by repeat (first | with_reducible exact Ext.refl _ | with_reducible exact hE0 | with_reducible exact hE | with_reducible refine Ext.alloc ?_ _ | with_reducible refine Ext.drewN ?_ _ | with_reducible refine Ext.drew ?_ | ((with_reducible refine Ext.setCell ?_ ?side _); (case side => first | exact Nat.le_refl _ | (simp; done) | (simp; omega)))))).mono ?_
  rintro e w1 ⟨b, rfl, hb, hE1⟩
  have hBx := Lib.hid (((Blk.new w #[.int .i64 op, .string nm, .string tx, .int .i64 n, .slice q args.length cp] 24).alloc (.cells #[.int .i64 op2, .string nm2, .string tx2, .int .i64 n2, .slice q2 args2.length cp2] 24)).ext hE1)
  have hBy0 : Blk ((w.alloc (.cells #[.int .i64 op, .string nm, .string tx, .int .i64 n, .slice q args.length cp] 24)).alloc (.cells #[.int .i64 op2, .string nm2, .string tx2, .int .i64 n2, .slice q2 args2.length cp2] 24)) (w.heap.size + 1) #[.int .i64 op2, .string nm2, .string tx2, .int .i64 n2, .slice q2 args2.length cp2] 24 := Blk.new' _ _ _ _ (by simp)
  have hBy := Lib.hid (hBy0.ext hE1)
  have hE : Ext w w1 := Ext.trans (by repeat (first | with_reducible exact Ext.refl _ | with_reducible exact hE0 | with_reducible exact hE | with_reducible refine Ext.alloc ?_ _ | with_reducible refine Ext.drewN ?_ _ | with_reducible refine Ext.drew ?_ | ((with_reducible refine Ext.setCell ?_ ?side _); (case side => first | exact Nat.le_refl _ | (simp; done) | (simp; omega))))) hE1
  clear hE1 kS1 hBy0
  cases b with
  | false =>
    clear hb
    go_wp2_with fail
    refine (awake_any _).mono ?_
    rintro e w2 ⟨rfl, hE9⟩
    replace hE := hE.trans hE9
    go_wp2
    go_ret
    exact ⟨rfl, hE⟩
  | true =>
    have hp := (hb rfl).1
    clear hb
    have x0 : w1.cell? ⟨w.heap.size, 0, none⟩ = some (.int .i64 op) := (hBx.out.cell 0).trans rfl
    have x1 : w1.cell? ⟨w.heap.size, 1, none⟩ = some (.string nm) := (hBx.out.cell 1).trans rfl
    have x2 : w1.cell? ⟨w.heap.size, 2, none⟩ = some (.string tx) := (hBx.out.cell 2).trans rfl
    have x3 : w1.cell? ⟨w.heap.size, 3, none⟩ = some (.int .i64 n) := (hBx.out.cell 3).trans rfl
    have x4 : w1.cell? ⟨w.heap.size, 4, none⟩ = some (.slice q args.length cp) := (hBx.out.cell 4).trans rfl
    have y0 : w1.cell? ⟨w.heap.size + 1, 0, none⟩ = some (.int .i64 op2) := (hBy.out.cell 0).trans rfl
    have y1 : w1.cell? ⟨w.heap.size + 1, 1, none⟩ = some (.string nm2) := (hBy.out.cell 1).trans rfl
    have y2 : w1.cell? ⟨w.heap.size + 1, 2, none⟩ = some (.string tx2) := (hBy.out.cell 2).trans rfl
    have y3 : w1.cell? ⟨w.heap.size + 1, 3, none⟩ = some (.int .i64 n2) := (hBy.out.cell 3).trans rfl
    have y4 : w1.cell? ⟨w.heap.size + 1, 4, none⟩ = some (.slice q2 args2.length cp2) := (hBy.out.cell 4).trans rfl
    go_wp2_with fail
    refine (kS2.out _ hE).mono ?_
    rintro e w2 ⟨b, rfl, hb, hE2⟩
    replace hBx := Lib.hid (hBx.out.ext hE2)
    replace hBy := Lib.hid (hBy.out.ext hE2)
    replace hE := hE.trans hE2
    clear hE2 kS2 x0 x1 x2 x3 x4 y0 y1 y2 y3 y4
    cases b with
    | false =>
      clear hb
      go_wp2_with fail
      refine (awake_any _).mono ?_
      rintro e w3 ⟨rfl, hE9⟩
      replace hE := hE.trans hE9
      go_wp2
      go_ret
      exact ⟨rfl, hE⟩
    | true =>
      clear hb
      replace kW1 := Lib.hid (kW1.out hp)
      replace kW2 := Lib.hid (kW2.out hp)
      replace kN1 := Lib.hid (kN1.out hp)
      replace kN2 := Lib.hid (kN2.out hp)
      replace kF1 := Lib.hid (kF1.out hp)
      replace kF2 := Lib.hid (kF2.out hp)
      clear hp
      have x0 : w2.cell? ⟨w.heap.size, 0, none⟩ = some (.int .i64 op) := (hBx.out.cell 0).trans rfl
      have x1 : w2.cell? ⟨w.heap.size, 1, none⟩ = some (.string nm) := (hBx.out.cell 1).trans rfl
      have x2 : w2.cell? ⟨w.heap.size, 2, none⟩ = some (.string tx) := (hBx.out.cell 2).trans rfl
      have x3 : w2.cell? ⟨w.heap.size, 3, none⟩ = some (.int .i64 n) := (hBx.out.cell 3).trans rfl
      have x4 : w2.cell? ⟨w.heap.size, 4, none⟩ = some (.slice q args.length cp) := (hBx.out.cell 4).trans rfl
      have y0 : w2.cell? ⟨w.heap.size + 1, 0, none⟩ = some (.int .i64 op2) := (hBy.out.cell 0).trans rfl
      have y1 : w2.cell? ⟨w.heap.size + 1, 1, none⟩ = some (.string nm2) := (hBy.out.cell 1).trans rfl
      have y2 : w2.cell? ⟨w.heap.size + 1, 2, none⟩ = some (.string tx2) := (hBy.out.cell 2).trans rfl
      have y3 : w2.cell? ⟨w.heap.size + 1, 3, none⟩ = some (.int .i64 n2) := (hBy.out.cell 3).trans rfl
      have y4 : w2.cell? ⟨w.heap.size + 1, 4, none⟩ = some (.slice q2 args2.length cp2) := (hBy.out.cell 4).trans rfl
      go_wp2_with fail
      refine (kW1.out _ hE).mono ?_
      rintro e w3 ⟨v1, rfl, hs1, hE3⟩
      replace hs1 := Lib.hid hs1
      replace hBx := Lib.hid (hBx.out.ext hE3)
      replace hBy := Lib.hid (hBy.out.ext hE3)
      replace hE := hE.trans hE3
      clear hE3 kW1 x0 x1 x2 x3 x4 y0 y1 y2 y3 y4
      have x0 : w3.cell? ⟨w.heap.size, 0, none⟩ = some (.int .i64 op) := (hBx.out.cell 0).trans rfl
      have x1 : w3.cell? ⟨w.heap.size, 1, none⟩ = some (.string nm) := (hBx.out.cell 1).trans rfl
      have x2 : w3.cell? ⟨w.heap.size, 2, none⟩ = some (.string tx) := (hBx.out.cell 2).trans rfl
      have x3 : w3.cell? ⟨w.heap.size, 3, none⟩ = some (.int .i64 n) := (hBx.out.cell 3).trans rfl
      have x4 : w3.cell? ⟨w.heap.size, 4, none⟩ = some (.slice q args.length cp) := (hBx.out.cell 4).trans rfl
      have y0 : w3.cell? ⟨w.heap.size + 1, 0, none⟩ = some (.int .i64 op2) := (hBy.out.cell 0).trans rfl
      have y1 : w3.cell? ⟨w.heap.size + 1, 1, none⟩ = some (.string nm2) := (hBy.out.cell 1).trans rfl
      have y2 : w3.cell? ⟨w.heap.size + 1, 2, none⟩ = some (.string tx2) := (hBy.out.cell 2).trans rfl
      have y3 : w3.cell? ⟨w.heap.size + 1, 3, none⟩ = some (.int .i64 n2) := (hBy.out.cell 3).trans rfl
      have y4 : w3.cell? ⟨w.heap.size + 1, 4, none⟩ = some (.slice q2 args2.length cp2) := (hBy.out.cell 4).trans rfl
      go_wp2_with fail
      refine (kW2.out _ hE).mono ?_
      rintro e w4 ⟨v2, rfl, hs2, hE4⟩
      replace hs1 := Lib.hid (hs1.out.ext hE4)
      replace hs2 := Lib.hid hs2
      replace hBx := Lib.hid (hBx.out.ext hE4)
      replace hBy := Lib.hid (hBy.out.ext hE4)
      replace hE := hE.trans hE4
      clear hE4 kW2 x0 x1 x2 x3 x4 y0 y1 y2 y3 y4
      have x0 : w4.cell? ⟨w.heap.size, 0, none⟩ = some (.int .i64 op) := (hBx.out.cell 0).trans rfl
      have x1 : w4.cell? ⟨w.heap.size, 1, none⟩ = some (.string nm) := (hBx.out.cell 1).trans rfl
      have x2 : w4.cell? ⟨w.heap.size, 2, none⟩ = some (.string tx) := (hBx.out.cell 2).trans rfl
      have x3 : w4.cell? ⟨w.heap.size, 3, none⟩ = some (.int .i64 n) := (hBx.out.cell 3).trans rfl
      have x4 : w4.cell? ⟨w.heap.size, 4, none⟩ = some (.slice q args.length cp) := (hBx.out.cell 4).trans rfl
      have y0 : w4.cell? ⟨w.heap.size + 1, 0, none⟩ = some (.int .i64 op2) := (hBy.out.cell 0).trans rfl
      have y1 : w4.cell? ⟨w.heap.size + 1, 1, none⟩ = some (.string nm2) := (hBy.out.cell 1).trans rfl
      have y2 : w4.cell? ⟨w.heap.size + 1, 2, none⟩ = some (.string tx2) := (hBy.out.cell 2).trans rfl
      have y3 : w4.cell? ⟨w.heap.size + 1, 3, none⟩ = some (.int .i64 n2) := (hBy.out.cell 3).trans rfl
      have y4 : w4.cell? ⟨w.heap.size + 1, 4, none⟩ = some (.slice q2 args2.length cp2) := (hBy.out.cell 4).trans rfl
      clear hBx hBy
      have eB : (B == B) = true := by simp
      have eM : (M == M) = true := by simp
      go_wp2_with fail
      go_region_held3 (fun w' => w'.cell? ⟨w.heap.size, 0, none⟩ = some (.int .i64 op) ∧ w'.cell? ⟨w.heap.size, 1, none⟩ = some (.string nm) ∧ w'.cell? ⟨w.heap.size, 2, none⟩ = some (.string tx) ∧ w'.cell? ⟨w.heap.size, 3, none⟩ = some (.int .i64 n) ∧ w'.cell? ⟨w.heap.size, 4, none⟩ = some (.slice q args.length cp) ∧ w'.cell? ⟨w.heap.size + 1, 0, none⟩ = some (.int .i64 op2) ∧ w'.cell? ⟨w.heap.size + 1, 1, none⟩ = some (.string nm2) ∧ w'.cell? ⟨w.heap.size + 1, 2, none⟩ = some (.string tx2) ∧ w'.cell? ⟨w.heap.size + 1, 3, none⟩ = some (.int .i64 n2) ∧ w'.cell? ⟨w.heap.size + 1, 4, none⟩ = some (.slice q2 args2.length cp2)) (first | exact ⟨x0, x1, x2, x3, x4, y0, y1, y2, y3, y4⟩ | exact ⟨by assumption, by assumption, by assumption, by assumption, by assumption, by assumption, by assumption, by assumption, by assumption, by assumption⟩) (first | (go_at_call 9; refine (kN1.out _ (by first | exact hE | exact hE.drew)).mono ?_; rintro e w6 ⟨n1, rfl, hn1, hE6⟩; have hS := exAtW hE (by first | exact hE6 | exact unDrW hE6); have hE := hE.trans hS; have x0 := hS.get x0; have x1 := hS.get x1; have x2 := hS.get x2; have x3 := hS.get x3; have x4 := hS.get x4; have y0 := hS.get y0; have y1 := hS.get y1; have y2 := hS.get y2; have y3 := hS.get y3; have y4 := hS.get y4; have hn1 := Lib.hid hn1; try have hs1 := Lib.hid (hs1.out.ext hS); try have hs2 := Lib.hid (hs2.out.ext hS); clear hE6 hS) | (go_at_call 10; refine (kN2.out _ (by first | exact hE | exact hE.drew)).mono ?_; rintro e w6 ⟨n2, rfl, hn2, hE6⟩; have hS := exAtW hE (by first | exact hE6 | exact unDrW hE6); have hE := hE.trans hS; have x0 := hS.get x0; have x1 := hS.get x1; have x2 := hS.get x2; have x3 := hS.get x3; have x4 := hS.get x4; have y0 := hS.get y0; have y1 := hS.get y1; have y2 := hS.get y2; have y3 := hS.get y3; have y4 := hS.get y4; have hn2 := Lib.hid hn2; try have hs1 := Lib.hid (hs1.out.ext hS); try have hs2 := Lib.hid (hs2.out.ext hS); try have hn1 := Lib.hid (hn1.out.ext hS); clear hE6 hS) | (go_at_call 8; first | (refine (hU1.out _ n1 n2 _ (by first | exact hn1.out | exact hn1.out.ext (Ext.refl _).drew) (by first | exact hn2.out | exact hn2.out.ext (Ext.refl _).drew)).mono ?_; rintro e w6 ⟨rfl, hE6⟩; have hS := exAtW hE (by first | exact hE6 | exact unDrW hE6); have hE := hE.trans hS; have x0 := hS.get x0; have x1 := hS.get x1; have x2 := hS.get x2; have x3 := hS.get x3; have x4 := hS.get x4; have y0 := hS.get y0; have y1 := hS.get y1; have y2 := hS.get y2; have y3 := hS.get y3; have y4 := hS.get y4; try have hs1 := Lib.hid (hs1.out.ext hS); try have hs2 := Lib.hid (hs2.out.ext hS); try have hn1 := Lib.hid (hn1.out.ext hS); try have hn2 := Lib.hid (hn2.out.ext hS); clear hE6 hS hU1) | (refine (hU.out _ v1 v2 _ (by first | exact hs1.out | exact hs1.out.ext (Ext.refl _).drew) (by first | exact hs2.out | exact hs2.out.ext (Ext.refl _).drew)).mono ?_; rintro e w6 ⟨rfl, hE6⟩; have hS := exAtW hE (by first | exact hE6 | exact unDrW hE6); have hE := hE.trans hS; have x0 := hS.get x0; have x1 := hS.get x1; have x2 := hS.get x2; have x3 := hS.get x3; have x4 := hS.get x4; have y0 := hS.get y0; have y1 := hS.get y1; have y2 := hS.get y2; have y3 := hS.get y3; have y4 := hS.get y4; try have hs1 := Lib.hid (hs1.out.ext hS); try have hs2 := Lib.hid (hs2.out.ext hS); try have hn1 := Lib.hid (hn1.out.ext hS); try have hn2 := Lib.hid (hn2.out.ext hS); clear hE6 hS)) | (go_at_call 12; refine (kF1.out _ (by first | exact hE | exact hE.drew)).mono ?_; rintro e w6 ⟨p5, c5, rfl, hf1, hE6⟩; have hS := exAtW hE (by first | exact hE6 | exact unDrW hE6); have hE := hE.trans hS; have x0 := hS.get x0; have x1 := hS.get x1; have x2 := hS.get x2; have x3 := hS.get x3; have x4 := hS.get x4; have y0 := hS.get y0; have y1 := hS.get y1; have y2 := hS.get y2; have y3 := hS.get y3; have y4 := hS.get y4; have hf1 := Lib.hid hf1.toS; try have hs1 := Lib.hid (hs1.out.ext hS); try have hs2 := Lib.hid (hs2.out.ext hS); try have hn1 := Lib.hid (hn1.out.ext hS); try have hn2 := Lib.hid (hn2.out.ext hS); clear hE6 hS) | (go_at_call 13; refine (kF2.out _ (by first | exact hE | exact hE.drew)).mono ?_; rintro e w6 ⟨p6, c6, rfl, hf2, hE6⟩; have hS := exAtW hE (by first | exact hE6 | exact unDrW hE6); have hE := hE.trans hS; have x0 := hS.get x0; have x1 := hS.get x1; have x2 := hS.get x2; have x3 := hS.get x3; have x4 := hS.get x4; have y0 := hS.get y0; have y1 := hS.get y1; have y2 := hS.get y2; have y3 := hS.get y3; have y4 := hS.get y4; have hf2 := Lib.hid hf2; try have hs1 := Lib.hid (hs1.out.ext hS); try have hs2 := Lib.hid (hs2.out.ext hS); try have hn1 := Lib.hid (hn1.out.ext hS); try have hn2 := Lib.hid (hn2.out.ext hS); try have hf1 := Lib.hid (hf1.out.ext hS); clear hE6 hS) | (go_at_call 11; first | (refine (hfx.out _ _ _ (by first | exact hf1.out | exact hf1.out.ext (Ext.refl _).drew) (by first | exact hf2.out | exact hf2.out.ext (Ext.refl _).drew)).mono ?_; rintro e w6 ⟨rfl, hE6⟩; have hS := exAtW hE (by first | exact hE6 | exact unDrW hE6); have hE := hE.trans hS; have x0 := hS.get x0; have x1 := hS.get x1; have x2 := hS.get x2; have x3 := hS.get x3; have x4 := hS.get x4; have y0 := hS.get y0; have y1 := hS.get y1; have y2 := hS.get y2; have y3 := hS.get y3; have y4 := hS.get y4; try have hs1 := Lib.hid (hs1.out.ext hS); try have hs2 := Lib.hid (hs2.out.ext hS); try have hn1 := Lib.hid (hn1.out.ext hS); try have hn2 := Lib.hid (hn2.out.ext hS); try have hf1 := Lib.hid (hf1.out.ext hS); try have hf2 := Lib.hid (hf2.out.ext hS); clear hE6 hS hfx) | (refine (kE2.out _ (by first | exact hE | exact hE.drew)).mono ?_; rintro e w6 ⟨rfl, hE6⟩; have hS := exAtW hE (by first | exact hE6 | exact unDrW hE6); have hE := hE.trans hS; have x0 := hS.get x0; have x1 := hS.get x1; have x2 := hS.get x2; have x3 := hS.get x3; have x4 := hS.get x4; have y0 := hS.get y0; have y1 := hS.get y1; have y2 := hS.get y2; have y3 := hS.get y3; have y4 := hS.get y4; try have hs1 := Lib.hid (hs1.out.ext hS); try have hs2 := Lib.hid (hs2.out.ext hS); try have hn1 := Lib.hid (hn1.out.ext hS); try have hn2 := Lib.hid (hn2.out.ext hS); try have hf1 := Lib.hid (hf1.out.ext hS); try have hf2 := Lib.hid (hf2.out.ext hS); clear hE6 hS)) | (go_at_call 14; first | (refine (kE1.out _ (by first | exact hE | exact hE.drew)).mono ?_; rintro e w6 ⟨rfl, hE6⟩; have hS := exAtW hE (by first | exact hE6 | exact unDrW hE6); have hE := hE.trans hS; have x0 := hS.get x0; have x1 := hS.get x1; have x2 := hS.get x2; have x3 := hS.get x3; have x4 := hS.get x4; have y0 := hS.get y0; have y1 := hS.get y1; have y2 := hS.get y2; have y3 := hS.get y3; have y4 := hS.get y4; try have hs1 := Lib.hid (hs1.out.ext hS); try have hs2 := Lib.hid (hs2.out.ext hS); try have hn1 := Lib.hid (hn1.out.ext hS); try have hn2 := Lib.hid (hn2.out.ext hS); try have hf1 := Lib.hid (hf1.out.ext hS); try have hf2 := Lib.hid (hf2.out.ext hS); clear hE6 hS kE1) | (refine (kE3.out _ (by first | exact hE | exact hE.drew)).mono ?_; rintro e w6 ⟨rfl, hE6⟩; have hS := exAtW hE (by first | exact hE6 | exact unDrW hE6); have hE := hE.trans hS; have x0 := hS.get x0; have x1 := hS.get x1; have x2 := hS.get x2; have x3 := hS.get x3; have x4 := hS.get x4; have y0 := hS.get y0; have y1 := hS.get y1; have y2 := hS.get y2; have y3 := hS.get y3; have y4 := hS.get y4; try have hs1 := Lib.hid (hs1.out.ext hS); try have hs2 := Lib.hid (hs2.out.ext hS); try have hn1 := Lib.hid (hn1.out.ext hS); try have hn2 := Lib.hid (hn2.out.ext hS); try have hf1 := Lib.hid (hf1.out.ext hS); try have hf2 := Lib.hid (hf2.out.ext hS); clear hE6 hS)) | (go_at_call 5; refine (awake_any _).mono ?_; rintro e w6 ⟨rfl, hE6⟩; have hS := exAtW hE (by first | exact hE6 | exact unDrW hE6); have hE := hE.trans hS; have x0 := hS.get x0; have x1 := hS.get x1; have x2 := hS.get x2; have x3 := hS.get x3; have x4 := hS.get x4; have y0 := hS.get y0; have y1 := hS.get y1; have y2 := hS.get y2; have y3 := hS.get y3; have y4 := hS.get y4; clear hE6 hS))
      all_goals go_wp2
      all_goals go_ret
      all_goals exact ⟨rfl, hE⟩
end Go.Proofs.YtnppbeajemhjeaaGreat
