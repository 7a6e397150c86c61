/- Fee tables and records among the arguments. -/
import Derived.Test.YtmnhmkjmcckneaaGreatDoorFor
import Derived.Test.YtmnhmkjmcckneaaGreatDoorHq
namespace Go.Proofs.YtmnhmkjmcckneaaGreatDoor
open Go.ChangeShapes Go.WideShapes Go.ChangeAt Go.WideMaps Go.WideElems Go.RowKit
theorem cRusE : Tryz.prog.cellsOf 22 = 1 := by kernel_rfl
theorem cTabE : Tryz.prog.cellsOf 24 = 3 := by kernel_rfl
theorem tabFields : ∃ f0 f1 f2 : Field, Tryz.prog.underlying 24 = some (.struct #[f0, f1, f2]) ∧ (f0.offset = 0 ∧ f1.offset = 1 ∧ f2.offset = 2) ∧ f0.type = 22 ∧ f1.type = 22 ∧ f2.type = 22 := ⟨_, _, _, Tryz.underlying24, ⟨rfl, rfl, rfl⟩, rfl, rfl, rfl⟩
theorem cRecE : Tryz.prog.cellsOf 28 = 12 := by kernel_rfl
theorem cMonE : Tryz.prog.cellsOf 26 = 2 := by kernel_rfl
theorem cBooE : Tryz.prog.cellsOf 4 = 1 := by kernel_rfl
theorem recFields : ∃ f0 f1 f2 f3 f4 f5 f6 f7 f8 f9 f10 : Field, Tryz.prog.underlying 28 = some (.struct #[f0, f1, f2, f3, f4, f5, f6, f7, f8, f9, f10]) ∧ (f0.offset = 0 ∧ f1.offset = 1 ∧ f2.offset = 2 ∧ f3.offset = 3 ∧ f4.offset = 4 ∧ f5.offset = 5 ∧ f6.offset = 6 ∧ f7.offset = 7 ∧ f8.offset = 9 ∧ f9.offset = 10 ∧ f10.offset = 11) ∧ f0.type = 3 ∧ f1.type = 9 ∧ f2.type = 9 ∧ f3.type = 9 ∧ f4.type = 9 ∧ f5.type = 9 ∧ f6.type = 9 ∧ f7.type = 26 ∧ f8.type = 3 ∧ f9.type = 3 ∧ f10.type = 4 := ⟨_, _, _, _, _, _, _, _, _, _, _, Tryz.underlying28, ⟨rfl, rfl, rfl, rfl, rfl, rfl, rfl, rfl, rfl, rfl, rfl⟩, rfl, rfl, rfl, rfl, rfl, rfl, rfl, rfl, rfl, rfl, rfl⟩
theorem monFields : ∃ f0 f1 : Field, Tryz.prog.underlying 26 = some (.struct #[f0, f1]) ∧ (f0.offset = 0 ∧ f1.offset = 1) ∧ f0.type = 2 ∧ f1.type = 9 := ⟨_, _, Tryz.underlying26, ⟨rfl, rfl⟩, rfl, rfl⟩
section
variable {H : Type} {enc : TypeId × Value → H} {W : World} {base : Nat} {sp : Nat → Bool} {held : Bool}
theorem open_rules_cells {k : Nat} {v : Value} {x : DataW H × List MemPlace} (h : DataW.trod enc Tryz.prog W base sp held k 22 [v] = some x) (hw : InReach 22 x.1) : ∃ l, RulesM W v l := by
 have hc : v.cells.toList = [v] := by
  rcases DataW.trod_slice Tryz.underlying22 h with ⟨h0, -⟩ | ⟨a, len, cap, elems, rest, n, rfl, h0, -⟩
  · obtain rfl : v = _ := by simpa using h0
    simp [Value.cells]
  · obtain rfl : v = _ := by simpa using h0
    simp [Value.cells]
 obtain ⟨x1, x2⟩ := x
 obtain ⟨l, hl, -⟩ := open_rules (p := x2) hc ⟨k, by rw [hc]; exact h⟩ hw
 exact ⟨l, hl⟩
set_option maxRecDepth 8000 in
theorem open_tabs {r : Reach} {b0 : Nat} {v : Value} {d : DataW H} {p : List MemPlace} (hv : Value.okWide Tryz.prog W r b0 24 v) (h : DataW.Trod enc Tryz.prog W base sp held 24 v d p) (hw : InReach 24 d) : ∃ x : TabsD, TabsM W v x := by
 obtain ⟨f0, f1, f2, hu, ⟨o0, o1, o2⟩, t0, t1, t2⟩ := tabFields
 obtain ⟨cs, rfl, hsz⟩ := okWide_struct hu hv
 obtain ⟨fuel, hf⟩ := h
 obtain ⟨xs, k, hkn, hxe, -, hxl, hf⟩ := DataW.trod_struct hu hf
 simp only [Prod.mk.injEq] at hxe
 rw [hxe.1] at hw
 rw [cTabE] at hsz
 obtain ⟨cl⟩ := cs
 have hl3 : cl.length = 3 := hsz
 match cl, hl3, xs, hxl with
 | [v0, v1, v2], _, [y0, y1, y2], _ =>
  have w0 := reach_struct hu hw 0 f0 y0.1 rfl rfl
  have w1 := reach_struct hu hw 1 f1 y1.1 rfl rfl
  have w2 := reach_struct hu hw 2 f2 y2.1 rfl rfl
  rw [t0] at w0
  rw [t1] at w1
  rw [t2] at w2
  have g0 := hf 0 f0 rfl
  have g1 := hf 1 f1 rfl
  have g2 := hf 2 f2 rfl
  rw [o0, t0, cRusE] at g0
  rw [o1, t1, cRusE] at g1
  rw [o2, t2, cRusE] at g2
  simp only [Value.cells, List.drop_zero, List.drop_succ_cons, List.take_succ_cons, List.take_zero, List.getElem?_cons_zero, List.getElem?_cons_succ] at g0 g1 g2
  obtain ⟨l0, h0⟩ := open_rules_cells g0 w0
  obtain ⟨l1, h1⟩ := open_rules_cells g1 w1
  obtain ⟨l2, h2⟩ := open_rules_cells g2 w2
  exact ⟨⟨l0, l1, l2⟩, v0, v1, v2, rfl, h0, h1, h2⟩
theorem i64_of {n : Int} (h : (Lit.int .i64 n).wf = true) : I64 n := bounds_i64 h
theorem open_mon_cells {k : Nat} {v0 v1 : Value} {x : DataW H × List MemPlace} (h : DataW.trod enc Tryz.prog W base sp held k 26 [v0, v1] = some x) : ∃ (n : Int) (s : ByteArray), v0 = .int .i64 n ∧ v1 = .string s ∧ I64 n := by
 obtain ⟨f0, f1, hu, ⟨o0, o1⟩, t0, t1⟩ := monFields
 obtain ⟨xs, n, hkn, hxe, -, hxl, hf⟩ := DataW.trod_struct hu h
 match xs, hxl with
 | [y0, y1], _ =>
  have g0 := hf 0 f0 rfl
  have g1 := hf 1 f1 rfl
  rw [o0, t0, cI64E] at g0
  rw [o1, t1, cStrE] at g1
  simp only [List.drop_zero, List.drop_succ_cons, List.take_succ_cons, List.take_zero, List.getElem?_cons_zero, List.getElem?_cons_succ] at g0 g1
  obtain ⟨m0, q0, -, k0⟩ := DataW.trod_int Tryz.underlying2 g0
  obtain ⟨m1, q1, -, -⟩ := DataW.trod_string Tryz.underlying9 g1
  simp only [List.cons.injEq, and_true] at q0 q1
  exact ⟨m0, m1, q0, q1, i64_of k0⟩
set_option maxRecDepth 8000 in
theorem open_rec {r : Reach} {b0 : Nat} {v : Value} {d : DataW H} {p : List MemPlace} (hv : Value.okWide Tryz.prog W r b0 28 v) (h : DataW.Trod enc Tryz.prog W base sp held 28 v d p) : ∃ x : RecD, v = recAgg x ∧ RecI x := by
 obtain ⟨f0, f1, f2, f3, f4, f5, f6, f7, f8, f9, f10, hu, ⟨o0, o1, o2, o3, o4, o5, o6, o7, o8, o9, o10⟩, t0, t1, t2, t3, t4, t5, t6, t7, t8, t9, t10⟩ := recFields
 obtain ⟨cs, rfl, hsz⟩ := okWide_struct hu hv
 obtain ⟨fuel, hf⟩ := h
 obtain ⟨xs, k, hkn, hxe, -, hxl, hf⟩ := DataW.trod_struct hu hf
 rw [cRecE] at hsz
 obtain ⟨cl⟩ := cs
 have hl12 : cl.length = 12 := hsz
 match cl, hl12, xs, hxl with
 | [v0, v1, v2, v3, v4, v5, v6, v7, v8, v9, v10, v11], _, [y0, y1, y2, y3, y4, y5, y6, y7, y8, y9, y10], _ =>
  have g0 := hf 0 f0 rfl
  have g1 := hf 1 f1 rfl
  have g2 := hf 2 f2 rfl
  have g3 := hf 3 f3 rfl
  have g4 := hf 4 f4 rfl
  have g5 := hf 5 f5 rfl
  have g6 := hf 6 f6 rfl
  have g7 := hf 7 f7 rfl
  have g8 := hf 8 f8 rfl
  have g9 := hf 9 f9 rfl
  have g10 := hf 10 f10 rfl
  rw [o0, t0, cIntE] at g0
  rw [o1, t1, cStrE] at g1
  rw [o2, t2, cStrE] at g2
  rw [o3, t3, cStrE] at g3
  rw [o4, t4, cStrE] at g4
  rw [o5, t5, cStrE] at g5
  rw [o6, t6, cStrE] at g6
  rw [o7, t7, cMonE] at g7
  rw [o8, t8, cIntE] at g8
  rw [o9, t9, cIntE] at g9
  rw [o10, t10, cBooE] at g10
  simp only [Value.cells, List.drop_zero, List.drop_succ_cons, List.take_succ_cons, List.take_zero, List.getElem?_cons_zero, List.getElem?_cons_succ] at g0 g1 g2 g3 g4 g5 g6 g7 g8 g9 g10
  obtain ⟨m0, q0, -, k0⟩ := DataW.trod_int Tryz.underlying3 g0
  obtain ⟨m1, q1, -, -⟩ := DataW.trod_string Tryz.underlying9 g1
  obtain ⟨m2, q2, -, -⟩ := DataW.trod_string Tryz.underlying9 g2
  obtain ⟨m3, q3, -, -⟩ := DataW.trod_string Tryz.underlying9 g3
  obtain ⟨m4, q4, -, -⟩ := DataW.trod_string Tryz.underlying9 g4
  obtain ⟨m5, q5, -, -⟩ := DataW.trod_string Tryz.underlying9 g5
  obtain ⟨m6, q6, -, -⟩ := DataW.trod_string Tryz.underlying9 g6
  obtain ⟨m7, m8, q7, q8, k7⟩ := open_mon_cells g7
  obtain ⟨m9, q9, -, k9⟩ := DataW.trod_int Tryz.underlying3 g8
  obtain ⟨m10, q10, -, k10⟩ := DataW.trod_int Tryz.underlying3 g9
  obtain ⟨m11, q11, -⟩ := DataW.trod_bool Tryz.underlying4 g10
  simp only [List.cons.injEq, and_true] at q0 q1 q2 q3 q4 q5 q6 q9 q10 q11
  exact ⟨⟨m0, m1, m2, m3, m4, m5, m6, m7, m8, m9, m10, m11⟩, by rw [q0, q1, q2, q3, q4, q5, q6, q7, q8, q9, q10, q11]; rfl, ⟨i64_of k0, k7, i64_of k9, i64_of k10⟩⟩
end
section
variable {H : Type} {enc : TypeId × Value → H} {W W' : World} {sp : Nat → Bool}
set_option maxRecDepth 100000 in
theorem shut_tabs {v : Value} {d : DataW H} {p : List MemPlace} (h : DataW.Trod enc Tryz.prog W 0 (fun _ => true) true 24 v d p) (hE : Ext W W') (hlt : ∀ x ∈ p, x.block < W.heap.size) (hsp : ∀ x ∈ p, sp x.block = true) :
 DataW.Trod enc Tryz.prog W' 0 sp true 24 v d p :=
 Trod_stays laidB (by kernel_rfl) (of_decide_eq_true (by kernel_rfl)) h (fun x hx => hE.below.same (hlt x hx)) hsp
set_option maxRecDepth 100000 in
theorem shut_rec {v : Value} {d : DataW H} {p : List MemPlace} (h : DataW.Trod enc Tryz.prog W 0 (fun _ => true) true 28 v d p) (hE : Ext W W') (hlt : ∀ x ∈ p, x.block < W.heap.size) (hsp : ∀ x ∈ p, sp x.block = true) :
 DataW.Trod enc Tryz.prog W' 0 sp true 28 v d p :=
 Trod_stays laidB (by kernel_rfl) (of_decide_eq_true (by kernel_rfl)) h (fun x hx => hE.below.same (hlt x hx)) hsp
end
end Go.Proofs.YtmnhmkjmcckneaaGreatDoor
