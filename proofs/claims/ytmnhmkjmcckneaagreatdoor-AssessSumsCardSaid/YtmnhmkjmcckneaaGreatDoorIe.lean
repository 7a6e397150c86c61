/- Lists of results among the arguments (printed by gen/h19.py). -/
import Derived.Test.YtmnhmkjmcckneaaGreatDoorHopn
import Derived.Test.YtmnhmkjmcckneaaGreatDoorHo
namespace Go.Proofs.YtmnhmkjmcckneaaGreatDoor
open Go.ChangeShapes Go.WideShapes Go.ChangeAt Go.WideMaps Go.WideElems Go.RowKit
instance : Inhabited ResD := ⟨resD⟩
theorem cResE : Tryz.prog.cellsOf 35 = 14 := by kernel_rfl
theorem bResE : Tryz.prog.bytesOf 35 = 160 := by kernel_rfl
theorem cLinE : Tryz.prog.cellsOf 33 = 3 := by kernel_rfl
theorem linFields : ∃ f0 f1 f2 : Field, Tryz.prog.underlying 33 = some (.struct #[f0, f1, f2]) ∧ (f0.offset = 0 ∧ f1.offset = 1 ∧ f2.offset = 2) ∧ f0.type = 9 ∧ f1.type = 2 ∧ f2.type = 9 := ⟨_, _, _, Tryz.underlying33, ⟨rfl, rfl, rfl⟩, rfl, rfl, rfl⟩
set_option maxRecDepth 8000 in
theorem resFields : ∃ f0 f1 f2 f3 f4 f5 f6 f7 : Field, Tryz.prog.underlying 35 = some (.struct #[f0, f1, f2, f3, f4, f5, f6, f7]) ∧ (f0.offset = 0 ∧ f1.offset = 3 ∧ f2.offset = 6 ∧ f3.offset = 9 ∧ f4.offset = 10 ∧ f5.offset = 11 ∧ f6.offset = 12 ∧ f7.offset = 13) ∧ f0.type = 33 ∧ f1.type = 33 ∧ f2.type = 33 ∧ f3.type = 2 ∧ f4.type = 2 ∧ f5.type = 2 ∧ f6.type = 2 ∧ f7.type = 2 := ⟨_, _, _, _, _, _, _, _, Tryz.underlying35, ⟨rfl, rfl, rfl, rfl, rfl, rfl, rfl, rfl⟩, rfl, rfl, rfl, rfl, rfl, rfl, rfl, rfl⟩
/-- The bounds of a result that came in. -/
def ResB (x : ResD) : Prop := (x.i.rule.size ≤ 140737488355328 ∧ x.i.why.size ≤ 140737488355328 ∧ x.s.rule.size ≤ 140737488355328 ∧ x.s.why.size ≤ 140737488355328 ∧ x.m.rule.size ≤ 140737488355328 ∧ x.m.why.size ≤ 140737488355328) ∧ I64 x.i.amt ∧ I64 x.s.amt ∧ I64 x.m.amt ∧ I64 x.card ∧ I64 x.iss ∧ I64 x.acq ∧ I64 x.shop ∧ I64 x.net
section
variable {H : Type} {enc : TypeId × Value → H} {W : World} {base : Nat} {sp : Nat → Bool} {held : Bool}
set_option maxRecDepth 8000 in
theorem open_line_cells {k : Nat} {v0 v1 v2 : Value} {x : DataW H × List MemPlace} (h : DataW.trod enc Tryz.prog W base sp held k 33 [v0, v1, v2] = some x) (hw : InReach 33 x.1) : ∃ y : LineD, v0 = .string y.rule ∧ v1 = .int .i64 y.amt ∧ v2 = .string y.why ∧ y.rule.size ≤ 140737488355328 ∧ y.why.size ≤ 140737488355328 ∧ I64 y.amt := by
  obtain ⟨f0, f1, f2, hu, ⟨o0, o1, o2⟩, t0, t1, t2⟩ := linFields
  obtain ⟨xs, n, hkn, hxe, -, hxl, hf⟩ := DataW.trod_struct hu h
  rw [hxe] at hw
  match xs, hxl with
  | [y0, y1, y2], _ =>
    have w0 := reach_struct hu hw 0 f0 y0.1 rfl rfl
    have w2 := reach_struct hu hw 2 f2 y2.1 rfl rfl
    have g0 := hf 0 f0 rfl
    have g1 := hf 1 f1 rfl
    have g2 := hf 2 f2 rfl
    rw [o0, t0, cStrE] at g0
    rw [o1, t1, cI64E] at g1
    rw [o2, t2, cStrE] at g2
    simp only [List.drop_zero, List.drop_succ_cons, List.take_succ_cons, List.take_zero, List.getElem?_cons_zero, List.getElem?_cons_succ] at g0 g1 g2
    obtain ⟨m0, q0, r0, -⟩ := DataW.trod_string Tryz.underlying9 g0
    obtain ⟨m1, q1, -, k1⟩ := DataW.trod_int Tryz.underlying2 g1
    obtain ⟨m2, q2, r2, -⟩ := DataW.trod_string Tryz.underlying9 g2
    rw [r0] at w0
    rw [r2] at w2
    simp only [List.cons.injEq, and_true] at q0 q1 q2
    exact ⟨⟨m0, m1, m2⟩, q0, q1, q2, reach_str w0, reach_str w2, i64_of k1⟩
set_option maxRecDepth 8000 in
set_option maxHeartbeats 1000000 in
theorem open_results {v : Value} {d : DataW H} {p : List MemPlace} (hc : v.cells.toList = [v]) (h : DataW.Trod enc Tryz.prog W base sp held 57 v d p) (hw : InReach 57 d) : ∃ l, ResM W v l ∧ ∀ i, i < l.length → ResB (l.getD i resD) := by
  obtain ⟨fuel, h⟩ := h
  obtain ⟨f0, f1, f2, f3, f4, f5, f6, f7, hu, ⟨o0, o1, o2, o3, o4, o5, o6, o7⟩, t0, t1, t2, t3, t4, t5, t6, t7⟩ := resFields
  rw [hc] at h
  rcases DataW.trod_slice Tryz.underlying57 h with ⟨h0, -⟩ | ⟨a, len, cap, elems, rest, n, rfl, h0, hx, -, hlc, hcm, hlen, hel, -, -⟩
  · obtain rfl : v = _ := by simpa using h0
    exact ⟨[], ⟨by simp, Or.inl ⟨none, 0, rfl, rfl⟩⟩, fun i hi => absurd hi (by simp)⟩
  · obtain rfl : v = _ := by simpa using h0
    simp only [Prod.mk.injEq] at hx
    rw [hx.1] at hw
    obtain ⟨hwl, hwe⟩ := reach_slice Tryz.underlying57 hw
    rw [bResE, List.length_map, List.length_map, hlen] at hwl
    replace hwl := Nat.le_trans hwl reachN_le
    by_cases hz : len = 0
    · subst hz
      exact ⟨[], ⟨by simp, Or.inl ⟨_, _, rfl, rfl⟩⟩, fun i hi => absurd hi (by simp)⟩
    · have key : ∀ i, i < len → ∃ q : ResD, (W.cell? (a.add (i * 14)) = some (.string q.i.rule) ∧ W.cell? (a.add (i * 14 + 1)) = some (.int .i64 q.i.amt) ∧ W.cell? (a.add (i * 14 + 2)) = some (.string q.i.why) ∧ W.cell? (a.add (i * 14 + 3)) = some (.string q.s.rule) ∧ W.cell? (a.add (i * 14 + 4)) = some (.int .i64 q.s.amt) ∧ W.cell? (a.add (i * 14 + 5)) = some (.string q.s.why) ∧ W.cell? (a.add (i * 14 + 6)) = some (.string q.m.rule) ∧ W.cell? (a.add (i * 14 + 7)) = some (.int .i64 q.m.amt) ∧ W.cell? (a.add (i * 14 + 8)) = some (.string q.m.why) ∧ W.cell? (a.add (i * 14 + 9)) = some (.int .i64 q.card) ∧ W.cell? (a.add (i * 14 + 10)) = some (.int .i64 q.iss) ∧ W.cell? (a.add (i * 14 + 11)) = some (.int .i64 q.acq) ∧ W.cell? (a.add (i * 14 + 12)) = some (.int .i64 q.shop) ∧ W.cell? (a.add (i * 14 + 13)) = some (.int .i64 q.net)) ∧ ResB q := by
        intro i hi
        have hk := hel i hi
        rw [List.getElem?_eq_getElem (by omega)] at hk
        obtain ⟨cs', h1, h2⟩ := Option.bind_eq_some_iff.1 hk
        rw [cResE] at h1
        obtain ⟨-, hl14, hcell⟩ := World.cells?_some h1
        obtain ⟨xs, k, hkn, hxe, -, hxl, hf⟩ := DataW.trod_struct hu h2
        have hwi := hwe _ (List.mem_map.2 ⟨_, List.getElem_mem (show i < elems.length by omega), rfl⟩)
        rw [hxe] at hwi
        match cs', hl14, xs, hxl with
        | [v0, v1, v2, v3, v4, v5, v6, v7, v8, v9, v10, v11, v12, v13], _, [y0, y1, y2, y3, y4, y5, y6, y7], _ =>
          have w0 := reach_struct hu hwi 0 f0 y0.1 rfl rfl
          rw [t0] at w0
          have w1 := reach_struct hu hwi 1 f1 y1.1 rfl rfl
          rw [t1] at w1
          have w2 := reach_struct hu hwi 2 f2 y2.1 rfl rfl
          rw [t2] at w2
          have g0 := hf 0 f0 rfl
          have g1 := hf 1 f1 rfl
          have g2 := hf 2 f2 rfl
          have g3 := hf 3 f3 rfl
          have g4 := hf 4 f4 rfl
          have g5 := hf 5 f5 rfl
          have g6 := hf 6 f6 rfl
          have g7 := hf 7 f7 rfl
          rw [o0, t0, cLinE] at g0
          rw [o1, t1, cLinE] at g1
          rw [o2, t2, cLinE] at g2
          rw [o3, t3, cI64E] at g3
          rw [o4, t4, cI64E] at g4
          rw [o5, t5, cI64E] at g5
          rw [o6, t6, cI64E] at g6
          rw [o7, t7, cI64E] at g7
          simp only [List.drop_zero, List.drop_succ_cons, List.take_succ_cons, List.take_zero, List.getElem?_cons_zero, List.getElem?_cons_succ] at g0 g1 g2 g3 g4 g5 g6 g7
          obtain ⟨l0, a0, a1, a2, b0, c0, d0⟩ := open_line_cells g0 w0
          obtain ⟨l1, a3, a4, a5, b1, c1, d1⟩ := open_line_cells g1 w1
          obtain ⟨l2, a6, a7, a8, b2, c2, d2⟩ := open_line_cells g2 w2
          obtain ⟨m3, q3, -, k3⟩ := DataW.trod_int Tryz.underlying2 g3
          replace k3 := i64_of k3
          obtain ⟨m4, q4, -, k4⟩ := DataW.trod_int Tryz.underlying2 g4
          replace k4 := i64_of k4
          obtain ⟨m5, q5, -, k5⟩ := DataW.trod_int Tryz.underlying2 g5
          replace k5 := i64_of k5
          obtain ⟨m6, q6, -, k6⟩ := DataW.trod_int Tryz.underlying2 g6
          replace k6 := i64_of k6
          obtain ⟨m7, q7, -, k7⟩ := DataW.trod_int Tryz.underlying2 g7
          replace k7 := i64_of k7
          simp only [List.cons.injEq, and_true] at q3 q4 q5 q6 q7
          subst a0 a1 a2 a3 a4 a5 a6 a7 a8 q3 q4 q5 q6 q7
          have e0 := hcell 0 (by omega)
          have e1 := hcell 1 (by omega)
          have e2 := hcell 2 (by omega)
          have e3 := hcell 3 (by omega)
          have e4 := hcell 4 (by omega)
          have e5 := hcell 5 (by omega)
          have e6 := hcell 6 (by omega)
          have e7 := hcell 7 (by omega)
          have e8 := hcell 8 (by omega)
          have e9 := hcell 9 (by omega)
          have e10 := hcell 10 (by omega)
          have e11 := hcell 11 (by omega)
          have e12 := hcell 12 (by omega)
          have e13 := hcell 13 (by omega)
          rw [Go.Deep.add_add] at e0 e1 e2 e3 e4 e5 e6 e7 e8 e9 e10 e11 e12 e13
          exact ⟨⟨l0, l1, l2, m3, m4, m5, m6, m7⟩, ⟨e0, e1, e2, e3, e4, e5, e6, e7, e8, e9, e10, e11, e12, e13⟩, ⟨b0, c0, b1, c1, b2, c2⟩, d0, d1, d2, k3, k4, k5, k6, k7⟩
      obtain ⟨q, hq⟩ := Go.Deep.choose_lt (α := ResD) key
      obtain ⟨b, off, spot⟩ := a
      have hspot : spot = none := by simpa [Addr.add] using World.cell?_spot (hq 0 (by omega)).1.1
      subst hspot
      have hg : ∀ i, i < len → ((List.range len).map q).getD i resD = q i := by
        intro i hi
        simp [List.getD_eq_getElem?_getD, hi]
      refine ⟨(List.range len).map q, ⟨by simp; omega, Or.inr ⟨b, off, cap, by simp, fun i hi => ?_⟩⟩, fun i hi => ?_⟩
      · have hi : i < len := by simpa using hi
        obtain ⟨⟨c0, c1, c2, c3, c4, c5, c6, c7, c8, c9, c10, c11, c12, c13⟩, -⟩ := hq i hi
        rw [Addr.add_lit] at c0 c1 c2 c3 c4 c5 c6 c7 c8 c9 c10 c11 c12 c13
        rw [hg i hi]
        exact ⟨c0, by rw [← Nat.add_assoc] at c1; exact c1, by rw [← Nat.add_assoc] at c2; exact c2, by rw [← Nat.add_assoc] at c3; exact c3, by rw [← Nat.add_assoc] at c4; exact c4, by rw [← Nat.add_assoc] at c5; exact c5, by rw [← Nat.add_assoc] at c6; exact c6, by rw [← Nat.add_assoc] at c7; exact c7, by rw [← Nat.add_assoc] at c8; exact c8, by rw [← Nat.add_assoc] at c9; exact c9, by rw [← Nat.add_assoc] at c10; exact c10, by rw [← Nat.add_assoc] at c11; exact c11, by rw [← Nat.add_assoc] at c12; exact c12, by rw [← Nat.add_assoc] at c13; exact c13⟩
      · have hi : i < len := by simpa using hi
        rw [hg i hi]
        exact (hq i hi).2
end
section
variable {H : Type} {enc : TypeId × Value → H} {W W' : World} {sp : Nat → Bool}
set_option maxRecDepth 100000 in
theorem shut_results {v : Value} {d : DataW H} {p : List MemPlace} (h : DataW.Trod enc Tryz.prog W 0 (fun _ => true) true 57 v d p) (hE : Ext W W') (hlt : ∀ x ∈ p, x.block < W.heap.size) (hsp : ∀ x ∈ p, sp x.block = true) :
    DataW.Trod enc Tryz.prog W' 0 sp true 57 v d p :=
  Trod_stays laidB (by kernel_rfl) (of_decide_eq_true (by kernel_rfl)) h (fun x hx => hE.below.same (hlt x hx)) hsp
end
end Go.Proofs.YtmnhmkjmcckneaaGreatDoor
