/- A table of fee rules among the arguments. -/
import Derived.Test.YtmnhmkjmcckneaaGreatDoorFopn
namespace Go.Proofs.YtmnhmkjmcckneaaGreatDoor
open Go.ChangeShapes Go.WideShapes Go.ChangeAt Go.WideMaps Go.WideElems Go.RowKit
theorem bRuE : Tryz.prog.bytesOf 56 = 120 := by kernel_rfl
instance : Inhabited RuleD := ⟨rD⟩
section
variable {H : Type} {enc : TypeId × Value → H} {W : World} {base : Nat} {sp : Nat → Bool} {held : Bool}
/-- What is known besides of a table that came in. -/
def RuOk (v : Value) (l : List RuleD) : Prop := (∀ r ∈ l, StrOk [r.when] ∧ r.name.size ≤ 140737488355328) ∧ (v = .slice none 0 0 ∨ ∃ a n c, v = .slice (some a) n c)
set_option maxRecDepth 8000 in
theorem open_rules {v : Value} {d : DataW H} {p : List MemPlace} (hc : v.cells.toList = [v]) (h : DataW.Trod enc Tryz.prog W base sp held 22 v d p) (hw : InReach 22 d) : ∃ l, RulesM W v l ∧ RuOk v l := by
 obtain ⟨fuel, h⟩ := h
 obtain ⟨f0, f1, f2, f3, f4, f5, hu, ⟨o0, o1, o2, o3, o4, o5⟩, t0, t1, t2, t3, t4, t5⟩ := ruFields
 rw [hc] at h
 rcases DataW.trod_slice Tryz.underlying22 h with ⟨h0, -⟩ | ⟨a, len, cap, elems, rest, n, rfl, h0, hx, -, hlc, hcm, hlen, hel, -, -⟩
 · obtain rfl : v = _ := by simpa using h0
   exact ⟨[], ⟨by simp, Or.inl ⟨none, 0, rfl, rfl⟩⟩, by simp, Or.inl rfl⟩
 · obtain rfl : v = _ := by simpa using h0
   simp only [Prod.mk.injEq] at hx
   rw [hx.1] at hw
   obtain ⟨hwl, hwe⟩ := reach_slice Tryz.underlying22 hw
   rw [bRuE, List.length_map, List.length_map, hlen] at hwl
   replace hwl := Nat.le_trans hwl reachN_le
   by_cases hz : len = 0
   · subst hz
     exact ⟨[], ⟨by simp, Or.inl ⟨_, _, rfl, rfl⟩⟩, by simp, Or.inr ⟨_, _, _, rfl⟩⟩
   · have key : ∀ i, i < len → ∃ q : RuleD × Value, (W.cell? (a.add (i * 10)) = some (.string q.1.name) ∧ W.cell? (a.add (i * 10 + 1)) = some (.int .i64 q.1.when.op) ∧ W.cell? (a.add (i * 10 + 2)) = some (.string q.1.when.name) ∧ W.cell? (a.add (i * 10 + 3)) = some (.string q.1.when.text) ∧ W.cell? (a.add (i * 10 + 4)) = some (.int .i64 q.1.when.n) ∧ W.cell? (a.add (i * 10 + 5)) = some q.2 ∧ W.cell? (a.add (i * 10 + 6)) = some (.int .i64 q.1.bps) ∧ W.cell? (a.add (i * 10 + 7)) = some (.int .i64 q.1.fixed) ∧ W.cell? (a.add (i * 10 + 8)) = some (.int .i64 q.1.mn) ∧ W.cell? (a.add (i * 10 + 9)) = some (.int .i64 q.1.mx)) ∧ ExS W q.2 q.1.when.args ∧ StrOk [q.1.when] ∧ q.1.name.size ≤ 140737488355328 := by
      intro i hi
      have hk := hel i hi
      rw [List.getElem?_eq_getElem (by omega)] at hk
      obtain ⟨cs', h1, h2⟩ := Option.bind_eq_some_iff.1 hk
      rw [cRuE] at h1
      obtain ⟨-, hl10, hcell⟩ := World.cells?_some h1
      obtain ⟨xs, k, hkn, hxe, -, hxl, hf⟩ := DataW.trod_struct hu h2
      have hwi := hwe _ (List.mem_map.2 ⟨_, List.getElem_mem (show i < elems.length by omega), rfl⟩)
      rw [hxe] at hwi
      match cs', hl10, xs, hxl with
      | [v0, v1, v2, v3, v4, v5, v6, v7, v8, v9], _, [y0, y1, y2, y3, y4, y5], _ =>
       have w0 := reach_struct hu hwi 0 f0 y0.1 rfl rfl
       have w1 := reach_struct hu hwi 1 f1 y1.1 rfl rfl
       rw [t1] at w1
       have g0 := hf 0 f0 rfl
       have g1 := hf 1 f1 rfl
       have g2 := hf 2 f2 rfl
       have g3 := hf 3 f3 rfl
       have g4 := hf 4 f4 rfl
       have g5 := hf 5 f5 rfl
       rw [o0, t0, cStrE] at g0
       rw [o1, t1, cExE] at g1
       rw [o2, t2, cIntE] at g2
       rw [o3, t3, cI64E] at g3
       rw [o4, t4, cI64E] at g4
       rw [o5, t5, cI64E] at g5
       simp only [List.drop_zero, List.drop_succ_cons, List.take_succ_cons, List.take_zero, List.getElem?_cons_zero, List.getElem?_cons_succ] at g0 g1 g2 g3 g4 g5
       obtain ⟨m0, q0, r0, -⟩ := DataW.trod_string Tryz.underlying9 g0
       obtain ⟨e, u, ⟨a0, a1, a2, a3, a4⟩, hS, hO⟩ := open_ex_cells g1 w1
       obtain ⟨m2, q2, -, -⟩ := DataW.trod_int Tryz.underlying3 g2
       obtain ⟨m3, q3, -, -⟩ := DataW.trod_int Tryz.underlying2 g3
       obtain ⟨m4, q4, -, -⟩ := DataW.trod_int Tryz.underlying2 g4
       obtain ⟨m5, q5, -, -⟩ := DataW.trod_int Tryz.underlying2 g5
       rw [r0] at w0
       have s0 := reach_str w0
       simp only [List.cons.injEq, and_true] at q0 q2 q3 q4 q5
       subst q0 q2 q3 q4 q5 a0 a1 a2 a3 a4
       have e0 := hcell 0 (by omega)
       have e1 := hcell 1 (by omega)
       have e2 := hcell 2 (by omega)
       have e3 := hcell 3 (by omega)
       have e4 := hcell 4 (by omega)
       have e5 := hcell 5 (by omega)
       have e6 := hcell 6 (by omega)
       have e7 := hcell 7 (by omega)
       have e8 := hcell 8 (by omega)
       have e9 := hcell 9 (by omega)
       rw [Go.Deep.add_add] at e0 e1 e2 e3 e4 e5 e6 e7 e8 e9
       exact ⟨(⟨m0, e, m2, m3, m4, m5⟩, v5), ⟨e0, e1, e2, e3, e4, e5, e6, e7, e8, e9⟩, hS, hO, s0⟩
     obtain ⟨q, hq⟩ := Go.Deep.choose_lt (α := RuleD × Value) key
     obtain ⟨b, off, spot⟩ := a
     have hspot : spot = none := by simpa [Addr.add] using World.cell?_spot (hq 0 (by omega)).1.1
     subst hspot
     have hg : ∀ i, i < len → ((List.range len).map fun i => (q i).1).getD i rD = (q i).1 := by
      intro i hi
      simp [List.getD_eq_getElem?_getD, hi]
     refine ⟨(List.range len).map fun i => (q i).1, ⟨by simp; omega, Or.inr ⟨b, off, cap, fun i => (q i).2, by simp, by simpa using hlc, fun i hi => ?_⟩⟩, fun r hr => ?_, Or.inr ⟨_, _, _, rfl⟩⟩
     · have hi : i < len := by simpa using hi
       obtain ⟨⟨c0, c1, c2, c3, c4, c5, c6, c7, c8, c9⟩, hS, -⟩ := hq i hi
       rw [Addr.add_lit] at c0 c1 c2 c3 c4 c5 c6 c7 c8 c9
       rw [hg i hi]
       exact ⟨⟨c0, by rw [← Nat.add_assoc] at c1; exact c1, by rw [← Nat.add_assoc] at c2; exact c2, by rw [← Nat.add_assoc] at c3; exact c3, by rw [← Nat.add_assoc] at c4; exact c4, by rw [← Nat.add_assoc] at c5; exact c5, by rw [← Nat.add_assoc] at c6; exact c6, by rw [← Nat.add_assoc] at c7; exact c7, by rw [← Nat.add_assoc] at c8; exact c8, by rw [← Nat.add_assoc] at c9; exact c9⟩, hS⟩
     · obtain ⟨i, hi, rfl⟩ := List.mem_map.1 hr
       exact (hq i (List.mem_range.1 hi)).2.2
/-- What is known of features that came in: sizes, ranges, capacity. -/
def FtIn (v : Value) (l : List Feat) : Prop := (∀ f ∈ l, (f.name.size ≤ 140737488355328 ∧ f.text.size ≤ 140737488355328) ∧ (Lit.int .i64 f.n).wf = true) ∧ ∀ p n c, v = .slice p n c → n ≤ c
set_option maxRecDepth 8000 in
theorem open_feats_in {v : Value} {d : DataW H} {p : List MemPlace} (hc : v.cells.toList = [v]) (h : DataW.Trod enc Tryz.prog W base sp held 44 v d p) (hw : InReach 44 d) : ∃ l, FeatsL W v l ∧ FtIn v l := by
 obtain ⟨fuel, h⟩ := h
 obtain ⟨f0, f1, f2, f3, hu, ho, t0, t1, t2, t3⟩ := ftFields
 rw [hc] at h
 rcases open_quads Tryz.underlying44 hu cFtE ho (by rw [t0]; exact cStrE) (by rw [t1]; exact cIntE) (by rw [t2]; exact cI64E) (by rw [t3]; exact cStrE) h hw with h0 | ⟨a, len, cap, h0, hlc, hcm, hx⟩
 · obtain rfl : v = _ := by simpa using h0
   exact ⟨[], ⟨by simp, Or.inl ⟨none, 0, rfl, rfl⟩⟩, by simp, fun p n c e => by injection e with e1 e2 e3; omega⟩
 · obtain rfl : v = _ := by simpa using h0
   have hcap : ∀ p n c, Value.slice (some a) len cap = .slice p n c → n ≤ c := fun p n c e => by injection e with e1 e2 e3; omega
   by_cases hz : len = 0
   · subst hz
     exact ⟨[], ⟨by simp, Or.inl ⟨_, _, rfl, rfl⟩⟩, by simp, hcap⟩
   · have key : ∀ i, i < len → ∃ f : Feat, (W.cell? (a.add (i * 4)) = some (.string f.name) ∧ W.cell? (a.add (i * 4 + 1)) = some (.int .i64 f.kind) ∧ W.cell? (a.add (i * 4 + 2)) = some (.int .i64 f.n) ∧ W.cell? (a.add (i * 4 + 3)) = some (.string f.text)) ∧ (f.name.size ≤ 140737488355328 ∧ f.text.size ≤ 140737488355328) ∧ (Lit.int .i64 f.n).wf = true := by
      intro i hi
      obtain ⟨v0, v1, v2, v3, y0, y1, y2, y3, n, ⟨e0, e1, e2, e3⟩, g0, g1, g2, g3, u0, -, -, u3⟩ := hx i hi
      rw [t0] at g0
      rw [t1] at g1
      rw [t2] at g2
      rw [t3] at g3
      obtain ⟨m0, q0, r0, -⟩ := DataW.trod_string Tryz.underlying9 g0
      obtain ⟨m1, q1, -, -⟩ := DataW.trod_int Tryz.underlying3 g1
      obtain ⟨m2, q2, -, k2⟩ := DataW.trod_int Tryz.underlying2 g2
      obtain ⟨m3, q3, r3, -⟩ := DataW.trod_string Tryz.underlying9 g3
      simp only [List.cons.injEq, and_true] at q0 q1 q2 q3
      subst q0 q1 q2 q3
      rw [r0] at u0
      rw [r3] at u3
      have s0 := reach_str u0
      have s3 := reach_str u3
      exact ⟨⟨m0, m1, m2, m3⟩, ⟨e0, e1, e2, e3⟩, ⟨s0, s3⟩, k2⟩
     obtain ⟨q, hq⟩ := Go.Deep.choose_lt (α := Feat) key
     obtain ⟨b, off, spot⟩ := a
     have hspot : spot = none := by simpa [Addr.add] using World.cell?_spot (hq 0 (by omega)).1.1
     subst hspot
     refine ⟨(List.range len).map q, ⟨by rw [bFtE] at hcm; have := Nat.le_trans hcm reachN_le; simp; omega, Or.inr ⟨b, off, cap, by simp, fun i hi => ?_⟩⟩, fun f hf => ?_, hcap⟩
     · have hi : i < len := by simpa using hi
       obtain ⟨⟨c0, c1, c2, c3⟩, -⟩ := hq i hi
       rw [Addr.add_lit] at c0 c1 c2 c3
       have hg : ((List.range len).map q).getD i fD = q i := by simp [List.getD_eq_getElem?_getD, hi]
       rw [hg]
       exact ⟨c0, by rw [← Nat.add_assoc] at c1; exact c1, by rw [← Nat.add_assoc] at c2; exact c2, by rw [← Nat.add_assoc] at c3; exact c3⟩
     · obtain ⟨i, hi, rfl⟩ := List.mem_map.1 hf
       exact (hq i (List.mem_range.1 hi)).2
end
section
variable {H : Type} {enc : TypeId × Value → H} {W W' : World} {sp : Nat → Bool}
set_option maxRecDepth 100000 in
theorem shut_rules {v : Value} {d : DataW H} {p : List MemPlace} (h : DataW.Trod enc Tryz.prog W 0 (fun _ => true) true 22 v d p) (hE : Ext W W') (hlt : ∀ x ∈ p, x.block < W.heap.size) (hsp : ∀ x ∈ p, sp x.block = true) :
 DataW.Trod enc Tryz.prog W' 0 sp true 22 v d p :=
 Trod_stays laidB (by kernel_rfl) (of_decide_eq_true (by kernel_rfl)) h (fun x hx => hE.below.same (hlt x hx)) hsp
end
theorem RuOk.at {v : Value} {l : List RuleD} (h : RuOk v l) : ∀ i, i < l.length → StrOk [(l.getD i rD).when] ∧ (l.getD i rD).name.size ≤ 140737488355328 := fun i hi => h.1 _ (by rw [List.getD_eq_getElem?_getD, List.getElem?_eq_getElem hi, Option.getD_some]; exact List.getElem_mem hi)
end Go.Proofs.YtmnhmkjmcckneaaGreatDoor
