/- Fee rules among the arguments; what the row lays gives the table of powers of ten. -/
import Derived.Test.YtmnhmkjmcckneaaGreatDoorEl
import Derived.Test.YtmnhmkjmcckneaaGreatDoorFz
import Derived.Test.YtmnhmkjmcckneaaGreatDoorRows
import Derived.LaidMore
import Derived.Lib.LaidTab
namespace Go.Proofs.YtmnhmkjmcckneaaGreatDoor
open Go.ChangeShapes Go.WideShapes Go.ChangeAt Go.WideMaps Go.WideElems Go.RowKit
theorem reach_arg {H : Type} {ts : List TypeId} {ds : List (DataW H)} (h : (DataW.weightsEach Tryz.prog ts ds).all (· ≤ reachBytes) = true) (j : Nat) (t : TypeId) (d : DataW H) (ht : ts[j]? = some t) (hd : ds[j]? = some d) : InReach t d := by
 intro n hn
 have := List.all_eq_true.1 h n (DataW.weights_mem_each ht hd n hn)
 exact of_decide_eq_true this
theorem cRuE : Tryz.prog.cellsOf 56 = 10 := by kernel_rfl
theorem ruFields : ∃ f0 f1 f2 f3 f4 f5 : Field, Tryz.prog.underlying 56 = some (.struct #[f0, f1, f2, f3, f4, f5]) ∧ (f0.offset = 0 ∧ f1.offset = 1 ∧ f2.offset = 6 ∧ f3.offset = 7 ∧ f4.offset = 8 ∧ f5.offset = 9) ∧ f0.type = 9 ∧ f1.type = 54 ∧ f2.type = 3 ∧ f3.type = 2 ∧ f4.type = 2 ∧ f5.type = 2 := ⟨_, _, _, _, _, _, Tryz.underlying56, ⟨rfl, rfl, rfl, rfl, rfl, rfl⟩, rfl, rfl, rfl, rfl, rfl, rfl⟩
section
variable {H : Type} {enc : TypeId × Value → H} {W : World} {base : Nat} {sp : Nat → Bool} {held : Bool}
set_option maxRecDepth 8000 in
theorem open_ex_cells {k : Nat} {v0 v1 v2 v3 v4 : Value} {x : DataW H × List MemPlace} (h : DataW.trod enc Tryz.prog W base sp held k 54 [v0, v1, v2, v3, v4] = some x) (hw : InReach 54 x.1) : ∃ (e : Ex) (u : Value), (v0 = .int .i64 e.op ∧ v1 = .string e.name ∧ v2 = .string e.text ∧ v3 = .int .i64 e.n ∧ v4 = u) ∧ ExS W u e.args ∧ StrOk [e] := by
 obtain ⟨f0, f1, f2, f3, f4, hu, ⟨o0, o1, o2, o3, o4⟩, t0, t1, t2, t3, t4⟩ := exFields
 obtain ⟨xs, n, hkn, hxe, -, hxl, hf⟩ := DataW.trod_struct hu h
 rw [hxe] at hw
 match xs, hxl with
 | [y0, y1, y2, y3, y4], _ =>
  have w1 := reach_struct hu hw 1 f1 y1.1 rfl rfl
  have w2 := reach_struct hu hw 2 f2 y2.1 rfl rfl
  have w4 := reach_struct hu hw 4 f4 y4.1 rfl rfl
  rw [t4] at w4
  have g0 := hf 0 f0 rfl
  have g1 := hf 1 f1 rfl
  have g2 := hf 2 f2 rfl
  have g3 := hf 3 f3 rfl
  have g4 := hf 4 f4 rfl
  rw [o0, t0, cIntE] at g0
  rw [o1, t1, cStrE] at g1
  rw [o2, t2, cStrE] at g2
  rw [o3, t3, cI64E] at g3
  rw [o4, t4, cExsE] at g4
  simp only [List.drop_zero, List.drop_succ_cons, List.take_succ_cons, List.take_zero, List.getElem?_cons_zero, List.getElem?_cons_succ] at g0 g1 g2 g3 g4
  obtain ⟨m0, q0, -, -⟩ := DataW.trod_int Tryz.underlying3 g0
  obtain ⟨m1, q1, r1, -⟩ := DataW.trod_string Tryz.underlying9 g1
  obtain ⟨m2, q2, r2, -⟩ := DataW.trod_string Tryz.underlying9 g2
  obtain ⟨m3, q3, -, -⟩ := DataW.trod_int Tryz.underlying2 g3
  obtain ⟨m4, l, q4, hS, hO⟩ := open_exs n _ _ g4 w4
  rw [r1] at w1
  rw [r2] at w2
  have s1 := reach_str w1
  have s2 := reach_str w2
  simp only [List.cons.injEq, and_true] at q0 q1 q2 q3 q4
  exact ⟨.mk m0 m1 m2 m3 l, m4, ⟨q0, q1, q2, q3, q4⟩, hS, strOk_of fun y hy => by rw [List.mem_singleton.1 hy]; exact ⟨⟨s1, s2⟩, hO⟩⟩
set_option maxRecDepth 8000 in
theorem open_rule {r : Reach} {b0 : Nat} {v : Value} {d : DataW H} {p : List MemPlace} (hv : Value.okWide Tryz.prog W r b0 56 v) (h : DataW.Trod enc Tryz.prog W base sp held 56 v d p) (hw : InReach 56 d) :
 ∃ (x : RuleD) (u : Value), v = ruleAgg x u ∧ ExS W u x.when.args ∧ StrOk [x.when] := by
 obtain ⟨f0, f1, f2, f3, f4, f5, hu, ⟨o0, o1, o2, o3, o4, o5⟩, t0, t1, t2, t3, t4, t5⟩ := ruFields
 obtain ⟨cs, rfl, hsz⟩ := okWide_struct hu hv
 obtain ⟨fuel, hf⟩ := h
 obtain ⟨xs, k, hkn, hxe, -, hxl, hf⟩ := DataW.trod_struct hu hf
 simp only [Prod.mk.injEq] at hxe
 rw [hxe.1] at hw
 rw [cRuE] at hsz
 obtain ⟨cl⟩ := cs
 have hl10 : cl.length = 10 := hsz
 match cl, hl10, xs, hxl with
 | [v0, v1, v2, v3, v4, v5, v6, v7, v8, v9], _, [y0, y1, y2, y3, y4, y5], _ =>
  have w1 := reach_struct hu hw 1 f1 y1.1 rfl rfl
  rw [t1] at w1
  have g0 := hf 0 f0 rfl
  have g1 := hf 1 f1 rfl
  have g2 := hf 2 f2 rfl
  have g3 := hf 3 f3 rfl
  have g4 := hf 4 f4 rfl
  have g5 := hf 5 f5 rfl
  rw [o0, t0, cStrE] at g0
  rw [o1, t1, cExE] at g1
  rw [o2, t2, cIntE] at g2
  rw [o3, t3, cI64E] at g3
  rw [o4, t4, cI64E] at g4
  rw [o5, t5, cI64E] at g5
  simp only [Value.cells, List.drop_zero, List.drop_succ_cons, List.take_succ_cons, List.take_zero, List.getElem?_cons_zero, List.getElem?_cons_succ] at g0 g1 g2 g3 g4 g5
  obtain ⟨m0, q0, -, -⟩ := DataW.trod_string Tryz.underlying9 g0
  obtain ⟨e, u, ⟨a0, a1, a2, a3, a4⟩, hS, hO⟩ := open_ex_cells g1 w1
  obtain ⟨m2, q2, -, -⟩ := DataW.trod_int Tryz.underlying3 g2
  obtain ⟨m3, q3, -, -⟩ := DataW.trod_int Tryz.underlying2 g3
  obtain ⟨m4, q4, -, -⟩ := DataW.trod_int Tryz.underlying2 g4
  obtain ⟨m5, q5, -, -⟩ := DataW.trod_int Tryz.underlying2 g5
  simp only [List.cons.injEq, and_true] at q0 q2 q3 q4 q5
  exact ⟨⟨m0, e, m2, m3, m4, m5⟩, u, by rw [q0, a0, a1, a2, a3, a4, q2, q3, q4, q5]; rfl, hS, hO⟩
end
section
variable {H : Type} {enc : TypeId × Value → H} {W W' : World} {sp : Nat → Bool}
set_option maxRecDepth 100000 in
theorem shut_rule {v : Value} {d : DataW H} {p : List MemPlace} (h : DataW.Trod enc Tryz.prog W 0 (fun _ => true) true 56 v d p) (hE : Ext W W') (hlt : ∀ x ∈ p, x.block < W.heap.size) (hsp : ∀ x ∈ p, sp x.block = true) :
 DataW.Trod enc Tryz.prog W' 0 sp true 56 v d p :=
 Trod_stays laidB (by kernel_rfl) (of_decide_eq_true (by kernel_rfl)) h (fun x hx => hE.below.same (hlt x hx)) hsp
end
theorem tPowE : (Tryz.prog.globals[0]?).map (·.type) = some 173 := by kernel_rfl
theorem cU64E : Tryz.prog.cellsOf 149 = 1 := by kernel_rfl
theorem cPowE : Tryz.prog.cellsOf 173 = 20 := by kernel_rfl
theorem pow_data : (Rows.laid_internal_strconv_uint64pow10 : DataW Unit) = Lib.tabData .u64 Lib.pow10Tab := by kernel_rfl
/-- The list of the rows' cell 'laid'. -/
def laidL : List (String × DataW Unit) := [("math/bits.deBruijn32tab", Rows.laid_math_bits_deBruijn32tab), ("math/bits.deBruijn64tab", Rows.laid_math_bits_deBruijn64tab), ("internal/strconv.uint64pow10", Rows.laid_internal_strconv_uint64pow10)]
theorem of_laid {W : World} (h : laidMetH Tryz.prog laidL W) : Gw W := by
 rw [MakeChecks.laidMetH_plain _ _ _ (by kernel_rfl)] at h
 obtain ⟨ps, ⟨g0, t0, cs0, f0, p0, q0, hg0, ht0, hv0, hd0, ⟨g1, t1, cs1, f1, p1, q1, hg1, ht1, hv1, hd1, ⟨g2, t2, cs2, f2, p2, q2, hg2, ht2, hv2, hd2, _⟩, _⟩, _⟩, _⟩ := h
 obtain rfl := Option.some.inj (gPowE.symm.trans hg2)
 obtain rfl := Option.some.inj (tPowE.symm.trans ht2)
 unfold Gw Lib.TabIs
 rw [pow_data] at hd2
 rw [hv2, ← Lib.cells_of_tab Tryz.underlying173 Tryz.underlying149 cU64E cPowE hd2]
end Go.Proofs.YtmnhmkjmcckneaaGreatDoor
