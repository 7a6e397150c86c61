/- Rules and what New is given among the arguments; the facts of FraudExact as the row has them (printed by gen/h57.py). -/
import Derived.Test.YtangdoidkcelfaaGreatDoorNq
import Derived.Test.YtangdoidkcelfaaGreatDoorEl
import Derived.Test.YtangdoidkcelfaaGreatDoorRows
import Derived.Lib.SmallJoins
import Derived.Deep.SlicePairs
import Derived.Carry
import Derived.LaidMore
import Derived.Lib.LaidTab
namespace Go.Proofs.YtangdoidkcelfaaGreatDoor
open Go.ChangeShapes Go.WideShapes Go.ChangeAt Go.WideMaps Go.WideElems Go.RowKit
theorem reach_arg {H : Type} {ts : List TypeId} {ds : List (DataW H)} (h : (DataW.weightsEach Tryz.prog ts ds).all (· ≤ reachBytes) = true) (j : Nat) (t : TypeId) (d : DataW H) (ht : ts[j]? = some t) (hd : ds[j]? = some d) : InReach t d := by
 intro n hn
 have := List.all_eq_true.1 h n (DataW.weights_mem_each ht hd n hn)
 exact of_decide_eq_true this
theorem tPowE : (Tryz.prog.globals[0]?).map (·.type) = some 204 := by kernel_rfl
theorem cU64E : Tryz.prog.cellsOf 169 = 1 := by kernel_rfl
theorem cPowE : Tryz.prog.cellsOf 204 = 20 := by kernel_rfl
theorem pow_data : (Rows.laid_internal_strconv_uint64pow10 : DataW Unit) = Lib.tabData .u64 Lib.pow10Tab := by kernel_rfl
/-- The list of the rows' cell 'laid'. -/
def laidL : List (String × DataW Unit) := [("math/bits.deBruijn32tab", Rows.laid_math_bits_deBruijn32tab), ("math/bits.deBruijn64tab", Rows.laid_math_bits_deBruijn64tab), ("internal/strconv.uint64pow10", Rows.laid_internal_strconv_uint64pow10)]
theorem of_laid {W : World} (h : laidMetH Tryz.prog laidL W) : Gw W := by
 rw [MakeChecks.laidMetH_plain _ _ _ (by kernel_rfl)] at h
 obtain ⟨ps, ⟨g0, t0, cs0, f0, p0, q0, hg0, ht0, hv0, hd0, ⟨g1, t1, cs1, f1, p1, q1, hg1, ht1, hv1, hd1, ⟨g2, t2, cs2, f2, p2, q2, hg2, ht2, hv2, hd2, _⟩, _⟩, _⟩, _⟩ := h
 obtain rfl := Option.some.inj (gPowE.symm.trans hg2)
 obtain rfl := Option.some.inj (tPowE.symm.trans ht2)
 unfold Gw Lib.TabIs
 rw [pow_data] at hd2
 rw [hv2, ← Lib.cells_of_tab Tryz.underlying204 Tryz.underlying169 cU64E cPowE hd2]
theorem cRlE : Tryz.prog.cellsOf 46 = 8 := by kernel_rfl
theorem bRlE : Tryz.prog.bytesOf 46 = 104 := by kernel_rfl
theorem cRlsE : Tryz.prog.cellsOf 47 = 1 := by kernel_rfl
theorem cGivE : Tryz.prog.cellsOf 57 = 3 := by kernel_rfl
theorem rlFields : ∃ f0 f1 f2 f3 : Field, Tryz.prog.underlying 46 = some (.struct #[f0, f1, f2, f3]) ∧ (f0.offset = 0 ∧ f1.offset = 1 ∧ f2.offset = 6 ∧ f3.offset = 7) ∧ f0.type = 9 ∧ f1.type = 40 ∧ f2.type = 3 ∧ f3.type = 3 := ⟨_, _, _, _, Tryz.underlying46, ⟨rfl, rfl, rfl, rfl⟩, rfl, rfl, rfl, rfl⟩
theorem givFields : ∃ f0 f1 f2 : Field, Tryz.prog.underlying 57 = some (.struct #[f0, f1, f2]) ∧ (f0.offset = 0 ∧ f1.offset = 1 ∧ f2.offset = 2) ∧ f0.type = 47 ∧ f1.type = 3 ∧ f2.type = 3 := ⟨_, _, _, Tryz.underlying57, ⟨rfl, rfl, rfl⟩, rfl, rfl, rfl⟩
instance : Inhabited FrR := ⟨frD⟩
section
variable {H : Type} {enc : TypeId × Value → H} {W : World} {base : Nat} {sp : Nat → Bool} {held : Bool}
set_option maxRecDepth 8000 in
theorem open_ex_cells {k : Nat} {v0 v1 v2 v3 v4 : Value} {x : DataW H × List MemPlace} (h : DataW.trod enc Tryz.prog W base sp held k 40 [v0, v1, v2, v3, v4] = some x) (hw : InReach 40 x.1) : ∃ (e : Ex) (u : Value), (v0 = .int .i64 e.op ∧ v1 = .string e.name ∧ v2 = .string e.text ∧ v3 = .int .i64 e.n ∧ v4 = u) ∧ ExS W u e.args ∧ StrOk [e] := by
 obtain ⟨f0, f1, f2, f3, f4, hu, ⟨o0, o1, o2, o3, o4⟩, t0, t1, t2, t3, t4⟩ := exFields
 obtain ⟨xs, n, hkn, hxe, -, hxl, hf⟩ := DataW.trod_struct hu h
 rw [hxe] at hw
 match xs, hxl with
 | [y0, y1, y2, y3, y4], _ =>
  have w1 := reach_struct hu hw 1 f1 y1.1 rfl rfl
  have w2 := reach_struct hu hw 2 f2 y2.1 rfl rfl
  have w4 := reach_struct hu hw 4 f4 y4.1 rfl rfl
  rw [t4] at w4
  have g0 := hf 0 f0 rfl
  have g1 := hf 1 f1 rfl
  have g2 := hf 2 f2 rfl
  have g3 := hf 3 f3 rfl
  have g4 := hf 4 f4 rfl
  rw [o0, t0, cIntE] at g0
  rw [o1, t1, cStrE] at g1
  rw [o2, t2, cStrE] at g2
  rw [o3, t3, cI64E] at g3
  rw [o4, t4, cExsE] at g4
  simp only [List.drop_zero, List.drop_succ_cons, List.take_succ_cons, List.take_zero, List.getElem?_cons_zero, List.getElem?_cons_succ] at g0 g1 g2 g3 g4
  obtain ⟨m0, q0, -, -⟩ := DataW.trod_int Tryz.underlying3 g0
  obtain ⟨m1, q1, r1, -⟩ := DataW.trod_string Tryz.underlying9 g1
  obtain ⟨m2, q2, r2, -⟩ := DataW.trod_string Tryz.underlying9 g2
  obtain ⟨m3, q3, -, -⟩ := DataW.trod_int Tryz.underlying2 g3
  obtain ⟨m4, l, q4, hS, hO⟩ := open_exs n _ _ g4 w4
  rw [r1] at w1
  rw [r2] at w2
  have s1 := reach_str w1
  have s2 := reach_str w2
  simp only [List.cons.injEq, and_true] at q0 q1 q2 q3 q4
  exact ⟨.mk m0 m1 m2 m3 l, m4, ⟨q0, q1, q2, q3, q4⟩, hS, strOk_of fun y hy => by rw [List.mem_singleton.1 hy]; exact ⟨⟨s1, s2⟩, hO⟩⟩
set_option maxRecDepth 8000 in
theorem open_frs {k : Nat} {v : Value} {x : DataW H × List MemPlace} (h : DataW.trod enc Tryz.prog W base sp held k 47 [v] = some x) (hw : InReach 47 x.1) : ∃ l, FrsM W v l ∧ ∀ r ∈ l, StrOk [r.when] := by
 obtain ⟨f0, f1, f2, f3, hu, ⟨o0, o1, o2, o3⟩, t0, t1, t2, t3⟩ := rlFields
 rcases DataW.trod_slice Tryz.underlying47 h with ⟨h0, -⟩ | ⟨a, len, cap, elems, rest, n, rfl, h0, hx, -, hlc, hcm, hlen, hel, -, -⟩
 · obtain rfl : v = _ := by simpa using h0
   exact ⟨[], ⟨by simp, Or.inl ⟨none, 0, rfl, rfl⟩⟩, by simp⟩
 · obtain rfl : v = _ := by simpa using h0
   rw [hx] at hw
   obtain ⟨hwl, hwe⟩ := reach_slice Tryz.underlying47 hw
   rw [bRlE, List.length_map, List.length_map, hlen] at hwl
   replace hwl := Nat.le_trans hwl reachN_le
   by_cases hz : len = 0
   · subst hz
     exact ⟨[], ⟨by simp, Or.inl ⟨_, _, rfl, rfl⟩⟩, by simp⟩
   · have key : ∀ i, i < len → ∃ q : FrR × Value, (W.cell? (a.add (i * 8)) = some (.string q.1.name) ∧ W.cell? (a.add (i * 8 + 1)) = some (.int .i64 q.1.when.op) ∧ W.cell? (a.add (i * 8 + 2)) = some (.string q.1.when.name) ∧ W.cell? (a.add (i * 8 + 3)) = some (.string q.1.when.text) ∧ W.cell? (a.add (i * 8 + 4)) = some (.int .i64 q.1.when.n) ∧ W.cell? (a.add (i * 8 + 5)) = some q.2 ∧ W.cell? (a.add (i * 8 + 6)) = some (.int .i64 q.1.act) ∧ W.cell? (a.add (i * 8 + 7)) = some (.int .i64 q.1.score)) ∧ ExS W q.2 q.1.when.args ∧ StrOk [q.1.when] := by
      intro i hi
      have hk := hel i hi
      rw [List.getElem?_eq_getElem (by omega)] at hk
      obtain ⟨cs', h1, h2⟩ := Option.bind_eq_some_iff.1 hk
      rw [cRlE] at h1
      obtain ⟨-, hl8, hcell⟩ := World.cells?_some h1
      obtain ⟨xs, k, hkn, hxe, -, hxl, hf⟩ := DataW.trod_struct hu h2
      have hwi := hwe _ (List.mem_map.2 ⟨_, List.getElem_mem (show i < elems.length by omega), rfl⟩)
      rw [hxe] at hwi
      match cs', hl8, xs, hxl with
      | [v0, v1, v2, v3, v4, v5, v6, v7], _, [y0, y1, y2, y3], _ =>
       have w1 := reach_struct hu hwi 1 f1 y1.1 rfl rfl
       rw [t1] at w1
       have g0 := hf 0 f0 rfl
       have g1 := hf 1 f1 rfl
       have g2 := hf 2 f2 rfl
       have g3 := hf 3 f3 rfl
       rw [o0, t0, cStrE] at g0
       rw [o1, t1, cExE] at g1
       rw [o2, t2, cIntE] at g2
       rw [o3, t3, cIntE] at g3
       simp only [List.drop_zero, List.drop_succ_cons, List.take_succ_cons, List.take_zero, List.getElem?_cons_zero, List.getElem?_cons_succ] at g0 g1 g2 g3
       obtain ⟨m0, q0, -, -⟩ := DataW.trod_string Tryz.underlying9 g0
       obtain ⟨e, u, ⟨a0, a1, a2, a3, a4⟩, hS, hO⟩ := open_ex_cells g1 w1
       obtain ⟨m2, q2, -, -⟩ := DataW.trod_int Tryz.underlying3 g2
       obtain ⟨m3, q3, -, -⟩ := DataW.trod_int Tryz.underlying3 g3
       simp only [List.cons.injEq, and_true] at q0 q2 q3
       subst q0 q2 q3 a0 a1 a2 a3 a4
       have e0 := hcell 0 (by omega)
       have e1 := hcell 1 (by omega)
       have e2 := hcell 2 (by omega)
       have e3 := hcell 3 (by omega)
       have e4 := hcell 4 (by omega)
       have e5 := hcell 5 (by omega)
       have e6 := hcell 6 (by omega)
       have e7 := hcell 7 (by omega)
       rw [Go.Deep.add_add] at e0 e1 e2 e3 e4 e5 e6 e7
       exact ⟨(⟨m0, e, m2, m3⟩, v5), ⟨e0, e1, e2, e3, e4, e5, e6, e7⟩, hS, hO⟩
     obtain ⟨q, hq⟩ := Go.Deep.choose_lt (α := FrR × Value) key
     obtain ⟨b, off, spot⟩ := a
     have hspot : spot = none := by simpa [Addr.add] using World.cell?_spot (hq 0 (by omega)).1.1
     subst hspot
     have hg : ∀ i, i < len → ((List.range len).map fun i => (q i).1).getD i frD = (q i).1 := by
      intro i hi
      simp [List.getD_eq_getElem?_getD, hi]
     refine ⟨(List.range len).map fun i => (q i).1, ⟨by simp; omega, Or.inr ⟨b, off, cap, fun i => (q i).2, by simp, by simpa using hlc, fun i hi => ?_⟩⟩, fun r hr => ?_⟩
     · have hi : i < len := by simpa using hi
       obtain ⟨⟨c0, c1, c2, c3, c4, c5, c6, c7⟩, hS, -⟩ := hq i hi
       rw [Addr.add_lit] at c0 c1 c2 c3 c4 c5 c6 c7
       rw [hg i hi]
       exact ⟨⟨c0, by rw [← Nat.add_assoc] at c1; exact c1, by rw [← Nat.add_assoc] at c2; exact c2, by rw [← Nat.add_assoc] at c3; exact c3, by rw [← Nat.add_assoc] at c4; exact c4, by rw [← Nat.add_assoc] at c5; exact c5, by rw [← Nat.add_assoc] at c6; exact c6, by rw [← Nat.add_assoc] at c7; exact c7⟩, hS⟩
     · obtain ⟨i, hi, rfl⟩ := List.mem_map.1 hr
       exact (hq i (List.mem_range.1 hi)).2.2
set_option maxRecDepth 8000 in
theorem open_given {r : Reach} {b0 : Nat} {v : Value} {d : DataW H} {p : List MemPlace} (hv : Value.okWide Tryz.prog W r b0 57 v) (h : DataW.Trod enc Tryz.prog W base sp held 57 v d p) (hw : InReach 57 d) : ∃ (rv : Value) (rs : List FrR) (refer decline : Int), v = .agg #[rv, .int .i64 refer, .int .i64 decline] ∧ FrsM W rv rs ∧ ∀ r ∈ rs, StrOk [r.when] := by
 obtain ⟨f0, f1, f2, hu, ⟨o0, o1, o2⟩, t0, t1, t2⟩ := givFields
 obtain ⟨cs, rfl, hsz⟩ := okWide_struct hu hv
 obtain ⟨fuel, hf⟩ := h
 obtain ⟨xs, k, hkn, hxe, -, hxl, hf⟩ := DataW.trod_struct hu hf
 simp only [Prod.mk.injEq] at hxe
 rw [hxe.1] at hw
 rw [cGivE] at hsz
 obtain ⟨cl⟩ := cs
 have hl3 : cl.length = 3 := hsz
 match cl, hl3, xs, hxl with
 | [v0, v1, v2], _, [y0, y1, y2], _ =>
  have w0 := reach_struct hu hw 0 f0 y0.1 rfl rfl
  rw [t0] at w0
  have g0 := hf 0 f0 rfl
  have g1 := hf 1 f1 rfl
  have g2 := hf 2 f2 rfl
  rw [o0, t0, cRlsE] at g0
  rw [o1, t1, cIntE] at g1
  rw [o2, t2, cIntE] at g2
  simp only [Value.cells, List.drop_zero, List.drop_succ_cons, List.take_succ_cons, List.take_zero, List.getElem?_cons_zero, List.getElem?_cons_succ] at g0 g1 g2
  obtain ⟨l, hl, hs⟩ := open_frs g0 w0
  obtain ⟨m1, q1, -, -⟩ := DataW.trod_int Tryz.underlying3 g1
  obtain ⟨m2, q2, -, -⟩ := DataW.trod_int Tryz.underlying3 g2
  simp only [List.cons.injEq, and_true] at q1 q2
  subst q1 q2
  exact ⟨v0, l, m1, m2, rfl, hl, hs⟩
/-- What is known of features that came in: sizes, ranges, capacity. -/
def FtIn (v : Value) (l : List Feat) : Prop := (∀ f ∈ l, (f.name.size ≤ 140737488355328 ∧ f.text.size ≤ 140737488355328) ∧ (Lit.int .i64 f.n).wf = true) ∧ ∀ p n c, v = .slice p n c → n ≤ c
set_option maxRecDepth 8000 in
theorem open_feats_in {v : Value} {d : DataW H} {p : List MemPlace} (hc : v.cells.toList = [v]) (h : DataW.Trod enc Tryz.prog W base sp held 33 v d p) (hw : InReach 33 d) : ∃ l, FeatsL W v l ∧ FtIn v l := by
 obtain ⟨fuel, h⟩ := h
 obtain ⟨f0, f1, f2, f3, hu, ho, t0, t1, t2, t3⟩ := ftFields
 rw [hc] at h
 rcases open_quads Tryz.underlying33 hu cFtE ho (by rw [t0]; exact cStrE) (by rw [t1]; exact cIntE) (by rw [t2]; exact cI64E) (by rw [t3]; exact cStrE) h hw with h0 | ⟨a, len, cap, h0, hlc, hcm, hx⟩
 · obtain rfl : v = _ := by simpa using h0
   exact ⟨[], ⟨by simp, Or.inl ⟨none, 0, rfl, rfl⟩⟩, by simp, fun p n c e => by injection e with e1 e2 e3; omega⟩
 · obtain rfl : v = _ := by simpa using h0
   have hcap : ∀ p n c, Value.slice (some a) len cap = .slice p n c → n ≤ c := fun p n c e => by injection e with e1 e2 e3; omega
   by_cases hz : len = 0
   · subst hz
     exact ⟨[], ⟨by simp, Or.inl ⟨_, _, rfl, rfl⟩⟩, by simp, hcap⟩
   · have key : ∀ i, i < len → ∃ f : Feat, (W.cell? (a.add (i * 4)) = some (.string f.name) ∧ W.cell? (a.add (i * 4 + 1)) = some (.int .i64 f.kind) ∧ W.cell? (a.add (i * 4 + 2)) = some (.int .i64 f.n) ∧ W.cell? (a.add (i * 4 + 3)) = some (.string f.text)) ∧ (f.name.size ≤ 140737488355328 ∧ f.text.size ≤ 140737488355328) ∧ (Lit.int .i64 f.n).wf = true := by
      intro i hi
      obtain ⟨v0, v1, v2, v3, y0, y1, y2, y3, n, ⟨e0, e1, e2, e3⟩, g0, g1, g2, g3, u0, -, -, u3⟩ := hx i hi
      rw [t0] at g0
      rw [t1] at g1
      rw [t2] at g2
      rw [t3] at g3
      obtain ⟨m0, q0, r0, -⟩ := DataW.trod_string Tryz.underlying9 g0
      obtain ⟨m1, q1, -, -⟩ := DataW.trod_int Tryz.underlying3 g1
      obtain ⟨m2, q2, -, k2⟩ := DataW.trod_int Tryz.underlying2 g2
      obtain ⟨m3, q3, r3, -⟩ := DataW.trod_string Tryz.underlying9 g3
      simp only [List.cons.injEq, and_true] at q0 q1 q2 q3
      subst q0 q1 q2 q3
      rw [r0] at u0
      rw [r3] at u3
      have s0 := reach_str u0
      have s3 := reach_str u3
      exact ⟨⟨m0, m1, m2, m3⟩, ⟨e0, e1, e2, e3⟩, ⟨s0, s3⟩, k2⟩
     obtain ⟨q, hq⟩ := Go.Deep.choose_lt (α := Feat) key
     obtain ⟨b, off, spot⟩ := a
     have hspot : spot = none := by simpa [Addr.add] using World.cell?_spot (hq 0 (by omega)).1.1
     subst hspot
     refine ⟨(List.range len).map q, ⟨by rw [bFtE] at hcm; have := Nat.le_trans hcm reachN_le; simp; omega, Or.inr ⟨b, off, cap, by simp, fun i hi => ?_⟩⟩, fun f hf => ?_, hcap⟩
     · have hi : i < len := by simpa using hi
       obtain ⟨⟨c0, c1, c2, c3⟩, -⟩ := hq i hi
       rw [Addr.add_lit] at c0 c1 c2 c3
       have hg : ((List.range len).map q).getD i fD = q i := by simp [List.getD_eq_getElem?_getD, hi]
       rw [hg]
       exact ⟨c0, by rw [← Nat.add_assoc] at c1; exact c1, by rw [← Nat.add_assoc] at c2; exact c2, by rw [← Nat.add_assoc] at c3; exact c3⟩
     · obtain ⟨i, hi, rfl⟩ := List.mem_map.1 hf
       exact (hq i (List.mem_range.1 hi)).2
end
set_option maxRecDepth 100000 in
theorem shut_given {H : Type} {enc : TypeId × Value → H} {W W' : World} {sp : Nat → Bool} {v : Value} {d : DataW H} {p : List MemPlace}
 (h : DataW.Trod enc Tryz.prog W 0 (fun _ => true) true 57 v d p) (hE : Ext W W') (hlt : ∀ x ∈ p, x.block < W.heap.size) (hsp : ∀ x ∈ p, sp x.block = true) :
 DataW.Trod enc Tryz.prog W' 0 sp true 57 v d p :=
 Trod_stays laidB (by kernel_rfl) (of_decide_eq_true (by kernel_rfl)) h (fun x hx => hE.below.same (hlt x hx)) hsp
theorem law_exactR (rv : Value) (rs : List FrR) (refer decline now : Int) (fv : Value) (l : List Feat) (w : World) (g : Gw w) (hR : FrsM w rv rs) (hso : ∀ r ∈ rs, StrOk [r.when]) (_ : (Lit.int .i64 now).wf = true) (hF : FeatsL w fv l) (hFi : FtIn fv l) : Calls Tryz.prog 5 #[.agg #[rv, .int .i64 refer, .int .i64 decline], .int .i64 now, fv] w (TrueP w) :=
 law_exact rv rs refer decline now fv l w g hR hso hF (fun i hi => by
  rw [List.getD_eq_getElem?_getD, List.getElem?_eq_getElem hi, Option.getD_some]
  exact (hFi.1 _ (List.getElem_mem hi)).1.1) hFi.2
end Go.Proofs.YtangdoidkcelfaaGreatDoor
