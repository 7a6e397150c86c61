/- Expressions, features and uses among the arguments: what the row's reading gives, and that they read behind the call as before. The end of every row: only new memory was made. -/
import Derived.Test.YtangdoidkcelfaaGreatDoorEh
import Derived.Test.YtangdoidkcelfaaGreatDoorEd
import Derived.ProofKit
import Derived.Lib.SmallJoins
import Derived.Deep.SlicePairs
import Derived.Carry
import Derived.SizedLaws
import Derived.Stop.Joined
import Derived.OpenShut
namespace Go.Proofs.YtangdoidkcelfaaGreatDoor
open Go.ChangeShapes Go.WideShapes Go.ChangeAt Go.WideMaps Go.WideElems Go.RowKit
theorem laidB : laidOutB Tryz.prog = true := by kernel_rfl
theorem cIntE : Tryz.prog.cellsOf 3 = 1 := by kernel_rfl
theorem cI64E : Tryz.prog.cellsOf 2 = 1 := by kernel_rfl
theorem cStrE : Tryz.prog.cellsOf 9 = 1 := by kernel_rfl
theorem cExE : Tryz.prog.cellsOf 40 = 5 := by kernel_rfl
theorem cExsE : Tryz.prog.cellsOf 38 = 1 := by kernel_rfl
theorem cFtE : Tryz.prog.cellsOf 62 = 4 := by kernel_rfl
theorem exFields : ∃ f0 f1 f2 f3 f4 : Field, Tryz.prog.underlying 40 = some (.struct #[f0, f1, f2, f3, f4]) ∧ (f0.offset = 0 ∧ f1.offset = 1 ∧ f2.offset = 2 ∧ f3.offset = 3 ∧ f4.offset = 4) ∧ f0.type = 3 ∧ f1.type = 9 ∧ f2.type = 9 ∧ f3.type = 2 ∧ f4.type = 38 := ⟨_, _, _, _, _, Tryz.underlying40, ⟨rfl, rfl, rfl, rfl, rfl⟩, rfl, rfl, rfl, rfl, rfl⟩
theorem ftFields : ∃ f0 f1 f2 f3 : Field, Tryz.prog.underlying 62 = some (.struct #[f0, f1, f2, f3]) ∧ (f0.offset = 0 ∧ f1.offset = 1 ∧ f2.offset = 2 ∧ f3.offset = 3) ∧ f0.type = 9 ∧ f1.type = 3 ∧ f2.type = 2 ∧ f3.type = 9 := ⟨_, _, _, _, Tryz.underlying62, ⟨rfl, rfl, rfl, rfl⟩, rfl, rfl, rfl, rfl⟩
/-- The strings of an expression are no longer than a string can be. -/
def StrOk (l : List Ex) : Prop := ∀ p ∈ Ex.parts.partsL l, p.name.size ≤ 140737488355328 ∧ p.text.size ≤ 140737488355328
theorem strOk_nil : StrOk [] := fun p hp => by simp [Ex.parts.partsL] at hp
theorem mem_partsL : ∀ (l : List Ex) (p : Ex), p ∈ Ex.parts.partsL l ↔ ∃ y ∈ l, p ∈ y.parts
 | [], p => by simp [Ex.parts.partsL]
 | x :: r, p => by rw [Ex.parts.partsL, List.mem_append, mem_partsL r p]; simp
theorem strOk_of {l : List Ex} (h : ∀ y ∈ l, (y.name.size ≤ 140737488355328 ∧ y.text.size ≤ 140737488355328) ∧ StrOk y.args) : StrOk l := by
 intro p hp
 obtain ⟨y, hy, hpy⟩ := (mem_partsL l p).1 hp
 obtain ⟨op, nm, tx, n, args⟩ := y
 rw [parts_mk] at hpy
 rcases List.mem_cons.1 hpy with rfl | hpy
 · exact (h _ hy).1
 · exact (h _ hy).2 p hpy
theorem u_slice : Tryz.prog.underlying 38 = some (.slice 40) := Tryz.underlying38
instance : Inhabited Ex := ⟨exD⟩
theorem bExE : Tryz.prog.bytesOf 40 = 72 := by kernel_rfl
theorem bFtE : Tryz.prog.bytesOf 62 = 48 := by kernel_rfl
def reachN : Nat := 140737488351232
theorem reachN_le : reachN ≤ 140737488355328 := by decide
/-- All weights of a reading are within reach. -/
def InReach {H : Type} (t : TypeId) (d : DataW H) : Prop := ∀ n ∈ d.weights Tryz.prog t, n ≤ reachN
theorem mem_wAll {H : Type} {P : Program} {e : TypeId} : ∀ (l : List (DataW H)) (d : DataW H), d ∈ l → ∀ n ∈ d.weights P e, n ∈ DataW.weightsAll P e l
 | [], d, h, _, _ => by cases h
 | c :: r, d, h, n, hn => by
  simp only [DataW.weightsAll, List.mem_append]
  rcases List.mem_cons.1 h with rfl | h
  · exact Or.inl hn
  · exact Or.inr (mem_wAll r d h n hn)
theorem reach_slice {H : Type} {t e : TypeId} (hu : Tryz.prog.underlying t = some (.slice e)) {elems spare : List (DataW H)} (h : InReach t (.slice elems spare)) : (elems.length + spare.length) * Tryz.prog.bytesOf e ≤ reachN ∧ ∀ d ∈ elems, InReach e d := by
 unfold InReach at h
 simp only [DataW.weights, hu, List.mem_cons, List.mem_append] at h
 exact ⟨h _ (Or.inl rfl), fun d hd n hn => h n (Or.inr (Or.inl (mem_wAll elems d hd n hn)))⟩
theorem reach_struct {H : Type} {t : TypeId} {fs : Array Field} (hu : Tryz.prog.underlying t = some (.struct fs)) {parts : List (DataW H)} (h : InReach t (.agg parts)) : ∀ (j : Nat) (f : Field) (d : DataW H), fs[j]? = some f → parts[j]? = some d → InReach f.type d := by
 intro j f d hf hd n hn
 unfold InReach at h
 simp only [DataW.weights, hu] at h
 exact h n (DataW.weights_mem_each (by simp [hf]) hd n hn)
theorem w_str {H : Type} {P : Program} {t : TypeId} {b : List UInt8} : (DataW.lit (.string b) : DataW H).weights P t = [b.length] := by simp [DataW.weights]
theorem reach_str {H : Type} {t : TypeId} {s : ByteArray} (h : InReach (H := H) t (.lit (.string s.data.toList))) : s.size ≤ 140737488355328 := by
 refine Nat.le_trans (h s.size ?_) reachN_le
 rw [w_str]
 exact List.mem_singleton.2 rfl
section
variable {H : Type} {enc : TypeId × Value → H} {W : World} {base : Nat} {sp : Nat → Bool} {held : Bool}
set_option maxRecDepth 4000 in
theorem open_exs : ∀ (fuel : Nat) (cs : List Value) (x : DataW H × List MemPlace), DataW.trod enc Tryz.prog W base sp held fuel 38 cs = some x → InReach 38 x.1 → ∃ v l, cs = [v] ∧ ExS W v l ∧ StrOk l := by
 intro fuel
 induction fuel using Nat.strongRecOn with
 | ind fuel ih =>
  intro cs x h hw
  rcases DataW.trod_slice u_slice h with ⟨rfl, -⟩ | ⟨a, len, cap, elems, rest, n, rfl, rfl, hx, -, hlc, hcm, hlen, hel, -, -⟩
  · exact ⟨_, [], rfl, .nil none 0, strOk_nil⟩
  · rw [hx] at hw
    obtain ⟨hwl, hwe⟩ := reach_slice u_slice hw
    rw [bExE, List.length_map, List.length_map, hlen] at hwl
    replace hwl := Nat.le_trans hwl reachN_le
    by_cases h0 : len = 0
    · subst h0
      exact ⟨_, [], rfl, .nil _ _, strOk_nil⟩
    · obtain ⟨f0, f1, f2, f3, f4, hu, ⟨o0, o1, o2, o3, o4⟩, t0, t1, t2, t3, t4⟩ := exFields
      have key : ∀ i, i < len → ∃ q : Ex × Value, (W.cell? (a.add (i * 5)) = some (.int .i64 q.1.op) ∧ W.cell? (a.add (i * 5 + 1)) = some (.string q.1.name) ∧ W.cell? (a.add (i * 5 + 2)) = some (.string q.1.text) ∧ W.cell? (a.add (i * 5 + 3)) = some (.int .i64 q.1.n) ∧ W.cell? (a.add (i * 5 + 4)) = some q.2) ∧ ExS W q.2 q.1.args ∧ (q.1.name.size ≤ 140737488355328 ∧ q.1.text.size ≤ 140737488355328) ∧ StrOk q.1.args := by
       intro i hi
       have hk := hel i hi
       rw [List.getElem?_eq_getElem (by omega)] at hk
       obtain ⟨cs', h1, h2⟩ := Option.bind_eq_some_iff.1 hk
       rw [cExE] at h1
       obtain ⟨-, hl5, hcell⟩ := World.cells?_some h1
       obtain ⟨xs, k, hkn, hxe, -, hxl, hf⟩ := DataW.trod_struct hu h2
       have hwi := hwe _ (List.mem_map.2 ⟨_, List.getElem_mem (show i < elems.length by omega), rfl⟩)
       rw [hxe] at hwi
       match cs', hl5, xs, hxl with
       | [v0, v1, v2, v3, v4], _, [y0, y1, y2, y3, y4], _ =>
        have w1 := reach_struct hu hwi 1 f1 y1.1 rfl rfl
        have w2 := reach_struct hu hwi 2 f2 y2.1 rfl rfl
        have w4 := reach_struct hu hwi 4 f4 y4.1 rfl rfl
        rw [t4] at w4
        have g0 := hf 0 f0 rfl
        have g1 := hf 1 f1 rfl
        have g2 := hf 2 f2 rfl
        have g3 := hf 3 f3 rfl
        have g4 := hf 4 f4 rfl
        rw [o0, t0, cIntE] at g0
        rw [o1, t1, cStrE] at g1
        rw [o2, t2, cStrE] at g2
        rw [o3, t3, cI64E] at g3
        rw [o4, t4, cExsE] at g4
        simp only [List.drop_zero, List.drop_succ_cons, List.take_succ_cons, List.take_zero, List.getElem?_cons_zero, List.getElem?_cons_succ] at g0 g1 g2 g3 g4
        obtain ⟨m0, q0, -, -⟩ := DataW.trod_int Tryz.underlying3 g0
        obtain ⟨m1, q1, r1, -⟩ := DataW.trod_string Tryz.underlying9 g1
        obtain ⟨m2, q2, r2, -⟩ := DataW.trod_string Tryz.underlying9 g2
        obtain ⟨m3, q3, -, -⟩ := DataW.trod_int Tryz.underlying2 g3
        obtain ⟨m4, l, q4, hS, hO⟩ := ih k (by omega) _ _ g4 w4
        rw [r1] at w1
        rw [r2] at w2
        have s1 := reach_str w1
        have s2 := reach_str w2
        simp only [List.cons.injEq, and_true] at q0 q1 q2 q3 q4
        subst q0 q1 q2 q3 q4
        have e0 := hcell 0 (by omega)
        have e1 := hcell 1 (by omega)
        have e2 := hcell 2 (by omega)
        have e3 := hcell 3 (by omega)
        have e4 := hcell 4 (by omega)
        rw [Go.Deep.add_add] at e0 e1 e2 e3 e4
        exact ⟨(.mk m0 m1 m2 m3 l, v4), ⟨e0, e1, e2, e3, e4⟩, hS, ⟨s1, s2⟩, hO⟩
      obtain ⟨q, hq⟩ := Go.Deep.choose_lt (α := Ex × Value) key
      obtain ⟨b, off, spot⟩ := a
      have hspot : spot = none := by simpa [Addr.add] using World.cell?_spot (hq 0 (by omega)).1.1
      subst hspot
      have hg : ∀ i, i < len → ((List.range len).map fun i => (q i).1).getD i exD = (q i).1 := by
       intro i hi
       simp [List.getD_eq_getElem?_getD, hi]
      refine ⟨_, (List.range len).map fun i => (q i).1, rfl, ?_, ?_⟩
      · have := ExS.row (w := W) b off cap ((List.range len).map fun i => (q i).1) (fun i => (q i).2) (by simp; omega) (by simp; omega) (by simp; omega)
         (fun i hi => by
          have hi : i < len := by simpa using hi
          obtain ⟨⟨c0, c1, c2, c3, c4⟩, -⟩ := hq i hi
          rw [Addr.add_lit] at c0 c1 c2 c3 c4
          rw [hg i hi]
          exact ⟨c0, by rw [← Nat.add_assoc] at c1; exact c1, by rw [← Nat.add_assoc] at c2; exact c2, by rw [← Nat.add_assoc] at c3; exact c3, by rw [← Nat.add_assoc] at c4; exact c4⟩)
         (fun i hi => by
          have hi : i < len := by simpa using hi
          rw [hg i hi]
          exact (hq i hi).2.1)
        simpa using this
      · refine strOk_of fun y hy => ?_
        obtain ⟨i, hi, rfl⟩ := List.mem_map.1 hy
        have hi := List.mem_range.1 hi
        exact (hq i hi).2.2
set_option maxRecDepth 4000 in
theorem open_ex {r : Reach} {b0 : Nat} {v : Value} {d : DataW H} {p : List MemPlace} (hv : Value.okWide Tryz.prog W r b0 40 v) (h : DataW.Trod enc Tryz.prog W base sp held 40 v d p) (hw : InReach 40 d) :
 ∃ (x : Ex) (u : Value), v = exAgg x u ∧ ExS W u x.args ∧ StrOk [x] := by
 obtain ⟨f0, f1, f2, f3, f4, hu, ⟨o0, o1, o2, o3, o4⟩, t0, t1, t2, t3, t4⟩ := exFields
 obtain ⟨cs, rfl, hsz⟩ := okWide_struct hu hv
 obtain ⟨fuel, hf⟩ := h
 obtain ⟨xs, k, hkn, hxe, -, hxl, hf⟩ := DataW.trod_struct hu hf
 simp only [Prod.mk.injEq] at hxe
 rw [hxe.1] at hw
 rw [cExE] at hsz
 obtain ⟨cl⟩ := cs
 have hl5 : cl.length = 5 := hsz
 match cl, hl5, xs, hxl with
 | [v0, v1, v2, v3, v4], _, [y0, y1, y2, y3, y4], _ =>
  have w1 := reach_struct hu hw 1 f1 y1.1 rfl rfl
  have w2 := reach_struct hu hw 2 f2 y2.1 rfl rfl
  have w4 := reach_struct hu hw 4 f4 y4.1 rfl rfl
  rw [t4] at w4
  have g0 := hf 0 f0 rfl
  have g1 := hf 1 f1 rfl
  have g2 := hf 2 f2 rfl
  have g3 := hf 3 f3 rfl
  have g4 := hf 4 f4 rfl
  rw [o0, t0, cIntE] at g0
  rw [o1, t1, cStrE] at g1
  rw [o2, t2, cStrE] at g2
  rw [o3, t3, cI64E] at g3
  rw [o4, t4, cExsE] at g4
  simp only [Value.cells, List.drop_zero, List.drop_succ_cons, List.take_succ_cons, List.take_zero, List.getElem?_cons_zero, List.getElem?_cons_succ] at g0 g1 g2 g3 g4
  obtain ⟨m0, q0, -, -⟩ := DataW.trod_int Tryz.underlying3 g0
  obtain ⟨m1, q1, r1, -⟩ := DataW.trod_string Tryz.underlying9 g1
  obtain ⟨m2, q2, r2, -⟩ := DataW.trod_string Tryz.underlying9 g2
  obtain ⟨m3, q3, -, -⟩ := DataW.trod_int Tryz.underlying2 g3
  obtain ⟨m4, l, q4, hS, hO⟩ := open_exs k _ _ g4 w4
  rw [r1] at w1
  rw [r2] at w2
  have s1 := reach_str w1
  have s2 := reach_str w2
  simp only [List.cons.injEq, and_true] at q0 q1 q2 q3 q4
  subst q0 q1 q2 q3 q4
  exact ⟨.mk m0 m1 m2 m3 l, v4, rfl, hS, strOk_of fun y hy => by rw [List.mem_singleton.1 hy]; exact ⟨⟨s1, s2⟩, hO⟩⟩
set_option maxRecDepth 8000 in
/-- A slice of structs of four one-cell fields, opened. -/
theorem open_quads {t e : TypeId} {f0 f1 f2 f3 : Field} {fuel : Nat} {cs : List Value} {x : DataW H × List MemPlace} (ht : Tryz.prog.underlying t = some (.slice e)) (he : Tryz.prog.underlying e = some (.struct #[f0, f1, f2, f3]))
 (ce : Tryz.prog.cellsOf e = 4) (ho : f0.offset = 0 ∧ f1.offset = 1 ∧ f2.offset = 2 ∧ f3.offset = 3) (c0 : Tryz.prog.cellsOf f0.type = 1) (c1 : Tryz.prog.cellsOf f1.type = 1) (c2 : Tryz.prog.cellsOf f2.type = 1) (c3 : Tryz.prog.cellsOf f3.type = 1)
 (h : DataW.trod enc Tryz.prog W base sp held fuel t cs = some x) (hw : InReach t x.1) :
 cs = [.slice none 0 0] ∨ ∃ (a : Addr) (len cap : Nat), cs = [.slice (some a) len cap] ∧ len ≤ cap ∧ len * Tryz.prog.bytesOf e ≤ reachN ∧ ∀ i, i < len → ∃ v0 v1 v2 v3 y0 y1 y2 y3 n,
  (W.cell? (a.add (i * 4)) = some v0 ∧ W.cell? (a.add (i * 4 + 1)) = some v1 ∧ W.cell? (a.add (i * 4 + 2)) = some v2 ∧ W.cell? (a.add (i * 4 + 3)) = some v3) ∧
  DataW.trod enc Tryz.prog W base sp held n f0.type [v0] = some y0 ∧ DataW.trod enc Tryz.prog W base sp held n f1.type [v1] = some y1 ∧ DataW.trod enc Tryz.prog W base sp held n f2.type [v2] = some y2 ∧ DataW.trod enc Tryz.prog W base sp held n f3.type [v3] = some y3 ∧ InReach f0.type y0.1 ∧ InReach f1.type y1.1 ∧ InReach f2.type y2.1 ∧ InReach f3.type y3.1 := by
 obtain ⟨o0, o1, o2, o3⟩ := ho
 rcases DataW.trod_slice ht h with ⟨rfl, -⟩ | ⟨a, len, cap, elems, rest, n, rfl, rfl, hx, -, hlc, hcm, hlen, hel, -, -⟩
 · exact Or.inl rfl
 · rw [hx] at hw
   obtain ⟨hwl, hwe⟩ := reach_slice ht hw
   rw [List.length_map, List.length_map, hlen] at hwl
   refine Or.inr ⟨a, len, cap, rfl, hlc, Nat.le_trans (Nat.mul_le_mul_right _ (Nat.le_add_right len _)) hwl, fun i hi => ?_⟩
   have hk := hel i hi
   rw [List.getElem?_eq_getElem (by omega)] at hk
   obtain ⟨cs', h1, h2⟩ := Option.bind_eq_some_iff.1 hk
   rw [ce] at h1
   obtain ⟨-, hl4, hcell⟩ := World.cells?_some h1
   obtain ⟨xs, k, hkn, hxe, -, hxl, hf⟩ := DataW.trod_struct he h2
   have hwi := hwe _ (List.mem_map.2 ⟨_, List.getElem_mem (show i < elems.length by omega), rfl⟩)
   rw [hxe] at hwi
   match cs', hl4, xs, hxl with
   | [v0, v1, v2, v3], _, [y0, y1, y2, y3], _ =>
    have g0 := hf 0 f0 rfl
    have g1 := hf 1 f1 rfl
    have g2 := hf 2 f2 rfl
    have g3 := hf 3 f3 rfl
    rw [o0, c0] at g0
    rw [o1, c1] at g1
    rw [o2, c2] at g2
    rw [o3, c3] at g3
    simp only [List.drop_zero, List.drop_succ_cons, List.take_succ_cons, List.take_zero, List.getElem?_cons_zero, List.getElem?_cons_succ] at g0 g1 g2 g3
    have e0 := hcell 0 (by omega)
    have e1 := hcell 1 (by omega)
    have e2 := hcell 2 (by omega)
    have e3 := hcell 3 (by omega)
    rw [Go.Deep.add_add] at e0 e1 e2 e3
    exact ⟨v0, v1, v2, v3, y0, y1, y2, y3, k, ⟨e0, e1, e2, e3⟩, g0, g1, g2, g3, reach_struct he hwi 0 f0 y0.1 rfl rfl, reach_struct he hwi 1 f1 y1.1 rfl rfl, reach_struct he hwi 2 f2 y2.1 rfl rfl, reach_struct he hwi 3 f3 y3.1 rfl rfl⟩
instance : Inhabited Feat := ⟨fD⟩
/-- What is known besides of a slice of features that came in. -/
def FtOk (v : Value) (l : List Feat) : Prop := (∀ f ∈ l, f.name.size ≤ 140737488355328 ∧ f.text.size ≤ 140737488355328) ∧ (v = .slice none 0 0 ∨ ∃ a n c, v = .slice (some a) n c)
theorem open_feats {v : Value} {d : DataW H} {p : List MemPlace} (hc : v.cells.toList = [v]) (h : DataW.Trod enc Tryz.prog W base sp held 33 v d p) (hw : InReach 33 d) : ∃ l, FeatsL W v l ∧ FtOk v l := by
 obtain ⟨fuel, h⟩ := h
 obtain ⟨f0, f1, f2, f3, hu, ho, t0, t1, t2, t3⟩ := ftFields
 rw [hc] at h
 rcases open_quads Tryz.underlying33 hu cFtE ho (by rw [t0]; exact cStrE) (by rw [t1]; exact cIntE) (by rw [t2]; exact cI64E) (by rw [t3]; exact cStrE) h hw with h0 | ⟨a, len, cap, h0, hlc, hcm, hx⟩
 · obtain rfl : v = _ := by simpa using h0
   exact ⟨[], ⟨by simp, Or.inl ⟨none, 0, rfl, rfl⟩⟩, by simp, Or.inl rfl⟩
 · obtain rfl : v = _ := by simpa using h0
   by_cases hz : len = 0
   · subst hz
     exact ⟨[], ⟨by simp, Or.inl ⟨_, _, rfl, rfl⟩⟩, by simp, Or.inr ⟨_, _, _, rfl⟩⟩
   · have key : ∀ i, i < len → ∃ f : Feat, (W.cell? (a.add (i * 4)) = some (.string f.name) ∧ W.cell? (a.add (i * 4 + 1)) = some (.int .i64 f.kind) ∧ W.cell? (a.add (i * 4 + 2)) = some (.int .i64 f.n) ∧ W.cell? (a.add (i * 4 + 3)) = some (.string f.text)) ∧ f.name.size ≤ 140737488355328 ∧ f.text.size ≤ 140737488355328 := by
      intro i hi
      obtain ⟨v0, v1, v2, v3, y0, y1, y2, y3, n, ⟨e0, e1, e2, e3⟩, g0, g1, g2, g3, u0, -, -, u3⟩ := hx i hi
      rw [t0] at g0
      rw [t1] at g1
      rw [t2] at g2
      rw [t3] at g3
      obtain ⟨m0, q0, r0, -⟩ := DataW.trod_string Tryz.underlying9 g0
      obtain ⟨m1, q1, -, -⟩ := DataW.trod_int Tryz.underlying3 g1
      obtain ⟨m2, q2, -, -⟩ := DataW.trod_int Tryz.underlying2 g2
      obtain ⟨m3, q3, r3, -⟩ := DataW.trod_string Tryz.underlying9 g3
      simp only [List.cons.injEq, and_true] at q0 q1 q2 q3
      subst q0 q1 q2 q3
      rw [r0] at u0
      rw [r3] at u3
      have s0 := reach_str u0
      have s3 := reach_str u3
      exact ⟨⟨m0, m1, m2, m3⟩, ⟨e0, e1, e2, e3⟩, s0, s3⟩
     obtain ⟨q, hq⟩ := Go.Deep.choose_lt (α := Feat) key
     obtain ⟨b, off, spot⟩ := a
     have hspot : spot = none := by simpa [Addr.add] using World.cell?_spot (hq 0 (by omega)).1.1
     subst hspot
     refine ⟨(List.range len).map q, ⟨by rw [bFtE] at hcm; have := Nat.le_trans hcm reachN_le; simp; omega, Or.inr ⟨b, off, cap, by simp, fun i hi => ?_⟩⟩, fun f hf => ?_, Or.inr ⟨_, _, _, rfl⟩⟩
     · have hi : i < len := by simpa using hi
       obtain ⟨⟨c0, c1, c2, c3⟩, -⟩ := hq i hi
       rw [Addr.add_lit] at c0 c1 c2 c3
       have hg : ((List.range len).map q).getD i fD = q i := by simp [List.getD_eq_getElem?_getD, hi]
       rw [hg]
       exact ⟨c0, by rw [← Nat.add_assoc] at c1; exact c1, by rw [← Nat.add_assoc] at c2; exact c2, by rw [← Nat.add_assoc] at c3; exact c3⟩
     · obtain ⟨i, hi, rfl⟩ := List.mem_map.1 hf
       exact (hq i (List.mem_range.1 hi)).2
end
section
variable {H : Type} {enc : TypeId × Value → H} {W W' : World} {sp : Nat → Bool}
set_option maxRecDepth 100000 in
theorem shut_ex {v : Value} {d : DataW H} {p : List MemPlace} (h : DataW.Trod enc Tryz.prog W 0 (fun _ => true) true 40 v d p) (hE : Ext W W') (hlt : ∀ x ∈ p, x.block < W.heap.size) (hsp : ∀ x ∈ p, sp x.block = true) :
 DataW.Trod enc Tryz.prog W' 0 sp true 40 v d p :=
 Trod_stays laidB (by kernel_rfl) (of_decide_eq_true (by kernel_rfl)) h (fun x hx => hE.below.same (hlt x hx)) hsp
set_option maxRecDepth 100000 in
theorem shut_feats {v : Value} {d : DataW H} {p : List MemPlace} (h : DataW.Trod enc Tryz.prog W 0 (fun _ => true) true 33 v d p) (hE : Ext W W') (hlt : ∀ x ∈ p, x.block < W.heap.size) (hsp : ∀ x ∈ p, sp x.block = true) :
 DataW.Trod enc Tryz.prog W' 0 sp true 33 v d p :=
 Trod_stays laidB (by kernel_rfl) (of_decide_eq_true (by kernel_rfl)) h (fun x hx => hE.below.same (hlt x hx)) hsp
end
end Go.Proofs.YtangdoidkcelfaaGreatDoor
namespace Go.Proofs.YtangdoidkcelfaaGreatDoor
open Go.ChangeShapes Go.WideShapes Go.ChangeAt Go.WideMaps Go.WideElems Go.RowKit
theorem own : ownKnob Tryz.prog.godebug = none := by kernel_rfl
/-- The row's post where only new memory was made: nothing is said of marks on new cells (the row does not say 'again'). -/
theorem post_of_ext {H : Type} {enc : TypeId × Value → H} {P : Program} {f : Func} {s : ChangeSpec} {apart fresh handsOn : Bool} {W W' : World} {args : Array Value} {v : Value} {ds gs : List (DataW H)} {before pa pv : List MemPlace}
 (hW : DataW.Whole enc P f.params.toList s.vars apart W args.toList ds gs before)
 (hres : ∀ (b : Nat) (sp : Nat → Bool) (hd : Bool), DataW.TrodAll enc P W' b sp hd f.resultTypes.toList (v.resultList f.resultTypes.size) (s.fn H (ds ++ gs)).results [])
 (hargs : ∀ sp : Nat → Bool, (∀ p ∈ before, sp p.block = true) → DataW.TrodAll enc P W' 0 sp true f.params.toList args.toList (s.fn H (ds ++ gs)).args pa)
 (hvars : ∀ sp : Nat → Bool, (∀ p ∈ before, sp p.block = true) → DataW.TrodVars enc P W' sp s.vars (s.fn H (ds ++ gs)).vars pv)
 (hps : before = pa ++ pv) (hk : W.keptBut W' (· ∈ before)) : s.post enc P f apart fresh handsOn false W args v W' := by
 have hold : ∀ p ∈ before, (fun b => decide (b < W.heap.size)) p.block = true := fun p hp => by simpa using hW.lt p hp
 refine ⟨ds, gs, before, [], pa, pv, hW, hres _ _ _, hargs _ hold, hvars _ hold, World.keptBut_mono (fun p hp => ⟨hp, ?_⟩) hk, fun h => by cases h⟩
 rw [hps, List.mem_append] at hp
 exact Or.inr hp
end Go.Proofs.YtangdoidkcelfaaGreatDoor
