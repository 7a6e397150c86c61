/- Verdicts and messages among the arguments, and what is laid (printed by gen/h53.py). -/
import Derived.Test.YtangdoidkcelfaaGreatDoorNl
import Derived.Test.YtangdoidkcelfaaGreatDoorEl
import Derived.Test.YtangdoidkcelfaaGreatDoorRows
import Derived.Lib.SmallJoins
import Derived.Deep.SlicePairs
import Derived.Carry
import Derived.LaidMore
import Derived.Lib.LaidTab
namespace Go.Proofs.YtangdoidkcelfaaGreatDoor
open Go.ChangeShapes Go.WideShapes Go.ChangeAt Go.WideMaps Go.WideElems Go.RowKit
theorem oneMsg : ∃ f0 f1 : Field, Tryz.prog.underlying 27 = some (.struct #[f0, f1]) ∧ Go.Deep.oneCellFields Tryz.prog #[f0, f1] = true ∧ f0.type = 3 ∧ f1.type = 25 := ⟨_, _, Tryz.underlying27, by kernel_rfl, rfl, rfl⟩
theorem cMsg : Tryz.prog.cellsOf 27 = 2 := by kernel_rfl
theorem cEl : Tryz.prog.cellsOf 30 = 2 := by kernel_rfl
theorem oneEl : ∃ f0 f1 : Field, Tryz.prog.underlying 30 = some (.struct #[f0, f1]) ∧ f0.offset = 0 ∧ f1.offset = 1 ∧ f0.type = 3 ∧ f1.type = 9 := ⟨_, _, Tryz.underlying30, rfl, rfl, rfl, rfl⟩
def vInt : Value → Int | .int _ n => n | _ => 0
def vStr : Value → ByteArray | .string s => s | _ => ⟨#[]⟩
set_option maxRecDepth 100000 in
theorem open_msg {H : Type} {enc : TypeId × Value → H} {W : World} {base b0 : Nat} {sp : Nat → Bool} {held : Bool} {r : Reach} {v : Value} {d : DataW H} {p : List MemPlace}
 (hv : Value.okWide Tryz.prog W r b0 27 v) (h : DataW.Trod enc Tryz.prog W base sp held 27 v d p) :
 ∃ (ty : Int) (u : Value) (es : List El), v = msgAgg ty u ∧ Elems W u es := by
 obtain ⟨f0, f1, hu, ho, ht0, ht1⟩ := oneMsg
 obtain ⟨v0, v1, y0, y1, n, rfl, _, _, h0, h1⟩ := Go.Joins.open_agg2 hu ho cMsg hv h
 rw [ht0] at h0
 rw [ht1] at h1
 obtain ⟨ty, e0, _, _⟩ := DataW.trod_int Tryz.underlying3 h0
 obtain ⟨g0, g1, hue, o0, o1, k0, k1⟩ := oneEl
 cases e0
 rcases Go.Deep.open_slice_pairs (f0 := g0) (f1 := g1) Tryz.underlying25 hue cEl o0 o1 (by rw [k0]; exact cIntE) (by rw [k1]; exact cStrE) h1 with ⟨hc, _⟩ | ⟨a, len, cap, m, n', V0, V1, D0, D1, P0, P1, hc, _, hlc, hcm, hm, _, hx⟩
 · cases hc
   exact ⟨ty, _, [], rfl, ⟨none, 0, rfl, fun h => by cases h⟩⟩
 · cases hc
   have hlm : len ≤ m := by rw [hm]; split <;> omega
   have key : ∀ i, i < len → ∃ (z : Int) (s : ByteArray), V0 i = .int .i64 z ∧ V1 i = .string s ∧ s.size ≤ maxLen := by
    intro i hi
    obtain ⟨_, _, q0, q1⟩ := hx i (by omega)
    rw [k0] at q0
    rw [k1] at q1
    obtain ⟨z, e1, _⟩ := DataW.trod_int Tryz.underlying3 q0
    obtain ⟨s, e2, _, hs⟩ := DataW.trod_string Tryz.underlying9 q1
    exact ⟨z, s, by simpa using e1, by simpa using e2, hs⟩
   refine ⟨ty, _, (List.range len).map fun i => (vInt (V0 i), vStr (V1 i)), rfl, ⟨some a, cap, by simp, fun hpos => ?_⟩⟩
   · have hpos : 0 < len := by simpa using hpos
     obtain ⟨b, off, spot⟩ := a
     obtain ⟨c0, _⟩ := hx 0 (by omega)
     have hspot : spot = none := by simpa [Addr.add] using World.cell?_spot c0
     subst hspot
     refine ⟨b, off, rfl, fun i hi => ?_⟩
     have hi : i < len := by simpa using hi
     obtain ⟨q0, q1, _, _⟩ := hx i (by omega)
     obtain ⟨z, s, e0, e1, _⟩ := key i hi
     rw [Addr.add_lit] at q0 q1
     have eg : ((List.range len).map fun i => (vInt (V0 i), vStr (V1 i))).getD i elD = (z, s) := by
      simp [hi, e0, e1, vInt, vStr]
     rw [eg]
     exact ⟨by rw [q0, e0], by rw [← Nat.add_assoc] at q1; rw [q1, e1]⟩
set_option maxRecDepth 100000 in
theorem shut_msg {H : Type} {enc : TypeId × Value → H} {W W' : World} {sp : Nat → Bool} {v : Value} {d : DataW H} {p : List MemPlace}
 (h : DataW.Trod enc Tryz.prog W 0 (fun _ => true) true 27 v d p) (hE : Ext W W') (hlt : ∀ x ∈ p, x.block < W.heap.size) (hsp : ∀ x ∈ p, sp x.block = true) :
 DataW.Trod enc Tryz.prog W' 0 sp true 27 v d p :=
 Trod_stays laidB (by kernel_rfl) (of_decide_eq_true (by kernel_rfl)) h (fun x hx => hE.below.same (hlt x hx)) hsp
theorem cSSE : Tryz.prog.cellsOf 22 = 1 := by kernel_rfl
theorem cVerE : Tryz.prog.cellsOf 24 = 3 := by kernel_rfl
theorem verFields : ∃ f0 f1 f2 : Field, Tryz.prog.underlying 24 = some (.struct #[f0, f1, f2]) ∧ (f0.offset = 0 ∧ f1.offset = 1 ∧ f2.offset = 2) ∧ f0.type = 3 ∧ f1.type = 3 ∧ f2.type = 22 := ⟨_, _, _, Tryz.underlying24, ⟨rfl, rfl, rfl⟩, rfl, rfl, rfl⟩
instance : Inhabited ByteArray := ⟨⟨#[]⟩⟩
section
variable {H : Type} {enc : TypeId × Value → H} {W : World} {base : Nat} {sp : Nat → Bool} {held : Bool}
theorem open_strs {k : Nat} {v : Value} {x : DataW H × List MemPlace} (h : DataW.trod enc Tryz.prog W base sp held k 22 [v] = some x) : ∃ l : List ByteArray, KysL W v l := by
 rcases DataW.trod_slice Tryz.underlying22 h with ⟨h0, -⟩ | ⟨a, len, cap, elems, rest, n, rfl, h0, hx, -, hlc, hcm, hlen, hel, -, -⟩
 · obtain rfl : v = _ := by simpa using h0
   exact ⟨[], none, 0, rfl, fun h => by cases h⟩
 · obtain rfl : v = _ := by simpa using h0
   by_cases hz : len = 0
   · subst hz
     exact ⟨[], _, _, rfl, fun h => by cases h⟩
   · have key : ∀ i, i < len → ∃ s : ByteArray, W.cell? (a.add (i * 1)) = some (.string s) := by
      intro i hi
      have hk := hel i hi
      rw [List.getElem?_eq_getElem (by omega)] at hk
      obtain ⟨cs', h1, h2⟩ := Option.bind_eq_some_iff.1 hk
      rw [cStrE] at h1
      obtain ⟨-, hl1, hcell⟩ := World.cells?_some h1
      match cs', hl1 with
      | [v0], _ =>
       obtain ⟨m0, q0, -, -⟩ := DataW.trod_string Tryz.underlying9 h2
       have e0 := hcell 0 (by omega)
       rw [Go.Deep.add_add] at e0
       simp only [List.cons.injEq, and_true] at q0
       subst q0
       exact ⟨m0, e0⟩
     obtain ⟨q, hq⟩ := Go.Deep.choose_lt (α := ByteArray) key
     obtain ⟨b, off, spot⟩ := a
     have hspot : spot = none := by simpa [Addr.add] using World.cell?_spot (hq 0 (by omega))
     subst hspot
     refine ⟨(List.range len).map q, _, cap, by simp, fun _ => ⟨b, off, rfl, fun i hi => ?_⟩⟩
     have hi : i < len := by simpa using hi
     have c0 := hq i hi
     rw [Addr.add_lit, Nat.mul_one] at c0
     have hg : ((List.range len).map q).getD i ⟨#[]⟩ = q i := by simp [List.getD_eq_getElem?_getD, hi]
     rw [hg]
     exact c0
set_option maxRecDepth 8000 in
theorem open_ver {r : Reach} {b0 : Nat} {v : Value} {d : DataW H} {p : List MemPlace} (hv : Value.okWide Tryz.prog W r b0 24 v) (h : DataW.Trod enc Tryz.prog W base sp held 24 v d p) : ∃ (act sc : Int) (fv : Value) (fl : List ByteArray), v = .agg #[.int .i64 act, .int .i64 sc, fv] ∧ (-9223372036854775808 ≤ sc ∧ sc ≤ 9223372036854775807) ∧ KysL W fv fl := by
 obtain ⟨f0, f1, f2, hu, ⟨o0, o1, o2⟩, t0, t1, t2⟩ := verFields
 obtain ⟨cs, rfl, hsz⟩ := okWide_struct hu hv
 obtain ⟨fuel, hf⟩ := h
 obtain ⟨xs, k, hkn, hxe, -, hxl, hf⟩ := DataW.trod_struct hu hf
 rw [cVerE] at hsz
 obtain ⟨cl⟩ := cs
 have hl3 : cl.length = 3 := hsz
 match cl, hl3, xs, hxl with
 | [v0, v1, v2], _, [y0, y1, y2], _ =>
  have g0 := hf 0 f0 rfl
  have g1 := hf 1 f1 rfl
  have g2 := hf 2 f2 rfl
  rw [o0, t0, cIntE] at g0
  rw [o1, t1, cIntE] at g1
  rw [o2, t2, cSSE] at g2
  simp only [Value.cells, List.drop_zero, List.drop_succ_cons, List.take_succ_cons, List.take_zero, List.getElem?_cons_zero, List.getElem?_cons_succ] at g0 g1 g2
  obtain ⟨m0, q0, -, k0⟩ := DataW.trod_int Tryz.underlying3 g0
  obtain ⟨m1, q1, -, k1⟩ := DataW.trod_int Tryz.underlying3 g1
  obtain ⟨l, hl⟩ := open_strs g2
  simp only [List.cons.injEq, and_true] at q0 q1
  subst q0 q1
  exact ⟨m0, m1, v2, l, rfl, bounds_i64 k1, hl⟩
end
set_option maxRecDepth 100000 in
theorem shut_ver {H : Type} {enc : TypeId × Value → H} {W W' : World} {sp : Nat → Bool} {v : Value} {d : DataW H} {p : List MemPlace}
 (h : DataW.Trod enc Tryz.prog W 0 (fun _ => true) true 24 v d p) (hE : Ext W W') (hlt : ∀ x ∈ p, x.block < W.heap.size) (hsp : ∀ x ∈ p, sp x.block = true) :
 DataW.Trod enc Tryz.prog W' 0 sp true 24 v d p :=
 Trod_stays laidB (by kernel_rfl) (of_decide_eq_true (by kernel_rfl)) h (fun x hx => hE.below.same (hlt x hx)) hsp
theorem reach_arg {H : Type} {ts : List TypeId} {ds : List (DataW H)} (h : (DataW.weightsEach Tryz.prog ts ds).all (· ≤ reachBytes) = true) (j : Nat) (t : TypeId) (d : DataW H) (ht : ts[j]? = some t) (hd : ds[j]? = some d) : InReach t d := by
 intro n hn
 have := List.all_eq_true.1 h n (DataW.weights_mem_each ht hd n hn)
 exact of_decide_eq_true this
theorem tPowE : (Tryz.prog.globals[0]?).map (·.type) = some 204 := by kernel_rfl
theorem cU64E : Tryz.prog.cellsOf 169 = 1 := by kernel_rfl
theorem cPowE : Tryz.prog.cellsOf 204 = 20 := by kernel_rfl
theorem pow_data : (Rows.laid_internal_strconv_uint64pow10 : DataW Unit) = Lib.tabData .u64 Lib.pow10Tab := by kernel_rfl
/-- The list of the rows' cell 'laid'. -/
def laidL : List (String × DataW Unit) := [("math/bits.deBruijn32tab", Rows.laid_math_bits_deBruijn32tab), ("math/bits.deBruijn64tab", Rows.laid_math_bits_deBruijn64tab), ("internal/strconv.uint64pow10", Rows.laid_internal_strconv_uint64pow10)]
theorem of_laid {W : World} (h : laidMetH Tryz.prog laidL W) : Gw W := by
 rw [MakeChecks.laidMetH_plain _ _ _ (by kernel_rfl)] at h
 obtain ⟨ps, ⟨g0, t0, cs0, f0, p0, q0, hg0, ht0, hv0, hd0, ⟨g1, t1, cs1, f1, p1, q1, hg1, ht1, hv1, hd1, ⟨g2, t2, cs2, f2, p2, q2, hg2, ht2, hv2, hd2, _⟩, _⟩, _⟩, _⟩ := h
 obtain rfl := Option.some.inj (gPowE.symm.trans hg2)
 obtain rfl := Option.some.inj (tPowE.symm.trans ht2)
 unfold Gw Lib.TabIs
 rw [pow_data] at hd2
 rw [hv2, ← Lib.cells_of_tab Tryz.underlying204 Tryz.underlying169 cU64E cPowE hd2]
end Go.Proofs.YtangdoidkcelfaaGreatDoor
