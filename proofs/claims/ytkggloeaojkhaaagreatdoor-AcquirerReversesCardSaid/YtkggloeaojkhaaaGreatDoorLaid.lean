/- From the row's condition on the package-level variables to what the walks ask (Gl); the witness's heap. -/
import Derived.Test.YtkggloeaojkhaaaGreatDoorRows
import Derived.Test.YtkggloeaojkhaaaGreatDoorQa
import Derived.ProofKit
import Derived.LaidMore
import Derived.OpenShut
import Derived.Stop.Joined
import Derived.Lib.LaidTab
namespace Go.Proofs.YtkggloeaojkhaaaGreatDoor
open Go.ChangeShapes Go.WideShapes Go.ChangeAt Go.WideMaps Go.WideElems Go.RowKit

theorem own : ownKnob Tryz.prog.godebug = none := by kernel_rfl
theorem gDict : Tryz.prog.globalNamed "cardnet/element.dictionary" = some 0 := by kernel_rfl
theorem tDict : (Tryz.prog.globals[0]?).map (·.type) = some 238 := by kernel_rfl
theorem tPow : (Tryz.prog.globals[2]?).map (·.type) = some 272 := by kernel_rfl
theorem cSpec : Tryz.prog.cellsOf 206 = 5 := by kernel_rfl
theorem cDict : Tryz.prog.cellsOf 238 = 115 := by kernel_rfl
theorem cInt : Tryz.prog.cellsOf 3 = 1 := by kernel_rfl
theorem cStr : Tryz.prog.cellsOf 9 = 1 := by kernel_rfl
theorem cU64 : Tryz.prog.cellsOf 139 = 1 := by kernel_rfl
theorem cPow : Tryz.prog.cellsOf 272 = 20 := by kernel_rfl

theorem rows_of_flat {α : Type} (R : Nat → List α) : ∀ (n : Nat) (cs : List α) (j : Nat), cs.length = 5 * n → (∀ i, i < n → (cs.drop (i * 5)).take 5 = R (j + i)) → cs = (List.range' j n).flatMap R
 | 0, cs, j, hl, _ => by rw [List.length_eq_zero_iff.1 (show cs.length = 0 by omega)]; rfl
 | n + 1, cs, j, hl, h => by
  have h0 := h 0 (by omega)
  have ih := rows_of_flat R n (cs.drop 5) (j + 1) (by rw [List.length_drop]; omega) (fun i hi => by
   have := h (i + 1) (by omega)
   rw [List.drop_drop, show 5 + i * 5 = (i + 1) * 5 by omega, this, show j + (i + 1) = j + 1 + i by omega])
  rw [List.range'_succ, List.flatMap_cons, ← ih, ← show j + 0 = j from rfl, ← h0]
  simp

theorem list5 {α : Type} {l : List α} (h : l.length = 5) : ∃ a b c d e, l = [a, b, c, d, e] := by
 match l, h with
 | [a, b, c, d, e], _ => exact ⟨a, b, c, d, e, rfl⟩
section
variable {enc : TypeId × Value → Unit} {W : World} {base : Nat} {sp : Nat → Bool} {held : Bool}
theorem spec_cells {fuel : Nat} {cs : List Value} {x : DataW Unit × List MemPlace} (h : DataW.trod enc Tryz.prog W base sp held fuel 206 cs = some x) :
 ∃ (a : Int) (s : ByteArray) (b c d : Int), cs = [.int .i64 a, .string s, .int .i64 b, .int .i64 c, .int .i64 d] ∧ x.1 = .agg [.lit (.int .i64 a), .lit (.string s.data.toList), .lit (.int .i64 b), .lit (.int .i64 c), .lit (.int .i64 d)] := by
 obtain ⟨xs, n, _, rfl, hl, hlen, hf⟩ := DataW.trod_struct Tryz.underlying206 h
 rw [cSpec] at hl
 obtain ⟨c0, c1, c2, c3, c4, rfl⟩ := list5 hl
 obtain ⟨x0, x1, x2, x3, x4, rfl⟩ := list5 (show xs.length = 5 from hlen)
 · have f0 : DataW.trod enc Tryz.prog W base sp held n 3 (([c0, c1, c2, c3, c4].drop 0).take (Tryz.prog.cellsOf 3)) = some x0 := hf 0 _ rfl
   have f1 : DataW.trod enc Tryz.prog W base sp held n 9 (([c0, c1, c2, c3, c4].drop 1).take (Tryz.prog.cellsOf 9)) = some x1 := hf 1 _ rfl
   have f2 : DataW.trod enc Tryz.prog W base sp held n 3 (([c0, c1, c2, c3, c4].drop 2).take (Tryz.prog.cellsOf 3)) = some x2 := hf 2 _ rfl
   have f3 : DataW.trod enc Tryz.prog W base sp held n 3 (([c0, c1, c2, c3, c4].drop 3).take (Tryz.prog.cellsOf 3)) = some x3 := hf 3 _ rfl
   have f4 : DataW.trod enc Tryz.prog W base sp held n 3 (([c0, c1, c2, c3, c4].drop 4).take (Tryz.prog.cellsOf 3)) = some x4 := hf 4 _ rfl
   rw [cInt] at f0 f2 f3 f4
   rw [cStr] at f1
   obtain ⟨a, e0, r0, _⟩ := DataW.trod_int Tryz.underlying3 f0
   obtain ⟨s, e1, r1, _⟩ := DataW.trod_string Tryz.underlying9 f1
   obtain ⟨b, e2, r2, _⟩ := DataW.trod_int Tryz.underlying3 f2
   obtain ⟨c, e3, r3, _⟩ := DataW.trod_int Tryz.underlying3 f3
   obtain ⟨d, e4, r4, _⟩ := DataW.trod_int Tryz.underlying3 f4
   simp at e0 e1 e2 e3 e4
   subst e0 e1 e2 e3 e4 r0 r1 r2 r3 r4
   exact ⟨a, s, b, c, d, rfl, rfl⟩

/-- The datum of row k. -/
def rowD (k : Nat) : DataW Unit := .agg [.lit (.int .i64 (dNum k)), .lit (.string (dName k).data.toList), .lit (.int .i64 (dKind k)), .lit (.int .i64 (dLen k)), .lit (.int .i64 (dVar k))]
theorem dict_rows : (Rows.laid_cardnet_element_dictionary : DataW Unit) = .agg ((List.range 23).map rowD) := by kernel_rfl
theorem dict_flat : dCells.toList = (List.range' 0 23).flatMap (fun k => (rowVal k).toList) := by kernel_rfl
theorem dict_cells {fuel : Nat} {cs : List Value} {p : List MemPlace} (h : DataW.trod enc Tryz.prog W base sp held fuel 238 cs = some (Rows.laid_cardnet_element_dictionary, p)) : cs = dCells.toList := by
 obtain ⟨xs, m, _, hx, hl, hlen, hf⟩ := DataW.trod_array Tryz.underlying238 h
 rw [cDict] at hl
 rw [dict_rows] at hx
 simp only [Prod.mk.injEq, DataW.agg.injEq] at hx
 rw [dict_flat]
 refine rows_of_flat _ 23 cs 0 (by omega) (fun i hi => ?_)
 have hi' := hf i hi
 rw [cSpec] at hi'
 have hxi : xs[i]? = some xs[i] := List.getElem?_eq_getElem (by omega)
 rw [hxi] at hi'
 obtain ⟨a, s, b, c, d, e, r⟩ := spec_cells hi'
 rw [e, Nat.zero_add]
 have h2 : rowD i = xs[i].1 := by
  have := congrArg (fun l => l[i]?) hx.1
  simpa [hi, hxi] using this
 rw [r] at h2
 unfold rowD at h2
 simp only [DataW.agg.injEq, List.cons.injEq, DataW.lit.injEq, Lit.int.injEq, Lit.string.injEq, and_true, true_and] at h2
 obtain ⟨h1, h2, h3, h4, h5⟩ := h2
 have hs : dName i = s := Go.WideShapes.bytes_inj h2
 show _ = [_, _, _, _, _]
 rw [h1, hs, h3, h4, h5]
end
theorem pow_data : (Rows.laid_internal_strconv_uint64pow10 : DataW Unit) = Lib.tabData .u64 Lib.pow10Tab := by kernel_rfl

/-- The list of the rows' cell 'laid'. -/
def laidL : List (String × DataW Unit) := [("math/bits.deBruijn32tab", Rows.laid_math_bits_deBruijn32tab), ("math/bits.deBruijn64tab", Rows.laid_math_bits_deBruijn64tab), ("internal/strconv.uint64pow10", Rows.laid_internal_strconv_uint64pow10), ("unicode/utf8.acceptRanges", Rows.laid_unicode_utf8_acceptRanges), ("cardnet/element.dictionary", Rows.laid_cardnet_element_dictionary), ("unicode/utf8.first", Rows.laid_unicode_utf8_first)]
theorem of_laid {W : World} (h : laidMetH Tryz.prog laidL W) : Gl W := by
 rw [MakeChecks.laidMetH_plain _ _ _ (by kernel_rfl)] at h
 obtain ⟨ps, ⟨g0, t0, cs0, f0, p0, q0, hg0, ht0, hv0, hd0, ⟨g1, t1, cs1, f1, p1, q1, hg1, ht1, hv1, hd1, ⟨g2, t2, cs2, f2, p2, q2, hg2, ht2, hv2, hd2, ⟨g3, t3, cs3, f3, p3, q3, hg3, ht3, hv3, hd3, ⟨g4, t4, cs4, f4, p4, q4, hg4, ht4, hv4, hd4, _⟩, _⟩, _⟩, _⟩, _⟩, _⟩ := h
 obtain rfl := Option.some.inj (gPow.symm.trans hg2)
 obtain rfl := Option.some.inj (gDict.symm.trans hg4)
 obtain rfl := Option.some.inj (tPow.symm.trans ht2)
 obtain rfl := Option.some.inj (tDict.symm.trans ht4)
 constructor
 · have e := dict_cells hd4
   have e' : cs4 = dCells := by cases cs4; simp at e; simp [e]
   subst e'
   simp only [World.var?, hg4, Option.bind_some] at hv4
   split at hv4
   · rename_i c t fr hb
     cases hv4
     exact ⟨t, fr, hb⟩
   · cases hv4
 · unfold Lib.TabIs
   rw [pow_data] at hd2
   rw [hv2, ← Lib.cells_of_tab Tryz.underlying272 Tryz.underlying139 cU64 cPow hd2]

/-- The row's post where only new memory was made: nothing is said of marks on new cells (the row does not say 'again'). -/
theorem post_of_ext {H : Type} {enc : TypeId × Value → H} {P : Program} {f : Func} {s : ChangeSpec} {apart fresh handsOn : Bool} {W W' : World} {args : Array Value} {v : Value} {ds gs : List (DataW H)} {before pa pv : List MemPlace}
 (hW : DataW.Whole enc P f.params.toList s.vars apart W args.toList ds gs before)
 (hres : ∀ (b : Nat) (sp : Nat → Bool) (hd : Bool), DataW.TrodAll enc P W' b sp hd f.resultTypes.toList (v.resultList f.resultTypes.size) (s.fn H (ds ++ gs)).results [])
 (hargs : ∀ sp : Nat → Bool, (∀ p ∈ before, sp p.block = true) → DataW.TrodAll enc P W' 0 sp true f.params.toList args.toList (s.fn H (ds ++ gs)).args pa)
 (hvars : ∀ sp : Nat → Bool, (∀ p ∈ before, sp p.block = true) → DataW.TrodVars enc P W' sp s.vars (s.fn H (ds ++ gs)).vars pv)
 (hps : before = pa ++ pv) (hk : W.keptBut W' (· ∈ before)) : s.post enc P f apart fresh handsOn false W args v W' := by
 have hold : ∀ p ∈ before, (fun b => decide (b < W.heap.size)) p.block = true := fun p hp => by simpa using hW.lt p hp
 refine ⟨ds, gs, before, [], pa, pv, hW, hres _ _ _, hargs _ hold, hvars _ hold, World.keptBut_mono (fun p hp => ⟨hp, ?_⟩) hk, fun h => by cases h⟩
 rw [hps, List.mem_append] at hp
 exact Or.inr hp
end Go.Proofs.YtkggloeaojkhaaaGreatDoor
