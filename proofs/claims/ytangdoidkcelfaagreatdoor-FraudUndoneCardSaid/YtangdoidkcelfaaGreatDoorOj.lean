/- Purchases among the arguments (printed by gen/h59.py j). -/
import Derived.Test.YtangdoidkcelfaaGreatDoorNx
import Derived.Test.YtangdoidkcelfaaGreatDoorKz
import Derived.Test.YtangdoidkcelfaaGreatDoorEl
import Derived.Test.YtangdoidkcelfaaGreatDoorRows
import Derived.Lib.SmallJoins
import Derived.Deep.SlicePairs
import Derived.Carry
import Derived.LaidMore
import Derived.Lib.LaidTab
namespace Go.Proofs.YtangdoidkcelfaaGreatDoor
open Go.ChangeShapes Go.WideShapes Go.ChangeAt Go.WideMaps Go.WideElems Go.RowKit
theorem reach_arg {H : Type} {ts : List TypeId} {ds : List (DataW H)} (h : (DataW.weightsEach Tryz.prog ts ds).all (· ≤ reachBytes) = true) (j : Nat) (t : TypeId) (d : DataW H) (ht : ts[j]? = some t) (hd : ds[j]? = some d) : InReach t d := by
 intro n hn
 have := List.all_eq_true.1 h n (DataW.weights_mem_each ht hd n hn)
 exact of_decide_eq_true this
theorem tPowE : (Tryz.prog.globals[0]?).map (·.type) = some 204 := by kernel_rfl
theorem cU64E : Tryz.prog.cellsOf 169 = 1 := by kernel_rfl
theorem cPowE : Tryz.prog.cellsOf 204 = 20 := by kernel_rfl
theorem pow_data : (Rows.laid_internal_strconv_uint64pow10 : DataW Unit) = Lib.tabData .u64 Lib.pow10Tab := by kernel_rfl
/-- The list of the rows' cell 'laid'. -/
def laidL : List (String × DataW Unit) := [("math/bits.deBruijn32tab", Rows.laid_math_bits_deBruijn32tab), ("math/bits.deBruijn64tab", Rows.laid_math_bits_deBruijn64tab), ("internal/strconv.uint64pow10", Rows.laid_internal_strconv_uint64pow10)]
theorem of_laid {W : World} (h : laidMetH Tryz.prog laidL W) : Gw W := by
 rw [MakeChecks.laidMetH_plain _ _ _ (by kernel_rfl)] at h
 obtain ⟨ps, ⟨g0, t0, cs0, f0, p0, q0, hg0, ht0, hv0, hd0, ⟨g1, t1, cs1, f1, p1, q1, hg1, ht1, hv1, hd1, ⟨g2, t2, cs2, f2, p2, q2, hg2, ht2, hv2, hd2, _⟩, _⟩, _⟩, _⟩ := h
 obtain rfl := Option.some.inj (gPowE.symm.trans hg2)
 obtain rfl := Option.some.inj (tPowE.symm.trans ht2)
 unfold Gw Lib.TabIs
 rw [pow_data] at hd2
 rw [hv2, ← Lib.cells_of_tab Tryz.underlying204 Tryz.underlying169 cU64E cPowE hd2]
theorem cLuE : Tryz.prog.cellsOf 50 = 3 := by kernel_rfl
theorem bLuE : Tryz.prog.bytesOf 50 = 4 := by kernel_rfl
theorem cB8E : Tryz.prog.cellsOf 5 = 1 := by kernel_rfl
theorem cW16E : Tryz.prog.cellsOf 37 = 1 := by kernel_rfl
theorem luFields : ∃ f0 f1 f2 : Field, Tryz.prog.underlying 50 = some (.struct #[f0, f1, f2]) ∧ (f0.offset = 0 ∧ f1.offset = 1 ∧ f2.offset = 2) ∧ f0.type = 5 ∧ f1.type = 5 ∧ f2.type = 37 := ⟨_, _, _, Tryz.underlying50, ⟨rfl, rfl, rfl⟩, rfl, rfl, rfl⟩
instance : Inhabited LUse := ⟨luD⟩
theorem wf_u8 {n : Int} (h : (Lit.int .u8 n).wf = true) : ∃ k : Nat, n = (k : Int) ∧ k ≤ 255 := by
 simp [Lit.wf, IntKind.min, IntKind.max, IntKind.signed, IntKind.bits] at h
 exact ⟨n.toNat, by omega, by omega⟩
theorem wf_u16 {n : Int} (h : (Lit.int .u16 n).wf = true) : ∃ k : Nat, n = (k : Int) ∧ k ≤ 65535 := by
 simp [Lit.wf, IntKind.min, IntKind.max, IntKind.signed, IntKind.bits] at h
 exact ⟨n.toNat, by omega, by omega⟩
section
variable {H : Type} {enc : TypeId × Value → H} {W : World} {base : Nat} {sp : Nat → Bool} {held : Bool}
set_option maxRecDepth 8000 in
theorem open_lawuses {v : Value} {d : DataW H} {p : List MemPlace} (hc : v.cells.toList = [v]) (h : DataW.Trod enc Tryz.prog W base sp held 36 v d p) : ∃ l, LUsM W v l := by
 obtain ⟨fuel, h⟩ := h
 rw [hc] at h
 obtain ⟨f0, f1, f2, hu, ⟨o0, o1, o2⟩, t0, t1, t2⟩ := luFields
 rcases DataW.trod_slice Tryz.underlying36 h with ⟨h0, -⟩ | ⟨a, len, cap, elems, rest, n, rfl, h0, hx, -, hlc, hcm, hlen, hel, -, -⟩
 · obtain rfl : v = _ := by simpa using h0
   exact ⟨[], none, 0, rfl, fun i => ⟨Nat.zero_le _, Nat.zero_le _, Nat.zero_le _⟩, fun h => absurd h (by simp)⟩
 · obtain rfl : v = _ := by simpa using h0
   by_cases hz : len = 0
   · subst hz
     exact ⟨[], _, _, rfl, fun i => ⟨Nat.zero_le _, Nat.zero_le _, Nat.zero_le _⟩, fun h => absurd h (by simp)⟩
   · have key : ∀ i, i < len → ∃ q : LUse, (W.cell? (a.add (i * 3)) = some (.int .u8 q.gap) ∧ W.cell? (a.add (i * 3 + 1)) = some (.int .u8 q.card) ∧ W.cell? (a.add (i * 3 + 2)) = some (.int .u16 q.amt)) ∧ q.gap ≤ 255 ∧ q.card ≤ 255 ∧ q.amt ≤ 65535 := by
      intro i hi
      have hk := hel i hi
      rw [List.getElem?_eq_getElem (by omega)] at hk
      obtain ⟨cs', h1, h2⟩ := Option.bind_eq_some_iff.1 hk
      rw [cLuE] at h1
      obtain ⟨-, hl3, hcell⟩ := World.cells?_some h1
      obtain ⟨xs, k, hkn, hxe, -, hxl, hf⟩ := DataW.trod_struct hu h2
      match cs', hl3, xs, hxl with
      | [v0, v1, v2], _, [y0, y1, y2], _ =>
       have g0 := hf 0 f0 rfl
       have g1 := hf 1 f1 rfl
       have g2 := hf 2 f2 rfl
       rw [o0, t0, cB8E] at g0
       rw [o1, t1, cB8E] at g1
       rw [o2, t2, cW16E] at g2
       simp only [List.drop_zero, List.drop_succ_cons, List.take_succ_cons, List.take_zero, List.getElem?_cons_zero, List.getElem?_cons_succ] at g0 g1 g2
       obtain ⟨m0, q0, -, r0⟩ := DataW.trod_int Tryz.underlying5 g0
       obtain ⟨m1, q1, -, r1⟩ := DataW.trod_int Tryz.underlying5 g1
       obtain ⟨m2, q2, -, r2⟩ := DataW.trod_int Tryz.underlying37 g2
       simp only [List.cons.injEq, and_true] at q0 q1 q2
       subst q0 q1 q2
       obtain ⟨n0, rfl, b0⟩ := wf_u8 r0
       obtain ⟨n1, rfl, b1⟩ := wf_u8 r1
       obtain ⟨n2, rfl, b2⟩ := wf_u16 r2
       have e0 := hcell 0 (by omega)
       have e1 := hcell 1 (by omega)
       have e2 := hcell 2 (by omega)
       rw [Go.Deep.add_add] at e0 e1 e2
       exact ⟨⟨n0, n1, n2⟩, ⟨e0, e1, e2⟩, b0, b1, b2⟩
     obtain ⟨q, hq⟩ := Go.Deep.choose_lt (α := LUse) key
     obtain ⟨b, off, spot⟩ := a
     have hspot : spot = none := by simpa [Addr.add] using World.cell?_spot (hq 0 (by omega)).1.1
     subst hspot
     have hg : ∀ i, i < len → ((List.range len).map q).getD i luD = q i := by
      intro i hi
      simp [List.getD_eq_getElem?_getD, hi]
     refine ⟨(List.range len).map q, some ⟨b, off, none⟩, cap, by simp, fun i => ?_, fun _ => ⟨b, off, rfl, fun i hi => ?_⟩⟩
     · by_cases hi : i < len
       · rw [hg i hi]
         exact (hq i hi).2
       · rw [List.getD_eq_getElem?_getD, List.getElem?_eq_none (by simp; omega)]
         exact ⟨Nat.zero_le _, Nat.zero_le _, Nat.zero_le _⟩
     · have hi : i < len := by simpa using hi
       obtain ⟨⟨c0, c1, c2⟩, -⟩ := hq i hi
       rw [Addr.add_lit] at c0 c1 c2
       rw [hg i hi]
       exact ⟨c0, by rw [← Nat.add_assoc] at c1; exact c1, by rw [← Nat.add_assoc] at c2; exact c2⟩
end
set_option maxRecDepth 100000 in
theorem shut_lawuses {H : Type} {enc : TypeId × Value → H} {W W' : World} {sp : Nat → Bool} {v : Value} {d : DataW H} {p : List MemPlace}
 (h : DataW.Trod enc Tryz.prog W 0 (fun _ => true) true 36 v d p) (hE : Ext W W') (hlt : ∀ x ∈ p, x.block < W.heap.size) (hsp : ∀ x ∈ p, sp x.block = true) :
 DataW.Trod enc Tryz.prog W' 0 sp true 36 v d p :=
 Trod_stays laidB (by kernel_rfl) (of_decide_eq_true (by kernel_rfl)) h (fun x hx => hE.below.same (hlt x hx)) hsp

section
variable {H : Type} {enc : TypeId × Value → H} {W : World} {base : Nat} {sp : Nat → Bool} {held : Bool}
set_option maxRecDepth 8000 in
theorem open_lawuse {r : Reach} {b0 : Nat} {v : Value} {d : DataW H} {p : List MemPlace} (hv : Value.okWide Tryz.prog W r b0 50 v) (h : DataW.Trod enc Tryz.prog W base sp held 50 v d p) : ∃ u : LUse, v = .agg #[.int .u8 u.gap, .int .u8 u.card, .int .u16 u.amt] ∧ (u.gap ≤ 255 ∧ u.card ≤ 255 ∧ u.amt ≤ 65535) := by
 obtain ⟨f0, f1, f2, hu, ⟨o0, o1, o2⟩, t0, t1, t2⟩ := luFields
 obtain ⟨cs, rfl, hsz⟩ := okWide_struct hu hv
 obtain ⟨fuel, hf⟩ := h
 obtain ⟨xs, k, hkn, hxe, -, hxl, hf⟩ := DataW.trod_struct hu hf
 rw [cLuE] at hsz
 obtain ⟨cl⟩ := cs
 have hl3 : cl.length = 3 := hsz
 match cl, hl3, xs, hxl with
 | [v0, v1, v2], _, [y0, y1, y2], _ =>
  have g0 := hf 0 f0 rfl
  have g1 := hf 1 f1 rfl
  have g2 := hf 2 f2 rfl
  rw [o0, t0, cB8E] at g0
  rw [o1, t1, cB8E] at g1
  rw [o2, t2, cW16E] at g2
  simp only [Value.cells, List.drop_zero, List.drop_succ_cons, List.take_succ_cons, List.take_zero, List.getElem?_cons_zero, List.getElem?_cons_succ] at g0 g1 g2
  obtain ⟨m0, q0, -, r0⟩ := DataW.trod_int Tryz.underlying5 g0
  obtain ⟨m1, q1, -, r1⟩ := DataW.trod_int Tryz.underlying5 g1
  obtain ⟨m2, q2, -, r2⟩ := DataW.trod_int Tryz.underlying37 g2
  simp only [List.cons.injEq, and_true] at q0 q1 q2
  subst q0 q1 q2
  obtain ⟨n0, rfl, b0⟩ := wf_u8 r0
  obtain ⟨n1, rfl, b1⟩ := wf_u8 r1
  obtain ⟨n2, rfl, b2⟩ := wf_u16 r2
  exact ⟨⟨n0, n1, n2⟩, rfl, b0, b1, b2⟩
end
set_option maxRecDepth 100000 in
theorem shut_lawuse {H : Type} {enc : TypeId × Value → H} {W W' : World} {sp : Nat → Bool} {v : Value} {d : DataW H} {p : List MemPlace}
 (h : DataW.Trod enc Tryz.prog W 0 (fun _ => true) true 50 v d p) (hE : Ext W W') (hlt : ∀ x ∈ p, x.block < W.heap.size) (hsp : ∀ x ∈ p, sp x.block = true) :
 DataW.Trod enc Tryz.prog W' 0 sp true 50 v d p :=
 Trod_stays laidB (by kernel_rfl) (of_decide_eq_true (by kernel_rfl)) h (fun x hx => hE.below.same (hlt x hx)) hsp
end Go.Proofs.YtangdoidkcelfaaGreatDoor
