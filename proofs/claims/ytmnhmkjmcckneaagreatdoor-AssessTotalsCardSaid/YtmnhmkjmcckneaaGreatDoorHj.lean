/- Rows of four numbers among the arguments; the law AssessTotals with its arguments as the row gives them. -/
import Derived.Test.YtmnhmkjmcckneaaGreatDoorHopn
import Derived.Test.YtmnhmkjmcckneaaGreatDoorHy
import Derived.Laws.IdiomArrays
namespace Go.Proofs.YtmnhmkjmcckneaaGreatDoor
open Go.ChangeShapes Go.WideShapes Go.ChangeAt Go.WideMaps Go.WideElems Go.RowKit
instance : Inhabited Q4D := ⟨q4D⟩
theorem cQuaE : Tryz.prog.cellsOf 66 = 4 := by kernel_rfl
theorem bQuaE : Tryz.prog.bytesOf 66 = 32 := by kernel_rfl
section
variable {H : Type} {enc : TypeId × Value → H} {W : World} {base : Nat} {sp : Nat → Bool} {held : Bool}
set_option maxRecDepth 8000 in
theorem open_quadr {v : Value} {d : DataW H} {p : List MemPlace} (hc : v.cells.toList = [v]) (h : DataW.Trod enc Tryz.prog W base sp held 65 v d p) (hw : InReach 65 d) : ∃ l, QM W v l := by
 obtain ⟨fuel, h⟩ := h
 rw [hc] at h
 rcases DataW.trod_slice Tryz.underlying65 h with ⟨h0, -⟩ | ⟨a, len, cap, elems, rest, n, rfl, h0, hx, -, hlc, hcm, hlen, hel, -, -⟩
 · obtain rfl : v = _ := by simpa using h0
   exact ⟨[], ⟨by simp, Or.inl ⟨none, 0, rfl, rfl⟩⟩⟩
 · obtain rfl : v = _ := by simpa using h0
   simp only [Prod.mk.injEq] at hx
   rw [hx.1] at hw
   obtain ⟨hwl, -⟩ := reach_slice Tryz.underlying65 hw
   rw [bQuaE, List.length_map, List.length_map, hlen] at hwl
   replace hwl := Nat.le_trans hwl reachN_le
   by_cases hz : len = 0
   · subst hz
     exact ⟨[], ⟨by simp, Or.inl ⟨_, _, rfl, rfl⟩⟩⟩
   · have key : ∀ i, i < len → ∃ q : Q4D, W.cell? (a.add (i * 4)) = some (.int .i64 q.a) ∧ W.cell? (a.add (i * 4 + 1)) = some (.int .i64 q.b) ∧ W.cell? (a.add (i * 4 + 2)) = some (.int .i64 q.c) ∧ W.cell? (a.add (i * 4 + 3)) = some (.int .i64 q.d) := by
      intro i hi
      have hk := hel i hi
      rw [List.getElem?_eq_getElem (by omega)] at hk
      obtain ⟨cs', h1, h2⟩ := Option.bind_eq_some_iff.1 hk
      rw [cQuaE] at h1
      obtain ⟨-, hl4, hcell⟩ := World.cells?_some h1
      match cs', hl4 with
      | [v0, v1, v2, v3], _ =>
       obtain ⟨y0, y1, y2, y3, k, -, g0, g1, g2, g3⟩ := trod_array4 Tryz.underlying66 cI64E h2
       obtain ⟨m0, q0, -, -⟩ := DataW.trod_int Tryz.underlying2 g0
       obtain ⟨m1, q1, -, -⟩ := DataW.trod_int Tryz.underlying2 g1
       obtain ⟨m2, q2, -, -⟩ := DataW.trod_int Tryz.underlying2 g2
       obtain ⟨m3, q3, -, -⟩ := DataW.trod_int Tryz.underlying2 g3
       simp only [List.cons.injEq, and_true] at q0 q1 q2 q3
       subst q0 q1 q2 q3
       have e0 := hcell 0 (by omega)
       have e1 := hcell 1 (by omega)
       have e2 := hcell 2 (by omega)
       have e3 := hcell 3 (by omega)
       rw [Go.Deep.add_add] at e0 e1 e2 e3
       exact ⟨⟨m0, m1, m2, m3⟩, e0, e1, e2, e3⟩
     obtain ⟨q, hq⟩ := Go.Deep.choose_lt (α := Q4D) key
     obtain ⟨b, off, spot⟩ := a
     have hspot : spot = none := by simpa [Addr.add] using World.cell?_spot (hq 0 (by omega)).1
     subst hspot
     have hg : ∀ i, i < len → ((List.range len).map q).getD i q4D = q i := by
      intro i hi
      simp [List.getD_eq_getElem?_getD, hi]
     refine ⟨(List.range len).map q, ⟨by simp; omega, Or.inr ⟨b, off, cap, by simp, fun i hi => ?_⟩⟩⟩
     have hi : i < len := by simpa using hi
     obtain ⟨c0, c1, c2, c3⟩ := hq i hi
     rw [Addr.add_lit] at c0 c1 c2 c3
     rw [hg i hi]
     intro j hj
     match j, hj with
     | 0, _ => exact c0
     | 1, _ => rw [← Nat.add_assoc] at c1; exact c1
     | 2, _ => rw [← Nat.add_assoc] at c2; exact c2
     | 3, _ => rw [← Nat.add_assoc] at c3; exact c3
end
section
variable {H : Type} {enc : TypeId × Value → H} {W W' : World} {sp : Nat → Bool}
set_option maxRecDepth 100000 in
theorem shut_quadr {v : Value} {d : DataW H} {p : List MemPlace} (h : DataW.Trod enc Tryz.prog W 0 (fun _ => true) true 65 v d p) (hE : Ext W W') (hlt : ∀ x ∈ p, x.block < W.heap.size) (hsp : ∀ x ∈ p, sp x.block = true) :
 DataW.Trod enc Tryz.prog W' 0 sp true 65 v d p :=
 Trod_stays laidB (by kernel_rfl) (of_decide_eq_true (by kernel_rfl)) h (fun x hx => hE.below.same (hlt x hx)) hsp
end
theorem law_totals_row (lv : Value) (l : List Q4D) (cut : Int) (w : World) (g : Gw w) (hQ : QM w lv l) (hc : (Lit.int .u8 cut).wf = true) : Calls Tryz.prog 7 #[lv, .int .u8 cut] w (OneV (.bool true) w) := by
 have h : 0 ≤ cut ∧ cut ≤ 255 := by
  simp [Lit.wf, IntKind.min, IntKind.max, IntKind.signed, IntKind.bits] at hc
  omega
 exact law_totals lv l cut w g hQ h.1 h.2
end Go.Proofs.YtmnhmkjmcckneaaGreatDoor
