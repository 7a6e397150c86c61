/- The contract of feerule's clone (walk). -/
import Derived.Test.YtmoadonepkccbaaGreatDoorFq
import Derived.Test.YtmoadonepkccbaaGreatDoorEi
namespace Go.Proofs.YtmoadonepkccbaaGreatDoor
open Go.RowKit
theorem five_sets (cur : Array Value) (o : Nat) (a b c d e : Value) :
    (((((cur.setIfInBounds o a).setIfInBounds (o + 1) b).setIfInBounds (o + 1 + 1) c).setIfInBounds (o + 1 + 1 + 1) d).setIfInBounds (o + 1 + 1 + 1 + 1) e).size = cur.size ∧
    (∀ i, i < o ∨ o + 5 ≤ i → (((((cur.setIfInBounds o a).setIfInBounds (o + 1) b).setIfInBounds (o + 1 + 1) c).setIfInBounds (o + 1 + 1 + 1) d).setIfInBounds (o + 1 + 1 + 1 + 1) e)[i]? = cur[i]?) ∧
    (o + 5 ≤ cur.size → (((((cur.setIfInBounds o a).setIfInBounds (o + 1) b).setIfInBounds (o + 1 + 1) c).setIfInBounds (o + 1 + 1 + 1) d).setIfInBounds (o + 1 + 1 + 1 + 1) e)[o]? = some a ∧
      (((((cur.setIfInBounds o a).setIfInBounds (o + 1) b).setIfInBounds (o + 1 + 1) c).setIfInBounds (o + 1 + 1 + 1) d).setIfInBounds (o + 1 + 1 + 1 + 1) e)[o + 1]? = some b ∧
      (((((cur.setIfInBounds o a).setIfInBounds (o + 1) b).setIfInBounds (o + 1 + 1) c).setIfInBounds (o + 1 + 1 + 1) d).setIfInBounds (o + 1 + 1 + 1 + 1) e)[o + 1 + 1]? = some c ∧
      (((((cur.setIfInBounds o a).setIfInBounds (o + 1) b).setIfInBounds (o + 1 + 1) c).setIfInBounds (o + 1 + 1 + 1) d).setIfInBounds (o + 1 + 1 + 1 + 1) e)[o + 1 + 1 + 1]? = some d ∧
      (((((cur.setIfInBounds o a).setIfInBounds (o + 1) b).setIfInBounds (o + 1 + 1) c).setIfInBounds (o + 1 + 1 + 1) d).setIfInBounds (o + 1 + 1 + 1 + 1) e)[o + 1 + 1 + 1 + 1]? = some e) := by
  refine ⟨by simp, fun i hi => ?_, fun h => ⟨?_, ?_, ?_, ?_, ?_⟩⟩
  · rw [Array.getElem?_setIfInBounds, if_neg (by omega), Array.getElem?_setIfInBounds, if_neg (by omega), Array.getElem?_setIfInBounds, if_neg (by omega), Array.getElem?_setIfInBounds, if_neg (by omega), Array.getElem?_setIfInBounds, if_neg (by omega)]
  · rw [Array.getElem?_setIfInBounds, if_neg (by omega), Array.getElem?_setIfInBounds, if_neg (by omega), Array.getElem?_setIfInBounds, if_neg (by omega), Array.getElem?_setIfInBounds, if_neg (by omega), Array.getElem?_setIfInBounds, if_pos rfl, if_pos (by first | omega | (simp; omega))]
  · rw [Array.getElem?_setIfInBounds, if_neg (by omega), Array.getElem?_setIfInBounds, if_neg (by omega), Array.getElem?_setIfInBounds, if_neg (by omega), Array.getElem?_setIfInBounds, if_pos rfl, if_pos (by first | omega | (simp; omega))]
  · rw [Array.getElem?_setIfInBounds, if_neg (by omega), Array.getElem?_setIfInBounds, if_neg (by omega), Array.getElem?_setIfInBounds, if_pos rfl, if_pos (by first | omega | (simp; omega))]
  · rw [Array.getElem?_setIfInBounds, if_neg (by omega), Array.getElem?_setIfInBounds, if_pos rfl, if_pos (by first | omega | (simp; omega))]
  · rw [Array.getElem?_setIfInBounds, if_pos rfl, if_pos (by first | omega | (simp; omega))]
/-- The first k of n expressions lie in block g, their own lists behind it. -/
def XS (w : World) (g n k : Nat) (ys : List Ex) : Prop :=
  ∃ cur : Array Value, Blk w g cur 40 ∧ cur.size = n * 5 ∧ ∃ us : Nat → Value, ∀ j, j < k →
    (cur[j * 5]? = some (.int .i64 (ys.getD j exD).op) ∧ cur[j * 5 + 1]? = some (.string (ys.getD j exD).name) ∧ cur[j * 5 + 1 + 1]? = some (.string (ys.getD j exD).text) ∧ cur[j * 5 + 1 + 1 + 1]? = some (.int .i64 (ys.getD j exD).n) ∧ cur[j * 5 + 1 + 1 + 1 + 1]? = some (us j)) ∧
    ExB w (fun b => g < b) (us j) (ys.getD j exD).args
theorem XS.ext {w w' : World} {g n k : Nat} {ys : List Ex} (h : XS w g n k ys) (e : Ext w w') : XS w' g n k ys := by
  obtain ⟨cur, hb, hs, us, hx⟩ := h
  exact ⟨cur, hb.ext e, hs, us, fun j hj => ⟨(hx j hj).1, (hx j hj).2.ext e⟩⟩
theorem XS.push {w : World} {g n k : Nat} {ys : List Ex} (h : XS w g n k ys) (hk : k < n) {y : Ex} {u : Value} (hy : ys.getD k exD = y) (hu : ExB w (fun b => g < b) u y.args) :
    XS (((((w.setCell ⟨g, k * 5, none⟩ (.int .i64 y.op)).setCell ⟨g, k * 5 + 1, none⟩ (.string y.name)).setCell ⟨g, k * 5 + 1 + 1, none⟩ (.string y.text)).setCell ⟨g, k * 5 + 1 + 1 + 1, none⟩ (.int .i64 y.n)).setCell ⟨g, k * 5 + 1 + 1 + 1 + 1, none⟩ u) g n (k + 1) ys := by
  obtain ⟨cur, hb, hs, us, hx⟩ := h
  obtain ⟨f1, f2, f3⟩ := five_sets cur (k * 5) (.int .i64 y.op) (.string y.name) (.string y.text) (.int .i64 y.n) u
  obtain ⟨us', hu1, hu2⟩ : ∃ f : Nat → Value, f k = u ∧ ∀ j, j ≠ k → f j = us j := ⟨fun j => if j = k then u else us j, if_pos rfl, fun j h => if_neg h⟩
  have hmv : ∀ {v : Value} {l : List Ex}, ExB w (fun b => g < b) v l → ExB (((((w.setCell ⟨g, k * 5, none⟩ (.int .i64 y.op)).setCell ⟨g, k * 5 + 1, none⟩ (.string y.name)).setCell ⟨g, k * 5 + 1 + 1, none⟩ (.string y.text)).setCell ⟨g, k * 5 + 1 + 1 + 1, none⟩ (.int .i64 y.n)).setCell ⟨g, k * 5 + 1 + 1 + 1 + 1, none⟩ u) (fun b => g < b) v l := by
    intro v l h
    refine h.move fun j hj _ => ?_
    have hne : j ≠ g := by omega
    rw [Below.heap_setCell _ _ _ _ hne, Below.heap_setCell _ _ _ _ hne, Below.heap_setCell _ _ _ _ hne, Below.heap_setCell _ _ _ _ hne, Below.heap_setCell _ _ _ _ hne]
  refine ⟨_, ((((hb.set _ _).set _ _).set _ _).set _ _).set _ _, by rw [f1, hs], us', fun j hj => ?_⟩
  by_cases e : j = k
  · subst e
    rw [hy, hu1]
    exact ⟨f3 (by omega), hmv hu⟩
  · have hj' : j < k := by omega
    rw [hu2 j e]
    obtain ⟨⟨x0, x1, x2, x3, x4⟩, hE⟩ := hx j hj'
    exact ⟨⟨(f2 _ (by omega)).trans x0, (f2 _ (by omega)).trans x1, (f2 _ (by omega)).trans x2, (f2 _ (by omega)).trans x3, (f2 _ (by omega)).trans x4⟩, hmv hE⟩
theorem XS.cell {w : World} {g n k : Nat} {ys : List Ex} (h : XS w g n k ys) (hk : k < n) (c : Nat) (hc : c < 5) : ∃ v, w.cell? ⟨g, k * 5 + c, none⟩ = some v ∧ w.frozen? ⟨g, k * 5 + c, none⟩ = false := by
  obtain ⟨cur, hb, hs, -⟩ := h
  have : k * 5 + c < cur.size := by omega
  exact ⟨cur[k * 5 + c], by rw [hb.cell, Array.getElem?_eq_getElem this], hb.fz _⟩
theorem XS.of_row {w : World} {B g n : Nat} {xs : List Value} {ys : List Ex} (h : w.ownsRow B 40 5 (.slice (some ⟨g, 0, none⟩) n n) n xs) : XS w g n 0 ys := by
  obtain ⟨_, h | ⟨g', cap, cur, hv, _, hb, _, _, hs, _⟩⟩ := h
  · cases h.1
  · injection hv with h1 h2 h3
    injection h1 with h1
    injection h1 with h1
    subst h1 h3
    exact ⟨cur, hb, by omega, fun _ => .nilIface, fun j hj => by omega⟩
theorem XS.done {w : World} {g : Nat} {ys : List Ex} (h : XS w g ys.length ys.length ys) (hl : ys.length ≤ 140737488355328) : ExB w (fun b => g ≤ b) (.slice (some ⟨g, 0, none⟩) ys.length ys.length) ys := by
  by_cases h0 : 0 < ys.length
  · obtain ⟨cur, hb, hs, us, hx⟩ := h
    refine .row g 0 ys.length ys us h0 hl (Nat.le_refl _) (Nat.le_refl _) (fun i hi => ?_) (fun i hi => (hx i hi).2.imp fun j hj _ => Nat.le_of_lt hj)
    obtain ⟨⟨x0, x1, x2, x3, x4⟩, -⟩ := hx i hi
    rw [Nat.zero_add]
    exact ⟨(hb.cell _).trans x0, (hb.cell _).trans x1, (hb.cell _).trans x2, (hb.cell _).trans x3, (hb.cell _).trans x4⟩
  · obtain rfl : ys = [] := List.length_eq_zero_iff.1 (by omega)
    exact .nil _ _
theorem exs_none {w : World} {q : Option Addr} {c : Nat} {l : List Ex} (h : ExS w (.slice q l.length c) l) (hq : q = none) : l = [] := by
  by_cases h0 : 0 < l.length
  · obtain ⟨b, off, e, -⟩ := h.at h0
    rw [hq] at e
    cases e
  · exact List.length_eq_zero_iff.1 (by omega)
set_option maxRecDepth 8000 in
set_option maxHeartbeats 4000000 in
theorem fclone_any {w : World} {v : Value} {l0 : List Ex} (h : ExS w v l0) : ∀ x : Ex, x.args = l0 → ∀ w', Ext w w' → x.parts.length ≤ 1000000 → Calls Tryz.prog 62 #[exAgg x v] w' (ExP x w') := by
  refine ExS.ind (P := fun x v => ∀ w', Ext w w' → x.parts.length ≤ 1000000 → Calls Tryz.prog 62 #[exAgg x v] w' (ExP x w')) ?_ h
  clear h
  intro x v hS hK w' hEx hpt
  obtain ⟨op, nm, tx, n, args⟩ := x
  obtain ⟨q, cp, rfl⟩ := hS.form
  rw [parts_mk, List.length_cons] at hpt
  have hlen : args.length < 1000000 := by have := partsL_ge args; omega
  have ha0 := exs_none (q := q) hS
  replace hK := Lib.hid hK
  simp only [Ex.args] at hK ha0 ⊢
  simp only [exAgg_mk]
  have hfin := Lib.hid (fun (p : Option Addr) (c : Nat) (w2 : World) (h1 : ExB w2 (fun j => w'.heap.size ≤ j) (.slice p args.length c) args) (h2 : Ext w' w2) => show ExP (Ex.mk op nm tx n args) w' (.returned (.agg #[.int .i64 op, .string nm, .string tx, .int .i64 n, .slice p args.length c])) w2 from ⟨p, c, rfl, h1, h2⟩)
  generalize Ex.mk op nm tx n args = X at *
  cases q with
  | none =>
    have ha : args = [] := ha0 rfl
    subst ha
    clear hS hK ha0
    have hq : ∀ w : World, (binOp .eql 38 (.slice none 0 cp) (.slice none 0 0)).run Tryz.prog w = .ok (.bool true) w := fun w => Lib.run_eql_slice_nil w _ _ _ _ _ _ _ Tryz.underlying38
    go_enter Tryz.func62, Tryz.ntmps62
    go_wp2
    exact bodyPost_ret (v := .agg #[.int .i64 op, .string nm, .string tx, .int .i64 n, .slice none 0 cp]) (by simp [results, Tryz.results62, go_sem]) rfl (hfin.out none cp _ (.nil _ _) (by repeat (first | with_reducible exact Ext.refl _ | with_reducible exact hE0 | with_reducible exact hE | with_reducible refine Ext.alloc ?_ _ | with_reducible refine Ext.drewN ?_ _ | with_reducible refine Ext.drew ?_ | ((with_reducible refine Ext.setCell ?_ ?side _); (case side => first | exact Nat.le_refl _ | (simp; done) | (simp; omega))))))
  | some a =>
    clear hS ha0
    have hq : ∀ w : World, (binOp .eql 38 (.slice (some a) args.length cp) (.slice none 0 0)).run Tryz.prog w = .ok (.bool false) w := fun w => Lib.run_eql_slice_nil w _ _ _ _ _ _ _ Tryz.underlying38
    obtain ⟨i0, hi, hz0, hz1, hz2⟩ := info_partsE infoExE
    replace hi := Lib.hid hi
    replace hz0 := Lib.hid hz0
    replace hz1 := Lib.hid hz1
    replace hz2 := Lib.hid hz2
    go_enter Tryz.func62, Tryz.ntmps62
    go_wp2_with (at_make; refine wpList_make_full _ rfl _ _ 38 rfl (w'.heap.size + 2) 40 i0 (.agg #[.int .i64 0, .string ⟨#[]⟩, .string ⟨#[]⟩, .int .i64 0, .slice none 0 0]) 5 Tryz.underlying38 hi.out hz0.out hz1.out _ _ _ _ args.length rfl rfl rfl rfl ?_ ?_ ?_ ?_)
    · rw [hz2.out]; omega
    · unfold maxLen; omega
    · simp
    intro w2 hown hgrow
    have hE0 : Ext w' w2 := Below.grown (Ext.alloc (Ext.alloc (Ext.refl w') _) _) hgrow (by simp; omega) (fun k hk => by cases hk)
    have hb1 : Blk w2 w'.heap.size #[.int .i64 op, .string nm, .string tx, .int .i64 n, .slice (some a) args.length cp] 40 := blk_grownE hgrow ((Blk.new w' _ _).alloc _) (fun j e => by cases e)
    have hb2 : Blk w2 (w'.heap.size + 1) #[.int .i64 0, .string ⟨#[]⟩, .string ⟨#[]⟩, .int .i64 0, .slice none 0 0] 40 := blk_grownE hgrow (Blk.new' _ _ _ _ (by simp)) (fun j e => by cases e)
    have hxs := XS.of_row (ys := args) hown
    have hsz : w'.heap.size + 2 < w2.heap.size := by
      obtain ⟨cur, hb, -⟩ := hxs
      have := hb.lt
      omega
    clear hown hgrow hi hz0 hz1 hz2 i0
    have x4 : w2.cell? ⟨w'.heap.size, 4, none⟩ = some (.slice (some a) args.length cp) := (hb1.cell 4).trans rfl
    replace hb1 := Lib.hid hb1
    replace hb2 := Lib.hid hb2
    go_wp2_with fail
    clear x4
    have hgs : w'.heap.size + 1 + 1 < w2.heap.size := by omega
    clear hsz hq
    go_loopw [17] (fun i wr => ∃ k : Nat, k ≤ args.length ∧ i = .int .i64 k ∧ XS wr (w'.heap.size + 1 + 1) args.length k args ∧ ExtBut (w'.heap.size + 1 + 1) w2 wr) (fun i _ => args.length - (intOf i).toNat)
    case atStart => exact ⟨0, Nat.zero_le _, rfl, hxs, ExtBut.refl _ _⟩
    case round =>
      clear hxs
      obtain ⟨k, hk, rfl, hxs, hEb⟩ := hrel
      have hEr : Ext w' wr := hEb.to hE0 (by omega)
      by_cases hlt : k < args.length
      · obtain ⟨bb, off, hab, sv, hkid⟩ := hK.out _ _ rfl (by omega)
        injection hab with hab
        subst hab
        obtain ⟨hc, hsu, hP⟩ := hkid k hlt
        have hform := hsu.form
        obtain ⟨c0, c1, c2, c3, c4⟩ := (hc.ext (hEx.trans hEr)).five
        have hpy := Lib.hid (show (args.getD k exD).parts.length ≤ 1000000 by have := partsL_len args k hlt; omega)
        replace hP := Lib.hid hP
        clear hc hkid hsu
        generalize hye : args.getD k exD = y at *
        replace hye := Lib.hid hye
        generalize sv k = u at *
        obtain ⟨uq, uc, rfl⟩ := hform
        have hbl : bb < wr.heap.size := cell_lt c0
        have hg5 : w'.heap.size + 1 + 1 < wr.heap.size := by obtain ⟨cur, hb, -⟩ := hxs; exact hb.lt
        replace hxs := Lib.hid hxs
        go_wp2_with fail
        refine (hP.out _ ((hEx.trans hEr).alloc _) hpy.out).mono ?_
        rintro e w5 ⟨p1, q1, rfl, hB1, hE1⟩
        have hS : Ext wr w5 := Ext.trans ((Ext.refl _).alloc _) hE1
        replace hxs := hxs.out.ext hS
        replace hEb := hEb.ext hS
        clear c0 c1 c2 c3 c4 hE1 hS hEr
        obtain ⟨o0, z0, y0⟩ := hxs.cell hlt 0 (by omega)
        obtain ⟨o1, z1, y1⟩ := hxs.cell hlt 1 (by omega)
        obtain ⟨o2, z2, y2⟩ := hxs.cell hlt 2 (by omega)
        obtain ⟨o3, z3, y3⟩ := hxs.cell hlt 3 (by omega)
        obtain ⟨o4, z4, y4⟩ := hxs.cell hlt 4 (by omega)
        rw [Nat.add_zero (k * 5)] at z0 y0
        have hnew := Lib.hid (hxs.push hlt hye.out (hB1.imp (ok' := fun b => w'.heap.size + 1 + 1 < b) fun j hj _ => by simp at hj; omega))
        replace hxs := Lib.hid hxs
        replace hB1 := Lib.hid hB1
        replace hEb := Lib.hid hEb
        go_wp2
        go_roundw
        case rel => exact ⟨k + 1, by omega, by go_num, hnew.out, ((((hEb.out.set _ _).set _ _).set _ _).set _ _).set _ _⟩
        case measure => simp [intOf]; omega
      · obtain rfl : k = args.length := by omega
        have hb1r := hEb.blk hb1.out (by omega)
        have hb2r := hEb.blk hb2.out (by omega)
        have x0 : wr.cell? ⟨w'.heap.size, 0, none⟩ = some (.int .i64 op) := (hb1r.cell 0).trans rfl
        have x1 : wr.cell? ⟨w'.heap.size, 1, none⟩ = some (.string nm) := (hb1r.cell 1).trans rfl
        have x2 : wr.cell? ⟨w'.heap.size, 2, none⟩ = some (.string tx) := (hb1r.cell 2).trans rfl
        have x3 : wr.cell? ⟨w'.heap.size, 3, none⟩ = some (.int .i64 n) := (hb1r.cell 3).trans rfl
        have x4 : wr.cell? ⟨w'.heap.size, 4, none⟩ = some (.slice (some a) args.length cp) := (hb1r.cell 4).trans rfl
        have g4 := hb1r.fz 4
        have y0 : wr.cell? ⟨w'.heap.size + 1, 0, none⟩ = some (.int .i64 0) := (hb2r.cell 0).trans rfl
        have y1 : wr.cell? ⟨w'.heap.size + 1, 1, none⟩ = some (.string ⟨#[]⟩) := (hb2r.cell 1).trans rfl
        have y2 : wr.cell? ⟨w'.heap.size + 1, 2, none⟩ = some (.string ⟨#[]⟩) := (hb2r.cell 2).trans rfl
        have y3 : wr.cell? ⟨w'.heap.size + 1, 3, none⟩ = some (.int .i64 0) := (hb2r.cell 3).trans rfl
        have y4 : wr.cell? ⟨w'.heap.size + 1, 4, none⟩ = some (.slice none 0 0) := (hb2r.cell 4).trans rfl
        have f0 := hb2r.fz 0
        have f1 := hb2r.fz 1
        have f2 := hb2r.fz 2
        have f3 := hb2r.fz 3
        have f4 := hb2r.fz 4
        have hD := Lib.hid (hxs.done (by omega))
        have hs1 : w'.heap.size + 1 < wr.heap.size := cell_lt y0
        have hE := hEr
        clear hlt hxs hb1r hb2r hEb hK hE0
        go_wp2
        refine bodyPost_ret (v := .agg #[.int .i64 op, .string nm, .string tx, .int .i64 n, .slice (some ⟨w'.heap.size + 1 + 1, 0, none⟩) args.length args.length]) (by simp [results, Tryz.results62, go_sem, y0, y1, y2, y3, y4]) rfl (hfin.out _ _ _ ?_ (by repeat (first | with_reducible exact Ext.refl _ | with_reducible exact hE0 | with_reducible exact hE | with_reducible refine Ext.alloc ?_ _ | with_reducible refine Ext.drewN ?_ _ | with_reducible refine Ext.drew ?_ | ((with_reducible refine Ext.setCell ?_ ?side _); (case side => first | exact Nat.le_refl _ | (simp; done) | (simp; omega))))))
        refine (hD.out.move fun j hj _ => ?_).imp fun j hj _ => by omega
        rw [Below.heap_setCell _ _ _ _ (show j ≠ w'.heap.size + 1 by omega), Below.heap_setCell _ _ _ _ (show j ≠ w'.heap.size + 1 by omega), Below.heap_setCell _ _ _ _ (show j ≠ w'.heap.size + 1 by omega), Below.heap_setCell _ _ _ _ (show j ≠ w'.heap.size + 1 by omega), Below.heap_setCell _ _ _ _ (show j ≠ w'.heap.size + 1 by omega), Below.heap_setCell _ _ _ _ (show j ≠ w'.heap.size by omega)]
end Go.Proofs.YtmoadonepkccbaaGreatDoor
