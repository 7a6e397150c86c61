/- Contracts of fold and Fold (walks; printed by gen/fold.py). -/
import Derived.Test.YtpdpjindmghfpaaGreatDoorElt
namespace Go.Proofs.YtpdpjindmghfpaaGreatDoor
open Go.RowKit
theorem const_well {x : Ex} {f : Feat} (h : evalV x [] nilS = (f, 0)) : f.kind = 1 ∨ f.kind = 2 ∨ (f.kind = 3 ∧ (f.n = 0 ∨ f.n = 1)) := by
  unfold evalV at h
  by_cases hc : (checkV x []).2 ≠ 0
  · rw [if_pos hc] at h
    injection h with h1 h2
    exact absurd h2 hc
  · rw [if_neg hc] at h
    obtain ⟨h1, h2, h3, h4⟩ := checkV_ok (x := x) (l := []) (by omega)
    cases hv : x.ev [] nilS with
    | none => rw [hv] at h; injection h with h5 h6; cases h6
    | some g =>
      rw [hv] at h
      injection h with h5 h6
      subst h5
      have hw := ev_typed [] rfl nilS x h3 h4 g hv
      rcases hw with ⟨_, hk, hw⟩
      rw [hk]
      rcases hw with h | h | h
      · exact Or.inl h.1
      · exact Or.inr (Or.inl h.1)
      · exact Or.inr (Or.inr ⟨h.1, h.2.1⟩)
theorem map_take_snoc (args : List Ex) (k : Nat) (h : k < args.length) : (args.take (k + 1)).map Ex.foldV = (args.take k).map Ex.foldV ++ [(args.getD k exD).foldV] := by
  rw [take_snocD args exD k h]; simp

set_option maxRecDepth 8000 in
set_option maxHeartbeats 8000000 in
theorem fold_any {w : World} {v : Value} {l0 : List Ex} (h : ExS w v l0) : ∀ x : Ex, x.args = l0 → ∀ w', Ext w w' → x.parts.length ≤ 1000000 → Calls Tryz.prog 87 #[exAgg x v] w' (ExP x.foldV w') := by
  refine ExS.ind (P := fun x v => ∀ w', Ext w w' → x.parts.length ≤ 1000000 → Calls Tryz.prog 87 #[exAgg x v] w' (ExP x.foldV w')) ?_ h
  clear h
  intro x v hS hK w' hEw hpt
  obtain ⟨op, nm, tx, n, args⟩ := x
  obtain ⟨q, cp, rfl⟩ := hS.form
  replace hK := Lib.hid hK
  simp only [Ex.args] at hK hS ⊢
  have hNm := Lib.hid (fun w1 (h : Ext w w1) => names_fn (.mk op nm tx n args) (hS.ext h) hpt)
  have hEv := Lib.hid (fun w1 (h : Ext w w1) => eval_nil (.mk op nm tx n args) (hS.ext h) (.slice none 0 0) [] ⟨by simp, Or.inl ⟨none, 0, rfl, rfl⟩⟩ nilS (fun w2 E _ hc => asker_nil hc))
  have hcw := Lib.hid (fun f => const_well (x := .mk op nm tx n args) (f := f))
  have hfv := foldV_mk op nm tx n args
  unfold constB at hfv
  rw [parts_mk, List.length_cons] at hpt
  have hlen : args.length < 1000000 := by have := partsL_ge args; omega
  have huz := uniL_zero (Ex.mk op nm tx n args).occ
  simp only [exAgg_mk] at hNm hEv ⊢
  generalize (Ex.mk op nm tx n args).foldV = R at *
  generalize (Ex.mk op nm tx n args).occ = oc at *
  generalize evalV (.mk op nm tx n args) [] nilS = ev at *
  obtain ⟨ef, ec⟩ := ev
  unfold EvalPost at hEv
  simp only at hEv hfv
  replace hfv := Lib.hid hfv
  replace huz := Lib.hid huz
  clear hS
  obtain ⟨i0, hi, hz0, hz1, hz2⟩ := info_partsE infoExE
  replace hi := Lib.hid hi
  replace hz0 := Lib.hid hz0
  replace hz1 := Lib.hid hz1
  replace hz2 := Lib.hid hz2
  go_enter Tryz.func87, Tryz.ntmps87
  go_wp2_with fail
  refine (hNm.out _ (hEw.trans (by repeat (first | with_reducible exact Ext.refl _ | with_reducible exact hE0 | with_reducible exact hE | with_reducible refine Ext.alloc ?_ _ | with_reducible refine Ext.drewN ?_ _ | with_reducible refine Ext.drew ?_ | ((with_reducible refine Ext.setCell ?_ ?side _); (case side => first | exact Nat.le_refl _ | (simp; done) | (simp; omega))))))).mono ?_
  rintro e w1 ⟨nv, rfl, ⟨np, nc, rfl, -, -⟩, hE1⟩
  have hbx : Blk ((w'.alloc (.cells #[.int .i64 op, .string nm, .string tx, .int .i64 n, .slice q args.length cp] 24)).alloc (.cells #[.int .i64 0, .string ⟨#[]⟩, .string ⟨#[]⟩, .int .i64 0, .slice none 0 0] 24)) w'.heap.size #[.int .i64 op, .string nm, .string tx, .int .i64 n, .slice q args.length cp] 24 := (Blk.new _ _ _).alloc _
  have hbr : Blk ((w'.alloc (.cells #[.int .i64 op, .string nm, .string tx, .int .i64 n, .slice q args.length cp] 24)).alloc (.cells #[.int .i64 0, .string ⟨#[]⟩, .string ⟨#[]⟩, .int .i64 0, .slice none 0 0] 24)) (w'.heap.size + 1) #[.int .i64 0, .string ⟨#[]⟩, .string ⟨#[]⟩, .int .i64 0, .slice none 0 0] 24 := Blk.new' _ _ _ _ (by simp)
  replace hbx := Lib.hid (hbx.ext hE1)
  replace hbr := Lib.hid (hbr.ext hE1)
  have hE : Ext w' w1 := Ext.trans (by repeat (first | with_reducible exact Ext.refl _ | with_reducible exact hE0 | with_reducible exact hE | with_reducible refine Ext.alloc ?_ _ | with_reducible refine Ext.drewN ?_ _ | with_reducible refine Ext.drew ?_ | ((with_reducible refine Ext.setCell ?_ ?side _); (case side => first | exact Nat.le_refl _ | (simp; done) | (simp; omega))))) hE1
  clear hE1 hNm
  generalize (uniL oc).length = ul at *
  by_cases hu : ul = 0
  · have hoc := huz.out.1 hu
    subst hu
    subst hoc
    clear huz
    have x0 : w1.cell? ⟨w'.heap.size, 0, none⟩ = some (.int .i64 op) := (hbx.out.cell 0).trans rfl
    have x1 : w1.cell? ⟨w'.heap.size, 1, none⟩ = some (.string nm) := (hbx.out.cell 1).trans rfl
    have x2 : w1.cell? ⟨w'.heap.size, 2, none⟩ = some (.string tx) := (hbx.out.cell 2).trans rfl
    have x3 : w1.cell? ⟨w'.heap.size, 3, none⟩ = some (.int .i64 n) := (hbx.out.cell 3).trans rfl
    have x4 : w1.cell? ⟨w'.heap.size, 4, none⟩ = some (.slice q args.length cp) := (hbx.out.cell 4).trans rfl
    have hs0 : w'.heap.size < w1.heap.size := cell_lt x0
    go_wp2_with fail
    refine (hEv.out _ (hEw.trans hE)).mono ?_
    rintro e w2 ⟨rfl, hE2⟩
    replace hbx := Lib.hid (hbx.out.ext hE2)
    replace hbr := Lib.hid (hbr.out.ext hE2)
    have hlt2 := Lib.hid hbr.out.lt
    replace hE := hE.trans hE2
    clear hE2 hEv x0 x1 x2 x3 x4 hs0
    by_cases hc : ec = 0
    · subst hc
      have hR := Lib.hid (show R = litE ef by rw [hfv.out]; simp)
      have hL := Lib.hid (fun w3 => literal_any ef w3 (hcw.out ef rfl))
      clear hfv hcw
      go_wp2_with fail
      refine (hL.out _).mono ?_
      rintro e w3 ⟨lp, lc, rfl, hB, hE3⟩
      replace hbr := Lib.hid (hbr.out.ext (Ext.trans ((Ext.refl _).alloc _) hE3))
      replace hB := Lib.hid hB
      have hsz2 := Lib.hid (show w'.heap.size + 1 < w2.heap.size from hlt2.out)
      replace hE : Ext w' w3 := Ext.trans (hE.alloc _) hE3
      have y0 : w3.cell? ⟨w'.heap.size + 1, 0, none⟩ = some (.int .i64 0) := (hbr.out.cell 0).trans rfl
      have f0 := hbr.out.fz 0
      have y1 : w3.cell? ⟨w'.heap.size + 1, 1, none⟩ = some (.string ⟨#[]⟩) := (hbr.out.cell 1).trans rfl
      have f1 := hbr.out.fz 1
      have y2 : w3.cell? ⟨w'.heap.size + 1, 2, none⟩ = some (.string ⟨#[]⟩) := (hbr.out.cell 2).trans rfl
      have f2 := hbr.out.fz 2
      have y3 : w3.cell? ⟨w'.heap.size + 1, 3, none⟩ = some (.int .i64 0) := (hbr.out.cell 3).trans rfl
      have f3 := hbr.out.fz 3
      have y4 : w3.cell? ⟨w'.heap.size + 1, 4, none⟩ = some (.slice none 0 0) := (hbr.out.cell 4).trans rfl
      have f4 := hbr.out.fz 4
      have hs1 : w'.heap.size + 1 < w3.heap.size := cell_lt y0
      clear hE3 hL
      generalize litE ef = L at *
      go_wp2
      rw [hR.out]
      refine bodyPost_ret (v := .agg #[.int .i64 L.op, .string L.name, .string L.text, .int .i64 L.n, .slice lp L.args.length lc]) (by simp [results, Tryz.results87, go_sem, y0, y1, y2, y3, y4]) rfl ⟨lp, lc, rfl, ?_, (by repeat (first | with_reducible exact Ext.refl _ | with_reducible exact hE0 | with_reducible exact hE | with_reducible refine Ext.alloc ?_ _ | with_reducible refine Ext.drewN ?_ _ | with_reducible refine Ext.drew ?_ | ((with_reducible refine Ext.setCell ?_ ?side _); (case side => first | exact Nat.le_refl _ | (simp; done) | (simp; omega)))))⟩
      refine ((hB.out.imp (ok' := fun j => w2.heap.size ≤ j) fun j hj _ => by simp at hj; omega).move fun j hj _ => ?_).imp fun j hj _ => by have := hsz2.out; omega
      have := hsz2.out
      rw [Below.heap_setCell _ _ _ _ (show j ≠ w'.heap.size + 1 by omega), Below.heap_setCell _ _ _ _ (show j ≠ w'.heap.size + 1 by omega), Below.heap_setCell _ _ _ _ (show j ≠ w'.heap.size + 1 by omega), Below.heap_setCell _ _ _ _ (show j ≠ w'.heap.size + 1 by omega), Below.heap_setCell _ _ _ _ (show j ≠ w'.heap.size + 1 by omega)]
    · have d1 : (ec == 0) = false := by simp [hc]
      have hR := Lib.hid (show R = .mk op nm tx n (args.map Ex.foldV) by rw [hfv.out]; simp [hc])
      clear hc hfv hcw
      have x0 : w2.cell? ⟨w'.heap.size, 0, none⟩ = some (.int .i64 op) := (hbx.out.cell 0).trans rfl
      have x1 : w2.cell? ⟨w'.heap.size, 1, none⟩ = some (.string nm) := (hbx.out.cell 1).trans rfl
      have x2 : w2.cell? ⟨w'.heap.size, 2, none⟩ = some (.string tx) := (hbx.out.cell 2).trans rfl
      have x3 : w2.cell? ⟨w'.heap.size, 3, none⟩ = some (.int .i64 n) := (hbx.out.cell 3).trans rfl
      have x4 : w2.cell? ⟨w'.heap.size, 4, none⟩ = some (.slice q args.length cp) := (hbx.out.cell 4).trans rfl
      have hs0 : w'.heap.size < w2.heap.size := cell_lt x0
      have hs1 : w'.heap.size + 1 < w2.heap.size := hlt2.out
      go_wp2_with fail
      have hVb : Ext w2 (w2.alloc (.cells #[.string ef.name, .int .i64 ef.kind, .int .i64 ef.n, .string ef.text] 43)) := (Ext.refl _).alloc _
      have hWH : w2.heap.size + 1 = (w2.alloc (.cells #[.string ef.name, .int .i64 ef.kind, .int .i64 ef.n, .string ef.text] 43)).heap.size := by simp
      replace hbx := Lib.hid (hbx.out.ext hVb)
      replace hbr := Lib.hid (hbr.out.ext hVb)
      replace hE := hE.trans hVb
      generalize (w2.alloc (.cells #[.string ef.name, .int .i64 ef.kind, .int .i64 ef.n, .string ef.text] 43)) = w3 at *
      replace hWH := Lib.hid hWH
      replace hs1 : w'.heap.size + 1 < w2.heap.size + 1 := by omega
      have hb0 := Blk.new' w3 #[.int .i64 op, .string nm, .string tx, .int .i64 n, .slice none 0 0] 24 (w2.heap.size + 1) hWH.out
      have hE0 : Ext w3 (w3.alloc (.cells #[.int .i64 op, .string nm, .string tx, .int .i64 n, .slice none 0 0] 24)) := (Ext.refl _).alloc _
      have hsz : (w3.alloc (.cells #[.int .i64 op, .string nm, .string tx, .int .i64 n, .slice none 0 0] 24)).heap.size = (w2.heap.size + 1) + 1 := by simp [hWH.out]
      replace hbr := Lib.hid (hbr.out.ext hE0)
      generalize w3.alloc (.cells #[.int .i64 op, .string nm, .string tx, .int .i64 n, .slice none 0 0] 24) = w0 at *
      replace hsz := Lib.hid hsz
      replace hb0 := Lib.hid hb0
      have hlt0 := Lib.hid (show w'.heap.size + 1 < (w2.heap.size + 1) from hs1)
      clear x0 x1 x2 x3 x4 hs0 hs1
      go_loopw [26] (fun i wr => ∃ k : Nat, ∃ vv, k ≤ args.length ∧ i = .int .i64 k ∧ Blk wr (w2.heap.size + 1) #[.int .i64 op, .string nm, .string tx, .int .i64 n, vv] 24 ∧ CL wr ((w2.heap.size + 1) + 1) vv ((args.take k).map Ex.foldV) ∧ ExtBut (w2.heap.size + 1) w0 wr) (fun i _ => args.length - (intOf i).toNat)
      case atStart => exact ⟨0, _, Nat.zero_le _, rfl, hb0.out, CL.nil _ _, ExtBut.refl _ _⟩
      case round =>
        obtain ⟨k, vv, hk, rfl, hbw, hcl, hEb⟩ := hrel
        have hEW : Ext w3 wr := hEb.to hE0 (by have := hWH.out; omega)
        have hEr : Ext w' wr := hE.trans hEW
        by_cases hlt : k < args.length
        · obtain ⟨bb, off, rfl, sv, hkid⟩ := hK.out _ _ rfl (by omega)
          obtain ⟨hc, hsu, hP⟩ := hkid k hlt
          have hform := hsu.form
          obtain ⟨c0, c1, c2, c3, c4⟩ := (hc.ext (hEw.trans hEr)).five
          have hsn := Lib.hid (map_take_snoc args k hlt)
          have hpy := Lib.hid (show (args.getD k exD).parts.length ≤ 1000000 by have := partsL_len args k hlt; omega)
          have htl : ((args.take k).map Ex.foldV).length = k := by simp; omega
          generalize (args.take k).map Ex.foldV = ys at *
          replace hP := Lib.hid hP
          clear hc hkid hsu
          generalize args.getD k exD = y at *
          generalize sv k = u at *
          obtain ⟨uq, uc, rfl⟩ := hform
          obtain ⟨vp, vc, rfl⟩ := hcl.form
          rw [htl] at hcl hbw
          have b4 : wr.cell? ⟨(w2.heap.size + 1), 4, none⟩ = some (.slice vp k vc) := (hbw.cell 4).trans rfl
          have hbl : (w2.heap.size + 1) < wr.heap.size := hbw.lt
          replace htl := Lib.hid htl
          replace hcl := Lib.hid hcl
          replace hbw := Lib.hid hbw
          go_wp2_with fail
          have hbP := Blk.new wr #[.int .i64 y.op, .string y.name, .string y.text, .int .i64 y.n, .slice uq y.args.length uc] 24
          have hX9 : Ext wr (wr.alloc (.cells #[.int .i64 y.op, .string y.name, .string y.text, .int .i64 y.n, .slice uq y.args.length uc] 24)) := (Ext.refl _).alloc _
          have hs9 : (wr.alloc (.cells #[.int .i64 y.op, .string y.name, .string y.text, .int .i64 y.n, .slice uq y.args.length uc] 24)).heap.size = wr.heap.size + 1 := by simp
          generalize wr.alloc (.cells #[.int .i64 y.op, .string y.name, .string y.text, .int .i64 y.n, .slice uq y.args.length uc] 24) = w9 at *
          have hE9 := Lib.hid (hEr.trans hX9)
          have hNB := Lib.hid (show (w2.heap.size + 1) + 1 ≤ w9.heap.size by have h1 := hsz.out; have h2 := hEb.size; omega)
          have hrB : ∀ j, Value.ownBlock (.slice vp k vc) = some j → (w2.heap.size + 1) + 1 ≤ j := fun j e => by obtain ⟨us, _, h⟩ := hcl.out.row; exact (h.lt j e).1
          have hrN : ∀ j, Value.ownBlock (.slice vp k vc) = some j → j < w9.heap.size := fun j e => by obtain ⟨us, _, h⟩ := hcl.out.row; have := (h.lt j e).2; omega
          have hrP : ∀ j, Value.ownBlock (.slice vp k vc) = some j → j < wr.heap.size := fun j e => by obtain ⟨us, _, h⟩ := hcl.out.row; exact (h.lt j e).2
          replace hrB := Lib.hid hrB
          replace hrN := Lib.hid hrN
          replace hrP := Lib.hid hrP
          replace hcl := Lib.hid (hcl.out.ext hX9)
          replace hbw := Lib.hid (hbw.out.ext hX9)
          replace b4 := hX9.get b4
          replace hbl : (w2.heap.size + 1) < w9.heap.size := hbw.out.lt
          replace hEb := Lib.hid (hEb.ext hX9)
          have r0 : w9.cell? ⟨wr.heap.size, 0, none⟩ = some (.int .i64 y.op) := (hbP.cell 0).trans rfl
          have r1 : w9.cell? ⟨wr.heap.size, 1, none⟩ = some (.string y.name) := (hbP.cell 1).trans rfl
          have r2 : w9.cell? ⟨wr.heap.size, 2, none⟩ = some (.string y.text) := (hbP.cell 2).trans rfl
          have r3 : w9.cell? ⟨wr.heap.size, 3, none⟩ = some (.int .i64 y.n) := (hbP.cell 3).trans rfl
          have r4 : w9.cell? ⟨wr.heap.size, 4, none⟩ = some (.slice uq y.args.length uc) := (hbP.cell 4).trans rfl
          replace hbP := Lib.hid hbP
          replace hs9 := Lib.hid hs9
          clear hX9 c0 c1 c2 c3 c4
          refine wp_region_late 3 (fun W => W.cell? ⟨wr.heap.size, 0, none⟩ = some (.int .i64 y.op) ∧ W.cell? ⟨wr.heap.size, 1, none⟩ = some (.string y.name) ∧ W.cell? ⟨wr.heap.size, 2, none⟩ = some (.string y.text) ∧ W.cell? ⟨wr.heap.size, 3, none⟩ = some (.int .i64 y.n) ∧ W.cell? ⟨wr.heap.size, 4, none⟩ = some (.slice uq y.args.length uc) ∧ W.cell? ⟨(w2.heap.size + 1), 4, none⟩ = some (.slice vp k vc)) (by kernel_rfl) (by kernel_rfl) ⟨r0, r1, r2, r3, r4, b4⟩ ?aFb ?headb ?tailb
          case headb =>
                simp only [List.take_succ_cons, List.take_zero]
                refine HeldHead.cons ?v0b (by rfl) ?hv0b ?rest0b
                case hv0b =>
                  intro W hW
                  obtain ⟨h0, h1, h2, h3, h4, h5⟩ := hW
                  go_simp
                  try with_reducible rfl
                simp only [Act.put, List.setIfInBounds_toArray, List.set_cons_zero, List.set_cons_succ]
                refine HeldHead.cons ?v1b (by rfl) ?hv1b ?rest1b
                case hv1b =>
                  intro W hW
                  obtain ⟨h0, h1, h2, h3, h4, h5⟩ := hW
                  go_simp
                  try with_reducible rfl
                simp only [Act.put, List.setIfInBounds_toArray, List.set_cons_zero, List.set_cons_succ]
                refine HeldHead.cons ?v2b (by rfl) ?hv2b ?rest2b
                case hv2b =>
                  intro W hW
                  obtain ⟨h0, h1, h2, h3, h4, h5⟩ := hW
                  go_simp
                  try with_reducible rfl
                simp only [Act.put, List.setIfInBounds_toArray, List.set_cons_zero, List.set_cons_succ]
                exact HeldHead.nil
          simp only [List.drop_succ_cons, List.drop_zero]
          refine wpTail_cons ?_
          go_wp2_with fail
          refine (hP.out _ (Ext.drew (hEw.trans hE9.out)) hpy.out).mono ?_
          rintro e w5a ⟨p1, q1, rfl, hB1, hE1⟩
          have hS : Ext w9 w5a := Ext.trans (Ext.refl _).drew hE1
          replace hbw := Lib.hid (hbw.out.ext hS)
          replace hbP := Lib.hid (hbP.out.ext hS)
          obtain ⟨-, us, hus, hrow, hks⟩ := hcl.out.ext hS
          rw [htl.out] at hrow
          have hsz1 := Lib.hid (show (w2.heap.size + 1) + 1 ≤ w5a.heap.size by have := hNB.out; have := hS.size; omega)
          replace hEb := Lib.hid (hEb.out.ext hS)
          replace hbl : (w2.heap.size + 1) < w5a.heap.size := hbw.out.lt
          have hb5 := Lib.hid (Blk.new w5a #[.int .i64 y.foldV.op, .string y.foldV.name, .string y.foldV.text, .int .i64 y.foldV.n, .slice p1 y.foldV.args.length q1] 24)
          replace hus := Lib.hid hus
          replace hks := Lib.hid hks
          replace hrow := Lib.hid hrow
          replace hB1 := Lib.hid hB1
          replace r0 := hS.get r0
          replace r1 := hS.get r1
          replace r2 := hS.get r2
          replace r3 := hS.get r3
          replace r4 := hS.get r4
          replace b4 := hS.get b4
          clear hE1 hS hcl
          go_wp2_with fail
          refine ThenS.mk ⟨r0, r1, r2, r3, r4, b4⟩ (wpTail_cons ?_)
          go_wp2_with fail
          refine ThenS.mk ⟨Ext.get (by repeat (first | with_reducible exact Ext.refl _ | with_reducible exact hE0 | with_reducible exact hE | with_reducible refine Ext.alloc ?_ _ | with_reducible refine Ext.drewN ?_ _ | with_reducible refine Ext.drew ?_ | ((with_reducible refine Ext.setCell ?_ ?side _); (case side => first | exact Nat.le_refl _ | (simp; done) | (simp; omega))))) r0, Ext.get (by repeat (first | with_reducible exact Ext.refl _ | with_reducible exact hE0 | with_reducible exact hE | with_reducible refine Ext.alloc ?_ _ | with_reducible refine Ext.drewN ?_ _ | with_reducible refine Ext.drew ?_ | ((with_reducible refine Ext.setCell ?_ ?side _); (case side => first | exact Nat.le_refl _ | (simp; done) | (simp; omega))))) r1, Ext.get (by repeat (first | with_reducible exact Ext.refl _ | with_reducible exact hE0 | with_reducible exact hE | with_reducible refine Ext.alloc ?_ _ | with_reducible refine Ext.drewN ?_ _ | with_reducible refine Ext.drew ?_ | ((with_reducible refine Ext.setCell ?_ ?side _); (case side => first | exact Nat.le_refl _ | (simp; done) | (simp; omega))))) r2, Ext.get (by repeat (first | with_reducible exact Ext.refl _ | with_reducible exact hE0 | with_reducible exact hE | with_reducible refine Ext.alloc ?_ _ | with_reducible refine Ext.drewN ?_ _ | with_reducible refine Ext.drew ?_ | ((with_reducible refine Ext.setCell ?_ ?side _); (case side => first | exact Nat.le_refl _ | (simp; done) | (simp; omega))))) r3, Ext.get (by repeat (first | with_reducible exact Ext.refl _ | with_reducible exact hE0 | with_reducible exact hE | with_reducible refine Ext.alloc ?_ _ | with_reducible refine Ext.drewN ?_ _ | with_reducible refine Ext.drew ?_ | ((with_reducible refine Ext.setCell ?_ ?side _); (case side => first | exact Nat.le_refl _ | (simp; done) | (simp; omega))))) r4, Ext.get (by repeat (first | with_reducible exact Ext.refl _ | with_reducible exact hE0 | with_reducible exact hE | with_reducible refine Ext.alloc ?_ _ | with_reducible refine Ext.drewN ?_ _ | with_reducible refine Ext.drew ?_ | ((with_reducible refine Ext.setCell ?_ ?side _); (case side => first | exact Nat.le_refl _ | (simp; done) | (simp; omega))))) b4⟩ (wpTail_cons ?_)
          go_wp2_with (at_builtin; refine wpList_append_lies _ rfl _ _ 22 rfl ((w2.heap.size + 1) + 1) 24 i0 (.agg #[.int .i64 0, .string ⟨#[]⟩, .string ⟨#[]⟩, .int .i64 0, .slice none 0 0]) 5 72 Tryz.underlying22 hi.out hz0.out hz1.out hz2.out rfl (by decide) _ _ _ rfl (hrow.out.alloc _) ⟨w5a.heap.size, 0, none⟩ 1 1 [.int .i64 y.foldV.op, .string y.foldV.name, .string y.foldV.text, .int .i64 y.foldV.n, .slice p1 y.foldV.args.length q1] rfl rfl ?_ ?_ (by decide) ?_ ?_ ?_ (w5a.heap.size + 1) ?_ ?_)
          · exact cell_five_new hb5.out
          · exact five_one _ _ _ _ _ _ _ rfl rfl
          · unfold maxLen; omega
          · omega
          · have := hsz1.out; simp; omega
          · simp
          intro gg cap w5 hown5 hgrow5 hat5 hgl5
          have hbw5 := blk_grownE hgrow5 (hbw.out.alloc _) (fun j e => by have := hrB.out j e; omega)
          have hbP5 := blk_grownE hgrow5 (hbP.out.alloc _) (fun j e => by have := hrP.out j e; omega)
          replace b4 : w5.cell? ⟨(w2.heap.size + 1), 4, none⟩ = some (.slice vp k vc) := (hbw5.cell 4).trans rfl
          have b4f : w5.frozen? ⟨(w2.heap.size + 1), 4, none⟩ = false := hbw5.fz 4
          replace r0 : w5.cell? ⟨wr.heap.size, 0, none⟩ = some (.int .i64 y.op) := (hbP5.cell 0).trans rfl
          replace r1 : w5.cell? ⟨wr.heap.size, 1, none⟩ = some (.string y.name) := (hbP5.cell 1).trans rfl
          replace r2 : w5.cell? ⟨wr.heap.size, 2, none⟩ = some (.string y.text) := (hbP5.cell 2).trans rfl
          replace r3 : w5.cell? ⟨wr.heap.size, 3, none⟩ = some (.int .i64 y.n) := (hbP5.cell 3).trans rfl
          replace r4 : w5.cell? ⟨wr.heap.size, 4, none⟩ = some (.slice uq y.args.length uc) := (hbP5.cell 4).trans rfl
          have hC5 := Lib.hid (CL.step htl.out (by omega) hus.out hks.out hB1.out hNB.out hrN.out hown5 hgrow5 hat5)
          have hE5 := Lib.hid ((hEb.out.ext ((Ext.refl _).alloc _)).grown hgrow5 (fun j e => by have := hrB.out j e; have := hsz.out; omega))
          replace hbw5 := Lib.hid hbw5
          clear hown5 hgrow5 hat5 hgl5 hbP5
          try go_wp2_with fail
          refine ThenS.mk ⟨r0, r1, r2, r3, r4, b4⟩ (wpTail_cons ?_)
          go_wp2_with fail
          refine ThenS.mk ⟨r0, r1, r2, r3, r4, b4⟩ (wpTail_one ?_)
          go_wp2_with fail
          refine NoPanic.normal ?_
          go_wp2
          go_roundw
          case rel => exact ⟨k + 1, _, by omega, by go_num, hbw5.out.set 4 _, by rw [hsn.out]; exact hC5.out.set (by omega) _, hE5.out.set _ _⟩
          case measure => simp [intOf]; omega
        · have hkk : args.take k = args := List.take_of_length_le (by omega)
          rw [hkk] at hcl
          clear hkk
          obtain ⟨vp, vc, rfl⟩ := hcl.form
          have hbr := hEb.blk hbr.out (by have := hlt0.out; omega)
          have y0 : wr.cell? ⟨w'.heap.size + 1, 0, none⟩ = some (.int .i64 0) := (hbr.cell 0).trans rfl
          have y1 : wr.cell? ⟨w'.heap.size + 1, 1, none⟩ = some (.string ⟨#[]⟩) := (hbr.cell 1).trans rfl
          have y2 : wr.cell? ⟨w'.heap.size + 1, 2, none⟩ = some (.string ⟨#[]⟩) := (hbr.cell 2).trans rfl
          have y3 : wr.cell? ⟨w'.heap.size + 1, 3, none⟩ = some (.int .i64 0) := (hbr.cell 3).trans rfl
          have y4 : wr.cell? ⟨w'.heap.size + 1, 4, none⟩ = some (.slice none 0 0) := (hbr.cell 4).trans rfl
          have f0 := hbr.fz 0
          have f1 := hbr.fz 1
          have f2 := hbr.fz 2
          have f3 := hbr.fz 3
          have f4 := hbr.fz 4
          have x0 : wr.cell? ⟨(w2.heap.size + 1), 0, none⟩ = some (.int .i64 op) := (hbw.cell 0).trans rfl
          have x1 : wr.cell? ⟨(w2.heap.size + 1), 1, none⟩ = some (.string nm) := (hbw.cell 1).trans rfl
          have x2 : wr.cell? ⟨(w2.heap.size + 1), 2, none⟩ = some (.string tx) := (hbw.cell 2).trans rfl
          have x3 : wr.cell? ⟨(w2.heap.size + 1), 3, none⟩ = some (.int .i64 n) := (hbw.cell 3).trans rfl
          have x4 : wr.cell? ⟨(w2.heap.size + 1), 4, none⟩ = some (.slice vp (args.map Ex.foldV).length vc) := (hbw.cell 4).trans rfl
          replace hcl := Lib.hid hcl
          clear hbr hbw hEb
          replace hE := hEr
          clear hE0
          go_wp2
          have hres : (Ex.mk op nm tx n (args.map Ex.foldV)).args.length = (args.map Ex.foldV).length := rfl
          rw [hR.out]
          refine bodyPost_ret (v := .agg #[.int .i64 op, .string nm, .string tx, .int .i64 n, .slice vp (args.map Ex.foldV).length vc]) (by simp [results, Tryz.results87, go_sem, y0, y1, y2, y3, y4]) rfl ⟨vp, vc, rfl, ?_, (by repeat (first | with_reducible exact Ext.refl _ | with_reducible exact hE0 | with_reducible exact hE | with_reducible refine Ext.alloc ?_ _ | with_reducible refine Ext.drewN ?_ _ | with_reducible refine Ext.drew ?_ | ((with_reducible refine Ext.setCell ?_ ?side _); (case side => first | exact Nat.le_refl _ | (simp; done) | (simp; omega)))))⟩
          refine ((((((hcl.out.set (b := w'.heap.size + 1) (by have := hlt0.out; omega) _).set (b := w'.heap.size + 1) (by have := hlt0.out; omega) _).set (b := w'.heap.size + 1) (by have := hlt0.out; omega) _).set (b := w'.heap.size + 1) (by have := hlt0.out; omega) _).set (b := w'.heap.size + 1) (by have := hlt0.out; omega) _).done).imp fun j hj _ => by have := hlt0.out; omega
  · have huf : ((ul : Int) == 0) = false := by simp; omega
    have hne : ¬ oc = [] := fun h => hu (huz.out.2 h)
    have hR := Lib.hid (show R = .mk op nm tx n (args.map Ex.foldV) by rw [hfv.out]; simp [hne])
    clear hne hfv hcw hEv hu huz
    have x0 : w1.cell? ⟨w'.heap.size, 0, none⟩ = some (.int .i64 op) := (hbx.out.cell 0).trans rfl
    have x1 : w1.cell? ⟨w'.heap.size, 1, none⟩ = some (.string nm) := (hbx.out.cell 1).trans rfl
    have x2 : w1.cell? ⟨w'.heap.size, 2, none⟩ = some (.string tx) := (hbx.out.cell 2).trans rfl
    have x3 : w1.cell? ⟨w'.heap.size, 3, none⟩ = some (.int .i64 n) := (hbx.out.cell 3).trans rfl
    have x4 : w1.cell? ⟨w'.heap.size, 4, none⟩ = some (.slice q args.length cp) := (hbx.out.cell 4).trans rfl
    have hs0 : w'.heap.size < w1.heap.size := cell_lt x0
    have hs1 : w'.heap.size + 1 < w1.heap.size := hbr.out.lt
    go_wp2_with fail
    have hWH : Hid (w1.heap.size = w1.heap.size) := Lib.hid rfl
    have hb0 := Blk.new' w1 #[.int .i64 op, .string nm, .string tx, .int .i64 n, .slice none 0 0] 24 w1.heap.size hWH.out
    have hE0 : Ext w1 (w1.alloc (.cells #[.int .i64 op, .string nm, .string tx, .int .i64 n, .slice none 0 0] 24)) := (Ext.refl _).alloc _
    have hsz : (w1.alloc (.cells #[.int .i64 op, .string nm, .string tx, .int .i64 n, .slice none 0 0] 24)).heap.size = w1.heap.size + 1 := by simp
    replace hbr := Lib.hid (hbr.out.ext hE0)
    generalize w1.alloc (.cells #[.int .i64 op, .string nm, .string tx, .int .i64 n, .slice none 0 0] 24) = w0 at *
    replace hsz := Lib.hid hsz
    replace hb0 := Lib.hid hb0
    have hlt0 := Lib.hid (show w'.heap.size + 1 < w1.heap.size from hs1)
    clear x0 x1 x2 x3 x4 hs0 hs1
    go_loopw [26] (fun i wr => ∃ k : Nat, ∃ vv, k ≤ args.length ∧ i = .int .i64 k ∧ Blk wr w1.heap.size #[.int .i64 op, .string nm, .string tx, .int .i64 n, vv] 24 ∧ CL wr (w1.heap.size + 1) vv ((args.take k).map Ex.foldV) ∧ ExtBut w1.heap.size w0 wr) (fun i _ => args.length - (intOf i).toNat)
    case atStart => exact ⟨0, _, Nat.zero_le _, rfl, hb0.out, CL.nil _ _, ExtBut.refl _ _⟩
    case round =>
      obtain ⟨k, vv, hk, rfl, hbw, hcl, hEb⟩ := hrel
      have hEW : Ext w1 wr := hEb.to hE0 (by have := hWH.out; omega)
      have hEr : Ext w' wr := hE.trans hEW
      by_cases hlt : k < args.length
      · obtain ⟨bb, off, rfl, sv, hkid⟩ := hK.out _ _ rfl (by omega)
        obtain ⟨hc, hsu, hP⟩ := hkid k hlt
        have hform := hsu.form
        obtain ⟨c0, c1, c2, c3, c4⟩ := (hc.ext (hEw.trans hEr)).five
        have hsn := Lib.hid (map_take_snoc args k hlt)
        have hpy := Lib.hid (show (args.getD k exD).parts.length ≤ 1000000 by have := partsL_len args k hlt; omega)
        have htl : ((args.take k).map Ex.foldV).length = k := by simp; omega
        generalize (args.take k).map Ex.foldV = ys at *
        replace hP := Lib.hid hP
        clear hc hkid hsu
        generalize args.getD k exD = y at *
        generalize sv k = u at *
        obtain ⟨uq, uc, rfl⟩ := hform
        obtain ⟨vp, vc, rfl⟩ := hcl.form
        rw [htl] at hcl hbw
        have b4 : wr.cell? ⟨w1.heap.size, 4, none⟩ = some (.slice vp k vc) := (hbw.cell 4).trans rfl
        have hbl : w1.heap.size < wr.heap.size := hbw.lt
        replace htl := Lib.hid htl
        replace hcl := Lib.hid hcl
        replace hbw := Lib.hid hbw
        go_wp2_with fail
        have hbP := Blk.new wr #[.int .i64 y.op, .string y.name, .string y.text, .int .i64 y.n, .slice uq y.args.length uc] 24
        have hX9 : Ext wr (wr.alloc (.cells #[.int .i64 y.op, .string y.name, .string y.text, .int .i64 y.n, .slice uq y.args.length uc] 24)) := (Ext.refl _).alloc _
        have hs9 : (wr.alloc (.cells #[.int .i64 y.op, .string y.name, .string y.text, .int .i64 y.n, .slice uq y.args.length uc] 24)).heap.size = wr.heap.size + 1 := by simp
        generalize wr.alloc (.cells #[.int .i64 y.op, .string y.name, .string y.text, .int .i64 y.n, .slice uq y.args.length uc] 24) = w9 at *
        have hE9 := Lib.hid (hEr.trans hX9)
        have hNB := Lib.hid (show w1.heap.size + 1 ≤ w9.heap.size by have h1 := hsz.out; have h2 := hEb.size; omega)
        have hrB : ∀ j, Value.ownBlock (.slice vp k vc) = some j → w1.heap.size + 1 ≤ j := fun j e => by obtain ⟨us, _, h⟩ := hcl.out.row; exact (h.lt j e).1
        have hrN : ∀ j, Value.ownBlock (.slice vp k vc) = some j → j < w9.heap.size := fun j e => by obtain ⟨us, _, h⟩ := hcl.out.row; have := (h.lt j e).2; omega
        have hrP : ∀ j, Value.ownBlock (.slice vp k vc) = some j → j < wr.heap.size := fun j e => by obtain ⟨us, _, h⟩ := hcl.out.row; exact (h.lt j e).2
        replace hrB := Lib.hid hrB
        replace hrN := Lib.hid hrN
        replace hrP := Lib.hid hrP
        replace hcl := Lib.hid (hcl.out.ext hX9)
        replace hbw := Lib.hid (hbw.out.ext hX9)
        replace b4 := hX9.get b4
        replace hbl : w1.heap.size < w9.heap.size := hbw.out.lt
        replace hEb := Lib.hid (hEb.ext hX9)
        have r0 : w9.cell? ⟨wr.heap.size, 0, none⟩ = some (.int .i64 y.op) := (hbP.cell 0).trans rfl
        have r1 : w9.cell? ⟨wr.heap.size, 1, none⟩ = some (.string y.name) := (hbP.cell 1).trans rfl
        have r2 : w9.cell? ⟨wr.heap.size, 2, none⟩ = some (.string y.text) := (hbP.cell 2).trans rfl
        have r3 : w9.cell? ⟨wr.heap.size, 3, none⟩ = some (.int .i64 y.n) := (hbP.cell 3).trans rfl
        have r4 : w9.cell? ⟨wr.heap.size, 4, none⟩ = some (.slice uq y.args.length uc) := (hbP.cell 4).trans rfl
        replace hbP := Lib.hid hbP
        replace hs9 := Lib.hid hs9
        clear hX9 c0 c1 c2 c3 c4
        refine wp_region_late 3 (fun W => W.cell? ⟨wr.heap.size, 0, none⟩ = some (.int .i64 y.op) ∧ W.cell? ⟨wr.heap.size, 1, none⟩ = some (.string y.name) ∧ W.cell? ⟨wr.heap.size, 2, none⟩ = some (.string y.text) ∧ W.cell? ⟨wr.heap.size, 3, none⟩ = some (.int .i64 y.n) ∧ W.cell? ⟨wr.heap.size, 4, none⟩ = some (.slice uq y.args.length uc) ∧ W.cell? ⟨w1.heap.size, 4, none⟩ = some (.slice vp k vc)) (by kernel_rfl) (by kernel_rfl) ⟨r0, r1, r2, r3, r4, b4⟩ ?aFa ?heada ?taila
        case heada =>
              simp only [List.take_succ_cons, List.take_zero]
              refine HeldHead.cons ?v0a (by rfl) ?hv0a ?rest0a
              case hv0a =>
                intro W hW
                obtain ⟨h0, h1, h2, h3, h4, h5⟩ := hW
                go_simp
                try with_reducible rfl
              simp only [Act.put, List.setIfInBounds_toArray, List.set_cons_zero, List.set_cons_succ]
              refine HeldHead.cons ?v1a (by rfl) ?hv1a ?rest1a
              case hv1a =>
                intro W hW
                obtain ⟨h0, h1, h2, h3, h4, h5⟩ := hW
                go_simp
                try with_reducible rfl
              simp only [Act.put, List.setIfInBounds_toArray, List.set_cons_zero, List.set_cons_succ]
              refine HeldHead.cons ?v2a (by rfl) ?hv2a ?rest2a
              case hv2a =>
                intro W hW
                obtain ⟨h0, h1, h2, h3, h4, h5⟩ := hW
                go_simp
                try with_reducible rfl
              simp only [Act.put, List.setIfInBounds_toArray, List.set_cons_zero, List.set_cons_succ]
              exact HeldHead.nil
        simp only [List.drop_succ_cons, List.drop_zero]
        refine wpTail_cons ?_
        go_wp2_with fail
        refine (hP.out _ (Ext.drew (hEw.trans hE9.out)) hpy.out).mono ?_
        rintro e w5a ⟨p1, q1, rfl, hB1, hE1⟩
        have hS : Ext w9 w5a := Ext.trans (Ext.refl _).drew hE1
        replace hbw := Lib.hid (hbw.out.ext hS)
        replace hbP := Lib.hid (hbP.out.ext hS)
        obtain ⟨-, us, hus, hrow, hks⟩ := hcl.out.ext hS
        rw [htl.out] at hrow
        have hsz1 := Lib.hid (show w1.heap.size + 1 ≤ w5a.heap.size by have := hNB.out; have := hS.size; omega)
        replace hEb := Lib.hid (hEb.out.ext hS)
        replace hbl : w1.heap.size < w5a.heap.size := hbw.out.lt
        have hb5 := Lib.hid (Blk.new w5a #[.int .i64 y.foldV.op, .string y.foldV.name, .string y.foldV.text, .int .i64 y.foldV.n, .slice p1 y.foldV.args.length q1] 24)
        replace hus := Lib.hid hus
        replace hks := Lib.hid hks
        replace hrow := Lib.hid hrow
        replace hB1 := Lib.hid hB1
        replace r0 := hS.get r0
        replace r1 := hS.get r1
        replace r2 := hS.get r2
        replace r3 := hS.get r3
        replace r4 := hS.get r4
        replace b4 := hS.get b4
        clear hE1 hS hcl
        go_wp2_with fail
        refine ThenS.mk ⟨r0, r1, r2, r3, r4, b4⟩ (wpTail_cons ?_)
        go_wp2_with fail
        refine ThenS.mk ⟨Ext.get (by repeat (first | with_reducible exact Ext.refl _ | with_reducible exact hE0 | with_reducible exact hE | with_reducible refine Ext.alloc ?_ _ | with_reducible refine Ext.drewN ?_ _ | with_reducible refine Ext.drew ?_ | ((with_reducible refine Ext.setCell ?_ ?side _); (case side => first | exact Nat.le_refl _ | (simp; done) | (simp; omega))))) r0, Ext.get (by repeat (first | with_reducible exact Ext.refl _ | with_reducible exact hE0 | with_reducible exact hE | with_reducible refine Ext.alloc ?_ _ | with_reducible refine Ext.drewN ?_ _ | with_reducible refine Ext.drew ?_ | ((with_reducible refine Ext.setCell ?_ ?side _); (case side => first | exact Nat.le_refl _ | (simp; done) | (simp; omega))))) r1, Ext.get (by repeat (first | with_reducible exact Ext.refl _ | with_reducible exact hE0 | with_reducible exact hE | with_reducible refine Ext.alloc ?_ _ | with_reducible refine Ext.drewN ?_ _ | with_reducible refine Ext.drew ?_ | ((with_reducible refine Ext.setCell ?_ ?side _); (case side => first | exact Nat.le_refl _ | (simp; done) | (simp; omega))))) r2, Ext.get (by repeat (first | with_reducible exact Ext.refl _ | with_reducible exact hE0 | with_reducible exact hE | with_reducible refine Ext.alloc ?_ _ | with_reducible refine Ext.drewN ?_ _ | with_reducible refine Ext.drew ?_ | ((with_reducible refine Ext.setCell ?_ ?side _); (case side => first | exact Nat.le_refl _ | (simp; done) | (simp; omega))))) r3, Ext.get (by repeat (first | with_reducible exact Ext.refl _ | with_reducible exact hE0 | with_reducible exact hE | with_reducible refine Ext.alloc ?_ _ | with_reducible refine Ext.drewN ?_ _ | with_reducible refine Ext.drew ?_ | ((with_reducible refine Ext.setCell ?_ ?side _); (case side => first | exact Nat.le_refl _ | (simp; done) | (simp; omega))))) r4, Ext.get (by repeat (first | with_reducible exact Ext.refl _ | with_reducible exact hE0 | with_reducible exact hE | with_reducible refine Ext.alloc ?_ _ | with_reducible refine Ext.drewN ?_ _ | with_reducible refine Ext.drew ?_ | ((with_reducible refine Ext.setCell ?_ ?side _); (case side => first | exact Nat.le_refl _ | (simp; done) | (simp; omega))))) b4⟩ (wpTail_cons ?_)
        go_wp2_with (at_builtin; refine wpList_append_lies _ rfl _ _ 22 rfl (w1.heap.size + 1) 24 i0 (.agg #[.int .i64 0, .string ⟨#[]⟩, .string ⟨#[]⟩, .int .i64 0, .slice none 0 0]) 5 72 Tryz.underlying22 hi.out hz0.out hz1.out hz2.out rfl (by decide) _ _ _ rfl (hrow.out.alloc _) ⟨w5a.heap.size, 0, none⟩ 1 1 [.int .i64 y.foldV.op, .string y.foldV.name, .string y.foldV.text, .int .i64 y.foldV.n, .slice p1 y.foldV.args.length q1] rfl rfl ?_ ?_ (by decide) ?_ ?_ ?_ (w5a.heap.size + 1) ?_ ?_)
        · exact cell_five_new hb5.out
        · exact five_one _ _ _ _ _ _ _ rfl rfl
        · unfold maxLen; omega
        · omega
        · have := hsz1.out; simp; omega
        · simp
        intro gg cap w5 hown5 hgrow5 hat5 hgl5
        have hbw5 := blk_grownE hgrow5 (hbw.out.alloc _) (fun j e => by have := hrB.out j e; omega)
        have hbP5 := blk_grownE hgrow5 (hbP.out.alloc _) (fun j e => by have := hrP.out j e; omega)
        replace b4 : w5.cell? ⟨w1.heap.size, 4, none⟩ = some (.slice vp k vc) := (hbw5.cell 4).trans rfl
        have b4f : w5.frozen? ⟨w1.heap.size, 4, none⟩ = false := hbw5.fz 4
        replace r0 : w5.cell? ⟨wr.heap.size, 0, none⟩ = some (.int .i64 y.op) := (hbP5.cell 0).trans rfl
        replace r1 : w5.cell? ⟨wr.heap.size, 1, none⟩ = some (.string y.name) := (hbP5.cell 1).trans rfl
        replace r2 : w5.cell? ⟨wr.heap.size, 2, none⟩ = some (.string y.text) := (hbP5.cell 2).trans rfl
        replace r3 : w5.cell? ⟨wr.heap.size, 3, none⟩ = some (.int .i64 y.n) := (hbP5.cell 3).trans rfl
        replace r4 : w5.cell? ⟨wr.heap.size, 4, none⟩ = some (.slice uq y.args.length uc) := (hbP5.cell 4).trans rfl
        have hC5 := Lib.hid (CL.step htl.out (by omega) hus.out hks.out hB1.out hNB.out hrN.out hown5 hgrow5 hat5)
        have hE5 := Lib.hid ((hEb.out.ext ((Ext.refl _).alloc _)).grown hgrow5 (fun j e => by have := hrB.out j e; have := hsz.out; omega))
        replace hbw5 := Lib.hid hbw5
        clear hown5 hgrow5 hat5 hgl5 hbP5
        try go_wp2_with fail
        refine ThenS.mk ⟨r0, r1, r2, r3, r4, b4⟩ (wpTail_cons ?_)
        go_wp2_with fail
        refine ThenS.mk ⟨r0, r1, r2, r3, r4, b4⟩ (wpTail_one ?_)
        go_wp2_with fail
        refine NoPanic.normal ?_
        go_wp2
        go_roundw
        case rel => exact ⟨k + 1, _, by omega, by go_num, hbw5.out.set 4 _, by rw [hsn.out]; exact hC5.out.set (by omega) _, hE5.out.set _ _⟩
        case measure => simp [intOf]; omega
      · have hkk : args.take k = args := List.take_of_length_le (by omega)
        rw [hkk] at hcl
        clear hkk
        obtain ⟨vp, vc, rfl⟩ := hcl.form
        have hbr := hEb.blk hbr.out (by have := hlt0.out; omega)
        have y0 : wr.cell? ⟨w'.heap.size + 1, 0, none⟩ = some (.int .i64 0) := (hbr.cell 0).trans rfl
        have y1 : wr.cell? ⟨w'.heap.size + 1, 1, none⟩ = some (.string ⟨#[]⟩) := (hbr.cell 1).trans rfl
        have y2 : wr.cell? ⟨w'.heap.size + 1, 2, none⟩ = some (.string ⟨#[]⟩) := (hbr.cell 2).trans rfl
        have y3 : wr.cell? ⟨w'.heap.size + 1, 3, none⟩ = some (.int .i64 0) := (hbr.cell 3).trans rfl
        have y4 : wr.cell? ⟨w'.heap.size + 1, 4, none⟩ = some (.slice none 0 0) := (hbr.cell 4).trans rfl
        have f0 := hbr.fz 0
        have f1 := hbr.fz 1
        have f2 := hbr.fz 2
        have f3 := hbr.fz 3
        have f4 := hbr.fz 4
        have x0 : wr.cell? ⟨w1.heap.size, 0, none⟩ = some (.int .i64 op) := (hbw.cell 0).trans rfl
        have x1 : wr.cell? ⟨w1.heap.size, 1, none⟩ = some (.string nm) := (hbw.cell 1).trans rfl
        have x2 : wr.cell? ⟨w1.heap.size, 2, none⟩ = some (.string tx) := (hbw.cell 2).trans rfl
        have x3 : wr.cell? ⟨w1.heap.size, 3, none⟩ = some (.int .i64 n) := (hbw.cell 3).trans rfl
        have x4 : wr.cell? ⟨w1.heap.size, 4, none⟩ = some (.slice vp (args.map Ex.foldV).length vc) := (hbw.cell 4).trans rfl
        replace hcl := Lib.hid hcl
        clear hbr hbw hEb
        replace hE := hEr
        clear hE0
        go_wp2
        have hres : (Ex.mk op nm tx n (args.map Ex.foldV)).args.length = (args.map Ex.foldV).length := rfl
        rw [hR.out]
        refine bodyPost_ret (v := .agg #[.int .i64 op, .string nm, .string tx, .int .i64 n, .slice vp (args.map Ex.foldV).length vc]) (by simp [results, Tryz.results87, go_sem, y0, y1, y2, y3, y4]) rfl ⟨vp, vc, rfl, ?_, (by repeat (first | with_reducible exact Ext.refl _ | with_reducible exact hE0 | with_reducible exact hE | with_reducible refine Ext.alloc ?_ _ | with_reducible refine Ext.drewN ?_ _ | with_reducible refine Ext.drew ?_ | ((with_reducible refine Ext.setCell ?_ ?side _); (case side => first | exact Nat.le_refl _ | (simp; done) | (simp; omega)))))⟩
        refine ((((((hcl.out.set (b := w'.heap.size + 1) (by have := hlt0.out; omega) _).set (b := w'.heap.size + 1) (by have := hlt0.out; omega) _).set (b := w'.heap.size + 1) (by have := hlt0.out; omega) _).set (b := w'.heap.size + 1) (by have := hlt0.out; omega) _).set (b := w'.heap.size + 1) (by have := hlt0.out; omega) _).done).imp fun j hj _ => by have := hlt0.out; omega
end Go.Proofs.YtpdpjindmghfpaaGreatDoor
