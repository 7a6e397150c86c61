/- Contracts of the reference's constant, fold, Fold (walks; printed by gen/g11.py). -/
import Derived.Test.YtnppbeajemhjeaaGreatG7
import Derived.Test.YtnppbeajemhjeaaGreatG9
import Derived.Test.YtnppbeajemhjeaaGreatEi
namespace Go.Proofs.YtnppbeajemhjeaaGreat
open Go.RowKit
set_option maxRecDepth 8000 in
set_option maxHeartbeats 2000000 in
theorem rconst_any (f : Feat) (w : World) (hf : f.kind = 1 ∨ f.kind = 2 ∨ (f.kind = 3 ∧ (f.n = 0 ∨ f.n = 1))) : Calls Tryz.prog 47 #[.agg #[.string f.name, .int .i64 f.kind, .int .i64 f.n, .string f.text]] w (ExP (litE f) w) := by
  rcases hf with h | h | ⟨h, hn⟩
  · have hR := Lib.hid (show litE f = leafN f.n by simp [litE, h])
    have g1 : (f.kind == 1) = true := by simp [h]
    clear h
    go_enter Tryz.func47, Tryz.ntmps47
    go_wp2
    refine bodyPost_ret (v := .agg #[.int .i64 1, .string ⟨#[]⟩, .string ⟨#[]⟩, .int .i64 f.n, .slice none 0 0]) (by simp [results, Tryz.results47, go_sem]) rfl ?_
    rw [hR.out]
    exact ⟨none, 0, rfl, .nil _ _, (by repeat (first | with_reducible exact Ext.refl _ | with_reducible exact hE0 | with_reducible exact hE | with_reducible refine Ext.alloc ?_ _ | with_reducible refine Ext.drewN ?_ _ | with_reducible refine Ext.drew ?_ | ((with_reducible refine Ext.setCell ?_ ?side _); (case side => first | exact Nat.le_refl _ | (simp; done) | (simp; omega)))))⟩
  · have hR := Lib.hid (show litE f = .mk 2 emS f.text 0 [] by simp [litE, h])
    have g1 : (f.kind == 1) = false := by simp [h]
    have g2 : (f.kind == 2) = true := by simp [h]
    clear h
    go_enter Tryz.func47, Tryz.ntmps47
    go_wp2
    refine bodyPost_ret (v := .agg #[.int .i64 2, .string ⟨#[]⟩, .string f.text, .int .i64 0, .slice none 0 0]) (by simp [results, Tryz.results47, go_sem]) rfl ?_
    rw [hR.out]
    exact ⟨none, 0, rfl, .nil _ _, (by repeat (first | with_reducible exact Ext.refl _ | with_reducible exact hE0 | with_reducible exact hE | with_reducible refine Ext.alloc ?_ _ | with_reducible refine Ext.drewN ?_ _ | with_reducible refine Ext.drew ?_ | ((with_reducible refine Ext.setCell ?_ ?side _); (case side => first | exact Nat.le_refl _ | (simp; done) | (simp; omega)))))⟩
  · have hR := Lib.hid (show litE f = .mk 8 emS emS 0 [leafN 1, leafN (2 - f.n)] by simp [litE, h])
    have g1 : (f.kind == 1) = false := by simp [h]
    have g2 : (f.kind == 2) = false := by simp [h]
    have e1 : wrap64 (2 - f.n) = 2 - f.n := wrap64_id _ (by omega) (by omega)
    clear h hn
    go_enter Tryz.func47, Tryz.ntmps47
    go_wp2
    refine bodyPost_ret (v := .agg #[.int .i64 8, .string ⟨#[]⟩, .string ⟨#[]⟩, .int .i64 0, .slice (some ⟨w.heap.size + 1 + 1, 0, none⟩) 2 2]) (by simp [results, Tryz.results47, go_sem]) rfl ?_
    rw [hR.out]
    exact ⟨_, 2, rfl, exb_two (x := leafN 1) (y := leafN (2 - f.n)) (Blk.new' _ _ _ _ (by simp)) (by omega) (.nil _ _) (.nil _ _) (by omega), (by repeat (first | with_reducible exact Ext.refl _ | with_reducible exact hE0 | with_reducible exact hE | with_reducible refine Ext.alloc ?_ _ | with_reducible refine Ext.drewN ?_ _ | with_reducible refine Ext.drew ?_ | ((with_reducible refine Ext.setCell ?_ ?side _); (case side => first | exact Nat.le_refl _ | (simp; done) | (simp; omega)))))⟩
theorem feats_none (w : World) : Feats w (.slice none ([] : List Feat).length 0) [] := ⟨by simp, Or.inl ⟨none, 0, rfl, rfl⟩⟩
set_option maxRecDepth 8000 in
set_option maxHeartbeats 8000000 in
theorem rfold_any {w : World} {v : Value} {l0 : List Ex} (h : ExS w v l0) : ∀ x : Ex, x.args = l0 → StrOk [x] → ∀ w', Ext w w' → x.parts.length ≤ 999999 → Calls Tryz.prog 35 #[exAgg x v] w' (ExP x.foldV w') := by
  refine ExS.ind (P := fun x v => StrOk [x] → ∀ w', Ext w w' → x.parts.length ≤ 999999 → Calls Tryz.prog 35 #[exAgg x v] w' (ExP x.foldV w')) ?_ h
  clear h
  intro x v hS hK hok w' hEw hpt
  obtain ⟨op, nm, tx, n, args⟩ := x
  obtain ⟨q, cp, rfl⟩ := hS.form
  replace hK := Lib.hid hK
  simp only [Ex.args] at hK hS ⊢
  have hkk := Lib.hid (fun k (hk : k < args.length) => strOk_kid hok hk)
  have hNm := Lib.hid (fun w1 (h : Ext w w1) => rNames_any (.mk op nm tx n args) (hS.ext h) hpt)
  have hEv := fun w1 (h : Ext w w1) => rEval_any (.mk op nm tx n args) (hS.ext h) hok (by omega) none 0 [] (feats_none w1) (by simp) (fun i hi => absurd hi (by simp))
  simp only [List.length_nil] at hEv
  replace hEv := Lib.hid hEv
  have hcw := Lib.hid (fun f => const_well (x := .mk op nm tx n args) (f := f))
  have hfv := foldV_mk op nm tx n args
  unfold constB at hfv
  rw [parts_mk, List.length_cons] at hpt
  have hlen : args.length < 1000000 := by have := partsL_ge args; omega
  have huz := uniL_zero (Ex.mk op nm tx n args).occ
  unfold NamesP at hNm
  simp only [exAgg_mk] at hNm hEv ⊢
  generalize (Ex.mk op nm tx n args).foldV = R at *
  generalize (Ex.mk op nm tx n args).occ = oc at *
  generalize evalV (.mk op nm tx n args) [] nilS = ev at *
  obtain ⟨ef, ec⟩ := ev
  unfold EvalPost at hEv
  simp only at hEv hfv
  replace hfv := Lib.hid hfv
  replace huz := Lib.hid huz
  clear hS hok
  obtain ⟨i0, hi, hz0, hz1, hz2⟩ := info_partsE infoExE
  replace hi := Lib.hid hi
  replace hz0 := Lib.hid hz0
  replace hz1 := Lib.hid hz1
  replace hz2 := Lib.hid hz2
  go_enter Tryz.func35, Tryz.ntmps35
  go_wp2_with fail
  refine (hNm.out _ (hEw.trans (by repeat (first | with_reducible exact Ext.refl _ | with_reducible exact hE0 | with_reducible exact hE | with_reducible refine Ext.alloc ?_ _ | with_reducible refine Ext.drewN ?_ _ | with_reducible refine Ext.drew ?_ | ((with_reducible refine Ext.setCell ?_ ?side _); (case side => first | exact Nat.le_refl _ | (simp; done) | (simp; omega))))))).mono ?_
  rintro e w1 ⟨nv, rfl, ⟨np, nc, rfl, -, -⟩, hE1⟩
  have hbx : Blk ((w'.alloc (.cells #[.int .i64 op, .string nm, .string tx, .int .i64 n, .slice q args.length cp] 24)).alloc (.cells #[.int .i64 0, .string ⟨#[]⟩, .string ⟨#[]⟩, .int .i64 0, .slice none 0 0] 24)) w'.heap.size #[.int .i64 op, .string nm, .string tx, .int .i64 n, .slice q args.length cp] 24 := (Blk.new _ _ _).alloc _
  have hbr : Blk ((w'.alloc (.cells #[.int .i64 op, .string nm, .string tx, .int .i64 n, .slice q args.length cp] 24)).alloc (.cells #[.int .i64 0, .string ⟨#[]⟩, .string ⟨#[]⟩, .int .i64 0, .slice none 0 0] 24)) (w'.heap.size + 1) #[.int .i64 0, .string ⟨#[]⟩, .string ⟨#[]⟩, .int .i64 0, .slice none 0 0] 24 := Blk.new' _ _ _ _ (by simp)
  replace hbx := Lib.hid (hbx.ext hE1)
  replace hbr := Lib.hid (hbr.ext hE1)
  have hE : Ext w' w1 := Ext.trans (by repeat (first | with_reducible exact Ext.refl _ | with_reducible exact hE0 | with_reducible exact hE | with_reducible refine Ext.alloc ?_ _ | with_reducible refine Ext.drewN ?_ _ | with_reducible refine Ext.drew ?_ | ((with_reducible refine Ext.setCell ?_ ?side _); (case side => first | exact Nat.le_refl _ | (simp; done) | (simp; omega))))) hE1
  clear hE1 hNm
  generalize (uniL oc).length = ul at *
  by_cases hu : ul = 0
  · have hoc := huz.out.1 hu
    subst hu
    subst hoc
    clear huz
    have x0 : w1.cell? ⟨w'.heap.size, 0, none⟩ = some (.int .i64 op) := (hbx.out.cell 0).trans rfl
    have x1 : w1.cell? ⟨w'.heap.size, 1, none⟩ = some (.string nm) := (hbx.out.cell 1).trans rfl
    have x2 : w1.cell? ⟨w'.heap.size, 2, none⟩ = some (.string tx) := (hbx.out.cell 2).trans rfl
    have x3 : w1.cell? ⟨w'.heap.size, 3, none⟩ = some (.int .i64 n) := (hbx.out.cell 3).trans rfl
    have x4 : w1.cell? ⟨w'.heap.size, 4, none⟩ = some (.slice q args.length cp) := (hbx.out.cell 4).trans rfl
    go_wp2_with fail
    refine (hEv.out _ (hEw.trans hE)).mono ?_
    rintro e w2 ⟨rfl, hE2⟩
    replace hbx := Lib.hid (hbx.out.ext hE2)
    replace hbr := Lib.hid (hbr.out.ext hE2)
    have hlt2 := Lib.hid hbr.out.lt
    replace hE := hE.trans hE2
    clear hE2 hEv x0 x1 x2 x3 x4
    by_cases hc : ec = 0
    · subst hc
      have hR := Lib.hid (show R = litE ef by rw [hfv.out]; simp)
      have hL := Lib.hid (fun w3 => rconst_any ef w3 (hcw.out ef rfl))
      clear hfv hcw
      go_wp2_with fail
      refine (hL.out _).mono ?_
      rintro e w3 ⟨lp, lc, rfl, hB, hE3⟩
      replace hbr := Lib.hid (hbr.out.ext (Ext.trans ((Ext.refl _).alloc _) hE3))
      replace hB := Lib.hid hB
      have hsz2 := Lib.hid (show w'.heap.size + 1 < w2.heap.size from hlt2.out)
      replace hE : Ext w' w3 := Ext.trans (hE.alloc _) hE3
      have y0 : w3.cell? ⟨w'.heap.size + 1, 0, none⟩ = some (.int .i64 0) := (hbr.out.cell 0).trans rfl
      have y1 : w3.cell? ⟨w'.heap.size + 1, 1, none⟩ = some (.string ⟨#[]⟩) := (hbr.out.cell 1).trans rfl
      have y2 : w3.cell? ⟨w'.heap.size + 1, 2, none⟩ = some (.string ⟨#[]⟩) := (hbr.out.cell 2).trans rfl
      have y3 : w3.cell? ⟨w'.heap.size + 1, 3, none⟩ = some (.int .i64 0) := (hbr.out.cell 3).trans rfl
      have y4 : w3.cell? ⟨w'.heap.size + 1, 4, none⟩ = some (.slice none 0 0) := (hbr.out.cell 4).trans rfl
      have f0 := hbr.out.fz 0
      have f1 := hbr.out.fz 1
      have f2 := hbr.out.fz 2
      have f3 := hbr.out.fz 3
      have f4 := hbr.out.fz 4
      have hs1 : w'.heap.size + 1 < w3.heap.size := cell_lt y0
      clear hE3 hL
      generalize litE ef = L at *
      go_wp2
      rw [hR.out]
      refine bodyPost_ret (v := .agg #[.int .i64 L.op, .string L.name, .string L.text, .int .i64 L.n, .slice lp L.args.length lc]) (by simp [results, Tryz.results35, go_sem, y0, y1, y2, y3, y4]) rfl ⟨lp, lc, rfl, ?_, (by repeat (first | with_reducible exact Ext.refl _ | with_reducible exact hE0 | with_reducible exact hE | with_reducible refine Ext.alloc ?_ _ | with_reducible refine Ext.drewN ?_ _ | with_reducible refine Ext.drew ?_ | ((with_reducible refine Ext.setCell ?_ ?side _); (case side => first | exact Nat.le_refl _ | (simp; done) | (simp; omega)))))⟩
      refine ((hB.out.imp (ok' := fun j => w2.heap.size ≤ j) fun j hj _ => by simp at hj; omega).move fun j hj _ => ?_).imp fun j hj _ => by have := hsz2.out; omega
      have := hsz2.out
      rw [Below.heap_setCell _ _ _ _ (show j ≠ w'.heap.size + 1 by omega), Below.heap_setCell _ _ _ _ (show j ≠ w'.heap.size + 1 by omega), Below.heap_setCell _ _ _ _ (show j ≠ w'.heap.size + 1 by omega), Below.heap_setCell _ _ _ _ (show j ≠ w'.heap.size + 1 by omega), Below.heap_setCell _ _ _ _ (show j ≠ w'.heap.size + 1 by omega)]
    · have d1 : (ec == 0) = false := by simp [hc]
      have hR := Lib.hid (show R = .mk op nm tx n (args.map Ex.foldV) by rw [hfv.out]; simp [hc])
      clear hc hfv hcw
      go_wp2_with fail
      have hVb : Ext w2 (w2.alloc (.cells #[.string ef.name, .int .i64 ef.kind, .int .i64 ef.n, .string ef.text] 36)) := (Ext.refl _).alloc _
      replace hbx := Lib.hid (hbx.out.ext hVb)
      replace hbr := Lib.hid (hbr.out.ext hVb)
      replace hE := hE.trans hVb
      clear hlt2
      generalize (w2.alloc (.cells #[.string ef.name, .int .i64 ef.kind, .int .i64 ef.n, .string ef.text] 36)) = w3 at *
      clear hVb
      have hlW := Lib.hid hbr.out.lt
      have hE0 := hE
      go_loopw [5, 6] (fun kv i wr => ∃ k : Nat, k ≤ args.length ∧ i = .int .i64 k ∧ CL wr w3.heap.size kv ((args.take k).map Ex.foldV) ∧ Ext w3 wr) (fun _ i _ => args.length - (intOf i).toNat)
      case atStart => exact ⟨0, Nat.zero_le _, rfl, CL.nil _ _, Ext.refl _⟩
      case round =>
        obtain ⟨k, hk, rfl, hcl, hEr⟩ := hrel
        replace hbx := Lib.hid (hbx.out.ext hEr)
        replace hbr := Lib.hid (hbr.out.ext hEr)
        replace hE := hE0.trans hEr
        have x4 : wr.cell? ⟨w'.heap.size, 4, none⟩ = some (.slice q args.length cp) := (hbx.out.cell 4).trans rfl
        by_cases hlt : k < args.length
        · obtain ⟨bb, off, rfl, sv, hkid⟩ := hK.out _ _ rfl (by omega)
          obtain ⟨hc, hsu, hP⟩ := hkid k hlt
          have hform := hsu.form
          have hEwr := hEw.trans hE
          obtain ⟨c0, c1, c2, c3, c4⟩ := (hc.ext hEwr).five
          have hsn := Lib.hid (map_take_snoc args k hlt)
          have hpy := Lib.hid (show (args.getD k exD).parts.length ≤ 999999 by have := partsL_len args k hlt; omega)
          have htl : ((args.take k).map Ex.foldV).length = k := by simp; omega
          replace hP := Lib.hid (hP (hkk.out k hlt))
          clear hc hkid hsu
          generalize (args.take k).map Ex.foldV = ys at *
          generalize args.getD k exD = y at *
          generalize sv k = u at *
          obtain ⟨uq, uc, rfl⟩ := hform
          obtain ⟨vp, vc, hkv⟩ := hcl.form
          rw [htl] at hkv
          subst hkv
          replace htl := Lib.hid htl
          have hrN : ∀ j, Value.ownBlock (.slice vp k vc) = some j → j < wr.heap.size := fun j e => by obtain ⟨us, _, h⟩ := hcl.row; rw [htl.out] at h; exact (h.lt j e).2
          have hrB : ∀ j, Value.ownBlock (.slice vp k vc) = some j → w3.heap.size ≤ j := fun j e => by obtain ⟨us, _, h⟩ := hcl.row; rw [htl.out] at h; exact (h.lt j e).1
          replace hrN := Lib.hid hrN
          replace hrB := Lib.hid hrB
          replace hcl := Lib.hid hcl
          have hWr := Lib.hid hEr.size
          go_wp2_with fail
          refine (hP.out _ hEwr hpy.out).mono ?_
          rintro e w5a ⟨p1, q1, rfl, hB1, hE3⟩
          obtain ⟨-, us, hus, hrow, hks⟩ := hcl.out.ext hE3
          rw [htl.out] at hrow
          have hE5a := hEr.trans hE3
          have hsz5 := Lib.hid hE5a.size
          replace hus := Lib.hid hus
          replace hks := Lib.hid hks
          replace hrow := Lib.hid hrow
          replace hB1 := Lib.hid hB1
          clear c0 c1 c2 c3 c4 x4 hEwr hE3 hcl
          go_wp2_with (at_builtin; refine wpList_append_lies _ rfl _ _ 22 rfl w3.heap.size 24 i0 (.agg #[.int .i64 0, .string ⟨#[]⟩, .string ⟨#[]⟩, .int .i64 0, .slice none 0 0]) 5 72 Tryz.underlying22 hi.out hz0.out hz1.out hz2.out rfl (by decide) _ _ _ rfl (ownsRow_extE hrow.out ((Ext.refl w5a).alloc _)) ⟨w5a.heap.size, 0, none⟩ 1 1 [.int .i64 y.foldV.op, .string y.foldV.name, .string y.foldV.text, .int .i64 y.foldV.n, .slice p1 y.foldV.args.length q1] rfl rfl ?_ ?_ (by decide) ?_ ?_ ?_ (w5a.heap.size + 1) ?_ ?_)
          · exact cell_five_new (Blk.new _ _ _)
          · exact five_one _ _ _ _ _ _ _ rfl rfl
          · unfold maxLen; omega
          · omega
          · have := hsz5.out; simp; omega
          · simp
          intro gg cap w5 hown5 hgrow5 hat5 hgl5
          have hC5 := Lib.hid (CL.step htl.out (by omega) hus.out hks.out hB1.out hWr.out hrN.out hown5 hgrow5 (by simpa using hat5))
          have hE5 : Ext w3 w5 := Below.grown (hE5a.alloc _) hgrow5 (by have := hsz5.out; first | (simp; done) | (simp; omega)) (fun k hk => hrB.out k hk)
          clear hown5 hgrow5 hat5 hgl5 hE5a
          go_wp2
          go_roundw
          case rel => exact ⟨k + 1, by omega, by go_num, by rw [hsn.out]; exact hC5.out, hE5⟩
          case measure => simp [intOf]; omega
        · have hk2 : args.take k = args := List.take_of_length_le (by omega)
          rw [hk2] at hcl
          clear hk2
          obtain ⟨vp, vc, rfl⟩ := hcl.form
          have x0 : wr.cell? ⟨w'.heap.size, 0, none⟩ = some (.int .i64 op) := (hbx.out.cell 0).trans rfl
          have x1 : wr.cell? ⟨w'.heap.size, 1, none⟩ = some (.string nm) := (hbx.out.cell 1).trans rfl
          have x2 : wr.cell? ⟨w'.heap.size, 2, none⟩ = some (.string tx) := (hbx.out.cell 2).trans rfl
          have x3 : wr.cell? ⟨w'.heap.size, 3, none⟩ = some (.int .i64 n) := (hbx.out.cell 3).trans rfl
          have g4 := hbx.out.fz 4
          have y0 : wr.cell? ⟨w'.heap.size + 1, 0, none⟩ = some (.int .i64 0) := (hbr.out.cell 0).trans rfl
          have y1 : wr.cell? ⟨w'.heap.size + 1, 1, none⟩ = some (.string ⟨#[]⟩) := (hbr.out.cell 1).trans rfl
          have y2 : wr.cell? ⟨w'.heap.size + 1, 2, none⟩ = some (.string ⟨#[]⟩) := (hbr.out.cell 2).trans rfl
          have y3 : wr.cell? ⟨w'.heap.size + 1, 3, none⟩ = some (.int .i64 0) := (hbr.out.cell 3).trans rfl
          have y4 : wr.cell? ⟨w'.heap.size + 1, 4, none⟩ = some (.slice none 0 0) := (hbr.out.cell 4).trans rfl
          have f0 := hbr.out.fz 0
          have f1 := hbr.out.fz 1
          have f2 := hbr.out.fz 2
          have f3 := hbr.out.fz 3
          have f4 := hbr.out.fz 4
          have hs1 : w'.heap.size + 1 < wr.heap.size := cell_lt y0
          have hD := Lib.hid hcl.done
          clear hcl hEr hE0
          go_wp2
          have hres : (Ex.mk op nm tx n (args.map Ex.foldV)).args.length = (args.map Ex.foldV).length := rfl
          rw [hR.out]
          refine bodyPost_ret (v := .agg #[.int .i64 op, .string nm, .string tx, .int .i64 n, .slice vp (args.map Ex.foldV).length vc]) (by simp [results, Tryz.results35, go_sem, y0, y1, y2, y3, y4]) rfl ⟨vp, vc, rfl, ?_, (by repeat (first | with_reducible exact Ext.refl _ | with_reducible exact hE0 | with_reducible exact hE | with_reducible refine Ext.alloc ?_ _ | with_reducible refine Ext.drewN ?_ _ | with_reducible refine Ext.drew ?_ | ((with_reducible refine Ext.setCell ?_ ?side _); (case side => first | exact Nat.le_refl _ | (simp; done) | (simp; omega)))))⟩
          refine (hD.out.move fun j hj _ => ?_).imp fun j hj _ => by have := hlW.out; omega
          have := hlW.out
          rw [Below.heap_setCell _ _ _ _ (show j ≠ w'.heap.size + 1 by omega), Below.heap_setCell _ _ _ _ (show j ≠ w'.heap.size + 1 by omega), Below.heap_setCell _ _ _ _ (show j ≠ w'.heap.size + 1 by omega), Below.heap_setCell _ _ _ _ (show j ≠ w'.heap.size + 1 by omega), Below.heap_setCell _ _ _ _ (show j ≠ w'.heap.size + 1 by omega), Below.heap_setCell _ _ _ _ (show j ≠ w'.heap.size by omega)]
  · have huf : ((ul : Int) == 0) = false := by simp; omega
    have hne : ¬ oc = [] := fun h => hu (huz.out.2 h)
    have hR := Lib.hid (show R = .mk op nm tx n (args.map Ex.foldV) by rw [hfv.out]; simp [hne])
    clear hne hfv hcw hEv hu huz
    go_wp2_with fail
    have hlW := Lib.hid hbr.out.lt
    have hE0 := hE
    go_loopw [5, 6] (fun kv i wr => ∃ k : Nat, k ≤ args.length ∧ i = .int .i64 k ∧ CL wr w1.heap.size kv ((args.take k).map Ex.foldV) ∧ Ext w1 wr) (fun _ i _ => args.length - (intOf i).toNat)
    case atStart => exact ⟨0, Nat.zero_le _, rfl, CL.nil _ _, Ext.refl _⟩
    case round =>
      obtain ⟨k, hk, rfl, hcl, hEr⟩ := hrel
      replace hbx := Lib.hid (hbx.out.ext hEr)
      replace hbr := Lib.hid (hbr.out.ext hEr)
      replace hE := hE0.trans hEr
      have x4 : wr.cell? ⟨w'.heap.size, 4, none⟩ = some (.slice q args.length cp) := (hbx.out.cell 4).trans rfl
      by_cases hlt : k < args.length
      · obtain ⟨bb, off, rfl, sv, hkid⟩ := hK.out _ _ rfl (by omega)
        obtain ⟨hc, hsu, hP⟩ := hkid k hlt
        have hform := hsu.form
        have hEwr := hEw.trans hE
        obtain ⟨c0, c1, c2, c3, c4⟩ := (hc.ext hEwr).five
        have hsn := Lib.hid (map_take_snoc args k hlt)
        have hpy := Lib.hid (show (args.getD k exD).parts.length ≤ 999999 by have := partsL_len args k hlt; omega)
        have htl : ((args.take k).map Ex.foldV).length = k := by simp; omega
        replace hP := Lib.hid (hP (hkk.out k hlt))
        clear hc hkid hsu
        generalize (args.take k).map Ex.foldV = ys at *
        generalize args.getD k exD = y at *
        generalize sv k = u at *
        obtain ⟨uq, uc, rfl⟩ := hform
        obtain ⟨vp, vc, hkv⟩ := hcl.form
        rw [htl] at hkv
        subst hkv
        replace htl := Lib.hid htl
        have hrN : ∀ j, Value.ownBlock (.slice vp k vc) = some j → j < wr.heap.size := fun j e => by obtain ⟨us, _, h⟩ := hcl.row; rw [htl.out] at h; exact (h.lt j e).2
        have hrB : ∀ j, Value.ownBlock (.slice vp k vc) = some j → w1.heap.size ≤ j := fun j e => by obtain ⟨us, _, h⟩ := hcl.row; rw [htl.out] at h; exact (h.lt j e).1
        replace hrN := Lib.hid hrN
        replace hrB := Lib.hid hrB
        replace hcl := Lib.hid hcl
        have hWr := Lib.hid hEr.size
        go_wp2_with fail
        refine (hP.out _ hEwr hpy.out).mono ?_
        rintro e w5a ⟨p1, q1, rfl, hB1, hE3⟩
        obtain ⟨-, us, hus, hrow, hks⟩ := hcl.out.ext hE3
        rw [htl.out] at hrow
        have hE5a := hEr.trans hE3
        have hsz5 := Lib.hid hE5a.size
        replace hus := Lib.hid hus
        replace hks := Lib.hid hks
        replace hrow := Lib.hid hrow
        replace hB1 := Lib.hid hB1
        clear c0 c1 c2 c3 c4 x4 hEwr hE3 hcl
        go_wp2_with (at_builtin; refine wpList_append_lies _ rfl _ _ 22 rfl w1.heap.size 24 i0 (.agg #[.int .i64 0, .string ⟨#[]⟩, .string ⟨#[]⟩, .int .i64 0, .slice none 0 0]) 5 72 Tryz.underlying22 hi.out hz0.out hz1.out hz2.out rfl (by decide) _ _ _ rfl (ownsRow_extE hrow.out ((Ext.refl w5a).alloc _)) ⟨w5a.heap.size, 0, none⟩ 1 1 [.int .i64 y.foldV.op, .string y.foldV.name, .string y.foldV.text, .int .i64 y.foldV.n, .slice p1 y.foldV.args.length q1] rfl rfl ?_ ?_ (by decide) ?_ ?_ ?_ (w5a.heap.size + 1) ?_ ?_)
        · exact cell_five_new (Blk.new _ _ _)
        · exact five_one _ _ _ _ _ _ _ rfl rfl
        · unfold maxLen; omega
        · omega
        · have := hsz5.out; simp; omega
        · simp
        intro gg cap w5 hown5 hgrow5 hat5 hgl5
        have hC5 := Lib.hid (CL.step htl.out (by omega) hus.out hks.out hB1.out hWr.out hrN.out hown5 hgrow5 (by simpa using hat5))
        have hE5 : Ext w1 w5 := Below.grown (hE5a.alloc _) hgrow5 (by have := hsz5.out; first | (simp; done) | (simp; omega)) (fun k hk => hrB.out k hk)
        clear hown5 hgrow5 hat5 hgl5 hE5a
        go_wp2
        go_roundw
        case rel => exact ⟨k + 1, by omega, by go_num, by rw [hsn.out]; exact hC5.out, hE5⟩
        case measure => simp [intOf]; omega
      · have hk2 : args.take k = args := List.take_of_length_le (by omega)
        rw [hk2] at hcl
        clear hk2
        obtain ⟨vp, vc, rfl⟩ := hcl.form
        have x0 : wr.cell? ⟨w'.heap.size, 0, none⟩ = some (.int .i64 op) := (hbx.out.cell 0).trans rfl
        have x1 : wr.cell? ⟨w'.heap.size, 1, none⟩ = some (.string nm) := (hbx.out.cell 1).trans rfl
        have x2 : wr.cell? ⟨w'.heap.size, 2, none⟩ = some (.string tx) := (hbx.out.cell 2).trans rfl
        have x3 : wr.cell? ⟨w'.heap.size, 3, none⟩ = some (.int .i64 n) := (hbx.out.cell 3).trans rfl
        have g4 := hbx.out.fz 4
        have y0 : wr.cell? ⟨w'.heap.size + 1, 0, none⟩ = some (.int .i64 0) := (hbr.out.cell 0).trans rfl
        have y1 : wr.cell? ⟨w'.heap.size + 1, 1, none⟩ = some (.string ⟨#[]⟩) := (hbr.out.cell 1).trans rfl
        have y2 : wr.cell? ⟨w'.heap.size + 1, 2, none⟩ = some (.string ⟨#[]⟩) := (hbr.out.cell 2).trans rfl
        have y3 : wr.cell? ⟨w'.heap.size + 1, 3, none⟩ = some (.int .i64 0) := (hbr.out.cell 3).trans rfl
        have y4 : wr.cell? ⟨w'.heap.size + 1, 4, none⟩ = some (.slice none 0 0) := (hbr.out.cell 4).trans rfl
        have f0 := hbr.out.fz 0
        have f1 := hbr.out.fz 1
        have f2 := hbr.out.fz 2
        have f3 := hbr.out.fz 3
        have f4 := hbr.out.fz 4
        have hs1 : w'.heap.size + 1 < wr.heap.size := cell_lt y0
        have hD := Lib.hid hcl.done
        clear hcl hEr hE0
        go_wp2
        have hres : (Ex.mk op nm tx n (args.map Ex.foldV)).args.length = (args.map Ex.foldV).length := rfl
        rw [hR.out]
        refine bodyPost_ret (v := .agg #[.int .i64 op, .string nm, .string tx, .int .i64 n, .slice vp (args.map Ex.foldV).length vc]) (by simp [results, Tryz.results35, go_sem, y0, y1, y2, y3, y4]) rfl ⟨vp, vc, rfl, ?_, (by repeat (first | with_reducible exact Ext.refl _ | with_reducible exact hE0 | with_reducible exact hE | with_reducible refine Ext.alloc ?_ _ | with_reducible refine Ext.drewN ?_ _ | with_reducible refine Ext.drew ?_ | ((with_reducible refine Ext.setCell ?_ ?side _); (case side => first | exact Nat.le_refl _ | (simp; done) | (simp; omega)))))⟩
        refine (hD.out.move fun j hj _ => ?_).imp fun j hj _ => by have := hlW.out; omega
        have := hlW.out
        rw [Below.heap_setCell _ _ _ _ (show j ≠ w'.heap.size + 1 by omega), Below.heap_setCell _ _ _ _ (show j ≠ w'.heap.size + 1 by omega), Below.heap_setCell _ _ _ _ (show j ≠ w'.heap.size + 1 by omega), Below.heap_setCell _ _ _ _ (show j ≠ w'.heap.size + 1 by omega), Below.heap_setCell _ _ _ _ (show j ≠ w'.heap.size + 1 by omega), Below.heap_setCell _ _ _ _ (show j ≠ w'.heap.size by omega)]
/-- What the reference's Fold leaves. -/
def FoP (y : Ex) (w : World) (e : Ending) (w' : World) : Prop := ∃ p c, e = .returned (.agg #[.int .i64 y.op, .string y.name, .string y.text, .int .i64 y.n, .slice p y.args.length c]) ∧ ExS w' (.slice p y.args.length c) y.args ∧ Ext w w'
end Go.Proofs.YtnppbeajemhjeaaGreat
