/- Contracts of the reference's constant, fold, Fold (walks; printed by gen/g11.py). Contracts of the reference's Fold, folds, Total (walks; printed by gen/g12.py). Contracts of law36's reference: Total, Prune (walks; printed by gen/g13.py). -/
import Derived.Test.YtmnhmkjmcckneaaGreatDoorGy
import Derived.Test.YtmnhmkjmcckneaaGreatDoorGz
import Derived.Test.YtmnhmkjmcckneaaGreatDoorEi
import Derived.Test.YtmnhmkjmcckneaaGreatDoorFx
namespace Go.Proofs.YtmnhmkjmcckneaaGreatDoor
open Go.RowKit
set_option maxRecDepth 8000 in
set_option maxHeartbeats 2000000 in
theorem rconst_any (f : Feat) (w : World) (hf : f.kind = 1 ∨ f.kind = 2 ∨ (f.kind = 3 ∧ (f.n = 0 ∨ f.n = 1))) : Calls Tryz.prog 165 #[.agg #[.string f.name, .int .i64 f.kind, .int .i64 f.n, .string f.text]] w (ExP (litE f) w) := by
 rcases hf with h | h | ⟨h, hn⟩
 · have hR := Lib.hid (show litE f = leafN f.n by simp [litE, h])
   have g1 : (f.kind == 1) = true := by simp [h]
   clear h
   go_enter Tryz.func165, Tryz.ntmps165
   go_wp2
   refine bodyPost_ret (v := .agg #[.int .i64 1, .string ⟨#[]⟩, .string ⟨#[]⟩, .int .i64 f.n, .slice none 0 0]) (by simp [results, Tryz.results165, go_sem]) rfl ?_
   rw [hR.out]
   exact ⟨none, 0, rfl, .nil _ _, xt⟩
 · have hR := Lib.hid (show litE f = .mk 2 emS f.text 0 [] by simp [litE, h])
   have g1 : (f.kind == 1) = false := by simp [h]
   have g2 : (f.kind == 2) = true := by simp [h]
   clear h
   go_enter Tryz.func165, Tryz.ntmps165
   go_wp2
   refine bodyPost_ret (v := .agg #[.int .i64 2, .string ⟨#[]⟩, .string f.text, .int .i64 0, .slice none 0 0]) (by simp [results, Tryz.results165, go_sem]) rfl ?_
   rw [hR.out]
   exact ⟨none, 0, rfl, .nil _ _, xt⟩
 · have hR := Lib.hid (show litE f = .mk 8 emS emS 0 [leafN 1, leafN (2 - f.n)] by simp [litE, h])
   have g1 : (f.kind == 1) = false := by simp [h]
   have g2 : (f.kind == 2) = false := by simp [h]
   have e1 : wrap64 (2 - f.n) = 2 - f.n := wrap64_id _ (by omega) (by omega)
   clear h hn
   go_enter Tryz.func165, Tryz.ntmps165
   go_wp2
   refine bodyPost_ret (v := .agg #[.int .i64 8, .string ⟨#[]⟩, .string ⟨#[]⟩, .int .i64 0, .slice (some ⟨w.heap.size + 1 + 1, 0, none⟩) 2 2]) (by simp [results, Tryz.results165, go_sem]) rfl ?_
   rw [hR.out]
   exact ⟨_, 2, rfl, exb_two (x := leafN 1) (y := leafN (2 - f.n)) (Blk.new' _ _ _ _ (by simp)) (by omega) (.nil _ _) (.nil _ _) (by omega), xt⟩
theorem feats_none (w : World) : Feats w (.slice none ([] : List Feat).length 0) [] := ⟨by simp, Or.inl ⟨none, 0, rfl, rfl⟩⟩
set_option maxRecDepth 8000 in
set_option maxHeartbeats 8000000 in
theorem rfold_any {w : World} {v : Value} {l0 : List Ex} (h : ExS w v l0) : ∀ x : Ex, x.args = l0 → StrOk [x] → ∀ w', Ext w w' → x.parts.length ≤ 999999 → Calls Tryz.prog 145 #[exAgg x v] w' (ExP x.foldV w') := by
 refine ExS.ind (P := fun x v => StrOk [x] → ∀ w', Ext w w' → x.parts.length ≤ 999999 → Calls Tryz.prog 145 #[exAgg x v] w' (ExP x.foldV w')) ?_ h
 clear h
 intro x v hS hK hok w' hEw hpt
 obtain ⟨op, nm, tx, n, args⟩ := x
 obtain ⟨q, cp, rfl⟩ := hS.form
 replace hK := Lib.hid hK
 simp only [Ex.args] at hK hS ⊢
 have hkk := Lib.hid (fun k (hk : k < args.length) => strOk_kid hok hk)
 have hNm := Lib.hid (fun w1 (h : Ext w w1) => rNames_any (.mk op nm tx n args) (hS.ext h) hpt)
 have hEv := fun w1 (h : Ext w w1) => rEval_any (.mk op nm tx n args) (hS.ext h) hok (by omega) none 0 [] (feats_none w1) (by simp) (fun i hi => absurd hi (by simp))
 simp only [List.length_nil] at hEv
 replace hEv := Lib.hid hEv
 have hcw := Lib.hid (fun f => const_well (x := .mk op nm tx n args) (f := f))
 have hfv := foldV_mk op nm tx n args
 unfold constB at hfv
 rw [parts_mk, List.length_cons] at hpt
 have hlen : args.length < 1000000 := by have := partsL_ge args; omega
 have huz := uniL_zero (Ex.mk op nm tx n args).occ
 unfold NamesP at hNm
 simp only [exAgg_mk] at hNm hEv ⊢
 generalize (Ex.mk op nm tx n args).foldV = R at *
 generalize (Ex.mk op nm tx n args).occ = oc at *
 generalize evalV (.mk op nm tx n args) [] nilS = ev at *
 obtain ⟨ef, ec⟩ := ev
 unfold EvalPost at hEv
 simp only at hEv hfv
 replace hfv := Lib.hid hfv
 replace huz := Lib.hid huz
 clear hS hok
 obtain ⟨i0, hi, hz0, hz1, hz2⟩ := info_partsE infoExE
 replace hi := Lib.hid hi
 replace hz0 := Lib.hid hz0
 replace hz1 := Lib.hid hz1
 replace hz2 := Lib.hid hz2
 go_enter Tryz.func145, Tryz.ntmps145
 go_wp2_with fail
 refine (hNm.out _ (hEw.trans xt)).mono ?_
 rintro e w1 ⟨nv, rfl, ⟨np, nc, rfl, -, -⟩, hE1⟩
 have hbx : Blk ((w'.alloc (.cells #[.int .i64 op, .string nm, .string tx, .int .i64 n, .slice q args.length cp] 54)).alloc (.cells #[.int .i64 0, .string ⟨#[]⟩, .string ⟨#[]⟩, .int .i64 0, .slice none 0 0] 54)) w'.heap.size #[.int .i64 op, .string nm, .string tx, .int .i64 n, .slice q args.length cp] 54 := (Blk.new _ _ _).alloc _
 have hbr : Blk ((w'.alloc (.cells #[.int .i64 op, .string nm, .string tx, .int .i64 n, .slice q args.length cp] 54)).alloc (.cells #[.int .i64 0, .string ⟨#[]⟩, .string ⟨#[]⟩, .int .i64 0, .slice none 0 0] 54)) (w'.heap.size + 1) #[.int .i64 0, .string ⟨#[]⟩, .string ⟨#[]⟩, .int .i64 0, .slice none 0 0] 54 := Blk.new' _ _ _ _ (by simp)
 replace hbx := Lib.hid (hbx.ext hE1)
 replace hbr := Lib.hid (hbr.ext hE1)
 have hE : Ext w' w1 := Ext.trans xt hE1
 clear hE1 hNm
 generalize (uniL oc).length = ul at *
 by_cases hu : ul = 0
 · have hoc := huz.out.1 hu
   subst hu
   subst hoc
   clear huz
   have x0 : w1.cell? ⟨w'.heap.size, 0, none⟩ = some (.int .i64 op) := (hbx.out.cell 0).trans rfl
   have x1 : w1.cell? ⟨w'.heap.size, 1, none⟩ = some (.string nm) := (hbx.out.cell 1).trans rfl
   have x2 : w1.cell? ⟨w'.heap.size, 2, none⟩ = some (.string tx) := (hbx.out.cell 2).trans rfl
   have x3 : w1.cell? ⟨w'.heap.size, 3, none⟩ = some (.int .i64 n) := (hbx.out.cell 3).trans rfl
   have x4 : w1.cell? ⟨w'.heap.size, 4, none⟩ = some (.slice q args.length cp) := (hbx.out.cell 4).trans rfl
   go_wp2_with fail
   refine (hEv.out _ (hEw.trans hE)).mono ?_
   rintro e w2 ⟨rfl, hE2⟩
   replace hbx := Lib.hid (hbx.out.ext hE2)
   replace hbr := Lib.hid (hbr.out.ext hE2)
   have hlt2 := Lib.hid hbr.out.lt
   replace hE := hE.trans hE2
   clear hE2 hEv x0 x1 x2 x3 x4
   by_cases hc : ec = 0
   · subst hc
     have hR := Lib.hid (show R = litE ef by rw [hfv.out]; simp)
     have hL := Lib.hid (fun w3 => rconst_any ef w3 (hcw.out ef rfl))
     clear hfv hcw
     go_wp2_with fail
     refine (hL.out _).mono ?_
     rintro e w3 ⟨lp, lc, rfl, hB, hE3⟩
     replace hbr := Lib.hid (hbr.out.ext (Ext.trans ((Ext.refl _).alloc _) hE3))
     replace hB := Lib.hid hB
     have hsz2 := Lib.hid (show w'.heap.size + 1 < w2.heap.size from hlt2.out)
     replace hE : Ext w' w3 := Ext.trans (hE.alloc _) hE3
     have y0 : w3.cell? ⟨w'.heap.size + 1, 0, none⟩ = some (.int .i64 0) := (hbr.out.cell 0).trans rfl
     have y1 : w3.cell? ⟨w'.heap.size + 1, 1, none⟩ = some (.string ⟨#[]⟩) := (hbr.out.cell 1).trans rfl
     have y2 : w3.cell? ⟨w'.heap.size + 1, 2, none⟩ = some (.string ⟨#[]⟩) := (hbr.out.cell 2).trans rfl
     have y3 : w3.cell? ⟨w'.heap.size + 1, 3, none⟩ = some (.int .i64 0) := (hbr.out.cell 3).trans rfl
     have y4 : w3.cell? ⟨w'.heap.size + 1, 4, none⟩ = some (.slice none 0 0) := (hbr.out.cell 4).trans rfl
     have f0 := hbr.out.fz 0
     have f1 := hbr.out.fz 1
     have f2 := hbr.out.fz 2
     have f3 := hbr.out.fz 3
     have f4 := hbr.out.fz 4
     have hs1 : w'.heap.size + 1 < w3.heap.size := cell_lt y0
     clear hE3 hL
     generalize litE ef = L at *
     go_wp2
     rw [hR.out]
     refine bodyPost_ret (v := .agg #[.int .i64 L.op, .string L.name, .string L.text, .int .i64 L.n, .slice lp L.args.length lc]) (by simp [results, Tryz.results145, go_sem, y0, y1, y2, y3, y4]) rfl ⟨lp, lc, rfl, ?_, xt⟩
     refine ((hB.out.imp (ok' := fun j => w2.heap.size ≤ j) fun j hj _ => by simp at hj; omega).move fun j hj _ => ?_).imp fun j hj _ => by have := hsz2.out; omega
     have := hsz2.out
     rw [Below.heap_setCell _ _ _ _ (show j ≠ w'.heap.size + 1 by omega), Below.heap_setCell _ _ _ _ (show j ≠ w'.heap.size + 1 by omega), Below.heap_setCell _ _ _ _ (show j ≠ w'.heap.size + 1 by omega), Below.heap_setCell _ _ _ _ (show j ≠ w'.heap.size + 1 by omega), Below.heap_setCell _ _ _ _ (show j ≠ w'.heap.size + 1 by omega)]
   · have d1 : (ec == 0) = false := by simp [hc]
     have hR := Lib.hid (show R = .mk op nm tx n (args.map Ex.foldV) by rw [hfv.out]; simp [hc])
     clear hc hfv hcw
     go_wp2_with fail
     have hVb : Ext w2 (w2.alloc (.cells #[.string ef.name, .int .i64 ef.kind, .int .i64 ef.n, .string ef.text] 76)) := (Ext.refl _).alloc _
     replace hbx := Lib.hid (hbx.out.ext hVb)
     replace hbr := Lib.hid (hbr.out.ext hVb)
     replace hE := hE.trans hVb
     clear hlt2
     generalize (w2.alloc (.cells #[.string ef.name, .int .i64 ef.kind, .int .i64 ef.n, .string ef.text] 76)) = w3 at *
     clear hVb
     have hlW := Lib.hid hbr.out.lt
     have hE0 := hE
     go_loopw [5, 6] (fun kv i wr => ∃ k : Nat, k ≤ args.length ∧ i = .int .i64 k ∧ CL wr w3.heap.size kv ((args.take k).map Ex.foldV) ∧ Ext w3 wr) (fun _ i _ => args.length - (intOf i).toNat)
     case atStart => exact ⟨0, Nat.zero_le _, rfl, CL.nil _ _, Ext.refl _⟩
     case round =>
      obtain ⟨k, hk, rfl, hcl, hEr⟩ := hrel
      replace hbx := Lib.hid (hbx.out.ext hEr)
      replace hbr := Lib.hid (hbr.out.ext hEr)
      replace hE := hE0.trans hEr
      have x4 : wr.cell? ⟨w'.heap.size, 4, none⟩ = some (.slice q args.length cp) := (hbx.out.cell 4).trans rfl
      by_cases hlt : k < args.length
      · obtain ⟨bb, off, rfl, sv, hkid⟩ := hK.out _ _ rfl (by omega)
        obtain ⟨hc, hsu, hP⟩ := hkid k hlt
        have hform := hsu.form
        have hEwr := hEw.trans hE
        obtain ⟨c0, c1, c2, c3, c4⟩ := (hc.ext hEwr).five
        have hsn := Lib.hid (map_take_snoc args k hlt)
        have hpy := Lib.hid (show (args.getD k exD).parts.length ≤ 999999 by have := partsL_len args k hlt; omega)
        have htl : ((args.take k).map Ex.foldV).length = k := by simp; omega
        replace hP := Lib.hid (hP (hkk.out k hlt))
        clear hc hkid hsu
        generalize (args.take k).map Ex.foldV = ys at *
        generalize args.getD k exD = y at *
        generalize sv k = u at *
        obtain ⟨uq, uc, rfl⟩ := hform
        obtain ⟨vp, vc, hkv⟩ := hcl.form
        rw [htl] at hkv
        subst hkv
        replace htl := Lib.hid htl
        have hrN : ∀ j, Value.ownBlock (.slice vp k vc) = some j → j < wr.heap.size := fun j e => by obtain ⟨us, _, h⟩ := hcl.row; rw [htl.out] at h; exact (h.lt j e).2
        have hrB : ∀ j, Value.ownBlock (.slice vp k vc) = some j → w3.heap.size ≤ j := fun j e => by obtain ⟨us, _, h⟩ := hcl.row; rw [htl.out] at h; exact (h.lt j e).1
        replace hrN := Lib.hid hrN
        replace hrB := Lib.hid hrB
        replace hcl := Lib.hid hcl
        have hWr := Lib.hid hEr.size
        go_wp2_with fail
        refine (hP.out _ hEwr hpy.out).mono ?_
        rintro e w5a ⟨p1, q1, rfl, hB1, hE3⟩
        obtain ⟨-, us, hus, hrow, hks⟩ := hcl.out.ext hE3
        rw [htl.out] at hrow
        have hE5a := hEr.trans hE3
        have hsz5 := Lib.hid hE5a.size
        replace hus := Lib.hid hus
        replace hks := Lib.hid hks
        replace hrow := Lib.hid hrow
        replace hB1 := Lib.hid hB1
        clear c0 c1 c2 c3 c4 x4 hEwr hE3 hcl
        go_wp2_with (at_builtin; refine wpList_append_lies _ rfl _ _ 52 rfl w3.heap.size 54 i0 (.agg #[.int .i64 0, .string ⟨#[]⟩, .string ⟨#[]⟩, .int .i64 0, .slice none 0 0]) 5 72 Tryz.underlying52 hi.out hz0.out hz1.out hz2.out rfl (by decide) _ _ _ rfl (ownsRow_extE hrow.out ((Ext.refl w5a).alloc _)) ⟨w5a.heap.size, 0, none⟩ 1 1 [.int .i64 y.foldV.op, .string y.foldV.name, .string y.foldV.text, .int .i64 y.foldV.n, .slice p1 y.foldV.args.length q1] rfl rfl ?_ ?_ (by decide) ?_ ?_ ?_ (w5a.heap.size + 1) ?_ ?_)
        · exact cell_five_new (Blk.new _ _ _)
        · exact five_one _ _ _ _ _ _ _ rfl rfl
        · unfold maxLen; omega
        · omega
        · have := hsz5.out; simp; omega
        · simp
        intro gg cap w5 hown5 hgrow5 hat5 hgl5
        have hC5 := Lib.hid (CL.step htl.out (by omega) hus.out hks.out hB1.out hWr.out hrN.out hown5 hgrow5 (by simpa using hat5))
        have hE5 : Ext w3 w5 := Below.grown (hE5a.alloc _) hgrow5 (by have := hsz5.out; first | (simp; done) | (simp; omega)) (fun k hk => hrB.out k hk)
        clear hown5 hgrow5 hat5 hgl5 hE5a
        go_wp2
        go_roundw
        case rel => exact ⟨k + 1, by omega, by go_num, by rw [hsn.out]; exact hC5.out, hE5⟩
        case measure => simp [intOf]; omega
      · have hk2 : args.take k = args := List.take_of_length_le (by omega)
        rw [hk2] at hcl
        clear hk2
        obtain ⟨vp, vc, rfl⟩ := hcl.form
        have x0 : wr.cell? ⟨w'.heap.size, 0, none⟩ = some (.int .i64 op) := (hbx.out.cell 0).trans rfl
        have x1 : wr.cell? ⟨w'.heap.size, 1, none⟩ = some (.string nm) := (hbx.out.cell 1).trans rfl
        have x2 : wr.cell? ⟨w'.heap.size, 2, none⟩ = some (.string tx) := (hbx.out.cell 2).trans rfl
        have x3 : wr.cell? ⟨w'.heap.size, 3, none⟩ = some (.int .i64 n) := (hbx.out.cell 3).trans rfl
        have g4 := hbx.out.fz 4
        have y0 : wr.cell? ⟨w'.heap.size + 1, 0, none⟩ = some (.int .i64 0) := (hbr.out.cell 0).trans rfl
        have y1 : wr.cell? ⟨w'.heap.size + 1, 1, none⟩ = some (.string ⟨#[]⟩) := (hbr.out.cell 1).trans rfl
        have y2 : wr.cell? ⟨w'.heap.size + 1, 2, none⟩ = some (.string ⟨#[]⟩) := (hbr.out.cell 2).trans rfl
        have y3 : wr.cell? ⟨w'.heap.size + 1, 3, none⟩ = some (.int .i64 0) := (hbr.out.cell 3).trans rfl
        have y4 : wr.cell? ⟨w'.heap.size + 1, 4, none⟩ = some (.slice none 0 0) := (hbr.out.cell 4).trans rfl
        have f0 := hbr.out.fz 0
        have f1 := hbr.out.fz 1
        have f2 := hbr.out.fz 2
        have f3 := hbr.out.fz 3
        have f4 := hbr.out.fz 4
        have hs1 : w'.heap.size + 1 < wr.heap.size := cell_lt y0
        have hD := Lib.hid hcl.done
        clear hcl hEr hE0
        go_wp2
        have hres : (Ex.mk op nm tx n (args.map Ex.foldV)).args.length = (args.map Ex.foldV).length := rfl
        rw [hR.out]
        refine bodyPost_ret (v := .agg #[.int .i64 op, .string nm, .string tx, .int .i64 n, .slice vp (args.map Ex.foldV).length vc]) (by simp [results, Tryz.results145, go_sem, y0, y1, y2, y3, y4]) rfl ⟨vp, vc, rfl, ?_, xt⟩
        refine (hD.out.move fun j hj _ => ?_).imp fun j hj _ => by have := hlW.out; omega
        have := hlW.out
        rw [Below.heap_setCell _ _ _ _ (show j ≠ w'.heap.size + 1 by omega), Below.heap_setCell _ _ _ _ (show j ≠ w'.heap.size + 1 by omega), Below.heap_setCell _ _ _ _ (show j ≠ w'.heap.size + 1 by omega), Below.heap_setCell _ _ _ _ (show j ≠ w'.heap.size + 1 by omega), Below.heap_setCell _ _ _ _ (show j ≠ w'.heap.size + 1 by omega), Below.heap_setCell _ _ _ _ (show j ≠ w'.heap.size by omega)]
 · have huf : ((ul : Int) == 0) = false := by simp; omega
   have hne : ¬ oc = [] := fun h => hu (huz.out.2 h)
   have hR := Lib.hid (show R = .mk op nm tx n (args.map Ex.foldV) by rw [hfv.out]; simp [hne])
   clear hne hfv hcw hEv hu huz
   go_wp2_with fail
   have hlW := Lib.hid hbr.out.lt
   have hE0 := hE
   go_loopw [5, 6] (fun kv i wr => ∃ k : Nat, k ≤ args.length ∧ i = .int .i64 k ∧ CL wr w1.heap.size kv ((args.take k).map Ex.foldV) ∧ Ext w1 wr) (fun _ i _ => args.length - (intOf i).toNat)
   case atStart => exact ⟨0, Nat.zero_le _, rfl, CL.nil _ _, Ext.refl _⟩
   case round =>
    obtain ⟨k, hk, rfl, hcl, hEr⟩ := hrel
    replace hbx := Lib.hid (hbx.out.ext hEr)
    replace hbr := Lib.hid (hbr.out.ext hEr)
    replace hE := hE0.trans hEr
    have x4 : wr.cell? ⟨w'.heap.size, 4, none⟩ = some (.slice q args.length cp) := (hbx.out.cell 4).trans rfl
    by_cases hlt : k < args.length
    · obtain ⟨bb, off, rfl, sv, hkid⟩ := hK.out _ _ rfl (by omega)
      obtain ⟨hc, hsu, hP⟩ := hkid k hlt
      have hform := hsu.form
      have hEwr := hEw.trans hE
      obtain ⟨c0, c1, c2, c3, c4⟩ := (hc.ext hEwr).five
      have hsn := Lib.hid (map_take_snoc args k hlt)
      have hpy := Lib.hid (show (args.getD k exD).parts.length ≤ 999999 by have := partsL_len args k hlt; omega)
      have htl : ((args.take k).map Ex.foldV).length = k := by simp; omega
      replace hP := Lib.hid (hP (hkk.out k hlt))
      clear hc hkid hsu
      generalize (args.take k).map Ex.foldV = ys at *
      generalize args.getD k exD = y at *
      generalize sv k = u at *
      obtain ⟨uq, uc, rfl⟩ := hform
      obtain ⟨vp, vc, hkv⟩ := hcl.form
      rw [htl] at hkv
      subst hkv
      replace htl := Lib.hid htl
      have hrN : ∀ j, Value.ownBlock (.slice vp k vc) = some j → j < wr.heap.size := fun j e => by obtain ⟨us, _, h⟩ := hcl.row; rw [htl.out] at h; exact (h.lt j e).2
      have hrB : ∀ j, Value.ownBlock (.slice vp k vc) = some j → w1.heap.size ≤ j := fun j e => by obtain ⟨us, _, h⟩ := hcl.row; rw [htl.out] at h; exact (h.lt j e).1
      replace hrN := Lib.hid hrN
      replace hrB := Lib.hid hrB
      replace hcl := Lib.hid hcl
      have hWr := Lib.hid hEr.size
      go_wp2_with fail
      refine (hP.out _ hEwr hpy.out).mono ?_
      rintro e w5a ⟨p1, q1, rfl, hB1, hE3⟩
      obtain ⟨-, us, hus, hrow, hks⟩ := hcl.out.ext hE3
      rw [htl.out] at hrow
      have hE5a := hEr.trans hE3
      have hsz5 := Lib.hid hE5a.size
      replace hus := Lib.hid hus
      replace hks := Lib.hid hks
      replace hrow := Lib.hid hrow
      replace hB1 := Lib.hid hB1
      clear c0 c1 c2 c3 c4 x4 hEwr hE3 hcl
      go_wp2_with (at_builtin; refine wpList_append_lies _ rfl _ _ 52 rfl w1.heap.size 54 i0 (.agg #[.int .i64 0, .string ⟨#[]⟩, .string ⟨#[]⟩, .int .i64 0, .slice none 0 0]) 5 72 Tryz.underlying52 hi.out hz0.out hz1.out hz2.out rfl (by decide) _ _ _ rfl (ownsRow_extE hrow.out ((Ext.refl w5a).alloc _)) ⟨w5a.heap.size, 0, none⟩ 1 1 [.int .i64 y.foldV.op, .string y.foldV.name, .string y.foldV.text, .int .i64 y.foldV.n, .slice p1 y.foldV.args.length q1] rfl rfl ?_ ?_ (by decide) ?_ ?_ ?_ (w5a.heap.size + 1) ?_ ?_)
      · exact cell_five_new (Blk.new _ _ _)
      · exact five_one _ _ _ _ _ _ _ rfl rfl
      · unfold maxLen; omega
      · omega
      · have := hsz5.out; simp; omega
      · simp
      intro gg cap w5 hown5 hgrow5 hat5 hgl5
      have hC5 := Lib.hid (CL.step htl.out (by omega) hus.out hks.out hB1.out hWr.out hrN.out hown5 hgrow5 (by simpa using hat5))
      have hE5 : Ext w1 w5 := Below.grown (hE5a.alloc _) hgrow5 (by have := hsz5.out; first | (simp; done) | (simp; omega)) (fun k hk => hrB.out k hk)
      clear hown5 hgrow5 hat5 hgl5 hE5a
      go_wp2
      go_roundw
      case rel => exact ⟨k + 1, by omega, by go_num, by rw [hsn.out]; exact hC5.out, hE5⟩
      case measure => simp [intOf]; omega
    · have hk2 : args.take k = args := List.take_of_length_le (by omega)
      rw [hk2] at hcl
      clear hk2
      obtain ⟨vp, vc, rfl⟩ := hcl.form
      have x0 : wr.cell? ⟨w'.heap.size, 0, none⟩ = some (.int .i64 op) := (hbx.out.cell 0).trans rfl
      have x1 : wr.cell? ⟨w'.heap.size, 1, none⟩ = some (.string nm) := (hbx.out.cell 1).trans rfl
      have x2 : wr.cell? ⟨w'.heap.size, 2, none⟩ = some (.string tx) := (hbx.out.cell 2).trans rfl
      have x3 : wr.cell? ⟨w'.heap.size, 3, none⟩ = some (.int .i64 n) := (hbx.out.cell 3).trans rfl
      have g4 := hbx.out.fz 4
      have y0 : wr.cell? ⟨w'.heap.size + 1, 0, none⟩ = some (.int .i64 0) := (hbr.out.cell 0).trans rfl
      have y1 : wr.cell? ⟨w'.heap.size + 1, 1, none⟩ = some (.string ⟨#[]⟩) := (hbr.out.cell 1).trans rfl
      have y2 : wr.cell? ⟨w'.heap.size + 1, 2, none⟩ = some (.string ⟨#[]⟩) := (hbr.out.cell 2).trans rfl
      have y3 : wr.cell? ⟨w'.heap.size + 1, 3, none⟩ = some (.int .i64 0) := (hbr.out.cell 3).trans rfl
      have y4 : wr.cell? ⟨w'.heap.size + 1, 4, none⟩ = some (.slice none 0 0) := (hbr.out.cell 4).trans rfl
      have f0 := hbr.out.fz 0
      have f1 := hbr.out.fz 1
      have f2 := hbr.out.fz 2
      have f3 := hbr.out.fz 3
      have f4 := hbr.out.fz 4
      have hs1 : w'.heap.size + 1 < wr.heap.size := cell_lt y0
      have hD := Lib.hid hcl.done
      clear hcl hEr hE0
      go_wp2
      have hres : (Ex.mk op nm tx n (args.map Ex.foldV)).args.length = (args.map Ex.foldV).length := rfl
      rw [hR.out]
      refine bodyPost_ret (v := .agg #[.int .i64 op, .string nm, .string tx, .int .i64 n, .slice vp (args.map Ex.foldV).length vc]) (by simp [results, Tryz.results145, go_sem, y0, y1, y2, y3, y4]) rfl ⟨vp, vc, rfl, ?_, xt⟩
      refine (hD.out.move fun j hj _ => ?_).imp fun j hj _ => by have := hlW.out; omega
      have := hlW.out
      rw [Below.heap_setCell _ _ _ _ (show j ≠ w'.heap.size + 1 by omega), Below.heap_setCell _ _ _ _ (show j ≠ w'.heap.size + 1 by omega), Below.heap_setCell _ _ _ _ (show j ≠ w'.heap.size + 1 by omega), Below.heap_setCell _ _ _ _ (show j ≠ w'.heap.size + 1 by omega), Below.heap_setCell _ _ _ _ (show j ≠ w'.heap.size + 1 by omega), Below.heap_setCell _ _ _ _ (show j ≠ w'.heap.size by omega)]
/-- What the reference's Fold leaves. -/
def FoP (y : Ex) (w : World) (e : Ending) (w' : World) : Prop := ∃ p c, e = .returned (.agg #[.int .i64 y.op, .string y.name, .string y.text, .int .i64 y.n, .slice p y.args.length c]) ∧ ExS w' (.slice p y.args.length c) y.args ∧ Ext w w'
end Go.Proofs.YtmnhmkjmcckneaaGreatDoor
namespace Go.Proofs.YtmnhmkjmcckneaaGreatDoor
open Go.RowKit
theorem unDr {a b : World} (h : Ext a.drew b) : Ext a b := Ext.trans (Ext.refl _).drew h
theorem exAt {w z u : World} (_ : Ext w z) (h : Ext z u) : Ext z u := h
theorem FoP.of {y : Ex} {w : World} {e : Ending} {w' : World} (h : ExP y w e w') : FoP y w e w' := by
 obtain ⟨p, c, he, hB, hE⟩ := h
 exact ⟨p, c, he, hB.toS, hE⟩
set_option maxRecDepth 8000 in
set_option maxHeartbeats 4000000 in
theorem rFold_any {w : World} {v : Value} (x : Ex) (hS : ExS w v x.args) (hok : StrOk [x]) (hp : x.parts.length ≤ 999999) (hl : x.levels ≤ 1000000) : Calls Tryz.prog 112 #[exAgg x v] w (FoP (foldTop x) w) := by
 obtain ⟨q, cp, rfl⟩ := hS.form
 have hD := Lib.hid (fun w1 (h : Ext w w1) => rlevels_any hS x rfl w1 h hl)
 have hF := Lib.hid (fun w1 (h : Ext w w1) => rwell_any hS x rfl hok w1 h)
 have hO := Lib.hid (fun w1 (h : Ext w w1) => rfold_any hS x rfl hok w1 h hp)
 have hT : foldTop x = if 8 < x.levels ∨ x.formed = false then x else x.foldV := rfl
 obtain ⟨op, nm, tx, n, args⟩ := x
 clear hp hok
 generalize foldTop (.mk op nm tx n args) = T at *
 generalize (Ex.mk op nm tx n args).foldV = V at *
 simp only [exAgg_mk, Ex.args] at hD hF hO hS ⊢
 generalize (Ex.mk op nm tx n args).levels = L at *
 generalize (Ex.mk op nm tx n args).formed = Fm at *
 replace hT := Lib.hid hT
 replace hS := Lib.hid hS
 go_enter Tryz.func112, Tryz.ntmps112
 go_wp2_with fail
 refine (hD.out _ xt).mono ?_
 rintro e w1 ⟨rfl, hE1⟩
 have hbx : Blk ((w.alloc (.cells #[.int .i64 op, .string nm, .string tx, .int .i64 n, .slice q args.length cp] 54)).alloc (.cells #[.int .i64 0, .string ⟨#[]⟩, .string ⟨#[]⟩, .int .i64 0, .slice none 0 0] 54)) w.heap.size #[.int .i64 op, .string nm, .string tx, .int .i64 n, .slice q args.length cp] 54 := (Blk.new _ _ _).alloc _
 have hbr : Blk ((w.alloc (.cells #[.int .i64 op, .string nm, .string tx, .int .i64 n, .slice q args.length cp] 54)).alloc (.cells #[.int .i64 0, .string ⟨#[]⟩, .string ⟨#[]⟩, .int .i64 0, .slice none 0 0] 54)) (w.heap.size + 1) #[.int .i64 0, .string ⟨#[]⟩, .string ⟨#[]⟩, .int .i64 0, .slice none 0 0] 54 := Blk.new' _ _ _ _ (by simp)
 replace hbx := Lib.hid (hbx.ext hE1)
 replace hbr := Lib.hid (hbr.ext hE1)
 have hE : Ext w w1 := Ext.trans xt hE1
 clear hE1 hD
 have x0 : w1.cell? ⟨w.heap.size, 0, none⟩ = some (.int .i64 op) := (hbx.out.cell 0).trans rfl
 have x1 : w1.cell? ⟨w.heap.size, 1, none⟩ = some (.string nm) := (hbx.out.cell 1).trans rfl
 have x2 : w1.cell? ⟨w.heap.size, 2, none⟩ = some (.string tx) := (hbx.out.cell 2).trans rfl
 have x3 : w1.cell? ⟨w.heap.size, 3, none⟩ = some (.int .i64 n) := (hbx.out.cell 3).trans rfl
 have x4 : w1.cell? ⟨w.heap.size, 4, none⟩ = some (.slice q args.length cp) := (hbx.out.cell 4).trans rfl
 by_cases hd : 8 < L
 · have hR := Lib.hid (hT.out.trans (if_pos (Or.inl hd)))
   have d1 : decide ((8 : Int) < (L : Int)) = true := decide_eq_true (by omega)
   clear hd hT hF hO
   have hs1 := hbr.out.lt
   have y0 : w1.cell? ⟨w.heap.size + 1, 0, none⟩ = some (.int .i64 0) := (hbr.out.cell 0).trans rfl
   have f0 := hbr.out.fz 0
   have y1 : w1.cell? ⟨w.heap.size + 1, 1, none⟩ = some (.string ⟨#[]⟩) := (hbr.out.cell 1).trans rfl
   have f1 := hbr.out.fz 1
   have y2 : w1.cell? ⟨w.heap.size + 1, 2, none⟩ = some (.string ⟨#[]⟩) := (hbr.out.cell 2).trans rfl
   have f2 := hbr.out.fz 2
   have y3 : w1.cell? ⟨w.heap.size + 1, 3, none⟩ = some (.int .i64 0) := (hbr.out.cell 3).trans rfl
   have f3 := hbr.out.fz 3
   have y4 : w1.cell? ⟨w.heap.size + 1, 4, none⟩ = some (.slice none 0 0) := (hbr.out.cell 4).trans rfl
   have f4 := hbr.out.fz 4
   go_wp2
   rw [hR.out]
   refine bodyPost_ret (v := .agg #[.int .i64 op, .string nm, .string tx, .int .i64 n, .slice q args.length cp]) (by simp [results, Tryz.results112, go_sem, y0, y1, y2, y3, y4]) rfl ⟨q, cp, rfl, hS.out.ext xt, xt⟩
 · have d1 : decide ((8 : Int) < (L : Int)) = false := decide_eq_false (by omega)
   go_wp2_with fail
   refine (hF.out _ hE).mono ?_
   rintro e w2 ⟨rfl, hE2⟩
   replace hbx := Lib.hid (hbx.out.ext hE2)
   replace hbr := Lib.hid (hbr.out.ext hE2)
   replace hE := hE.trans hE2
   clear hE2 hF x0 x1 x2 x3 x4
   have x0 : w2.cell? ⟨w.heap.size, 0, none⟩ = some (.int .i64 op) := (hbx.out.cell 0).trans rfl
   have x1 : w2.cell? ⟨w.heap.size, 1, none⟩ = some (.string nm) := (hbx.out.cell 1).trans rfl
   have x2 : w2.cell? ⟨w.heap.size, 2, none⟩ = some (.string tx) := (hbx.out.cell 2).trans rfl
   have x3 : w2.cell? ⟨w.heap.size, 3, none⟩ = some (.int .i64 n) := (hbx.out.cell 3).trans rfl
   have x4 : w2.cell? ⟨w.heap.size, 4, none⟩ = some (.slice q args.length cp) := (hbx.out.cell 4).trans rfl
   cases Fm with
   | false =>
    have hR := Lib.hid (hT.out.trans (if_pos (Or.inr rfl)))
    clear hd hT hO
    have hs1 := hbr.out.lt
    have y0 : w2.cell? ⟨w.heap.size + 1, 0, none⟩ = some (.int .i64 0) := (hbr.out.cell 0).trans rfl
    have f0 := hbr.out.fz 0
    have y1 : w2.cell? ⟨w.heap.size + 1, 1, none⟩ = some (.string ⟨#[]⟩) := (hbr.out.cell 1).trans rfl
    have f1 := hbr.out.fz 1
    have y2 : w2.cell? ⟨w.heap.size + 1, 2, none⟩ = some (.string ⟨#[]⟩) := (hbr.out.cell 2).trans rfl
    have f2 := hbr.out.fz 2
    have y3 : w2.cell? ⟨w.heap.size + 1, 3, none⟩ = some (.int .i64 0) := (hbr.out.cell 3).trans rfl
    have f3 := hbr.out.fz 3
    have y4 : w2.cell? ⟨w.heap.size + 1, 4, none⟩ = some (.slice none 0 0) := (hbr.out.cell 4).trans rfl
    have f4 := hbr.out.fz 4
    go_wp2
    rw [hR.out]
    refine bodyPost_ret (v := .agg #[.int .i64 op, .string nm, .string tx, .int .i64 n, .slice q args.length cp]) (by simp [results, Tryz.results112, go_sem, y0, y1, y2, y3, y4]) rfl ⟨q, cp, rfl, hS.out.ext xt, xt⟩
   | true =>
    have hR := Lib.hid (hT.out.trans (if_neg (by simp; omega)))
    clear hd hT hS
    go_wp2_with fail
    refine (hO.out _ hE).mono ?_
    rintro e w3 ⟨lp, lc, rfl, hB, hE3⟩
    have hlt := Lib.hid hbr.out.lt
    replace hbr := Lib.hid (hbr.out.ext hE3)
    replace hE := hE.trans hE3
    replace hB := Lib.hid hB
    have y0 : w3.cell? ⟨w.heap.size + 1, 0, none⟩ = some (.int .i64 0) := (hbr.out.cell 0).trans rfl
    have f0 := hbr.out.fz 0
    have y1 : w3.cell? ⟨w.heap.size + 1, 1, none⟩ = some (.string ⟨#[]⟩) := (hbr.out.cell 1).trans rfl
    have f1 := hbr.out.fz 1
    have y2 : w3.cell? ⟨w.heap.size + 1, 2, none⟩ = some (.string ⟨#[]⟩) := (hbr.out.cell 2).trans rfl
    have f2 := hbr.out.fz 2
    have y3 : w3.cell? ⟨w.heap.size + 1, 3, none⟩ = some (.int .i64 0) := (hbr.out.cell 3).trans rfl
    have f3 := hbr.out.fz 3
    have y4 : w3.cell? ⟨w.heap.size + 1, 4, none⟩ = some (.slice none 0 0) := (hbr.out.cell 4).trans rfl
    have f4 := hbr.out.fz 4
    clear hE3 x0 x1 x2 x3 x4
    go_wp2
    rw [hR.out]
    refine bodyPost_ret (v := .agg #[.int .i64 V.op, .string V.name, .string V.text, .int .i64 V.n, .slice lp V.args.length lc]) (by simp [results, Tryz.results112, go_sem, y0, y1, y2, y3, y4]) rfl ⟨lp, lc, rfl, ?_, xt⟩
    have hl := hlt.out
    exact (((((hB.out.set (fun j hj => by omega)).set (fun j hj => by omega)).set (fun j hj => by omega)).set (fun j hj => by omega)).set (fun j hj => by omega)).toS
set_option maxRecDepth 8000 in
set_option maxHeartbeats 4000000 in
theorem folds_any (x : Ex) (m : Int) (q : Option Addr) (cp : Nat) (w : World) (hX : ExS w (.slice q x.args.length cp) x.args) (hok : StrOk [x]) (hp : x.parts.length ≤ 999999) (hl : x.levels ≤ 1000000) : Calls Tryz.prog 77 #[exAgg x (.slice q x.args.length cp), .int .i64 m] w (OneV (.bool ((foldTop x).same (eqE m))) w) := by
 have kF := Lib.hid (fun w1 (h : Ext w w1) => rFold_any (w := w1) (v := .slice q x.args.length cp) x (hX.ext h) hok hp hl)
 have hK : ∀ (W : World) (B : Nat), Blk W B #[.int .i64 1, .string ⟨#[]⟩, .string ⟨#[]⟩, .int .i64 1, .slice none 0 0, .int .i64 1, .string ⟨#[]⟩, .string ⟨#[]⟩, .int .i64 m, .slice none 0 0] 54 → ExS W (.slice (some ⟨B, 0, none⟩) 2 2) (eqE m).args := fun W B h => (exb_two (ok := fun _ => True) (x := leafN 1) (y := leafN m) (c := 2) h trivial (.nil none 0) (.nil none 0) (by omega)).toS
 replace hK := Lib.hid hK
 generalize foldTop x = y at *
 obtain ⟨op, nm, tx, n, args⟩ := x
 simp only [exAgg_mk, Ex.args] at kF ⊢
 clear hX hok hp hl
 go_enter Tryz.func77, Tryz.ntmps77
 go_wp2_with fail
 have hb0 : Blk (((w.alloc (.cells #[.int .i64 op, .string nm, .string tx, .int .i64 n, .slice q args.length cp] 54)).alloc (.cells #[.int .i64 1, .string ⟨#[]⟩, .string ⟨#[]⟩, .int .i64 1, .slice none 0 0, .int .i64 1, .string ⟨#[]⟩, .string ⟨#[]⟩, .int .i64 m, .slice none 0 0] 54)).alloc (.cells #[.int .i64 8, .string ⟨#[]⟩, .string ⟨#[]⟩, .int .i64 0, .slice (some ⟨w.heap.size + 1, 0, none⟩) 2 2] 54)) w.heap.size #[.int .i64 op, .string nm, .string tx, .int .i64 n, .slice q args.length cp] 54 := ((Blk.new _ _ _).alloc _).alloc _
 have hb1 : Blk (((w.alloc (.cells #[.int .i64 op, .string nm, .string tx, .int .i64 n, .slice q args.length cp] 54)).alloc (.cells #[.int .i64 1, .string ⟨#[]⟩, .string ⟨#[]⟩, .int .i64 1, .slice none 0 0, .int .i64 1, .string ⟨#[]⟩, .string ⟨#[]⟩, .int .i64 m, .slice none 0 0] 54)).alloc (.cells #[.int .i64 8, .string ⟨#[]⟩, .string ⟨#[]⟩, .int .i64 0, .slice (some ⟨w.heap.size + 1, 0, none⟩) 2 2] 54)) (w.heap.size + 1) #[.int .i64 1, .string ⟨#[]⟩, .string ⟨#[]⟩, .int .i64 1, .slice none 0 0, .int .i64 1, .string ⟨#[]⟩, .string ⟨#[]⟩, .int .i64 m, .slice none 0 0] 54 := (Blk.new' _ _ _ _ (by simp)).alloc _
 have hb2 : Blk (((w.alloc (.cells #[.int .i64 op, .string nm, .string tx, .int .i64 n, .slice q args.length cp] 54)).alloc (.cells #[.int .i64 1, .string ⟨#[]⟩, .string ⟨#[]⟩, .int .i64 1, .slice none 0 0, .int .i64 1, .string ⟨#[]⟩, .string ⟨#[]⟩, .int .i64 m, .slice none 0 0] 54)).alloc (.cells #[.int .i64 8, .string ⟨#[]⟩, .string ⟨#[]⟩, .int .i64 0, .slice (some ⟨w.heap.size + 1, 0, none⟩) 2 2] 54)) (w.heap.size + 1 + 1) #[.int .i64 8, .string ⟨#[]⟩, .string ⟨#[]⟩, .int .i64 0, .slice (some ⟨w.heap.size + 1, 0, none⟩) 2 2] 54 := Blk.new' _ _ _ _ (by simp)
 have hE : Ext w (((w.alloc (.cells #[.int .i64 op, .string nm, .string tx, .int .i64 n, .slice q args.length cp] 54)).alloc (.cells #[.int .i64 1, .string ⟨#[]⟩, .string ⟨#[]⟩, .int .i64 1, .slice none 0 0, .int .i64 1, .string ⟨#[]⟩, .string ⟨#[]⟩, .int .i64 m, .slice none 0 0] 54)).alloc (.cells #[.int .i64 8, .string ⟨#[]⟩, .string ⟨#[]⟩, .int .i64 0, .slice (some ⟨w.heap.size + 1, 0, none⟩) 2 2] 54)) := ((((Ext.refl _).alloc _).alloc _).alloc _)
 have hQ := Lib.hid (hK.out _ _ hb1)
 clear hb1 hK
 generalize (((w.alloc (.cells #[.int .i64 op, .string nm, .string tx, .int .i64 n, .slice q args.length cp] 54)).alloc (.cells #[.int .i64 1, .string ⟨#[]⟩, .string ⟨#[]⟩, .int .i64 1, .slice none 0 0, .int .i64 1, .string ⟨#[]⟩, .string ⟨#[]⟩, .int .i64 m, .slice none 0 0] 54)).alloc (.cells #[.int .i64 8, .string ⟨#[]⟩, .string ⟨#[]⟩, .int .i64 0, .slice (some ⟨w.heap.size + 1, 0, none⟩) 2 2] 54)) = w9 at *
 have x0 : w9.cell? ⟨w.heap.size, 0, none⟩ = some (.int .i64 op) := (hb0.cell 0).trans rfl
 have x1 : w9.cell? ⟨w.heap.size, 1, none⟩ = some (.string nm) := (hb0.cell 1).trans rfl
 have x2 : w9.cell? ⟨w.heap.size, 2, none⟩ = some (.string tx) := (hb0.cell 2).trans rfl
 have x3 : w9.cell? ⟨w.heap.size, 3, none⟩ = some (.int .i64 n) := (hb0.cell 3).trans rfl
 have x4 : w9.cell? ⟨w.heap.size, 4, none⟩ = some (.slice q args.length cp) := (hb0.cell 4).trans rfl
 have z0 : w9.cell? ⟨w.heap.size + 1 + 1, 0, none⟩ = some (.int .i64 8) := (hb2.cell 0).trans rfl
 have z1 : w9.cell? ⟨w.heap.size + 1 + 1, 1, none⟩ = some (.string ⟨#[]⟩) := (hb2.cell 1).trans rfl
 have z2 : w9.cell? ⟨w.heap.size + 1 + 1, 2, none⟩ = some (.string ⟨#[]⟩) := (hb2.cell 2).trans rfl
 have z3 : w9.cell? ⟨w.heap.size + 1 + 1, 3, none⟩ = some (.int .i64 0) := (hb2.cell 3).trans rfl
 have z4 : w9.cell? ⟨w.heap.size + 1 + 1, 4, none⟩ = some (.slice (some ⟨w.heap.size + 1, 0, none⟩) 2 2) := (hb2.cell 4).trans rfl
 clear hb0 hb2
 go_region_held3 (fun w' => w'.cell? ⟨w.heap.size, 0, none⟩ = some (.int .i64 op) ∧ w'.cell? ⟨w.heap.size, 1, none⟩ = some (.string nm) ∧ w'.cell? ⟨w.heap.size, 2, none⟩ = some (.string tx) ∧ w'.cell? ⟨w.heap.size, 3, none⟩ = some (.int .i64 n) ∧ w'.cell? ⟨w.heap.size, 4, none⟩ = some (.slice q args.length cp) ∧ w'.cell? ⟨w.heap.size + 1 + 1, 0, none⟩ = some (.int .i64 8) ∧ w'.cell? ⟨w.heap.size + 1 + 1, 1, none⟩ = some (.string ⟨#[]⟩) ∧ w'.cell? ⟨w.heap.size + 1 + 1, 2, none⟩ = some (.string ⟨#[]⟩) ∧ w'.cell? ⟨w.heap.size + 1 + 1, 3, none⟩ = some (.int .i64 0) ∧ w'.cell? ⟨w.heap.size + 1 + 1, 4, none⟩ = some (.slice (some ⟨w.heap.size + 1, 0, none⟩) 2 2)) (first | exact ⟨x0, x1, x2, x3, x4, z0, z1, z2, z3, z4⟩ | exact ⟨by assumption, by assumption, by assumption, by assumption, by assumption, by assumption, by assumption, by assumption, by assumption, by assumption⟩) (first | (go_at_call 112; refine (kF.out _ (by first | exact hE | exact hE.drew)).mono ?_; rintro e w6 ⟨p6, c6, rfl, hY6, hE6⟩; have hS := exAt hE (by first | exact hE6 | exact unDr hE6); have hE := hE.trans hS; have x0 := hS.get x0; have x1 := hS.get x1; have x2 := hS.get x2; have x3 := hS.get x3; have x4 := hS.get x4; have z0 := hS.get z0; have z1 := hS.get z1; have z2 := hS.get z2; have z3 := hS.get z3; have z4 := hS.get z4; have hQ := Lib.hid (hQ.out.ext hS); have hY := Lib.hid hY6; clear hE6 hY6 hS) | (go_at_call 111; refine (rsame_any hY.out y rfl (eqE m) _ hQ.out _ (by first | exact Ext.refl _ | exact (Ext.refl _).drew)).mono ?_; rintro e w6 ⟨rfl, hE6⟩; have hS := exAt hE (by first | exact hE6 | exact unDr hE6); have hE := hE.trans hS; have x0 := hS.get x0; have x1 := hS.get x1; have x2 := hS.get x2; have x3 := hS.get x3; have x4 := hS.get x4; have z0 := hS.get z0; have z1 := hS.get z1; have z2 := hS.get z2; have z3 := hS.get z3; have z4 := hS.get z4; clear hE6 hS))
 all_goals go_wp2
 all_goals go_ret
 all_goals exact ⟨rfl, hE⟩
end Go.Proofs.YtmnhmkjmcckneaaGreatDoor
namespace Go.Proofs.YtmnhmkjmcckneaaGreatDoor
open Go.RowKit
/-- What is known of a rule, for the reference's Fold. -/
def FoIn (l : List RuleD) : Prop := ∀ i, i < l.length → StrOk [(l.getD i rD).when] ∧ (l.getD i rD).when.parts.length ≤ 999999
set_option maxRecDepth 8000 in
set_option maxHeartbeats 4000000 in
theorem rtotal_any (lv : Value) (l : List RuleD) (w : World) (hR : RulesM w lv l) (hI : FoIn l) (hl : l.length ≤ 1000000) : Calls Tryz.prog 37 #[lv] w (OneV (.bool (totB l)) w) := by
 obtain ⟨lp, lc, rfl⟩ := hR.form
 have hst := Lib.hid (fun k (h : k < l.length) => idx_step alwB l k h)
 have htot : totB l = (idxF alwB 0 (l.drop 0)).isSome := rfl
 generalize totB l = R at *
 replace hR := Lib.hid hR
 replace hI := Lib.hid hI
 replace htot := Lib.hid htot
 go_enter Tryz.func37, Tryz.ntmps37
 go_wp2_with fail
 go_loopw [3] (fun i wr => ∃ k : Nat, k ≤ l.length ∧ i = .int .i64 k ∧ R = (idxF alwB k (l.drop k)).isSome ∧ Ext w wr) (fun i _ => l.length - (intOf i).toNat)
 case atStart => exact ⟨0, Nat.zero_le _, rfl, htot.out, Ext.refl _⟩
 case round =>
  obtain ⟨k, hk, rfl, hRk, hEr⟩ := hrel
  by_cases hlt : k < l.length
  · obtain ⟨b, off, rfl, sv, hkid⟩ := hR.out.at (by omega)
    obtain ⟨hc, hsu⟩ := hkid k hlt
    obtain ⟨h0, h1, h2, h3, h4, h5, h6, h7, h8, h9⟩ := hc.ext hEr
    replace hsu := hsu.ext hEr
    obtain ⟨uq, uc, huv⟩ := hsu.form
    rw [hst.out k hlt] at hRk
    obtain ⟨hok, hpt⟩ := hI.out k hlt
    clear hc hkid
    generalize l.getD k rD = r at *
    rw [huv] at hsu h5
    clear huv
    replace hRk := Lib.hid hRk
    have kA := Lib.hid (fun w1 (h : Ext wr w1) => folds_any r.when 1 uq uc w1 (hsu.ext h) hok hpt (by have := levels_parts r.when; omega))
    change Hid (∀ w1, Ext wr w1 → Calls Tryz.prog 77 #[exAgg r.when (.slice uq r.when.args.length uc), .int .i64 1] w1 (OneV (.bool (alwB r)) w1)) at kA
    unfold exAgg at kA
    clear hsu hok hpt h0 h6 h7 h8 h9
    go_wp2_with fail
    refine (kA.out _ (Ext.refl _)).mono ?_
    rintro e w1 ⟨rfl, hE1⟩
    have hE := hEr.trans hE1
    clear hE1 kA hEr h1 h2 h3 h4 h5
    cases ha : alwB r with
    | true =>
     have hR2 := Lib.hid (show R = true by have := hRk.out; rw [if_pos ha] at this; exact this)
     clear ha hRk
     go_wp2
     go_ret
     rw [hR2.out]; exact ⟨rfl, hE⟩
    | false =>
     have hR2 := Lib.hid (show R = (idxF alwB (k + 1) (l.drop (k + 1))).isSome by have := hRk.out; rwa [if_neg (by rw [ha]; simp)] at this)
     clear ha hRk
     go_wp2
     go_roundw
     case rel => exact ⟨k + 1, by omega, by go_num, hR2.out, hE⟩
     case measure => simp [intOf]; omega
  · have hd : l.drop k = [] := List.drop_eq_nil_of_le (by omega)
    rw [hd] at hRk
    have hR2 := Lib.hid (show R = false from hRk)
    clear hd hRk
    go_wp2
    go_ret
    rw [hR2.out]; exact ⟨rfl, hEr⟩
end Go.Proofs.YtmnhmkjmcckneaaGreatDoor
