/- Contract of clone (a walk; printed by gen/clone.py). -/
import Derived.Test.YtpdpjindmghfpaaGreatDoorEcl
import Derived.Test.YtpdpjindmghfpaaGreatDoorHeld
namespace Go.Proofs.YtpdpjindmghfpaaGreatDoor
open Go.RowKit

set_option maxRecDepth 8000 in
set_option maxHeartbeats 4000000 in
theorem clone_any {w : World} {v : Value} {l0 : List Ex} (h : ExS w v l0) : ∀ x : Ex, x.args = l0 → ∀ w', Ext w w' → x.parts.length ≤ 1000000 → Calls Tryz.prog 86 #[exAgg x v] w' (ExP x w') := by
  refine ExS.ind (P := fun x v => ∀ w', Ext w w' → x.parts.length ≤ 1000000 → Calls Tryz.prog 86 #[exAgg x v] w' (ExP x w')) ?_ h
  clear h
  intro x v hS hK w' hE hpt
  obtain ⟨op, nm, tx, n, args⟩ := x
  obtain ⟨q, cp, rfl⟩ := hS.form
  rw [parts_mk, List.length_cons] at hpt
  have hlen : args.length < 1000000 := by have := partsL_ge args; omega
  replace hK := Lib.hid hK
  simp only [Ex.args] at hK hlen ⊢
  rw [exAgg_mk]
  clear hS
  obtain ⟨i0, hi, hz0, hz1, hz2⟩ := info_partsE infoExE
  replace hi := Lib.hid hi
  replace hz0 := Lib.hid hz0
  replace hz1 := Lib.hid hz1
  replace hz2 := Lib.hid hz2
  go_enter Tryz.func86, Tryz.ntmps86
  go_wp2_with fail
  have hb0 : Blk ((w'.alloc (.cells #[.int .i64 op, .string nm, .string tx, .int .i64 n, .slice none 0 0] 24)).alloc (.cells #[.int .i64 0, .string ⟨#[]⟩, .string ⟨#[]⟩, .int .i64 0, .slice none 0 0] 24)) w'.heap.size #[.int .i64 op, .string nm, .string tx, .int .i64 n, .slice none 0 0] 24 := (Blk.new _ _ _).alloc _
  have hr0 : Blk ((w'.alloc (.cells #[.int .i64 op, .string nm, .string tx, .int .i64 n, .slice none 0 0] 24)).alloc (.cells #[.int .i64 0, .string ⟨#[]⟩, .string ⟨#[]⟩, .int .i64 0, .slice none 0 0] 24)) (w'.heap.size + 1) #[.int .i64 0, .string ⟨#[]⟩, .string ⟨#[]⟩, .int .i64 0, .slice none 0 0] 24 := Blk.new' _ _ _ _ (by simp)
  have hE0 : Ext w' ((w'.alloc (.cells #[.int .i64 op, .string nm, .string tx, .int .i64 n, .slice none 0 0] 24)).alloc (.cells #[.int .i64 0, .string ⟨#[]⟩, .string ⟨#[]⟩, .int .i64 0, .slice none 0 0] 24)) := (by repeat (first | with_reducible exact Ext.refl _ | with_reducible exact hE0 | with_reducible exact hE | with_reducible refine Ext.alloc ?_ _ | with_reducible refine Ext.drewN ?_ _ | with_reducible refine Ext.drew ?_ | ((with_reducible refine Ext.setCell ?_ ?side _); (case side => first | exact Nat.le_refl _ | (simp; done) | (simp; omega)))))
  have hsz : ((w'.alloc (.cells #[.int .i64 op, .string nm, .string tx, .int .i64 n, .slice none 0 0] 24)).alloc (.cells #[.int .i64 0, .string ⟨#[]⟩, .string ⟨#[]⟩, .int .i64 0, .slice none 0 0] 24)).heap.size = w'.heap.size + 1 + 1 := by simp
  generalize ((w'.alloc (.cells #[.int .i64 op, .string nm, .string tx, .int .i64 n, .slice none 0 0] 24)).alloc (.cells #[.int .i64 0, .string ⟨#[]⟩, .string ⟨#[]⟩, .int .i64 0, .slice none 0 0] 24)) = w0 at *
  replace hsz := Lib.hid hsz
  replace hr0 := Lib.hid hr0
  replace hb0 := Lib.hid hb0
  go_loopw [11] (fun i wr => ∃ k : Nat, ∃ vv, k ≤ args.length ∧ i = .int .i64 k ∧ Blk wr w'.heap.size #[.int .i64 op, .string nm, .string tx, .int .i64 n, vv] 24 ∧ CL wr (w'.heap.size + 1 + 1) vv (args.take k) ∧ ExtBut w'.heap.size w0 wr) (fun i _ => args.length - (intOf i).toNat)
  case atStart => exact ⟨0, _, Nat.zero_le _, rfl, hb0.out, CL.nil _ _, ExtBut.refl _ _⟩
  case round =>
    obtain ⟨k, vv, hk, rfl, hbw, hcl, hEb⟩ := hrel
    have hEr : Ext w' wr := hEb.to hE0 (Nat.le_refl _)
    by_cases hlt : k < args.length
    · obtain ⟨bb, off, rfl, sv, hkid⟩ := hK.out _ _ rfl (by omega)
      obtain ⟨hc, hsu, hP⟩ := hkid k hlt
      have hform := hsu.form
      obtain ⟨c0, c1, c2, c3, c4⟩ := (hc.ext (hE.trans hEr)).five
      have hsn := Lib.hid (take_snocD args exD k hlt)
      have hpy := Lib.hid (show (args.getD k exD).parts.length ≤ 1000000 by have := partsL_len args k hlt; omega)
      have htl : (args.take k).length = k := by simp; omega
      replace hP := Lib.hid hP
      clear hc hkid hsu
      generalize args.getD k exD = y at *
      generalize sv k = u at *
      obtain ⟨uq, uc, rfl⟩ := hform
      obtain ⟨vp, vc, rfl⟩ := hcl.form
      rw [htl] at hcl hbw
      have b4 : wr.cell? ⟨w'.heap.size, 4, none⟩ = some (.slice vp k vc) := (hbw.cell 4).trans rfl
      have b4f : wr.frozen? ⟨w'.heap.size, 4, none⟩ = false := hbw.fz 4
      have hbl : w'.heap.size < wr.heap.size := hbw.lt
      replace htl := Lib.hid htl
      replace hcl := Lib.hid hcl
      replace hbw := Lib.hid hbw
      go_wp2_with fail
      have hbP := Blk.new wr #[.int .i64 y.op, .string y.name, .string y.text, .int .i64 y.n, .slice uq y.args.length uc] 24
      have hX9 : Ext wr (wr.alloc (.cells #[.int .i64 y.op, .string y.name, .string y.text, .int .i64 y.n, .slice uq y.args.length uc] 24)) := (by repeat (first | with_reducible exact Ext.refl _ | with_reducible exact hE0 | with_reducible exact hE | with_reducible refine Ext.alloc ?_ _ | with_reducible refine Ext.drewN ?_ _ | with_reducible refine Ext.drew ?_ | ((with_reducible refine Ext.setCell ?_ ?side _); (case side => first | exact Nat.le_refl _ | (simp; done) | (simp; omega)))))
      have hs9 : (wr.alloc (.cells #[.int .i64 y.op, .string y.name, .string y.text, .int .i64 y.n, .slice uq y.args.length uc] 24)).heap.size = wr.heap.size + 1 := by simp
      generalize wr.alloc (.cells #[.int .i64 y.op, .string y.name, .string y.text, .int .i64 y.n, .slice uq y.args.length uc] 24) = w9 at *
      have hE9 := Lib.hid (hEr.trans hX9)
      have hNB := Lib.hid (show w'.heap.size + 1 + 1 ≤ w9.heap.size by have h1 := hsz.out; have h2 := hEb.size; omega)
      have hrB : ∀ j, Value.ownBlock (.slice vp k vc) = some j → w'.heap.size + 1 + 1 ≤ j := fun j e => by obtain ⟨us, _, h⟩ := hcl.out.row; exact (h.lt j e).1
      have hrN : ∀ j, Value.ownBlock (.slice vp k vc) = some j → j < w9.heap.size := fun j e => by obtain ⟨us, _, h⟩ := hcl.out.row; have := (h.lt j e).2; omega
      have hrP : ∀ j, Value.ownBlock (.slice vp k vc) = some j → j < wr.heap.size := fun j e => by obtain ⟨us, _, h⟩ := hcl.out.row; exact (h.lt j e).2
      replace hrB := Lib.hid hrB
      replace hrN := Lib.hid hrN
      replace hrP := Lib.hid hrP
      replace hcl := Lib.hid (hcl.out.ext hX9)
      replace hbw := Lib.hid (hbw.out.ext hX9)
      replace b4 := hX9.get b4
      replace hbl : w'.heap.size < w9.heap.size := hbw.out.lt
      replace hEb := Lib.hid (hEb.ext hX9)
      have r0 : w9.cell? ⟨wr.heap.size, 0, none⟩ = some (.int .i64 y.op) := (hbP.cell 0).trans rfl
      have r1 : w9.cell? ⟨wr.heap.size, 1, none⟩ = some (.string y.name) := (hbP.cell 1).trans rfl
      have r2 : w9.cell? ⟨wr.heap.size, 2, none⟩ = some (.string y.text) := (hbP.cell 2).trans rfl
      have r3 : w9.cell? ⟨wr.heap.size, 3, none⟩ = some (.int .i64 y.n) := (hbP.cell 3).trans rfl
      have r4 : w9.cell? ⟨wr.heap.size, 4, none⟩ = some (.slice uq y.args.length uc) := (hbP.cell 4).trans rfl
      replace hbP := Lib.hid hbP
      replace hs9 := Lib.hid hs9
      clear hX9 c0 c1 c2 c3 c4
      clear b4f
      refine wp_region_late 3 (fun W => W.cell? ⟨wr.heap.size, 0, none⟩ = some (.int .i64 y.op) ∧ W.cell? ⟨wr.heap.size, 1, none⟩ = some (.string y.name) ∧ W.cell? ⟨wr.heap.size, 2, none⟩ = some (.string y.text) ∧ W.cell? ⟨wr.heap.size, 3, none⟩ = some (.int .i64 y.n) ∧ W.cell? ⟨wr.heap.size, 4, none⟩ = some (.slice uq y.args.length uc) ∧ W.cell? ⟨w'.heap.size, 4, none⟩ = some (.slice vp k vc)) (by kernel_rfl) (by kernel_rfl) ⟨r0, r1, r2, r3, r4, b4⟩ ?aF ?head ?tail
      case head =>
        simp only [List.take_succ_cons, List.take_zero]
        refine HeldHead.cons ?v0 (by rfl) ?hv0 ?rest0
        case hv0 =>
          intro W hW
          obtain ⟨h0, h1, h2, h3, h4, h5⟩ := hW
          go_simp
          try with_reducible rfl
        simp only [Act.put, List.setIfInBounds_toArray, List.set_cons_zero, List.set_cons_succ]
        refine HeldHead.cons ?v1 (by rfl) ?hv1 ?rest1
        case hv1 =>
          intro W hW
          obtain ⟨h0, h1, h2, h3, h4, h5⟩ := hW
          go_simp
          try with_reducible rfl
        simp only [Act.put, List.setIfInBounds_toArray, List.set_cons_zero, List.set_cons_succ]
        refine HeldHead.cons ?v2 (by rfl) ?hv2 ?rest2
        case hv2 =>
          intro W hW
          obtain ⟨h0, h1, h2, h3, h4, h5⟩ := hW
          go_simp
          try with_reducible rfl
        simp only [Act.put, List.setIfInBounds_toArray, List.set_cons_zero, List.set_cons_succ]
        exact HeldHead.nil
      simp only [List.drop_succ_cons, List.drop_zero]
      refine wpTail_cons ?_
      go_wp2_with fail
      refine (hP.out _ (Ext.drew (hE.trans hE9.out)) hpy.out).mono ?_
      rintro e w1 ⟨p1, q1, rfl, hB1, hE1⟩
      have hS : Ext w9 w1 := Ext.trans (Ext.refl _).drew hE1
      replace hbw := Lib.hid (hbw.out.ext hS)
      replace hbP := Lib.hid (hbP.out.ext hS)
      obtain ⟨-, us, hus, hrow, hks⟩ := hcl.out.ext hS
      rw [htl.out] at hrow
      have hsz1 := Lib.hid (show w'.heap.size + 1 + 1 ≤ w1.heap.size by have := hNB.out; have := hS.size; omega)
      replace hEb := Lib.hid (hEb.out.ext hS)
      replace hbl : w'.heap.size < w1.heap.size := hbw.out.lt
      have hb5 := Lib.hid (Blk.new w1 #[.int .i64 y.op, .string y.name, .string y.text, .int .i64 y.n, .slice p1 y.args.length q1] 24)
      replace hus := Lib.hid hus
      replace hks := Lib.hid hks
      replace hrow := Lib.hid hrow
      replace hB1 := Lib.hid hB1
      replace r0 := hS.get r0
      replace r1 := hS.get r1
      replace r2 := hS.get r2
      replace r3 := hS.get r3
      replace r4 := hS.get r4
      replace b4 := hS.get b4
      clear hE1 hS hcl
      go_wp2_with fail
      refine ThenS.mk ⟨r0, r1, r2, r3, r4, b4⟩ (wpTail_cons ?_)
      go_wp2_with fail
      refine ThenS.mk ⟨Ext.get (by repeat (first | with_reducible exact Ext.refl _ | with_reducible exact hE0 | with_reducible exact hE | with_reducible refine Ext.alloc ?_ _ | with_reducible refine Ext.drewN ?_ _ | with_reducible refine Ext.drew ?_ | ((with_reducible refine Ext.setCell ?_ ?side _); (case side => first | exact Nat.le_refl _ | (simp; done) | (simp; omega))))) r0, Ext.get (by repeat (first | with_reducible exact Ext.refl _ | with_reducible exact hE0 | with_reducible exact hE | with_reducible refine Ext.alloc ?_ _ | with_reducible refine Ext.drewN ?_ _ | with_reducible refine Ext.drew ?_ | ((with_reducible refine Ext.setCell ?_ ?side _); (case side => first | exact Nat.le_refl _ | (simp; done) | (simp; omega))))) r1, Ext.get (by repeat (first | with_reducible exact Ext.refl _ | with_reducible exact hE0 | with_reducible exact hE | with_reducible refine Ext.alloc ?_ _ | with_reducible refine Ext.drewN ?_ _ | with_reducible refine Ext.drew ?_ | ((with_reducible refine Ext.setCell ?_ ?side _); (case side => first | exact Nat.le_refl _ | (simp; done) | (simp; omega))))) r2, Ext.get (by repeat (first | with_reducible exact Ext.refl _ | with_reducible exact hE0 | with_reducible exact hE | with_reducible refine Ext.alloc ?_ _ | with_reducible refine Ext.drewN ?_ _ | with_reducible refine Ext.drew ?_ | ((with_reducible refine Ext.setCell ?_ ?side _); (case side => first | exact Nat.le_refl _ | (simp; done) | (simp; omega))))) r3, Ext.get (by repeat (first | with_reducible exact Ext.refl _ | with_reducible exact hE0 | with_reducible exact hE | with_reducible refine Ext.alloc ?_ _ | with_reducible refine Ext.drewN ?_ _ | with_reducible refine Ext.drew ?_ | ((with_reducible refine Ext.setCell ?_ ?side _); (case side => first | exact Nat.le_refl _ | (simp; done) | (simp; omega))))) r4, Ext.get (by repeat (first | with_reducible exact Ext.refl _ | with_reducible exact hE0 | with_reducible exact hE | with_reducible refine Ext.alloc ?_ _ | with_reducible refine Ext.drewN ?_ _ | with_reducible refine Ext.drew ?_ | ((with_reducible refine Ext.setCell ?_ ?side _); (case side => first | exact Nat.le_refl _ | (simp; done) | (simp; omega))))) b4⟩ (wpTail_cons ?_)
      go_wp2_with (at_builtin; refine wpList_append_lies _ rfl _ _ 22 rfl (w'.heap.size + 1 + 1) 24 i0 (.agg #[.int .i64 0, .string ⟨#[]⟩, .string ⟨#[]⟩, .int .i64 0, .slice none 0 0]) 5 72 Tryz.underlying22 hi.out hz0.out hz1.out hz2.out rfl (by decide) _ _ _ rfl (hrow.out.alloc _) ⟨w1.heap.size, 0, none⟩ 1 1 [.int .i64 y.op, .string y.name, .string y.text, .int .i64 y.n, .slice p1 y.args.length q1] rfl rfl ?_ ?_ (by decide) ?_ ?_ ?_ (w1.heap.size + 1) ?_ ?_)
      · exact cell_five_new hb5.out
      · exact five_one _ _ _ _ _ _ _ rfl rfl
      · unfold maxLen; omega
      · omega
      · have := hsz1.out; simp; omega
      · simp
      intro gg cap w5 hown5 hgrow5 hat5 hgl5
      have hbw5 := blk_grownE hgrow5 (hbw.out.alloc _) (fun j e => by have := hrB.out j e; omega)
      have hbP5 := blk_grownE hgrow5 (hbP.out.alloc _) (fun j e => by have := hrP.out j e; omega)
      replace b4 : w5.cell? ⟨w'.heap.size, 4, none⟩ = some (.slice vp k vc) := (hbw5.cell 4).trans rfl
      have b4f : w5.frozen? ⟨w'.heap.size, 4, none⟩ = false := hbw5.fz 4
      replace r0 : w5.cell? ⟨wr.heap.size, 0, none⟩ = some (.int .i64 y.op) := (hbP5.cell 0).trans rfl
      replace r1 : w5.cell? ⟨wr.heap.size, 1, none⟩ = some (.string y.name) := (hbP5.cell 1).trans rfl
      replace r2 : w5.cell? ⟨wr.heap.size, 2, none⟩ = some (.string y.text) := (hbP5.cell 2).trans rfl
      replace r3 : w5.cell? ⟨wr.heap.size, 3, none⟩ = some (.int .i64 y.n) := (hbP5.cell 3).trans rfl
      replace r4 : w5.cell? ⟨wr.heap.size, 4, none⟩ = some (.slice uq y.args.length uc) := (hbP5.cell 4).trans rfl
      have hC5 := Lib.hid (CL.step htl.out (by omega) hus.out hks.out hB1.out hNB.out hrN.out hown5 hgrow5 hat5)
      have hE5 := Lib.hid ((hEb.out.ext ((Ext.refl _).alloc _)).grown hgrow5 (fun j e => by have := hrB.out j e; have := hsz.out; omega))
      replace hbw5 := Lib.hid hbw5
      clear hown5 hgrow5 hat5 hgl5 hbP5
      try go_wp2_with fail
      refine ThenS.mk ⟨r0, r1, r2, r3, r4, b4⟩ (wpTail_cons ?_)
      go_wp2_with fail
      refine ThenS.mk ⟨r0, r1, r2, r3, r4, b4⟩ (wpTail_one ?_)
      go_wp2_with fail
      refine NoPanic.normal ?_
      go_wp2
      go_roundw
      case rel => exact ⟨k + 1, _, by omega, by go_num, hbw5.out.set 4 _, by rw [hsn.out]; exact hC5.out.set (by omega) _, hE5.out.set _ _⟩
      case measure => simp [intOf]; omega
    · have hkk : args.take k = args := List.take_of_length_le (by omega)
      rw [hkk] at hcl
      clear hkk
      obtain ⟨vp, vc, rfl⟩ := hcl.form
      have hbr := hEb.blk hr0.out (by omega)
      have y0 : wr.cell? ⟨w'.heap.size + 1, 0, none⟩ = some (.int .i64 0) := (hbr.cell 0).trans rfl
      have y1 : wr.cell? ⟨w'.heap.size + 1, 1, none⟩ = some (.string ⟨#[]⟩) := (hbr.cell 1).trans rfl
      have y2 : wr.cell? ⟨w'.heap.size + 1, 2, none⟩ = some (.string ⟨#[]⟩) := (hbr.cell 2).trans rfl
      have y3 : wr.cell? ⟨w'.heap.size + 1, 3, none⟩ = some (.int .i64 0) := (hbr.cell 3).trans rfl
      have y4 : wr.cell? ⟨w'.heap.size + 1, 4, none⟩ = some (.slice none 0 0) := (hbr.cell 4).trans rfl
      have f0 := hbr.fz 0
      have f1 := hbr.fz 1
      have f2 := hbr.fz 2
      have f3 := hbr.fz 3
      have f4 := hbr.fz 4
      have x0 : wr.cell? ⟨w'.heap.size, 0, none⟩ = some (.int .i64 op) := (hbw.cell 0).trans rfl
      have x1 : wr.cell? ⟨w'.heap.size, 1, none⟩ = some (.string nm) := (hbw.cell 1).trans rfl
      have x2 : wr.cell? ⟨w'.heap.size, 2, none⟩ = some (.string tx) := (hbw.cell 2).trans rfl
      have x3 : wr.cell? ⟨w'.heap.size, 3, none⟩ = some (.int .i64 n) := (hbw.cell 3).trans rfl
      have x4 : wr.cell? ⟨w'.heap.size, 4, none⟩ = some (.slice vp args.length vc) := (hbw.cell 4).trans rfl
      replace hcl := Lib.hid hcl
      clear hbr hbw hEb
      replace hE := hEr
      go_wp2
      refine bodyPost_ret (v := .agg #[.int .i64 op, .string nm, .string tx, .int .i64 n, .slice vp args.length vc]) (by simp [results, Tryz.results86, go_sem, y0, y1, y2, y3, y4]) rfl ⟨vp, vc, rfl, ?_, (by repeat (first | with_reducible exact Ext.refl _ | with_reducible exact hE0 | with_reducible exact hE | with_reducible refine Ext.alloc ?_ _ | with_reducible refine Ext.drewN ?_ _ | with_reducible refine Ext.drew ?_ | ((with_reducible refine Ext.setCell ?_ ?side _); (case side => first | exact Nat.le_refl _ | (simp; done) | (simp; omega)))))⟩
      refine ((((((hcl.out.set (b := w'.heap.size + 1) (by omega) _).set (b := w'.heap.size + 1) (by omega) _).set (b := w'.heap.size + 1) (by omega) _).set (b := w'.heap.size + 1) (by omega) _).set (b := w'.heap.size + 1) (by omega) _).done).imp fun j hj _ => by omega

end Go.Proofs.YtpdpjindmghfpaaGreatDoor
