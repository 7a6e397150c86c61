/- The walk of the law AssessTotals behind its first loop (printed by gen/h15.py). -/
import Derived.Test.YtmnhmkjmcckneaaGreatDoorHu
namespace Go.Proofs.YtmnhmkjmcckneaaGreatDoor
open Go.RowKit
set_option maxRecDepth 8000 in
set_option maxHeartbeats 40000000 in
theorem totals_rest (l : List Q4D) (hne : Hid (0 < l.length)) (cut : Int) (w w1 : World) (g : Gw w) (hall : ∀ q ∈ l, Q4Ok q) (h40 : l.length ≤ 40) (hc0 : 0 ≤ cut) (hc1 : cut ≤ 255) (v : Value) (hrs0 : RS w1 w.heap.size v (l.map resQ)) (hE : Ext w w1) (q0 q2 q3 q4 q7 q8 q21 q22 q23 q24 q25 q26 q27 q28 q29 q30 q31 q32 q33 q34 q35 q36 q37 q38 q39 q40 q41 q42 q43 q44 q45 q46 q47 q48 q49 q50 q51 q52 q53 q54 q55 q56 q57 q58 q59 q60 q61 q62 q63 q64 q65 q66 q67 q68 q69 q70 q71 q72 q73 q74 q75 q76 q77 q78 q79 q80 q81 q82 q83 q84 q85 q86 q87 q88 q89 q90 q91 q92 q93 q94 q95 q96 q97 q98 q99 q100 q101 q102 q103 q104 q105 q106 q107 q108 q109 q110 q111 q112 q113 : Value) : Code.wp Tryz.prog codeT38 (bodyPost Tryz.prog Tryz.f7 (OneV (.bool true) w)) ⟨#[q0, .int .u8 cut, q2, q3, q4, v, .slice none 0 0, q7, q8, undef, undef, undef, undef, undef, undef, undef, undef, undef, undef, undef, undef, q21, q22, q23, q24, q25, q26, q27, q28, q29, q30, q31, q32, q33, q34, q35, q36, q37, q38, q39, q40, q41, q42, q43, q44, q45, q46, q47, q48, q49, q50, q51, q52, q53, q54, q55, q56, q57, q58, q59, q60, q61, q62, q63, q64, q65, q66, q67, q68, q69, q70, q71, q72, q73, q74, q75, q76, q77, q78, q79, q80, q81, q82, q83, q84, q85, q86, q87, q88, q89, q90, q91, q92, q93, q94, q95, q96, q97, q98, q99, q100, q101, q102, q103, q104, q105, q106, q107, q108, q109, q110, q111, q112, q113, undef, undef, undef, undef, undef, undef, undef, undef, undef, undef, undef, undef, undef, undef, undef, undef, undef, undef, undef, undef, undef, undef, undef, undef, undef, undef, undef, undef, undef, undef, undef, undef, undef, undef, undef, undef, undef, undef, undef, undef, undef, undef, undef, undef, undef, undef, undef, undef, undef, undef, undef, undef, undef, undef, undef, undef, undef, undef, undef, undef, undef, undef, undef, undef, undef, undef, undef, undef, undef, undef, undef, undef, undef, undef, undef, undef, undef, undef, undef, undef, undef, undef, undef, undef, undef, undef, undef, undef, undef, undef, undef, undef, undef, undef, undef, undef, undef, undef, undef, undef, undef, undef], []⟩ w1 := by
 have kW := Lib.hid (fun w1 (h : Ext w w1) => awake38_any w1 (g.ext h))
 obtain ⟨i0, hi, hz0, hz1, hz2⟩ := info_partsE infoReE
 replace hi := Lib.hid hi
 replace hz0 := Lib.hid hz0
 replace hz1 := Lib.hid hz1
 replace hz2 := Lib.hid hz2
 have hrs := Lib.hid hrs0
 have gw := g
 clear hrs0 g kW
 obtain ⟨c3, hc3⟩ : ∃ c3, c3 = codeU38 := ⟨_, rfl⟩
 change Code.wp _ (plug5 codeT38 codeU38) _ _ _
 rw [← hc3]
 conv => arg 2; whnf
 have hsm := small_resQ hall
 have hl40 : (l.map resQ).length ≤ 40 := by rw [List.length_map]; omega
 have hlen : (l.map resQ).length = l.length := List.length_map _
 have f1 := sums_ok hsm hl40
 have f2 := sums_ok (small_reverse hsm) (by rw [List.length_reverse]; exact hl40)
 have hsT : ∀ m, Small ((l.map resQ).take m) := fun m y hy => hsm y (List.mem_of_mem_take hy)
 have hsD : ∀ m, Small ((l.map resQ).drop m) := fun m y hy => hsm y (List.mem_of_mem_drop hy)
 have f3 := fun m => sums_ok (hsT m) (by rw [List.length_take]; omega)
 have f4 := fun m => sums_ok (hsD m) (by rw [List.length_drop]; omega)
 have f5 := fun m => sums_two hsm hl40 m
 have f6 := bal_resQ hall (by omega)
 have f7 := (zero_resQ l).2
 have f8 : sumR (tot (l.map resQ).reverse) = sumR (tot (l.map resQ)) := sumR_congr fun j _ => tot_reverse _ j
 clear hsT hsD hsm hall
 have hyl := hrs.out.1
 have hpn : Hid (0 < (l.map resQ).length) := Lib.hid (by rw [hlen]; exact hne.out)
 replace f2 := f2.trans (by rw [f8])
 clear f8
 generalize l.map resQ = ys at *
 have hsz : w.heap.size ≤ w1.heap.size := hE.size
 obtain ⟨n, hn⟩ : ∃ n, n = ys.length := ⟨_, rfl⟩
 have hn40 : n ≤ 40 := by omega
 replace f7 := Lib.hid f7
 clear hl40 hlen
 generalize tot ys = S at *
 have e0 : wrap64 ((n : Int) - 1) = (n : Int) - 1 := by unfold wrap64; omega
 have hW1 := Lib.hid (fun w2 (h : Ext w1 w2) => hrs.out.ext h)
 rcases hrs.out.lie with ⟨rfl, hnil⟩ | ⟨g, cap, rfl, hcap, hcm, hcells⟩
 · exact absurd hpn.out (by rw [hnil]; simp)
 · rw [← hn] at hcap hW1 ⊢
   have hpos : n ≤ cap := hcap
   replace hn := Lib.hid hn
   clear hrs
   replace hcells := Lib.hid hcells
   go_wp2_with fail
   go_loopw [6, 9] (fun v i wr => ∃ m : Nat, m ≤ n ∧ i = .int .i64 ((m : Int) - 1) ∧ RS wr w1.heap.size v ((ys.drop m).reverse) ∧ Ext w1 wr) (fun _ i _ => (intOf i + 1).toNat)
   case atStart => exact ⟨n, Nat.le_refl _, by go_num, by rw [show ys.drop n = [] from List.drop_eq_nil_of_le (by have := hn.out; omega)]; exact RS.nil _ _, Ext.refl _⟩
   case round =>
    obtain ⟨m, hm, hiv, hrb, hEr⟩ := hrel
    cases m with
    | zero =>
     have hiv2 : u9 = .int .i64 (-1) := hiv
     subst hiv2
     clear hiv e0
     rw [List.drop_zero] at hrb
     have hMr := Lib.hid hrb.toM
     obtain ⟨bp, bc, hbf⟩ := hrb.form
     rw [List.length_reverse, ← hn.out] at hbf
     subst hbf
     have hE2 := hE.trans hEr
     have hMs := Lib.hid ((hW1.out wr hEr).toM)
     clear hrb hm
     obtain ⟨M, hM⟩ : ∃ M : Nat, M = cut.toNat % (n + 1) := ⟨_, rfl⟩
     have hMn : M ≤ n := by rw [hM]; exact Nat.le_of_lt_succ (Nat.mod_lt _ (by omega))
     have g3 := Lib.hid (show cut % ((n : Int) + 1) = (M : Int) by rw [hM, ← tmod_nat hc0]; exact (Int.tmod_eq_emod_of_nonneg hc0).symm)
     clear hM
     have hMl : M ≤ ys.length := by have := hn.out; omega
     have fp := f3 M
     have fq := f4 M
     have fz := f5 M
     have hMp := Lib.hid (fun w2 (h : Ext wr w2) => part_take (cap := cap) (M := M) hyl hMl hcells.out (hEr.trans h))
     have hMq := Lib.hid (fun w2 c (h : Ext wr w2) => part_drop (c := c) (M := M) hn.out hyl hMn hcells.out (hEr.trans h))
     generalize tot (ys.take M) = P at *
     generalize tot (ys.drop M) = Q at *
     clear f3 f4 f5
     replace g3 := g3.out
     go_wp2_with fail
     refine (sums_at _ ys wr hMs.out f1).mono ?_
     rintro e w2 ⟨rfl, hE3⟩
     have hE4 : Ext wr (w2.alloc (.cells #[.string ⟨#[115, 117, 109]⟩, .int .i64 (S 5), .string ⟨#[]⟩, .string ⟨#[115, 117, 109]⟩, .int .i64 (S 6), .string ⟨#[]⟩, .string ⟨#[115, 117, 109]⟩, .int .i64 (S 7), .string ⟨#[]⟩, .int .i64 (S 0), .int .i64 (S 1), .int .i64 (S 2), .int .i64 (S 3), .int .i64 (S 4)] 35)) := hE3.alloc _
     have bX := Lib.hid (Blk.new w2 #[.string ⟨#[115, 117, 109]⟩, .int .i64 (S 5), .string ⟨#[]⟩, .string ⟨#[115, 117, 109]⟩, .int .i64 (S 6), .string ⟨#[]⟩, .string ⟨#[115, 117, 109]⟩, .int .i64 (S 7), .string ⟨#[]⟩, .int .i64 (S 0), .int .i64 (S 1), .int .i64 (S 2), .int .i64 (S 3), .int .i64 (S 4)] 35)
     go_wp2_with fail
     refine (sums_at _ ys.reverse _ (hMr.out.ext hE4) f2).mono ?_
     rintro e w3 ⟨rfl, hE5⟩
     replace bX := Lib.hid (bX.out.ext hE5)
     replace hE4 := hE4.trans hE5
     clear hE5 hE3
     obtain ⟨BX, hBX⟩ : ∃ BX, BX = w2.heap.size := ⟨_, rfl⟩
     rw [← hBX] at bX ⊢
     clear hBX
     go_wp2_with fail
     have hE5 : Ext wr (w3.alloc (.cells #[.string ⟨#[115, 117, 109]⟩, .int .i64 (S 5), .string ⟨#[]⟩, .string ⟨#[115, 117, 109]⟩, .int .i64 (S 6), .string ⟨#[]⟩, .string ⟨#[115, 117, 109]⟩, .int .i64 (S 7), .string ⟨#[]⟩, .int .i64 (S 0), .int .i64 (S 1), .int .i64 (S 2), .int .i64 (S 3), .int .i64 (S 4)] 35)) := hE4.alloc _
     refine (sums_at _ (ys.take M) _ (hMp.out _ hE5) fp).mono ?_
     rintro e w4 ⟨rfl, hE6⟩
     have bY := Lib.hid ((Blk.new w3 #[.string ⟨#[115, 117, 109]⟩, .int .i64 (S 5), .string ⟨#[]⟩, .string ⟨#[115, 117, 109]⟩, .int .i64 (S 6), .string ⟨#[]⟩, .string ⟨#[115, 117, 109]⟩, .int .i64 (S 7), .string ⟨#[]⟩, .int .i64 (S 0), .int .i64 (S 1), .int .i64 (S 2), .int .i64 (S 3), .int .i64 (S 4)] 35).ext hE6)
     replace bX := Lib.hid ((bX.out.alloc (.cells #[.string ⟨#[115, 117, 109]⟩, .int .i64 (S 5), .string ⟨#[]⟩, .string ⟨#[115, 117, 109]⟩, .int .i64 (S 6), .string ⟨#[]⟩, .string ⟨#[115, 117, 109]⟩, .int .i64 (S 7), .string ⟨#[]⟩, .int .i64 (S 0), .int .i64 (S 1), .int .i64 (S 2), .int .i64 (S 3), .int .i64 (S 4)] 35)).ext hE6)
     replace hE4 := hE5.trans hE6
     clear hE5 hE6
     obtain ⟨BY, hBY⟩ : ∃ BY, BY = w3.heap.size := ⟨_, rfl⟩
     rw [← hBY] at bY ⊢
     clear hBY
     have hE5 : Ext wr (w4.alloc (.cells #[.string ⟨#[115, 117, 109]⟩, .int .i64 (P 5), .string ⟨#[]⟩, .string ⟨#[115, 117, 109]⟩, .int .i64 (P 6), .string ⟨#[]⟩, .string ⟨#[115, 117, 109]⟩, .int .i64 (P 7), .string ⟨#[]⟩, .int .i64 (P 0), .int .i64 (P 1), .int .i64 (P 2), .int .i64 (P 3), .int .i64 (P 4)] 35)) := hE4.alloc _
     have bP := Lib.hid (Blk.new w4 #[.string ⟨#[115, 117, 109]⟩, .int .i64 (P 5), .string ⟨#[]⟩, .string ⟨#[115, 117, 109]⟩, .int .i64 (P 6), .string ⟨#[]⟩, .string ⟨#[115, 117, 109]⟩, .int .i64 (P 7), .string ⟨#[]⟩, .int .i64 (P 0), .int .i64 (P 1), .int .i64 (P 2), .int .i64 (P 3), .int .i64 (P 4)] 35)
     replace bX := Lib.hid (bX.out.alloc (.cells #[.string ⟨#[115, 117, 109]⟩, .int .i64 (P 5), .string ⟨#[]⟩, .string ⟨#[115, 117, 109]⟩, .int .i64 (P 6), .string ⟨#[]⟩, .string ⟨#[115, 117, 109]⟩, .int .i64 (P 7), .string ⟨#[]⟩, .int .i64 (P 0), .int .i64 (P 1), .int .i64 (P 2), .int .i64 (P 3), .int .i64 (P 4)] 35))
     replace bY := Lib.hid (bY.out.alloc (.cells #[.string ⟨#[115, 117, 109]⟩, .int .i64 (P 5), .string ⟨#[]⟩, .string ⟨#[115, 117, 109]⟩, .int .i64 (P 6), .string ⟨#[]⟩, .string ⟨#[115, 117, 109]⟩, .int .i64 (P 7), .string ⟨#[]⟩, .int .i64 (P 0), .int .i64 (P 1), .int .i64 (P 2), .int .i64 (P 3), .int .i64 (P 4)] 35))
     have hC5 := fun i hi => (hcells.out i hi).ext (hEr.trans hE5)
     replace hC5 := Lib.hid hC5
     clear hMp hMq hMs hMr hE4
     go_wp2_with fail
     subst hc3
     exact totals_tail w _ gw (hE2.trans hE5) ys n cap M g hn.out hyl hMn hpos hcm hn40 hC5.out S P Q fq (fz) f6 f7 _ _ _ bX bY bP _ _ _ _ _ _ _ _ _ _ _ _ _ _ _ _ _ _ _ _ _ _ _ _ _ _ _ _ _ _ _ _ _ _ _ _ _ _ _ _ _ _ _ _ _ _ _ _ _ _ _ _ _ _ _ _ _ _ _ _ _ _ _ _ _ _ _ _ _ _ _ _ _ _ _ _ _ _ _ _ _ _ _ _ _ _ _ _ _ _ _ _ _ _ _ _ _ _ _ _ _ _ _ _ _ _ _ _ _ _ _ _ _ _ _ _ _ _ _ _ _ _ _ _ _ _ _ _ _ _ _ _ _ _ _ _ _ _ _ _ _ _ _ _ _ _ _ _ _ _ _ _ _ _ _ _ _ _ _ _ _ _ _ _ _ _ _ _ _ _ _ _ _ _ _ _ _ _ _ _ _ _ _ _ _ _ _ _ _ _ _ _ _ _ _ _ _ _ _ _ _ _ _ _ _ _ _ _
    | succ m =>
     have hiv2 : u9 = .int .i64 (m : Int) := by rw [hiv]; congr 1; omega
     subst hiv2
     clear hiv
     obtain ⟨c0, c1, c2, c3, c4, c5, c6, c7, c8, c9, c10, c11, c12, c13⟩ := (hcells.out m (by have := hn.out; omega)).ext hEr
     have hrv := Lib.hid (rev_drop (ys := ys) (m := m) (by have := hn.out; omega))
     have e1 : wrap64 ((m : Int) - 1) = (m : Int) - 1 := by unfold wrap64; omega
     generalize ys.getD m resD = x at *
     obtain ⟨bp, bc, hbf⟩ := hrb.form
     subst hbf
     have hrow := Lib.hid hrb.2
     have hbl := hrb.1
     have hzl : ((ys.drop (m + 1)).reverse).length ≤ 40 := by have := hn.out; rw [List.length_reverse, List.length_drop]; omega
     have hws := hEr.size
     generalize (ys.drop (m + 1)).reverse = zs at *
     clear hrb
     go_wp2_with (at_builtin; refine wpList_append_lies _ rfl _ _ 57 rfl w1.heap.size 35 i0 (.agg #[.string ⟨#[]⟩, .int .i64 0, .string ⟨#[]⟩, .string ⟨#[]⟩, .int .i64 0, .string ⟨#[]⟩, .string ⟨#[]⟩, .int .i64 0, .string ⟨#[]⟩, .int .i64 0, .int .i64 0, .int .i64 0, .int .i64 0, .int .i64 0]) 14 160 Tryz.underlying57 hi.out hz0.out hz1.out hz2.out rfl (by decide) _ _ _ rfl (ownsRow_extE hrow.out (by repeat (first | with_reducible exact Ext.refl _ | with_reducible refine Ext.alloc ?_ _))) ⟨wr.heap.size, 0, none⟩ 1 1 (resCells x) rfl rfl ?_ ?_ (by decide) ?_ ?_ ?_ (wr.heap.size + 1) ?_ ?_)
     · exact cell_re_new (x := x) (Blk.new' wr _ 35 _ rfl)
     · exact re_one _
     · unfold maxLen; omega
     · omega
     · simp; omega
     · simp
     intro gg gcap w5 hown5 hgrow5 hat5 hgl5
     have hrl5 := Lib.hid (RS.push (ys := zs) (y := x) (by omega) hown5)
     rw [hrv.out] at hrl5
     have hE5 : Ext w1 w5 := Below.grown (hEr.alloc (.cells (resCells x).toArray 35)) hgrow5 (hEr.alloc _).size (fun q hq => (hrow.out.lt q hq).1)
     clear hown5 hgrow5 hat5 hgl5 c0 c1 c2 c3 c4 c5 c6 c7 c8 c9 c10 c11 c12 c13 hrow
     go_wp2
     go_roundw
     case rel => exact ⟨m, by omega, by go_num, hrl5.out, hE5⟩
     case measure => simp [intOf]
end Go.Proofs.YtmnhmkjmcckneaaGreatDoor
