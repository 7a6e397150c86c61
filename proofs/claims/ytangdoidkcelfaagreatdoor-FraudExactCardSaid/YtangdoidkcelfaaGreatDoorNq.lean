/- The law FraudExact (walk; printed by gen/h55.py q). -/
import Derived.Test.YtangdoidkcelfaaGreatDoorNo
import Derived.Test.YtangdoidkcelfaaGreatDoorNl
import Derived.Test.YtangdoidkcelfaaGreatDoorGy
namespace Go.Proofs.YtangdoidkcelfaaGreatDoor
open Go.RowKit Go.Sort
set_option maxRecDepth 8000 in
set_option maxHeartbeats 16000000 in
theorem law_exact (rv : Value) (rs : List FrR) (refer decline now : Int) (fv : Value) (l : List Feat) (w : World) (g : Gw w) (hR : FrsM w rv rs) (hso : ∀ r ∈ rs, StrOk [r.when]) (hF : FeatsL w fv l) (hfn : ∀ i, i < l.length → (l.getD i fD).name.size ≤ 140737488355328) (hfc : ∀ p n c, fv = .slice p n c → n ≤ c) : Calls Tryz.prog 5 #[.agg #[rv, .int .i64 refer, .int .i64 decline], .int .i64 now, fv] w (TrueP w) := by
 have hend := Lib.hid (fun w' (h : Ext w w') => show TrueP w (.returned (.bool true)) w' from ⟨rfl, h⟩)
 generalize TrueP w = PP at *
 have kB := Lib.hid (fun wx (h : Ext w wx) => bounded_any rv rs wx (hR.ext h) hso)
 have kW := Lib.hid (fun wx (h : Ext w wx) => fewf_any fv l wx (hF.ext h))
 obtain ⟨rp, rc, rfl⟩ := hR.form
 obtain ⟨fp, fc, rfl⟩ := hF.form
 have hcap := hfc _ _ _ rfl
 replace hR := Lib.hid hR
 replace hF := Lib.hid hF
 replace g := Lib.hid g
 replace hso := Lib.hid hso
 replace hfn := Lib.hid hfn
 clear hfc
 go_enter Tryz.func5, Tryz.ntmps5
 go_wp2_with fail
 have bG := Lib.hid (Blk.new w #[.slice rp rs.length rc, .int .i64 refer, .int .i64 decline] 57)
 have hE1 : Ext w (w.alloc (.cells #[.slice rp rs.length rc, .int .i64 refer, .int .i64 decline] 57)) := xt
 generalize w.alloc (.cells #[.slice rp rs.length rc, .int .i64 refer, .int .i64 decline] 57) = w1 at *
 generalize w.heap.size = A at *
 refine (kB.out _ hE1).mono ?_
 rintro e w2 ⟨b, rfl, hb, hE2⟩
 have hEb := hE1.trans hE2
 replace bG := Lib.hid (bG.out.ext hE2)
 clear kB hE1 hE2
 rcases b with _ | _
 · clear hb kW
   go_wp2_with fail
   refine (awake_any _ (g.out.ext (hEb))).mono ?_
   rintro e w9 ⟨rfl, hE9⟩
   go_wp2
   try go_ret
   exact hend.out _ ((hEb).trans hE9)
 obtain ⟨hb1, hb2⟩ := hb rfl
 clear hb
 go_wp2_with fail
 refine (kW.out _ hEb).mono ?_
 rintro e w3 ⟨b, rfl, hb, hE3⟩
 replace hEb := hEb.trans hE3
 replace bG := Lib.hid (bG.out.ext hE3)
 clear kW hE3
 rcases b with _ | _
 · clear hb
   go_wp2_with fail
   refine (awake_any _ (g.out.ext (hEb))).mono ?_
   rintro e w9 ⟨rfl, hE9⟩
   go_wp2
   try go_ret
   exact hend.out _ ((hEb).trans hE9)
 obtain ⟨hb3, hT⟩ := hb rfl
 replace hT := Lib.hid hT
 clear hb
 have a0 : w3.cell? ⟨A, 0, none⟩ = some (.slice rp rs.length rc) := (bG.out.cell 0).trans rfl
 have a1 : w3.cell? ⟨A, 1, none⟩ = some (.int .i64 refer) := (bG.out.cell 1).trans rfl
 have a2 : w3.cell? ⟨A, 2, none⟩ = some (.int .i64 decline) := (bG.out.cell 2).trans rfl
 go_wp2_with fail
 refine (new_any _ rs refer decline w3 (hR.out.ext hEb) (by omega)).mono ?_
 rintro e w4 (⟨hne, rfl, hE4⟩ | ⟨hfe, X, V, uv, vv, rv2, tv, rfl, hX, hM, hE4⟩)
 · have q0 : (frE rs refer decline == 0) = false := by simpa using hne
   have hE5 := hEb.trans hE4
   clear bG
   replace hne : ¬ frE rs refer decline = 0 := hne
   generalize frE rs refer decline = ec at *
   go_wp2_with fail
   refine (awake_any _ (g.out.ext (hE5))).mono ?_
   rintro e w9 ⟨rfl, hE9⟩
   go_wp2
   try go_ret
   exact hend.out _ ((hE5).trans hE9)
 replace bG := Lib.hid (bG.out.ext hE4)
 replace hEb := hEb.trans hE4
 have hok := newOk hfe
 replace hM := Lib.hid hM
 clear a0 a1 a2 hE4 hX
 go_wp2_with fail
 refine (tracked_any X V uv vv rv2 tv _ w4 hM.out).mono ?_
 rintro e w5 ⟨q, c2, rfl, hE5⟩
 replace bG := Lib.hid (bG.out.ext hE5)
 replace hEb := hEb.trans hE5
 replace hM := Lib.hid (hM.out.ext hE5)
 clear hE5
 have hnl : (newV rs refer decline).names.length = (trackV rs).length := rfl
 rw [hnl]
 by_cases ht0 : ¬ (trackV rs).length = 0
 · have q0 : decide (0 < ((trackV rs).length : Int)) = true := decide_eq_true (by omega)
   generalize (trackV rs).length = tn at *
   clear bG hM hok hfe
   go_wp2_with fail
   refine (awake_any _ (g.out.ext (hEb))).mono ?_
   rintro e w9 ⟨rfl, hE9⟩
   go_wp2
   try go_ret
   exact hend.out _ ((hEb).trans hE9)
 replace ht0 : (trackV rs).length = 0 := Decidable.not_not.1 ht0
 rw [ht0]
 have htr := List.length_eq_zero_iff.1 ht0
 have hJN := Lib.hid (judge_nil (refer := refer) (decline := decline) (now := now) (l := l) htr)
 have hrg := Lib.hid (frN_range rs [] (frE_formed hfe).2.2.1)
 have h64 := (frE_formed hfe).1
 obtain ⟨-, hrd0, -⟩ := frE_formed hfe
 have hpt : ∀ i, i < rs.length → (rs.getD i frD).when.parts.length ≤ 1000000 := fun i hi => by
  have h1 := parts_mem_len (l := rs) (r := rs.getD i frD) (by rw [List.getD_eq_getElem?_getD, List.getElem?_eq_getElem hi, Option.getD_some]; exact List.getElem_mem hi)
  omega
 replace hpt := Lib.hid hpt
 clear hnl ht0 htr hfe hb2
 go_wp2_with fail
 refine (judge_any X V uv vv rv2 tv _ now _ l w5 hM.out hok ((hF.out.ext hEb).few (by omega)) hT.out).mono ?_
 rintro e w6 ⟨hE6, ⟨htm, rfl⟩ | ⟨-, fa, rfl, hKa, -⟩⟩
 · replace hEb := hEb.trans hE6
   have htm2 : now < 0 ∨ 1099511627776 < now := by
    have h := htm
    unfold timeB at h
    rcases Int.lt_or_le now 0 with h1 | h1
    · exact Or.inl h1
    · right
      rw [decide_eq_true h1, Bool.true_and] at h
      have := of_decide_eq_false h
      omega
   clear htm hM bG hE6 hok
   by_cases h1 : now < 0
   · have q1 : decide (now < 0) = true := decide_eq_true h1
     go_wp2_with fail
     refine (awake_any _ (g.out.ext (hEb.trans xt))).mono ?_
     rintro e w9 ⟨rfl, hE9⟩
     go_wp2
     try go_ret
     exact hend.out _ ((hEb.trans xt).trans hE9)
   · have q1 : decide (now < 0) = false := decide_eq_false h1
     have q2 : decide (1099511627776 < now) = true := decide_eq_true (by omega)
     clear htm2 h1
     go_wp2_with fail
     refine (awake_any _ (g.out.ext (hEb.trans xt))).mono ?_
     rintro e w9 ⟨rfl, hE9⟩
     go_wp2
     try go_ret
     exact hend.out _ ((hEb.trans xt).trans hE9)
 replace hEb := hEb.trans hE6
 replace bG := Lib.hid (bG.out.ext hE6)
 rw [hJN.out] at hKa ⊢
 have hJ0 := Lib.hid (show endV refer decline (verK l nilS rs rs.length) = endV refer decline (verK l nilS rs rs.length) from rfl)
 replace hKa : KysM w6 fa (verK l nilS rs rs.length).fired := hKa
 obtain ⟨fp2, fc2, rfl, -, hKc⟩ := hKa
 replace hKc := Lib.hid hKc
 obtain ⟨JV, hJ⟩ : ∃ v, v = endV refer decline (verK l nilS rs rs.length) := ⟨_, rfl⟩
 rw [← hJ]
 replace hJ := Lib.hid hJ
 unfold verAgg
 have hbd := Lib.hid (verK_bd l nilS rs hrg.out)
 have hvl := (hbd.out rs.length (Nat.le_refl _)).2.2
 clear hJN hJ0 hE6 hM hok hrg
 go_wp2_with fail
 have bV := Lib.hid (Blk.new w6 #[.int .i64 JV.act, .int .i64 JV.score, .slice fp2 (verK l nilS rs rs.length).fired.length fc2] 24)
 have hE7 : Ext w6 (w6.alloc (.cells #[.int .i64 JV.act, .int .i64 JV.score, .slice fp2 (verK l nilS rs rs.length).fired.length fc2] 24)) := xt
 replace hEb := hEb.trans hE7
 replace bG := Lib.hid (bG.out.ext hE7)
 generalize w6.alloc (.cells #[.int .i64 JV.act, .int .i64 JV.score, .slice fp2 (verK l nilS rs rs.length).fired.length fc2] 24) = w7 at *
 generalize w6.heap.size = D at *
 go_loopw [11, 12, 13, 14] (fun n s a i wr => ∃ k : Nat, k ≤ rs.length ∧ n = .int .i64 ((verK l nilS rs k).fired.length : Nat) ∧ s = .int .i64 (verK l nilS rs k).score ∧ a = .int .i64 (verK l nilS rs k).act ∧ i = .int .i64 k ∧ Ext w7 wr) (fun _ _ _ i _ => rs.length - (intOf i).toNat)
 case atStart => exact ⟨0, Nat.zero_le _, rfl, rfl, rfl, rfl, Ext.refl _⟩
 case round =>
  obtain ⟨k, hk, rfl, rfl, rfl, rfl, hE⟩ := hrel
  have hbk := hbd.out k hk
  have hEr := hEb.trans hE
  replace bG := Lib.hid (bG.out.ext hE)
  replace bV := Lib.hid (bV.out.ext hE)
  have a0 : wr.cell? ⟨A, 0, none⟩ = some (.slice rp rs.length rc) := (bG.out.cell 0).trans rfl
  by_cases hlt : k < rs.length
  · have hst := Lib.hid (verK_step l nilS rs k hlt)
    obtain ⟨b, off, rfl, sv, hrs⟩ := hR.out.at (by omega)
    obtain ⟨hc, hxs⟩ := hrs k hlt
    have hmem : rs.getD k frD ∈ rs := by rw [List.getD_eq_getElem?_getD, List.getElem?_eq_getElem hlt, Option.getD_some]; exact List.getElem_mem hlt
    have hk2 := hso.out _ hmem
    have hk3 := hpt.out k hlt
    have hfa := Lib.hid (fun h => fired_at (l := l) (S := nilS) hlt h)
    replace hc := hc.ext hEr
    replace hxs := hxs.ext hEr
    have hno := Lib.hid (stepV_no (l := l) (S := nilS) (v := verK l nilS rs k) (r := rs.getD k frD))
    have hyes := Lib.hid (stepV_yes (l := l) (S := nilS) (v := verK l nilS rs k) (r := rs.getD k frD))
    have hrb := (hbd.out (k + 1) (by omega)).2.1
    clear hrs hmem hend hbd
    generalize rs.getD k frD = r at *
    obtain ⟨uq, uc, hu⟩ := hxs.form
    rw [hu] at hc hxs
    clear hu
    have kV := Lib.hid (fun wx (h : Ext wr wx) => rEval_any r.when (hxs.ext h) hk2 hk3 fp fc l ((hF.out.ext (hEr.trans h)).few (by omega)) hcap hfn.out)
    unfold EvalPost exAgg at kV
    generalize evalV r.when l nilS = EV at *
    generalize stepV l nilS (verK l nilS rs k) r = NV at *
    have hKd := Lib.hid (fun i (hi : i < (verK l nilS rs rs.length).fired.length) => show ∃ b off, fp2 = some ⟨b, off, none⟩ ∧ wr.cell? ⟨b, off + i, none⟩ = some (.string ((verK l nilS rs rs.length).fired.getD i ⟨#[]⟩)) by
     obtain ⟨b, off, h1, h2⟩ := hKc.out (by omega)
     exact ⟨b, off, h1, (hE7.trans hE).get (h2 i hi)⟩)
    generalize (verK l nilS rs rs.length).fired = FL at *
    generalize verK l nilS rs k = VO at *
    obtain ⟨va, vs, vf⟩ := VO
    simp only at hbk hno hyes hfa hst ⊢
    obtain ⟨c0, c1, c2, c3, c4, c5, c6, c7⟩ := hc
    clear hxs hk2 hk3 hKc
    go_wp2_with fail
    refine (kV.out _ (Ext.refl _)).mono ?_
    rintro e w8 ⟨rfl, hE2⟩
    obtain ⟨⟨vn, vk, vi, vt⟩, ev⟩ := EV
    simp only at hno hyes ⊢
    clear kV
    by_cases g1 : ev = 0
    · subst g1
      by_cases g2 : vk = 3
      · subst g2
        by_cases g3 : vi = 1
        · subst g3
          have hN2 := Lib.hid (hyes.out rfl rfl rfl)
          obtain ⟨hf1, hf2⟩ := hfa.out (by rw [hst.out, hN2.out])
          obtain ⟨fb, fo, rfl, hfe⟩ := hKd.out _ hf1
          rw [hf2] at hfe
          rw [hst.out, hN2.out] at hrb
          simp only at hrb
          have e3 : wrap64 (vs + r.score) = vs + r.score := by unfold wrap64; omega
          have q0 : decide ((FL.length : Int) ≤ (vf.length : Int)) = false := decide_eq_false (by omega)
          replace hfe := hE2.get hfe
          replace a0 := hE2.get a0
          replace c0 := hE2.get c0
          replace c6 := hE2.get c6
          replace c7 := hE2.get c7
          have v2 : w8.cell? ⟨D, 2, none⟩ = some (.slice (some ⟨fb, fo, none⟩) FL.length fc2) := ((bV.out.ext hE2).cell 2).trans rfl
          have lD := (bV.out.ext hE2).lt
          have lA := (bG.out.ext hE2).lt
          have lb := cell_lt c0
          have lf := cell_lt hfe
          clear hno hyes hfa hKd hrb c1 c2 c3 c4 c5 hf2
          go_wp2_with fail
          go_quiet (fail)
          go_wp2
          go_roundw
          case rel => exact ⟨k + 1, by omega, by rw [hst.out, hN2.out]; simp, by rw [hst.out, hN2.out, e3], by rw [hst.out, hN2.out], by go_num, (hE.trans hE2).trans xt⟩
          case measure => simp [intOf]; omega
        · have q3 : (vi == 1) = false := by simpa using g3
          have hN2 := Lib.hid (hno.out (by rintro ⟨h1, h2, h3⟩; first | exact g1 h1 | exact g2 h2 | exact g3 h3))
          clear hno hyes hfa hKd hrb
          go_wp2
          go_roundw
          case rel => exact ⟨k + 1, by omega, by rw [hst.out, hN2.out], by rw [hst.out, hN2.out], by rw [hst.out, hN2.out], by go_num, (hE.trans hE2).alloc _⟩
          case measure => simp [intOf]; omega
      · have q2 : (vk == 3) = false := by simpa using g2
        have hN2 := Lib.hid (hno.out (by rintro ⟨h1, h2, h3⟩; first | exact g1 h1 | exact g2 h2 | exact g3 h3))
        clear hno hyes hfa hKd hrb
        go_wp2
        go_roundw
        case rel => exact ⟨k + 1, by omega, by rw [hst.out, hN2.out], by rw [hst.out, hN2.out], by rw [hst.out, hN2.out], by go_num, (hE.trans hE2).alloc _⟩
        case measure => simp [intOf]; omega
    · have q1 : (ev == 0) = false := by simpa using g1
      have hN2 := Lib.hid (hno.out (by rintro ⟨h1, h2, h3⟩; first | exact g1 h1 | exact g2 h2 | exact g3 h3))
      clear hno hyes hfa hKd hrb
      go_wp2
      go_roundw
      case rel => exact ⟨k + 1, by omega, by rw [hst.out, hN2.out], by rw [hst.out, hN2.out], by rw [hst.out, hN2.out], by go_num, (hE.trans hE2).alloc _⟩
      case measure => simp [intOf]; omega
  · obtain rfl : k = rs.length := by omega
    have a1 : wr.cell? ⟨A, 1, none⟩ = some (.int .i64 refer) := (bG.out.cell 1).trans rfl
    have a2 : wr.cell? ⟨A, 2, none⟩ = some (.int .i64 decline) := (bG.out.cell 2).trans rfl
    clear hKc hbd hR hF hso hfn hpt
    generalize verK l nilS rs rs.length = VO at *
    obtain ⟨va, vs, vf⟩ := VO
    simp only at bV hbk hvl
    by_cases g1 : refer ≤ vs
    · by_cases g2 : decline ≤ vs
      · have d1 : decide (refer ≤ vs) = true := decide_eq_true g1
        have d2 : decide (decline ≤ vs) = true := decide_eq_true g2
        have hJ2 : JV = ⟨2, vs, vf⟩ := by rw [hJ.out]; unfold endV; simp only [if_pos g2]
        subst hJ2
        have v0 : wr.cell? ⟨D, 0, none⟩ = some (.int .i64 (2)) := (bV.out.cell 0).trans rfl
        have v1 : wr.cell? ⟨D, 1, none⟩ = some (.int .i64 vs) := (bV.out.cell 1).trans rfl
        have v2 : wr.cell? ⟨D, 2, none⟩ = some (.slice fp2 vf.length fc2) := (bV.out.cell 2).trans rfl
        clear hJ g1 g2
        go_wp2_with fail
        refine (awake_any _ (g.out.ext hEr)).mono ?_
        rintro e w9 ⟨rfl, hE9⟩
        go_wp2
        try go_ret
        exact hend.out _ (hEr.trans hE9)
      · have d1 : decide (refer ≤ vs) = true := decide_eq_true g1
        have d2 : decide (decline ≤ vs) = false := decide_eq_false g2
        have hJ2 : JV = ⟨max va 1, vs, vf⟩ := by rw [hJ.out]; unfold endV; simp only [if_neg g2, if_pos g1]
        subst hJ2
        have v0 : wr.cell? ⟨D, 0, none⟩ = some (.int .i64 (max va 1)) := (bV.out.cell 0).trans rfl
        have v1 : wr.cell? ⟨D, 1, none⟩ = some (.int .i64 vs) := (bV.out.cell 1).trans rfl
        have v2 : wr.cell? ⟨D, 2, none⟩ = some (.slice fp2 vf.length fc2) := (bV.out.cell 2).trans rfl
        clear hJ g1 g2
        go_wp2_with fail
        refine (awake_any _ (g.out.ext hEr)).mono ?_
        rintro e w9 ⟨rfl, hE9⟩
        go_wp2
        try go_ret
        exact hend.out _ (hEr.trans hE9)
    · by_cases g2 : decline ≤ vs
      · have d1 : decide (refer ≤ vs) = false := decide_eq_false g1
        have d2 : decide (decline ≤ vs) = true := decide_eq_true g2
        have hJ2 : JV = ⟨2, vs, vf⟩ := by rw [hJ.out]; unfold endV; simp only [if_pos g2]
        subst hJ2
        have v0 : wr.cell? ⟨D, 0, none⟩ = some (.int .i64 (2)) := (bV.out.cell 0).trans rfl
        have v1 : wr.cell? ⟨D, 1, none⟩ = some (.int .i64 vs) := (bV.out.cell 1).trans rfl
        have v2 : wr.cell? ⟨D, 2, none⟩ = some (.slice fp2 vf.length fc2) := (bV.out.cell 2).trans rfl
        clear hJ g1 g2
        go_wp2_with fail
        refine (awake_any _ (g.out.ext hEr)).mono ?_
        rintro e w9 ⟨rfl, hE9⟩
        go_wp2
        try go_ret
        exact hend.out _ (hEr.trans hE9)
      · have d1 : decide (refer ≤ vs) = false := decide_eq_false g1
        have d2 : decide (decline ≤ vs) = false := decide_eq_false g2
        have hJ2 : JV = ⟨va, vs, vf⟩ := by rw [hJ.out]; unfold endV; simp only [if_neg g2, if_neg g1]
        subst hJ2
        have v0 : wr.cell? ⟨D, 0, none⟩ = some (.int .i64 (va)) := (bV.out.cell 0).trans rfl
        have v1 : wr.cell? ⟨D, 1, none⟩ = some (.int .i64 vs) := (bV.out.cell 1).trans rfl
        have v2 : wr.cell? ⟨D, 2, none⟩ = some (.slice fp2 vf.length fc2) := (bV.out.cell 2).trans rfl
        clear hJ g1 g2
        go_wp2_with fail
        refine (awake_any _ (g.out.ext hEr)).mono ?_
        rintro e w9 ⟨rfl, hE9⟩
        go_wp2
        try go_ret
        exact hend.out _ (hEr.trans hE9)
end Go.Proofs.YtangdoidkcelfaaGreatDoor
