/- Contracts of the reference's Holds, Pick, why, Apply (walks; printed by gen/g10.py). -/
import Derived.Test.YtmoadonepkccbaaGreatDoorGb
import Derived.Test.YtmoadonepkccbaaGreatDoorFlf
import Derived.Test.YtmoadonepkccbaaGreatDoorFe
import Derived.Deep.QuietTactic
namespace Go.Proofs.YtmoadonepkccbaaGreatDoor
open Go.RowKit
/-- What is known of a table and features, for the reference's evaluation. -/
structure EvIn (l : List RuleD) (fs : List Feat) (fc : Nat) : Prop where
  ru : ∀ i, i < l.length → StrOk [(l.getD i rD).when] ∧ (l.getD i rD).when.parts.length ≤ 999999
  cap : fs.length ≤ fc
  nm : ∀ i, i < fs.length → (fs.getD i fD).name.size ≤ 140737488355328
set_option maxRecDepth 8000 in
set_option maxHeartbeats 2000000 in
theorem rholds_any (r : RuleD) (q : Option Addr) (cp : Nat) (fp : Option Addr) (fc : Nat) (fs : List Feat) (w : World) (hX : ExS w (.slice q r.when.args.length cp) r.when.args) (h1 : StrOk [r.when]) (h2 : r.when.parts.length ≤ 999999) (hF : Feats w (.slice fp fs.length fc) fs) (hcap : fs.length ≤ fc) (hs : ∀ i, i < fs.length → (fs.getD i fD).name.size ≤ 140737488355328) : Calls Tryz.prog 47 #[exAgg r.when (.slice q r.when.args.length cp), .slice fp fs.length fc, .slice none 0 0] w (OneV (.bool (holdsB fs r)) w) := by
  have kE := Lib.hid (fun w1 (h : Ext w w1) => rEval_any r.when (hX.ext h) h1 (by omega) fp fc fs (hF.ext h) hcap hs)
  have hiff := holds_iff fs r
  unfold EvalPost at kE
  generalize holdsB fs r = B at *
  generalize evalV r.when fs nilS = V at *
  obtain ⟨f, c⟩ := V
  simp only at kE hiff
  unfold exAgg at kE ⊢
  clear hX hF h1 h2 hs
  go_enter Tryz.func47, Tryz.ntmps47
  go_wp2_with fail
  refine (kE.out _ ((Ext.refl _).alloc _)).mono ?_
  rintro e w1 ⟨rfl, hE1⟩
  have hE : Ext w w1 := Ext.trans ((Ext.refl _).alloc _) hE1
  clear hE1 kE
  by_cases q1 : c = 0
  · subst q1
    by_cases q2 : f.kind = 3
    · by_cases q3 : f.n = 1
      · have hB : B = true := hiff.2 ⟨rfl, q2, q3⟩
        subst hB
        have d2 : (f.kind == 3) = true := by simpa using q2
        have d3 : (f.n == 1) = true := by simpa using q3
        clear q2 q3 hiff
        go_wp2
        go_ret
        exact ⟨rfl, (by repeat (first | with_reducible exact Ext.refl _ | with_reducible exact hE0 | with_reducible exact hE | with_reducible refine Ext.alloc ?_ _ | with_reducible refine Ext.drewN ?_ _ | with_reducible refine Ext.drew ?_ | ((with_reducible refine Ext.setCell ?_ ?side _); (case side => first | exact Nat.le_refl _ | (simp; done) | (simp; omega)))))⟩
      · have hB : B = false := by cases B with | false => rfl | true => exact absurd (hiff.1 rfl).2.2 q3
        subst hB
        have d2 : (f.kind == 3) = true := by simpa using q2
        have d3 : (f.n == 1) = false := by simpa using q3
        clear q2 q3 hiff
        go_wp2
        go_ret
        exact ⟨rfl, (by repeat (first | with_reducible exact Ext.refl _ | with_reducible exact hE0 | with_reducible exact hE | with_reducible refine Ext.alloc ?_ _ | with_reducible refine Ext.drewN ?_ _ | with_reducible refine Ext.drew ?_ | ((with_reducible refine Ext.setCell ?_ ?side _); (case side => first | exact Nat.le_refl _ | (simp; done) | (simp; omega)))))⟩
    · have hB : B = false := by cases B with | false => rfl | true => exact absurd (hiff.1 rfl).2.1 q2
      subst hB
      have d2 : (f.kind == 3) = false := by simpa using q2
      clear q2 hiff
      go_wp2
      go_ret
      exact ⟨rfl, (by repeat (first | with_reducible exact Ext.refl _ | with_reducible exact hE0 | with_reducible exact hE | with_reducible refine Ext.alloc ?_ _ | with_reducible refine Ext.drewN ?_ _ | with_reducible refine Ext.drew ?_ | ((with_reducible refine Ext.setCell ?_ ?side _); (case side => first | exact Nat.le_refl _ | (simp; done) | (simp; omega)))))⟩
  · have hB : B = false := by cases B with | false => rfl | true => exact absurd (hiff.1 rfl).1 q1
    subst hB
    have d1 : (c == 0) = false := by simpa using q1
    clear q1 hiff
    go_wp2
    go_ret
    exact ⟨rfl, (by repeat (first | with_reducible exact Ext.refl _ | with_reducible exact hE0 | with_reducible exact hE | with_reducible refine Ext.alloc ?_ _ | with_reducible refine Ext.drewN ?_ _ | with_reducible refine Ext.drew ?_ | ((with_reducible refine Ext.setCell ?_ ?side _); (case side => first | exact Nat.le_refl _ | (simp; done) | (simp; omega)))))⟩
theorem pairP {R : Int × Int} {a b : Int} {w w' : World} (h : R = (a, b)) (hE : Ext w w') : PairP R w (.returned (.tuple #[.int .i64 a, .int .i64 b])) w' := by subst h; exact ⟨rfl, hE⟩
set_option maxRecDepth 8000 in
set_option maxHeartbeats 2000000 in
theorem rpick_any (lv : Value) (fp : Option Addr) (fc : Nat) (l : List RuleD) (fs : List Feat) (w : World) (hR : RulesM w lv l) (hI : EvIn l fs fc) (hF : Feats w (.slice fp fs.length fc) fs) (hl : l.length ≤ 1000000) : Calls Tryz.prog 15 #[lv, .slice fp fs.length fc] w (PairP (pickV l fs) w) := by
  obtain ⟨lp, lc, rfl⟩ := hR.form
  obtain ⟨R, hRR⟩ : ∃ R, R = pickV l fs := ⟨_, rfl⟩
  rw [← hRR]
  have hs : R = match idxF (holdsB fs) 0 l with | some i => ((i : Int), 0) | none => (0, 6) := hRR
  clear hRR
  replace hR := Lib.hid hR
  replace hF := Lib.hid hF
  go_enter Tryz.func15, Tryz.ntmps15
  go_wp2_with fail
  go_loopw [6] (fun i wr => ∃ k : Nat, k ≤ l.length ∧ i = .int .i64 k ∧ idxF (holdsB fs) 0 l = idxF (holdsB fs) k (l.drop k) ∧ Ext w wr) (fun i _ => l.length - (intOf i).toNat)
  case atStart => exact ⟨0, Nat.zero_le _, rfl, rfl, Ext.refl _⟩
  case round =>
    obtain ⟨k, hk, rfl, hidx, hE⟩ := hrel
    by_cases hlt : k < l.length
    · rw [idx_step (holdsB fs) l k hlt] at hidx
      obtain ⟨b, off, rfl, sv, hkid⟩ := hR.out.at (by omega)
      obtain ⟨hc, hsu⟩ := hkid k hlt
      obtain ⟨-, h1, h2, h3, h4, h5, -, -, -, -⟩ := hc.ext hE
      replace hsu := hsu.ext hE
      obtain ⟨uq, uc, huv⟩ := hsu.form
      obtain ⟨i1, i2⟩ := hI.ru k hlt
      clear hc hkid
      generalize l.getD k rD = r at *
      rw [huv] at h5 hsu
      clear huv
      have kH := Lib.hid (rholds_any r uq uc fp fc fs wr hsu i1 i2 (hF.out.ext hE) hI.cap hI.nm)
      unfold exAgg at kH
      have hbl : b < wr.heap.size := cell_lt h1
      clear hsu i1 i2
      cases hb : holdsB fs r with
      | true =>
        rw [hb] at kH
        have hR2 := Lib.hid (show R = ((k : Int), 0) by rw [hs, hidx, if_pos hb])
        clear hidx hb hs
        go_wp2_with fail
        refine kH.out.mono ?_
        rintro e w1 ⟨rfl, hE1⟩
        replace hE := hE.trans hE1
        clear hE1 kH h1 h2 h3 h4 h5 hbl
        go_wp2
        go_ret2
        exact pairP hR2.out hE
      | false =>
        rw [hb] at kH
        have hn := Lib.hid (show idxF (holdsB fs) 0 l = idxF (holdsB fs) (k + 1) (l.drop (k + 1)) by rw [hidx, if_neg (by rw [hb]; simp)])
        clear hidx hb
        go_wp2_with fail
        refine kH.out.mono ?_
        rintro e w1 ⟨rfl, hE1⟩
        replace hE := hE.trans hE1
        clear hE1 kH h1 h2 h3 h4 h5 hbl
        go_wp2
        go_roundw
        case rel => exact ⟨k + 1, by omega, by go_num, hn.out, hE⟩
        case measure => simp [intOf]; omega
    · have hk2 : k = l.length := by omega
      have hd : l.drop k = [] := by rw [hk2]; exact List.drop_length
      rw [hd] at hidx
      have hR2 := Lib.hid (show R = (0, 6) by rw [hs, hidx]; rfl)
      clear hd hk2 hidx hs
      go_wp2
      go_ret2
      exact pairP hR2.out hE
set_option maxRecDepth 8000 in
set_option maxHeartbeats 4000000 in
theorem rapply_any (lv : Value) (fp : Option Addr) (fc : Nat) (l : List RuleD) (fs : List Feat) (n : Int) (w : World) (g : Gw w) (hR : RulesM w lv l) (hF : Feats w (.slice fp fs.length fc) fs) (hok : TabOk l fs) (hI : EvIn l fs fc) (hl : l.length ≤ 1000000) : Calls Tryz.prog 17 #[lv, .slice fp fs.length fc, .int .i64 n] w (LineP (applyV l fs n) w) := by
  have kP := Lib.hid (fun w1 (h : Ext w w1) => rpick_any lv fp fc l fs w1 (hR.ext h) hI (hF.ext h) hl)
  obtain ⟨lp, lc, rfl⟩ := hR.form
  unfold pickV at kP
  have hidx := idx_some (holdsB fs) l 0
  obtain ⟨R, hRR⟩ : ∃ R, R = applyV l fs n := ⟨_, rfl⟩
  rw [← hRR]
  unfold applyV at hRR
  generalize idxF (holdsB fs) 0 l = I at *
  replace hRR := Lib.hid hRR
  replace hidx := Lib.hid hidx
  replace hR := Lib.hid hR
  replace hF := Lib.hid hF
  replace g := Lib.hid g
  go_enter Tryz.func17, Tryz.ntmps17
  go_wp2_with fail
  refine (kP.out _ (by repeat (first | with_reducible exact Ext.refl _ | with_reducible exact hE0 | with_reducible exact hE | with_reducible refine Ext.alloc ?_ _ | with_reducible refine Ext.drewN ?_ _ | with_reducible refine Ext.drew ?_ | ((with_reducible refine Ext.setCell ?_ ?side _); (case side => first | exact Nat.le_refl _ | (simp; done) | (simp; omega)))))).mono ?_
  rintro e w1 ⟨rfl, hE1⟩
  have hb := Blk.ext (Blk.new w #[.string ⟨#[]⟩, .int .i64 0, .string ⟨#[]⟩] 30) hE1
  have hE : Ext w w1 := Ext.trans (by repeat (first | with_reducible exact Ext.refl _ | with_reducible exact hE0 | with_reducible exact hE | with_reducible refine Ext.alloc ?_ _ | with_reducible refine Ext.drewN ?_ _ | with_reducible refine Ext.drew ?_ | ((with_reducible refine Ext.setCell ?_ ?side _); (case side => first | exact Nat.le_refl _ | (simp; done) | (simp; omega))))) hE1
  clear hE1 kP
  replace hb := Lib.hid hb
  cases I with
  | none =>
    replace hRR : Hid (R = (lineD, 6)) := Lib.hid hRR.out
    have x0 := hb.out.cell 0
    have x1 := hb.out.cell 1
    have x2 := hb.out.cell 2
    have f0 := hb.out.fz 0
    have f1 := hb.out.fz 1
    have f2 := hb.out.fz 2
    simp at x0 x1 x2
    go_wp2
    exact bodyPost_ret (v := .tuple #[.agg #[.string ⟨#[]⟩, .int .i64 0, .string ⟨#[]⟩], .int .i64 6]) (by first | (simp [results, Tryz.results17, go_sem, x0, x1, x2]; done) | simp [results, Tryz.results17, go_sem]) rfl (lineP (a := ⟨#[]⟩) (b := 0) (c := ⟨#[]⟩) hRR.out (by repeat (first | with_reducible exact Ext.refl _ | with_reducible exact hE0 | with_reducible exact hE | with_reducible refine Ext.alloc ?_ _ | with_reducible refine Ext.drewN ?_ _ | with_reducible refine Ext.drew ?_ | ((with_reducible refine Ext.setCell ?_ ?side _); (case side => first | exact Nat.le_refl _ | (simp; done) | (simp; omega))))))
  | some i =>
    have hRR2 := hRR.out
    clear hRR
    simp only at hRR2
    obtain ⟨-, hi, -, -⟩ := hidx.out i rfl
    have hil : i < l.length := by omega
    obtain ⟨b, off, rfl, sv, hkid⟩ := hR.out.at (by omega)
    obtain ⟨hc, hsu⟩ := hkid i hil
    have bw : b < w.heap.size := cell_lt hc.1
    replace hsu := hsu.ext hE
    obtain ⟨h0, h1, h2, h3, h4, h5, h6, h7, h8, h9⟩ := hc.ext hE
    have hpl := (hI.ru i hil).2
    have hwo := hok.why i hil
    obtain ⟨uq, uc, huv⟩ := hsu.form
    clear hc hkid hidx
    generalize l.getD i rD = r at *
    rw [huv] at hsu h5
    clear huv
    have kF := Lib.hid (fun w2 => rfee_any r uq r.when.args.length uc n w2)
    unfold FeePost at kF
    replace hsu := Lib.hid hsu
    generalize hfv : feeV r n = V at *
    obtain ⟨fee, fe⟩ := V
    simp only at kF hRR2
    replace hRR2 := Lib.hid hRR2
    unfold ruleAgg at kF
    have bl : b < w1.heap.size := cell_lt h0
    go_wp2_with fail
    refine (kF.out _).mono ?_
    rintro e w2 ⟨rfl, hE2⟩
    replace hsu := Lib.hid (hsu.out.ext hE2)
    replace hb := Lib.hid (hb.out.ext hE2)
    replace hE := hE.trans hE2
    replace h0 := hE2.get h0
    replace h1 := hE2.get h1
    replace h2 := hE2.get h2
    replace h3 := hE2.get h3
    replace h4 := hE2.get h4
    replace h5 := hE2.get h5
    clear hE2 kF h6 h7 h8 h9 bl
    have x0 := hb.out.cell 0
    have x1 := hb.out.cell 1
    have x2 := hb.out.cell 2
    have f0 := hb.out.fz 0
    have f1 := hb.out.fz 1
    have f2 := hb.out.fz 2
    simp at x0 x1 x2
    by_cases hfe : fe ≠ 0
    · have d : (fe != 0) = true := by simpa using hfe
      have hRR := Lib.hid (hRR2.out.trans (if_pos hfe))
      clear hRR2
      go_wp2
      exact bodyPost_ret (v := .tuple #[.agg #[.string ⟨#[]⟩, .int .i64 0, .string ⟨#[]⟩], .int .i64 fe]) (by first | (simp [results, Tryz.results17, go_sem, x0, x1, x2]; done) | simp [results, Tryz.results17, go_sem]) rfl (lineP (a := ⟨#[]⟩) (b := 0) (c := ⟨#[]⟩) hRR.out (by repeat (first | with_reducible exact Ext.refl _ | with_reducible exact hE0 | with_reducible exact hE | with_reducible refine Ext.alloc ?_ _ | with_reducible refine Ext.drewN ?_ _ | with_reducible refine Ext.drew ?_ | ((with_reducible refine Ext.setCell ?_ ?side _); (case side => first | exact Nat.le_refl _ | (simp; done) | (simp; omega))))))
    · obtain rfl : fe = 0 := by omega
      have hRR := Lib.hid (hRR2.out.trans (if_neg hfe))
      clear hRR2
      have kW := Lib.hid (fun w3 g3 h3 h4 => rwhy_any r.when uq uc (.slice fp fs.length fc) fs w3 g3 h3 h4 hpl hwo)
      generalize whyV fs (uniL r.when.occ) = ws at *
      unfold exAgg at kW
      go_wp2_with fail
      have g2 := Lib.hid (g.out.ext hE)
      have hF2 := Lib.hid (hF.out.ext hE)
      have hE0 := hE
      have xs : w.heap.size < w2.heap.size := cell_lt x0
      clear hE
      go_region_held3 (fun w' => w'.cell? ⟨b, off + i * 10, none⟩ = some (.string r.name) ∧ w'.cell? ⟨b, off + i * 10 + 1, none⟩ = some (.int .i64 r.when.op) ∧ w'.cell? ⟨b, off + i * 10 + 1 + 1, none⟩ = some (.string r.when.name) ∧ w'.cell? ⟨b, off + i * 10 + 1 + 1 + 1, none⟩ = some (.string r.when.text) ∧ w'.cell? ⟨b, off + i * 10 + 1 + 1 + 1 + 1, none⟩ = some (.int .i64 r.when.n) ∧ w'.cell? ⟨b, off + i * 10 + 1 + 1 + 1 + 1 + 1, none⟩ = some (.slice uq r.when.args.length uc)) (first | exact ⟨h0, h1, h2, h3, h4, h5⟩ | exact ⟨(World.cell?_setCell_far _ _ _ _ (by first | (simp; done) | (simp; omega))).trans ((World.cell?_setCell_far _ _ _ _ (by first | (simp; done) | (simp; omega))).trans ((World.cell?_setCell_far _ _ _ _ (by first | (simp; done) | (simp; omega))).trans h0)), (World.cell?_setCell_far _ _ _ _ (by first | (simp; done) | (simp; omega))).trans ((World.cell?_setCell_far _ _ _ _ (by first | (simp; done) | (simp; omega))).trans ((World.cell?_setCell_far _ _ _ _ (by first | (simp; done) | (simp; omega))).trans h1)), (World.cell?_setCell_far _ _ _ _ (by first | (simp; done) | (simp; omega))).trans ((World.cell?_setCell_far _ _ _ _ (by first | (simp; done) | (simp; omega))).trans ((World.cell?_setCell_far _ _ _ _ (by first | (simp; done) | (simp; omega))).trans h2)), (World.cell?_setCell_far _ _ _ _ (by first | (simp; done) | (simp; omega))).trans ((World.cell?_setCell_far _ _ _ _ (by first | (simp; done) | (simp; omega))).trans ((World.cell?_setCell_far _ _ _ _ (by first | (simp; done) | (simp; omega))).trans h3)), (World.cell?_setCell_far _ _ _ _ (by first | (simp; done) | (simp; omega))).trans ((World.cell?_setCell_far _ _ _ _ (by first | (simp; done) | (simp; omega))).trans ((World.cell?_setCell_far _ _ _ _ (by first | (simp; done) | (simp; omega))).trans h4)), (World.cell?_setCell_far _ _ _ _ (by first | (simp; done) | (simp; omega))).trans ((World.cell?_setCell_far _ _ _ _ (by first | (simp; done) | (simp; omega))).trans ((World.cell?_setCell_far _ _ _ _ (by first | (simp; done) | (simp; omega))).trans h5))⟩) ((go_at_call 51; ((refine (kW.out _ (by first | exact g2.out | exact g2.out.ext (Ext.refl _).drew) (by first | exact hF2.out | exact hF2.out.ext (Ext.refl _).drew) (by first | exact hsu.out | exact hsu.out.ext (Ext.refl _).drew)).mono ?_); rintro e w6 ⟨rfl, hE6⟩; have hS := ext_at hE0 (by first | exact hE6 | exact Ext.undrew hE6); have hE0 := hE0.trans hS; have h0 := hS.get h0; have h1 := hS.get h1; have h2 := hS.get h2; have h3 := hS.get h3; have h4 := hS.get h4; have h5 := hS.get h5; have f0 := hS.fz xs f0; have f1 := hS.fz xs f1; have f2 := hS.fz xs f2; have x0 := hS.get x0; have x1 := hS.get x1; have x2 := hS.get x2; have xs := cell_lt x0; clear hE6 hS)))
      all_goals go_wp2
      all_goals exact bodyPost_ret (v := .tuple #[.agg #[.string r.name, .int .i64 fee, .string ws], .int .i64 0]) (by first | (simp [results, Tryz.results17, go_sem, x0, x1, x2]; done) | simp [results, Tryz.results17, go_sem]) rfl (lineP hRR.out (by repeat (first | with_reducible exact Ext.refl _ | with_reducible exact hE0 | with_reducible exact hE | with_reducible refine Ext.alloc ?_ _ | with_reducible refine Ext.drewN ?_ _ | with_reducible refine Ext.drew ?_ | ((with_reducible refine Ext.setCell ?_ ?side _); (case side => first | exact Nat.le_refl _ | (simp; done) | (simp; omega))))))
set_option maxRecDepth 8000 in
set_option maxHeartbeats 4000000 in
theorem law_applies (lv : Value) (l : List RuleD) (fv : Value) (fs : List Feat) (n : Int) (w : World) (g : Gw w) (hR : RulesM w lv l) (hO : RuOk lv l) (hF : FeatsL w fv fs) (hFi : FtIn fv fs) (_ : (Lit.int .i64 n).wf = true) : Calls Tryz.prog 3 #[lv, fv, .int .i64 n] w (OneV (.bool true) w) := by
  have kB := Lib.hid (bounded_any lv fv l fs w hR hO.at hF hFi.at)
  obtain ⟨lp, lc, rfl⟩ := hR.form
  obtain ⟨fp, fc, rfl⟩ := hF.form
  have hcap := hFi.caps
  unfold BdPost at kB
  have hRo := Lib.hid hO.at
  replace hR := Lib.hid hR
  replace hF := Lib.hid hF
  replace hFi := Lib.hid hFi
  replace g := Lib.hid g
  go_enter Tryz.func3, Tryz.ntmps3
  go_wp2_with fail
  refine kB.out.mono ?_
  rintro e w1 ⟨b, rfl, hb, hE⟩
  clear kB
  cases b with
  | false =>
    clear hb
    have kW := Lib.hid (awake_any w1 (g.out.ext hE))
    go_wp2_with fail
    refine kW.out.mono ?_
    rintro e w2 ⟨rfl, hE2⟩
    replace hE := hE.trans hE2
    clear hE2 kW
    go_wp2
    go_ret
    exact ⟨rfl, hE⟩
  | true =>
    have hbd := hb rfl
    have htab := bd_tab hbd hFi.out
    have hF2 := hF.out.few (by have := hbd.ffew; omega)
    have hI : EvIn l fs fc := ⟨fun i hi => ⟨(hRo.out i hi).1, by have := hbd.parts i hi; omega⟩, hcap, fun i hi => (hFi.out.at i hi).1⟩
    have hl := hbd.few
    have kP := Lib.hid (fun w2 (h : Ext w w2) => pick_any (.slice lp l.length lc) (.slice fp fs.length fc) l fs w2 (hR.out.ext h) (hF2.ext h))
    have kP2 := Lib.hid (fun w2 (h : Ext w w2) => rpick_any (.slice lp l.length lc) fp fc l fs w2 (hR.out.ext h) hI (hF2.ext h) (by omega))
    have kA := Lib.hid (fun w2 (h : Ext w w2) => apply_any (.slice lp l.length lc) (.slice fp fs.length fc) l fs n w2 (g.out.ext h) (hR.out.ext h) (hF2.ext h) htab)
    have kA2 := Lib.hid (fun w2 (h : Ext w w2) => rapply_any (.slice lp l.length lc) fp fc l fs n w2 (g.out.ext h) (hR.out.ext h) (hF2.ext h) htab hI (by omega))
    have kW := Lib.hid (fun w2 (h : Ext w w2) => awake_any w2 (g.out.ext h))
    unfold LineP at kA kA2
    unfold PairP at kP kP2
    generalize pickV l fs = PV at *
    obtain ⟨p1, p2⟩ := PV
    generalize applyV l fs n = AV at *
    obtain ⟨⟨ar, aa, aw⟩, ac⟩ := AV
    simp only at kA kA2 kP kP2
    clear hb hbd htab hI hF2
    go_wp2_with fail
    refine (kP.out _ hE).mono ?_
    rintro e w2 ⟨rfl, hE2⟩
    replace hE := hE.trans hE2
    clear hE2 kP
    go_wp2_with fail
    refine (kP2.out _ hE).mono ?_
    rintro e w3 ⟨rfl, hE3⟩
    replace hE := hE.trans hE3
    clear hE3 kP2
    go_wp2_with fail
    refine (kA.out _ hE).mono ?_
    rintro e w4 ⟨rfl, hE4⟩
    replace hE := hE.trans hE4
    clear hE4 kA
    go_wp2_with fail
    have hB := Blk.new w4 #[.string ar, .int .i64 aa, .string aw] 30
    have hEa : Ext w4 (w4.alloc (.cells #[.string ar, .int .i64 aa, .string aw] 30)) := (Ext.refl _).alloc _
    refine (kA2.out _ (hE.trans hEa)).mono ?_
    rintro e w5 ⟨rfl, hE5⟩
    replace hB := hB.ext hE5
    replace hE := hE.trans (hEa.trans hE5)
    have x0 := hB.cell 0
    have x1 := hB.cell 1
    have x2 := hB.cell 2
    simp at x0 x1 x2
    have xs : w4.heap.size < w5.heap.size := hB.lt
    clear hE5 hEa kA2 hB
    go_wp2_with fail
    refine (kW.out _ (hE.alloc _)).mono ?_
    rintro e w7 ⟨rfl, hE7⟩
    replace hE := (hE.alloc _).trans hE7
    clear hE7 kW x0 x1 x2 xs
    go_wp2
    go_ret
    exact ⟨rfl, hE⟩
end Go.Proofs.YtmoadonepkccbaaGreatDoor
