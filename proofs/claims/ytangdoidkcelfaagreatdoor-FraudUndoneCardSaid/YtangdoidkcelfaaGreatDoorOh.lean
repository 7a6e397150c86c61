/- The law FraudUndone (walk; printed by gen/h67.py). -/
import Derived.Test.YtangdoidkcelfaaGreatDoorNi
import Derived.Test.YtangdoidkcelfaaGreatDoorNx
import Derived.Test.YtangdoidkcelfaaGreatDoorOw
import Derived.Test.YtangdoidkcelfaaGreatDoorOg
namespace Go.Proofs.YtangdoidkcelfaaGreatDoor
open Go.RowKit Go.Sort
set_option maxRecDepth 8000 in
set_option maxHeartbeats 16000000 in
theorem law_undone (lv : Value) (l : List LUse) (u : LUse) (w : World) (g : Gw w) (hl : LUsM w lv l) (hu : u.gap ≤ 255 ∧ u.card ≤ 255 ∧ u.amt ≤ 65535) : Calls Tryz.prog 6 #[lv, .agg #[.int .u8 u.gap, .int .u8 u.card, .int .u16 u.amt]] w (OneQ (.bool true) w) := by
 have hend := Lib.hid (fun w' (h : Ext w w') => show OneQ (.bool true) w (.returned (.bool true)) w' from ⟨rfl, h⟩)
 generalize OneQ (.bool true) w = PP at *
 obtain ⟨lp, lc, rfl, hbd, hlc⟩ := hl
 replace hlc := Lib.hid hlc
 replace hbd := Lib.hid hbd
 replace g := Lib.hid g
 have b0 := Lib.hid (Blk.new w #[.int .u8 u.gap, .int .u8 u.card, .int .u16 u.amt] 50)
 have hE0 := Lib.hid (show Ext w (w.alloc (.cells #[.int .u8 u.gap, .int .u8 u.card, .int .u16 u.amt] 50)) from xt)
 by_cases h40 : 40 < l.length
 · have q0 : decide (40 < (l.length : Int)) = true := decide_eq_true (by omega)
   clear hbd h40 b0
   go_enter Tryz.func6, Tryz.ntmps6
   go_wp2_with fail
   refine (awake_any _ (g.out.ext (hE0.out))).mono ?_
   rintro e w99 ⟨rfl, hE99⟩
   go_wp2
   try go_ret
   exact hend.out _ ((hE0.out).trans hE99)
 have q0 : decide (40 < (l.length : Int)) = false := decide_eq_false (by omega)
 go_enter Tryz.func6, Tryz.ntmps6
 go_wp2_with fail
 generalize w.alloc (.cells #[.int .u8 u.gap, .int .u8 u.card, .int .u16 u.amt] 50) = w0 at *
 refine (sample_any _).mono ?_
 rintro e w1 ⟨rv, rfl, hR, hE1⟩
 obtain ⟨rp, rc, rfl⟩ : ∃ p c, rv = .slice p 2 c := hR.form
 go_wp2_with fail
 refine (new_any _ samF 50 100 w1 hR samF_parts).mono ?_
 rintro e w2 (⟨h, -⟩ | ⟨-, X, V, uv, vv, rv, tv, rfl, hX, hM, hE2⟩)
 · exact absurd samF_ok h
 have hwX : w0.heap.size ≤ X := Nat.le_trans hE1.size hX
 have hXV := hM.lt
 have hEw := hE1.trans hE2
 have hS0 := UndSt.new
 clear hR hE1 hE2 hX
 generalize newV samF 50 100 = dn at *
 replace hM := Lib.hid hM
 replace hS0 := Lib.hid hS0
 go_wp2_with fail
 go_loopw [7, 8] (fun now i wr => ∃ (k : Nat) (d : EngD) (uv vv : Value), k ≤ l.length ∧ now = .int .i64 (tmL l k) ∧ i = .int .i64 k ∧ EngM wr X V uv vv rv tv d ∧ UndSt d k (tmL l k) ∧ Ext w0 wr) (fun _ i _ => l.length - (intOf i).toNat)
 case atStart => exact ⟨0, _, _, _, Nat.zero_le _, rfl, rfl, hM.out, hS0.out, hEw⟩
 case round =>
  clear hM hS0 hEw q0
  obtain ⟨k, d, uv, vv, hk, rfl, rfl, hM, hS, hEw⟩ := hrel
  rename World => wo
  replace hM := Lib.hid hM
  by_cases hlt : k < l.length
  · obtain ⟨hb1, hb2, hb3⟩ := hbd.out k
    have hTa : 0 ≤ tmL l k ∧ tmL l k + ((l.getD k luD).gap : Int) ≤ 10455 := by
     have := tmL_bd hbd.out k
     omega
    obtain ⟨b, off, rfl, hcs⟩ := hlc.out (by omega)
    obtain ⟨c0, c1, -⟩ := hcs k hlt
    replace c0 := hEw.get (hE0.out.get c0)
    replace c1 := hEw.get (hE0.out.get c1)
    have hT := Lib.hid (show tmL l k + ((l.getD k luD).gap : Int) = tmL l (k + 1) from rfl)
    have hS1 := hS.later (t := tmL l k + ((l.getD k luD).gap : Int)) (by omega)
    clear hS hlc hcs hbd b0
    generalize tmL l k = T0 at *
    generalize (l.getD k luD).gap = G at *
    generalize (l.getD k luD).card = C at *
    have htb : timeB (T0 + (G : Int)) = true := by
     unfold timeB
     rw [decide_eq_true (by omega), decide_eq_true (by omega)]
     rfl
    obtain ⟨c3, hc3⟩ : ∃ c, c = C % 3 := ⟨_, rfl⟩
    have hc33 : c3 < 3 := by omega
    have e4 : ((C : Int)).tmod 3 = (c3 : Int) := by rw [Int.tmod_eq_emod_of_nonneg (by omega)]; omega
    have hR := Lib.hid (hS1.record htb c3 (by omega))
    have hkV := Lib.hid (show keysV d.names (purF c3 5) = [keyC c3] by rw [hS1.names]; exact keys_pur c3 _)
    have hok := Lib.hid hS1.ok
    have hhor := hS1.hor
    clear hc3 hS1 htb
    go_wp2_with fail
    refine (purchase_any c3 5 _ (by omega)).mono ?_
    rintro e w6 ⟨fv, rfl, hF, hE6⟩
    obtain ⟨fp, fc, rfl⟩ : ∃ p c, fv = .slice p 9 c := hF.form
    replace hF := Lib.hid hF
    replace hEw := hEw.trans hE6
    replace hM := Lib.hid (hM.out.ext hE6)
    clear hE6 c0 c1
    go_wp2_with fail
    refine (frecord_any X V uv vv rv tv d (T0 + (G : Int)) _ (purF c3 5) 5 w6 hM.out hok.out.vo hhor hok.out.ns hF.out.feats (purF_txt _ _)).mono ?_
    rintro e w9 ⟨he, uv1, vv1, hM2, hC2⟩
    rw [hkV.out] at he hM2
    rw [hR.out.1] at he
    subst he
    have hS2 := hR.out.2
    rw [hT.out] at hS2 hM2
    replace hM := Lib.hid hM2
    replace hEw := engF_ext hEw hC2 hwX hXV
    replace hS2 := Lib.hid hS2
    generalize (addV d (tmL l (k + 1)) [keyC c3] 5).1 = dn at *
    clear hC2 hM2 hR hkV hok hF
    go_wp2_with fail
    go_roundw
    case rel => exact ⟨k + 1, dn, uv1, vv1, by omega, by rw [hT.out], by go_num, hM.out, hS2.out, hEw⟩
    case measure => simp [intOf]; omega
  · obtain rfl : k = l.length := by omega
    have b1 := b0.out.ext hEw
    have c1 : wo.cell? ⟨w.heap.size, 1, none⟩ = some (.int .u8 u.card) := (b1.cell 1).trans rfl
    have lc1 := b1.lt
    obtain ⟨c3, hc3⟩ : ∃ c, c = u.card % 3 := ⟨_, rfl⟩
    have hc33 : c3 < 3 := by omega
    have e4 : ((u.card : Int)).tmod 3 = (c3 : Int) := by rw [Int.tmod_eq_emod_of_nonneg (by omega)]; omega
    have hTa := tmL_bd hbd.out l.length
    generalize tmL l l.length = T at *
    have htb : timeB T = true := by
     unfold timeB
     rw [decide_eq_true (by omega), decide_eq_true (by omega)]
     rfl
    obtain ⟨A, A', u1, u2, u3, u4, u5, u6, u7, u8⟩ := hS.undone htb c3 (purF c3 2000)
    have hkV : keysV d.names (purF c3 2000) = [keyC c3] := by rw [hS.names]; exact keys_pur c3 _
    have hok := Lib.hid hS.ok
    have hhor := hS.hor
    have h1hor : 1 ≤ (addV d T [keyC c3] 7).1.hor ∧ (addV d T [keyC c3] 7).1.hor ≤ 10000000 := by rw [(addV_keep d T [keyC c3] 7).1]; exact hS.hor
    have hT0 : 0 ≤ T := hTa.1
    have hT9 : T ≤ 10200 := by omega
    clear hc3 hS b1 hTa hlc hbd
    replace hEw := Lib.hid hEw
    replace u4 := Lib.hid u4
    replace u6 := Lib.hid u6
    replace u7 := Lib.hid u7
    go_wp2_with fail
    refine (purchase_any c3 2000 _ (by omega)).mono ?_
    rintro e w6 ⟨fv, rfl, hF, hE6⟩
    obtain ⟨BF, hF⟩ : ∃ B, FtO w6 B fv (purF c3 2000) := ⟨_, hF⟩
    obtain ⟨fp, fc, rfl⟩ : ∃ p c, fv = .slice p 9 c := hF.form
    replace hF := Lib.hid hF
    replace hEw := Lib.hid (hEw.out.trans hE6)
    replace hM := Lib.hid (hM.out.ext hE6)
    clear hE6 c1 lc1
    go_wp2_with fail
    refine (judge_any X V uv vv rv tv d T _ (purF c3 2000) w6 hM.out hok.out hF.out.feats (purF_txt _ _)).mono ?_
    rintro e w7 ⟨hE7, ⟨ht, -⟩ | ⟨-, fa, rfl, hKa, hTa⟩⟩
    · rw [htb] at ht
      cases ht
    obtain ⟨JV, hJ⟩ : ∃ v, v = judgeV d T (purF c3 2000) := ⟨_, rfl⟩
    rw [← hJ] at hKa ⊢
    replace hJ := Lib.hid hJ
    obtain ⟨ap, ac, rfl⟩ : ∃ p c, fa = .slice p JV.fired.length c := by
     obtain ⟨p, c, h, -⟩ := hKa
     exact ⟨p, c, h⟩
    unfold verAgg
    have hjl : JV.fired.length ≤ 1000000 := by
     obtain ⟨p, c, -, h, -⟩ := hKa
     exact h
    replace hEw := Lib.hid (hEw.out.trans hE7)
    replace hM := Lib.hid (hM.out.ext hE7)
    replace hF := Lib.hid (hF.out.ext hE7)
    clear hE7
    have bv := Lib.hid (Blk.new w7 #[.int .i64 JV.act, .int .i64 JV.score, .slice ap JV.fired.length ac] 24)
    have hE8 : Ext w7 (w7.alloc (.cells #[.int .i64 JV.act, .int .i64 JV.score, .slice ap JV.fired.length ac] 24)) := xt
    go_wp2_with fail
    replace hKa := Lib.hid (hKa.ext hE8)
    replace hTa := Lib.hid (hTa.ext hE8)
    replace hEw := Lib.hid (hEw.out.trans hE8)
    replace hM := Lib.hid (hM.out.ext hE8)
    replace hF := Lib.hid (hF.out.ext hE8)
    generalize w7.alloc (.cells #[.int .i64 JV.act, .int .i64 JV.score, .slice ap JV.fired.length ac] 24) = w8 at *
    generalize w7.heap.size = BV at *
    clear hE8
    refine (frecord_any X V uv vv rv tv d T _ (purF c3 2000) 7 w8 hM.out hok.out.vo hhor hok.out.ns hF.out.feats (purF_txt _ _)).mono ?_
    rintro e w9 ⟨he, uv1, vv1, hM2, hC2⟩
    rw [hkV] at he hM2
    rw [u1] at he
    subst he
    generalize (addV d T [keyC c3] 7).1 = d1 at *
    replace hM := Lib.hid hM2
    replace hEw := Lib.hid (engF_ext hEw.out hC2 hwX hXV)
    replace hF := Lib.hid (hF.out.engF hC2)
    replace bv := Lib.hid (bv.out.engF hC2 (by decide) (by decide) (by decide) (by decide))
    have hKT := KysM.engF hKa.out hTa.out hC2
    replace hKa := Lib.hid hKT.1
    replace hTa := Lib.hid hKT.2
    clear hKT
    clear hM2 hC2 hok hhor hkV
    have hk1 : keysV d1.names (purF c3 2000) = [keyC c3] := by rw [u2]; exact keys_pur c3 _
    have hs1 : ∀ s ∈ d1.names, s.length ≤ 1000000 := by
     rw [u2]
     intro s hs
     simp only [List.mem_cons, List.not_mem_nil, or_false] at hs
     subst hs
     decide
    replace hs1 := Lib.hid hs1
    go_wp2_with fail
    refine (fundo_hit X V uv1 vv1 rv tv d1 T _ (purF c3 2000) (keyC c3) 7 A A' w9 hM.out hs1.out hF.out.feats (purF_txt _ _) hk1 u5 u3 u4.out).mono ?_
    rintro e w10 ⟨rfl, uv2, vv2, hM2, hC2⟩
    replace hM := Lib.hid hM2
    replace hEw := Lib.hid (engF_ext hEw.out hC2 hwX hXV)
    replace hF := Lib.hid (hF.out.engF hC2)
    replace bv := Lib.hid (bv.out.engF hC2 (by decide) (by decide) (by decide) (by decide))
    have hKT := KysM.engF hKa.out hTa.out hC2
    replace hKa := Lib.hid hKT.1
    replace hTa := Lib.hid hKT.2
    clear hKT
    clear hM2 hC2
    go_wp2_with fail
    refine (fundo_miss X V uv2 vv2 rv tv (undD d1 A A') T _ (purF c3 2000) (keyC c3) 7 w10 hM.out hs1.out hF.out.feats (purF_txt _ _) hk1 u5).mono ?_
    rintro e w11 ⟨rfl, hE11⟩
    replace hTa := Lib.hid (hTa.out.ext hE11)
    replace hEw := Lib.hid (hEw.out.trans hE11)
    replace hM := Lib.hid (hM.out.ext hE11)
    replace hF := Lib.hid (hF.out.ext hE11)
    replace bv := Lib.hid (bv.out.ext hE11)
    replace hKa := Lib.hid (hKa.out.ext hE11)
    clear hE11
    go_wp2_with fail
    refine (judge_any X V uv2 vv2 rv tv (undD d1 A A') T _ (purF c3 2000) w11 hM.out u6.out hF.out.feats (purF_txt _ _)).mono ?_
    rintro e w12 ⟨hE12, ⟨ht, -⟩ | ⟨-, fb, rfl, hKb, hTb⟩⟩
    · rw [htb] at ht
      cases ht
    rw [u7.out, ← hJ.out] at hKb ⊢
    obtain ⟨bp, bc, rfl⟩ : ∃ p c, fb = .slice p JV.fired.length c := by
     obtain ⟨p, c, h, -⟩ := hKb
     exact ⟨p, c, h⟩
    unfold verAgg
    replace hEw := Lib.hid (hEw.out.trans hE12)
    replace hM := Lib.hid (hM.out.ext hE12)
    replace hF := Lib.hid (hF.out.ext hE12)
    replace bv := Lib.hid (bv.out.ext hE12)
    replace hKa := Lib.hid (hKa.out.ext hE12)
    clear hE12 hTa hTb
    have x0 : w12.cell? ⟨BV, 0, none⟩ = some (.int .i64 JV.act) := (bv.out.cell 0).trans rfl
    have x1 : w12.cell? ⟨BV, 1, none⟩ = some (.int .i64 JV.score) := (bv.out.cell 1).trans rfl
    have x2 : w12.cell? ⟨BV, 2, none⟩ = some (.slice ap JV.fired.length ac) := (bv.out.cell 2).trans rfl
    have lv := bv.out.lt
    have hE13 : Ext w12 (w12.alloc (.cells #[.int .i64 JV.act, .int .i64 JV.score, .slice bp JV.fired.length bc] 24)) := xt
    go_wp2_with fail
    refine (samev_any JV.act JV.score JV.fired _ _ _ (hKa.out.ext hE13) (hKb.ext hE13)).mono ?_
    rintro e w14 ⟨rfl, hE14⟩
    have hE15 := hE13.trans hE14
    replace hEw := Lib.hid (hEw.out.trans hE15)
    replace hM := Lib.hid (hM.out.ext hE15)
    replace hF := Lib.hid (hF.out.ext hE15)
    clear hE13 hE14 hE15 x0 x1 x2 lv hKa hKb bv hJ u7
    by_cases hz : T = 0
    · subst hz
      go_wp2_with fail
      refine (awake_any _ (g.out.ext (hE0.out.trans hEw.out))).mono ?_
      rintro e w99 ⟨rfl, hE99⟩
      go_wp2
      try go_ret
      exact hend.out _ ((hE0.out.trans hEw.out).trans hE99)
    · have q0 : (T == 0) = false := by simpa using hz
      have hra : addV (undD d1 A A') (T - 1) [keyC c3] 7 = (undD d1 A A', 14) := addV_time (Or.inr (by rw [u8]; omega))
      have hvo := u6.out.vo
      have hhh : 1 ≤ (undD d1 A A').hor ∧ (undD d1 A A').hor ≤ 10000000 := h1hor
      go_wp2_with fail
      refine (frecord_any X V uv2 vv2 rv tv (undD d1 A A') (T - 1) _ (purF c3 2000) 7 w14 hM.out hvo hhh hs1.out hF.out.feats (purF_txt _ _)).mono ?_
      rintro e w16 ⟨he, uv3, vv3, -, hC3⟩
      rw [show keysV (undD d1 A A').names (purF c3 2000) = [keyC c3] from hk1, hra] at he
      subst he
      have hE16 := engF_ext hEw.out hC3 hwX hXV
      go_wp2_with fail
      refine (awake_any _ (g.out.ext (hE0.out.trans hE16))).mono ?_
      rintro e w99 ⟨rfl, hE99⟩
      go_wp2
      try go_ret
      exact hend.out _ ((hE0.out.trans hE16).trans hE99)
end Go.Proofs.YtangdoidkcelfaaGreatDoor
