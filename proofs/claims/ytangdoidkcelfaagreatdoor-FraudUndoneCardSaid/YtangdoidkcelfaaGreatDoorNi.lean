/- The contract of law 26's awake (walk; printed by gen/h49.py i). -/
import Derived.Test.YtangdoidkcelfaaGreatDoorNh
namespace Go.Proofs.YtangdoidkcelfaaGreatDoor
open Go.RowKit Go.Sort
def AwkP (w : World) (e : Ending) (w' : World) : Prop := e = .returned (.bool true) ∧ Ext w w'
theorem expl_lit {v : VerD} {l : List UInt8} {fv : Value} {w : World} (g : Gw w) (hK : KysM w fv v.fired) (hl : explV v = l) (h0 : 0 ≤ v.score ∧ v.score ≤ 1000000) (h1 : v.fired.length ≤ 1000) (h2 : ∀ s ∈ v.fired, s.size ≤ 1000000) : Calls Tryz.prog 8 #[.agg #[.int .i64 v.act, .int .i64 v.score, fv]] w fun e w' => e = .returned (.string ⟨l.toArray⟩) ∧ Ext w w' :=
 (frexplain_any v fv w g hK (by omega) (by omega) h1 h2).mono fun e w' ⟨r, he, hr, hE⟩ => ⟨by rw [he, str_of (hr.trans hl)], hE⟩
theorem aw_ok0 : EngOk awD0 := newOk samF_ok
theorem aw_ok1 : EngOk awD1 := addV_ok2 aw_ok0
theorem aw_ok2 : EngOk awD2 := addV_ok2 aw_ok1
theorem aw_hor1 : 1 ≤ awD1.hor ∧ awD1.hor ≤ 10000000 := by unfold awD1; rw [(addV_keep _ _ _ _).1]; exact newHor samF_ok
set_option maxRecDepth 8000 in
set_option maxHeartbeats 8000000 in
theorem awake_any (w : World) (g : Gw w) : Calls Tryz.prog 7 #[] w (AwkP w) := by
 have kP : ∀ w1, Calls Tryz.prog 14 #[.int .u8 1, .int .i64 2000] w1 (PurP 1 2000 w1) := fun w1 => purchase_any 1 2000 w1 (by decide)
 have hend := Lib.hid (fun w' (h : Ext w w') => show AwkP w (.returned (.bool true)) w' from ⟨rfl, h⟩)
 generalize AwkP w = PP at *
 replace g := Lib.hid g
 replace kP := Lib.hid kP
 go_enter Tryz.func7, Tryz.ntmps7
 go_wp2_with fail
 refine (sample_any _).mono ?_
 rintro e w1 ⟨rv, rfl, hR, hE1⟩
 obtain ⟨rp, rc, rfl⟩ : ∃ p c, rv = .slice p 2 c := hR.form
 go_wp2_with fail
 refine (new_any _ samF 50 100 w1 hR samF_parts).mono ?_
 rintro e w2 (⟨h, -⟩ | ⟨-, X, V, uv, vv, rv, tv, rfl, hX, hM, hE2⟩)
 · exact absurd samF_ok h
 have hwX : w.heap.size ≤ X := Nat.le_trans hE1.size hX
 have hXV := hM.lt
 have hEw := Lib.hid (hE1.trans hE2)
 clear hR hE1 hE2 hX
 replace hM := Lib.hid hM
 go_wp2_with fail
 refine (kP.out _).mono ?_
 rintro e w3 ⟨fv, rfl, hF, hE3⟩
 obtain ⟨fp, fc, rfl⟩ : ∃ p c, fv = .slice p 9 c := hF.form
 replace hM := Lib.hid (hM.out.ext hE3)
 replace hEw := Lib.hid (hEw.out.trans hE3)
 replace hF := Lib.hid hF
 clear kP hE3
 go_wp2_with fail
 refine (judge_any X V uv vv rv tv awD0 0 _ (purF 1 2000) w3 hM.out aw_ok0 hF.out.feats (purF_txt _ _)).mono ?_
 rintro e w4 ⟨hE4, ⟨ht, -⟩ | ⟨-, fa, rfl, hKa, hTa⟩⟩
 · exact absurd ht (by decide)
 rw [aw_v0] at hKa ⊢
 obtain ⟨ap, ac, rfl⟩ : ∃ p c, fa = .slice p 1 c := by
  obtain ⟨p, c, h, -⟩ := hKa
  exact ⟨p, c, h⟩
 unfold verAgg
 replace hM := Lib.hid (hM.out.ext hE4)
 replace hEw := Lib.hid (hEw.out.trans hE4)
 replace hF := Lib.hid (hF.out.ext hE4)
 have hKa := Lib.hid hKa
 have hTa := Lib.hid hTa
 clear hE4
 go_wp2_with fail
 have ba := Lib.hid (Blk.new w4 #[.int .i64 1, .int .i64 80, .slice ap 1 ac] 24)
 have hE : Ext w4 (w4.alloc (.cells #[.int .i64 1, .int .i64 80, .slice ap 1 ac] 24)) := xt
 replace hM := Lib.hid (hM.out.ext hE)
 replace hF := Lib.hid (hF.out.ext hE)
 replace hKa := Lib.hid (hKa.out.ext hE)
 replace hTa := Lib.hid (hTa.out.ext hE)
 replace hEw := Lib.hid (hEw.out.trans hE)
 clear hE
 generalize w4.alloc (.cells #[.int .i64 1, .int .i64 80, .slice ap 1 ac] 24) = w5 at *
 generalize w4.heap.size = BA at *
 refine (frecord_any X V uv vv rv tv awD0 10 _ (purF 1 2000) 2000 w5 hM.out aw_ok0.vo (newHor samF_ok) aw_ok0.ns hF.out.feats (purF_txt _ _)).mono ?_
 rintro e w6 ⟨he, uv1, vv1, hM2, hC2⟩
 rw [aw_e1] at he
 subst he
 change EngM w6 X V uv1 vv1 rv tv awD1 at hM2
 replace hM := Lib.hid hM2
 replace hEw := Lib.hid (engF_ext hEw.out hC2 hwX hXV)
 replace hF := Lib.hid (hF.out.engF hC2)
 replace ba := Lib.hid (ba.out.engF hC2 (by decide) (by decide) (by decide) (by decide))
 have hKT := KysM.engF hKa.out hTa.out hC2
 replace hKa := Lib.hid hKT.1
 replace hTa := Lib.hid hKT.2
 clear hM2 hC2 hKT
 go_wp2_with fail
 refine (frecord_any X V uv1 vv1 rv tv awD1 20 _ (purF 1 2000) 2000 w6 hM.out aw_ok1.vo aw_hor1 aw_ok1.ns hF.out.feats (purF_txt _ _)).mono ?_
 rintro e w7 ⟨he, uv2, vv2, hM2, hC2⟩
 rw [aw_e2] at he
 subst he
 change EngM w7 X V uv2 vv2 rv tv awD2 at hM2
 replace hM := Lib.hid hM2
 replace hEw := Lib.hid (engF_ext hEw.out hC2 hwX hXV)
 replace hF := Lib.hid (hF.out.engF hC2)
 replace ba := Lib.hid (ba.out.engF hC2 (by decide) (by decide) (by decide) (by decide))
 have hKT := KysM.engF hKa.out hTa.out hC2
 replace hKa := Lib.hid hKT.1
 replace hTa := Lib.hid hKT.2
 clear hM2 hC2 hKT
 go_wp2_with fail
 refine (judge_any X V uv2 vv2 rv tv awD2 30 _ (purF 1 2000) w7 hM.out aw_ok2 hF.out.feats (purF_txt _ _)).mono ?_
 rintro e w8 ⟨hE4, ⟨ht, -⟩ | ⟨-, fb, rfl, hKb, hTb⟩⟩
 · exact absurd ht (by decide)
 rw [aw_v1] at hKb ⊢
 obtain ⟨bsp, bsc, rfl⟩ : ∃ p c, fb = .slice p 2 c := by
  obtain ⟨p, c, h, -⟩ := hKb
  exact ⟨p, c, h⟩
 unfold verAgg
 replace hM := Lib.hid (hM.out.ext hE4)
 replace hEw := Lib.hid (hEw.out.trans hE4)
 replace hF := Lib.hid (hF.out.ext hE4)
 replace hKa := Lib.hid (hKa.out.ext hE4)
 replace ba := Lib.hid (ba.out.ext hE4)
 have hKb := Lib.hid hKb
 clear hTb
 clear hE4
 go_wp2_with fail
 have bb := Lib.hid (Blk.new w8 #[.int .i64 2, .int .i64 110, .slice bsp 2 bsc] 24)
 have hE : Ext w8 (w8.alloc (.cells #[.int .i64 2, .int .i64 110, .slice bsp 2 bsc] 24)) := xt
 replace hM := Lib.hid (hM.out.ext hE)
 replace hF := Lib.hid (hF.out.ext hE)
 replace hKa := Lib.hid (hKa.out.ext hE)
 replace hKb := Lib.hid (hKb.out.ext hE)
 replace ba := Lib.hid (ba.out.ext hE)
 replace hEw := Lib.hid (hEw.out.trans hE)
 clear hE
 generalize w8.alloc (.cells #[.int .i64 2, .int .i64 110, .slice bsp 2 bsc] 24) = w9 at *
 generalize w8.heap.size = BB at *
 refine (judge_any X V uv2 vv2 rv tv awD2 80 _ (purF 1 2000) w9 hM.out aw_ok2 hF.out.feats (purF_txt _ _)).mono ?_
 rintro e w10 ⟨hE4, ⟨ht, -⟩ | ⟨-, fc, rfl, hKc, hTc⟩⟩
 · exact absurd ht (by decide)
 rw [aw_v2] at hKc ⊢
 obtain ⟨cp, cc, rfl⟩ : ∃ p c, fc = .slice p 1 c := by
  obtain ⟨p, c, h, -⟩ := hKc
  exact ⟨p, c, h⟩
 unfold verAgg
 replace hM := Lib.hid (hM.out.ext hE4)
 replace hEw := Lib.hid (hEw.out.trans hE4)
 replace hF := Lib.hid (hF.out.ext hE4)
 replace hKa := Lib.hid (hKa.out.ext hE4)
 replace hKb := Lib.hid (hKb.out.ext hE4)
 replace ba := Lib.hid (ba.out.ext hE4)
 replace bb := Lib.hid (bb.out.ext hE4)
 have hKc := Lib.hid hKc
 clear hTc
 clear hE4
 have x00 : w10.cell? ⟨BA, 0, none⟩ = some (.int .i64 1) := (ba.out.cell 0).trans rfl
 have x01 : w10.cell? ⟨BA, 1, none⟩ = some (.int .i64 80) := (ba.out.cell 1).trans rfl
 have x02 : w10.cell? ⟨BA, 2, none⟩ = some (.slice ap 1 ac) := (ba.out.cell 2).trans rfl
 have la := ba.out.lt
 go_wp2_with fail
 have bc := Lib.hid (Blk.new w10 #[.int .i64 1, .int .i64 80, .slice cp 1 cc] 24)
 have hE : Ext w10 (w10.alloc (.cells #[.int .i64 1, .int .i64 80, .slice cp 1 cc] 24)) := xt
 replace hKa := Lib.hid (hKa.out.ext hE)
 replace hKb := Lib.hid (hKb.out.ext hE)
 replace hKc := Lib.hid (hKc.out.ext hE)
 replace ba := Lib.hid (ba.out.ext hE)
 replace bb := Lib.hid (bb.out.ext hE)
 replace hEw := Lib.hid (hEw.out.trans hE)
 clear hE
 generalize w10.alloc (.cells #[.int .i64 1, .int .i64 80, .slice cp 1 cc] 24) = w11 at *
 generalize w10.heap.size = BC at *
 clear x00 x01 x02 la hM hF
 have kX := Lib.hid (fun wx (hx : Ext w11 wx) => expl_lit (g.out.ext (hEw.out.trans hx)) (hKa.out.ext hx) aw_t1 (by decide) (by decide) (by decide))
 refine (kX.out _ (Ext.refl _)).mono ?_
 rintro e w12 ⟨rfl, hE12⟩
 have x10 : w12.cell? ⟨BB, 0, none⟩ = some (.int .i64 2) := ((bb.out.ext hE12).cell 0).trans rfl
 have x11 : w12.cell? ⟨BB, 1, none⟩ = some (.int .i64 110) := ((bb.out.ext hE12).cell 1).trans rfl
 have x12 : w12.cell? ⟨BB, 2, none⟩ = some (.slice bsp 2 bsc) := ((bb.out.ext hE12).cell 2).trans rfl
 go_wp2_with fail
 have kY := Lib.hid (fun wx (hx : Ext w11 wx) => expl_lit (g.out.ext (hEw.out.trans hx)) (hKb.out.ext hx) aw_t2 (by decide) (by decide) (by decide))
 refine (kY.out _ hE12).mono ?_
 rintro e w13 ⟨rfl, hE13⟩
 replace hE13 := hE12.trans hE13
 have x20 : w13.cell? ⟨BC, 0, none⟩ = some (.int .i64 1) := ((bc.out.ext hE13).cell 0).trans rfl
 have x21 : w13.cell? ⟨BC, 1, none⟩ = some (.int .i64 80) := ((bc.out.ext hE13).cell 1).trans rfl
 have x22 : w13.cell? ⟨BC, 2, none⟩ = some (.slice cp 1 cc) := ((bc.out.ext hE13).cell 2).trans rfl
 go_wp2_with fail
 have kZ := Lib.hid (fun wx (hx : Ext w11 wx) => expl_lit (g.out.ext (hEw.out.trans hx)) (hKc.out.ext hx) aw_t1 (by decide) (by decide) (by decide))
 refine (kZ.out _ hE13).mono ?_
 rintro e w14 ⟨rfl, hE14⟩
 replace hE14 := hE13.trans hE14
 go_wp2
 try go_ret
 exact hend.out _ (hEw.out.trans hE14)
end Go.Proofs.YtangdoidkcelfaaGreatDoor
