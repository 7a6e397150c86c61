/- The walk of the law AssessSums (printed by gen/h21.py). -/
import Derived.Test.YtmnhmkjmcckneaaGreatDoorHh
import Derived.Test.YtmnhmkjmcckneaaGreatDoorHw
import Derived.Test.YtmnhmkjmcckneaaGreatDoorIb
import Derived.Test.YtmnhmkjmcckneaaGreatDoorId
import Derived.Test.YtmnhmkjmcckneaaGreatDoorIe
import Derived.Deep.AppendLies
import Derived.Deep.RegionHeld3
import Derived.Deep.QuietTactic
import Derived.BigQuiet
namespace Go.Proofs.YtmnhmkjmcckneaaGreatDoor
open Go.RowKit
/-- v is a slice that a call made, from block B on, and reads as the results ys. -/
def RR (w : World) (B : Nat) (v : Value) (ys : List ResD) : Prop := ys.length ≤ 1000000 ∧ w.ownsRow B 39 14 v ys.length (resFlat ys)
theorem RR.nil (w : World) (B : Nat) : RR w B (.slice none 0 0) [] := ⟨by simp, rfl, Or.inl ⟨rfl, rfl⟩⟩
theorem RR.ext {w w' : World} {B : Nat} {v : Value} {ys : List ResD} (h : RR w B v ys) (k : Ext w w') : RR w' B v ys := ⟨h.1, ownsRow_extE h.2 k⟩
theorem RR.form {w : World} {B : Nat} {v : Value} {ys : List ResD} (h : RR w B v ys) : ∃ p c, v = .slice p ys.length c := by
  obtain ⟨_, _, ⟨h, h0⟩ | ⟨g, cap, cur, hv, _⟩⟩ := h
  · exact ⟨none, 0, by rw [h0]; exact h⟩
  · exact ⟨_, _, hv⟩
theorem RR.push {w' : World} {B g cap : Nat} {ys : List ResD} {y : ResD} (hl : ys.length < 1000000) (hown : w'.ownsRow B 39 14 (.slice (some ⟨g, 0, none⟩) (ys.length + 1) cap) (ys.length + 1) (resFlat ys ++ resCells y)) : RR w' B (.slice (some ⟨g, 0, none⟩) (ys.length + 1) cap) (ys ++ [y]) := by
  refine ⟨by simp; omega, ?_⟩
  rw [resFlat_snoc]
  simpa using hown
/-- Where the results lie: nowhere (none), or in a row of a block. -/
theorem RR.lie {w : World} {B : Nat} {v : Value} {ys : List ResD} (h : RR w B v ys) : (v = .slice none 0 0 ∧ ys = []) ∨ ∃ g cap, v = .slice (some ⟨g, 0, none⟩) ys.length cap ∧ ys.length ≤ cap ∧ cap ≤ maxLen ∧ ∀ i, i < ys.length → ResC w g (i * 14) (ys.getD i resD) := by
  obtain ⟨h0, h4, ⟨hv, hn⟩ | ⟨g, cap, cur, hv, hg, hb, hcap, hcm, hcs, htk⟩⟩ := h
  · exact Or.inl ⟨hv, List.length_eq_zero_iff.1 hn⟩
  · refine Or.inr ⟨g, cap, hv, hcap, hcm, fun i hi => ?_⟩
    · have hcell : ∀ c u, c < 14 → (resCells (ys.getD i resD))[c]? = some u → w.cell? ⟨g, i * 14 + c, none⟩ = some u := by
        intro c u hc hj
        have hb' : Blk w g cur 39 := hb
        rw [hb'.cell, ← Array.getElem?_toList, ← hj, ← resFlat_get ys i hi c hc, ← htk]
        rw [List.getElem?_take_of_lt (by omega)]
      exact ⟨hcell 0 _ (by omega) rfl, hcell 1 _ (by omega) rfl, hcell 2 _ (by omega) rfl, hcell 3 _ (by omega) rfl, hcell 4 _ (by omega) rfl, hcell 5 _ (by omega) rfl, hcell 6 _ (by omega) rfl, hcell 7 _ (by omega) rfl, hcell 8 _ (by omega) rfl, hcell 9 _ (by omega) rfl, hcell 10 _ (by omega) rfl, hcell 11 _ (by omega) rfl, hcell 12 _ (by omega) rfl, hcell 13 _ (by omega) rfl⟩
theorem RR.toM {w : World} {B : Nat} {v : Value} {ys : List ResD} (h : RR w B v ys) : ResM w v ys := by
  have hl := h.1
  rcases h.lie with ⟨rfl, rfl⟩ | ⟨g, cap, rfl, -, -, hc⟩
  · exact ⟨by simp, Or.inl ⟨none, 0, rfl, rfl⟩⟩
  · exact ⟨by omega, Or.inr ⟨g, 0, cap, rfl, fun i hi => by rw [Nat.zero_add]; exact hc i hi⟩⟩
theorem infoRfE : (Tryz.prog.info? 39).map (fun i => (i.zero, i.size, i.bytes)) = some (some (.agg #[.string ⟨#[]⟩, .int .i64 0, .string ⟨#[]⟩, .string ⟨#[]⟩, .int .i64 0, .string ⟨#[]⟩, .string ⟨#[]⟩, .int .i64 0, .string ⟨#[]⟩, .int .i64 0, .int .i64 0, .int .i64 0, .int .i64 0, .int .i64 0]), 14, 160) := by kernel_rfl
theorem res_takeR {l : List ResD} {k : Nat} (h : k < l.length) : l.take (k + 1) = l.take k ++ [l.getD k resD] := by
  rw [List.take_add_one, List.getD_eq_getElem?_getD, List.getElem?_eq_getElem h]
  rfl
theorem ba_of {r : ByteArray} {l : List UInt8} (h : r.data.toList = l) : r = ⟨l.toArray⟩ := by subst h; rfl
theorem expl_at (x : ResD) (w : World) (g : Gw w) (ok : ResOk x) {E : ByteArray} (hE : (⟨(explT x).toArray⟩ : ByteArray) = E) : Calls Tryz.prog 21 #[resAgg x] w (OneW (.string E) w) :=
  (explain_any x w g ok).mono fun e w' ⟨r, he, hr, hw⟩ => ⟨by rw [he, ba_of hr, hE], hw⟩
theorem rexpl_at (x : ResD) (w : World) (ok : ResOk x) {E : ByteArray} (hE : (⟨(explT x).toArray⟩ : ByteArray) = E) : Calls Tryz.prog 22 #[resAgg x] w (OneW (.string E) w) :=
  (rexplain_any x w ok).mono fun e w' ⟨r, he, hr, hw⟩ => ⟨by rw [he, ba_of hr, hE], hw⟩
theorem resOk_of {x : ResD} (h : ResB x) (hs : (x.i.rule.size + x.i.why.size + x.s.rule.size + x.s.why.size + x.m.rule.size + x.m.why.size) ≤ 200) : ResOk x := by
  obtain ⟨-, i0, i1, i2, i3, i4, i5, i6, i7⟩ := h
  exact ⟨⟨by omega, by omega, i0⟩, ⟨by omega, by omega, i1⟩, ⟨by omega, by omega, i2⟩, i3, i4, i5, i6, i7⟩
set_option maxRecDepth 8000 in
set_option maxHeartbeats 8000000 in
theorem law_sums (lv : Value) (l : List ResD) (w : World) (g : Gw w) (hR : ResM w lv l) (hB : ∀ i, i < l.length → ResB (l.getD i resD)) : Calls Tryz.prog 6 #[lv] w (OneV (.bool true) w) := by
  have kW := Lib.hid (fun w1 (h : Ext w w1) => awake38_any w1 (g.ext h))
  have kS := Lib.hid (fun w1 (h : Ext w w1) => sums_any lv l w1 (hR.ext h))
  have kT := Lib.hid (fun w1 v (h : ResM w1 v l) => rsums_any v l w1 h)
  have gX := Lib.hid (fun w1 (h : Ext w w1) => (g.ext h : Gw w1))
  obtain ⟨lp, lc, rfl⟩ := hR.form
  have hll := hR.1
  obtain ⟨i0, hi, hz0, hz1, hz2⟩ := info_partsE infoRfE
  replace hi := Lib.hid hi
  replace hz0 := Lib.hid hz0
  replace hz1 := Lib.hid hz1
  replace hz2 := Lib.hid hz2
  replace hB := Lib.hid hB
  by_cases hbig : 40 < l.length
  · have d : decide ((40 : Int) < (l.length : Int)) = true := decide_eq_true (by omega)
    clear kS kT
    go_enter Tryz.func6, Tryz.ntmps6
    go_wp2_with fail
    have hE8 := Ext.refl w
    refine (kW.out _ hE8).mono ?_
    rintro e w9 ⟨rfl, hE9⟩
    replace hE := hE8.trans hE9
    clear hE9
    go_wp2
    go_ret
    exact ⟨rfl, hE⟩
  have d : decide ((40 : Int) < (l.length : Int)) = false := decide_eq_false (by omega)
  go_enter Tryz.func6, Tryz.ntmps6
  go_wp2_with fail
  clear d
  go_loopw [3, 4] (fun v i wr => ∃ k : Nat, k ≤ l.length ∧ i = .int .i64 k ∧ RR wr w.heap.size v (l.take k) ∧ Ext w wr) (fun _ i _ => l.length - (intOf i).toNat)
  case atStart => exact ⟨0, Nat.zero_le _, rfl, RR.nil _ _, Ext.refl _⟩
  case round =>
    obtain ⟨k, hk, rfl, hrs, hE⟩ := hrel
    replace hrs := Lib.hid hrs
    by_cases hlt : k < l.length
    · clear kS kT
      obtain ⟨b, off, rfl, hkid⟩ := hR.at (by omega)
      have hc := Lib.hid ((hkid k hlt).ext hE)
      have htk := Lib.hid (res_takeR hlt)
      have hxb := hB.out k hlt
      clear hkid
      generalize l.getD k resD = x at *
      obtain ⟨c0, c1, c2, c3, c4, c5, c6, c7, c8, c9, c10, c11, c12, c13⟩ := hc.out
      obtain ⟨b0, b1, b2, b3, b4, b5⟩ := hxb.1
      replace hxb := Lib.hid hxb
      have hok := Lib.hid (resOk_of hxb.out)
      by_cases hbg : 200 < (x.i.rule.size + x.i.why.size + x.s.rule.size + x.s.why.size + x.m.rule.size + x.m.why.size)
      · have d : decide ((200 : Int) < ((x.i.rule.size : Int) + (x.i.why.size : Int) + (x.s.rule.size : Int) + (x.s.why.size : Int) + (x.m.rule.size : Int) + (x.m.why.size : Int))) = true := decide_eq_true (by omega)
        clear hok hxb hrs htk hc hbg
        go_wp2_with fail
        go_quiet (fail)
        go_wp2_with fail
        have hE8 := hE.drewN nq
        refine (kW.out _ hE8).mono ?_
        rintro e w9 ⟨rfl, hE9⟩
        replace hE := hE8.trans hE9
        clear hE9
        go_wp2
        go_ret
        exact ⟨rfl, hE⟩
      · have d : decide ((200 : Int) < ((x.i.rule.size : Int) + (x.i.why.size : Int) + (x.s.rule.size : Int) + (x.s.why.size : Int) + (x.m.rule.size : Int) + (x.m.why.size : Int))) = false := decide_eq_false (by omega)
        have ok := Lib.hid (hok.out (by omega))
        clear hok hxb hbg
        go_wp2_with fail
        go_quiet (fail)
        clear d b0 b1 b2 b3 b4 b5
        obtain ⟨w5, hw5⟩ : ∃ w5, w5 = wr.drewN nq := ⟨_, rfl⟩
        rw [← hw5]
        replace hE : Ext w w5 := by rw [hw5]; exact hE.drewN nq
        replace hc : Hid (ResC w5 b (off + k * 14) x) := Lib.hid (by rw [hw5]; exact hc.out)
        replace hrs : Hid (RR w5 w.heap.size u3 (l.take k)) := Lib.hid (by rw [hw5]; exact hrs.out)
        clear hw5 c0 c1 c2 c3 c4 c5 c6 c7 c8 c9 c10 c11 c12 c13
        have k1 := Lib.hid (fun w1 => balanced_any x w1)
        have k2 := Lib.hid (fun w1 => rbal_any x w1)
        obtain ⟨E, hEE⟩ : ∃ E, (⟨(explT x).toArray⟩ : ByteArray) = E := ⟨_, rfl⟩
        have k3 := Lib.hid (fun w1 (h : Ext w w1) => expl_at x w1 (gX.out w1 h) ok.out hEE)
        have k4 := Lib.hid (fun w1 => rexpl_at x w1 ok.out hEE)
        generalize balB x = BB at *
        unfold resAgg at k1 k2 k3 k4
        clear hEE ok
        go_wp2_with fail
        go_region_held3 (fun w' => w'.cell? ⟨b, off + k * 14, none⟩ = some (.string x.i.rule) ∧ w'.cell? ⟨b, off + k * 14 + 1, none⟩ = some (.int .i64 x.i.amt) ∧ w'.cell? ⟨b, off + k * 14 + 2, none⟩ = some (.string x.i.why) ∧ w'.cell? ⟨b, off + k * 14 + 3, none⟩ = some (.string x.s.rule) ∧ w'.cell? ⟨b, off + k * 14 + 4, none⟩ = some (.int .i64 x.s.amt) ∧ w'.cell? ⟨b, off + k * 14 + 5, none⟩ = some (.string x.s.why) ∧ w'.cell? ⟨b, off + k * 14 + 6, none⟩ = some (.string x.m.rule) ∧ w'.cell? ⟨b, off + k * 14 + 7, none⟩ = some (.int .i64 x.m.amt) ∧ w'.cell? ⟨b, off + k * 14 + 8, none⟩ = some (.string x.m.why) ∧ w'.cell? ⟨b, off + k * 14 + 9, none⟩ = some (.int .i64 x.card) ∧ w'.cell? ⟨b, off + k * 14 + 10, none⟩ = some (.int .i64 x.iss) ∧ w'.cell? ⟨b, off + k * 14 + 11, none⟩ = some (.int .i64 x.acq) ∧ w'.cell? ⟨b, off + k * 14 + 12, none⟩ = some (.int .i64 x.shop) ∧ w'.cell? ⟨b, off + k * 14 + 13, none⟩ = some (.int .i64 x.net)) (first | exact hc.out | exact hc.out.ext (Ext.drew (Ext.refl _))) (first | (go_at_call 18; refine (k1.out _).mono ?_; rintro e w6 ⟨rfl, hE6⟩; have hS := ext_at hE (by first | exact hE6 | exact Ext.undrew hE6); replace hE := hE.trans hS; replace hc := Lib.hid (hc.out.ext hS); replace hrs := Lib.hid (hrs.out.ext hS); clear hE6 hS) | (go_at_call 20; refine (k2.out _).mono ?_; rintro e w6 ⟨rfl, hE6⟩; have hS := ext_at hE (by first | exact hE6 | exact Ext.undrew hE6); replace hE := hE.trans hS; replace hc := Lib.hid (hc.out.ext hS); replace hrs := Lib.hid (hrs.out.ext hS); clear hE6 hS) | (go_at_call 21; refine (k3.out _ (by first | exact hE | exact hE.drew)).mono ?_; rintro e w6 ⟨rfl, hE6⟩; have hS := ext_at hE (by first | exact hE6 | exact Ext.undrew hE6); replace hE := hE.trans hS; replace hc := Lib.hid (hc.out.ext hS); replace hrs := Lib.hid (hrs.out.ext hS); clear hE6 hS) | (go_at_call 22; refine (k4.out _).mono ?_; rintro e w6 ⟨rfl, hE6⟩; have hS := ext_at hE (by first | exact hE6 | exact Ext.undrew hE6); replace hE := hE.trans hS; replace hc := Lib.hid (hc.out.ext hS); replace hrs := Lib.hid (hrs.out.ext hS); clear hE6 hS))
        all_goals obtain ⟨vp, vc, hvv⟩ := hrs.out.form
        all_goals subst hvv
        all_goals have hrow := Lib.hid hrs.out.2
        all_goals have hbl := hrs.out.1
        all_goals obtain ⟨c0, c1, c2, c3, c4, c5, c6, c7, c8, c9, c10, c11, c12, c13⟩ := hc.out
        all_goals have htl : (l.take k).length = k := by rw [List.length_take]; omega
        all_goals have hrp := Lib.hid (fun g cap w5 h => htk.out ▸ RR.push (w' := w5) (B := w.heap.size) (g := g) (cap := cap) (ys := l.take k) (y := x) (by omega) h)
        all_goals rw [htl] at hrow hrp ⊢
        all_goals clear hbl htl
        all_goals generalize l.take k = ys at *
        all_goals rename World => w6
        all_goals have hws := hE.size
        all_goals clear hrs hc
        all_goals
          go_wp2_with (at_builtin; refine wpList_append_lies _ rfl _ _ 58 rfl w.heap.size 39 i0 (.agg #[.string ⟨#[]⟩, .int .i64 0, .string ⟨#[]⟩, .string ⟨#[]⟩, .int .i64 0, .string ⟨#[]⟩, .string ⟨#[]⟩, .int .i64 0, .string ⟨#[]⟩, .int .i64 0, .int .i64 0, .int .i64 0, .int .i64 0, .int .i64 0]) 14 160 Tryz.underlying58 hi.out hz0.out hz1.out hz2.out rfl (by decide) _ _ _ rfl (ownsRow_extE hrow.out (by repeat (first | with_reducible exact Ext.refl _ | with_reducible refine Ext.alloc ?_ _))) ⟨w6.heap.size, 0, none⟩ 1 1 (resCells x) rfl rfl ?_ ?_ (by decide) ?_ ?_ ?_ (w6.heap.size + 1) ?_ ?_)
          · exact cell_re_new (x := x) (Blk.new' w6 _ 39 _ rfl)
          · exact re_one _
          · unfold maxLen; omega
          · omega
          · simp; omega
          · simp
          intro gg gcap w7 hown hgrow hat hgl
          have hrl := Lib.hid (hrp.out _ _ _ hown)
          have hE7 : Ext w w7 := Below.grown (hE.alloc (.cells (resCells x).toArray 39)) hgrow (hE.alloc _).size (fun q hq => (hrow.out.lt q hq).1)
          clear hown hgrow hat hgl hrow hrp c0 c1 c2 c3 c4 c5 c6 c7 c8 c9 c10 c11 c12 c13
          go_wp2
          go_roundw
          case rel => exact ⟨k + 1, by omega, by go_num, hrl.out, hE7⟩
          case measure => simp [intOf]; omega
    · obtain rfl : k = l.length := by omega
      rw [List.take_length] at hrs
      have hM := Lib.hid (hrs.out.toM)
      clear hrs hlt hk hB hll
      generalize sumsV l = R at kS kT
      obtain ⟨y, E⟩ := R
      unfold SumP resAgg at kS kT
      dsimp only at kS kT
      go_wp2_with fail
      refine (kS.out _ hE).mono ?_
      rintro e w1 ⟨rfl, hE1⟩
      have hE2 : Ext w (w1.alloc (.cells #[.string y.i.rule, .int .i64 y.i.amt, .string y.i.why, .string y.s.rule, .int .i64 y.s.amt, .string y.s.why, .string y.m.rule, .int .i64 y.m.amt, .string y.m.why, .int .i64 y.card, .int .i64 y.iss, .int .i64 y.acq, .int .i64 y.shop, .int .i64 y.net] 35)) := (hE.trans hE1).alloc _
      have hM2 := Lib.hid (hM.out.ext (hE1.alloc (.cells #[.string y.i.rule, .int .i64 y.i.amt, .string y.i.why, .string y.s.rule, .int .i64 y.s.amt, .string y.s.why, .string y.m.rule, .int .i64 y.m.amt, .string y.m.why, .int .i64 y.card, .int .i64 y.iss, .int .i64 y.acq, .int .i64 y.shop, .int .i64 y.net] 35)))
      have bX := Lib.hid (Blk.new w1 #[.string y.i.rule, .int .i64 y.i.amt, .string y.i.why, .string y.s.rule, .int .i64 y.s.amt, .string y.s.why, .string y.m.rule, .int .i64 y.m.amt, .string y.m.why, .int .i64 y.card, .int .i64 y.iss, .int .i64 y.acq, .int .i64 y.shop, .int .i64 y.net] 35)
      clear hM hE hE1
      go_wp2_with fail
      refine (kT.out _ _ hM2.out).mono ?_
      rintro e w2 ⟨rfl, hE3⟩
      replace bX := Lib.hid (bX.out.ext hE3)
      replace hE := hE2.trans hE3
      clear hE2 hE3 hM2 kT
      obtain ⟨BX, hBX⟩ : ∃ BX, BX = w1.heap.size := ⟨_, rfl⟩
      rw [← hBX] at bX ⊢
      clear hBX
      have xs := bX.out.lt
      have x0 : w2.cell? ⟨BX, 0, none⟩ = some (.string y.i.rule) := (bX.out.cell 0).trans rfl
      have x1 : w2.cell? ⟨BX, 1, none⟩ = some (.int .i64 y.i.amt) := (bX.out.cell 1).trans rfl
      have x2 : w2.cell? ⟨BX, 2, none⟩ = some (.string y.i.why) := (bX.out.cell 2).trans rfl
      have x3 : w2.cell? ⟨BX, 3, none⟩ = some (.string y.s.rule) := (bX.out.cell 3).trans rfl
      have x4 : w2.cell? ⟨BX, 4, none⟩ = some (.int .i64 y.s.amt) := (bX.out.cell 4).trans rfl
      have x5 : w2.cell? ⟨BX, 5, none⟩ = some (.string y.s.why) := (bX.out.cell 5).trans rfl
      have x6 : w2.cell? ⟨BX, 6, none⟩ = some (.string y.m.rule) := (bX.out.cell 6).trans rfl
      have x7 : w2.cell? ⟨BX, 7, none⟩ = some (.int .i64 y.m.amt) := (bX.out.cell 7).trans rfl
      have x8 : w2.cell? ⟨BX, 8, none⟩ = some (.string y.m.why) := (bX.out.cell 8).trans rfl
      have x9 : w2.cell? ⟨BX, 9, none⟩ = some (.int .i64 y.card) := (bX.out.cell 9).trans rfl
      have x10 : w2.cell? ⟨BX, 10, none⟩ = some (.int .i64 y.iss) := (bX.out.cell 10).trans rfl
      have x11 : w2.cell? ⟨BX, 11, none⟩ = some (.int .i64 y.acq) := (bX.out.cell 11).trans rfl
      have x12 : w2.cell? ⟨BX, 12, none⟩ = some (.int .i64 y.shop) := (bX.out.cell 12).trans rfl
      have x13 : w2.cell? ⟨BX, 13, none⟩ = some (.int .i64 y.net) := (bX.out.cell 13).trans rfl
      have dE : (E == E) = true := by simp
      go_wp2_with fail
      have hE8 : Ext w (w2.alloc (.cells #[.string y.i.rule, .int .i64 y.i.amt, .string y.i.why, .string y.s.rule, .int .i64 y.s.amt, .string y.s.why, .string y.m.rule, .int .i64 y.m.amt, .string y.m.why, .int .i64 y.card, .int .i64 y.iss, .int .i64 y.acq, .int .i64 y.shop, .int .i64 y.net] 39)) := hE.alloc _
      refine (kW.out _ hE8).mono ?_
      rintro e w9 ⟨rfl, hE9⟩
      have hE10 := hE8.trans hE9
      clear hE9
      go_wp2
      go_ret
      exact ⟨rfl, hE10⟩
end Go.Proofs.YtmnhmkjmcckneaaGreatDoor
