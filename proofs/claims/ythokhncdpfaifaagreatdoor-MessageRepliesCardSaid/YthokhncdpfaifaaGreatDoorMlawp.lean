/- The walk of the law MessageReplies. -/
import Derived.Test.YthokhncdpfaifaaGreatDoorMlawc
import Derived.Test.YthokhncdpfaifaaGreatDoorMsgrr
namespace Go.Proofs.YthokhncdpfaifaaGreatDoor
open Go.RowKit
theorem repL_len (ty : Int) (es : List El) (code : ByteArray) : (repL ty es code).length ≤ 13 := by
  unfold repL
  split
  · exact repK_len es code 13 (by omega)
  · simp
set_option maxRecDepth 8000 in
set_option maxHeartbeats 8000000 in
theorem law_replies (ty1 : Int) (v1 : Value) (es : List El) (ty2 : Int) (v2 : Value) (rs : List El) (code : ByteArray) (w : World) (g : Gl w) (hv1 : Okm w v1 es) (hv2 : Okm w v2 rs) (hcs : code.size ≤ 9223372036854775807) : Calls Tryz.prog 6 #[msgAgg ty1 v1, msgAgg ty2 v2, .string code] w (LawPost w) := by
  obtain ⟨hv1, hl1, hsz1⟩ := hv1
  obtain ⟨hv2, hl2, hsz2⟩ := hv2
  have hV1 := Lib.hid hv1
  have hV2 := Lib.hid hv2
  have hSz1 := Lib.hid hsz1
  have hSz2 := Lib.hid hsz2
  obtain ⟨q1, c1, rfl⟩ := elems_form hv1
  obtain ⟨q2, c2, rfl⟩ := elems_form hv2
  clear hv1 hv2 hsz1 hsz2
  unfold msgAgg
  go_enter Tryz.func6, Tryz.ntmps6
  go_wp2_with fail
  refine (small_any ty1 _ es _ (hV1.out.ext (by repeat (first | with_reducible exact Ext.refl _ | with_reducible exact hE0 | with_reducible exact hE | with_reducible refine Ext.alloc ?_ _ | with_reducible refine Ext.drewN ?_ _ | with_reducible refine Ext.drew ?_ | ((with_reducible refine Ext.setCell ?_ ?side _); (case side => first | exact Nat.le_refl _ | (simp; done) | (simp; omega)))))) hl1 hSz1.out).mono ?_
  rintro e w1 ⟨rfl, hE1⟩
  have hA1 := ((Blk.new w #[.int .i64 ty1, .slice q1 es.length c1] 24).alloc (.cells #[.int .i64 ty2, .slice q2 rs.length c2] 24)).ext hE1
  have hA2 := (Blk.new' (w.alloc (.cells #[.int .i64 ty1, .slice q1 es.length c1] 24)) #[.int .i64 ty2, .slice q2 rs.length c2] 24 (w.heap.size + 1) (by simp)).ext hE1
  have hE01 : Ext w w1 := (((Ext.refl w).alloc _).alloc _).trans hE1
  clear hE1
  have z0 := hA1.cell 0
  have z1 := hA1.cell 1
  have y0 := hA2.cell 0
  have y1 := hA2.cell 1
  simp at z0 z1 y0 y1
  cases hs1 : smallB es with
  | false =>
    go_wp2_with fail
    refine (awake_any _ (g.ext hE01)).mono ?_
    rintro e w4 ⟨rfl, hE⟩
    have hE04 := hE01.trans hE
    clear hE
    go_wp2
    go_ret
    exact ⟨rfl, hE04⟩
  | true =>
    obtain ⟨h601, _⟩ := small_yes hs1
    clear hs1
    go_wp2_with fail
    refine (small_any ty2 _ rs _ (hV2.out.ext hE01) hl2 hSz2.out).mono ?_
    rintro e w2 ⟨rfl, hE2⟩
    have hB1 := hA1.ext hE2
    have hB2 := hA2.ext hE2
    have hE02 := hE01.trans hE2
    clear hE2 hA1 hA2 z0 z1 y0 y1
    have z0 := hB1.cell 0
    have z1 := hB1.cell 1
    have y0 := hB2.cell 0
    have y1 := hB2.cell 1
    simp at z0 z1 y0 y1
    cases hs2 : smallB rs with
    | false =>
      go_wp2_with fail
      refine (awake_any _ (g.ext hE02)).mono ?_
      rintro e w4 ⟨rfl, hE⟩
      have hE04 := hE02.trans hE
      clear hE
      go_wp2
      go_ret
      exact ⟨rfl, hE04⟩
    | true =>
      obtain ⟨h602, _⟩ := small_yes hs2
      clear hs2
      by_cases hc : code.size ≤ 100
      · have hcb : decide ((100 : Int) < code.size) = false := by simp; omega
        have hlL := repL_len ty1 es code
        have hR1 := Lib.hid (fun w hv => reply_any ty1 (.slice q1 es.length c1) es code w hv (by omega) (by omega))
        have hR2 := Lib.hid (fun w hv => rreply_any ty1 (.slice q1 es.length c1) es code w hv (by omega) (by omega))
        unfold msgAgg at hR1 hR2
        go_wp2_with fail
        refine (hR1.out _ (hV1.out.ext hE02)).mono ?_
        rintro e w3 ⟨v3, rfl, hv3, hE3⟩
        have hV3 := Lib.hid hv3
        obtain ⟨p3, c3, rfl⟩ := elems_form hv3
        have hB13 := hB1.ext hE3
        have hB23 := hB2.ext hE3
        have hE03 := hE02.trans hE3
        clear hv3 hE3 hB1 hB2 z0 z1 y0 y1 hR1
        have z0 := hB13.cell 0
        have z1 := hB13.cell 1
        have hlt3 := hB13.lt
        simp at z0 z1
        unfold msgAgg
        go_wp2_with fail
        refine (hR2.out _ (hV1.out.ext (hE03.alloc _))).mono ?_
        rintro e w4 ⟨v4, rfl, hv4, hE4⟩
        have hV4 := Lib.hid hv4
        obtain ⟨p4, c4, rfl⟩ := elems_form hv4
        clear hv4 hR2
        unfold msgAgg
        generalize repL ty1 es code = rl at *
        generalize repT ty1 code = rt at *
        generalize repE ty1 code = re at *
        have hN3 := (Blk.new w3 #[.int .i64 rt, .slice p3 rl.length c3] 24).ext hE4
        have hE34 : Ext w3 w4 := ((Ext.refl w3).alloc _).trans hE4
        have hV34 := Lib.hid (hV3.out.ext hE34)
        have hB14 := hB13.ext hE34
        have hB24 := hB23.ext hE34
        have hE04 := hE03.trans hE34
        clear hE4 hE34 hB13 hB23 z0 z1 hV3
        go_wp2_with fail
        obtain ⟨BA, hBA⟩ : ∃ BA, BA = w3.heap.size := ⟨_, rfl⟩
        obtain ⟨BB, hBB⟩ : ∃ BB, BB = w4.heap.size := ⟨_, rfl⟩
        rw [← hBA, ← hBB]
        rw [← hBA] at hN3
        have hE0 : Ext w (w4.alloc (.cells #[.int .i64 rt, .slice p4 rl.length c4] 24)) := hE04.alloc _
        have hD1 := hB14.alloc (.cells #[.int .i64 rt, .slice p4 rl.length c4] 24)
        have hD2 := hB24.alloc (.cells #[.int .i64 rt, .slice p4 rl.length c4] 24)
        have hD3 := hN3.alloc (.cells #[.int .i64 rt, .slice p4 rl.length c4] 24)
        have hD4 : Blk (w4.alloc (.cells #[.int .i64 rt, .slice p4 rl.length c4] 24)) BB #[.int .i64 rt, .slice p4 rl.length c4] 24 := by rw [hBB]; exact Blk.new w4 _ _
        have hVc := Lib.hid (hV34.out.ext ((Ext.refl w4).alloc (.cells #[.int .i64 rt, .slice p4 rl.length c4] 24)))
        have hVd := Lib.hid (hV4.out.ext ((Ext.refl w4).alloc (.cells #[.int .i64 rt, .slice p4 rl.length c4] 24)))
        have hVa := Lib.hid (hV1.out.ext hE0)
        have hVb := Lib.hid (hV2.out.ext hE0)
        generalize w4.alloc (.cells #[.int .i64 rt, .slice p4 rl.length c4] 24) = w9 at *
        clear hBA hBB hB14 hB24 hN3 hV34 hV4 hV1 hV2 hE04 hE03 hE02 hE01
        have x0 : w9.cell? ⟨w.heap.size, 0, none⟩ = some (.int .i64 ty1) := hD1.cell 0
        have x1 : w9.cell? ⟨w.heap.size, 1, none⟩ = some (.slice q1 es.length c1) := hD1.cell 1
        have x2 : w9.cell? ⟨w.heap.size + 1, 0, none⟩ = some (.int .i64 ty2) := hD2.cell 0
        have x3 : w9.cell? ⟨w.heap.size + 1, 1, none⟩ = some (.slice q2 rs.length c2) := hD2.cell 1
        have x4 : w9.cell? ⟨BA, 0, none⟩ = some (.int .i64 rt) := hD3.cell 0
        have x5 : w9.cell? ⟨BA, 1, none⟩ = some (.slice p3 rl.length c3) := hD3.cell 1
        have x6 : w9.cell? ⟨BB, 0, none⟩ = some (.int .i64 rt) := hD4.cell 0
        have x7 : w9.cell? ⟨BB, 1, none⟩ = some (.slice p4 rl.length c4) := hD4.cell 1
        clear hD1 hD2 hD3 hD4
        have k1 := Lib.hid (fun w h1 h2 => rSame_any rt rt (.slice p3 rl.length c3) (.slice p4 rl.length c4) rl rl w h1 h2 (by omega) (by omega))
        have k2 := Lib.hid (fun w h1 h2 => rSame_any ty1 ty2 (.slice q1 es.length c1) (.slice q2 rs.length c2) es rs w h1 h2 (by omega) (by omega))
        have k3 := Lib.hid (fun w h1 h2 => answers_any ty1 ty2 (.slice q1 es.length c1) (.slice q2 rs.length c2) es rs w h1 h2 (by omega) (by omega))
        have k4 := Lib.hid (fun w h1 h2 => rAnswers_any ty1 ty2 (.slice q1 es.length c1) (.slice q2 rs.length c2) es rs w h1 h2 (by omega) (by omega))
        have k5 := Lib.hid (fun w h1 h2 => mSame_any ty1 ty2 (.slice q1 es.length c1) (.slice q2 rs.length c2) es rs w h1 h2 (by omega) (by omega))
        have k6 := Lib.hid (fun w h1 h2 => mSame_any ty1 ty1 (.slice q1 es.length c1) (.slice q1 es.length c1) es es w h1 h2 (by omega) (by omega))
        unfold msgAgg at k1 k2 k3 k4 k5 k6
        go_region_held3 (fun w' => w'.cell? ⟨w.heap.size, 0, none⟩ = some (.int .i64 ty1) ∧ w'.cell? ⟨w.heap.size, 1, none⟩ = some (.slice q1 es.length c1) ∧ w'.cell? ⟨w.heap.size + 1, 0, none⟩ = some (.int .i64 ty2) ∧ w'.cell? ⟨w.heap.size + 1, 1, none⟩ = some (.slice q2 rs.length c2) ∧ w'.cell? ⟨BA, 0, none⟩ = some (.int .i64 rt) ∧ w'.cell? ⟨BA, 1, none⟩ = some (.slice p3 rl.length c3) ∧ w'.cell? ⟨BB, 0, none⟩ = some (.int .i64 rt) ∧ w'.cell? ⟨BB, 1, none⟩ = some (.slice p4 rl.length c4)) (first | exact ⟨by assumption, by assumption, by assumption, by assumption, by assumption, by assumption, by assumption, by assumption⟩ | exact ⟨x0, x1, x2, x3, x4, x5, x6, x7⟩) (first | (go_at_call 17; ((with_reducible refine (k1.out _ (by first | exact hVc.out | exact hVc.out.ext (Ext.refl _).drew) (by first | exact hVd.out | exact hVd.out.ext (Ext.refl _).drew)).mono ?_); rintro e w6 ⟨rfl, hE6⟩; rw [same_self]; have hS := ext_at hE0 (by first | exact hE6 | exact Ext.undrew hE6); have hE0 := hE0.trans hS; have x0 := hS.get x0; have x1 := hS.get x1; have x2 := hS.get x2; have x3 := hS.get x3; have x4 := hS.get x4; have x5 := hS.get x5; have x6 := hS.get x6; have x7 := hS.get x7; have hVa := Lib.hid (hVa.out.ext hS); have hVb := Lib.hid (hVb.out.ext hS); have hVc := Lib.hid (hVc.out.ext hS); have hVd := Lib.hid (hVd.out.ext hS); clear hE6 hS)) | (go_at_call 17; ((with_reducible refine (k2.out _ (by first | exact hVa.out | exact hVa.out.ext (Ext.refl _).drew) (by first | exact hVb.out | exact hVb.out.ext (Ext.refl _).drew)).mono ?_); rintro e w6 ⟨rfl, hE6⟩; have hS := ext_at hE0 (by first | exact hE6 | exact Ext.undrew hE6); have hE0 := hE0.trans hS; have x0 := hS.get x0; have x1 := hS.get x1; have x2 := hS.get x2; have x3 := hS.get x3; have x4 := hS.get x4; have x5 := hS.get x5; have x6 := hS.get x6; have x7 := hS.get x7; have hVa := Lib.hid (hVa.out.ext hS); have hVb := Lib.hid (hVb.out.ext hS); have hVc := Lib.hid (hVc.out.ext hS); have hVd := Lib.hid (hVd.out.ext hS); clear hE6 hS)) | (go_at_call 20; ((with_reducible refine (k3.out _ (by first | exact hVa.out | exact hVa.out.ext (Ext.refl _).drew) (by first | exact hVb.out | exact hVb.out.ext (Ext.refl _).drew)).mono ?_); rintro e w6 ⟨rfl, hE6⟩; have hS := ext_at hE0 (by first | exact hE6 | exact Ext.undrew hE6); have hE0 := hE0.trans hS; have x0 := hS.get x0; have x1 := hS.get x1; have x2 := hS.get x2; have x3 := hS.get x3; have x4 := hS.get x4; have x5 := hS.get x5; have x6 := hS.get x6; have x7 := hS.get x7; have hVa := Lib.hid (hVa.out.ext hS); have hVb := Lib.hid (hVb.out.ext hS); have hVc := Lib.hid (hVc.out.ext hS); have hVd := Lib.hid (hVd.out.ext hS); clear hE6 hS)) | (go_at_call 21; ((with_reducible refine (k4.out _ (by first | exact hVa.out | exact hVa.out.ext (Ext.refl _).drew) (by first | exact hVb.out | exact hVb.out.ext (Ext.refl _).drew)).mono ?_); rintro e w6 ⟨rfl, hE6⟩; have hS := ext_at hE0 (by first | exact hE6 | exact Ext.undrew hE6); have hE0 := hE0.trans hS; have x0 := hS.get x0; have x1 := hS.get x1; have x2 := hS.get x2; have x3 := hS.get x3; have x4 := hS.get x4; have x5 := hS.get x5; have x6 := hS.get x6; have x7 := hS.get x7; have hVa := Lib.hid (hVa.out.ext hS); have hVb := Lib.hid (hVb.out.ext hS); have hVc := Lib.hid (hVc.out.ext hS); have hVd := Lib.hid (hVd.out.ext hS); clear hE6 hS)) | (go_at_call 22; ((with_reducible refine (k5.out _ (by first | exact hVa.out | exact hVa.out.ext (Ext.refl _).drew) (by first | exact hVb.out | exact hVb.out.ext (Ext.refl _).drew)).mono ?_); rintro e w6 ⟨rfl, hE6⟩; have hS := ext_at hE0 (by first | exact hE6 | exact Ext.undrew hE6); have hE0 := hE0.trans hS; have x0 := hS.get x0; have x1 := hS.get x1; have x2 := hS.get x2; have x3 := hS.get x3; have x4 := hS.get x4; have x5 := hS.get x5; have x6 := hS.get x6; have x7 := hS.get x7; have hVa := Lib.hid (hVa.out.ext hS); have hVb := Lib.hid (hVb.out.ext hS); have hVc := Lib.hid (hVc.out.ext hS); have hVd := Lib.hid (hVd.out.ext hS); clear hE6 hS)) | (go_at_call 22; ((with_reducible refine (k6.out _ (by first | exact hVa.out | exact hVa.out.ext (Ext.refl _).drew) (by first | exact hVa.out | exact hVa.out.ext (Ext.refl _).drew)).mono ?_); rintro e w6 ⟨rfl, hE6⟩; rw [same_self]; have hS := ext_at hE0 (by first | exact hE6 | exact Ext.undrew hE6); have hE0 := hE0.trans hS; have x0 := hS.get x0; have x1 := hS.get x1; have x2 := hS.get x2; have x3 := hS.get x3; have x4 := hS.get x4; have x5 := hS.get x5; have x6 := hS.get x6; have x7 := hS.get x7; have hVa := Lib.hid (hVa.out.ext hS); have hVb := Lib.hid (hVb.out.ext hS); have hVc := Lib.hid (hVc.out.ext hS); have hVd := Lib.hid (hVd.out.ext hS); clear hE6 hS)) | (go_at_call 10; refine (awake_any _ (by first | exact g.ext hE0 | exact g.ext hE0.drew)).mono ?_; rintro e w6 ⟨rfl, hE6⟩; have hS := ext_at hE0 (by first | exact hE6 | exact Ext.undrew hE6); have hE0 := hE0.trans hS; have x0 := hS.get x0; have x1 := hS.get x1; have x2 := hS.get x2; have x3 := hS.get x3; have x4 := hS.get x4; have x5 := hS.get x5; have x6 := hS.get x6; have x7 := hS.get x7; have hVa := Lib.hid (hVa.out.ext hS); have hVb := Lib.hid (hVb.out.ext hS); have hVc := Lib.hid (hVc.out.ext hS); have hVd := Lib.hid (hVd.out.ext hS); clear hE6 hS))
        all_goals go_wp2
        all_goals go_ret
        all_goals exact ⟨rfl, hE0⟩
      · have hcb : decide ((100 : Int) < code.size) = true := by simp; omega
        go_wp2_with fail
        refine (awake_any _ (g.ext hE02)).mono ?_
        rintro e w4 ⟨rfl, hE⟩
        have hE04 := hE02.trans hE
        clear hE
        go_wp2
        go_ret
        exact ⟨rfl, hE04⟩
end Go.Proofs.YthokhncdpfaifaaGreatDoor
