/- The walk of the law MessageAnswers. -/
import Derived.Test.YthokhncdpfaifaaGreatDoorManp
import Derived.Test.YthokhncdpfaifaaGreatDoorMelp
import Derived.Test.YthokhncdpfaifaaGreatDoorMlawc
namespace Go.Proofs.YthokhncdpfaifaaGreatDoor
open Go.RowKit
theorem ans_other (ty t2 : Int) (es : List El) (code o : ByteArray) (hb : getB 11 es = true) (ho : getS 11 es ≠ o) : ansB ty t2 (withL 11 o es) (repK es code 13) = false := by
  have e1 := with_get 11 o es
  have e2 := getE_rep es code 11
  rw [if_pos (by decide), if_neg (by decide), getE_eq 11 es, if_pos hb] at e2
  have h : agrB (withL 11 o es) (repK es code 13) 11 = false := by
    have a1 : getB 11 (withL 11 o es) = true := by unfold getB; rw [e1]; rfl
    have a2 : getS 11 (withL 11 o es) = o := by unfold getS; rw [e1]; rfl
    have a3 : getS 11 (repK es code 13) = getS 11 es := by
      show (getE 11 (repK es code 13)).getD ⟨#[]⟩ = _
      rw [e2]; rfl
    unfold agrB
    rw [a1, a2, a3, decide_eq_false ho]
    simp
  unfold ansB
  rw [h]
  simp
theorem rep_get39 (es : List El) (code : ByteArray) : getS 39 (repK es code 13) = code ∧ getB 39 (repK es code 13) = true := by
  have e := getE_rep es code 39
  rw [if_pos (by decide), if_pos rfl] at e
  unfold getS getB
  rw [e]
  exact ⟨rfl, rfl⟩
def o1 : ByteArray := ⟨#[48, 48, 48, 48, 48, 49]⟩
def o2 : ByteArray := ⟨#[48, 48, 48, 48, 48, 50]⟩
theorem chk_o1 : chkC 11 o1 = 0 := by decide +kernel
theorem chk_o2 : chkC 11 o2 = 0 := by decide +kernel
theorem with_ok {ty n : Int} {val : ByteArray} {es : List El} {w : World} {e : Ending} {w' : World} (hz : chkC n val = 0) (h : WithPost ty n val es w e w') : ∃ v, e = .returned (.tuple #[msgAgg ty v, .int .i64 0]) ∧ Elems w' v (withL n val es) ∧ Ext w w' := by
  rcases h with h | h
  · exact absurd hz h.1
  · exact h.2
set_option maxRecDepth 8000 in
set_option maxHeartbeats 8000000 in
theorem law_answers (ty : Int) (v : Value) (es : List El) (code : ByteArray) (w : World) (g : Gl w) (hv : Okm w v es) (hcs : code.size ≤ 9223372036854775807) : Calls Tryz.prog 7 #[msgAgg ty v, .string code] w (LawPost w) := by
  obtain ⟨hv, hl, hsz⟩ := hv
  have hV := Lib.hid hv
  have hSz := Lib.hid hsz
  obtain ⟨q, cp, rfl⟩ := elems_form hv
  clear hv hsz
  unfold msgAgg
  go_enter Tryz.func7, Tryz.ntmps7
  go_wp2_with fail
  refine (small_any ty _ es _ (hV.out.ext ((Ext.refl w).alloc _)) hl hSz.out).mono ?_
  rintro e w1 ⟨rfl, hE1⟩
  have hB1 := (Blk.new w _ _).ext hE1
  have hE01 : Ext w w1 := ((Ext.refl w).alloc _).trans hE1
  have z0 := hB1.cell 0
  have z1 := hB1.cell 1
  simp at z0 z1
  clear hE1
  cases hsm : smallB es with
  | false =>
    clear hsm
    go_wp2_with fail
    refine (awake_any _ (g.ext hE01)).mono ?_
    rintro e w4 ⟨rfl, hE⟩
    have hE04 := hE01.trans hE
    clear hE
    go_wp2
    go_ret
    exact ⟨rfl, hE04⟩
  | true =>
    obtain ⟨h60, h400⟩ := small_yes hsm
    have hsv : SmallV es := fun j hj => by have := h400 j hj; omega
    have hSV := Lib.hid hsv
    clear hsm h400 hsv
    by_cases hc : code.size ≤ 100
    · have hcb : decide ((100 : Int) < code.size) = false := by simp; omega
      go_wp2_with fail
      refine (mcheck_any ty _ es _ (g.ext hE01) (hV.out.ext hE01) (by omega) hSV.out).mono ?_
      rintro e w2 ⟨rfl, hE2⟩
      have hB2 := hB1.ext hE2
      have hE02 := hE01.trans hE2
      clear hE2 hB1 z0 z1
      have z0 := hB2.cell 0
      have z1 := hB2.cell 1
      simp at z0 z1
      by_cases hm : mchk ty es = 0
      · rw [hm]
        clear hm
        have hR := Lib.hid (fun w hv => reply_any ty (.slice q es.length cp) es code w hv (by omega) (by omega))
        unfold msgAgg at hR
        go_wp2_with fail
        refine (hR.out _ (hV.out.ext hE02)).mono ?_
        rintro e w3 ⟨v3, rfl, hv3, hE3⟩
        have hV3 := Lib.hid hv3
        obtain ⟨p3, c3, rfl⟩ := elems_form hv3
        have hB3 := hB2.ext hE3
        have hE03 := hE02.trans hE3
        clear hv3 hE3 hB2 z0 z1 hR
        unfold msgAgg
        by_cases hre : repE ty code = 0
        · have hrt : repT ty code = ty + 10 := by unfold repT; rw [if_pos hre]
          have hrl : repL ty es code = repK es code 13 := by unfold repL; rw [if_pos hre]
          have hask : asksB ty = true := by
            unfold repE at hre
            cases h : asksB ty with
            | true => rfl
            | false => rw [if_pos h] at hre; cases hre
          have hAsk := Lib.hid hask
          obtain ⟨ht1, ht2⟩ := asks_bd hask
          have hlk := repK_len es code 13 (by omega)
          rw [hre, hrt, hrl]
          rw [hrl] at hV3
          obtain ⟨rs, hrs⟩ : ∃ rs, rs = repK es code 13 := ⟨_, rfl⟩
          rw [← hrs]
          rw [← hrs] at hV3 hlk
          have hRS := Lib.hid hrs
          clear hre hrt hrl hask hrs
          have g39 := rep_get39 es code
          rw [← hRS.out] at g39
          have hG39 := Lib.hid (fun w hv => get_any (ty + 10) 39 (.slice p3 rs.length c3) rs w hv (by omega))
          rw [g39.1, g39.2] at hG39
          have hAn1 := Lib.hid (fun w h1 h2 => answers_any ty (ty + 10) (.slice q es.length cp) (.slice p3 rs.length c3) es rs w h1 h2 (by omega) (by omega))
          have hAn2 := Lib.hid (fun w h1 h2 => answers_any (ty + 10) ty (.slice p3 rs.length c3) (.slice q es.length cp) rs es w h1 h2 (by omega) (by omega))
          have hr1 := rep_ans ty es code hAsk.out
          rw [← hRS.out] at hr1
          rw [hr1] at hAn1
          rw [rep_not ty es rs hAsk.out] at hAn2
          unfold msgAgg at hG39 hAn1 hAn2
          clear g39 hr1
          have hwr : IntKind.i64.wrap (ty + 10) = ty + 10 := by rw [IntKind.wrap_i64] <;> omega
          go_wp2_with fail
          refine (hG39.out _ (hV3.out.ext ((Ext.refl w3).alloc _))).mono ?_
          rintro e w4 ⟨rfl, hE4⟩
          have hE34 : Ext w3 w4 := ((Ext.refl w3).alloc _).trans hE4
          have hB4 := hB3.ext hE34
          have hD4 := (Blk.new w3 #[.int .i64 (ty + 10), .slice p3 rs.length c3] 24).ext hE4
          obtain ⟨R, hR⟩ : ∃ R, R = w3.heap.size := ⟨_, rfl⟩
          rw [← hR] at hD4
          rw [← hR]
          have hV4 := Lib.hid (hV3.out.ext hE34)
          have hE04 := hE03.trans hE34
          have hlR : w.heap.size < R := by rw [hR]; exact hB3.lt
          clear hG39 hE4 hE34 hB3 hE03 hV3 hR
          have z0 := hB4.cell 0
          have z1 := hB4.cell 1
          have r0 := hD4.cell 0
          have r1 := hD4.cell 1
          simp at z0 z1 r0 r1
          go_wp2_with fail
          refine (hAn1.out _ (hV.out.ext hE04) hV4.out).mono ?_
          rintro e w5 ⟨rfl, hE5⟩
          have hB5 := hB4.ext hE5
          have hD5 := hD4.ext hE5
          have hV5 := Lib.hid (hV4.out.ext hE5)
          have hE05 := hE04.trans hE5
          clear hAn1 hE5 hB4 hD4 hE04 hV4 z0 z1 r0 r1
          have z0 := hB5.cell 0
          have z1 := hB5.cell 1
          have r0 := hD5.cell 0
          have r1 := hD5.cell 1
          simp at z0 z1 r0 r1
          go_wp2_with fail
          refine (hAn2.out _ hV5.out (hV.out.ext hE05)).mono ?_
          rintro e w6 ⟨rfl, hE6⟩
          have hB6 := hB5.ext hE6
          have hD6 := hD5.ext hE6
          have hV6 := Lib.hid (hV5.out.ext hE6)
          have hE06 := hE05.trans hE6
          clear hAn2 hE6 hB5 hD5 hE05 hV5 z0 z1 r0 r1 hwr
          obtain ⟨wr, rfl⟩ : ∃ wr : World, wr = w6 := ⟨_, rfl⟩
          go_wp2
          go_loopw [9] (fun i wr => ∃ k : Nat, 1 ≤ k ∧ (k ≤ rs.length ∨ k = 1) ∧ i = .int .i64 k ∧ Ext w wr ∧ Blk wr w.heap.size #[.int .i64 ty, .slice q es.length cp] 24 ∧ Blk wr R #[.int .i64 (ty + 10), .slice p3 rs.length c3] 24 ∧ Elems wr (.slice p3 rs.length c3) rs) (fun i _ => rs.length + 1 - (intOf i).toNat)
          case atStart => exact ⟨1, by omega, Or.inr rfl, rfl, hE06, hB6, hD6, hV6.out⟩
          case round =>
            clear hE06 hB6 hD6 hV6
            obtain ⟨k, hk1, hk2, rfl, hE, hB, hD, hvr⟩ := hrel
            have hVr := Lib.hid hvr
            have hP := Lib.hid (elems_cells hvr)
            clear hvr
            have z0 := hB.cell 0
            have z1 := hB.cell 1
            have r0 := hD.cell 0
            have r1 := hD.cell 1
            simp at z0 z1 r0 r1
            by_cases hlt : k < rs.length
            · obtain ⟨b, off, rfl, hcs⟩ := hP.out (by omega)
              obtain ⟨km, hkm⟩ : ∃ km, k = km + 1 := ⟨k - 1, by omega⟩
              have c0 := (hcs k hlt).1
              have c1 := (hcs km (by omega)).1
              have hsub : IntKind.i64.wrap ((k : Int) - 1) = (km : Int) := by rw [IntKind.wrap_i64] <;> omega
              have hb1 : (km : Int) < rs.length := by omega
              have hb2 : (0 : Int) ≤ km := by omega
              have hasc := rep_asc_at es code km (by rw [← hRS.out]; omega)
              rw [← hRS.out, ← hkm] at hasc
              clear hcs hkm
              generalize (rs.getD k elD).1 = n1 at *
              generalize (rs.getD km elD).1 = n0 at *
              go_wp2
              go_quiet (fail)
              clear hsub
              go_wp2
              go_roundw
              case rel => exact ⟨k + 1, by omega, Or.inl (by omega), by go_num, hE.drewN _, hB.drewN _, hD.drewN _, hVr.out.ext ((Ext.refl _).drewN _)⟩
              case measure => simp [intOf]; omega
            · clear hP
              have hG := Lib.hid (fun w hv => get_any ty 11 (.slice q es.length cp) es w hv (by omega))
              unfold msgAgg at hG
              go_wp2_with fail
              refine (hG.out _ (hV.out.ext hE)).mono ?_
              rintro e w7 ⟨rfl, hE7⟩
              have hB7 := hB.ext hE7
              have hD7 := hD.ext hE7
              have hE07 := hE.trans hE7
              clear hG hB hD hE z0 z1 r0 r1
              have z0 := hB7.cell 0
              have z1 := hB7.cell 1
              have r0 := hD7.cell 0
              have r1 := hD7.cell 1
              simp at z0 z1 r0 r1
              by_cases hs11 : getS 11 es = ⟨#[48, 48, 48, 48, 48, 49]⟩
              · rw [hs11]
                have hNo := Lib.hid (fun h => ans_other ty (ty + 10) es code o2 h (by rw [hs11]; decide))
                rw [← hRS.out] at hNo
                have hW := Lib.hid (fun w g hv => with_any ty 11 o2 (.slice q es.length cp) es w g hv (by omega) (by decide))
                have hll := withL_len 11 o2 es
                unfold msgAgg at hW
                unfold o2 at hW
                go_wp2_with fail
                refine (hW.out _ (g.ext hE07) (hV.out.ext hE07)).mono ?_
                rintro e w8 hwp
                obtain ⟨v8, rfl, hv8, hE8⟩ := with_ok chk_o2 hwp
                have hV8 := Lib.hid hv8
                obtain ⟨p8, c8, rfl⟩ := elems_form hv8
                unfold msgAgg
                generalize withL 11 o2 es = ws at *
                have hD8 := hD7.ext hE8
                have hVr8 := Lib.hid (hVr.out.ext (hE7.trans hE8))
                have hE08 := hE07.trans hE8
                clear hW hwp hv8 hE8 hD7 hB7 z0 z1 r0 r1 hVr hE07 hE7
                have r0 := hD8.cell 0
                have r1 := hD8.cell 1
                have hlR8 := hD8.lt
                simp at r0 r1
                cases hgb : getB 11 es with
                | false =>
                  go_wp2_with fail
                  refine (awake_any _ (g.ext (hE08.alloc _))).mono ?_
                  rintro e w9 ⟨rfl, hE9⟩
                  have hE09 := (hE08.alloc _).trans hE9
                  clear hE9
                  go_wp2
                  go_ret
                  exact ⟨rfl, hE09⟩
                | true =>
                  have hAn3 := Lib.hid (fun w h1 h2 => answers_any ty (ty + 10) (.slice p8 ws.length c8) (.slice p3 rs.length c3) ws rs w h1 h2 (by omega) (by omega))
                  rw [hNo.out hgb] at hAn3
                  unfold msgAgg at hAn3
                  go_wp2_with fail
                  refine (hAn3.out _ (hV8.out.ext ((Ext.refl w8).alloc _)) (hVr8.out.ext ((Ext.refl w8).alloc _))).mono ?_
                  rintro e w9 ⟨rfl, hE9⟩
                  have hE09 := (hE08.alloc _).trans hE9
                  clear hE9
                  go_wp2_with fail
                  refine (awake_any _ (g.ext hE09)).mono ?_
                  rintro e w10 ⟨rfl, hE10⟩
                  have hE010 := hE09.trans hE10
                  clear hE10
                  go_wp2
                  go_ret
                  exact ⟨rfl, hE010⟩
              · have hs11b : ((getS 11 es).toList == [48, 48, 48, 48, 48, 49]) = false := by
                  have h := strNe hs11
                  rw [show (⟨#[48, 48, 48, 48, 48, 49]⟩ : ByteArray).toList = [48, 48, 48, 48, 48, 49] by rw [ByteArray.toList_eq]] at h
                  exact h
                have hNo := Lib.hid (fun h => ans_other ty (ty + 10) es code o1 h hs11)
                rw [← hRS.out] at hNo
                have hW := Lib.hid (fun w g hv => with_any ty 11 o1 (.slice q es.length cp) es w g hv (by omega) (by decide))
                have hll := withL_len 11 o1 es
                unfold msgAgg at hW
                unfold o1 at hW
                go_wp2_with fail
                refine (hW.out _ (g.ext hE07) (hV.out.ext hE07)).mono ?_
                rintro e w8 hwp
                obtain ⟨v8, rfl, hv8, hE8⟩ := with_ok chk_o1 hwp
                have hV8 := Lib.hid hv8
                obtain ⟨p8, c8, rfl⟩ := elems_form hv8
                unfold msgAgg
                generalize withL 11 o1 es = ws at *
                have hD8 := hD7.ext hE8
                have hVr8 := Lib.hid (hVr.out.ext (hE7.trans hE8))
                have hE08 := hE07.trans hE8
                clear hW hwp hv8 hE8 hD7 hB7 z0 z1 r0 r1 hVr hE07 hE7
                have r0 := hD8.cell 0
                have r1 := hD8.cell 1
                have hlR8 := hD8.lt
                simp at r0 r1
                cases hgb : getB 11 es with
                | false =>
                  go_wp2_with fail
                  refine (awake_any _ (g.ext (hE08.alloc _))).mono ?_
                  rintro e w9 ⟨rfl, hE9⟩
                  have hE09 := (hE08.alloc _).trans hE9
                  clear hE9
                  go_wp2
                  go_ret
                  exact ⟨rfl, hE09⟩
                | true =>
                  have hAn3 := Lib.hid (fun w h1 h2 => answers_any ty (ty + 10) (.slice p8 ws.length c8) (.slice p3 rs.length c3) ws rs w h1 h2 (by omega) (by omega))
                  rw [hNo.out hgb] at hAn3
                  unfold msgAgg at hAn3
                  go_wp2_with fail
                  refine (hAn3.out _ (hV8.out.ext ((Ext.refl w8).alloc _)) (hVr8.out.ext ((Ext.refl w8).alloc _))).mono ?_
                  rintro e w9 ⟨rfl, hE9⟩
                  have hE09 := (hE08.alloc _).trans hE9
                  clear hE9
                  go_wp2_with fail
                  refine (awake_any _ (g.ext hE09)).mono ?_
                  rintro e w10 ⟨rfl, hE10⟩
                  have hE010 := hE09.trans hE10
                  clear hE10
                  go_wp2
                  go_ret
                  exact ⟨rfl, hE010⟩
        · have hre8 : (repE ty code != 0) = true := by simpa using hre
          have hrl : repL ty es code = [] := by unfold repL; rw [if_neg hre]
          have hl0 : (repL ty es code).length = 0 := by rw [hrl]; rfl
          rw [hl0]
          generalize repE ty code = re at *
          generalize repT ty code = rt at *
          go_wp2_with fail
          refine (awake_any _ (g.ext (hE03.alloc _))).mono ?_
          rintro e w4 ⟨rfl, hE⟩
          have hE04 := (hE03.alloc _).trans hE
          clear hE
          go_wp2
          go_ret
          exact ⟨rfl, hE04⟩
      · have hmb : (mchk ty es != 0) = true := by simpa using hm
        go_wp2_with fail
        refine (awake_any _ (g.ext hE02)).mono ?_
        rintro e w4 ⟨rfl, hE⟩
        have hE04 := hE02.trans hE
        clear hE
        go_wp2
        go_ret
        exact ⟨rfl, hE04⟩
    · have hcb : decide ((100 : Int) < code.size) = true := by simp; omega
      go_wp2_with fail
      refine (awake_any _ (g.ext hE01)).mono ?_
      rintro e w4 ⟨rfl, hE⟩
      have hE04 := hE01.trans hE
      clear hE
      go_wp2
      go_ret
      exact ⟨rfl, hE04⟩
end Go.Proofs.YthokhncdpfaifaaGreatDoor
