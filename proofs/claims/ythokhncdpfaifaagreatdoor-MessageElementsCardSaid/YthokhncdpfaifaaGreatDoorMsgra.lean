/- Contracts of the reference's agrees and Answers (walks). -/
import Derived.Test.YthokhncdpfaifaaGreatDoorMsgF
namespace Go.Proofs.YthokhncdpfaifaaGreatDoor
open Go.RowKit
set_option maxRecDepth 8000 in
set_option maxHeartbeats 2000000 in
theorem agrees_any (t1 t2 n : Int) (v1 v2 : Value) (es rs : List El) (w : World) (h1 : Elems w v1 es) (h2 : Elems w v2 rs) (hl1 : es.length ≤ 1000000) (hl2 : rs.length ≤ 1000000) :
    Calls Tryz.prog 58 #[msgAgg t1 v1, msgAgg t2 v2, .int .i64 n] w (OneV (.bool (agrB es rs n)) w) := by
  have hV1 := Lib.hid h1
  have hV2 := Lib.hid h2
  obtain ⟨q1, c1, rfl⟩ := elems_form h1
  obtain ⟨q2, c2, rfl⟩ := elems_form h2
  clear h1 h2
  unfold msgAgg
  go_enter Tryz.func58, Tryz.ntmps58
  go_wp2_with fail
  refine (rGet_any t1 n _ es _ (hV1.out.ext (by repeat (first | with_reducible exact Ext.refl _ | with_reducible exact hE0 | with_reducible exact hE | with_reducible refine Ext.alloc ?_ _ | with_reducible refine Ext.drewN ?_ _ | with_reducible refine Ext.drew ?_ | ((with_reducible refine Ext.setCell ?_ ?side _); (case side => first | exact Nat.le_refl _ | (simp; done) | (simp; omega)))))) hl1).mono ?_
  rintro e w1 ⟨rfl, hE1⟩
  have hB2 := (Blk.new' (w.alloc (.cells #[.int .i64 t1, .slice q1 es.length c1] 24)) #[.int .i64 t2, .slice q2 rs.length c2] 24 (w.heap.size + 1) (by simp)).ext hE1
  have hE01 : Ext w w1 := (((Ext.refl w).alloc _).alloc _).trans hE1
  clear hE1
  have y0 := hB2.cell 0
  have y1 := hB2.cell 1
  simp at y0 y1
  go_wp2_with fail
  refine (rGet_any t2 n _ rs _ (hV2.out.ext hE01) hl2).mono ?_
  rintro e w2 ⟨rfl, hE2⟩
  have hE02 := hE01.trans hE2
  clear hE2
  cases hg1 : getB n es with
  | false =>
    have hA := Lib.hid (show agrB es rs n = true by unfold agrB; rw [hg1]; rfl)
    go_wp2
    go_ret
    rw [hA.out]
    exact ⟨rfl, hE02⟩
  | true =>
    cases hg2 : getB n rs with
    | false =>
      have hA := Lib.hid (show agrB es rs n = false by unfold agrB; rw [hg1, hg2]; rfl)
      go_wp2
      go_ret
      rw [hA.out]
      exact ⟨rfl, hE02⟩
    | true =>
      by_cases he : getS n rs = getS n es
      · have heb := strEq he.symm
        have hA := Lib.hid (show agrB es rs n = true by unfold agrB; rw [hg1, hg2, decide_eq_true he]; rfl)
        clear hg1 hg2 he
        generalize getS n rs = sr at *
        generalize getS n es = se at *
        go_wp2
        go_ret
        rw [hA.out]
        exact ⟨rfl, hE02⟩
      · have heb := strNe (fun h => he h.symm)
        have hA := Lib.hid (show agrB es rs n = false by unfold agrB; rw [hg1, hg2, decide_eq_false he]; rfl)
        clear hg1 hg2 he
        generalize getS n rs = sr at *
        generalize getS n es = se at *
        go_wp2
        go_ret
        rw [hA.out]
        exact ⟨rfl, hE02⟩
set_option maxRecDepth 8000 in
set_option maxHeartbeats 4000000 in
theorem rAnswers_any (t1 t2 : Int) (v1 v2 : Value) (es rs : List El) (w : World) (h1 : Elems w v1 es) (h2 : Elems w v2 rs) (hl1 : es.length ≤ 1000000) (hl2 : rs.length ≤ 1000000) :
    Calls Tryz.prog 21 #[msgAgg t1 v1, msgAgg t2 v2] w (OneV (.bool (ansB t1 t2 es rs)) w) := by
  have hV1 := Lib.hid h1
  have hV2 := Lib.hid h2
  obtain ⟨q1, c1, rfl⟩ := elems_form h1
  obtain ⟨q2, c2, rfl⟩ := elems_form h2
  clear h1 h2
  have hAg := Lib.hid (fun w n h1 h2 => agrees_any t1 t2 n (.slice q1 es.length c1) (.slice q2 rs.length c2) es rs w h1 h2 hl1 hl2)
  unfold msgAgg at hAg ⊢
  cases ha : asksB t1 with
  | false =>
    have hR := Lib.hid (show ansB t1 t2 es rs = false by unfold ansB; rw [ha]; rfl)
    go_enter Tryz.func21, Tryz.ntmps21
    go_wp2_with fail
    refine (asks_any t1 _).mono ?_
    rintro e w1 ⟨rfl, rfl⟩
    rw [ha]
    go_wp2
    go_ret
    rw [hR.out]
    exact ⟨rfl, (by repeat (first | with_reducible exact Ext.refl _ | with_reducible exact hE0 | with_reducible exact hE | with_reducible refine Ext.alloc ?_ _ | with_reducible refine Ext.drewN ?_ _ | with_reducible refine Ext.drew ?_ | ((with_reducible refine Ext.setCell ?_ ?side _); (case side => first | exact Nat.le_refl _ | (simp; done) | (simp; omega)))))⟩
  | true =>
    obtain ⟨hb1, hb2⟩ := asks_bd ha
    by_cases ht : t2 = t1 + 10
    · have htb : (t2 == t1 + 10) = true := by simpa using ht
      have hN : ansB t1 t2 es rs = (agrB es rs 11 && agrB es rs 37 && agrB es rs 56) := by unfold ansB; rw [ha, decide_eq_true ht]; simp
      have hNN := Lib.hid hN
      clear ht hN
      go_enter Tryz.func21, Tryz.ntmps21
      go_wp2_with fail
      refine (asks_any t1 _).mono ?_
      rintro e w1 ⟨rfl, rfl⟩
      rw [ha]
      clear ha
      go_wp2_with fail
      refine (hAg.out _ 11 (hV1.out.ext (by repeat (first | with_reducible exact Ext.refl _ | with_reducible exact hE0 | with_reducible exact hE | with_reducible refine Ext.alloc ?_ _ | with_reducible refine Ext.drewN ?_ _ | with_reducible refine Ext.drew ?_ | ((with_reducible refine Ext.setCell ?_ ?side _); (case side => first | exact Nat.le_refl _ | (simp; done) | (simp; omega)))))) (hV2.out.ext (by repeat (first | with_reducible exact Ext.refl _ | with_reducible exact hE0 | with_reducible exact hE | with_reducible refine Ext.alloc ?_ _ | with_reducible refine Ext.drewN ?_ _ | with_reducible refine Ext.drew ?_ | ((with_reducible refine Ext.setCell ?_ ?side _); (case side => first | exact Nat.le_refl _ | (simp; done) | (simp; omega))))))).mono ?_
      rintro e w1 ⟨rfl, hE1⟩
      have hB1 := ((Blk.new w #[.int .i64 t1, .slice q1 es.length c1] 24).alloc (.cells #[.int .i64 t2, .slice q2 rs.length c2] 24)).ext hE1
      have hB2 := (Blk.new' (w.alloc (.cells #[.int .i64 t1, .slice q1 es.length c1] 24)) #[.int .i64 t2, .slice q2 rs.length c2] 24 (w.heap.size + 1) (by simp)).ext hE1
      have hE01 : Ext w w1 := (((Ext.refl w).alloc _).alloc _).trans hE1
      clear hE1
      have z0 := hB1.cell 0
      have z1 := hB1.cell 1
      have y0 := hB2.cell 0
      have y1 := hB2.cell 1
      simp at z0 z1 y0 y1
      cases h11 : agrB es rs 11 with
      | false =>
        have hR := Lib.hid (hNN.out.trans (by rw [h11]))
        go_wp2
        go_ret
        rw [hR.out]
        exact ⟨rfl, hE01⟩
      | true =>
        go_wp2_with fail
        refine (hAg.out _ 37 (hV1.out.ext hE01) (hV2.out.ext hE01)).mono ?_
        rintro e w2 ⟨rfl, hE2⟩
        have hB1' := hB1.ext hE2
        have hB2' := hB2.ext hE2
        have hE02 := hE01.trans hE2
        clear hE2 hB1 hB2 z0 z1 y0 y1
        have z0 := hB1'.cell 0
        have z1 := hB1'.cell 1
        have y0 := hB2'.cell 0
        have y1 := hB2'.cell 1
        simp at z0 z1 y0 y1
        cases h37 : agrB es rs 37 with
        | false =>
          have hR := Lib.hid (hNN.out.trans (by rw [h11, h37]))
          go_wp2
          go_ret
          rw [hR.out]
          exact ⟨rfl, hE02⟩
        | true =>
          go_wp2_with fail
          refine (hAg.out _ 56 (hV1.out.ext hE02) (hV2.out.ext hE02)).mono ?_
          rintro e w3 ⟨rfl, hE3⟩
          have hE03 := hE02.trans hE3
          clear hE3
          have hR := Lib.hid (hNN.out.trans (show _ = agrB es rs 56 by rw [h11, h37]; simp))
          generalize agrB es rs 56 = b56 at *
          go_wp2
          go_ret
          rw [hR.out]
          exact ⟨rfl, hE03⟩
    · have htb : (t2 == t1 + 10) = false := by simpa using ht
      have hR := Lib.hid (show ansB t1 t2 es rs = false by unfold ansB; rw [decide_eq_false ht]; simp)
      clear ht
      go_enter Tryz.func21, Tryz.ntmps21
      go_wp2_with fail
      refine (asks_any t1 _).mono ?_
      rintro e w1 ⟨rfl, rfl⟩
      rw [ha]
      clear ha
      go_wp2
      go_ret
      rw [hR.out]
      exact ⟨rfl, (by repeat (first | with_reducible exact Ext.refl _ | with_reducible exact hE0 | with_reducible exact hE | with_reducible refine Ext.alloc ?_ _ | with_reducible refine Ext.drewN ?_ _ | with_reducible refine Ext.drew ?_ | ((with_reducible refine Ext.setCell ?_ ?side _); (case side => first | exact Nat.le_refl _ | (simp; done) | (simp; omega)))))⟩
end Go.Proofs.YthokhncdpfaifaaGreatDoor
