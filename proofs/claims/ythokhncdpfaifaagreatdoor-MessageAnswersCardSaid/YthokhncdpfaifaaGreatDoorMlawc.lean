/- The walk of the law MessageCodes. -/
import Derived.Test.YthokhncdpfaifaaGreatDoorMlawd
namespace Go.Proofs.YthokhncdpfaifaaGreatDoor
open Go.RowKit
theorem small_yes {es : List El} (h : smallB es = true) : es.length ≤ 60 ∧ ∀ j, j < es.length → (es.getD j elD).2.size ≤ 400 := by
  unfold smallB at h
  rw [Bool.and_eq_true, decide_eq_true_iff, List.all_eq_true] at h
  refine ⟨h.1, fun j hj => ?_⟩
  have := h.2 es[j] (List.getElem_mem hj)
  simpa [List.getElem?_eq_getElem hj] using this
/-- What the row gives of a message's elements. -/
structure Okm (w : World) (v : Value) (es : List El) : Prop where
  el : Elems w v es
  len : es.length ≤ 9223372036854775807
  val : ∀ j, j < es.length → (es.getD j elD).2.size ≤ 9223372036854775807
set_option maxRecDepth 8000 in
set_option maxHeartbeats 4000000 in
theorem law_codes (ty : Int) (v : Value) (es : List El) (w : World) (g : Gl w) (hv : Okm w v es) : Calls Tryz.prog 3 #[msgAgg ty v] w (LawPost w) := by
  obtain ⟨hv, hl, hsz⟩ := hv
  have hV := Lib.hid hv
  have hSz := Lib.hid hsz
  obtain ⟨q, cp, rfl⟩ := elems_form hv
  clear hv hsz
  unfold msgAgg
  go_enter Tryz.func3, Tryz.ntmps3
  go_wp2_with fail
  refine (small_any ty _ es _ (hV.out.ext ((Ext.refl w).alloc _)) hl hSz.out).mono ?_
  rintro e w1 ⟨rfl, hE1⟩
  have hB1 := (Blk.new w _ _).ext hE1
  have hE01 : Ext w w1 := ((Ext.refl w).alloc _).trans hE1
  have z0 := hB1.cell 0
  have z1 := hB1.cell 1
  simp at z0 z1
  clear hE1
  cases hsm : smallB es with
  | false =>
    clear hsm
    go_wp2_with fail
    refine (awake_any _ (g.ext hE01)).mono ?_
    rintro e w4 ⟨rfl, hE⟩
    have hE04 := hE01.trans hE
    clear hE
    go_wp2
    go_ret
    exact ⟨rfl, hE04⟩
  | true =>
    obtain ⟨h60, h400⟩ := small_yes hsm
    have hsv : SmallV es := fun j hj => by have := h400 j hj; omega
    have hSV := Lib.hid hsv
    clear hsm h400 hsv
    go_wp2_with fail
    refine (mencode_any ty _ es _ (g.ext hE01) (hV.out.ext hE01) (by omega) hSV.out).mono ?_
    rintro e w2 ⟨rfl, hE2⟩
    have hB2 := hB1.ext hE2
    have hE02 := hE01.trans hE2
    clear hE2 hB1 z0 z1
    have z0 := hB2.cell 0
    have z1 := hB2.cell 1
    simp at z0 z1
    go_wp2_with fail
    refine (rmencode_any ty _ es _ (hV.out.ext hE02) (by omega) hSV.out).mono ?_
    rintro e w3 ⟨rfl, hE3⟩
    have hB3 := hB2.ext hE3
    have hE0 := hE02.trans hE3
    clear hE3 hB2 z0 z1
    have x0 : w3.cell? ⟨w.heap.size, 0, none⟩ = some (.int .i64 ty) := hB3.cell 0
    have x1 : w3.cell? ⟨w.heap.size, 1, none⟩ = some (.slice q es.length cp) := hB3.cell 1
    have hVc := Lib.hid (hV.out.ext hE0)
    generalize encMS ty es = cs at *
    have hM1 := Lib.hid (fun w g hv hl hs => mcheck_any ty (.slice q es.length cp) es w g hv hl hs)
    have hM2 := Lib.hid (fun w hv hl hs => rmcheck_any ty (.slice q es.length cp) es w hv hl hs)
    unfold msgAgg at hM1 hM2
    generalize mchk ty es = mc at *
    clear hB3
    go_wp2_with fail
    go_region_held3 (fun w' => w'.cell? ⟨w.heap.size, 0, none⟩ = some (.int .i64 ty) ∧ w'.cell? ⟨w.heap.size, 1, none⟩ = some (.slice q es.length cp)) (first | exact ⟨by assumption, by assumption⟩ | exact ⟨x0, x1⟩) (first | (go_at_call 13; refine (hM1.out _ (by first | exact g.ext hE0 | exact g.ext hE0.drew) (by first | exact hVc.out | exact hVc.out.ext (Ext.refl _).drew) (by omega) hSV.out).mono ?_; rintro e w6 ⟨rfl, hE6⟩; have hS := ext_at hE0 (by first | exact hE6 | exact Ext.undrew hE6); have hE0 := hE0.trans hS; have x0 := hS.get x0; have x1 := hS.get x1; have hVc := Lib.hid (hVc.out.ext hS); clear hE6 hS) | (go_at_call 14; refine (hM2.out _ (by first | exact hVc.out | exact hVc.out.ext (Ext.refl _).drew) (by omega) hSV.out).mono ?_; rintro e w6 ⟨rfl, hE6⟩; have hS := ext_at hE0 (by first | exact hE6 | exact Ext.undrew hE6); have hE0 := hE0.trans hS; have x0 := hS.get x0; have x1 := hS.get x1; have hVc := Lib.hid (hVc.out.ext hS); clear hE6 hS) | (go_at_call 10; refine (awake_any _ (by first | exact g.ext hE0 | exact g.ext hE0.drew)).mono ?_; rintro e w6 ⟨rfl, hE6⟩; have hS := ext_at hE0 (by first | exact hE6 | exact Ext.undrew hE6); have hE0 := hE0.trans hS; have x0 := hS.get x0; have x1 := hS.get x1; have hVc := Lib.hid (hVc.out.ext hS); clear hE6 hS))
    all_goals go_wp2
    all_goals go_ret
    all_goals exact ⟨rfl, hE0⟩
end Go.Proofs.YthokhncdpfaifaaGreatDoor
