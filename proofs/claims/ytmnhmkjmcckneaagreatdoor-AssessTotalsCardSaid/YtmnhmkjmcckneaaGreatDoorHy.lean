/- The walk of the law AssessTotals over one row or more (printed by gen/h15.py). -/
import Derived.Test.YtmnhmkjmcckneaaGreatDoorHz
namespace Go.Proofs.YtmnhmkjmcckneaaGreatDoor
open Go.RowKit
set_option maxRecDepth 8000 in
set_option maxHeartbeats 8000000 in
theorem law_totals_cons (lv : Value) (l : List Q4D) (hne : Hid (0 < l.length)) (cut : Int) (w : World) (g : Gw w) (hQ : QM w lv l) (hc0 : 0 ≤ cut) (hc1 : cut ≤ 255) : Calls Tryz.prog 7 #[lv, .int .u8 cut] w (OneV (.bool true) w) := by
 have kW := Lib.hid (fun w1 (h : Ext w w1) => awake38_any w1 (g.ext h))
 obtain ⟨lp, lc, rfl⟩ := hQ.form
 have hll := hQ.1
 obtain ⟨i0, hi, hz0, hz1, hz2⟩ := info_partsE infoReE
 replace hi := Lib.hid hi
 replace hz0 := Lib.hid hz0
 replace hz1 := Lib.hid hz1
 replace hz2 := Lib.hid hz2
 by_cases hbig : 40 < l.length
 · have d : decide ((40 : Int) < (l.length : Int)) = true := decide_eq_true (by omega)
   go_enter Tryz.func7, Tryz.ntmps7
   go_wp2_with fail
   have hE8 := Ext.refl w
   refine (kW.out _ hE8).mono ?_
   rintro e w9 ⟨rfl, hE9⟩
   replace hE := hE8.trans hE9
   clear hE9
   go_wp2
   go_ret
   exact ⟨rfl, hE⟩
 have d : decide ((40 : Int) < (l.length : Int)) = false := decide_eq_false (by omega)
 go_enter Tryz.func7, Tryz.ntmps7
 obtain ⟨c2, hc2⟩ : ∃ c2, c2 = codeT38 := ⟨_, rfl⟩
 change Code.wp _ (plug4 ((Tryz.f7.body).getD .skip) codeT38) _ _ _
 rw [← hc2]
 conv => arg 2; whnf
 go_wp2_with fail
 clear d
 go_loopw [5, 7] (fun v i wr => ∃ k : Nat, k ≤ l.length ∧ i = .int .i64 k ∧ Q4N l k ∧ RS wr w.heap.size v ((l.take k).map resQ) ∧ Ext w wr) (fun _ i _ => l.length - (intOf i).toNat)
 case atStart => exact ⟨0, Nat.zero_le _, rfl, fun j hj => absurd hj (by omega), RS.nil _ _, Ext.refl _⟩
 case round =>
  obtain ⟨k, hk, rfl, hq, hrs, hE⟩ := hrel
  replace hrs := Lib.hid hrs
  replace hq := Lib.hid hq
  by_cases hlt : k < l.length
  · obtain ⟨b, off, rfl, hkid⟩ := hQ.at (by omega)
    have hc := hkid k hlt
    have hsn := Lib.hid (fun h => q4n_snoc (l := l) (k := k) hq.out h)
    have htk := Lib.hid (resQ_take hlt)
    clear hkid
    generalize l.getD k q4D = q at *
    replace hc := Lib.hid hc
    go_wp2_with fail
    rename World => wo
    go_loopw [8] (fun i wq => ∃ j : Nat, j ≤ 4 ∧ i = .int .i64 j ∧ (∀ m, m < j → InQ (q4N q m)) ∧ Ext wo wq) (fun i _ => 4 - (intOf i).toNat)
    case atStart => exact ⟨0, Nat.zero_le _, rfl, fun m h => absurd h (by omega), Ext.refl _⟩
    case round =>
     obtain ⟨j, hj, rfl, hm, hEq⟩ := hrel
     by_cases hj4 : j < 4
     · have y : wr.cell? ⟨b, off + k * 4 + j, none⟩ = some (.int .i64 (q4N q j)) := (hc.out.ext (hE.trans hEq)) j hj4
       have hnext : InQ (q4N q j) → ∀ m, m < j + 1 → InQ (q4N q m) := fun h m hm' => by
        by_cases e : m = j
        · rw [e]; exact h
        · exact hm m (by omega)
       replace hnext := Lib.hid hnext
       have hEe := hE.trans hEq
       clear hm
       generalize q4N q j = n at *
       by_cases hn1 : 1099511627776 < n
       · have d1 : decide ((1099511627776 : Int) < n) = true := decide_eq_true hn1
         go_wp2_with fail
         have hE8 := hEe
         refine (kW.out _ hE8).mono ?_
         rintro e w9 ⟨rfl, hE9⟩
         replace hE := hE8.trans hE9
         clear hE9
         go_wp2
         go_ret
         exact ⟨rfl, hE⟩
       have d1 : decide ((1099511627776 : Int) < n) = false := decide_eq_false hn1
       by_cases hn2 : n < -1099511627776
       · have d2 : decide (n < -1099511627776) = true := decide_eq_true hn2
         go_wp2_with fail
         have hE8 := hEe
         refine (kW.out _ hE8).mono ?_
         rintro e w9 ⟨rfl, hE9⟩
         replace hE := hE8.trans hE9
         clear hE9
         go_wp2
         go_ret
         exact ⟨rfl, hE⟩
       have d2 : decide (n < -1099511627776) = false := decide_eq_false hn2
       have hm2 := Lib.hid (hnext.out ⟨by omega, by omega⟩)
       clear hnext
       go_wp2
       go_roundw
       case rel => exact ⟨j + 1, by omega, by go_num, hm2.out, hEq⟩
       case measure => simp [intOf]; omega
     · obtain rfl : j = 4 := by omega
       have hok := Lib.hid (hsn.out hm)
       have hcw := hc.out.ext (hE.trans hEq)
       have hqc := hc.out
       have hin := resQ_in hm
       replace hE := hE.trans hEq
       replace hrs := Lib.hid (hrs.out.ext hEq)
       have y0 := hcw 0 (by omega)
       have y1 := hcw 1 (by omega)
       have y2 := hcw 2 (by omega)
       have y3 := hcw 3 (by omega)
       have m0 := hm 0 (by omega)
       have m1 := hm 1 (by omega)
       have m2 := hm 2 (by omega)
       have m3 := hm 3 (by omega)
       obtain ⟨a, b1, c, d⟩ := q
       unfold InQ at m0 m1 m2 m3
       simp only [q4N, Nat.add_zero] at y0 y1 y2 y3 m0 m1 m2 m3
       have hys : ((l.take k).map resQ).length = k := by rw [List.length_map, List.length_take]; omega
       have u1 := Lib.hid (show k + 1 ≤ maxLen by unfold maxLen; omega)
       have u2 := Lib.hid (show (k + 1) * 160 ≤ 140737488355328 by omega)
       have u3 : Hid (w.heap.size ≤ (wr.alloc (.cells #[.string ⟨#[97]⟩, .int .i64 a, .string ⟨#[]⟩, .string ⟨#[]⟩, .int .i64 0, .string ⟨#[]⟩, .string ⟨#[]⟩, .int .i64 b1, .string ⟨#[119]⟩, .int .i64 a, .int .i64 b1, .int .i64 c, .int .i64 d, .int .i64 (-a - b1 - c - d)] 35)).drew.heap.size) := Lib.hid (by have := hE.size; simp; omega)
       have u4 := Lib.hid (show k < 1000000 by omega)
       have e0 : IntKind.i64.wrap (-a) = -a := by rw [IntKind.wrap_i64] <;> omega
       have e1 : IntKind.i64.wrap (-a - b1) = -a - b1 := by rw [IntKind.wrap_i64] <;> omega
       have e2 : IntKind.i64.wrap (-a - b1 - c) = -a - b1 - c := by rw [IntKind.wrap_i64] <;> omega
       have e3 : IntKind.i64.wrap (-a - b1 - c - d) = -a - b1 - c - d := by rw [IntKind.wrap_i64] <;> omega
       clear m0 m1 m2 m3 hin hm hEq hcw hc hq hsn
       obtain ⟨vp, vc, hvv⟩ := hrs.out.form
       subst hvv
       have hrow := hrs.out.2
       have hyl := hrs.out.1
       generalize (l.take k).map resQ = ys at *
       rw [hys] at hrow hyl ⊢
       clear hrs
       go_wp2_with fail
       replace hrow := Lib.hid hrow
       replace htk := Lib.hid htk.out
       clear hyl hll
       have v0 := hqc 0 (by omega)
       have v1 := hqc 1 (by omega)
       have v2 := hqc 2 (by omega)
       have v3 := hqc 3 (by omega)
       simp only [q4N, Nat.add_zero] at v0 v1 v2 v3
       clear hqc
       go_region_held3 (fun w' => w'.cell? ⟨b, off + k * 4, none⟩ = some (.int .i64 a) ∧ w'.cell? ⟨b, off + k * 4 + 1, none⟩ = some (.int .i64 b1) ∧ w'.cell? ⟨b, off + k * 4 + 2, none⟩ = some (.int .i64 c) ∧ w'.cell? ⟨b, off + k * 4 + 3, none⟩ = some (.int .i64 d)) (first | exact ⟨y0, y1, y2, y3⟩ | exact ⟨((Ext.refl _).alloc _).get y0, ((Ext.refl _).alloc _).get y1, ((Ext.refl _).alloc _).get y2, ((Ext.refl _).alloc _).get y3⟩ | exact ⟨hE5.get v0, hE5.get v1, hE5.get v2, hE5.get v3⟩) (first | ((refine step_append_lies _ (by rfl) _ _ _ (by rfl) w.heap.size 35 i0 (.agg #[.string ⟨#[]⟩, .int .i64 0, .string ⟨#[]⟩, .string ⟨#[]⟩, .int .i64 0, .string ⟨#[]⟩, .string ⟨#[]⟩, .int .i64 0, .string ⟨#[]⟩, .int .i64 0, .int .i64 0, .int .i64 0, .int .i64 0, .int .i64 0]) 14 160 Tryz.underlying57 hi.out hz0.out hz1.out hz2.out rfl (Nat.succ_pos 13) (.slice vp k vc) k (resFlat ys) (by rfl) (ownsRow_extE hrow.out (by repeat (first | with_reducible exact Ext.refl _ | with_reducible refine Ext.alloc ?_ _ | with_reducible refine Ext.drew ?_ | with_reducible refine Ext.drewN ?_ _))) ⟨wr.heap.size, 0, none⟩ 1 1 (resCells (resQ ⟨a, b1, c, d⟩)) (by rfl) (by rfl) (by first | exact cell_re_new (x := resQ ⟨a, b1, c, d⟩) (blk_drewT (Blk.new' wr _ 35 _ rfl)) | exact cell_re_new (x := resQ ⟨a, b1, c, d⟩) (Blk.new' wr _ 35 _ rfl)) (re_one _) Nat.one_pos u1.out u2.out u3.out (wr.heap.size + 1) (by simp) ?_); intro gg cap w5 hown5 hgrow5 hat5 hgl5; have hgrow5 := grown_undrew' hgrow5; have hE5 : Ext w w5 := Below.grown (hE.alloc (.cells #[.string ⟨#[97]⟩, .int .i64 a, .string ⟨#[]⟩, .string ⟨#[]⟩, .int .i64 0, .string ⟨#[]⟩, .string ⟨#[]⟩, .int .i64 b1, .string ⟨#[119]⟩, .int .i64 a, .int .i64 b1, .int .i64 c, .int .i64 d, .int .i64 (-a - b1 - c - d)] 35)) hgrow5 (hE.alloc _).size (fun q hq => (hrow.out.lt q hq).1)))
       have hrl5 := Lib.hid (RS.push (ys := ys) (y := resQ ⟨a, b1, c, d⟩) (by rw [hys]; exact u4.out) (by rw [hys]; exact hown5))
       rw [hys, ← htk.out] at hrl5
       clear hown5 hgrow5 hat5 hgl5 hrow e0 e1 e2 e3 y0 y1 y2 y3 v0 v1 v2 v3
       go_wp2
       go_roundw
       case rel => exact ⟨k + 1, by omega, by go_num, hok.out, hrl5.out, hE5⟩
       case measure => simp [intOf]; omega
  · obtain rfl : k = l.length := by omega
    have hall := q4n_all hq.out
    rw [List.take_length] at hrs
    have h40 : l.length ≤ 40 := by omega
    clear hq hlt hk
    go_wp2_with fail
    subst hc2
    exact totals_rest l hne cut w _ g hall h40 hc0 hc1 _ hrs.out hE _ _ _ _ _ _ _ _ _ _ _ _ _ _ _ _ _ _ _ _ _ _ _ _ _ _ _ _ _ _ _ _ _ _ _ _ _ _ _ _ _ _ _ _ _ _ _ _ _ _ _ _ _ _ _ _ _ _ _ _ _ _ _ _ _ _ _ _ _ _ _ _ _ _ _ _ _ _ _ _ _ _ _ _ _ _ _ _ _ _ _ _ _ _ _ _ _ _ _
theorem law_totals (lv : Value) (l : List Q4D) (cut : Int) (w : World) (g : Gw w) (hQ : QM w lv l) (hc0 : 0 ≤ cut) (hc1 : cut ≤ 255) : Calls Tryz.prog 7 #[lv, .int .u8 cut] w (OneV (.bool true) w) := by
 by_cases h : l.length = 0
 · obtain ⟨lp, lc, rfl⟩ := hQ.form
   rw [h]
   exact law_totals_nil lp lc cut w g hc0 hc1
 · exact law_totals_cons lv l (Lib.hid (Nat.pos_of_ne_zero h)) cut w g hQ hc0 hc1
end Go.Proofs.YtmnhmkjmcckneaaGreatDoor
