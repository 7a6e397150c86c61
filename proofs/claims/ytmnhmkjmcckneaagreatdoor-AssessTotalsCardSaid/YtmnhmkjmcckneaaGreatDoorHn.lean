/- Contracts of a result's numbers, of assess.within and Balanced (walks; printed by gen/h11.py). -/
import Derived.Test.YtmnhmkjmcckneaaGreatDoorHt
import Derived.Test.YtmnhmkjmcckneaaGreatDoorG1
namespace Go.Proofs.YtmnhmkjmcckneaaGreatDoor
open Go.RowKit
set_option maxHeartbeats 1000000 in
theorem within_any (n : Int) (w : World) : Calls Tryz.prog 39 #[.int .i64 n] w (OneW (.bool (totalB n)) w) := by
 unfold totalB
 by_cases h1 : -4503599627370496 ≤ n
 · by_cases h2 : n ≤ 4503599627370496
   · have d1 : decide (-4503599627370496 ≤ n) = true := decide_eq_true h1
     have d2 : decide (n ≤ 4503599627370496) = true := decide_eq_true h2
     rw [d1, d2]
     clear h1 h2
     go_enter Tryz.func39, Tryz.ntmps39
     go_wp2
     go_ret
     exact ⟨rfl, Ext.refl _⟩
   · have d1 : decide (-4503599627370496 ≤ n) = true := decide_eq_true h1
     have d2 : decide (n ≤ 4503599627370496) = false := decide_eq_false h2
     rw [d1, d2]
     clear h1 h2
     go_enter Tryz.func39, Tryz.ntmps39
     go_wp2
     go_ret
     exact ⟨rfl, Ext.refl _⟩
 · have d1 : decide (-4503599627370496 ≤ n) = false := decide_eq_false h1
   rw [d1]
   clear h1
   go_enter Tryz.func39, Tryz.ntmps39
   go_wp2
   go_ret
   exact ⟨rfl, Ext.refl _⟩
set_option maxRecDepth 8000 in
set_option maxHeartbeats 1000000 in
theorem numbers_any (x : ResD) (w : World) : Calls Tryz.prog 38 #[resAgg x] w (OneW (.agg (numC (numN x))) w) := by
 unfold resAgg
 go_enter Tryz.func38, Tryz.ntmps38
 go_wp2
 exact bodyPost_ret (v := .agg #[.int .i64 x.card, .int .i64 x.iss, .int .i64 x.acq, .int .i64 x.shop, .int .i64 x.net, .int .i64 x.i.amt, .int .i64 x.s.amt, .int .i64 x.m.amt]) (by simp [results, Tryz.results38, go_sem]) rfl ⟨rfl, xt⟩
set_option maxRecDepth 8000 in
set_option maxHeartbeats 4000000 in
theorem balanced_any (x : ResD) (w : World) : Calls Tryz.prog 18 #[resAgg x] w (OneW (.bool (balB x)) w) := by
 have kN := Lib.hid (fun w1 => numbers_any x w1)
 have hno := Lib.hid (fun k (hk : k < 5) h => balB_no (x := x) (k := k) hk h)
 have hall := Lib.hid (fun h => balB_all (x := x) h)
 unfold resAgg numC at kN
 unfold resAgg
 obtain ⟨f, hf⟩ : ∃ f, f = numN x := ⟨_, rfl⟩
 rw [← hf] at kN hno hall
 clear hf
 generalize balB x = BB at *
 go_enter Tryz.func18, Tryz.ntmps18
 go_wp2_with fail
 refine (kN.out _).mono ?_
 rintro e w1 ⟨rfl, hE1⟩
 have hE : Ext w w1 := Ext.trans xt hE1
 clear hE1 kN
 go_wp2_with fail
 have hb := Lib.hid (show Blk (w1.alloc (.cells #[.int .i64 (f 0), .int .i64 (f 1), .int .i64 (f 2), .int .i64 (f 3), .int .i64 (f 4), .int .i64 (f 5), .int .i64 (f 6), .int .i64 (f 7)] 80)) w1.heap.size (numC f) 80 from Blk.new w1 _ _)
 have hEb : Ext w (w1.alloc (.cells #[.int .i64 (f 0), .int .i64 (f 1), .int .i64 (f 2), .int .i64 (f 3), .int .i64 (f 4), .int .i64 (f 5), .int .i64 (f 6), .int .i64 (f 7)] 80)) := xt
 clear hE
 obtain ⟨B, hB⟩ : ∃ B, B = w1.heap.size := ⟨_, rfl⟩
 generalize w1.alloc (.cells #[.int .i64 (f 0), .int .i64 (f 1), .int .i64 (f 2), .int .i64 (f 3), .int .i64 (f 4), .int .i64 (f 5), .int .i64 (f 6), .int .i64 (f 7)] 80) = w2 at *
 rw [← hB] at hb ⊢
 clear hB
 go_loopw [4, 11] (fun s i wr => ∃ k : Nat, k ≤ 5 ∧ i = .int .i64 k ∧ s = .int .i64 (sumTo f k) ∧ (∀ j, j < k → totalB (f j) = true) ∧ Ext w2 wr) (fun _ i _ => 5 - (intOf i).toNat)
 case atStart => exact ⟨0, by omega, rfl, rfl, fun j hj => absurd hj (by omega), Ext.refl _⟩
 case round =>
  obtain ⟨k, hk, rfl, rfl, hall1, hEr⟩ := hrel
  by_cases hlt : k < 5
  · have y : wr.cell? ⟨B, k, none⟩ = some (.int .i64 (f k)) := ((hb.out.ext hEr).cell k).trans (numC_get f k (by omega))
    have kW := Lib.hid (fun w3 => within_any (f k) w3)
    have hb1 := sumTo_le hall1
    have hn := Lib.hid (hno.out k hlt)
    have hnext : totalB (f k) = true → ∀ j, j < k + 1 → totalB (f j) = true := fun h j hj => by
     by_cases e : j = k
     · rw [e]; exact h
     · exact hall1 j (by omega)
    have hsum : sumTo f (k + 1) = sumTo f k + f k := rfl
    have htb := totalB_iff (f k)
    replace hnext := Lib.hid hnext
    replace hsum := Lib.hid hsum
    replace htb := Lib.hid htb
    generalize totalB (f k) = tb at *
    clear hall1
    go_wp2_with fail
    refine (kW.out _).mono ?_
    rintro e w3 ⟨rfl, hE3⟩
    replace hEr := hEr.trans hE3
    clear hE3 y kW
    cases tb with
    | false =>
     have hR := Lib.hid (hn.out rfl)
     clear hn hnext htb
     go_wp2
     go_ret
     exact ⟨by rw [hR.out]; rfl, hEb.trans hEr⟩
    | true =>
     obtain ⟨t1, t2⟩ := htb.out.1 rfl
     have hN := Lib.hid (hnext.out rfl)
     clear hn hnext htb
     have e1 : wrap64 (sumTo f k + f k) = sumTo f k + f k := by unfold wrap64; omega
     clear hb1 t1 t2
     go_wp2
     go_roundw
     case rel => exact ⟨k + 1, by omega, by go_num, by rw [hsum.out, e1], hN.out, hEr⟩
     case measure => simp [intOf]; omega
  · obtain rfl : k = 5 := by omega
    have hR := Lib.hid (hall.out (fun j hj => hall1 j hj))
    clear hall1 hall hno
    have hE9 := hEb.trans hEr
    generalize sumTo f 5 = S at *
    by_cases hz : S = 0
    · have d : (S == 0) = true := by simp [hz]
      go_wp2
      go_ret
      exact ⟨by rw [hR.out, decide_eq_true hz]; rfl, hE9⟩
    · have d : (S == 0) = false := by simp [hz]
      go_wp2
      go_ret
      exact ⟨by rw [hR.out, decide_eq_false hz]; rfl, hE9⟩
end Go.Proofs.YtmnhmkjmcckneaaGreatDoor
