/- Contracts of the reference's parties, within, numbers, line and Balanced of layer 38 (walks; printed by gen/h16.py). -/
import Derived.Test.YtmnhmkjmcckneaaGreatDoorHn
namespace Go.Proofs.YtmnhmkjmcckneaaGreatDoor
open Go.RowKit
set_option maxHeartbeats 1000000 in
theorem rwithin_any (n : Int) (w : World) : Calls Tryz.prog 41 #[.int .i64 n] w (OneW (.bool (totalB n)) w) := by
  unfold totalB
  by_cases h1 : -4503599627370496 ≤ n
  · by_cases h2 : n ≤ 4503599627370496
    · have d1 : decide (-4503599627370496 ≤ n) = true := decide_eq_true h1
      have d2 : decide (n ≤ 4503599627370496) = true := decide_eq_true h2
      rw [d1, d2]
      clear h1 h2
      go_enter Tryz.func41, Tryz.ntmps41
      go_wp2
      go_ret
      exact ⟨rfl, Ext.refl _⟩
    · have d1 : decide (-4503599627370496 ≤ n) = true := decide_eq_true h1
      have d2 : decide (n ≤ 4503599627370496) = false := decide_eq_false h2
      rw [d1, d2]
      clear h1 h2
      go_enter Tryz.func41, Tryz.ntmps41
      go_wp2
      go_ret
      exact ⟨rfl, Ext.refl _⟩
  · have d1 : decide (-4503599627370496 ≤ n) = false := decide_eq_false h1
    rw [d1]
    clear h1
    go_enter Tryz.func41, Tryz.ntmps41
    go_wp2
    go_ret
    exact ⟨rfl, Ext.refl _⟩
set_option maxRecDepth 8000 in
set_option maxHeartbeats 1000000 in
theorem rparties_any (x : ResD) (w : World) : Calls Tryz.prog 40 #[resAgg x] w (OneW (.agg #[.int .i64 x.card, .int .i64 x.iss, .int .i64 x.acq, .int .i64 x.shop, .int .i64 x.net]) w) := by
  unfold resAgg
  go_enter Tryz.func40, Tryz.ntmps40
  go_wp2
  exact bodyPost_ret (v := .agg #[.int .i64 x.card, .int .i64 x.iss, .int .i64 x.acq, .int .i64 x.shop, .int .i64 x.net]) (by simp [results, Tryz.results40, go_sem]) rfl ⟨rfl, (by repeat (first | with_reducible exact Ext.refl _ | with_reducible exact hE0 | with_reducible exact hE | with_reducible refine Ext.alloc ?_ _ | with_reducible refine Ext.drewN ?_ _ | with_reducible refine Ext.drew ?_ | ((with_reducible refine Ext.setCell ?_ ?side _); (case side => first | exact Nat.le_refl _ | (simp; done) | (simp; omega)))))⟩
set_option maxRecDepth 8000 in
set_option maxHeartbeats 1000000 in
theorem rline_any (n : Int) (w : World) : Calls Tryz.prog 50 #[.int .i64 n] w (OneW (.agg #[.string ⟨#[115, 117, 109]⟩, .int .i64 n, .string ⟨#[]⟩]) w) := by
  go_enter Tryz.func50, Tryz.ntmps50
  go_wp2
  exact bodyPost_ret (v := .agg #[.string ⟨#[115, 117, 109]⟩, .int .i64 n, .string ⟨#[]⟩]) (by simp [results, Tryz.results50, go_sem]) rfl ⟨rfl, (by repeat (first | with_reducible exact Ext.refl _ | with_reducible exact hE0 | with_reducible exact hE | with_reducible refine Ext.alloc ?_ _ | with_reducible refine Ext.drewN ?_ _ | with_reducible refine Ext.drew ?_ | ((with_reducible refine Ext.setCell ?_ ?side _); (case side => first | exact Nat.le_refl _ | (simp; done) | (simp; omega)))))⟩
set_option maxRecDepth 8000 in
set_option maxHeartbeats 2000000 in
theorem rnumbers_any (x : ResD) (w : World) : Calls Tryz.prog 49 #[resAgg x] w (OneW (.agg (numC (numN x))) w) := by
  have kP := Lib.hid (fun w1 => rparties_any x w1)
  unfold resAgg at kP ⊢
  go_enter Tryz.func49, Tryz.ntmps49
  go_wp2_with fail
  refine (kP.out _).mono ?_
  rintro e w1 ⟨rfl, hE1⟩
  have bX := Lib.hid (((Blk.new w #[.string x.i.rule, .int .i64 x.i.amt, .string x.i.why, .string x.s.rule, .int .i64 x.s.amt, .string x.s.why, .string x.m.rule, .int .i64 x.m.amt, .string x.m.why, .int .i64 x.card, .int .i64 x.iss, .int .i64 x.acq, .int .i64 x.shop, .int .i64 x.net] 39).alloc (.cells #[.int .i64 0, .int .i64 0, .int .i64 0, .int .i64 0, .int .i64 0, .int .i64 0, .int .i64 0, .int .i64 0] 80)).ext hE1)
  have bZ0 : Blk ((w.alloc (.cells #[.string x.i.rule, .int .i64 x.i.amt, .string x.i.why, .string x.s.rule, .int .i64 x.s.amt, .string x.s.why, .string x.m.rule, .int .i64 x.m.amt, .string x.m.why, .int .i64 x.card, .int .i64 x.iss, .int .i64 x.acq, .int .i64 x.shop, .int .i64 x.net] 39)).alloc (.cells #[.int .i64 0, .int .i64 0, .int .i64 0, .int .i64 0, .int .i64 0, .int .i64 0, .int .i64 0, .int .i64 0] 80)) (w.heap.size + 1) #[.int .i64 0, .int .i64 0, .int .i64 0, .int .i64 0, .int .i64 0, .int .i64 0, .int .i64 0, .int .i64 0] 80 := Blk.new' _ _ _ _ (by simp)
  have bZ := Lib.hid (bZ0.ext hE1)
  have hE : Ext w w1 := Ext.trans (by repeat (first | with_reducible exact Ext.refl _ | with_reducible exact hE0 | with_reducible exact hE | with_reducible refine Ext.alloc ?_ _ | with_reducible refine Ext.drewN ?_ _ | with_reducible refine Ext.drew ?_ | ((with_reducible refine Ext.setCell ?_ ?side _); (case side => first | exact Nat.le_refl _ | (simp; done) | (simp; omega))))) hE1
  clear hE1 kP bZ0
  have x1 : w1.cell? ⟨w.heap.size, 1, none⟩ = some (.int .i64 x.i.amt) := (bX.out.cell 1).trans rfl
  have x4 : w1.cell? ⟨w.heap.size, 4, none⟩ = some (.int .i64 x.s.amt) := (bX.out.cell 4).trans rfl
  have x7 : w1.cell? ⟨w.heap.size, 7, none⟩ = some (.int .i64 x.m.amt) := (bX.out.cell 7).trans rfl
  have z0 : w1.cell? ⟨w.heap.size + 1, 0, none⟩ = some (.int .i64 0) := (bZ.out.cell 0).trans rfl
  have z1 : w1.cell? ⟨w.heap.size + 1, 1, none⟩ = some (.int .i64 0) := (bZ.out.cell 1).trans rfl
  have z2 : w1.cell? ⟨w.heap.size + 1, 2, none⟩ = some (.int .i64 0) := (bZ.out.cell 2).trans rfl
  have z3 : w1.cell? ⟨w.heap.size + 1, 3, none⟩ = some (.int .i64 0) := (bZ.out.cell 3).trans rfl
  have z4 : w1.cell? ⟨w.heap.size + 1, 4, none⟩ = some (.int .i64 0) := (bZ.out.cell 4).trans rfl
  have z5 : w1.cell? ⟨w.heap.size + 1, 5, none⟩ = some (.int .i64 0) := (bZ.out.cell 5).trans rfl
  have z6 : w1.cell? ⟨w.heap.size + 1, 6, none⟩ = some (.int .i64 0) := (bZ.out.cell 6).trans rfl
  have z7 : w1.cell? ⟨w.heap.size + 1, 7, none⟩ = some (.int .i64 0) := (bZ.out.cell 7).trans rfl
  have f0 : w1.frozen? ⟨w.heap.size + 1, 0, none⟩ = false := bZ.out.fz 0
  have f1 : w1.frozen? ⟨w.heap.size + 1, 1, none⟩ = false := bZ.out.fz 1
  have f2 : w1.frozen? ⟨w.heap.size + 1, 2, none⟩ = false := bZ.out.fz 2
  have f3 : w1.frozen? ⟨w.heap.size + 1, 3, none⟩ = false := bZ.out.fz 3
  have f4 : w1.frozen? ⟨w.heap.size + 1, 4, none⟩ = false := bZ.out.fz 4
  have f5 : w1.frozen? ⟨w.heap.size + 1, 5, none⟩ = false := bZ.out.fz 5
  have f6 : w1.frozen? ⟨w.heap.size + 1, 6, none⟩ = false := bZ.out.fz 6
  have f7 : w1.frozen? ⟨w.heap.size + 1, 7, none⟩ = false := bZ.out.fz 7
  have xs := bX.out.lt
  have zs := bZ.out.lt
  go_wp2
  exact bodyPost_ret (v := .agg #[.int .i64 x.card, .int .i64 x.iss, .int .i64 x.acq, .int .i64 x.shop, .int .i64 x.net, .int .i64 x.i.amt, .int .i64 x.s.amt, .int .i64 x.m.amt]) (by first | (simp [results, Tryz.results49, go_sem, z0, z1, z2, z3, z4, z5, z6, z7, zs]; done) | simp [results, Tryz.results49, go_sem]) rfl ⟨rfl, (by repeat (first | with_reducible exact Ext.refl _ | with_reducible exact hE0 | with_reducible exact hE | with_reducible refine Ext.alloc ?_ _ | with_reducible refine Ext.drewN ?_ _ | with_reducible refine Ext.drew ?_ | ((with_reducible refine Ext.setCell ?_ ?side _); (case side => first | exact Nat.le_refl _ | (simp; done) | (simp; omega)))))⟩
set_option maxRecDepth 8000 in
set_option maxHeartbeats 4000000 in
theorem rbal_any (x : ResD) (w : World) : Calls Tryz.prog 20 #[resAgg x] w (OneW (.bool (balB x)) w) := by
  have kN := Lib.hid (fun w1 => rparties_any x w1)
  have hno := Lib.hid (fun k (hk : k < 5) h => balB_no (x := x) (k := k) hk h)
  have hall := Lib.hid (fun h => balB_all (x := x) h)
  unfold resAgg at kN
  unfold resAgg
  have e5 : (#[.int .i64 x.card, .int .i64 x.iss, .int .i64 x.acq, .int .i64 x.shop, .int .i64 x.net] : Array Value) = #[.int .i64 (numN x 0), .int .i64 (numN x 1), .int .i64 (numN x 2), .int .i64 (numN x 3), .int .i64 (numN x 4)] := rfl
  rw [e5] at kN
  clear e5
  obtain ⟨f, hf⟩ : ∃ f, f = numN x := ⟨_, rfl⟩
  rw [← hf] at kN hno hall
  clear hf
  generalize balB x = BB at *
  go_enter Tryz.func20, Tryz.ntmps20
  go_wp2_with fail
  refine (kN.out _).mono ?_
  rintro e w1 ⟨rfl, hE1⟩
  have hE : Ext w w1 := Ext.trans (by repeat (first | with_reducible exact Ext.refl _ | with_reducible exact hE0 | with_reducible exact hE | with_reducible refine Ext.alloc ?_ _ | with_reducible refine Ext.drewN ?_ _ | with_reducible refine Ext.drew ?_ | ((with_reducible refine Ext.setCell ?_ ?side _); (case side => first | exact Nat.le_refl _ | (simp; done) | (simp; omega))))) hE1
  clear hE1 kN
  go_wp2_with fail
  have hb := Lib.hid (Blk.new w1 #[.int .i64 (f 0), .int .i64 (f 1), .int .i64 (f 2), .int .i64 (f 3), .int .i64 (f 4)] 84)
  have hEb : Ext w (w1.alloc (.cells #[.int .i64 (f 0), .int .i64 (f 1), .int .i64 (f 2), .int .i64 (f 3), .int .i64 (f 4)] 84)) := (by repeat (first | with_reducible exact Ext.refl _ | with_reducible exact hE0 | with_reducible exact hE | with_reducible refine Ext.alloc ?_ _ | with_reducible refine Ext.drewN ?_ _ | with_reducible refine Ext.drew ?_ | ((with_reducible refine Ext.setCell ?_ ?side _); (case side => first | exact Nat.le_refl _ | (simp; done) | (simp; omega)))))
  clear hE
  obtain ⟨B, hB⟩ : ∃ B, B = w1.heap.size := ⟨_, rfl⟩
  generalize w1.alloc (.cells #[.int .i64 (f 0), .int .i64 (f 1), .int .i64 (f 2), .int .i64 (f 3), .int .i64 (f 4)] 84) = w2 at *
  rw [← hB] at hb ⊢
  clear hB
  go_loopw [4, 5] (fun s i wr => ∃ k : Nat, k ≤ 5 ∧ i = .int .i64 k ∧ s = .int .i64 (sumTo f k) ∧ (∀ j, j < k → totalB (f j) = true) ∧ Ext w2 wr) (fun _ i _ => 5 - (intOf i).toNat)
  case atStart => exact ⟨0, by omega, rfl, rfl, fun j hj => absurd hj (by omega), Ext.refl _⟩
  case round =>
    obtain ⟨k, hk, rfl, rfl, hall1, hEr⟩ := hrel
    by_cases hlt : k < 5
    · have y : wr.cell? ⟨B, k, none⟩ = some (.int .i64 (f k)) := by
        have hcase : k = 0 ∨ k = 1 ∨ k = 2 ∨ k = 3 ∨ k = 4 := by omega
        rcases hcase with rfl | rfl | rfl | rfl | rfl <;> exact ((hb.out.ext hEr).cell _).trans rfl
      have kW := Lib.hid (fun w3 => rwithin_any (f k) w3)
      have hb1 := sumTo_le hall1
      have hn := Lib.hid (hno.out k hlt)
      have hnext : totalB (f k) = true → ∀ j, j < k + 1 → totalB (f j) = true := fun h j hj => by
        by_cases e : j = k
        · rw [e]; exact h
        · exact hall1 j (by omega)
      have hsum : sumTo f (k + 1) = sumTo f k + f k := rfl
      have htb := totalB_iff (f k)
      replace hnext := Lib.hid hnext
      replace hsum := Lib.hid hsum
      replace htb := Lib.hid htb
      generalize totalB (f k) = tb at *
      clear hall1
      go_wp2_with fail
      refine (kW.out _).mono ?_
      rintro e w3 ⟨rfl, hE3⟩
      replace hEr := hEr.trans hE3
      replace y := hE3.get y
      clear hE3 kW
      cases tb with
      | false =>
        have hR := Lib.hid (hn.out rfl)
        clear hn hnext htb
        go_wp2
        go_ret
        exact ⟨by rw [hR.out]; rfl, hEb.trans hEr⟩
      | true =>
        obtain ⟨t1, t2⟩ := htb.out.1 rfl
        have hN := Lib.hid (hnext.out rfl)
        clear hn hnext htb
        have e1 : wrap64 (sumTo f k + f k) = sumTo f k + f k := by unfold wrap64; omega
        clear hb1 t1 t2
        go_wp2
        go_roundw
        case rel => exact ⟨k + 1, by omega, by go_num, by rw [hsum.out, e1], hN.out, hEr⟩
        case measure => simp [intOf]; omega
    · obtain rfl : k = 5 := by omega
      have hR := Lib.hid (hall.out (fun j hj => hall1 j hj))
      clear hall1 hall hno
      have hE9 := hEb.trans hEr
      generalize sumTo f 5 = S at *
      by_cases hz : S = 0
      · have d : (S == 0) = true := by simp [hz]
        go_wp2
        go_ret
        exact ⟨by rw [hR.out, decide_eq_true hz]; rfl, hE9⟩
      · have d : (S == 0) = false := by simp [hz]
        go_wp2
        go_ret
        exact ⟨by rw [hR.out, decide_eq_false hz]; rfl, hE9⟩
end Go.Proofs.YtmnhmkjmcckneaaGreatDoor
