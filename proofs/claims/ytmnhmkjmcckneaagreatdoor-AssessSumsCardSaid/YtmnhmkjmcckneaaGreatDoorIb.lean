/- The contract of the reference's Sum of layer 38 (walk; printed by gen/h17.py). -/
import Derived.Test.YtmnhmkjmcckneaaGreatDoorIa
import Derived.Test.YtmnhmkjmcckneaaGreatDoorHo
import Derived.Deep.QuietTactic
import Derived.BigQuiet
import Derived.Deep.RegionHeld3
import Derived.StillTailTactics
namespace Go.Proofs.YtmnhmkjmcckneaaGreatDoor
open Go.RowKit
theorem far_get {w : World} {X B i k : Nat} {u v : Value} (h : X ≠ B) (y : w.cell? ⟨B, k, none⟩ = some v) : (w.setCell ⟨X, i, none⟩ u).cell? ⟨B, k, none⟩ = some v := (World.cell?_setCell_far _ _ _ _ h).trans y
theorem blk_drew17 {w : World} {B : Nat} {cs : Array Value} {T : TypeId} (h : Blk w B cs T) : Blk w.drew B cs T := h
theorem blk_other14 {w : World} {X B : Nat} {cs : Array Value} {T : TypeId} (e0 : X ≠ B) (h : Blk w B cs T) {v0 v1 v2 v3 v4 v5 v6 v7 v8 v9 v10 v11 v12 v13 : Value} : Blk ((((((((((((((w.setCell ⟨X, 0, none⟩ v0).setCell ⟨X, 1, none⟩ v1).setCell ⟨X, 2, none⟩ v2).setCell ⟨X, 3, none⟩ v3).setCell ⟨X, 4, none⟩ v4).setCell ⟨X, 5, none⟩ v5).setCell ⟨X, 6, none⟩ v6).setCell ⟨X, 7, none⟩ v7).setCell ⟨X, 8, none⟩ v8).setCell ⟨X, 9, none⟩ v9).setCell ⟨X, 10, none⟩ v10).setCell ⟨X, 11, none⟩ v11).setCell ⟨X, 12, none⟩ v12).setCell ⟨X, 13, none⟩ v13) B cs T := have e := e0.symm; ((((((((((((((h.other 0 v0 e).other 1 v1 e).other 2 v2 e).other 3 v3 e).other 4 v4 e).other 5 v5 e).other 6 v6 e).other 7 v7 e).other 8 v8 e).other 9 v9 e).other 10 v10 e).other 11 v11 e).other 12 v12 e).other 13 v13 e)
theorem bn_cells {w : World} {B : Nat} {S : Nat → Int} {T : TypeId} (h : Blk w B (numC S) T) : w.cell? ⟨B, 0, none⟩ = some (.int .i64 (S 0)) ∧ w.cell? ⟨B, 1, none⟩ = some (.int .i64 (S 1)) ∧ w.cell? ⟨B, 2, none⟩ = some (.int .i64 (S 2)) ∧ w.cell? ⟨B, 3, none⟩ = some (.int .i64 (S 3)) ∧ w.cell? ⟨B, 4, none⟩ = some (.int .i64 (S 4)) ∧ w.cell? ⟨B, 5, none⟩ = some (.int .i64 (S 5)) ∧ w.cell? ⟨B, 6, none⟩ = some (.int .i64 (S 6)) ∧ w.cell? ⟨B, 7, none⟩ = some (.int .i64 (S 7)) := ⟨(h.cell 0).trans rfl, (h.cell 1).trans rfl, (h.cell 2).trans rfl, (h.cell 3).trans rfl, (h.cell 4).trans rfl, (h.cell 5).trans rfl, (h.cell 6).trans rfl, (h.cell 7).trans rfl⟩
theorem rwithin_same (n : Int) (w : World) : Calls Tryz.prog 41 #[.int .i64 n] w fun e w' => e = .returned (.bool (totalB n)) ∧ w' = w := by
  unfold totalB
  by_cases h1 : -4503599627370496 ≤ n
  · by_cases h2 : n ≤ 4503599627370496
    · have d1 : decide (-4503599627370496 ≤ n) = true := decide_eq_true h1
      have d2 : decide (n ≤ 4503599627370496) = true := decide_eq_true h2
      rw [d1, d2]
      clear h1 h2
      go_enter Tryz.func41, Tryz.ntmps41
      go_wp2
      go_ret
      exact ⟨rfl, rfl⟩
    · have d1 : decide (-4503599627370496 ≤ n) = true := decide_eq_true h1
      have d2 : decide (n ≤ 4503599627370496) = false := decide_eq_false h2
      rw [d1, d2]
      clear h1 h2
      go_enter Tryz.func41, Tryz.ntmps41
      go_wp2
      go_ret
      exact ⟨rfl, rfl⟩
  · have d1 : decide (-4503599627370496 ≤ n) = false := decide_eq_false h1
    rw [d1]
    clear h1
    go_enter Tryz.func41, Tryz.ntmps41
    go_wp2
    go_ret
    exact ⟨rfl, rfl⟩
set_option maxRecDepth 8000 in
set_option maxHeartbeats 8000000 in
theorem rsums_any (lv : Value) (l : List ResD) (w : World) (hR : ResM w lv l) : Calls Tryz.prog 24 #[lv] w (SumP (sumsV l) w) := by
  obtain ⟨lp, lc, rfl⟩ := hR.form
  have hll := hR.1
  have hno := Lib.hid (fun k j a b c => sumsV_no (l := l) (k := k) (j := j) a b c)
  have hok := Lib.hid (fun a => sumsV_ok (l := l) a)
  have htk := Lib.hid (fun k a b => tot_ok (l := l) (k := k) a b)
  have hsn := Lib.hid (fun k h j => tot_snoc l k h j)
  have hst := Lib.hid (show ∀ k j, stepB l k j = (totalB (numN (l.getD k resD) j) && totalB (tot (l.take (k + 1)) j)) from fun _ _ => rfl)
  generalize sumsV l = R at *
  go_enter Tryz.func24, Tryz.ntmps24
  go_wp2_with fail
  have bX0 := Lib.hid (((Blk.new w #[.string ⟨#[]⟩, .int .i64 0, .string ⟨#[]⟩, .string ⟨#[]⟩, .int .i64 0, .string ⟨#[]⟩, .string ⟨#[]⟩, .int .i64 0, .string ⟨#[]⟩, .int .i64 0, .int .i64 0, .int .i64 0, .int .i64 0, .int .i64 0] 39).alloc (.cells #[.int .i64 0, .int .i64 0, .int .i64 0, .int .i64 0, .int .i64 0, .int .i64 0, .int .i64 0, .int .i64 0] 80)))
  have bN0 : Blk ((w.alloc (.cells #[.string ⟨#[]⟩, .int .i64 0, .string ⟨#[]⟩, .string ⟨#[]⟩, .int .i64 0, .string ⟨#[]⟩, .string ⟨#[]⟩, .int .i64 0, .string ⟨#[]⟩, .int .i64 0, .int .i64 0, .int .i64 0, .int .i64 0, .int .i64 0] 39)).alloc (.cells #[.int .i64 0, .int .i64 0, .int .i64 0, .int .i64 0, .int .i64 0, .int .i64 0, .int .i64 0, .int .i64 0] 80)) (w.heap.size + 1) (numC (tot (l.take 0))) 80 := Blk.new' _ _ _ _ (by simp)
  have hE0 : Ext w ((w.alloc (.cells #[.string ⟨#[]⟩, .int .i64 0, .string ⟨#[]⟩, .string ⟨#[]⟩, .int .i64 0, .string ⟨#[]⟩, .string ⟨#[]⟩, .int .i64 0, .string ⟨#[]⟩, .int .i64 0, .int .i64 0, .int .i64 0, .int .i64 0, .int .i64 0] 39)).alloc (.cells #[.int .i64 0, .int .i64 0, .int .i64 0, .int .i64 0, .int .i64 0, .int .i64 0, .int .i64 0, .int .i64 0] 80)) := (by repeat (first | with_reducible exact Ext.refl _ | with_reducible exact hE0 | with_reducible exact hE | with_reducible refine Ext.alloc ?_ _ | with_reducible refine Ext.drewN ?_ _ | with_reducible refine Ext.drew ?_ | ((with_reducible refine Ext.setCell ?_ ?side _); (case side => first | exact Nat.le_refl _ | (simp; done) | (simp; omega)))))
  replace bN0 := Lib.hid bN0
  generalize (w.alloc (.cells #[.string ⟨#[]⟩, .int .i64 0, .string ⟨#[]⟩, .string ⟨#[]⟩, .int .i64 0, .string ⟨#[]⟩, .string ⟨#[]⟩, .int .i64 0, .string ⟨#[]⟩, .int .i64 0, .int .i64 0, .int .i64 0, .int .i64 0, .int .i64 0] 39)).alloc (.cells #[.int .i64 0, .int .i64 0, .int .i64 0, .int .i64 0, .int .i64 0, .int .i64 0, .int .i64 0, .int .i64 0] 80) = w0 at *
  obtain ⟨B, hB⟩ : ∃ B, B = w.heap.size + 1 := ⟨_, rfl⟩
  rw [← hB] at bN0 ⊢
  have hBw : w.heap.size < B := by omega
  clear hB
  go_loopw [5] (fun i wr => ∃ k : Nat, k ≤ l.length ∧ i = .int .i64 k ∧ (∀ k', k' < k → ∀ j, j < 8 → stepB l k' j = true) ∧ Ext w wr ∧ Blk wr w.heap.size #[.string ⟨#[]⟩, .int .i64 0, .string ⟨#[]⟩, .string ⟨#[]⟩, .int .i64 0, .string ⟨#[]⟩, .string ⟨#[]⟩, .int .i64 0, .string ⟨#[]⟩, .int .i64 0, .int .i64 0, .int .i64 0, .int .i64 0, .int .i64 0] 39 ∧ Blk wr B (numC (tot (l.take k))) 80) (fun i _ => l.length - (intOf i).toNat)
  case atStart => exact ⟨0, Nat.zero_le _, rfl, fun k' h => absurd h (by omega), hE0, bX0.out, bN0.out⟩
  case round =>
    clear bX0 bN0 hE0
    obtain ⟨k, hk, rfl, hall, hE, bX, bN⟩ := hrel
    replace bX := Lib.hid bX
    replace bN := Lib.hid bN
    by_cases hlt : k < l.length
    · have hS8 := htk.out k hk hall
      have hno1 := Lib.hid (fun j a b => hno.out k j hlt a b)
      have hsn1 := Lib.hid (hsn.out k hlt)
      have hst1 := Lib.hid (hst.out k)
      have hnext : (∀ j, j < 8 → stepB l k j = true) → ∀ k', k' < k + 1 → ∀ j, j < 8 → stepB l k' j = true := fun h k' hk' => by
        by_cases e : k' = k
        · rw [e]; exact h
        · exact hall k' (by omega)
      replace hnext := Lib.hid hnext
      replace hS8 := Lib.hid hS8
      clear hall
      obtain ⟨b, off, rfl, hc⟩ := hR.at (by omega)
      obtain ⟨c0, c1, c2, c3, c4, c5, c6, c7, c8, c9, c10, c11, c12, c13⟩ := (hc k hlt).ext hE
      clear hc
      have kN := Lib.hid (fun w1 => rnumbers_any (l.getD k resD) w1)
      unfold resAgg numC at kN
      obtain ⟨f, hf⟩ : ∃ f, f = numN (l.getD k resD) := ⟨_, rfl⟩
      rw [← hf] at hsn1 hst1 kN
      clear hf
      generalize l.getD k resD = x at *
      go_wp2_with fail
      refine (kN.out _).mono ?_
      rintro e w1 ⟨rfl, hE1⟩
      replace bX := Lib.hid (bX.out.ext hE1)
      replace bN := Lib.hid (bN.out.ext hE1)
      replace hE := hE.trans hE1
      clear c0 c1 c2 c3 c4 c5 c6 c7 c8 c9 c10 c11 c12 c13 hE1 kN
      go_wp2_with fail
      have bF := Lib.hid (show Blk (w1.alloc (.cells #[.int .i64 (f 0), .int .i64 (f 1), .int .i64 (f 2), .int .i64 (f 3), .int .i64 (f 4), .int .i64 (f 5), .int .i64 (f 6), .int .i64 (f 7)] 80)) w1.heap.size (numC f) 80 from Blk.new w1 _ _)
      have hN : Ext w1 (w1.alloc (.cells #[.int .i64 (f 0), .int .i64 (f 1), .int .i64 (f 2), .int .i64 (f 3), .int .i64 (f 4), .int .i64 (f 5), .int .i64 (f 6), .int .i64 (f 7)] 80)) := (Ext.refl _).alloc _
      have hBF : B < w1.heap.size := bN.out.lt
      replace bX := Lib.hid (bX.out.ext hN)
      replace bN := Lib.hid (bN.out.ext hN)
      replace hE := hE.trans hN
      obtain ⟨BF, hBFe⟩ : ∃ BF, BF = w1.heap.size := ⟨_, rfl⟩
      generalize w1.alloc (.cells #[.int .i64 (f 0), .int .i64 (f 1), .int .i64 (f 2), .int .i64 (f 3), .int .i64 (f 4), .int .i64 (f 5), .int .i64 (f 6), .int .i64 (f 7)] 80) = w2 at *
      rw [← hBFe] at bF hBF ⊢
      clear hBFe hN
      generalize tot (l.take k) = S at *
      obtain ⟨S', hS'⟩ : ∃ S', S' = tot (l.take (k + 1)) := ⟨_, rfl⟩
      rw [← hS'] at hsn1
      simp only [← hS'] at hst1
      replace hS' := Lib.hid hS'
      obtain ⟨Q, hQ⟩ : ∃ Q, Q = stepB l k := ⟨_, rfl⟩
      rw [← hQ] at hno1 hst1 hnext
      clear hQ
      go_loopw [7] (fun i wr => ∃ j : Nat, j ≤ 8 ∧ i = .int .i64 j ∧ (∀ j', j' < j → Q j' = true) ∧ Ext w wr ∧ Blk wr w.heap.size #[.string ⟨#[]⟩, .int .i64 0, .string ⟨#[]⟩, .string ⟨#[]⟩, .int .i64 0, .string ⟨#[]⟩, .string ⟨#[]⟩, .int .i64 0, .string ⟨#[]⟩, .int .i64 0, .int .i64 0, .int .i64 0, .int .i64 0, .int .i64 0] 39 ∧ Blk wr B (numC fun i => if i < j then S' i else S i) 80 ∧ Blk wr BF (numC f) 80) (fun i _ => 8 - (intOf i).toNat)
      case atStart => exact ⟨0, Nat.zero_le _, rfl, fun j h => absurd h (by omega), hE, bX.out, by rw [numC_congr (g := S) (fun i _ => if_neg (by omega))]; exact bN.out, bF.out⟩
      case round =>
        clear bX bN hE bF
        obtain ⟨j, hj, rfl, hq, hE, bX, bN, bF⟩ := hrel
        replace bX := Lib.hid bX
        replace bN := Lib.hid bN
        replace bF := Lib.hid bF
        by_cases hj8 : j < 8
        · have yf : wr.cell? ⟨BF, j, none⟩ = some (.int .i64 (f j)) := (bF.out.cell j).trans (numC_get f j hj8)
          have hjS : (if j < j then S' j else S j) = S j := if_neg (by omega)
          have y : wr.cell? ⟨B, j, none⟩ = some (.int .i64 (S j)) := by rw [bN.out.cell j, numC_get _ j hj8, hjS]
          have yz : wr.frozen? ⟨B, j, none⟩ = false := bN.out.fz j
          clear hjS
          obtain ⟨n3, n4⟩ := (totalB_iff _).1 (hS8.out j hj8)
          have k1 := Lib.hid (fun w3 => rwithin_same (f j) w3)
          have k2 := Lib.hid (fun w3 => rwithin_same (S j + f j) w3)
          have htf := Lib.hid (totalB_iff (f j))
          have hno2 := Lib.hid (hno1.out j hj8)
          have hst2 := Lib.hid (hst1.out j)
          have hst3 := Lib.hid (show Q j = (totalB (f j) && totalB (S j + f j)) by rw [hst1.out j, hsn1.out j])
          clear hst2
          generalize totalB (f j) = tf at *
          generalize totalB (S j + f j) = tt at *
          have bXs := bX.out.lt
          have bNs := bN.out.lt
          cases tf with
          | false =>
            have hRR := Lib.hid (hno2.out (by rw [hst3.out]; rfl))
            clear hno2 hst3 hno1 hst1 hnext y yz k2 n3 n4 htf
            have x0 : wr.cell? ⟨w.heap.size, 0, none⟩ = some (.string ⟨#[]⟩) := (bX.out.cell 0).trans rfl
            have x1 : wr.cell? ⟨w.heap.size, 1, none⟩ = some (.int .i64 0) := (bX.out.cell 1).trans rfl
            have x2 : wr.cell? ⟨w.heap.size, 2, none⟩ = some (.string ⟨#[]⟩) := (bX.out.cell 2).trans rfl
            have x3 : wr.cell? ⟨w.heap.size, 3, none⟩ = some (.string ⟨#[]⟩) := (bX.out.cell 3).trans rfl
            have x4 : wr.cell? ⟨w.heap.size, 4, none⟩ = some (.int .i64 0) := (bX.out.cell 4).trans rfl
            have x5 : wr.cell? ⟨w.heap.size, 5, none⟩ = some (.string ⟨#[]⟩) := (bX.out.cell 5).trans rfl
            have x6 : wr.cell? ⟨w.heap.size, 6, none⟩ = some (.string ⟨#[]⟩) := (bX.out.cell 6).trans rfl
            have x7 : wr.cell? ⟨w.heap.size, 7, none⟩ = some (.int .i64 0) := (bX.out.cell 7).trans rfl
            have x8 : wr.cell? ⟨w.heap.size, 8, none⟩ = some (.string ⟨#[]⟩) := (bX.out.cell 8).trans rfl
            have x9 : wr.cell? ⟨w.heap.size, 9, none⟩ = some (.int .i64 0) := (bX.out.cell 9).trans rfl
            have x10 : wr.cell? ⟨w.heap.size, 10, none⟩ = some (.int .i64 0) := (bX.out.cell 10).trans rfl
            have x11 : wr.cell? ⟨w.heap.size, 11, none⟩ = some (.int .i64 0) := (bX.out.cell 11).trans rfl
            have x12 : wr.cell? ⟨w.heap.size, 12, none⟩ = some (.int .i64 0) := (bX.out.cell 12).trans rfl
            have x13 : wr.cell? ⟨w.heap.size, 13, none⟩ = some (.int .i64 0) := (bX.out.cell 13).trans rfl
            have f0 : wr.frozen? ⟨w.heap.size, 0, none⟩ = false := bX.out.fz 0
            have f1 : wr.frozen? ⟨w.heap.size, 1, none⟩ = false := bX.out.fz 1
            have f2 : wr.frozen? ⟨w.heap.size, 2, none⟩ = false := bX.out.fz 2
            have f3 : wr.frozen? ⟨w.heap.size, 3, none⟩ = false := bX.out.fz 3
            have f4 : wr.frozen? ⟨w.heap.size, 4, none⟩ = false := bX.out.fz 4
            have f5 : wr.frozen? ⟨w.heap.size, 5, none⟩ = false := bX.out.fz 5
            have f6 : wr.frozen? ⟨w.heap.size, 6, none⟩ = false := bX.out.fz 6
            have f7 : wr.frozen? ⟨w.heap.size, 7, none⟩ = false := bX.out.fz 7
            have f8 : wr.frozen? ⟨w.heap.size, 8, none⟩ = false := bX.out.fz 8
            have f9 : wr.frozen? ⟨w.heap.size, 9, none⟩ = false := bX.out.fz 9
            have f10 : wr.frozen? ⟨w.heap.size, 10, none⟩ = false := bX.out.fz 10
            have f11 : wr.frozen? ⟨w.heap.size, 11, none⟩ = false := bX.out.fz 11
            have f12 : wr.frozen? ⟨w.heap.size, 12, none⟩ = false := bX.out.fz 12
            have f13 : wr.frozen? ⟨w.heap.size, 13, none⟩ = false := bX.out.fz 13
            go_wp2_with fail
            go_quiet (first | (go_at_call 41; exact Calls.quiet_of_same (k1.out _)))
            go_wp2
            exact bodyPost_ret (v := .tuple #[.agg #[.string ⟨#[]⟩, .int .i64 0, .string ⟨#[]⟩, .string ⟨#[]⟩, .int .i64 0, .string ⟨#[]⟩, .string ⟨#[]⟩, .int .i64 0, .string ⟨#[]⟩, .int .i64 0, .int .i64 0, .int .i64 0, .int .i64 0, .int .i64 0], .int .i64 4]) (by first | (simp [results, Tryz.results24, go_sem, x0, x1, x2, x3, x4, x5, x6, x7, x8, x9, x10, x11, x12, x13]; done) | simp [results, Tryz.results24, go_sem]) rfl (sumP (x := resD) hRR.out (by repeat (first | with_reducible exact Ext.refl _ | with_reducible exact hE0 | with_reducible exact hE | with_reducible refine Ext.alloc ?_ _ | with_reducible refine Ext.drewN ?_ _ | with_reducible refine Ext.drew ?_ | ((with_reducible refine Ext.setCell ?_ ?side _); (case side => first | exact Nat.le_refl _ | (simp; done) | (simp; omega))))))
          | true =>
            obtain ⟨n1, n2⟩ := htf.out.1 rfl
            have e1 : wrap64 (S j + f j) = S j + f j := by unfold wrap64; omega
            clear n1 n2 n3 n4 htf
            cases tt with
            | false =>
              have hRR := Lib.hid (hno2.out (by rw [hst3.out]; rfl))
              clear hno2 hst3 hno1 hst1 hnext
              have x0 : wr.cell? ⟨w.heap.size, 0, none⟩ = some (.string ⟨#[]⟩) := (bX.out.cell 0).trans rfl
              have x1 : wr.cell? ⟨w.heap.size, 1, none⟩ = some (.int .i64 0) := (bX.out.cell 1).trans rfl
              have x2 : wr.cell? ⟨w.heap.size, 2, none⟩ = some (.string ⟨#[]⟩) := (bX.out.cell 2).trans rfl
              have x3 : wr.cell? ⟨w.heap.size, 3, none⟩ = some (.string ⟨#[]⟩) := (bX.out.cell 3).trans rfl
              have x4 : wr.cell? ⟨w.heap.size, 4, none⟩ = some (.int .i64 0) := (bX.out.cell 4).trans rfl
              have x5 : wr.cell? ⟨w.heap.size, 5, none⟩ = some (.string ⟨#[]⟩) := (bX.out.cell 5).trans rfl
              have x6 : wr.cell? ⟨w.heap.size, 6, none⟩ = some (.string ⟨#[]⟩) := (bX.out.cell 6).trans rfl
              have x7 : wr.cell? ⟨w.heap.size, 7, none⟩ = some (.int .i64 0) := (bX.out.cell 7).trans rfl
              have x8 : wr.cell? ⟨w.heap.size, 8, none⟩ = some (.string ⟨#[]⟩) := (bX.out.cell 8).trans rfl
              have x9 : wr.cell? ⟨w.heap.size, 9, none⟩ = some (.int .i64 0) := (bX.out.cell 9).trans rfl
              have x10 : wr.cell? ⟨w.heap.size, 10, none⟩ = some (.int .i64 0) := (bX.out.cell 10).trans rfl
              have x11 : wr.cell? ⟨w.heap.size, 11, none⟩ = some (.int .i64 0) := (bX.out.cell 11).trans rfl
              have x12 : wr.cell? ⟨w.heap.size, 12, none⟩ = some (.int .i64 0) := (bX.out.cell 12).trans rfl
              have x13 : wr.cell? ⟨w.heap.size, 13, none⟩ = some (.int .i64 0) := (bX.out.cell 13).trans rfl
              have f0 : wr.frozen? ⟨w.heap.size, 0, none⟩ = false := bX.out.fz 0
              have f1 : wr.frozen? ⟨w.heap.size, 1, none⟩ = false := bX.out.fz 1
              have f2 : wr.frozen? ⟨w.heap.size, 2, none⟩ = false := bX.out.fz 2
              have f3 : wr.frozen? ⟨w.heap.size, 3, none⟩ = false := bX.out.fz 3
              have f4 : wr.frozen? ⟨w.heap.size, 4, none⟩ = false := bX.out.fz 4
              have f5 : wr.frozen? ⟨w.heap.size, 5, none⟩ = false := bX.out.fz 5
              have f6 : wr.frozen? ⟨w.heap.size, 6, none⟩ = false := bX.out.fz 6
              have f7 : wr.frozen? ⟨w.heap.size, 7, none⟩ = false := bX.out.fz 7
              have f8 : wr.frozen? ⟨w.heap.size, 8, none⟩ = false := bX.out.fz 8
              have f9 : wr.frozen? ⟨w.heap.size, 9, none⟩ = false := bX.out.fz 9
              have f10 : wr.frozen? ⟨w.heap.size, 10, none⟩ = false := bX.out.fz 10
              have f11 : wr.frozen? ⟨w.heap.size, 11, none⟩ = false := bX.out.fz 11
              have f12 : wr.frozen? ⟨w.heap.size, 12, none⟩ = false := bX.out.fz 12
              have f13 : wr.frozen? ⟨w.heap.size, 13, none⟩ = false := bX.out.fz 13
              go_wp2_with fail
              go_quiet (first | (go_at_call 41; exact Calls.quiet_of_same (k1.out _)) | (go_at_call 41; exact Calls.quiet_of_same (k2.out _)))
              go_wp2
              exact bodyPost_ret (v := .tuple #[.agg #[.string ⟨#[]⟩, .int .i64 0, .string ⟨#[]⟩, .string ⟨#[]⟩, .int .i64 0, .string ⟨#[]⟩, .string ⟨#[]⟩, .int .i64 0, .string ⟨#[]⟩, .int .i64 0, .int .i64 0, .int .i64 0, .int .i64 0, .int .i64 0], .int .i64 4]) (by first | (simp [results, Tryz.results24, go_sem, x0, x1, x2, x3, x4, x5, x6, x7, x8, x9, x10, x11, x12, x13]; done) | simp [results, Tryz.results24, go_sem]) rfl (sumP (x := resD) hRR.out (by repeat (first | with_reducible exact Ext.refl _ | with_reducible exact hE0 | with_reducible exact hE | with_reducible refine Ext.alloc ?_ _ | with_reducible refine Ext.drewN ?_ _ | with_reducible refine Ext.drew ?_ | ((with_reducible refine Ext.setCell ?_ ?side _); (case side => first | exact Nat.le_refl _ | (simp; done) | (simp; omega))))))
            | true =>
              have hst4 : Q j = true := by rw [hst3.out]; rfl
              have hq2 : ∀ j', j' < j + 1 → Q j' = true := fun j' hj' => by
                by_cases e : j' = j
                · rw [e]; exact hst4
                · exact hq j' (by omega)
              replace hq2 := Lib.hid hq2
              have bN2 := Lib.hid (fun w3 (h : Blk w3 B (numC fun i => if i < j then S' i else S i) 80) => show Blk (w3.setCell ⟨B, j, none⟩ (.int .i64 (S j + f j))) B (numC fun i => if i < j + 1 then S' i else S i) 80 from (sums_next hj8 hsn1.out) ▸ h.set j _)
              clear hno2 hst3 hst4 hno1 hst1 hnext hq
              go_wp2_with fail
              go_quiet (first | (go_at_call 41; exact Calls.quiet_of_same (k1.out _)) | (go_at_call 41; exact Calls.quiet_of_same (k2.out _)))
              go_wp2_with fail
              obtain ⟨w5, hw5⟩ : ∃ w5, w5 = wr.drewN nq := ⟨_, rfl⟩
              have y5 : w5.cell? ⟨B, j, none⟩ = some (.int .i64 (S j)) := by rw [hw5]; exact y
              have yf5 : w5.cell? ⟨BF, j, none⟩ = some (.int .i64 (f j)) := by rw [hw5]; exact yf
              have yz5 : w5.frozen? ⟨B, j, none⟩ = false := by rw [hw5]; exact yz
              have bX5 := Lib.hid (show Blk w5 w.heap.size #[.string ⟨#[]⟩, .int .i64 0, .string ⟨#[]⟩, .string ⟨#[]⟩, .int .i64 0, .string ⟨#[]⟩, .string ⟨#[]⟩, .int .i64 0, .string ⟨#[]⟩, .int .i64 0, .int .i64 0, .int .i64 0, .int .i64 0, .int .i64 0] 39 by rw [hw5]; exact bX.out)
              have bN5 := Lib.hid (show Blk w5 B (numC fun i => if i < j then S' i else S i) 80 by rw [hw5]; exact bN.out)
              have bF5 := Lib.hid (show Blk w5 BF (numC f) 80 by rw [hw5]; exact bF.out)
              have hE5 : Ext w w5 := by rw [hw5]; exact hE.drewN nq
              rw [← hw5]
              clear hw5 y yf yz bX bN bF hE bXs bNs
              refine wp_region_still_tail 9 (by kernel_rfl) (by kernel_rfl) ?_
              simp only [List.take_succ_cons, List.take_zero, List.drop_succ_cons, List.drop_zero]
              repeat still_step
              refine wpStill_nil ?_
              have bN6 := Lib.hid ((bN2.out w5.drew bN5.out))
              have bX6 := Lib.hid ((show Blk w5.drew w.heap.size #[.string ⟨#[]⟩, .int .i64 0, .string ⟨#[]⟩, .string ⟨#[]⟩, .int .i64 0, .string ⟨#[]⟩, .string ⟨#[]⟩, .int .i64 0, .string ⟨#[]⟩, .int .i64 0, .int .i64 0, .int .i64 0, .int .i64 0, .int .i64 0] 39 from bX5.out).other (C := B) j (.int .i64 (S j + f j)) (by omega))
              have bF6 := Lib.hid ((show Blk w5.drew BF (numC f) 80 from bF5.out).other (C := B) j (.int .i64 (S j + f j)) (by omega))
              have hE6 := hE5.drew.setCell (p := ⟨B, j, none⟩) (show w.heap.size ≤ B by omega) (.int .i64 (S j + f j))
              have y6 : w5.drew.cell? ⟨B, j, none⟩ = some (.int .i64 (S j)) := y5
              have yz6 : w5.drew.frozen? ⟨B, j, none⟩ = false := yz5
              go_wp2
              go_roundw
              case rel => exact ⟨j + 1, by omega, by go_num, hq2.out, hE6, bX6.out, bN6.out, bF6.out⟩
              case measure => simp [intOf]; omega
        · obtain rfl : j = 8 := by omega
          have bN2 := Lib.hid (show Blk wr B (numC (tot (l.take (k + 1)))) 80 by rw [← hS'.out, numC_congr (f := S') (g := fun i => if i < 8 then S' i else S i) (fun i hi => (if_pos hi).symm)]; exact bN.out)
          have hall2 := Lib.hid (hnext.out hq)
          clear hq bN hnext hno1 hst1 hsn1 hS8
          go_wp2
          go_roundw
          case rel => exact ⟨k + 1, by omega, by go_num, hall2.out, hE, bX.out, bN2.out⟩
          case measure => simp [intOf]; omega
    · obtain rfl : k = l.length := by omega
      have hRR := Lib.hid (hok.out hall)
      rw [List.take_length] at bN
      clear hall hno hok htk hsn hst
      generalize tot l = S at *
      have bXs := bX.out.lt
      have bNs := bN.out.lt
      have x0 : wr.cell? ⟨w.heap.size, 0, none⟩ = some (.string ⟨#[]⟩) := (bX.out.cell 0).trans rfl
      have x1 : wr.cell? ⟨w.heap.size, 1, none⟩ = some (.int .i64 0) := (bX.out.cell 1).trans rfl
      have x2 : wr.cell? ⟨w.heap.size, 2, none⟩ = some (.string ⟨#[]⟩) := (bX.out.cell 2).trans rfl
      have x3 : wr.cell? ⟨w.heap.size, 3, none⟩ = some (.string ⟨#[]⟩) := (bX.out.cell 3).trans rfl
      have x4 : wr.cell? ⟨w.heap.size, 4, none⟩ = some (.int .i64 0) := (bX.out.cell 4).trans rfl
      have x5 : wr.cell? ⟨w.heap.size, 5, none⟩ = some (.string ⟨#[]⟩) := (bX.out.cell 5).trans rfl
      have x6 : wr.cell? ⟨w.heap.size, 6, none⟩ = some (.string ⟨#[]⟩) := (bX.out.cell 6).trans rfl
      have x7 : wr.cell? ⟨w.heap.size, 7, none⟩ = some (.int .i64 0) := (bX.out.cell 7).trans rfl
      have x8 : wr.cell? ⟨w.heap.size, 8, none⟩ = some (.string ⟨#[]⟩) := (bX.out.cell 8).trans rfl
      have x9 : wr.cell? ⟨w.heap.size, 9, none⟩ = some (.int .i64 0) := (bX.out.cell 9).trans rfl
      have x10 : wr.cell? ⟨w.heap.size, 10, none⟩ = some (.int .i64 0) := (bX.out.cell 10).trans rfl
      have x11 : wr.cell? ⟨w.heap.size, 11, none⟩ = some (.int .i64 0) := (bX.out.cell 11).trans rfl
      have x12 : wr.cell? ⟨w.heap.size, 12, none⟩ = some (.int .i64 0) := (bX.out.cell 12).trans rfl
      have x13 : wr.cell? ⟨w.heap.size, 13, none⟩ = some (.int .i64 0) := (bX.out.cell 13).trans rfl
      have f0 : wr.frozen? ⟨w.heap.size, 0, none⟩ = false := bX.out.fz 0
      have f1 : wr.frozen? ⟨w.heap.size, 1, none⟩ = false := bX.out.fz 1
      have f2 : wr.frozen? ⟨w.heap.size, 2, none⟩ = false := bX.out.fz 2
      have f3 : wr.frozen? ⟨w.heap.size, 3, none⟩ = false := bX.out.fz 3
      have f4 : wr.frozen? ⟨w.heap.size, 4, none⟩ = false := bX.out.fz 4
      have f5 : wr.frozen? ⟨w.heap.size, 5, none⟩ = false := bX.out.fz 5
      have f6 : wr.frozen? ⟨w.heap.size, 6, none⟩ = false := bX.out.fz 6
      have f7 : wr.frozen? ⟨w.heap.size, 7, none⟩ = false := bX.out.fz 7
      have f8 : wr.frozen? ⟨w.heap.size, 8, none⟩ = false := bX.out.fz 8
      have f9 : wr.frozen? ⟨w.heap.size, 9, none⟩ = false := bX.out.fz 9
      have f10 : wr.frozen? ⟨w.heap.size, 10, none⟩ = false := bX.out.fz 10
      have f11 : wr.frozen? ⟨w.heap.size, 11, none⟩ = false := bX.out.fz 11
      have f12 : wr.frozen? ⟨w.heap.size, 12, none⟩ = false := bX.out.fz 12
      have f13 : wr.frozen? ⟨w.heap.size, 13, none⟩ = false := bX.out.fz 13
      have y0 : wr.cell? ⟨B, 0, none⟩ = some (.int .i64 (S 0)) := (bN.out.cell 0).trans rfl
      have y1 : wr.cell? ⟨B, 1, none⟩ = some (.int .i64 (S 1)) := (bN.out.cell 1).trans rfl
      have y2 : wr.cell? ⟨B, 2, none⟩ = some (.int .i64 (S 2)) := (bN.out.cell 2).trans rfl
      have y3 : wr.cell? ⟨B, 3, none⟩ = some (.int .i64 (S 3)) := (bN.out.cell 3).trans rfl
      have y4 : wr.cell? ⟨B, 4, none⟩ = some (.int .i64 (S 4)) := (bN.out.cell 4).trans rfl
      have y5 : wr.cell? ⟨B, 5, none⟩ = some (.int .i64 (S 5)) := (bN.out.cell 5).trans rfl
      have y6 : wr.cell? ⟨B, 6, none⟩ = some (.int .i64 (S 6)) := (bN.out.cell 6).trans rfl
      have y7 : wr.cell? ⟨B, 7, none⟩ = some (.int .i64 (S 7)) := (bN.out.cell 7).trans rfl
      have kl := Lib.hid (fun n w3 => rline_any n w3)
      have hE0 := hE
      have hne : w.heap.size ≠ B := by omega
      have xs : w.heap.size < wr.heap.size := bXs
      clear hE hlt hk
      go_wp2_with fail
      clear y0 y1 y2 y3 y4 y5 y6 y7
      go_region_held3 (fun w' => w'.cell? ⟨B, 0, none⟩ = some (.int .i64 (S 0)) ∧ w'.cell? ⟨B, 1, none⟩ = some (.int .i64 (S 1)) ∧ w'.cell? ⟨B, 2, none⟩ = some (.int .i64 (S 2)) ∧ w'.cell? ⟨B, 3, none⟩ = some (.int .i64 (S 3)) ∧ w'.cell? ⟨B, 4, none⟩ = some (.int .i64 (S 4)) ∧ w'.cell? ⟨B, 5, none⟩ = some (.int .i64 (S 5)) ∧ w'.cell? ⟨B, 6, none⟩ = some (.int .i64 (S 6)) ∧ w'.cell? ⟨B, 7, none⟩ = some (.int .i64 (S 7))) (first | with_reducible exact bn_cells bN.out | with_reducible exact bn_cells (blk_drew17 bN.out) | with_reducible exact bn_cells (blk_other14 hne bN.out)) (first | (go_at_call 50; refine (kl.out _ _).mono ?_; rintro e w6 ⟨rfl, hE6⟩; have hS := ext_at hE0 (by first | exact hE6 | exact Ext.undrew hE6); replace hE0 := hE0.trans hS; replace bN := Lib.hid (bN.out.ext hS); replace f0 := hS.fz xs f0; replace f1 := hS.fz xs f1; replace f2 := hS.fz xs f2; replace f3 := hS.fz xs f3; replace f4 := hS.fz xs f4; replace f5 := hS.fz xs f5; replace f6 := hS.fz xs f6; replace f7 := hS.fz xs f7; replace f8 := hS.fz xs f8; replace f9 := hS.fz xs f9; replace f10 := hS.fz xs f10; replace f11 := hS.fz xs f11; replace f12 := hS.fz xs f12; replace f13 := hS.fz xs f13; replace x0 := hS.get x0; replace x1 := hS.get x1; replace x2 := hS.get x2; replace x3 := hS.get x3; replace x4 := hS.get x4; replace x5 := hS.get x5; replace x6 := hS.get x6; replace x7 := hS.get x7; replace x8 := hS.get x8; replace x9 := hS.get x9; replace x10 := hS.get x10; replace x11 := hS.get x11; replace x12 := hS.get x12; replace x13 := hS.get x13; replace xs := cell_lt x0; clear hE6 hS))
      all_goals go_wp2
      all_goals exact bodyPost_ret (v := .tuple #[.agg #[.string ⟨#[115, 117, 109]⟩, .int .i64 (S 5), .string ⟨#[]⟩, .string ⟨#[115, 117, 109]⟩, .int .i64 (S 6), .string ⟨#[]⟩, .string ⟨#[115, 117, 109]⟩, .int .i64 (S 7), .string ⟨#[]⟩, .int .i64 (S 0), .int .i64 (S 1), .int .i64 (S 2), .int .i64 (S 3), .int .i64 (S 4)], .int .i64 0]) (by first | (simp [results, Tryz.results24, go_sem, x0, x1, x2, x3, x4, x5, x6, x7, x8, x9, x10, x11, x12, x13]; done) | simp [results, Tryz.results24, go_sem]) rfl (sumP (x := sumR S) hRR.out (by repeat (first | with_reducible exact Ext.refl _ | with_reducible exact hE0 | with_reducible exact hE | with_reducible refine Ext.alloc ?_ _ | with_reducible refine Ext.drewN ?_ _ | with_reducible refine Ext.drew ?_ | ((with_reducible refine Ext.setCell ?_ ?side _); (case side => first | exact Nat.le_refl _ | (simp; done) | (simp; omega))))))
end Go.Proofs.YtmnhmkjmcckneaaGreatDoor
