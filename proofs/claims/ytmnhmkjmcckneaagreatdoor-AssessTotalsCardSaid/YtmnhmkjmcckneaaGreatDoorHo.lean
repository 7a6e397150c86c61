/- The contract of assess.Sum (walk; printed by gen/h11.py). -/
import Derived.Test.YtmnhmkjmcckneaaGreatDoorHn
namespace Go.Proofs.YtmnhmkjmcckneaaGreatDoor
open Go.RowKit
theorem idx8 (f : Nat → Int) (w : World) : ∀ (j : Nat), j < 8 → Sem.run Tryz.prog (Instr.index 80 (Value.agg #[.int .i64 (f 0), .int .i64 (f 1), .int .i64 (f 2), .int .i64 (f 3), .int .i64 (f 4), .int .i64 (f 5), .int .i64 (f 6), .int .i64 (f 7)]) (Value.int IntKind.i64 (j : Int))) w = Result.ok (Value.int IntKind.i64 (f j)) w
 | 0, _ => by simp [Instr.index, go_sem]
 | 1, _ => by simp [Instr.index, go_sem]
 | 2, _ => by simp [Instr.index, go_sem]
 | 3, _ => by simp [Instr.index, go_sem]
 | 4, _ => by simp [Instr.index, go_sem]
 | 5, _ => by simp [Instr.index, go_sem]
 | 6, _ => by simp [Instr.index, go_sem]
 | 7, _ => by simp [Instr.index, go_sem]
 | j + 8, h => by omega
theorem sums_next {S S' f : Nat → Int} {j : Nat} (hj : j < 8) (h : ∀ j, S' j = S j + f j) : (numC fun i => if i < j then S' i else S i).setIfInBounds j (.int .i64 (S j + f j)) = numC fun i => if i < j + 1 then S' i else S i := by
 rw [numC_set _ _ j hj]
 exact numC_congr fun i _ => by
  by_cases e : i = j
  · subst e
    rw [if_pos rfl, if_pos (by omega), h]
  · rw [if_neg e]
    by_cases h2 : i < j
    · rw [if_pos h2, if_pos (by omega)]
    · rw [if_neg h2, if_neg (by omega)]
def SumP (r : ResD × Int) (w : World) (e : Ending) (w' : World) : Prop := e = .returned (.tuple #[resAgg r.1, .int .i64 r.2]) ∧ Ext w w'
theorem sumP {R : ResD × Int} {x : ResD} {c : Int} (h : R = (x, c)) {w w' : World} (hE : Ext w w') : SumP R w (.returned (.tuple #[resAgg x, .int .i64 c])) w' := by subst h; exact ⟨rfl, hE⟩
theorem tot_ok {l : List ResD} : ∀ {k : Nat}, k ≤ l.length → (∀ i, i < k → ∀ j, j < 8 → stepB l i j = true) → ∀ j, j < 8 → totalB (tot (l.take k) j) = true
 | 0, _, _, j, _ => by rw [List.take_zero]; rfl
 | k + 1, _, h, j, hj => by
  have := h k (by omega) j hj
  unfold stepB at this
  rw [Bool.and_eq_true] at this
  exact this.2
set_option maxRecDepth 8000 in
set_option maxHeartbeats 8000000 in
theorem sums_any (lv : Value) (l : List ResD) (w : World) (hR : ResM w lv l) : Calls Tryz.prog 23 #[lv] w (SumP (sumsV l) w) := by
 obtain ⟨lp, lc, rfl⟩ := hR.form
 have hll := hR.1
 have hno := Lib.hid (fun k j a b c => sumsV_no (l := l) (k := k) (j := j) a b c)
 have hok := Lib.hid (fun a => sumsV_ok (l := l) a)
 have htk := Lib.hid (fun k a b => tot_ok (l := l) (k := k) a b)
 have hsn := Lib.hid (fun k h j => tot_snoc l k h j)
 have hst := Lib.hid (show ∀ k j, stepB l k j = (totalB (numN (l.getD k resD) j) && totalB (tot (l.take (k + 1)) j)) from fun _ _ => rfl)
 generalize sumsV l = R at *
 go_enter Tryz.func23, Tryz.ntmps23
 go_wp2_with fail
 have bX0 := Lib.hid (((Blk.new w #[.string ⟨#[]⟩, .int .i64 0, .string ⟨#[]⟩, .string ⟨#[]⟩, .int .i64 0, .string ⟨#[]⟩, .string ⟨#[]⟩, .int .i64 0, .string ⟨#[]⟩, .int .i64 0, .int .i64 0, .int .i64 0, .int .i64 0, .int .i64 0] 35).alloc (.cells #[.int .i64 0, .int .i64 0, .int .i64 0, .int .i64 0, .int .i64 0, .int .i64 0, .int .i64 0, .int .i64 0] 80)))
 have bN0 : Blk ((w.alloc (.cells #[.string ⟨#[]⟩, .int .i64 0, .string ⟨#[]⟩, .string ⟨#[]⟩, .int .i64 0, .string ⟨#[]⟩, .string ⟨#[]⟩, .int .i64 0, .string ⟨#[]⟩, .int .i64 0, .int .i64 0, .int .i64 0, .int .i64 0, .int .i64 0] 35)).alloc (.cells #[.int .i64 0, .int .i64 0, .int .i64 0, .int .i64 0, .int .i64 0, .int .i64 0, .int .i64 0, .int .i64 0] 80)) (w.heap.size + 1) (numC (tot (l.take 0))) 80 := Blk.new' _ _ _ _ (by simp)
 have hE0 : Ext w ((w.alloc (.cells #[.string ⟨#[]⟩, .int .i64 0, .string ⟨#[]⟩, .string ⟨#[]⟩, .int .i64 0, .string ⟨#[]⟩, .string ⟨#[]⟩, .int .i64 0, .string ⟨#[]⟩, .int .i64 0, .int .i64 0, .int .i64 0, .int .i64 0, .int .i64 0] 35)).alloc (.cells #[.int .i64 0, .int .i64 0, .int .i64 0, .int .i64 0, .int .i64 0, .int .i64 0, .int .i64 0, .int .i64 0] 80)) := xt
 replace bN0 := Lib.hid bN0
 generalize (w.alloc (.cells #[.string ⟨#[]⟩, .int .i64 0, .string ⟨#[]⟩, .string ⟨#[]⟩, .int .i64 0, .string ⟨#[]⟩, .string ⟨#[]⟩, .int .i64 0, .string ⟨#[]⟩, .int .i64 0, .int .i64 0, .int .i64 0, .int .i64 0, .int .i64 0] 35)).alloc (.cells #[.int .i64 0, .int .i64 0, .int .i64 0, .int .i64 0, .int .i64 0, .int .i64 0, .int .i64 0, .int .i64 0] 80) = w0 at *
 obtain ⟨B, hB⟩ : ∃ B, B = w.heap.size + 1 := ⟨_, rfl⟩
 rw [← hB] at bN0 ⊢
 have hBw : w.heap.size < B := by omega
 clear hB
 go_loopw [11] (fun i wr => ∃ k : Nat, k ≤ l.length ∧ i = .int .i64 k ∧ (∀ k', k' < k → ∀ j, j < 8 → stepB l k' j = true) ∧ Ext w wr ∧ Blk wr w.heap.size #[.string ⟨#[]⟩, .int .i64 0, .string ⟨#[]⟩, .string ⟨#[]⟩, .int .i64 0, .string ⟨#[]⟩, .string ⟨#[]⟩, .int .i64 0, .string ⟨#[]⟩, .int .i64 0, .int .i64 0, .int .i64 0, .int .i64 0, .int .i64 0] 35 ∧ Blk wr B (numC (tot (l.take k))) 80) (fun i _ => l.length - (intOf i).toNat)
 case atStart => exact ⟨0, Nat.zero_le _, rfl, fun k' h => absurd h (by omega), hE0, bX0.out, bN0.out⟩
 case round =>
  clear bX0 bN0 hE0
  obtain ⟨k, hk, rfl, hall, hE, bX, bN⟩ := hrel
  replace bX := Lib.hid bX
  replace bN := Lib.hid bN
  by_cases hlt : k < l.length
  · have hS8 := htk.out k hk hall
    have hno1 := Lib.hid (fun j a b => hno.out k j hlt a b)
    have hsn1 := Lib.hid (hsn.out k hlt)
    have hst1 := Lib.hid (hst.out k)
    have hnext : (∀ j, j < 8 → stepB l k j = true) → ∀ k', k' < k + 1 → ∀ j, j < 8 → stepB l k' j = true := fun h k' hk' => by
     by_cases e : k' = k
     · rw [e]; exact h
     · exact hall k' (by omega)
    replace hnext := Lib.hid hnext
    replace hS8 := Lib.hid hS8
    clear hall
    obtain ⟨b, off, rfl, hc⟩ := hR.at (by omega)
    obtain ⟨c0, c1, c2, c3, c4, c5, c6, c7, c8, c9, c10, c11, c12, c13⟩ := (hc k hlt).ext hE
    clear hc
    have kN := Lib.hid (fun w1 => numbers_any (l.getD k resD) w1)
    unfold resAgg numC at kN
    obtain ⟨f, hf⟩ : ∃ f, f = numN (l.getD k resD) := ⟨_, rfl⟩
    rw [← hf] at hsn1 hst1 kN
    clear hf
    generalize l.getD k resD = x at *
    go_wp2_with fail
    refine (kN.out _).mono ?_
    rintro e w1 ⟨rfl, hE1⟩
    have hN : Ext wr w1 := Ext.trans ((Ext.refl wr).alloc _) hE1
    replace bX := Lib.hid (bX.out.ext hN)
    replace bN := Lib.hid (bN.out.ext hN)
    replace hE := hE.trans hN
    clear c0 c1 c2 c3 c4 c5 c6 c7 c8 c9 c10 c11 c12 c13 hE1 hN kN
    go_wp2_with fail
    generalize tot (l.take k) = S at *
    obtain ⟨S', hS'⟩ : ∃ S', S' = tot (l.take (k + 1)) := ⟨_, rfl⟩
    rw [← hS'] at hsn1
    simp only [← hS'] at hst1
    replace hS' := Lib.hid hS'
    obtain ⟨Q, hQ⟩ : ∃ Q, Q = stepB l k := ⟨_, rfl⟩
    rw [← hQ] at hno1 hst1 hnext
    clear hQ
    go_loopw [17] (fun i wr => ∃ j : Nat, j ≤ 8 ∧ i = .int .i64 j ∧ (∀ j', j' < j → Q j' = true) ∧ Ext w wr ∧ Blk wr w.heap.size #[.string ⟨#[]⟩, .int .i64 0, .string ⟨#[]⟩, .string ⟨#[]⟩, .int .i64 0, .string ⟨#[]⟩, .string ⟨#[]⟩, .int .i64 0, .string ⟨#[]⟩, .int .i64 0, .int .i64 0, .int .i64 0, .int .i64 0, .int .i64 0] 35 ∧ Blk wr B (numC fun i => if i < j then S' i else S i) 80) (fun i _ => 8 - (intOf i).toNat)
    case atStart => exact ⟨0, Nat.zero_le _, rfl, fun j h => absurd h (by omega), hE, bX.out, by rw [numC_congr (g := S) (fun i _ => if_neg (by omega))]; exact bN.out⟩
    case round =>
     clear bX bN hE
     obtain ⟨j, hj, rfl, hq, hE, bX, bN⟩ := hrel
     replace bX := Lib.hid bX
     replace bN := Lib.hid bN
     by_cases hj8 : j < 8
     · have yf := idx8 f wr j hj8
       have hjS : (if j < j then S' j else S j) = S j := if_neg (by omega)
       have y : wr.cell? ⟨B, j, none⟩ = some (.int .i64 (S j)) := by rw [bN.out.cell j, numC_get _ j hj8, hjS]
       have yz : wr.frozen? ⟨B, j, none⟩ = false := bN.out.fz j
       clear hjS
       have ht := (totalB_iff _).1 (hS8.out j hj8)
       have kW := Lib.hid (fun w3 => within_any (f j) w3)
       have htf := Lib.hid (totalB_iff (f j))
       have hno2 := Lib.hid (hno1.out j hj8)
       have hst2 := Lib.hid (hst1.out j)
       have hsn2 := Lib.hid (hsn1.out j)
       generalize totalB (f j) = tf at *
       go_wp2_with fail
       refine (kW.out _).mono ?_
       rintro e w3 ⟨rfl, hE3⟩
       replace bX := Lib.hid (bX.out.ext hE3)
       replace bN := Lib.hid (bN.out.ext hE3)
       replace hE := hE.trans hE3
       replace y := hE3.get y
       clear hE3 yf kW yz
       cases tf with
       | false =>
        have hRR := Lib.hid (hno2.out (by rw [hst2.out]; rfl))
        have bXs := bX.out.lt
        clear hno2 hst2 hno1 hst1 hnext y
        have x0 : w3.cell? ⟨w.heap.size, 0, none⟩ = some (.string ⟨#[]⟩) := (bX.out.cell 0).trans rfl
        have x1 : w3.cell? ⟨w.heap.size, 1, none⟩ = some (.int .i64 0) := (bX.out.cell 1).trans rfl
        have x2 : w3.cell? ⟨w.heap.size, 2, none⟩ = some (.string ⟨#[]⟩) := (bX.out.cell 2).trans rfl
        have x3 : w3.cell? ⟨w.heap.size, 3, none⟩ = some (.string ⟨#[]⟩) := (bX.out.cell 3).trans rfl
        have x4 : w3.cell? ⟨w.heap.size, 4, none⟩ = some (.int .i64 0) := (bX.out.cell 4).trans rfl
        have x5 : w3.cell? ⟨w.heap.size, 5, none⟩ = some (.string ⟨#[]⟩) := (bX.out.cell 5).trans rfl
        have x6 : w3.cell? ⟨w.heap.size, 6, none⟩ = some (.string ⟨#[]⟩) := (bX.out.cell 6).trans rfl
        have x7 : w3.cell? ⟨w.heap.size, 7, none⟩ = some (.int .i64 0) := (bX.out.cell 7).trans rfl
        have x8 : w3.cell? ⟨w.heap.size, 8, none⟩ = some (.string ⟨#[]⟩) := (bX.out.cell 8).trans rfl
        have x9 : w3.cell? ⟨w.heap.size, 9, none⟩ = some (.int .i64 0) := (bX.out.cell 9).trans rfl
        have x10 : w3.cell? ⟨w.heap.size, 10, none⟩ = some (.int .i64 0) := (bX.out.cell 10).trans rfl
        have x11 : w3.cell? ⟨w.heap.size, 11, none⟩ = some (.int .i64 0) := (bX.out.cell 11).trans rfl
        have x12 : w3.cell? ⟨w.heap.size, 12, none⟩ = some (.int .i64 0) := (bX.out.cell 12).trans rfl
        have x13 : w3.cell? ⟨w.heap.size, 13, none⟩ = some (.int .i64 0) := (bX.out.cell 13).trans rfl
        have f0 : w3.frozen? ⟨w.heap.size, 0, none⟩ = false := bX.out.fz 0
        have f1 : w3.frozen? ⟨w.heap.size, 1, none⟩ = false := bX.out.fz 1
        have f2 : w3.frozen? ⟨w.heap.size, 2, none⟩ = false := bX.out.fz 2
        have f3 : w3.frozen? ⟨w.heap.size, 3, none⟩ = false := bX.out.fz 3
        have f4 : w3.frozen? ⟨w.heap.size, 4, none⟩ = false := bX.out.fz 4
        have f5 : w3.frozen? ⟨w.heap.size, 5, none⟩ = false := bX.out.fz 5
        have f6 : w3.frozen? ⟨w.heap.size, 6, none⟩ = false := bX.out.fz 6
        have f7 : w3.frozen? ⟨w.heap.size, 7, none⟩ = false := bX.out.fz 7
        have f8 : w3.frozen? ⟨w.heap.size, 8, none⟩ = false := bX.out.fz 8
        have f9 : w3.frozen? ⟨w.heap.size, 9, none⟩ = false := bX.out.fz 9
        have f10 : w3.frozen? ⟨w.heap.size, 10, none⟩ = false := bX.out.fz 10
        have f11 : w3.frozen? ⟨w.heap.size, 11, none⟩ = false := bX.out.fz 11
        have f12 : w3.frozen? ⟨w.heap.size, 12, none⟩ = false := bX.out.fz 12
        have f13 : w3.frozen? ⟨w.heap.size, 13, none⟩ = false := bX.out.fz 13
        go_wp2
        exact bodyPost_ret (v := .tuple #[.agg #[.string ⟨#[]⟩, .int .i64 0, .string ⟨#[]⟩, .string ⟨#[]⟩, .int .i64 0, .string ⟨#[]⟩, .string ⟨#[]⟩, .int .i64 0, .string ⟨#[]⟩, .int .i64 0, .int .i64 0, .int .i64 0, .int .i64 0, .int .i64 0], .int .i64 4]) (by first | (simp [results, Tryz.results23, go_sem, x0, x1, x2, x3, x4, x5, x6, x7, x8, x9, x10, x11, x12, x13]; done) | simp [results, Tryz.results23, go_sem]) rfl (sumP (x := resD) hRR.out xt)
       | true =>
        obtain ⟨n1, n2⟩ := htf.out.1 rfl
        obtain ⟨n3, n4⟩ := ht
        have e1 : wrap64 (S j + f j) = S j + f j := by unfold wrap64; omega
        have kW2 := Lib.hid (fun w4 => within_any (S j + f j) w4)
        have hst3 := Lib.hid (show Q j = totalB (S j + f j) by rw [hst2.out, hsn2.out]; rfl)
        generalize totalB (S j + f j) = tt at *
        clear n1 n2 n3 n4 htf hst2
        go_wp2_with fail
        refine (kW2.out _).mono ?_
        rintro e w4 ⟨rfl, hE4⟩
        replace bX := Lib.hid (bX.out.ext hE4)
        replace bN := Lib.hid (bN.out.ext hE4)
        replace hE := hE.trans hE4
        replace y := hE4.get y
        clear hE4 kW2
        cases tt with
        | false =>
         have hRR := Lib.hid (hno2.out hst3.out)
         have bXs := bX.out.lt
         clear hno2 hst3 hno1 hst1 hnext y
         have x0 : w4.cell? ⟨w.heap.size, 0, none⟩ = some (.string ⟨#[]⟩) := (bX.out.cell 0).trans rfl
         have x1 : w4.cell? ⟨w.heap.size, 1, none⟩ = some (.int .i64 0) := (bX.out.cell 1).trans rfl
         have x2 : w4.cell? ⟨w.heap.size, 2, none⟩ = some (.string ⟨#[]⟩) := (bX.out.cell 2).trans rfl
         have x3 : w4.cell? ⟨w.heap.size, 3, none⟩ = some (.string ⟨#[]⟩) := (bX.out.cell 3).trans rfl
         have x4 : w4.cell? ⟨w.heap.size, 4, none⟩ = some (.int .i64 0) := (bX.out.cell 4).trans rfl
         have x5 : w4.cell? ⟨w.heap.size, 5, none⟩ = some (.string ⟨#[]⟩) := (bX.out.cell 5).trans rfl
         have x6 : w4.cell? ⟨w.heap.size, 6, none⟩ = some (.string ⟨#[]⟩) := (bX.out.cell 6).trans rfl
         have x7 : w4.cell? ⟨w.heap.size, 7, none⟩ = some (.int .i64 0) := (bX.out.cell 7).trans rfl
         have x8 : w4.cell? ⟨w.heap.size, 8, none⟩ = some (.string ⟨#[]⟩) := (bX.out.cell 8).trans rfl
         have x9 : w4.cell? ⟨w.heap.size, 9, none⟩ = some (.int .i64 0) := (bX.out.cell 9).trans rfl
         have x10 : w4.cell? ⟨w.heap.size, 10, none⟩ = some (.int .i64 0) := (bX.out.cell 10).trans rfl
         have x11 : w4.cell? ⟨w.heap.size, 11, none⟩ = some (.int .i64 0) := (bX.out.cell 11).trans rfl
         have x12 : w4.cell? ⟨w.heap.size, 12, none⟩ = some (.int .i64 0) := (bX.out.cell 12).trans rfl
         have x13 : w4.cell? ⟨w.heap.size, 13, none⟩ = some (.int .i64 0) := (bX.out.cell 13).trans rfl
         have f0 : w4.frozen? ⟨w.heap.size, 0, none⟩ = false := bX.out.fz 0
         have f1 : w4.frozen? ⟨w.heap.size, 1, none⟩ = false := bX.out.fz 1
         have f2 : w4.frozen? ⟨w.heap.size, 2, none⟩ = false := bX.out.fz 2
         have f3 : w4.frozen? ⟨w.heap.size, 3, none⟩ = false := bX.out.fz 3
         have f4 : w4.frozen? ⟨w.heap.size, 4, none⟩ = false := bX.out.fz 4
         have f5 : w4.frozen? ⟨w.heap.size, 5, none⟩ = false := bX.out.fz 5
         have f6 : w4.frozen? ⟨w.heap.size, 6, none⟩ = false := bX.out.fz 6
         have f7 : w4.frozen? ⟨w.heap.size, 7, none⟩ = false := bX.out.fz 7
         have f8 : w4.frozen? ⟨w.heap.size, 8, none⟩ = false := bX.out.fz 8
         have f9 : w4.frozen? ⟨w.heap.size, 9, none⟩ = false := bX.out.fz 9
         have f10 : w4.frozen? ⟨w.heap.size, 10, none⟩ = false := bX.out.fz 10
         have f11 : w4.frozen? ⟨w.heap.size, 11, none⟩ = false := bX.out.fz 11
         have f12 : w4.frozen? ⟨w.heap.size, 12, none⟩ = false := bX.out.fz 12
         have f13 : w4.frozen? ⟨w.heap.size, 13, none⟩ = false := bX.out.fz 13
         go_wp2
         exact bodyPost_ret (v := .tuple #[.agg #[.string ⟨#[]⟩, .int .i64 0, .string ⟨#[]⟩, .string ⟨#[]⟩, .int .i64 0, .string ⟨#[]⟩, .string ⟨#[]⟩, .int .i64 0, .string ⟨#[]⟩, .int .i64 0, .int .i64 0, .int .i64 0, .int .i64 0, .int .i64 0], .int .i64 4]) (by first | (simp [results, Tryz.results23, go_sem, x0, x1, x2, x3, x4, x5, x6, x7, x8, x9, x10, x11, x12, x13]; done) | simp [results, Tryz.results23, go_sem]) rfl (sumP (x := resD) hRR.out xt)
        | true =>
         have yz : w4.frozen? ⟨B, j, none⟩ = false := bN.out.fz j
         have hq2 : ∀ j', j' < j + 1 → Q j' = true := fun j' hj' => by
          by_cases e : j' = j
          · rw [e]; exact hst3.out
          · exact hq j' (by omega)
         replace hq2 := Lib.hid hq2
         have bN2 := Lib.hid (show Blk (w4.setCell ⟨B, j, none⟩ (.int .i64 (S j + f j))) B (numC fun i => if i < j + 1 then S' i else S i) 80 from (sums_next hj8 hsn1.out) ▸ bN.out.set j _)
         have bX2 := Lib.hid (bX.out.other (C := B) j (.int .i64 (S j + f j)) (by omega))
         have hE2 := hE.setCell (p := ⟨B, j, none⟩) (show w.heap.size ≤ B by omega) (.int .i64 (S j + f j))
         clear hno2 hst3 hno1 hst1 hnext
         go_wp2
         go_roundw
         case rel => exact ⟨j + 1, by omega, by go_num, hq2.out, hE2, bX2.out, bN2.out⟩
         case measure => simp [intOf]; omega
     · obtain rfl : j = 8 := by omega
       have bN2 := Lib.hid (show Blk wr B (numC (tot (l.take (k + 1)))) 80 by rw [← hS'.out, numC_congr (f := S') (g := fun i => if i < 8 then S' i else S i) (fun i hi => (if_pos hi).symm)]; exact bN.out)
       have hall2 := Lib.hid (hnext.out hq)
       clear hq bN hnext hno1 hst1 hsn1 hS8
       go_wp2
       go_roundw
       case rel => exact ⟨k + 1, by omega, by go_num, hall2.out, hE, bX.out, bN2.out⟩
       case measure => simp [intOf]; omega
  · obtain rfl : k = l.length := by omega
    have hRR := Lib.hid (hok.out hall)
    rw [List.take_length] at bN
    clear hall hno hok htk hsn hst
    generalize tot l = S at *
    have bXs := bX.out.lt
    have bNs := bN.out.lt
    have x0 : wr.cell? ⟨w.heap.size, 0, none⟩ = some (.string ⟨#[]⟩) := (bX.out.cell 0).trans rfl
    have x1 : wr.cell? ⟨w.heap.size, 1, none⟩ = some (.int .i64 0) := (bX.out.cell 1).trans rfl
    have x2 : wr.cell? ⟨w.heap.size, 2, none⟩ = some (.string ⟨#[]⟩) := (bX.out.cell 2).trans rfl
    have x3 : wr.cell? ⟨w.heap.size, 3, none⟩ = some (.string ⟨#[]⟩) := (bX.out.cell 3).trans rfl
    have x4 : wr.cell? ⟨w.heap.size, 4, none⟩ = some (.int .i64 0) := (bX.out.cell 4).trans rfl
    have x5 : wr.cell? ⟨w.heap.size, 5, none⟩ = some (.string ⟨#[]⟩) := (bX.out.cell 5).trans rfl
    have x6 : wr.cell? ⟨w.heap.size, 6, none⟩ = some (.string ⟨#[]⟩) := (bX.out.cell 6).trans rfl
    have x7 : wr.cell? ⟨w.heap.size, 7, none⟩ = some (.int .i64 0) := (bX.out.cell 7).trans rfl
    have x8 : wr.cell? ⟨w.heap.size, 8, none⟩ = some (.string ⟨#[]⟩) := (bX.out.cell 8).trans rfl
    have x9 : wr.cell? ⟨w.heap.size, 9, none⟩ = some (.int .i64 0) := (bX.out.cell 9).trans rfl
    have x10 : wr.cell? ⟨w.heap.size, 10, none⟩ = some (.int .i64 0) := (bX.out.cell 10).trans rfl
    have x11 : wr.cell? ⟨w.heap.size, 11, none⟩ = some (.int .i64 0) := (bX.out.cell 11).trans rfl
    have x12 : wr.cell? ⟨w.heap.size, 12, none⟩ = some (.int .i64 0) := (bX.out.cell 12).trans rfl
    have x13 : wr.cell? ⟨w.heap.size, 13, none⟩ = some (.int .i64 0) := (bX.out.cell 13).trans rfl
    have f0 : wr.frozen? ⟨w.heap.size, 0, none⟩ = false := bX.out.fz 0
    have f1 : wr.frozen? ⟨w.heap.size, 1, none⟩ = false := bX.out.fz 1
    have f2 : wr.frozen? ⟨w.heap.size, 2, none⟩ = false := bX.out.fz 2
    have f3 : wr.frozen? ⟨w.heap.size, 3, none⟩ = false := bX.out.fz 3
    have f4 : wr.frozen? ⟨w.heap.size, 4, none⟩ = false := bX.out.fz 4
    have f5 : wr.frozen? ⟨w.heap.size, 5, none⟩ = false := bX.out.fz 5
    have f6 : wr.frozen? ⟨w.heap.size, 6, none⟩ = false := bX.out.fz 6
    have f7 : wr.frozen? ⟨w.heap.size, 7, none⟩ = false := bX.out.fz 7
    have f8 : wr.frozen? ⟨w.heap.size, 8, none⟩ = false := bX.out.fz 8
    have f9 : wr.frozen? ⟨w.heap.size, 9, none⟩ = false := bX.out.fz 9
    have f10 : wr.frozen? ⟨w.heap.size, 10, none⟩ = false := bX.out.fz 10
    have f11 : wr.frozen? ⟨w.heap.size, 11, none⟩ = false := bX.out.fz 11
    have f12 : wr.frozen? ⟨w.heap.size, 12, none⟩ = false := bX.out.fz 12
    have f13 : wr.frozen? ⟨w.heap.size, 13, none⟩ = false := bX.out.fz 13
    have y0 : wr.cell? ⟨B, 0, none⟩ = some (.int .i64 (S 0)) := (bN.out.cell 0).trans rfl
    have y1 : wr.cell? ⟨B, 1, none⟩ = some (.int .i64 (S 1)) := (bN.out.cell 1).trans rfl
    have y2 : wr.cell? ⟨B, 2, none⟩ = some (.int .i64 (S 2)) := (bN.out.cell 2).trans rfl
    have y3 : wr.cell? ⟨B, 3, none⟩ = some (.int .i64 (S 3)) := (bN.out.cell 3).trans rfl
    have y4 : wr.cell? ⟨B, 4, none⟩ = some (.int .i64 (S 4)) := (bN.out.cell 4).trans rfl
    have y5 : wr.cell? ⟨B, 5, none⟩ = some (.int .i64 (S 5)) := (bN.out.cell 5).trans rfl
    have y6 : wr.cell? ⟨B, 6, none⟩ = some (.int .i64 (S 6)) := (bN.out.cell 6).trans rfl
    have y7 : wr.cell? ⟨B, 7, none⟩ = some (.int .i64 (S 7)) := (bN.out.cell 7).trans rfl
    go_wp2
    exact bodyPost_ret (v := .tuple #[.agg #[.string ⟨#[115, 117, 109]⟩, .int .i64 (S 5), .string ⟨#[]⟩, .string ⟨#[115, 117, 109]⟩, .int .i64 (S 6), .string ⟨#[]⟩, .string ⟨#[115, 117, 109]⟩, .int .i64 (S 7), .string ⟨#[]⟩, .int .i64 (S 0), .int .i64 (S 1), .int .i64 (S 2), .int .i64 (S 3), .int .i64 (S 4)], .int .i64 0]) (by first | (simp [results, Tryz.results23, go_sem, x0, x1, x2, x3, x4, x5, x6, x7, x8, x9, x10, x11, x12, x13]; done) | simp [results, Tryz.results23, go_sem]) rfl (sumP (x := sumR S) hRR.out xt)
end Go.Proofs.YtmnhmkjmcckneaaGreatDoor
