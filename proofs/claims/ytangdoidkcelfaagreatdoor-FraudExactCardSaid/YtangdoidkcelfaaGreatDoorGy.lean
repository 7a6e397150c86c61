/- Contracts of the reference's all, by, kind, Check (walks; printed by gen/g5.py). Contracts of the reference's num, truth, product, two, used (of no uses), leaf (walks; printed by gen/g6.py). Contracts of the reference's leaf, eval, Eval, with no uses (walks; printed by gen/g7.py). -/
import Derived.Test.YtangdoidkcelfaaGreatDoorGx
import Derived.Test.YtangdoidkcelfaaGreatDoorEd
import Derived.Test.YtangdoidkcelfaaGreatDoorEf
import Derived.Test.YtangdoidkcelfaaGreatDoorEg
namespace Go.Proofs.YtangdoidkcelfaaGreatDoor
open Go.RowKit
theorem Ints.at {w : World} {v : Value} {zs : List Int} (h : Ints w v zs) : ∃ p c, v = .slice p zs.length c ∧ (0 < zs.length → ∃ b off, p = some ⟨b, off, none⟩ ∧ ∀ i, i < zs.length → w.cell? ⟨b, off + i, none⟩ = some (.int .i64 (zs.getD i 0))) := by
 rcases h with ⟨rfl, rfl⟩ | ⟨b, off, cap, rfl, hc⟩
 · exact ⟨none, 0, rfl, fun h => absurd h (by simp)⟩
 · exact ⟨_, cap, rfl, fun _ => ⟨b, off, rfl, hc⟩⟩
theorem allK_snoc (ks : List Int) (k : Int) (j : Nat) (hj : j < ks.length) : allK (ks.take (j + 1)) k = (allK (ks.take j) k && decide (ks.getD j 0 = k)) := by
 unfold allK
 rw [take_snocD ks 0 j hj, List.all_append]
 simp
theorem allK_bad (ks : List Int) (k : Int) (j : Nat) (hj : j < ks.length) (h : ¬ ks.getD j 0 = k) : allK ks k = false := by
 unfold allK
 rw [List.all_eq_false]
 refine ⟨ks.getD j 0, ?_, by simpa using h⟩
 rw [List.getD_eq_getElem?_getD, List.getElem?_eq_getElem hj, Option.getD_some]
 exact List.getElem_mem hj
set_option maxRecDepth 8000 in
set_option maxHeartbeats 1000000 in
theorem rall_any (v : Value) (ks : List Int) (k : Int) (w : World) (hI : Ints w v ks) (hl : ks.length ≤ 1000000) : Calls Tryz.prog 136 #[v, .int .i64 k] w (BlP (allK ks k) w) := by
 obtain ⟨p, c, rfl, hat⟩ := hI.at
 replace hat := Lib.hid hat
 go_enter Tryz.func136, Tryz.ntmps136
 go_wp2
 go_loop [5] (fun i => ∃ j : Nat, j ≤ ks.length ∧ i = .int .i64 j ∧ allK (ks.take j) k = true) (fun i => ks.length - (intOf i).toNat)
 case atStart => exact ⟨0, Nat.zero_le _, rfl, rfl⟩
 case round =>
  obtain ⟨j, hj, rfl, hall⟩ := hrel
  replace hall := Lib.hid hall
  by_cases hlt : j < ks.length
  · obtain ⟨b, off, rfl, hc⟩ := hat.out (by omega)
    have c0 := hc j hlt
    have hsn := Lib.hid (allK_snoc ks k j hlt)
    have hbd := Lib.hid (allK_bad ks k j hlt)
    clear hc
    generalize ks.getD j 0 = z at *
    by_cases e : z = k
    · have hn := Lib.hid (show allK (ks.take (j + 1)) k = true by rw [hsn.out, hall.out, decide_eq_true e]; rfl)
      have d1 : (z != k) = false := by simp [e]
      clear e hsn hbd
      go_wp2
      go_round
      case rel => exact ⟨j + 1, by omega, by go_num, hn.out⟩
      case measure => simp [intOf]; omega
    · have hn := Lib.hid (hbd.out e)
      have d1 : (z != k) = true := by simp [e]
      clear e hsn hbd
      go_wp2
      go_ret
      exact ⟨ret_boolE hn.out.symm, rfl⟩
  · have hk2 : ks.take j = ks := List.take_of_length_le (by omega)
    have hn := hall.out
    rw [hk2] at hn
    replace hn := Lib.hid hn
    clear hk2
    go_wp2
    go_ret
    exact ⟨ret_boolE hn.out.symm, rfl⟩
def ByP (n : Int) (w : World) (e : Ending) (w' : World) : Prop := e = .returned (.int .i64 n) ∧ w = w'
theorem byP {n m : Int} {w : World} (h : n = m) : ByP n w (.returned (.int .i64 m)) w := by subst h; exact ⟨rfl, rfl⟩
set_option maxRecDepth 8000 in
set_option maxHeartbeats 1000000 in
theorem by1 (fk : Int) (v : Value) (ks : List Int) (w : World) (_ : Ints w v ks) (_ : ks.length ≤ 1000000) : Calls Tryz.prog 113 #[.int .i64 1, .int .i64 fk, v] w (ByP (byK 1 fk ks) w) := by
 go_enter Tryz.func113, Tryz.ntmps113
 go_wp2
 go_ret
 exact byP (by simp [byK])
set_option maxRecDepth 8000 in
set_option maxHeartbeats 1000000 in
theorem by2 (fk : Int) (v : Value) (ks : List Int) (w : World) (_ : Ints w v ks) (_ : ks.length ≤ 1000000) : Calls Tryz.prog 113 #[.int .i64 2, .int .i64 fk, v] w (ByP (byK 2 fk ks) w) := by
 go_enter Tryz.func113, Tryz.ntmps113
 go_wp2
 go_ret
 exact byP (by simp [byK])
set_option maxRecDepth 8000 in
set_option maxHeartbeats 1000000 in
theorem by3 (fk : Int) (v : Value) (ks : List Int) (w : World) (_ : Ints w v ks) (_ : ks.length ≤ 1000000) : Calls Tryz.prog 113 #[.int .i64 3, .int .i64 fk, v] w (ByP (byK 3 fk ks) w) := by
 go_enter Tryz.func113, Tryz.ntmps113
 go_wp2
 go_ret
 exact byP (by simp [byK])
set_option maxRecDepth 8000 in
set_option maxHeartbeats 1000000 in
theorem by16 (fk : Int) (v : Value) (ks : List Int) (w : World) (_ : Ints w v ks) (_ : ks.length ≤ 1000000) : Calls Tryz.prog 113 #[.int .i64 16, .int .i64 fk, v] w (ByP (byK 16 fk ks) w) := by
 by_cases h2 : fk = 2
 · have d : (fk == 2) = true := by simpa using h2
   go_enter Tryz.func113, Tryz.ntmps113
   go_wp2
   go_ret
   exact byP (by simp [byK, h2])
 · have d : (fk == 2) = false := by simpa using h2
   go_enter Tryz.func113, Tryz.ntmps113
   go_wp2
   go_ret
   exact byP (by simp [byK, h2])
set_option maxRecDepth 8000 in
set_option maxHeartbeats 1000000 in
theorem by17 (fk : Int) (v : Value) (ks : List Int) (w : World) (_ : Ints w v ks) (_ : ks.length ≤ 1000000) : Calls Tryz.prog 113 #[.int .i64 17, .int .i64 fk, v] w (ByP (byK 17 fk ks) w) := by
 by_cases h2 : fk = 2
 · have d : (fk == 2) = true := by simpa using h2
   go_enter Tryz.func113, Tryz.ntmps113
   go_wp2
   go_ret
   exact byP (by simp [byK, h2])
 · have d : (fk == 2) = false := by simpa using h2
   go_enter Tryz.func113, Tryz.ntmps113
   go_wp2
   go_ret
   exact byP (by simp [byK, h2])
set_option maxRecDepth 8000 in
set_option maxHeartbeats 1000000 in
theorem by4 (fk : Int) (v : Value) (ks : List Int) (w : World) (hI : Ints w v ks) (hl : ks.length ≤ 1000000) : Calls Tryz.prog 113 #[.int .i64 4, .int .i64 fk, v] w (ByP (byK 4 fk ks) w) := by
 have kA := Lib.hid (fun w1 (h : Ints w1 v ks) => rall_any v ks 3 w1 h hl)
 replace hI := Lib.hid hI
 cases ha : allK ks 3 with
 | true =>
  rw [ha] at kA
  go_enter Tryz.func113, Tryz.ntmps113
  go_wp2_with fail
  refine (kA.out _ hI.out).mono ?_
  rintro e w1 ⟨rfl, rfl⟩
  go_wp2
  go_ret
  exact byP (by simp [byK, ha])
 | false =>
  rw [ha] at kA
  go_enter Tryz.func113, Tryz.ntmps113
  go_wp2_with fail
  refine (kA.out _ hI.out).mono ?_
  rintro e w1 ⟨rfl, rfl⟩
  go_wp2
  go_ret
  exact byP (by simp [byK, ha])
set_option maxRecDepth 8000 in
set_option maxHeartbeats 1000000 in
theorem by6 (fk : Int) (v : Value) (ks : List Int) (w : World) (hI : Ints w v ks) (hl : ks.length ≤ 1000000) : Calls Tryz.prog 113 #[.int .i64 6, .int .i64 fk, v] w (ByP (byK 6 fk ks) w) := by
 have kA := Lib.hid (fun w1 (h : Ints w1 v ks) => rall_any v ks 3 w1 h hl)
 replace hI := Lib.hid hI
 cases ha : allK ks 3 with
 | true =>
  rw [ha] at kA
  go_enter Tryz.func113, Tryz.ntmps113
  go_wp2_with fail
  refine (kA.out _ hI.out).mono ?_
  rintro e w1 ⟨rfl, rfl⟩
  go_wp2
  go_ret
  exact byP (by simp [byK, ha])
 | false =>
  rw [ha] at kA
  go_enter Tryz.func113, Tryz.ntmps113
  go_wp2_with fail
  refine (kA.out _ hI.out).mono ?_
  rintro e w1 ⟨rfl, rfl⟩
  go_wp2
  go_ret
  exact byP (by simp [byK, ha])
set_option maxRecDepth 8000 in
set_option maxHeartbeats 1000000 in
theorem by7 (fk : Int) (v : Value) (ks : List Int) (w : World) (hI : Ints w v ks) (hl : ks.length ≤ 1000000) : Calls Tryz.prog 113 #[.int .i64 7, .int .i64 fk, v] w (ByP (byK 7 fk ks) w) := by
 have kA := Lib.hid (fun w1 (h : Ints w1 v ks) => rall_any v ks 3 w1 h hl)
 replace hI := Lib.hid hI
 cases ha : allK ks 3 with
 | true =>
  rw [ha] at kA
  go_enter Tryz.func113, Tryz.ntmps113
  go_wp2_with fail
  refine (kA.out _ hI.out).mono ?_
  rintro e w1 ⟨rfl, rfl⟩
  go_wp2
  go_ret
  exact byP (by simp [byK, ha])
 | false =>
  rw [ha] at kA
  go_enter Tryz.func113, Tryz.ntmps113
  go_wp2_with fail
  refine (kA.out _ hI.out).mono ?_
  rintro e w1 ⟨rfl, rfl⟩
  go_wp2
  go_ret
  exact byP (by simp [byK, ha])
set_option maxRecDepth 8000 in
set_option maxHeartbeats 1000000 in
theorem by5 (fk : Int) (v : Value) (ks : List Int) (w : World) (hI : Ints w v ks) (hl : ks.length ≤ 1000000) : Calls Tryz.prog 113 #[.int .i64 5, .int .i64 fk, v] w (ByP (byK 5 fk ks) w) := by
 have kA := Lib.hid (fun w1 (h : Ints w1 v ks) => rall_any v ks 1 w1 h hl)
 replace hI := Lib.hid hI
 cases ha : allK ks 1 with
 | true =>
  rw [ha] at kA
  go_enter Tryz.func113, Tryz.ntmps113
  go_wp2_with fail
  refine (kA.out _ hI.out).mono ?_
  rintro e w1 ⟨rfl, rfl⟩
  go_wp2
  go_ret
  exact byP (by simp [byK, ha])
 | false =>
  rw [ha] at kA
  go_enter Tryz.func113, Tryz.ntmps113
  go_wp2_with fail
  refine (kA.out _ hI.out).mono ?_
  rintro e w1 ⟨rfl, rfl⟩
  go_wp2
  go_ret
  exact byP (by simp [byK, ha])
set_option maxRecDepth 8000 in
set_option maxHeartbeats 1000000 in
theorem by12 (fk : Int) (v : Value) (ks : List Int) (w : World) (hI : Ints w v ks) (hl : ks.length ≤ 1000000) : Calls Tryz.prog 113 #[.int .i64 12, .int .i64 fk, v] w (ByP (byK 12 fk ks) w) := by
 have kA := Lib.hid (fun w1 (h : Ints w1 v ks) => rall_any v ks 1 w1 h hl)
 replace hI := Lib.hid hI
 cases ha : allK ks 1 with
 | true =>
  rw [ha] at kA
  go_enter Tryz.func113, Tryz.ntmps113
  go_wp2_with fail
  refine (kA.out _ hI.out).mono ?_
  rintro e w1 ⟨rfl, rfl⟩
  go_wp2
  go_ret
  exact byP (by simp [byK, ha])
 | false =>
  rw [ha] at kA
  go_enter Tryz.func113, Tryz.ntmps113
  go_wp2_with fail
  refine (kA.out _ hI.out).mono ?_
  rintro e w1 ⟨rfl, rfl⟩
  go_wp2
  go_ret
  exact byP (by simp [byK, ha])
set_option maxRecDepth 8000 in
set_option maxHeartbeats 1000000 in
theorem by13 (fk : Int) (v : Value) (ks : List Int) (w : World) (hI : Ints w v ks) (hl : ks.length ≤ 1000000) : Calls Tryz.prog 113 #[.int .i64 13, .int .i64 fk, v] w (ByP (byK 13 fk ks) w) := by
 have kA := Lib.hid (fun w1 (h : Ints w1 v ks) => rall_any v ks 1 w1 h hl)
 replace hI := Lib.hid hI
 cases ha : allK ks 1 with
 | true =>
  rw [ha] at kA
  go_enter Tryz.func113, Tryz.ntmps113
  go_wp2_with fail
  refine (kA.out _ hI.out).mono ?_
  rintro e w1 ⟨rfl, rfl⟩
  go_wp2
  go_ret
  exact byP (by simp [byK, ha])
 | false =>
  rw [ha] at kA
  go_enter Tryz.func113, Tryz.ntmps113
  go_wp2_with fail
  refine (kA.out _ hI.out).mono ?_
  rintro e w1 ⟨rfl, rfl⟩
  go_wp2
  go_ret
  exact byP (by simp [byK, ha])
set_option maxRecDepth 8000 in
set_option maxHeartbeats 1000000 in
theorem by14 (fk : Int) (v : Value) (ks : List Int) (w : World) (hI : Ints w v ks) (hl : ks.length ≤ 1000000) : Calls Tryz.prog 113 #[.int .i64 14, .int .i64 fk, v] w (ByP (byK 14 fk ks) w) := by
 have kA := Lib.hid (fun w1 (h : Ints w1 v ks) => rall_any v ks 1 w1 h hl)
 replace hI := Lib.hid hI
 cases ha : allK ks 1 with
 | true =>
  rw [ha] at kA
  go_enter Tryz.func113, Tryz.ntmps113
  go_wp2_with fail
  refine (kA.out _ hI.out).mono ?_
  rintro e w1 ⟨rfl, rfl⟩
  go_wp2
  go_ret
  exact byP (by simp [byK, ha])
 | false =>
  rw [ha] at kA
  go_enter Tryz.func113, Tryz.ntmps113
  go_wp2_with fail
  refine (kA.out _ hI.out).mono ?_
  rintro e w1 ⟨rfl, rfl⟩
  go_wp2
  go_ret
  exact byP (by simp [byK, ha])
set_option maxRecDepth 8000 in
set_option maxHeartbeats 1000000 in
theorem by10 (fk : Int) (v : Value) (ks : List Int) (w : World) (hI : Ints w v ks) (hl : ks.length ≤ 1000000) : Calls Tryz.prog 113 #[.int .i64 10, .int .i64 fk, v] w (ByP (byK 10 fk ks) w) := by
 have kA := Lib.hid (fun w1 (h : Ints w1 v ks) => rall_any v ks 1 w1 h hl)
 replace hI := Lib.hid hI
 cases ha : allK ks 1 with
 | true =>
  rw [ha] at kA
  go_enter Tryz.func113, Tryz.ntmps113
  go_wp2_with fail
  refine (kA.out _ hI.out).mono ?_
  rintro e w1 ⟨rfl, rfl⟩
  go_wp2
  go_ret
  exact byP (by simp [byK, ha])
 | false =>
  rw [ha] at kA
  go_enter Tryz.func113, Tryz.ntmps113
  go_wp2_with fail
  refine (kA.out _ hI.out).mono ?_
  rintro e w1 ⟨rfl, rfl⟩
  go_wp2
  go_ret
  exact byP (by simp [byK, ha])
set_option maxRecDepth 8000 in
set_option maxHeartbeats 1000000 in
theorem by11 (fk : Int) (v : Value) (ks : List Int) (w : World) (hI : Ints w v ks) (hl : ks.length ≤ 1000000) : Calls Tryz.prog 113 #[.int .i64 11, .int .i64 fk, v] w (ByP (byK 11 fk ks) w) := by
 have kA := Lib.hid (fun w1 (h : Ints w1 v ks) => rall_any v ks 1 w1 h hl)
 replace hI := Lib.hid hI
 cases ha : allK ks 1 with
 | true =>
  rw [ha] at kA
  go_enter Tryz.func113, Tryz.ntmps113
  go_wp2_with fail
  refine (kA.out _ hI.out).mono ?_
  rintro e w1 ⟨rfl, rfl⟩
  go_wp2
  go_ret
  exact byP (by simp [byK, ha])
 | false =>
  rw [ha] at kA
  go_enter Tryz.func113, Tryz.ntmps113
  go_wp2_with fail
  refine (kA.out _ hI.out).mono ?_
  rintro e w1 ⟨rfl, rfl⟩
  go_wp2
  go_ret
  exact byP (by simp [byK, ha])
set_option maxRecDepth 8000 in
set_option maxHeartbeats 1000000 in
theorem by8 (fk : Int) (v : Value) (ks : List Int) (w : World) (hI : Ints w v ks) (hl : ks.length ≤ 1000000) (h0 : 0 < ks.length) : Calls Tryz.prog 113 #[.int .i64 8, .int .i64 fk, v] w (ByP (byK 8 fk ks) w) := by
 have kA := Lib.hid (fun w1 (h : Ints w1 v ks) k => rall_any v ks k w1 h hl)
 obtain ⟨p, c, rfl, hat⟩ := hI.at
 obtain ⟨b, off, rfl, hc⟩ := hat h0
 have c0 := hc 0 h0
 rw [Nat.add_zero] at c0
 replace hI := Lib.hid hI
 have hR := Lib.hid (show byK 8 fk ks = byK 8 fk ks from rfl)
 clear hat hc hR
 obtain ⟨z, hz⟩ : ∃ z, z = ks.getD 0 0 := ⟨_, rfl⟩
 rw [← hz] at c0
 cases ha : allK ks z with
 | true =>
  have hR := Lib.hid (show byK 8 fk ks = 3 by unfold byK; rw [← hz]; simp [ha])
  rw [hR.out]
  have kA := Lib.hid (fun w1 h => kA.out w1 h z)
  rw [ha] at kA
  clear ha hz
  go_enter Tryz.func113, Tryz.ntmps113
  go_wp2_with fail
  refine (kA.out _ hI.out).mono ?_
  rintro e w1 ⟨rfl, rfl⟩
  go_wp2
  go_ret
  exact byP rfl
 | false =>
  have hR := Lib.hid (show byK 8 fk ks = 0 by unfold byK; rw [← hz]; simp [ha])
  rw [hR.out]
  have kA := Lib.hid (fun w1 h => kA.out w1 h z)
  rw [ha] at kA
  clear ha hz
  go_enter Tryz.func113, Tryz.ntmps113
  go_wp2_with fail
  refine (kA.out _ hI.out).mono ?_
  rintro e w1 ⟨rfl, rfl⟩
  go_wp2
  go_ret
  exact byP rfl
set_option maxRecDepth 8000 in
set_option maxHeartbeats 1000000 in
theorem by9 (fk : Int) (v : Value) (ks : List Int) (w : World) (hI : Ints w v ks) (hl : ks.length ≤ 1000000) (h0 : 0 < ks.length) : Calls Tryz.prog 113 #[.int .i64 9, .int .i64 fk, v] w (ByP (byK 9 fk ks) w) := by
 have kA := Lib.hid (fun w1 (h : Ints w1 v ks) k => rall_any v ks k w1 h hl)
 obtain ⟨p, c, rfl, hat⟩ := hI.at
 obtain ⟨b, off, rfl, hc⟩ := hat h0
 have c0 := hc 0 h0
 rw [Nat.add_zero] at c0
 replace hI := Lib.hid hI
 have hR := Lib.hid (show byK 9 fk ks = byK 9 fk ks from rfl)
 clear hat hc hR
 obtain ⟨z, hz⟩ : ∃ z, z = ks.getD 0 0 := ⟨_, rfl⟩
 rw [← hz] at c0
 cases ha : allK ks z with
 | true =>
  have hR := Lib.hid (show byK 9 fk ks = 3 by unfold byK; rw [← hz]; simp [ha])
  rw [hR.out]
  have kA := Lib.hid (fun w1 h => kA.out w1 h z)
  rw [ha] at kA
  clear ha hz
  go_enter Tryz.func113, Tryz.ntmps113
  go_wp2_with fail
  refine (kA.out _ hI.out).mono ?_
  rintro e w1 ⟨rfl, rfl⟩
  go_wp2
  go_ret
  exact byP rfl
 | false =>
  have hR := Lib.hid (show byK 9 fk ks = 0 by unfold byK; rw [← hz]; simp [ha])
  rw [hR.out]
  have kA := Lib.hid (fun w1 h => kA.out w1 h z)
  rw [ha] at kA
  clear ha hz
  go_enter Tryz.func113, Tryz.ntmps113
  go_wp2_with fail
  refine (kA.out _ hI.out).mono ?_
  rintro e w1 ⟨rfl, rfl⟩
  go_wp2
  go_ret
  exact byP rfl
set_option maxRecDepth 8000 in
set_option maxHeartbeats 1000000 in
theorem by15 (fk : Int) (v : Value) (ks : List Int) (w : World) (hI : Ints w v ks) (hl : ks.length ≤ 1000000) (h0 : 0 < ks.length) : Calls Tryz.prog 113 #[.int .i64 15, .int .i64 fk, v] w (ByP (byK 15 fk ks) w) := by
 have kA := Lib.hid (fun w1 (h : Ints w1 v ks) k => rall_any v ks k w1 h hl)
 obtain ⟨p, c, rfl, hat⟩ := hI.at
 obtain ⟨b, off, rfl, hc⟩ := hat h0
 have c0 := hc 0 h0
 rw [Nat.add_zero] at c0
 replace hI := Lib.hid hI
 have hR := Lib.hid (show byK 15 fk ks = byK 15 fk ks from rfl)
 clear hat hc hR
 obtain ⟨z, hz⟩ : ∃ z, z = ks.getD 0 0 := ⟨_, rfl⟩
 rw [← hz] at c0
 by_cases h3 : z = 3
 · have d3 : (z != 3) = false := by simp [h3]
   have hR := Lib.hid (show byK 15 fk ks = 0 by unfold byK; rw [← hz]; simp [h3])
   rw [hR.out]
   clear h3 hz kA
   go_enter Tryz.func113, Tryz.ntmps113
   go_wp2
   go_ret
   exact byP rfl
 · have d3 : (z != 3) = true := by simp [h3]
   cases ha : allK ks z with
   | true =>
    have hR := Lib.hid (show byK 15 fk ks = 3 by unfold byK; rw [← hz]; simp [ha, h3])
    rw [hR.out]
    have kA := Lib.hid (fun w1 h => kA.out w1 h z)
    rw [ha] at kA
    clear ha hz h3
    go_enter Tryz.func113, Tryz.ntmps113
    go_wp2_with fail
    refine (kA.out _ hI.out).mono ?_
    rintro e w1 ⟨rfl, rfl⟩
    go_wp2
    go_ret
    exact byP rfl
   | false =>
    have hR := Lib.hid (show byK 15 fk ks = 0 by unfold byK; rw [← hz]; simp [ha, h3])
    rw [hR.out]
    have kA := Lib.hid (fun w1 h => kA.out w1 h z)
    rw [ha] at kA
    clear ha hz h3
    go_enter Tryz.func113, Tryz.ntmps113
    go_wp2_with fail
    refine (kA.out _ hI.out).mono ?_
    rintro e w1 ⟨rfl, rfl⟩
    go_wp2
    go_ret
    exact byP rfl
theorem by_any (op fk : Int) (v : Value) (ks : List Int) (w : World) (hI : Ints w v ks) (hl : ks.length ≤ 1000000) (h17 : 1 ≤ op ∧ op ≤ 17) (h0 : op = 8 ∨ op = 9 ∨ op = 15 → 0 < ks.length) : Calls Tryz.prog 113 #[.int .i64 op, .int .i64 fk, v] w (ByP (byK op fk ks) w) := by
 have h' : op = 1 ∨ op = 2 ∨ op = 3 ∨ op = 4 ∨ op = 5 ∨ op = 6 ∨ op = 7 ∨ op = 8 ∨ op = 9 ∨ op = 10 ∨ op = 11 ∨ op = 12 ∨ op = 13 ∨ op = 14 ∨ op = 15 ∨ op = 16 ∨ op = 17 := by omega
 rcases h' with rfl | rfl | rfl | rfl | rfl | rfl | rfl | rfl | rfl | rfl | rfl | rfl | rfl | rfl | rfl | rfl | rfl
 · exact by1 fk v ks w hI hl
 · exact by2 fk v ks w hI hl
 · exact by3 fk v ks w hI hl
 · exact by4 fk v ks w hI hl
 · exact by5 fk v ks w hI hl
 · exact by6 fk v ks w hI hl
 · exact by7 fk v ks w hI hl
 · exact by8 fk v ks w hI hl (h0 (by omega))
 · exact by9 fk v ks w hI hl (h0 (by omega))
 · exact by10 fk v ks w hI hl
 · exact by11 fk v ks w hI hl
 · exact by12 fk v ks w hI hl
 · exact by13 fk v ks w hI hl
 · exact by14 fk v ks w hI hl
 · exact by15 fk v ks w hI hl (h0 (by omega))
 · exact by16 fk v ks w hI hl
 · exact by17 fk v ks w hI hl
theorem ints_own {w : World} {B : Nat} {v : Value} {n : Nat} {ks : List Int} (h : w.ownsRow B 3 1 v n (ks.map (Value.int .i64))) (hn : n = ks.length) : Ints w v ks := by
 subst hn
 obtain ⟨_, ⟨rfl, h0⟩ | ⟨g, cap, cur, rfl, _, hb, hcap, _, hs, htk⟩⟩ := h
 · exact Or.inl ⟨rfl, List.length_eq_zero_iff.1 h0⟩
 · refine Or.inr ⟨g, 0, cap, rfl, fun i hi => ?_⟩
   have hb' : Blk w g cur 3 := hb
   rw [Nat.zero_add, hb'.cell, ← Array.getElem?_toList]
   have e : (cur.toList.take (ks.length * 1))[i]? = cur.toList[i]? := List.getElem?_take_of_lt (by omega)
   rw [← e, htk, List.getElem?_map, List.getElem?_eq_getElem hi]
   simp [List.getD_eq_getElem?_getD, List.getElem?_eq_getElem hi]
theorem tyL_len {l : List Feat} {args : List Ex} {ks : List Int} (h : Ex.ty.tyL l args = .ok ks) : ks.length = args.length := by
 induction args generalizing ks with
 | nil => simp only [Ex.ty.tyL] at h; cases h; rfl
 | cons x r ih =>
  rw [Ex.ty.tyL] at h
  split at h
  · cases h
  · cases hr : Ex.ty.tyL l r with
    | error c => rw [hr] at h; cases h
    | ok js => rw [hr] at h; cases h; simp [ih hr]
set_option maxRecDepth 8000 in
set_option maxHeartbeats 4000000 in
theorem rkind_any {w : World} {v : Value} {l0 : List Ex} (h : ExS w v l0) (fv : Value) (l : List Feat) (hF : Feats w fv l) : ∀ (x : Ex), x.args = l0 → ∀ w', Ext w w' → x.formed = true → Calls Tryz.prog 70 #[exAgg x v, fv] w' (TyPost (x.ty l) w') := by
 refine ExS.ind (P := fun x v => ∀ w', Ext w w' → x.formed = true → Calls Tryz.prog 70 #[exAgg x v, fv] w' (TyPost (x.ty l) w')) ?_ h
 clear h
 intro x v hS hK w' hEx hfm
 obtain ⟨op, nm, tx, n, args⟩ := x
 obtain ⟨q, cp, rfl⟩ := hS.form
 obtain ⟨fp, fc, rfl⟩ := hF.form
 rw [formed_eq] at hfm
 simp only [Bool.and_eq_true, List.all_eq_true] at hfm
 obtain ⟨hfv, hfa⟩ := hfm
 have hfk : ∀ k, k < args.length → (args.getD k exD).formed = true := by
  intro k hk
  refine hfa _ ?_
  rw [List.getD_eq_getElem?_getD, List.getElem?_eq_getElem hk, Option.getD_some]
  exact List.getElem_mem hk
 clear hfa
 replace hfk := Lib.hid hfk
 have hlen : args.length ≤ 17 := by have := fv_cut hfv; omega
 have hop : 1 ≤ op ∧ op ≤ 17 := by have := fv_cut hfv; omega
 have hop0 : op = 8 ∨ op = 9 ∨ op = 15 → 0 < args.length := fun h => by have := fv_cut hfv; omega
 clear hfv
 replace hop := Lib.hid hop
 replace hop0 := Lib.hid hop0
 replace hK := Lib.hid hK
 replace hF := Lib.hid (hF.ext hEx)
 simp only [Ex.args] at hK ⊢
 have hte := Lib.hid (fun c => ty_err (l := l) (op := op) (nm := nm) (tx := tx) (n := n) (args := args) (c := c))
 have hto := Lib.hid (fun ks => ty_ok (l := l) (op := op) (nm := nm) (tx := tx) (n := n) (args := args) (ks := ks))
 generalize (Ex.mk op nm tx n args).ty l = R at *
 rw [exAgg_mk]
 clear hS
 obtain ⟨i0, hi, hz0, hz1, hz2⟩ := info_partsE infoIntE
 replace hi := Lib.hid hi
 replace hz0 := Lib.hid hz0
 replace hz1 := Lib.hid hz1
 replace hz2 := Lib.hid hz2
 go_enter Tryz.func70, Tryz.ntmps70
 go_wp2_with fail
 have hb0 := Blk.new w' #[.int .i64 op, .string nm, .string tx, .int .i64 n, .slice q args.length cp] 40
 have hE0 : Ext w' (w'.alloc (.cells #[.int .i64 op, .string nm, .string tx, .int .i64 n, .slice q args.length cp] 40)) := xt
 generalize w'.alloc (.cells #[.int .i64 op, .string nm, .string tx, .int .i64 n, .slice q args.length cp] 40) = w0 at *
 replace hb0 := Lib.hid hb0
 go_loopw [6, 7] (fun kv i wr => ∃ k : Nat, ∃ ks : List Int, k ≤ args.length ∧ i = .int .i64 k ∧ Ex.ty.tyL l (args.take k) = .ok ks ∧ ks.length = k ∧ wr.ownsRow w0.heap.size 3 1 kv k (ks.map (Value.int .i64)) ∧ Ext w0 wr) (fun _ i _ => args.length - (intOf i).toNat)
 case atStart => exact ⟨0, [], Nat.zero_le _, rfl, rfl, rfl, ⟨rfl, Or.inl ⟨rfl, rfl⟩⟩, Ext.refl _⟩
 case round =>
  obtain ⟨k, ks, hk, rfl, hT, hkl, hown, hEr⟩ := hrel
  have x4 : wr.cell? ⟨w'.heap.size, 4, none⟩ = some (.slice q args.length cp) := ((hb0.out.ext hEr).cell 4).trans rfl
  by_cases hlt : k < args.length
  · obtain ⟨bb, off, rfl, sv, hkid⟩ := hK.out _ _ rfl (by omega)
    obtain ⟨hc, hsu, hP⟩ := hkid k hlt
    have hform := hsu.form
    have hEw := (hEx.trans hE0).trans hEr
    obtain ⟨c0, c1, c2, c3, c4⟩ := (hc.ext hEw).five
    have hsn := Lib.hid (tyL_snoc l args k hlt ks hT)
    have hbd := Lib.hid (tyL_bad l args k hlt ks hT)
    have hfy := hfk.out k hlt
    replace hP := Lib.hid hP
    replace hown := Lib.hid hown
    clear hc hkid hsu hT
    generalize args.getD k exD = y at *
    generalize sv k = u at *
    obtain ⟨uq, uc, rfl⟩ := hform
    replace hfy := Lib.hid hfy
    go_wp2_with fail
    refine (hP.out _ hEw hfy.out).mono ?_
    rintro e w3 ⟨rfl, hE1⟩
    have hE2 := hEr.trans hE1
    replace hown := Lib.hid (ownsRow_ext hown.out hE1)
    clear hE1 c0 c1 c2 c3 c4 x4 hEw hEr
    generalize y.ty l = ry at *
    obtain ⟨r1, r2⟩ := ry
    simp only at hsn hbd ⊢
    by_cases h0 : r2 = 0
    · subst h0
      have hnew := Lib.hid (hsn.out rfl)
      have hsz := hE2.size
      go_wp2_with (at_builtin; refine wpList_append_own _ rfl _ _ 48 rfl w0.heap.size 3 i0 (.int .i64 0) 1 8 Tryz.underlying48 hi.out hz0.out hz1.out hz2.out rfl (by decide) _ _ _ rfl (ownsRow_ext hown.out ((Ext.refl _).alloc _)) ⟨w3.heap.size, 0, none⟩ 1 1 [.int .i64 r1] rfl rfl ?_ ?_ ?_ ?_ ?_ ?_)
      · rfl
      · unfold maxLen; omega
      · omega
      · omega
      intro v5 w5 hown5 hgrow5 _
      have hE5 : Ext w0 w5 := Below.grown (hE2.alloc _) hgrow5 (by first | (simp; done) | (simp; omega)) (fun k hk => (hown.out.lt k hk).1)
      clear hgrow5 hown hE2
      go_wp2
      go_roundw
      case rel => exact ⟨k + 1, ks ++ [r1], by omega, by go_num, hnew.out, by simp [hkl], by simpa using hown5, hE5⟩
      case measure => simp [intOf]; omega
    · have d1 : (r2 != 0) = true := by simp [h0]
      have hR := Lib.hid (hte.out _ (hbd.out h0))
      clear hown
      go_wp2
      go_ret2
      exact ⟨by rw [hR.out]; rfl, hE0.trans hE2⟩
  · have hkk : args.take k = args := List.take_of_length_le (by omega)
    obtain rfl : k = args.length := by omega
    rw [hkk] at hT
    clear hkk hlt
    have hint := ints_own hown hkl.symm
    have hI2 := Lib.hid (fun w2 (h : Ext wr w2) => hint.ext h)
    have kB := Lib.hid (fun fk w2 (h : Ext wr w2) => by_any op fk _ ks w2 (hI2.out w2 h) (by omega) hop.out (fun h => by have := hop0.out h; omega))
    have kF := Lib.hid (fun w2 (h : Ext w' w2) => rfind_ex w2 (.slice fp l.length fc) l nm (hF.out.ext h))
    unfold FindP at kF
    have x1 : wr.cell? ⟨w'.heap.size, 1, none⟩ = some (.string nm) := ((hb0.out.ext hEr).cell 1).trans rfl
    have x0 : wr.cell? ⟨w'.heap.size, 0, none⟩ = some (.int .i64 op) := ((hb0.out.ext hEr).cell 0).trans rfl
    have hsz0 : w'.heap.size < wr.heap.size := cell_lt x0
    replace hT := Lib.hid (hto.out ks hT)
    have hE : Ext w' wr := hE0.trans hEr
    have hEw := Lib.hid hE
    clear hto hte hK hF hown hint hI2 hEr hE0 hEx hb0 hfk hkl hop0 hi hz0 hz1 hz2
    by_cases hnm : op = 3 ∨ op = 16 ∨ op = 17
    · skip
      cases hfd : findN l nm with
      | none =>
       have hR := Lib.hid (show R = (0, 6) by rw [hT.out, if_pos hnm]; simp only [hfd])
       rw [hfd] at kF
       clear hT hfd kB
       rcases hnm with rfl | rfl | rfl
       all_goals go_wp2_with fail
       all_goals refine (kF.out _ (hEw.out.alloc _)).mono ?_
       all_goals rintro e w6 ⟨rfl, rfl⟩
       all_goals go_wp2
       all_goals go_ret2
       all_goals exact ⟨by rw [hR.out]; rfl, xt⟩
      | some f =>
       have hR0 := Lib.hid (show R = if byK op f.kind ks = 0 then ((0 : Int), (28 : Int)) else (byK op f.kind ks, (0 : Int)) by rw [hT.out, if_pos hnm]; simp only [hfd])
       rw [hfd] at kF
       have kB2 := Lib.hid (fun w2 h => kB.out f.kind w2 h)
       clear hT hfd kB
       generalize byK op f.kind ks = bk at *
       simp only [Option.getD_some, Option.isSome_some] at kF
       by_cases hb : bk = 0
       · have hR := Lib.hid (show R = (0, 28) by rw [hR0.out, if_pos hb])
         subst hb
         clear hR0
         rcases hnm with rfl | rfl | rfl
         all_goals go_wp2_with fail
         all_goals refine (kF.out _ (hEw.out.alloc _)).mono ?_
         all_goals rintro e w6 ⟨rfl, rfl⟩
         all_goals go_wp2_with fail
         all_goals refine (kB2.out _ (by repeat (first | with_reducible exact Ext.refl _ | with_reducible refine Ext.alloc ?_ _ | (with_reducible refine Ext.setCell ?_ ?side _; case side => first | exact Nat.le_refl _ | (simp; done) | (simp; omega))))).mono ?_
         all_goals rintro e w7 ⟨rfl, rfl⟩
         all_goals go_wp2
         all_goals go_ret2
         all_goals exact ⟨by rw [hR.out]; rfl, xt⟩
       · have hR := Lib.hid (show R = (bk, 0) by rw [hR0.out, if_neg hb])
         have db : (bk == 0) = false := by simpa using hb
         clear hR0 hb
         rcases hnm with rfl | rfl | rfl
         all_goals go_wp2_with fail
         all_goals refine (kF.out _ (hEw.out.alloc _)).mono ?_
         all_goals rintro e w6 ⟨rfl, rfl⟩
         all_goals go_wp2_with fail
         all_goals refine (kB2.out _ (by repeat (first | with_reducible exact Ext.refl _ | with_reducible refine Ext.alloc ?_ _ | (with_reducible refine Ext.setCell ?_ ?side _; case side => first | exact Nat.le_refl _ | (simp; done) | (simp; omega))))).mono ?_
         all_goals rintro e w7 ⟨rfl, rfl⟩
         all_goals go_wp2
         all_goals go_ret2
         all_goals exact ⟨by rw [hR.out]; rfl, xt⟩
    · have hR0 := Lib.hid (show R = if byK op 0 ks = 0 then ((0 : Int), (28 : Int)) else (byK op 0 ks, (0 : Int)) by rw [hT.out, if_neg hnm])
      have o3 : (op == 3) = false := by simp; omega
      have o16 : (op == 16) = false := by simp; omega
      have o17 : (op == 17) = false := by simp; omega
      have kB2 := Lib.hid (fun w2 h => kB.out 0 w2 h)
      clear hT kB hnm kF
      generalize byK op 0 ks = bk at *
      by_cases hb : bk = 0
      · have hR := Lib.hid (show R = (0, 28) by rw [hR0.out, if_pos hb])
        subst hb
        clear hR0
        go_wp2_with fail
        refine (kB2.out _ ((Ext.refl _).alloc _)).mono ?_
        rintro e w7 ⟨rfl, rfl⟩
        go_wp2
        go_ret2
        exact ⟨by rw [hR.out]; rfl, xt⟩
      · have hR := Lib.hid (show R = (bk, 0) by rw [hR0.out, if_neg hb])
        have db : (bk == 0) = false := by simpa using hb
        clear hR0 hb
        go_wp2_with fail
        refine (kB2.out _ ((Ext.refl _).alloc _)).mono ?_
        rintro e w7 ⟨rfl, rfl⟩
        go_wp2
        go_ret2
        exact ⟨by rw [hR.out]; rfl, xt⟩
set_option maxRecDepth 8000 in
set_option maxHeartbeats 4000000 in
theorem rcheck_any {w : World} {v : Value} (x : Ex) (hS : ExS w v x.args) (hok : StrOk [x]) (hpt : x.parts.length ≤ 1000000) (fp : Option Addr) (fc : Nat) (l : List Feat) (hF : Feats w (.slice fp l.length fc) l) (hcap : l.length ≤ fc) (hs : ∀ i, i < l.length → (l.getD i fD).name.size ≤ 140737488355328) : Calls Tryz.prog 47 #[exAgg x v, .slice fp l.length fc] w (TyPost (checkV x l) w) := by
 obtain ⟨q, cp, rfl⟩ := hS.form
 have kV := Lib.hid (fun w1 (h : Ext w w1) => rvalid_any w1 fp fc l (hF.ext h) hcap hs)
 have kL := Lib.hid (fun w1 (h : Ext w w1) => rlevels_any hS x rfl w1 h (Nat.le_trans (levels_parts x) hpt))
 have kW := Lib.hid (fun w1 (h : Ext w w1) => rwell_any hS x rfl hok w1 h)
 have kK := Lib.hid (fun w1 (h : Ext w w1) (hf : x.formed = true) => rkind_any hS (.slice fp l.length fc) l hF x rfl w1 h hf)
 obtain ⟨R, hR⟩ : ∃ R, R = checkV x l := ⟨_, rfl⟩
 rw [← hR]
 unfold checkV at hR
 generalize x.ty l = ty at *
 generalize namesE [] l = ne at *
 obtain ⟨op, nm, tx, n, args⟩ := x
 simp only [exAgg_mk, Ex.args] at kV kL kW kK ⊢
 generalize (Ex.mk op nm tx n args).levels = lv at *
 generalize (Ex.mk op nm tx n args).formed = fm at *
 replace hR := Lib.hid hR
 clear hS hF hok hpt hs
 go_enter Tryz.func47, Tryz.ntmps47
 go_wp2_with fail
 have hb0 := Blk.new w #[.int .i64 op, .string nm, .string tx, .int .i64 n, .slice q args.length cp] 40
 refine (kV.out _ ((Ext.refl _).alloc _)).mono ?_
 rintro e w1 ⟨rfl, hE1⟩
 replace hb0 := Lib.hid (hb0.ext hE1)
 have hE : Ext w w1 := Ext.trans ((Ext.refl _).alloc _) hE1
 clear hE1 kV
 by_cases h1 : ne = 0
 · subst h1
   have x0 : w1.cell? ⟨w.heap.size, 0, none⟩ = some (.int .i64 op) := (hb0.out.cell 0).trans rfl
   have x1 : w1.cell? ⟨w.heap.size, 1, none⟩ = some (.string nm) := (hb0.out.cell 1).trans rfl
   have x2 : w1.cell? ⟨w.heap.size, 2, none⟩ = some (.string tx) := (hb0.out.cell 2).trans rfl
   have x3 : w1.cell? ⟨w.heap.size, 3, none⟩ = some (.int .i64 n) := (hb0.out.cell 3).trans rfl
   have x4 : w1.cell? ⟨w.heap.size, 4, none⟩ = some (.slice q args.length cp) := (hb0.out.cell 4).trans rfl
   replace hR := Lib.hid (hR.out.trans (if_neg (by simp)))
   go_wp2_with fail
   refine (kL.out _ hE).mono ?_
   rintro e w2 ⟨rfl, hE2⟩
   replace hb0 := Lib.hid (hb0.out.ext hE2)
   replace hE := hE.trans hE2
   clear hE2 kL x0 x1 x2 x3 x4
   by_cases h8 : 8 < lv
   · have hR2 := Lib.hid (hR.out.trans (if_pos h8))
     have d1 : decide ((8 : Int) < (lv : Int)) = true := decide_eq_true (by omega)
     have d2 : decide (8 < lv) = true := decide_eq_true h8
     clear h8 hR kW kK
     go_wp2
     go_ret2
     exact ⟨by rw [hR2.out]; rfl, hE⟩
   · have hR2 := Lib.hid (hR.out.trans (if_neg h8))
     have d1 : decide ((8 : Int) < (lv : Int)) = false := decide_eq_false (by omega)
     have d2 : decide (8 < lv) = false := decide_eq_false h8
     clear h8 hR
     have x0 : w2.cell? ⟨w.heap.size, 0, none⟩ = some (.int .i64 op) := (hb0.out.cell 0).trans rfl
     have x1 : w2.cell? ⟨w.heap.size, 1, none⟩ = some (.string nm) := (hb0.out.cell 1).trans rfl
     have x2 : w2.cell? ⟨w.heap.size, 2, none⟩ = some (.string tx) := (hb0.out.cell 2).trans rfl
     have x3 : w2.cell? ⟨w.heap.size, 3, none⟩ = some (.int .i64 n) := (hb0.out.cell 3).trans rfl
     have x4 : w2.cell? ⟨w.heap.size, 4, none⟩ = some (.slice q args.length cp) := (hb0.out.cell 4).trans rfl
     go_wp2_with fail
     refine (kW.out _ hE).mono ?_
     rintro e w3 ⟨rfl, hE3⟩
     replace hb0 := Lib.hid (hb0.out.ext hE3)
     replace hE := hE.trans hE3
     clear hE3 kW x0 x1 x2 x3 x4
     cases fm with
     | false =>
      have hR3 := Lib.hid (hR2.out.trans (if_pos rfl))
      clear hR2 kK
      go_wp2
      go_ret2
      exact ⟨by rw [hR3.out]; rfl, hE⟩
     | true =>
      have hR3 := Lib.hid (hR2.out.trans (if_neg (by simp)))
      clear hR2
      have kK2 := Lib.hid (fun w1 h => kK.out w1 h rfl)
      unfold TyPost at kK2
      clear kK
      obtain ⟨t1, t2⟩ := ty
      simp only at kK2
      have x0 : w3.cell? ⟨w.heap.size, 0, none⟩ = some (.int .i64 op) := (hb0.out.cell 0).trans rfl
      have x1 : w3.cell? ⟨w.heap.size, 1, none⟩ = some (.string nm) := (hb0.out.cell 1).trans rfl
      have x2 : w3.cell? ⟨w.heap.size, 2, none⟩ = some (.string tx) := (hb0.out.cell 2).trans rfl
      have x3 : w3.cell? ⟨w.heap.size, 3, none⟩ = some (.int .i64 n) := (hb0.out.cell 3).trans rfl
      have x4 : w3.cell? ⟨w.heap.size, 4, none⟩ = some (.slice q args.length cp) := (hb0.out.cell 4).trans rfl
      go_wp2_with fail
      refine (kK2.out _ hE).mono ?_
      rintro e w4 ⟨rfl, hE4⟩
      replace hE := hE.trans hE4
      clear hE4 kK2 x0 x1 x2 x3 x4
      go_wp2
      go_ret2
      exact ⟨by rw [hR3.out]; rfl, hE⟩
 · have d1 : (ne != 0) = true := by simpa using h1
   have hR2 := Lib.hid (hR.out.trans (if_pos h1))
   clear hR h1
   go_wp2
   go_ret2
   exact ⟨by rw [hR2.out]; rfl, hE⟩
end Go.Proofs.YtangdoidkcelfaaGreatDoor
namespace Go.Proofs.YtangdoidkcelfaaGreatDoor
open Go.RowKit
/-- What the reference's evaluation returns. -/
def EvP (o : Option Feat) (w : World) (e : Ending) (w' : World) : Prop := e = .returned (.tuple #[.agg #[.string (o.getD fD).name, .int .i64 (o.getD fD).kind, .int .i64 (o.getD fD).n, .string (o.getD fD).text], .int .i64 (if o.isSome then 0 else 4)]) ∧ Ext w w'
theorem evP_none {w w' : World} {e : Ending} (h : EvP none w e w') : e = .returned (.tuple #[.agg #[.string ⟨#[]⟩, .int .i64 0, .int .i64 0, .string ⟨#[]⟩], .int .i64 4]) ∧ Ext w w' := h
theorem evP_some {f : Feat} {w w' : World} {e : Ending} (h : EvP (some f) w e w') : e = .returned (.tuple #[.agg #[.string f.name, .int .i64 f.kind, .int .i64 f.n, .string f.text], .int .i64 0]) ∧ Ext w w' := h
theorem evP_n {R : Option Feat} {w w' : World} (hR : R = none) (h : Ext w w') : EvP R w (.returned (.tuple #[.agg #[.string ⟨#[]⟩, .int .i64 0, .int .i64 0, .string ⟨#[]⟩], .int .i64 4])) w' := by subst hR; exact ⟨rfl, h⟩
theorem evP_s {R : Option Feat} {f : Feat} {w w' : World} (hR : R = some f) (h : Ext w w') : EvP R w (.returned (.tuple #[.agg #[.string f.name, .int .i64 f.kind, .int .i64 f.n, .string f.text], .int .i64 0])) w' := by subst hR; exact ⟨rfl, h⟩
def numO (n : Int) : Option Feat := if nbrB n then some (numF n) else none
set_option maxRecDepth 8000 in
set_option maxHeartbeats 1000000 in
theorem rnum_any (n : Int) (w : World) : Calls Tryz.prog 73 #[.int .i64 n] w (EvP (numO n) w) := by
 obtain ⟨R, hR⟩ : ∃ R, R = numO n := ⟨_, rfl⟩
 rw [← hR]
 unfold numO at hR
 cases hn : nbrB n with
 | true =>
  have hR2 := Lib.hid (show R = some ⟨⟨#[]⟩, 1, n, ⟨#[]⟩⟩ by rw [hR, if_pos hn]; rfl)
  clear hR
  go_enter Tryz.func73, Tryz.ntmps73
  go_wp2_with fail
  refine (rnumber_any n _).mono ?_
  rintro e w1 ⟨rfl, rfl⟩
  rw [hn]
  clear hn
  go_wp2
  exact bodyPost_ret (v := .tuple #[.agg #[.string ⟨#[]⟩, .int .i64 1, .int .i64 n, .string ⟨#[]⟩], .int .i64 0]) (by simp [results, Tryz.results73, go_sem]) rfl (evP_s (f := ⟨⟨#[]⟩, 1, n, ⟨#[]⟩⟩) hR2.out xt)
 | false =>
  have hR2 := Lib.hid (show R = none by rw [hR, if_neg (by rw [hn]; simp)])
  clear hR
  go_enter Tryz.func73, Tryz.ntmps73
  go_wp2_with fail
  refine (rnumber_any n _).mono ?_
  rintro e w1 ⟨rfl, rfl⟩
  rw [hn]
  clear hn
  go_wp2
  exact bodyPost_ret (v := .tuple #[.agg #[.string ⟨#[]⟩, .int .i64 0, .int .i64 0, .string ⟨#[]⟩], .int .i64 4]) (by simp [results, Tryz.results73, go_sem]) rfl (evP_n hR2.out xt)
theorem rtruth_any (b : Bool) (w : World) : Calls Tryz.prog 72 #[.bool b] w (EvP (some (truthF b)) w) := by
 cases b with
 | true =>
  go_enter Tryz.func72, Tryz.ntmps72
  go_wp2
  exact bodyPost_ret (v := .tuple #[.agg #[.string ⟨#[]⟩, .int .i64 3, .int .i64 1, .string ⟨#[]⟩], .int .i64 0]) (by simp [results, Tryz.results72, go_sem]) rfl (evP_s (f := ⟨⟨#[]⟩, 3, 1, ⟨#[]⟩⟩) rfl xt)
 | false =>
  go_enter Tryz.func72, Tryz.ntmps72
  go_wp2
  exact bodyPost_ret (v := .tuple #[.agg #[.string ⟨#[]⟩, .int .i64 3, .int .i64 0, .string ⟨#[]⟩], .int .i64 0]) (by simp [results, Tryz.results72, go_sem]) rfl (evP_s (f := ⟨⟨#[]⟩, 3, 0, ⟨#[]⟩⟩) rfl xt)
def PrP (a b : Int) (w : World) (e : Ending) (w' : World) : Prop := ∃ m c, e = .returned (.tuple #[.int .i64 m, .bool c]) ∧ mulV a b = (if c then some m else none) ∧ w = w'
theorem most_div {x y : Int} (_ : 0 ≤ x) (hy : 0 < y) : x ≤ 4611686018427387904 / y ↔ x * y ≤ 4611686018427387904 := Int.le_ediv_iff_mul_le hy
theorem mul_abs (a b : Int) : nbrB (a * b) = true ↔ (a.natAbs : Int) * b.natAbs ≤ 4611686018427387904 := by
 rw [natAbs_mul_le]
 have h2 : (a.natAbs : Int) * b.natAbs = ((a.natAbs * b.natAbs : Nat) : Int) := (Int.natCast_mul _ _).symm
 rw [h2]
 generalize a.natAbs * b.natAbs = P
 constructor
 · intro h; omega
 · intro h; omega
set_option maxRecDepth 8000 in
set_option maxHeartbeats 2000000 in
theorem rproduct_any (a b : Int) (w : World) (ha : nbrB a = true) (hb : nbrB b = true) : Calls Tryz.prog 115 #[.int .i64 a, .int .i64 b] w (PrP a b w) := by
 rw [nbr_iff] at ha hb
 by_cases a0 : a = 0
 · have d0 : (a == 0) = true := by simpa using a0
   have hm := Lib.hid (show mulV a b = (if true then some 0 else none) by rw [a0]; simp [mulV, nbrB])
   clear ha hb a0
   go_enter Tryz.func115, Tryz.ntmps115
   go_wp2
   go_ret2
   exact ⟨0, true, rfl, hm.out, rfl⟩
 · have d0 : (a == 0) = false := by simpa using a0
   by_cases b0 : b = 0
   · have d1 : (b == 0) = true := by simpa using b0
     have hm := Lib.hid (show mulV a b = (if true then some 0 else none) by rw [b0]; simp [mulV, nbrB])
     clear ha hb a0 b0
     go_enter Tryz.func115, Tryz.ntmps115
     go_wp2
     go_ret2
     exact ⟨0, true, rfl, hm.out, rfl⟩
   · have d1 : (b == 0) = false := by simpa using b0
     obtain ⟨x, hx⟩ : ∃ x : Int, x = a.natAbs := ⟨_, rfl⟩
     obtain ⟨y, hy⟩ : ∃ y : Int, y = b.natAbs := ⟨_, rfl⟩
     have hy0 : 0 < y := by omega
     obtain ⟨Q, hQ⟩ : ∃ Q, Q = (4611686018427387904 : Int) / y := ⟨_, rfl⟩
     have eQ : (4611686018427387904 : Int).tdiv y = Q := by rw [hQ, Int.tdiv_eq_ediv_of_nonneg (by omega)]
     have hdiv : x ≤ Q ↔ nbrB (a * b) = true := by rw [hQ, most_div (by omega) hy0, mul_abs, ← hx, ← hy]
     have hwr : nbrB (a * b) = true → wrap64 (a * b) = a * b := fun h => by rw [nbr_iff] at h; exact wrap64_id _ (by omega) (by omega)
     have hQr : 0 ≤ Q ∧ Q ≤ 4611686018427387904 := by
      rw [hQ]
      exact ⟨Int.ediv_nonneg (by omega) (by omega), Int.ediv_le_self _ (by omega)⟩
     have eQw : wrap64 Q = Q := wrap64_id _ (by omega) (by omega)
     have hMb : ∃ m, m = wrap64 (a * b) := ⟨_, rfl⟩
     obtain ⟨M, hM⟩ := hMb
     have y0 : (y == 0) = false := by simp; omega
     have yn : ¬ y = 0 := by omega
     have sg : (¬ a < 0 ∧ x = a ∨ a < 0 ∧ x = -a ∧ wrap64 (-a) = x) ∧ (¬ b < 0 ∧ y = b ∨ b < 0 ∧ y = -b ∧ wrap64 (-b) = y) := by
      refine ⟨?_, ?_⟩
      · by_cases h : a < 0
        · exact Or.inr ⟨h, by omega, by rw [wrap64_id _ (by omega) (by omega)]; omega⟩
        · exact Or.inl ⟨h, by omega⟩
      · by_cases h : b < 0
        · exact Or.inr ⟨h, by omega, by rw [wrap64_id _ (by omega) (by omega)]; omega⟩
        · exact Or.inl ⟨h, by omega⟩
     have hres : (x ≤ Q → mulV a b = some M ∧ nbrB M = true) ∧ (¬ x ≤ Q → mulV a b = none) := by
      refine ⟨fun h => ?_, fun h => ?_⟩
      · have h1 := hdiv.1 h
        have h2 := hwr h1
        rw [hM, h2]
        exact ⟨by unfold mulV; rw [if_pos h1], h1⟩
      · unfold mulV
        rw [if_neg (fun h1 => h (hdiv.2 h1))]
     replace hres := Lib.hid hres
     have eM : wrap64 (a * b) = M := hM.symm
     clear hdiv hwr hM hQr hQ ha hb a0 b0 hx hy hy0
     obtain ⟨sa, sb⟩ := sg
     rcases sa with ⟨sa1, sa2⟩ | ⟨sa1, sa2, sa3⟩
     · have da : decide (a < 0) = false := decide_eq_false sa1
       rcases sb with ⟨sb1, sb2⟩ | ⟨sb1, sb2, sb3⟩
       · have db : decide (b < 0) = false := decide_eq_false sb1
         subst sa2 sb2
         clear sa1 sb1
         by_cases hc : x ≤ Q
         · have dc : decide (x ≤ Q) = true := decide_eq_true hc
           obtain ⟨h1, h2⟩ := hres.out.1 hc
           have h1 := Lib.hid h1
           clear hc hres
           go_enter Tryz.func115, Tryz.ntmps115
           go_wp2_with fail
           refine (rnumber_any M _).mono ?_
           rintro e w1 ⟨rfl, rfl⟩
           rw [h2]
           go_wp2
           go_ret2
           exact ⟨_, true, rfl, h1.out, rfl⟩
         · have dc : decide (x ≤ Q) = false := decide_eq_false hc
           have h1 := Lib.hid (hres.out.2 hc)
           clear hc hres
           go_enter Tryz.func115, Tryz.ntmps115
           go_wp2
           go_ret2
           exact ⟨_, false, rfl, h1.out, rfl⟩
       · have db : decide (b < 0) = true := decide_eq_true sb1
         subst sa2
         clear sa1 sb1 sb2
         by_cases hc : x ≤ Q
         · have dc : decide (x ≤ Q) = true := decide_eq_true hc
           obtain ⟨h1, h2⟩ := hres.out.1 hc
           have h1 := Lib.hid h1
           clear hc hres
           go_enter Tryz.func115, Tryz.ntmps115
           go_wp2_with fail
           refine (rnumber_any M _).mono ?_
           rintro e w1 ⟨rfl, rfl⟩
           rw [h2]
           go_wp2
           go_ret2
           exact ⟨_, true, rfl, h1.out, rfl⟩
         · have dc : decide (x ≤ Q) = false := decide_eq_false hc
           have h1 := Lib.hid (hres.out.2 hc)
           clear hc hres
           go_enter Tryz.func115, Tryz.ntmps115
           go_wp2
           go_ret2
           exact ⟨_, false, rfl, h1.out, rfl⟩
     · have da : decide (a < 0) = true := decide_eq_true sa1
       rcases sb with ⟨sb1, sb2⟩ | ⟨sb1, sb2, sb3⟩
       · have db : decide (b < 0) = false := decide_eq_false sb1
         subst sb2
         clear sa1 sa2 sb1
         by_cases hc : x ≤ Q
         · have dc : decide (x ≤ Q) = true := decide_eq_true hc
           obtain ⟨h1, h2⟩ := hres.out.1 hc
           have h1 := Lib.hid h1
           clear hc hres
           go_enter Tryz.func115, Tryz.ntmps115
           go_wp2_with fail
           refine (rnumber_any M _).mono ?_
           rintro e w1 ⟨rfl, rfl⟩
           rw [h2]
           go_wp2
           go_ret2
           exact ⟨_, true, rfl, h1.out, rfl⟩
         · have dc : decide (x ≤ Q) = false := decide_eq_false hc
           have h1 := Lib.hid (hres.out.2 hc)
           clear hc hres
           go_enter Tryz.func115, Tryz.ntmps115
           go_wp2
           go_ret2
           exact ⟨_, false, rfl, h1.out, rfl⟩
       · have db : decide (b < 0) = true := decide_eq_true sb1
         clear sa1 sa2 sb1 sb2
         by_cases hc : x ≤ Q
         · have dc : decide (x ≤ Q) = true := decide_eq_true hc
           obtain ⟨h1, h2⟩ := hres.out.1 hc
           have h1 := Lib.hid h1
           clear hc hres
           go_enter Tryz.func115, Tryz.ntmps115
           go_wp2_with fail
           refine (rnumber_any M _).mono ?_
           rintro e w1 ⟨rfl, rfl⟩
           rw [h2]
           go_wp2
           go_ret2
           exact ⟨_, true, rfl, h1.out, rfl⟩
         · have dc : decide (x ≤ Q) = false := decide_eq_false hc
           have h1 := Lib.hid (hres.out.2 hc)
           clear hc hres
           go_enter Tryz.func115, Tryz.ntmps115
           go_wp2
           go_ret2
           exact ⟨_, false, rfl, h1.out, rfl⟩
theorem featNe (a b : Feat) (w : World) : (binOp .neq 62 (.agg #[.string a.name, .int .i64 a.kind, .int .i64 a.n, .string a.text]) (.agg #[.string b.name, .int .i64 b.kind, .int .i64 b.n, .string b.text])).run Tryz.prog w = .ok (.bool (decide (a ≠ b))) w := by
 rcases feat_cases a b with h | ⟨hne, h⟩
 · subst h
   rw [decide_eq_false (by simp)]
   go_simp
 · rw [decide_eq_true hne]
   obtain ⟨an, ak, am, at'⟩ := a
   obtain ⟨bn, bk, bm, bt⟩ := b
   simp only at h ⊢
   rcases h with h | ⟨e1, h⟩ | ⟨e1, e2, h⟩ | ⟨e1, e2, e3, h⟩
   · have g := bytes_ne h
     go_simp
   · have g : (ak == bk) = false := by simp [h]
     subst e1
     go_simp
   · have g : (am == bm) = false := by simp [h]
     subst e1
     subst e2
     go_simp
   · have g := bytes_ne h
     subst e1
     subst e2
     subst e3
     go_simp
theorem num_sum {a b : Int} (ha : nbrB a = true) (hb : nbrB b = true) : numO (wrap64 (a + b)) = (sumV a b).map numF := by
 rw [nbr_iff] at ha hb
 unfold numO sumV
 by_cases h : nbrB (a + b) = true
 · have h2 := (nbr_iff _).1 h
   rw [wrap64_id _ (by omega) (by omega), if_pos h, if_pos h]; rfl
 · have h3 : nbrB (wrap64 (a + b)) = false := by
    cases e : nbrB (wrap64 (a + b)) with
    | false => rfl
    | true =>
     exfalso
     rw [nbr_iff] at e h
     unfold wrap64 at e
     omega
   rw [if_neg (by rw [h3]; simp), if_neg h]; rfl
theorem num_mul {a b m : Int} {c : Bool} (h : mulV a b = (if c then some m else none)) (hc : c = true) : numO m = (mulV a b).map numF := by
 subst hc
 rw [if_pos rfl] at h
 rw [h]
 have := mulV_ok h
 unfold numO
 rw [if_pos this]; rfl
set_option maxRecDepth 8000 in
set_option maxHeartbeats 2000000 in
theorem rtwo8 (a b : Feat) (w : World) : Calls Tryz.prog 74 #[.int .i64 8, .agg #[.string a.name, .int .i64 a.kind, .int .i64 a.n, .string a.text], .agg #[.string b.name, .int .i64 b.kind, .int .i64 b.n, .string b.text]] w (EvP (comb 8 a b) w) := by
 have hR := Lib.hid (show comb 8 a b = some (truthF (decide (a = b))) by simp [comb])
 have kT := Lib.hid (fun w1 => rtruth_any (decide (a = b)) w1)
 have hq := fun (w : World) => featEq a b w
 generalize comb 8 a b = R at *
 generalize truthF (decide (a = b)) = f at *
 generalize decide (a = b) = bb at *
 go_enter Tryz.func74, Tryz.ntmps74
 have hb := Blk.new' ((w.alloc (.cells #[.string a.name, .int .i64 a.kind, .int .i64 a.n, .string a.text] 62)).alloc (.cells #[.string b.name, .int .i64 b.kind, .int .i64 b.n, .string b.text] 62)) #[.string ⟨#[]⟩, .int .i64 0, .int .i64 0, .string ⟨#[]⟩] 62 (w.heap.size + 1 + 1) (by simp)
 go_wp2_with fail
 refine (kT.out _).mono ?_
 clear hq
 rintro e w1 hq
 obtain ⟨rfl, hE1⟩ := evP_some hq
 have hbr := hb.ext hE1
 have z0 := hbr.cell 0
 have z1 := hbr.cell 1
 have z2 := hbr.cell 2
 have z3 := hbr.cell 3
 have f0 := hbr.fz 0
 have f1 := hbr.fz 1
 have f2 := hbr.fz 2
 have f3 := hbr.fz 3
 simp at z0 z1 z2 z3
 have zl : w.heap.size + 1 + 1 < w1.heap.size := hbr.lt
 have hE : Ext w w1 := Ext.trans xt hE1
 clear hE1 hbr hb
 clear kT
 go_wp2
 exact bodyPost_ret (v := .tuple #[.agg #[.string f.name, .int .i64 f.kind, .int .i64 f.n, .string f.text], .int .i64 0]) (by first | (simp [results, Tryz.results74, go_sem, z0, z1, z2, z3]; done) | simp [results, Tryz.results74, go_sem]) rfl (evP_s (f := f) hR.out xt)
set_option maxRecDepth 8000 in
set_option maxHeartbeats 2000000 in
theorem rtwo9 (a b : Feat) (w : World) : Calls Tryz.prog 74 #[.int .i64 9, .agg #[.string a.name, .int .i64 a.kind, .int .i64 a.n, .string a.text], .agg #[.string b.name, .int .i64 b.kind, .int .i64 b.n, .string b.text]] w (EvP (comb 9 a b) w) := by
 have hR := Lib.hid (show comb 9 a b = some (truthF (decide (a ≠ b))) by unfold comb; rw [if_neg (by omega), if_pos rfl])
 have kT := Lib.hid (fun w1 => rtruth_any (decide (a ≠ b)) w1)
 have hq := fun (w : World) => featNe a b w
 generalize comb 9 a b = R at *
 generalize truthF (decide (a ≠ b)) = f at *
 generalize decide (a ≠ b) = bb at *
 go_enter Tryz.func74, Tryz.ntmps74
 have hb := Blk.new' ((w.alloc (.cells #[.string a.name, .int .i64 a.kind, .int .i64 a.n, .string a.text] 62)).alloc (.cells #[.string b.name, .int .i64 b.kind, .int .i64 b.n, .string b.text] 62)) #[.string ⟨#[]⟩, .int .i64 0, .int .i64 0, .string ⟨#[]⟩] 62 (w.heap.size + 1 + 1) (by simp)
 go_wp2_with fail
 refine (kT.out _).mono ?_
 clear hq
 rintro e w1 hq
 obtain ⟨rfl, hE1⟩ := evP_some hq
 have hbr := hb.ext hE1
 have z0 := hbr.cell 0
 have z1 := hbr.cell 1
 have z2 := hbr.cell 2
 have z3 := hbr.cell 3
 have f0 := hbr.fz 0
 have f1 := hbr.fz 1
 have f2 := hbr.fz 2
 have f3 := hbr.fz 3
 simp at z0 z1 z2 z3
 have zl : w.heap.size + 1 + 1 < w1.heap.size := hbr.lt
 have hE : Ext w w1 := Ext.trans xt hE1
 clear hE1 hbr hb
 clear kT
 go_wp2
 exact bodyPost_ret (v := .tuple #[.agg #[.string f.name, .int .i64 f.kind, .int .i64 f.n, .string f.text], .int .i64 0]) (by first | (simp [results, Tryz.results74, go_sem, z0, z1, z2, z3]; done) | simp [results, Tryz.results74, go_sem]) rfl (evP_s (f := f) hR.out xt)
set_option maxRecDepth 8000 in
set_option maxHeartbeats 2000000 in
theorem rtwo10 (a b : Feat) (w : World) : Calls Tryz.prog 74 #[.int .i64 10, .agg #[.string a.name, .int .i64 a.kind, .int .i64 a.n, .string a.text], .agg #[.string b.name, .int .i64 b.kind, .int .i64 b.n, .string b.text]] w (EvP (comb 10 a b) w) := by
 have hR := Lib.hid (show comb 10 a b = some (truthF (decide (a.n < b.n))) by simp [comb])
 have kT := Lib.hid (fun w1 => rtruth_any (decide (a.n < b.n)) w1)
 generalize comb 10 a b = R at *
 generalize truthF (decide (a.n < b.n)) = f at *
 go_enter Tryz.func74, Tryz.ntmps74
 have hb := Blk.new' ((w.alloc (.cells #[.string a.name, .int .i64 a.kind, .int .i64 a.n, .string a.text] 62)).alloc (.cells #[.string b.name, .int .i64 b.kind, .int .i64 b.n, .string b.text] 62)) #[.string ⟨#[]⟩, .int .i64 0, .int .i64 0, .string ⟨#[]⟩] 62 (w.heap.size + 1 + 1) (by simp)
 go_wp2_with fail
 refine (kT.out _).mono ?_
 rintro e w1 hq
 obtain ⟨rfl, hE1⟩ := evP_some hq
 have hbr := hb.ext hE1
 have z0 := hbr.cell 0
 have z1 := hbr.cell 1
 have z2 := hbr.cell 2
 have z3 := hbr.cell 3
 have f0 := hbr.fz 0
 have f1 := hbr.fz 1
 have f2 := hbr.fz 2
 have f3 := hbr.fz 3
 simp at z0 z1 z2 z3
 have zl : w.heap.size + 1 + 1 < w1.heap.size := hbr.lt
 have hE : Ext w w1 := Ext.trans xt hE1
 clear hE1 hbr hb
 clear kT
 go_wp2
 exact bodyPost_ret (v := .tuple #[.agg #[.string f.name, .int .i64 f.kind, .int .i64 f.n, .string f.text], .int .i64 0]) (by first | (simp [results, Tryz.results74, go_sem, z0, z1, z2, z3]; done) | simp [results, Tryz.results74, go_sem]) rfl (evP_s (f := f) hR.out xt)
set_option maxRecDepth 8000 in
set_option maxHeartbeats 2000000 in
theorem rtwo11 (a b : Feat) (w : World) : Calls Tryz.prog 74 #[.int .i64 11, .agg #[.string a.name, .int .i64 a.kind, .int .i64 a.n, .string a.text], .agg #[.string b.name, .int .i64 b.kind, .int .i64 b.n, .string b.text]] w (EvP (comb 11 a b) w) := by
 have hR := Lib.hid (show comb 11 a b = some (truthF (decide (a.n ≤ b.n))) by simp [comb])
 have kT := Lib.hid (fun w1 => rtruth_any (decide (a.n ≤ b.n)) w1)
 generalize comb 11 a b = R at *
 generalize truthF (decide (a.n ≤ b.n)) = f at *
 go_enter Tryz.func74, Tryz.ntmps74
 have hb := Blk.new' ((w.alloc (.cells #[.string a.name, .int .i64 a.kind, .int .i64 a.n, .string a.text] 62)).alloc (.cells #[.string b.name, .int .i64 b.kind, .int .i64 b.n, .string b.text] 62)) #[.string ⟨#[]⟩, .int .i64 0, .int .i64 0, .string ⟨#[]⟩] 62 (w.heap.size + 1 + 1) (by simp)
 go_wp2_with fail
 refine (kT.out _).mono ?_
 rintro e w1 hq
 obtain ⟨rfl, hE1⟩ := evP_some hq
 have hbr := hb.ext hE1
 have z0 := hbr.cell 0
 have z1 := hbr.cell 1
 have z2 := hbr.cell 2
 have z3 := hbr.cell 3
 have f0 := hbr.fz 0
 have f1 := hbr.fz 1
 have f2 := hbr.fz 2
 have f3 := hbr.fz 3
 simp at z0 z1 z2 z3
 have zl : w.heap.size + 1 + 1 < w1.heap.size := hbr.lt
 have hE : Ext w w1 := Ext.trans xt hE1
 clear hE1 hbr hb
 clear kT
 go_wp2
 exact bodyPost_ret (v := .tuple #[.agg #[.string f.name, .int .i64 f.kind, .int .i64 f.n, .string f.text], .int .i64 0]) (by first | (simp [results, Tryz.results74, go_sem, z0, z1, z2, z3]; done) | simp [results, Tryz.results74, go_sem]) rfl (evP_s (f := f) hR.out xt)
set_option maxRecDepth 8000 in
set_option maxHeartbeats 2000000 in
theorem rtwo12 (a b : Feat) (w : World) (ha : nbrB a.n = true) (hb0 : nbrB b.n = true) : Calls Tryz.prog 74 #[.int .i64 12, .agg #[.string a.name, .int .i64 a.kind, .int .i64 a.n, .string a.text], .agg #[.string b.name, .int .i64 b.kind, .int .i64 b.n, .string b.text]] w (EvP (comb 12 a b) w) := by
 have hR0 := Lib.hid (show comb 12 a b = numO (wrap64 (a.n + b.n)) by rw [num_sum ha hb0]; simp [comb])
 have kT := Lib.hid (fun w1 => rnum_any (wrap64 (a.n + b.n)) w1)
 generalize comb 12 a b = R at *
 generalize numO (wrap64 (a.n + b.n)) = R0 at *
 clear ha hb0
 cases R0 with
 | none =>
  go_enter Tryz.func74, Tryz.ntmps74
  have hb := Blk.new' ((w.alloc (.cells #[.string a.name, .int .i64 a.kind, .int .i64 a.n, .string a.text] 62)).alloc (.cells #[.string b.name, .int .i64 b.kind, .int .i64 b.n, .string b.text] 62)) #[.string ⟨#[]⟩, .int .i64 0, .int .i64 0, .string ⟨#[]⟩] 62 (w.heap.size + 1 + 1) (by simp)
  go_wp2_with fail
  refine (kT.out _).mono ?_
  rintro e w1 hq
  obtain ⟨rfl, hE1⟩ := evP_none hq
  have hbr := hb.ext hE1
  have z0 := hbr.cell 0
  have z1 := hbr.cell 1
  have z2 := hbr.cell 2
  have z3 := hbr.cell 3
  have f0 := hbr.fz 0
  have f1 := hbr.fz 1
  have f2 := hbr.fz 2
  have f3 := hbr.fz 3
  simp at z0 z1 z2 z3
  have zl : w.heap.size + 1 + 1 < w1.heap.size := hbr.lt
  have hE : Ext w w1 := Ext.trans xt hE1
  clear hE1 hbr hb
  clear kT
  go_wp2
  exact bodyPost_ret (v := .tuple #[.agg #[.string ⟨#[]⟩, .int .i64 0, .int .i64 0, .string ⟨#[]⟩], .int .i64 4]) (by first | (simp [results, Tryz.results74, go_sem, z0, z1, z2, z3]; done) | simp [results, Tryz.results74, go_sem]) rfl (evP_n hR0.out xt)
 | some f =>
  go_enter Tryz.func74, Tryz.ntmps74
  have hb := Blk.new' ((w.alloc (.cells #[.string a.name, .int .i64 a.kind, .int .i64 a.n, .string a.text] 62)).alloc (.cells #[.string b.name, .int .i64 b.kind, .int .i64 b.n, .string b.text] 62)) #[.string ⟨#[]⟩, .int .i64 0, .int .i64 0, .string ⟨#[]⟩] 62 (w.heap.size + 1 + 1) (by simp)
  go_wp2_with fail
  refine (kT.out _).mono ?_
  rintro e w1 hq
  obtain ⟨rfl, hE1⟩ := evP_some hq
  have hbr := hb.ext hE1
  have z0 := hbr.cell 0
  have z1 := hbr.cell 1
  have z2 := hbr.cell 2
  have z3 := hbr.cell 3
  have f0 := hbr.fz 0
  have f1 := hbr.fz 1
  have f2 := hbr.fz 2
  have f3 := hbr.fz 3
  simp at z0 z1 z2 z3
  have zl : w.heap.size + 1 + 1 < w1.heap.size := hbr.lt
  have hE : Ext w w1 := Ext.trans xt hE1
  clear hE1 hbr hb
  clear kT
  go_wp2
  exact bodyPost_ret (v := .tuple #[.agg #[.string f.name, .int .i64 f.kind, .int .i64 f.n, .string f.text], .int .i64 0]) (by first | (simp [results, Tryz.results74, go_sem, z0, z1, z2, z3]; done) | simp [results, Tryz.results74, go_sem]) rfl (evP_s (f := f) hR0.out xt)
set_option maxRecDepth 8000 in
set_option maxHeartbeats 2000000 in
theorem rtwo13 (a b : Feat) (w : World) (ha : nbrB a.n = true) (hb0 : nbrB b.n = true) : Calls Tryz.prog 74 #[.int .i64 13, .agg #[.string a.name, .int .i64 a.kind, .int .i64 a.n, .string a.text], .agg #[.string b.name, .int .i64 b.kind, .int .i64 b.n, .string b.text]] w (EvP (comb 13 a b) w) := by
 have hR0 := Lib.hid (show comb 13 a b = numO (wrap64 (a.n - b.n)) by rw [show a.n - b.n = a.n + -b.n by omega, num_sum ha (nbr_neg hb0)]; simp [comb])
 have kT := Lib.hid (fun w1 => rnum_any (wrap64 (a.n - b.n)) w1)
 generalize comb 13 a b = R at *
 generalize numO (wrap64 (a.n - b.n)) = R0 at *
 clear ha hb0
 cases R0 with
 | none =>
  go_enter Tryz.func74, Tryz.ntmps74
  have hb := Blk.new' ((w.alloc (.cells #[.string a.name, .int .i64 a.kind, .int .i64 a.n, .string a.text] 62)).alloc (.cells #[.string b.name, .int .i64 b.kind, .int .i64 b.n, .string b.text] 62)) #[.string ⟨#[]⟩, .int .i64 0, .int .i64 0, .string ⟨#[]⟩] 62 (w.heap.size + 1 + 1) (by simp)
  go_wp2_with fail
  refine (kT.out _).mono ?_
  rintro e w1 hq
  obtain ⟨rfl, hE1⟩ := evP_none hq
  have hbr := hb.ext hE1
  have z0 := hbr.cell 0
  have z1 := hbr.cell 1
  have z2 := hbr.cell 2
  have z3 := hbr.cell 3
  have f0 := hbr.fz 0
  have f1 := hbr.fz 1
  have f2 := hbr.fz 2
  have f3 := hbr.fz 3
  simp at z0 z1 z2 z3
  have zl : w.heap.size + 1 + 1 < w1.heap.size := hbr.lt
  have hE : Ext w w1 := Ext.trans xt hE1
  clear hE1 hbr hb
  clear kT
  go_wp2
  exact bodyPost_ret (v := .tuple #[.agg #[.string ⟨#[]⟩, .int .i64 0, .int .i64 0, .string ⟨#[]⟩], .int .i64 4]) (by first | (simp [results, Tryz.results74, go_sem, z0, z1, z2, z3]; done) | simp [results, Tryz.results74, go_sem]) rfl (evP_n hR0.out xt)
 | some f =>
  go_enter Tryz.func74, Tryz.ntmps74
  have hb := Blk.new' ((w.alloc (.cells #[.string a.name, .int .i64 a.kind, .int .i64 a.n, .string a.text] 62)).alloc (.cells #[.string b.name, .int .i64 b.kind, .int .i64 b.n, .string b.text] 62)) #[.string ⟨#[]⟩, .int .i64 0, .int .i64 0, .string ⟨#[]⟩] 62 (w.heap.size + 1 + 1) (by simp)
  go_wp2_with fail
  refine (kT.out _).mono ?_
  rintro e w1 hq
  obtain ⟨rfl, hE1⟩ := evP_some hq
  have hbr := hb.ext hE1
  have z0 := hbr.cell 0
  have z1 := hbr.cell 1
  have z2 := hbr.cell 2
  have z3 := hbr.cell 3
  have f0 := hbr.fz 0
  have f1 := hbr.fz 1
  have f2 := hbr.fz 2
  have f3 := hbr.fz 3
  simp at z0 z1 z2 z3
  have zl : w.heap.size + 1 + 1 < w1.heap.size := hbr.lt
  have hE : Ext w w1 := Ext.trans xt hE1
  clear hE1 hbr hb
  clear kT
  go_wp2
  exact bodyPost_ret (v := .tuple #[.agg #[.string f.name, .int .i64 f.kind, .int .i64 f.n, .string f.text], .int .i64 0]) (by first | (simp [results, Tryz.results74, go_sem, z0, z1, z2, z3]; done) | simp [results, Tryz.results74, go_sem]) rfl (evP_s (f := f) hR0.out xt)
set_option maxRecDepth 8000 in
set_option maxHeartbeats 2000000 in
theorem rtwo14 (a b : Feat) (w : World) (ha : nbrB a.n = true) (hb0 : nbrB b.n = true) : Calls Tryz.prog 74 #[.int .i64 14, .agg #[.string a.name, .int .i64 a.kind, .int .i64 a.n, .string a.text], .agg #[.string b.name, .int .i64 b.kind, .int .i64 b.n, .string b.text]] w (EvP (comb 14 a b) w) := by
 have kP := Lib.hid (fun w1 => rproduct_any a.n b.n w1 ha hb0)
 have kT := Lib.hid (fun m w1 => rnum_any m w1)
 have hR0 := Lib.hid (show comb 14 a b = (mulV a.n b.n).map numF by simp [comb])
 generalize comb 14 a b = R at *
 clear ha hb0
 unfold PrP at kP
 go_enter Tryz.func74, Tryz.ntmps74
 have hb := Blk.new' ((w.alloc (.cells #[.string a.name, .int .i64 a.kind, .int .i64 a.n, .string a.text] 62)).alloc (.cells #[.string b.name, .int .i64 b.kind, .int .i64 b.n, .string b.text] 62)) #[.string ⟨#[]⟩, .int .i64 0, .int .i64 0, .string ⟨#[]⟩] 62 (w.heap.size + 1 + 1) (by simp)
 go_wp2_with fail
 refine (kP.out _).mono ?_
 rintro e w1 ⟨m, c, rfl, hm, rfl⟩
 cases c with
 | false =>
  have hR := Lib.hid (show R = none by rw [hR0.out, hm]; rfl)
  clear hm hR0 kT kP hb
  go_wp2
  exact bodyPost_ret (v := .tuple #[.agg #[.string ⟨#[]⟩, .int .i64 0, .int .i64 0, .string ⟨#[]⟩], .int .i64 4]) (by simp [results, Tryz.results74, go_sem]) rfl (evP_n hR.out xt)
 | true =>
  have hR := Lib.hid (show R = numO m by rw [hR0.out, num_mul hm rfl])
  clear hm hR0 kP
  have kT2 := Lib.hid (fun w1 => kT.out m w1)
  generalize numO m = R0 at *
  clear kT
  cases R0 with
  | none =>
   go_wp2_with fail
   refine (kT2.out _).mono ?_
   rintro e w1 hq
   obtain ⟨rfl, hE1⟩ := evP_none hq
   have hbr := hb.ext hE1
   have z0 := hbr.cell 0
   have z1 := hbr.cell 1
   have z2 := hbr.cell 2
   have z3 := hbr.cell 3
   have f0 := hbr.fz 0
   have f1 := hbr.fz 1
   have f2 := hbr.fz 2
   have f3 := hbr.fz 3
   simp at z0 z1 z2 z3
   have zl : w.heap.size + 1 + 1 < w1.heap.size := hbr.lt
   have hE : Ext w w1 := Ext.trans xt hE1
   clear hE1 hbr hb
   clear kT2
   go_wp2
   exact bodyPost_ret (v := .tuple #[.agg #[.string ⟨#[]⟩, .int .i64 0, .int .i64 0, .string ⟨#[]⟩], .int .i64 4]) (by first | (simp [results, Tryz.results74, go_sem, z0, z1, z2, z3]; done) | simp [results, Tryz.results74, go_sem]) rfl (evP_n hR.out xt)
  | some f =>
   go_wp2_with fail
   refine (kT2.out _).mono ?_
   rintro e w1 hq
   obtain ⟨rfl, hE1⟩ := evP_some hq
   have hbr := hb.ext hE1
   have z0 := hbr.cell 0
   have z1 := hbr.cell 1
   have z2 := hbr.cell 2
   have z3 := hbr.cell 3
   have f0 := hbr.fz 0
   have f1 := hbr.fz 1
   have f2 := hbr.fz 2
   have f3 := hbr.fz 3
   simp at z0 z1 z2 z3
   have zl : w.heap.size + 1 + 1 < w1.heap.size := hbr.lt
   have hE : Ext w w1 := Ext.trans xt hE1
   clear hE1 hbr hb
   clear kT2
   go_wp2
   exact bodyPost_ret (v := .tuple #[.agg #[.string f.name, .int .i64 f.kind, .int .i64 f.n, .string f.text], .int .i64 0]) (by first | (simp [results, Tryz.results74, go_sem, z0, z1, z2, z3]; done) | simp [results, Tryz.results74, go_sem]) rfl (evP_s (f := f) hR.out xt)
set_option maxRecDepth 8000 in
set_option maxHeartbeats 2000000 in
theorem rtwox (a b : Feat) (w : World) (op : Int) (hop : op = 6 ∨ op = 7) : Calls Tryz.prog 74 #[.int .i64 op, .agg #[.string a.name, .int .i64 a.kind, .int .i64 a.n, .string a.text], .agg #[.string b.name, .int .i64 b.kind, .int .i64 b.n, .string b.text]] w (EvP (comb op a b) w) := by
 have hR := Lib.hid (show comb op a b = some b by unfold comb; rcases hop with rfl | rfl <;> simp)
 generalize comb op a b = R at *
 have o8 : (op == 8) = false := by simp; omega
 have o9 : (op == 9) = false := by simp; omega
 have o10 : (op == 10) = false := by simp; omega
 have o11 : (op == 11) = false := by simp; omega
 have o12 : (op == 12) = false := by simp; omega
 have o13 : (op == 13) = false := by simp; omega
 have o14 : (op == 14) = false := by simp; omega
 clear hop
 go_enter Tryz.func74, Tryz.ntmps74
 go_wp2
 exact bodyPost_ret (v := .tuple #[.agg #[.string b.name, .int .i64 b.kind, .int .i64 b.n, .string b.text], .int .i64 0]) (by simp [results, Tryz.results74, go_sem]) rfl (evP_s (f := b) hR.out xt)
theorem rtwo_any (op : Int) (a b : Feat) (w : World) (hop : 6 ≤ op ∧ op ≤ 14) (hn : op = 12 ∨ op = 13 ∨ op = 14 → nbrB a.n = true ∧ nbrB b.n = true) : Calls Tryz.prog 74 #[.int .i64 op, .agg #[.string a.name, .int .i64 a.kind, .int .i64 a.n, .string a.text], .agg #[.string b.name, .int .i64 b.kind, .int .i64 b.n, .string b.text]] w (EvP (comb op a b) w) := by
 have h : (op = 6 ∨ op = 7) ∨ op = 8 ∨ op = 9 ∨ op = 10 ∨ op = 11 ∨ op = 12 ∨ op = 13 ∨ op = 14 := by omega
 rcases h with h | rfl | rfl | rfl | rfl | rfl | rfl | rfl
 · exact rtwox a b w op h
 · exact rtwo8 a b w
 · exact rtwo9 a b w
 · exact rtwo10 a b w
 · exact rtwo11 a b w
 · exact rtwo12 a b w (hn (by omega)).1 (hn (by omega)).2
 · exact rtwo13 a b w (hn (by omega)).1 (hn (by omega)).2
 · exact rtwo14 a b w (hn (by omega)).1 (hn (by omega)).2
set_option maxRecDepth 8000 in
theorem rused_nil (nm : ByteArray) (n : Int) (w : World) : Calls Tryz.prog 114 #[.slice none 0 0, .string nm, .int .i64 n] w fun e w' => e = .returned (.agg #[.string ⟨#[]⟩, .int .i64 0, .int .i64 0, .int .i64 0]) ∧ Ext w w' := by
 go_enter Tryz.func114, Tryz.ntmps114
 go_wp2
 go_loop [7] (fun i => i = .int .i64 0) (fun _ => 0)
 case atStart => rfl
 case round =>
  subst hrel
  go_wp2
  exact bodyPost_ret (v := .agg #[.string ⟨#[]⟩, .int .i64 0, .int .i64 0, .int .i64 0]) (by simp [results, Tryz.results114, go_sem]) rfl ⟨rfl, xt⟩
end Go.Proofs.YtangdoidkcelfaaGreatDoor
namespace Go.Proofs.YtangdoidkcelfaaGreatDoor
open Go.RowKit
set_option maxRecDepth 8000 in
set_option maxHeartbeats 2000000 in
theorem rleaf1 (nm tx : ByteArray) (n : Int) (q : Option Addr) (cp : Nat) (w : World) (hn : nbrB n = true) (fv : Value) (l : List Feat) (_hF : Feats w fv l) : Calls Tryz.prog 71 #[.agg #[.int .i64 1, .string nm, .string tx, .int .i64 n, .slice q 0 cp], fv, .slice none 0 0] w (EvP (evOp l nilS 1 nm tx n []) w) := by
 have hR := Lib.hid (show evOp l nilS 1 nm tx n [] = some (numF n) by simp [evOp])
 have kT := Lib.hid (fun w1 => rnum_any n w1)
 rw [show numO n = some (numF n) by unfold numO; rw [if_pos hn]] at kT
 generalize evOp l nilS 1 nm tx n [] = R at *
 generalize numF n = f at *
 clear hn _hF
 go_enter Tryz.func71, Tryz.ntmps71
 have hbx0 := (Blk.new w #[.int .i64 1, .string nm, .string tx, .int .i64 n, .slice q 0 cp] 40).alloc (.cells #[.string ⟨#[]⟩, .int .i64 0, .int .i64 0, .string ⟨#[]⟩] 62)
 have hbr0 := Blk.new' (w.alloc (.cells #[.int .i64 1, .string nm, .string tx, .int .i64 n, .slice q 0 cp] 40)) #[.string ⟨#[]⟩, .int .i64 0, .int .i64 0, .string ⟨#[]⟩] 62 (w.heap.size + 1) (by simp)
 have hE00 : Ext w ((w.alloc (.cells #[.int .i64 1, .string nm, .string tx, .int .i64 n, .slice q 0 cp] 40)).alloc (.cells #[.string ⟨#[]⟩, .int .i64 0, .int .i64 0, .string ⟨#[]⟩] 62)) := ((Ext.refl w).alloc _).alloc _
 go_wp2_with fail
 refine (kT.out _).mono ?_
 rintro e w1 hq
 obtain ⟨rfl, hE1⟩ := evP_some hq
 have hbr := Lib.hid (hbr0.ext hE1)
 have hE : Ext w w1 := hE00.trans hE1
 clear hE1 hq hbr0 hbx0 hE00 kT
 have z0 : w1.cell? ⟨w.heap.size + 1, 0, none⟩ = some (.string ⟨#[]⟩) := (hbr.out.cell 0).trans rfl
 have z1 : w1.cell? ⟨w.heap.size + 1, 1, none⟩ = some (.int .i64 0) := (hbr.out.cell 1).trans rfl
 have z2 : w1.cell? ⟨w.heap.size + 1, 2, none⟩ = some (.int .i64 0) := (hbr.out.cell 2).trans rfl
 have z3 : w1.cell? ⟨w.heap.size + 1, 3, none⟩ = some (.string ⟨#[]⟩) := (hbr.out.cell 3).trans rfl
 have f0 := hbr.out.fz 0
 have f1 := hbr.out.fz 1
 have f2 := hbr.out.fz 2
 have f3 := hbr.out.fz 3
 have zl : w.heap.size + 1 < w1.heap.size := hbr.out.lt
 go_wp2
 exact bodyPost_ret (v := .tuple #[.agg #[.string f.name, .int .i64 f.kind, .int .i64 f.n, .string f.text], .int .i64 0]) (by first | (simp [results, Tryz.results71, go_sem, z0, z1, z2, z3]; done) | (simp [results, Tryz.results71, go_sem, z0, z1, z2, z3, zl]; done) | simp [results, Tryz.results71, go_sem]) rfl (evP_s (f := f) hR.out xt)
set_option maxRecDepth 8000 in
set_option maxHeartbeats 2000000 in
theorem rleaf2 (nm tx : ByteArray) (n : Int) (q : Option Addr) (cp : Nat) (w : World) (fv : Value) (l : List Feat) (_hF : Feats w fv l) : Calls Tryz.prog 71 #[.agg #[.int .i64 2, .string nm, .string tx, .int .i64 n, .slice q 0 cp], fv, .slice none 0 0] w (EvP (evOp l nilS 2 nm tx n []) w) := by
 have hR := Lib.hid (show evOp l nilS 2 nm tx n [] = some ⟨⟨#[]⟩, 2, 0, tx⟩ by simp [evOp, txtF, emS])
 generalize evOp l nilS 2 nm tx n [] = R at *
 clear _hF
 go_enter Tryz.func71, Tryz.ntmps71
 go_wp2
 exact bodyPost_ret (v := .tuple #[.agg #[.string ⟨#[]⟩, .int .i64 2, .int .i64 0, .string tx], .int .i64 0]) (by simp [results, Tryz.results71, go_sem]) rfl (evP_s (f := ⟨⟨#[]⟩, 2, 0, tx⟩) hR.out xt)
set_option maxRecDepth 8000 in
set_option maxHeartbeats 2000000 in
theorem rleaf3 (nm tx : ByteArray) (n : Int) (q : Option Addr) (cp : Nat) (w : World) (fv : Value) (l : List Feat) (hF : Feats w fv l) : Calls Tryz.prog 71 #[.agg #[.int .i64 3, .string nm, .string tx, .int .i64 n, .slice q 0 cp], fv, .slice none 0 0] w (EvP (evOp l nilS 3 nm tx n []) w) := by
 obtain ⟨f, hf⟩ : ∃ f, (findN l nm).getD fD = f := ⟨_, rfl⟩
 have hfo := featOf_eq l nm f hf
 have hR0 := Lib.hid (show evOp l nilS 3 nm tx n [] = some (featOf l nm) by simp [evOp])
 have kF := Lib.hid (fun w1 (h : Ext w w1) => rfind_ex w1 fv l nm (hF.ext h))
 unfold FindP at kF
 rw [hf] at kF
 generalize evOp l nilS 3 nm tx n [] = R at *
 generalize featOf l nm = g at *
 generalize (findN l nm).isSome = fb at *
 clear hf hF
 by_cases hk : f.kind = 2
 · have hR := Lib.hid (show R = some ⟨⟨#[]⟩, 2, 0, f.text⟩ by rw [hR0.out, hfo, if_pos hk]; rfl)
   have dk : (f.kind == 2) = true := by simpa using hk
   clear hR0 hfo hk
   go_enter Tryz.func71, Tryz.ntmps71
   go_wp2_with fail
   refine (kF.out _ (((Ext.refl w).alloc _).alloc _)).mono ?_
   rintro e w1 ⟨rfl, rfl⟩
   go_wp2
   exact bodyPost_ret (v := .tuple #[.agg #[.string ⟨#[]⟩, .int .i64 2, .int .i64 0, .string f.text], .int .i64 0]) (by simp [results, Tryz.results71, go_sem]) rfl (evP_s (f := ⟨⟨#[]⟩, 2, 0, f.text⟩) hR.out xt)
 · have hR := Lib.hid (show R = some ⟨⟨#[]⟩, f.kind, f.n, ⟨#[]⟩⟩ by rw [hR0.out, hfo, if_neg hk]; rfl)
   have dk : (f.kind == 2) = false := by simpa using hk
   clear hR0 hfo hk
   go_enter Tryz.func71, Tryz.ntmps71
   go_wp2_with fail
   refine (kF.out _ (((Ext.refl w).alloc _).alloc _)).mono ?_
   rintro e w1 ⟨rfl, rfl⟩
   go_wp2
   exact bodyPost_ret (v := .tuple #[.agg #[.string ⟨#[]⟩, .int .i64 f.kind, .int .i64 f.n, .string ⟨#[]⟩], .int .i64 0]) (by simp [results, Tryz.results71, go_sem]) rfl (evP_s (f := ⟨⟨#[]⟩, f.kind, f.n, ⟨#[]⟩⟩) hR.out xt)
set_option maxRecDepth 8000 in
set_option maxHeartbeats 2000000 in
theorem rleaf16 (nm tx : ByteArray) (n : Int) (q : Option Addr) (cp : Nat) (w : World) (fv : Value) (l : List Feat) (_hF : Feats w fv l) : Calls Tryz.prog 71 #[.agg #[.int .i64 16, .string nm, .string tx, .int .i64 n, .slice q 0 cp], fv, .slice none 0 0] w (EvP (evOp l nilS 16 nm tx n []) w) := by
 have hR := Lib.hid (show evOp l nilS 16 nm tx n [] = some (numF 0) by simp [evOp, nilS, nbrB])
 have kU := Lib.hid (fun w1 => rused_nil nm n w1)
 have kT := Lib.hid (fun w1 => rnum_any 0 w1)
 rw [show numO 0 = some (numF 0) by simp [numO, nbrB]] at kT
 generalize evOp l nilS 16 nm tx n [] = R at *
 generalize numF 0 = f at *
 clear _hF
 have kf2 : ∀ W : World, (Instr.field 186 (.agg #[.string ⟨#[]⟩, .int .i64 0, .int .i64 0, .int .i64 0]) 2).run Tryz.prog W = .ok (.int .i64 0) W := fun W => by kernel_rfl
 have kf3 : ∀ W : World, (Instr.field 186 (.agg #[.string ⟨#[]⟩, .int .i64 0, .int .i64 0, .int .i64 0]) 3).run Tryz.prog W = .ok (.int .i64 0) W := fun W => by kernel_rfl
 go_enter Tryz.func71, Tryz.ntmps71
 have hbx0 := (Blk.new w #[.int .i64 16, .string nm, .string tx, .int .i64 n, .slice q 0 cp] 40).alloc (.cells #[.string ⟨#[]⟩, .int .i64 0, .int .i64 0, .string ⟨#[]⟩] 62)
 have hbr0 := Blk.new' (w.alloc (.cells #[.int .i64 16, .string nm, .string tx, .int .i64 n, .slice q 0 cp] 40)) #[.string ⟨#[]⟩, .int .i64 0, .int .i64 0, .string ⟨#[]⟩] 62 (w.heap.size + 1) (by simp)
 have hE00 : Ext w ((w.alloc (.cells #[.int .i64 16, .string nm, .string tx, .int .i64 n, .slice q 0 cp] 40)).alloc (.cells #[.string ⟨#[]⟩, .int .i64 0, .int .i64 0, .string ⟨#[]⟩] 62)) := ((Ext.refl w).alloc _).alloc _
 go_wp2_with fail
 refine (kU.out _).mono ?_
 rintro e w0 ⟨rfl, hE0⟩
 go_wp2_with fail
 refine (kT.out _).mono ?_
 rintro e w1 hq
 obtain ⟨rfl, hE1⟩ := evP_some hq
 have hbr := Lib.hid (hbr0.ext (hE0.trans hE1))
 have hE : Ext w w1 := hE00.trans (hE0.trans hE1)
 clear hE0 hE1 hq hbr0 hbx0 hE00 kT kU
 have z0 : w1.cell? ⟨w.heap.size + 1, 0, none⟩ = some (.string ⟨#[]⟩) := (hbr.out.cell 0).trans rfl
 have z1 : w1.cell? ⟨w.heap.size + 1, 1, none⟩ = some (.int .i64 0) := (hbr.out.cell 1).trans rfl
 have z2 : w1.cell? ⟨w.heap.size + 1, 2, none⟩ = some (.int .i64 0) := (hbr.out.cell 2).trans rfl
 have z3 : w1.cell? ⟨w.heap.size + 1, 3, none⟩ = some (.string ⟨#[]⟩) := (hbr.out.cell 3).trans rfl
 have f0 := hbr.out.fz 0
 have f1 := hbr.out.fz 1
 have f2 := hbr.out.fz 2
 have f3 := hbr.out.fz 3
 have zl : w.heap.size + 1 < w1.heap.size := hbr.out.lt
 go_wp2
 exact bodyPost_ret (v := .tuple #[.agg #[.string f.name, .int .i64 f.kind, .int .i64 f.n, .string f.text], .int .i64 0]) (by first | (simp [results, Tryz.results71, go_sem, z0, z1, z2, z3]; done) | (simp [results, Tryz.results71, go_sem, z0, z1, z2, z3, zl]; done) | simp [results, Tryz.results71, go_sem]) rfl (evP_s (f := f) hR.out xt)
set_option maxRecDepth 8000 in
set_option maxHeartbeats 2000000 in
theorem rleaf17 (nm tx : ByteArray) (n : Int) (q : Option Addr) (cp : Nat) (w : World) (fv : Value) (l : List Feat) (_hF : Feats w fv l) : Calls Tryz.prog 71 #[.agg #[.int .i64 17, .string nm, .string tx, .int .i64 n, .slice q 0 cp], fv, .slice none 0 0] w (EvP (evOp l nilS 17 nm tx n []) w) := by
 have hR := Lib.hid (show evOp l nilS 17 nm tx n [] = some (numF 0) by simp [evOp, nilS, nbrB])
 have kU := Lib.hid (fun w1 => rused_nil nm n w1)
 have kT := Lib.hid (fun w1 => rnum_any 0 w1)
 rw [show numO 0 = some (numF 0) by simp [numO, nbrB]] at kT
 generalize evOp l nilS 17 nm tx n [] = R at *
 generalize numF 0 = f at *
 clear _hF
 have kf2 : ∀ W : World, (Instr.field 186 (.agg #[.string ⟨#[]⟩, .int .i64 0, .int .i64 0, .int .i64 0]) 2).run Tryz.prog W = .ok (.int .i64 0) W := fun W => by kernel_rfl
 have kf3 : ∀ W : World, (Instr.field 186 (.agg #[.string ⟨#[]⟩, .int .i64 0, .int .i64 0, .int .i64 0]) 3).run Tryz.prog W = .ok (.int .i64 0) W := fun W => by kernel_rfl
 go_enter Tryz.func71, Tryz.ntmps71
 have hbx0 := (Blk.new w #[.int .i64 17, .string nm, .string tx, .int .i64 n, .slice q 0 cp] 40).alloc (.cells #[.string ⟨#[]⟩, .int .i64 0, .int .i64 0, .string ⟨#[]⟩] 62)
 have hbr0 := Blk.new' (w.alloc (.cells #[.int .i64 17, .string nm, .string tx, .int .i64 n, .slice q 0 cp] 40)) #[.string ⟨#[]⟩, .int .i64 0, .int .i64 0, .string ⟨#[]⟩] 62 (w.heap.size + 1) (by simp)
 have hE00 : Ext w ((w.alloc (.cells #[.int .i64 17, .string nm, .string tx, .int .i64 n, .slice q 0 cp] 40)).alloc (.cells #[.string ⟨#[]⟩, .int .i64 0, .int .i64 0, .string ⟨#[]⟩] 62)) := ((Ext.refl w).alloc _).alloc _
 go_wp2_with fail
 refine (kU.out _).mono ?_
 rintro e w0 ⟨rfl, hE0⟩
 go_wp2_with fail
 refine (kT.out _).mono ?_
 rintro e w1 hq
 obtain ⟨rfl, hE1⟩ := evP_some hq
 have hbr := Lib.hid (hbr0.ext (hE0.trans hE1))
 have hE : Ext w w1 := hE00.trans (hE0.trans hE1)
 clear hE0 hE1 hq hbr0 hbx0 hE00 kT kU
 have z0 : w1.cell? ⟨w.heap.size + 1, 0, none⟩ = some (.string ⟨#[]⟩) := (hbr.out.cell 0).trans rfl
 have z1 : w1.cell? ⟨w.heap.size + 1, 1, none⟩ = some (.int .i64 0) := (hbr.out.cell 1).trans rfl
 have z2 : w1.cell? ⟨w.heap.size + 1, 2, none⟩ = some (.int .i64 0) := (hbr.out.cell 2).trans rfl
 have z3 : w1.cell? ⟨w.heap.size + 1, 3, none⟩ = some (.string ⟨#[]⟩) := (hbr.out.cell 3).trans rfl
 have f0 := hbr.out.fz 0
 have f1 := hbr.out.fz 1
 have f2 := hbr.out.fz 2
 have f3 := hbr.out.fz 3
 have zl : w.heap.size + 1 < w1.heap.size := hbr.out.lt
 go_wp2
 exact bodyPost_ret (v := .tuple #[.agg #[.string f.name, .int .i64 f.kind, .int .i64 f.n, .string f.text], .int .i64 0]) (by first | (simp [results, Tryz.results71, go_sem, z0, z1, z2, z3]; done) | (simp [results, Tryz.results71, go_sem, z0, z1, z2, z3, zl]; done) | simp [results, Tryz.results71, go_sem]) rfl (evP_s (f := f) hR.out xt)
/-- What a place that holds a part is good for, to the reference's eval. -/
def RKid (w : World) (fv : Value) (l : List Feat) (bb o : Nat) (y : Ex) : Prop :=
 ∃ q c, ExCells w bb o y (.slice q y.args.length c) ∧ ∀ w2, Ext w w2 → Calls Tryz.prog 48 #[exAgg y (.slice q y.args.length c), fv, .slice none 0 0] w2 (EvP (y.ev l nilS) w2)
set_option maxRecDepth 8000 in
set_option maxHeartbeats 2000000 in
theorem rev0 (op : Int) (nm tx : ByteArray) (n : Int) (q : Option Addr) (cp : Nat) (w : World) (fv : Value) (R : Option Feat) (kL : ∀ w1, Ext w w1 → Calls Tryz.prog 71 #[.agg #[.int .i64 op, .string nm, .string tx, .int .i64 n, .slice q 0 cp], fv, .slice none 0 0] w1 (EvP R w1)) : Calls Tryz.prog 48 #[.agg #[.int .i64 op, .string nm, .string tx, .int .i64 n, .slice q 0 cp], fv, .slice none 0 0] w (EvP R w) := by
 replace kL := Lib.hid kL
 cases R with
 | none =>
  go_enter Tryz.func48, Tryz.ntmps48
  have hbx0 := (Blk.new w #[.int .i64 op, .string nm, .string tx, .int .i64 n, .slice q 0 cp] 40).alloc (.cells #[.string ⟨#[]⟩, .int .i64 0, .int .i64 0, .string ⟨#[]⟩] 62)
  have hbr0 := Blk.new' (w.alloc (.cells #[.int .i64 op, .string nm, .string tx, .int .i64 n, .slice q 0 cp] 40)) #[.string ⟨#[]⟩, .int .i64 0, .int .i64 0, .string ⟨#[]⟩] 62 (w.heap.size + 1) (by simp)
  have hE00 : Ext w ((w.alloc (.cells #[.int .i64 op, .string nm, .string tx, .int .i64 n, .slice q 0 cp] 40)).alloc (.cells #[.string ⟨#[]⟩, .int .i64 0, .int .i64 0, .string ⟨#[]⟩] 62)) := ((Ext.refl w).alloc _).alloc _
  go_wp2_with fail
  refine (kL.out _ hE00).mono ?_
  rintro e w1 hq
  obtain ⟨rfl, hE1⟩ := evP_none hq
  have hbr := Lib.hid (hbr0.ext hE1)
  have hE : Ext w w1 := hE00.trans hE1
  clear hE1 hq hbr0 hbx0 hE00 kL
  have z0 : w1.cell? ⟨w.heap.size + 1, 0, none⟩ = some (.string ⟨#[]⟩) := (hbr.out.cell 0).trans rfl
  have z1 : w1.cell? ⟨w.heap.size + 1, 1, none⟩ = some (.int .i64 0) := (hbr.out.cell 1).trans rfl
  have z2 : w1.cell? ⟨w.heap.size + 1, 2, none⟩ = some (.int .i64 0) := (hbr.out.cell 2).trans rfl
  have z3 : w1.cell? ⟨w.heap.size + 1, 3, none⟩ = some (.string ⟨#[]⟩) := (hbr.out.cell 3).trans rfl
  have f0 := hbr.out.fz 0
  have f1 := hbr.out.fz 1
  have f2 := hbr.out.fz 2
  have f3 := hbr.out.fz 3
  have zl : w.heap.size + 1 < w1.heap.size := hbr.out.lt
  go_wp2
  exact bodyPost_ret (v := .tuple #[.agg #[.string ⟨#[]⟩, .int .i64 0, .int .i64 0, .string ⟨#[]⟩], .int .i64 4]) (by first | (simp [results, Tryz.results48, go_sem, z0, z1, z2, z3]; done) | (simp [results, Tryz.results48, go_sem, z0, z1, z2, z3, zl]; done) | simp [results, Tryz.results48, go_sem]) rfl (evP_n rfl xt)
 | some f =>
  go_enter Tryz.func48, Tryz.ntmps48
  have hbx0 := (Blk.new w #[.int .i64 op, .string nm, .string tx, .int .i64 n, .slice q 0 cp] 40).alloc (.cells #[.string ⟨#[]⟩, .int .i64 0, .int .i64 0, .string ⟨#[]⟩] 62)
  have hbr0 := Blk.new' (w.alloc (.cells #[.int .i64 op, .string nm, .string tx, .int .i64 n, .slice q 0 cp] 40)) #[.string ⟨#[]⟩, .int .i64 0, .int .i64 0, .string ⟨#[]⟩] 62 (w.heap.size + 1) (by simp)
  have hE00 : Ext w ((w.alloc (.cells #[.int .i64 op, .string nm, .string tx, .int .i64 n, .slice q 0 cp] 40)).alloc (.cells #[.string ⟨#[]⟩, .int .i64 0, .int .i64 0, .string ⟨#[]⟩] 62)) := ((Ext.refl w).alloc _).alloc _
  go_wp2_with fail
  refine (kL.out _ hE00).mono ?_
  rintro e w1 hq
  obtain ⟨rfl, hE1⟩ := evP_some hq
  have hbr := Lib.hid (hbr0.ext hE1)
  have hE : Ext w w1 := hE00.trans hE1
  clear hE1 hq hbr0 hbx0 hE00 kL
  have z0 : w1.cell? ⟨w.heap.size + 1, 0, none⟩ = some (.string ⟨#[]⟩) := (hbr.out.cell 0).trans rfl
  have z1 : w1.cell? ⟨w.heap.size + 1, 1, none⟩ = some (.int .i64 0) := (hbr.out.cell 1).trans rfl
  have z2 : w1.cell? ⟨w.heap.size + 1, 2, none⟩ = some (.int .i64 0) := (hbr.out.cell 2).trans rfl
  have z3 : w1.cell? ⟨w.heap.size + 1, 3, none⟩ = some (.string ⟨#[]⟩) := (hbr.out.cell 3).trans rfl
  have f0 := hbr.out.fz 0
  have f1 := hbr.out.fz 1
  have f2 := hbr.out.fz 2
  have f3 := hbr.out.fz 3
  have zl : w.heap.size + 1 < w1.heap.size := hbr.out.lt
  go_wp2
  exact bodyPost_ret (v := .tuple #[.agg #[.string f.name, .int .i64 f.kind, .int .i64 f.n, .string f.text], .int .i64 0]) (by first | (simp [results, Tryz.results48, go_sem, z0, z1, z2, z3]; done) | (simp [results, Tryz.results48, go_sem, z0, z1, z2, z3, zl]; done) | simp [results, Tryz.results48, go_sem]) rfl (evP_s (f := f) rfl xt)
set_option maxRecDepth 8000 in
set_option maxHeartbeats 2000000 in
theorem rev4 (nm tx : ByteArray) (n : Int) (bb off N cp : Nat) (hN : 1 ≤ N) (a : Ex) (w : World) (fv : Value) (l : List Feat) (k0 : RKid w fv l bb off a) (R : Option Feat) (h0 : a.ev l nilS = none → R = none) (h1 : ∀ f, a.ev l nilS = some f → R = some (truthF (decide (f.n = 0)))) : Calls Tryz.prog 48 #[.agg #[.int .i64 4, .string nm, .string tx, .int .i64 n, .slice (some ⟨bb, off, none⟩) N cp], fv, .slice none 0 0] w (EvP R w) := by
 obtain ⟨q0, c0, hc, k0⟩ := k0
 obtain ⟨y0, y1, y2, y3, y4⟩ := hc.five
 have dN : ((N : Int) == 0) = false := by simp; omega
 have hbl : bb < w.heap.size := cell_lt y0
 unfold exAgg at k0
 replace k0 := Lib.hid k0
 cases ha : a.ev l nilS with
 | none =>
  have hR := Lib.hid (h0 ha)
  clear h0 h1
  go_enter Tryz.func48, Tryz.ntmps48
  have hbx0 := (Blk.new w #[.int .i64 4, .string nm, .string tx, .int .i64 n, .slice (some ⟨bb, off, none⟩) N cp] 40).alloc (.cells #[.string ⟨#[]⟩, .int .i64 0, .int .i64 0, .string ⟨#[]⟩] 62)
  have hbr0 := Blk.new' (w.alloc (.cells #[.int .i64 4, .string nm, .string tx, .int .i64 n, .slice (some ⟨bb, off, none⟩) N cp] 40)) #[.string ⟨#[]⟩, .int .i64 0, .int .i64 0, .string ⟨#[]⟩] 62 (w.heap.size + 1) (by simp)
  have hE00 : Ext w ((w.alloc (.cells #[.int .i64 4, .string nm, .string tx, .int .i64 n, .slice (some ⟨bb, off, none⟩) N cp] 40)).alloc (.cells #[.string ⟨#[]⟩, .int .i64 0, .int .i64 0, .string ⟨#[]⟩] 62)) := ((Ext.refl w).alloc _).alloc _
  go_wp2_with fail
  refine (k0.out _ hE00).mono ?_
  rintro e w1 hq
  clear y0 y1 y2 y3 y4
  rw [ha] at hq
  obtain ⟨rfl, hE1⟩ := evP_none hq
  have hbr := Lib.hid (hbr0.ext hE1)
  have hbx := Lib.hid (hbx0.ext hE1)
  have hE : Ext w w1 := hE00.trans hE1
  clear hE1 hq hbr0 hbx0 hE00 k0
  have z0 : w1.cell? ⟨w.heap.size + 1, 0, none⟩ = some (.string ⟨#[]⟩) := (hbr.out.cell 0).trans rfl
  have z1 : w1.cell? ⟨w.heap.size + 1, 1, none⟩ = some (.int .i64 0) := (hbr.out.cell 1).trans rfl
  have z2 : w1.cell? ⟨w.heap.size + 1, 2, none⟩ = some (.int .i64 0) := (hbr.out.cell 2).trans rfl
  have z3 : w1.cell? ⟨w.heap.size + 1, 3, none⟩ = some (.string ⟨#[]⟩) := (hbr.out.cell 3).trans rfl
  have f0 := hbr.out.fz 0
  have f1 := hbr.out.fz 1
  have f2 := hbr.out.fz 2
  have f3 := hbr.out.fz 3
  have zl : w.heap.size + 1 < w1.heap.size := hbr.out.lt
  clear ha hbx
  go_wp2
  exact bodyPost_ret (v := .tuple #[.agg #[.string ⟨#[]⟩, .int .i64 0, .int .i64 0, .string ⟨#[]⟩], .int .i64 4]) (by first | (simp [results, Tryz.results48, go_sem]; done) | (simp [results, Tryz.results48, go_sem, z0, z1, z2, z3, zl]; done) | simp [results, Tryz.results48, go_sem]) rfl (evP_n hR.out xt)
 | some f =>
  have hR := Lib.hid (h1 f ha)
  have kT := Lib.hid (fun w2 => rtruth_any (decide (f.n = 0)) w2)
  have dd : (f.n == 0) = decide (f.n = 0) := by by_cases h : f.n = 0 <;> simp [h]
  generalize truthF (decide (f.n = 0)) = g at *
  generalize decide (f.n = 0) = bb0 at *
  clear h0 h1
  go_enter Tryz.func48, Tryz.ntmps48
  have hbx0 := (Blk.new w #[.int .i64 4, .string nm, .string tx, .int .i64 n, .slice (some ⟨bb, off, none⟩) N cp] 40).alloc (.cells #[.string ⟨#[]⟩, .int .i64 0, .int .i64 0, .string ⟨#[]⟩] 62)
  have hbr0 := Blk.new' (w.alloc (.cells #[.int .i64 4, .string nm, .string tx, .int .i64 n, .slice (some ⟨bb, off, none⟩) N cp] 40)) #[.string ⟨#[]⟩, .int .i64 0, .int .i64 0, .string ⟨#[]⟩] 62 (w.heap.size + 1) (by simp)
  have hE00 : Ext w ((w.alloc (.cells #[.int .i64 4, .string nm, .string tx, .int .i64 n, .slice (some ⟨bb, off, none⟩) N cp] 40)).alloc (.cells #[.string ⟨#[]⟩, .int .i64 0, .int .i64 0, .string ⟨#[]⟩] 62)) := ((Ext.refl w).alloc _).alloc _
  go_wp2_with fail
  refine (k0.out _ hE00).mono ?_
  rintro e w1 hq
  clear y0 y1 y2 y3 y4
  rw [ha] at hq
  obtain ⟨rfl, hE1⟩ := evP_some hq
  have hbr := Lib.hid (hbr0.ext hE1)
  have hbx := Lib.hid (hbx0.ext hE1)
  have hE : Ext w w1 := hE00.trans hE1
  clear hE1 hq hbr0 hbx0 hE00 k0
  have x0 : w1.cell? ⟨w.heap.size, 0, none⟩ = some (.int .i64 4) := (hbx.out.cell 0).trans rfl
  have x4 : w1.cell? ⟨w.heap.size, 4, none⟩ = some (.slice (some ⟨bb, off, none⟩) N cp) := (hbx.out.cell 4).trans rfl
  have xl : w.heap.size < w1.heap.size := hbx.out.lt
  clear ha
  have hEa : Ext w1 (w1.alloc (.cells #[.string f.name, .int .i64 f.kind, .int .i64 f.n, .string f.text] 62)) := (Ext.refl _).alloc _
  go_wp2_with fail
  refine (kT.out _).mono ?_
  rintro e w2 hq
  obtain ⟨rfl, hE2⟩ := evP_some hq
  replace hbr := Lib.hid (hbr.out.ext (hEa.trans hE2))
  replace hE : Ext w w2 := hE.trans (hEa.trans hE2)
  clear hE2 hq kT hEa x0 x4 xl hbx
  have z0 : w2.cell? ⟨w.heap.size + 1, 0, none⟩ = some (.string ⟨#[]⟩) := (hbr.out.cell 0).trans rfl
  have z1 : w2.cell? ⟨w.heap.size + 1, 1, none⟩ = some (.int .i64 0) := (hbr.out.cell 1).trans rfl
  have z2 : w2.cell? ⟨w.heap.size + 1, 2, none⟩ = some (.int .i64 0) := (hbr.out.cell 2).trans rfl
  have z3 : w2.cell? ⟨w.heap.size + 1, 3, none⟩ = some (.string ⟨#[]⟩) := (hbr.out.cell 3).trans rfl
  have f0 := hbr.out.fz 0
  have f1 := hbr.out.fz 1
  have f2 := hbr.out.fz 2
  have f3 := hbr.out.fz 3
  have zl : w.heap.size + 1 < w2.heap.size := hbr.out.lt
  go_wp2
  exact bodyPost_ret (v := .tuple #[.agg #[.string g.name, .int .i64 g.kind, .int .i64 g.n, .string g.text], .int .i64 0]) (by first | (simp [results, Tryz.results48, go_sem, z0, z1, z2, z3]; done) | (simp [results, Tryz.results48, go_sem, z0, z1, z2, z3, zl]; done) | simp [results, Tryz.results48, go_sem]) rfl (evP_s (f := g) hR.out xt)
set_option maxRecDepth 8000 in
set_option maxHeartbeats 2000000 in
theorem rev5 (nm tx : ByteArray) (n : Int) (bb off N cp : Nat) (hN : 1 ≤ N) (a : Ex) (w : World) (fv : Value) (l : List Feat) (k0 : RKid w fv l bb off a) (R : Option Feat) (h0 : a.ev l nilS = none → R = none) (h1 : ∀ f, a.ev l nilS = some f → R = some (numF (-f.n)) ∧ nbrB f.n = true) : Calls Tryz.prog 48 #[.agg #[.int .i64 5, .string nm, .string tx, .int .i64 n, .slice (some ⟨bb, off, none⟩) N cp], fv, .slice none 0 0] w (EvP R w) := by
 obtain ⟨q0, c0, hc, k0⟩ := k0
 obtain ⟨y0, y1, y2, y3, y4⟩ := hc.five
 have dN : ((N : Int) == 0) = false := by simp; omega
 have hbl : bb < w.heap.size := cell_lt y0
 unfold exAgg at k0
 replace k0 := Lib.hid k0
 cases ha : a.ev l nilS with
 | none =>
  have hR := Lib.hid (h0 ha)
  clear h0 h1
  go_enter Tryz.func48, Tryz.ntmps48
  have hbx0 := (Blk.new w #[.int .i64 5, .string nm, .string tx, .int .i64 n, .slice (some ⟨bb, off, none⟩) N cp] 40).alloc (.cells #[.string ⟨#[]⟩, .int .i64 0, .int .i64 0, .string ⟨#[]⟩] 62)
  have hbr0 := Blk.new' (w.alloc (.cells #[.int .i64 5, .string nm, .string tx, .int .i64 n, .slice (some ⟨bb, off, none⟩) N cp] 40)) #[.string ⟨#[]⟩, .int .i64 0, .int .i64 0, .string ⟨#[]⟩] 62 (w.heap.size + 1) (by simp)
  have hE00 : Ext w ((w.alloc (.cells #[.int .i64 5, .string nm, .string tx, .int .i64 n, .slice (some ⟨bb, off, none⟩) N cp] 40)).alloc (.cells #[.string ⟨#[]⟩, .int .i64 0, .int .i64 0, .string ⟨#[]⟩] 62)) := ((Ext.refl w).alloc _).alloc _
  go_wp2_with fail
  refine (k0.out _ hE00).mono ?_
  rintro e w1 hq
  clear y0 y1 y2 y3 y4
  rw [ha] at hq
  obtain ⟨rfl, hE1⟩ := evP_none hq
  have hbr := Lib.hid (hbr0.ext hE1)
  have hbx := Lib.hid (hbx0.ext hE1)
  have hE : Ext w w1 := hE00.trans hE1
  clear hE1 hq hbr0 hbx0 hE00 k0
  have z0 : w1.cell? ⟨w.heap.size + 1, 0, none⟩ = some (.string ⟨#[]⟩) := (hbr.out.cell 0).trans rfl
  have z1 : w1.cell? ⟨w.heap.size + 1, 1, none⟩ = some (.int .i64 0) := (hbr.out.cell 1).trans rfl
  have z2 : w1.cell? ⟨w.heap.size + 1, 2, none⟩ = some (.int .i64 0) := (hbr.out.cell 2).trans rfl
  have z3 : w1.cell? ⟨w.heap.size + 1, 3, none⟩ = some (.string ⟨#[]⟩) := (hbr.out.cell 3).trans rfl
  have f0 := hbr.out.fz 0
  have f1 := hbr.out.fz 1
  have f2 := hbr.out.fz 2
  have f3 := hbr.out.fz 3
  have zl : w.heap.size + 1 < w1.heap.size := hbr.out.lt
  clear ha hbx
  go_wp2
  exact bodyPost_ret (v := .tuple #[.agg #[.string ⟨#[]⟩, .int .i64 0, .int .i64 0, .string ⟨#[]⟩], .int .i64 4]) (by first | (simp [results, Tryz.results48, go_sem]; done) | (simp [results, Tryz.results48, go_sem, z0, z1, z2, z3, zl]; done) | simp [results, Tryz.results48, go_sem]) rfl (evP_n hR.out xt)
 | some f =>
  obtain ⟨hR, hn⟩ := h1 f ha
  have hR := Lib.hid hR
  have e1 : wrap64 (-f.n) = -f.n := by rw [nbr_iff] at hn; exact wrap64_id _ (by omega) (by omega)
  have kT := Lib.hid (fun w2 => rnum_any (-f.n) w2)
  rw [show numO (-f.n) = some (numF (-f.n)) by unfold numO; rw [if_pos (nbr_neg hn)]] at kT
  generalize numF (-f.n) = g at *
  clear h0 h1 hn
  go_enter Tryz.func48, Tryz.ntmps48
  have hbx0 := (Blk.new w #[.int .i64 5, .string nm, .string tx, .int .i64 n, .slice (some ⟨bb, off, none⟩) N cp] 40).alloc (.cells #[.string ⟨#[]⟩, .int .i64 0, .int .i64 0, .string ⟨#[]⟩] 62)
  have hbr0 := Blk.new' (w.alloc (.cells #[.int .i64 5, .string nm, .string tx, .int .i64 n, .slice (some ⟨bb, off, none⟩) N cp] 40)) #[.string ⟨#[]⟩, .int .i64 0, .int .i64 0, .string ⟨#[]⟩] 62 (w.heap.size + 1) (by simp)
  have hE00 : Ext w ((w.alloc (.cells #[.int .i64 5, .string nm, .string tx, .int .i64 n, .slice (some ⟨bb, off, none⟩) N cp] 40)).alloc (.cells #[.string ⟨#[]⟩, .int .i64 0, .int .i64 0, .string ⟨#[]⟩] 62)) := ((Ext.refl w).alloc _).alloc _
  go_wp2_with fail
  refine (k0.out _ hE00).mono ?_
  rintro e w1 hq
  clear y0 y1 y2 y3 y4
  rw [ha] at hq
  obtain ⟨rfl, hE1⟩ := evP_some hq
  have hbr := Lib.hid (hbr0.ext hE1)
  have hbx := Lib.hid (hbx0.ext hE1)
  have hE : Ext w w1 := hE00.trans hE1
  clear hE1 hq hbr0 hbx0 hE00 k0
  have x0 : w1.cell? ⟨w.heap.size, 0, none⟩ = some (.int .i64 5) := (hbx.out.cell 0).trans rfl
  have x4 : w1.cell? ⟨w.heap.size, 4, none⟩ = some (.slice (some ⟨bb, off, none⟩) N cp) := (hbx.out.cell 4).trans rfl
  have xl : w.heap.size < w1.heap.size := hbx.out.lt
  clear ha
  have hEa : Ext w1 (w1.alloc (.cells #[.string f.name, .int .i64 f.kind, .int .i64 f.n, .string f.text] 62)) := (Ext.refl _).alloc _
  go_wp2_with fail
  refine (kT.out _).mono ?_
  rintro e w2 hq
  obtain ⟨rfl, hE2⟩ := evP_some hq
  replace hbr := Lib.hid (hbr.out.ext (hEa.trans hE2))
  replace hE : Ext w w2 := hE.trans (hEa.trans hE2)
  clear hE2 hq kT hEa x0 x4 xl hbx
  have z0 : w2.cell? ⟨w.heap.size + 1, 0, none⟩ = some (.string ⟨#[]⟩) := (hbr.out.cell 0).trans rfl
  have z1 : w2.cell? ⟨w.heap.size + 1, 1, none⟩ = some (.int .i64 0) := (hbr.out.cell 1).trans rfl
  have z2 : w2.cell? ⟨w.heap.size + 1, 2, none⟩ = some (.int .i64 0) := (hbr.out.cell 2).trans rfl
  have z3 : w2.cell? ⟨w.heap.size + 1, 3, none⟩ = some (.string ⟨#[]⟩) := (hbr.out.cell 3).trans rfl
  have f0 := hbr.out.fz 0
  have f1 := hbr.out.fz 1
  have f2 := hbr.out.fz 2
  have f3 := hbr.out.fz 3
  have zl : w.heap.size + 1 < w2.heap.size := hbr.out.lt
  go_wp2
  exact bodyPost_ret (v := .tuple #[.agg #[.string g.name, .int .i64 g.kind, .int .i64 g.n, .string g.text], .int .i64 0]) (by first | (simp [results, Tryz.results48, go_sem, z0, z1, z2, z3]; done) | (simp [results, Tryz.results48, go_sem, z0, z1, z2, z3, zl]; done) | simp [results, Tryz.results48, go_sem]) rfl (evP_s (f := g) hR.out xt)
set_option maxRecDepth 8000 in
set_option maxHeartbeats 2000000 in
theorem rev2 (op : Int) (ho : 6 ≤ op ∧ op ≤ 14) (nm tx : ByteArray) (n : Int) (bb off cp : Nat) (a b : Ex) (w : World) (fv : Value) (l : List Feat) (k0 : RKid w fv l bb off a) (k1 : RKid w fv l bb (off + 5) b) (R : Option Feat) (h0 : a.ev l nilS = none → R = none) (h1 : ∀ f, a.ev l nilS = some f → ((op = 6 ∧ f.n = 0) ∨ (op = 7 ∧ f.n = 1)) → R = some f) (h2 : ∀ f, a.ev l nilS = some f → ¬ ((op = 6 ∧ f.n = 0) ∨ (op = 7 ∧ f.n = 1)) → b.ev l nilS = none → R = none) (h3 : ∀ f g, a.ev l nilS = some f → ¬ ((op = 6 ∧ f.n = 0) ∨ (op = 7 ∧ f.n = 1)) → b.ev l nilS = some g → R = comb op f g) (hn : ∀ f g, a.ev l nilS = some f → b.ev l nilS = some g → op = 12 ∨ op = 13 ∨ op = 14 → nbrB f.n = true ∧ nbrB g.n = true) : Calls Tryz.prog 48 #[.agg #[.int .i64 op, .string nm, .string tx, .int .i64 n, .slice (some ⟨bb, off, none⟩) 2 cp], fv, .slice none 0 0] w (EvP R w) := by
 obtain ⟨q0, c0, hc, k0⟩ := k0
 obtain ⟨y0, y1, y2, y3, y4⟩ := hc.five
 obtain ⟨q1, c1, hc1, k1⟩ := k1
 have hbl : bb < w.heap.size := cell_lt y0
 unfold exAgg at k0 k1
 replace k0 := Lib.hid k0
 replace k1 := Lib.hid k1
 replace hc1 := Lib.hid hc1
 have o4 : (op == 4) = false := by simp; omega
 have o5 : (op == 5) = false := by simp; omega
 have o15 : (op != 15) = true := by simp; omega
 cases ha : a.ev l nilS with
 | none =>
  have hR := Lib.hid (h0 ha)
  clear h0 h1 h2 h3 hn k1 hc1
  go_enter Tryz.func48, Tryz.ntmps48
  have hbx0 := (Blk.new w #[.int .i64 op, .string nm, .string tx, .int .i64 n, .slice (some ⟨bb, off, none⟩) 2 cp] 40).alloc (.cells #[.string ⟨#[]⟩, .int .i64 0, .int .i64 0, .string ⟨#[]⟩] 62)
  have hbr0 := Blk.new' (w.alloc (.cells #[.int .i64 op, .string nm, .string tx, .int .i64 n, .slice (some ⟨bb, off, none⟩) 2 cp] 40)) #[.string ⟨#[]⟩, .int .i64 0, .int .i64 0, .string ⟨#[]⟩] 62 (w.heap.size + 1) (by simp)
  have hE00 : Ext w ((w.alloc (.cells #[.int .i64 op, .string nm, .string tx, .int .i64 n, .slice (some ⟨bb, off, none⟩) 2 cp] 40)).alloc (.cells #[.string ⟨#[]⟩, .int .i64 0, .int .i64 0, .string ⟨#[]⟩] 62)) := ((Ext.refl w).alloc _).alloc _
  go_wp2_with fail
  refine (k0.out _ hE00).mono ?_
  rintro e w1 hq
  clear y0 y1 y2 y3 y4
  rw [ha] at hq
  obtain ⟨rfl, hE1⟩ := evP_none hq
  have hbr := Lib.hid (hbr0.ext hE1)
  have hbx := Lib.hid (hbx0.ext hE1)
  have hE : Ext w w1 := hE00.trans hE1
  clear hE1 hq hbr0 hbx0 hE00 k0
  have z0 : w1.cell? ⟨w.heap.size + 1, 0, none⟩ = some (.string ⟨#[]⟩) := (hbr.out.cell 0).trans rfl
  have z1 : w1.cell? ⟨w.heap.size + 1, 1, none⟩ = some (.int .i64 0) := (hbr.out.cell 1).trans rfl
  have z2 : w1.cell? ⟨w.heap.size + 1, 2, none⟩ = some (.int .i64 0) := (hbr.out.cell 2).trans rfl
  have z3 : w1.cell? ⟨w.heap.size + 1, 3, none⟩ = some (.string ⟨#[]⟩) := (hbr.out.cell 3).trans rfl
  have f0 := hbr.out.fz 0
  have f1 := hbr.out.fz 1
  have f2 := hbr.out.fz 2
  have f3 := hbr.out.fz 3
  have zl : w.heap.size + 1 < w1.heap.size := hbr.out.lt
  clear ha hbx
  go_wp2
  exact bodyPost_ret (v := .tuple #[.agg #[.string ⟨#[]⟩, .int .i64 0, .int .i64 0, .string ⟨#[]⟩], .int .i64 4]) (by first | (simp [results, Tryz.results48, go_sem]; done) | (simp [results, Tryz.results48, go_sem, z0, z1, z2, z3, zl]; done) | simp [results, Tryz.results48, go_sem]) rfl (evP_n hR.out xt)
 | some f =>
  by_cases hs : (op = 6 ∧ f.n = 0) ∨ (op = 7 ∧ f.n = 1)
  · have hR := Lib.hid (h1 f ha hs)
    clear h0 h1 h2 h3 hn k1 hc1
    rcases hs with ⟨rfl, hz⟩ | ⟨rfl, hz⟩
    · have dz : (f.n == 0) = true := by simpa using hz
      clear hz
      go_enter Tryz.func48, Tryz.ntmps48
      have hbx0 := (Blk.new w #[.int .i64 6, .string nm, .string tx, .int .i64 n, .slice (some ⟨bb, off, none⟩) 2 cp] 40).alloc (.cells #[.string ⟨#[]⟩, .int .i64 0, .int .i64 0, .string ⟨#[]⟩] 62)
      have hbr0 := Blk.new' (w.alloc (.cells #[.int .i64 6, .string nm, .string tx, .int .i64 n, .slice (some ⟨bb, off, none⟩) 2 cp] 40)) #[.string ⟨#[]⟩, .int .i64 0, .int .i64 0, .string ⟨#[]⟩] 62 (w.heap.size + 1) (by simp)
      have hE00 : Ext w ((w.alloc (.cells #[.int .i64 6, .string nm, .string tx, .int .i64 n, .slice (some ⟨bb, off, none⟩) 2 cp] 40)).alloc (.cells #[.string ⟨#[]⟩, .int .i64 0, .int .i64 0, .string ⟨#[]⟩] 62)) := ((Ext.refl w).alloc _).alloc _
      go_wp2_with fail
      refine (k0.out _ hE00).mono ?_
      rintro e w1 hq
      clear y0 y1 y2 y3 y4
      rw [ha] at hq
      obtain ⟨rfl, hE1⟩ := evP_some hq
      have hbr := Lib.hid (hbr0.ext hE1)
      have hbx := Lib.hid (hbx0.ext hE1)
      have hE : Ext w w1 := hE00.trans hE1
      clear hE1 hq hbr0 hbx0 hE00 k0
      have x0 : w1.cell? ⟨w.heap.size, 0, none⟩ = some (.int .i64 6) := (hbx.out.cell 0).trans rfl
      have xl : w.heap.size < w1.heap.size := hbx.out.lt
      clear ha
      have z0 : w1.cell? ⟨w.heap.size + 1, 0, none⟩ = some (.string ⟨#[]⟩) := (hbr.out.cell 0).trans rfl
      have z1 : w1.cell? ⟨w.heap.size + 1, 1, none⟩ = some (.int .i64 0) := (hbr.out.cell 1).trans rfl
      have z2 : w1.cell? ⟨w.heap.size + 1, 2, none⟩ = some (.int .i64 0) := (hbr.out.cell 2).trans rfl
      have z3 : w1.cell? ⟨w.heap.size + 1, 3, none⟩ = some (.string ⟨#[]⟩) := (hbr.out.cell 3).trans rfl
      have f0 := hbr.out.fz 0
      have f1 := hbr.out.fz 1
      have f2 := hbr.out.fz 2
      have f3 := hbr.out.fz 3
      have zl : w.heap.size + 1 < w1.heap.size := hbr.out.lt
      go_wp2
      exact bodyPost_ret (v := .tuple #[.agg #[.string f.name, .int .i64 f.kind, .int .i64 f.n, .string f.text], .int .i64 0]) (by first | (simp [results, Tryz.results48, go_sem]; done) | (simp [results, Tryz.results48, go_sem, z0, z1, z2, z3, zl]; done) | simp [results, Tryz.results48, go_sem]) rfl (evP_s (f := f) hR.out xt)
    · have dz : (f.n == 1) = true := by simpa using hz
      clear hz
      go_enter Tryz.func48, Tryz.ntmps48
      have hbx0 := (Blk.new w #[.int .i64 7, .string nm, .string tx, .int .i64 n, .slice (some ⟨bb, off, none⟩) 2 cp] 40).alloc (.cells #[.string ⟨#[]⟩, .int .i64 0, .int .i64 0, .string ⟨#[]⟩] 62)
      have hbr0 := Blk.new' (w.alloc (.cells #[.int .i64 7, .string nm, .string tx, .int .i64 n, .slice (some ⟨bb, off, none⟩) 2 cp] 40)) #[.string ⟨#[]⟩, .int .i64 0, .int .i64 0, .string ⟨#[]⟩] 62 (w.heap.size + 1) (by simp)
      have hE00 : Ext w ((w.alloc (.cells #[.int .i64 7, .string nm, .string tx, .int .i64 n, .slice (some ⟨bb, off, none⟩) 2 cp] 40)).alloc (.cells #[.string ⟨#[]⟩, .int .i64 0, .int .i64 0, .string ⟨#[]⟩] 62)) := ((Ext.refl w).alloc _).alloc _
      go_wp2_with fail
      refine (k0.out _ hE00).mono ?_
      rintro e w1 hq
      clear y0 y1 y2 y3 y4
      rw [ha] at hq
      obtain ⟨rfl, hE1⟩ := evP_some hq
      have hbr := Lib.hid (hbr0.ext hE1)
      have hbx := Lib.hid (hbx0.ext hE1)
      have hE : Ext w w1 := hE00.trans hE1
      clear hE1 hq hbr0 hbx0 hE00 k0
      have x0 : w1.cell? ⟨w.heap.size, 0, none⟩ = some (.int .i64 7) := (hbx.out.cell 0).trans rfl
      have xl : w.heap.size < w1.heap.size := hbx.out.lt
      clear ha
      have z0 : w1.cell? ⟨w.heap.size + 1, 0, none⟩ = some (.string ⟨#[]⟩) := (hbr.out.cell 0).trans rfl
      have z1 : w1.cell? ⟨w.heap.size + 1, 1, none⟩ = some (.int .i64 0) := (hbr.out.cell 1).trans rfl
      have z2 : w1.cell? ⟨w.heap.size + 1, 2, none⟩ = some (.int .i64 0) := (hbr.out.cell 2).trans rfl
      have z3 : w1.cell? ⟨w.heap.size + 1, 3, none⟩ = some (.string ⟨#[]⟩) := (hbr.out.cell 3).trans rfl
      have f0 := hbr.out.fz 0
      have f1 := hbr.out.fz 1
      have f2 := hbr.out.fz 2
      have f3 := hbr.out.fz 3
      have zl : w.heap.size + 1 < w1.heap.size := hbr.out.lt
      go_wp2
      exact bodyPost_ret (v := .tuple #[.agg #[.string f.name, .int .i64 f.kind, .int .i64 f.n, .string f.text], .int .i64 0]) (by first | (simp [results, Tryz.results48, go_sem]; done) | (simp [results, Tryz.results48, go_sem, z0, z1, z2, z3, zl]; done) | simp [results, Tryz.results48, go_sem]) rfl (evP_s (f := f) hR.out xt)
  · have kb2 := Lib.hid (h2 f ha hs)
    have kb3 := Lib.hid (fun g h => h3 f g ha hs h)
    have hnn := Lib.hid (fun g h => hn f g ha h)
    have t6 : ((op == 6) = false ∨ ((op == 6) = true ∧ (f.n == 0) = false)) ∧ ((op == 7) = false ∨ ((op == 7) = true ∧ (f.n == 1) = false)) := by
     refine ⟨?_, ?_⟩
     · by_cases h : op = 6
       · exact Or.inr ⟨by simpa using h, by have : ¬ f.n = 0 := fun h9 => hs (Or.inl ⟨h, h9⟩); simpa using this⟩
       · exact Or.inl (by simpa using h)
     · by_cases h : op = 7
       · exact Or.inr ⟨by simpa using h, by have : ¬ f.n = 1 := fun h9 => hs (Or.inr ⟨h, h9⟩); simpa using this⟩
       · exact Or.inl (by simpa using h)
    have kT := Lib.hid (fun g w2 h => rtwo_any op f g w2 ho h)
    clear h0 h1 h2 h3 hn hs
    obtain ⟨t6, t7⟩ := t6
    rcases t6 with t6 | ⟨t6, t6'⟩ <;> rcases t7 with t7 | ⟨t7, t7'⟩
    · skip
      go_enter Tryz.func48, Tryz.ntmps48
      have hbx0 := (Blk.new w #[.int .i64 op, .string nm, .string tx, .int .i64 n, .slice (some ⟨bb, off, none⟩) 2 cp] 40).alloc (.cells #[.string ⟨#[]⟩, .int .i64 0, .int .i64 0, .string ⟨#[]⟩] 62)
      have hbr0 := Blk.new' (w.alloc (.cells #[.int .i64 op, .string nm, .string tx, .int .i64 n, .slice (some ⟨bb, off, none⟩) 2 cp] 40)) #[.string ⟨#[]⟩, .int .i64 0, .int .i64 0, .string ⟨#[]⟩] 62 (w.heap.size + 1) (by simp)
      have hE00 : Ext w ((w.alloc (.cells #[.int .i64 op, .string nm, .string tx, .int .i64 n, .slice (some ⟨bb, off, none⟩) 2 cp] 40)).alloc (.cells #[.string ⟨#[]⟩, .int .i64 0, .int .i64 0, .string ⟨#[]⟩] 62)) := ((Ext.refl w).alloc _).alloc _
      go_wp2_with fail
      refine (k0.out _ hE00).mono ?_
      rintro e w1 hq
      clear y0 y1 y2 y3 y4
      rw [ha] at hq
      obtain ⟨rfl, hE1⟩ := evP_some hq
      have hbr := Lib.hid (hbr0.ext hE1)
      have hbx := Lib.hid (hbx0.ext hE1)
      have hE : Ext w w1 := hE00.trans hE1
      clear hE1 hq hbr0 hbx0 hE00 k0
      have x0 : w1.cell? ⟨w.heap.size, 0, none⟩ = some (.int .i64 op) := (hbx.out.cell 0).trans rfl
      have x4 : w1.cell? ⟨w.heap.size, 4, none⟩ = some (.slice (some ⟨bb, off, none⟩) 2 cp) := (hbx.out.cell 4).trans rfl
      have xl : w.heap.size < w1.heap.size := hbx.out.lt
      have hb8 := Blk.new w1 #[.string f.name, .int .i64 f.kind, .int .i64 f.n, .string f.text] 62
      have hEa : Ext w1 (w1.alloc (.cells #[.string f.name, .int .i64 f.kind, .int .i64 f.n, .string f.text] 62)) := (Ext.refl _).alloc _
      go_wp2_with fail
      replace hbx := Lib.hid (hbx.out.ext hEa)
      replace hbr := Lib.hid (hbr.out.ext hEa)
      replace hE := hE.trans hEa
      clear x0 x4 xl
      generalize w1.alloc (.cells #[.string f.name, .int .i64 f.kind, .int .i64 f.n, .string f.text] 62) = w2 at *
      replace hb8 := Lib.hid hb8
      clear hEa
      go_loopw [10] (fun i wr => i = .int .i64 1 ∧ wr = w2) (fun _ _ => 0)
      case atStart => exact ⟨rfl, rfl⟩
      case round =>
       obtain ⟨rfl, rfl⟩ := hrel
       have x0 : wr.cell? ⟨w.heap.size, 0, none⟩ = some (.int .i64 op) := (hbx.out.cell 0).trans rfl
       have x4 : wr.cell? ⟨w.heap.size, 4, none⟩ = some (.slice (some ⟨bb, off, none⟩) 2 cp) := (hbx.out.cell 4).trans rfl
       have xl : w.heap.size < wr.heap.size := hbx.out.lt
       obtain ⟨v0, v1, v2, v3, v4⟩ := (hc1.out.ext hE).five
       go_wp2_with fail
       refine (k1.out _ hE).mono ?_
       rintro e w3 hq
       clear x0 x4 xl v0 v1 v2 v3 v4
       cases hb : b.ev l nilS with
       | none =>
        have hR := Lib.hid (kb2.out hb)
        rw [hb] at hq
        obtain ⟨rfl, hE3⟩ := evP_none hq
        replace hbr := Lib.hid (hbr.out.ext hE3)
        replace hE := hE.trans hE3
        clear hE3 hq hb
        have z0 : w3.cell? ⟨w.heap.size + 1, 0, none⟩ = some (.string ⟨#[]⟩) := (hbr.out.cell 0).trans rfl
        have z1 : w3.cell? ⟨w.heap.size + 1, 1, none⟩ = some (.int .i64 0) := (hbr.out.cell 1).trans rfl
        have z2 : w3.cell? ⟨w.heap.size + 1, 2, none⟩ = some (.int .i64 0) := (hbr.out.cell 2).trans rfl
        have z3 : w3.cell? ⟨w.heap.size + 1, 3, none⟩ = some (.string ⟨#[]⟩) := (hbr.out.cell 3).trans rfl
        have f0 := hbr.out.fz 0
        have f1 := hbr.out.fz 1
        have f2 := hbr.out.fz 2
        have f3 := hbr.out.fz 3
        have zl : w.heap.size + 1 < w3.heap.size := hbr.out.lt
        go_wp2
        exact bodyPost_ret (v := .tuple #[.agg #[.string ⟨#[]⟩, .int .i64 0, .int .i64 0, .string ⟨#[]⟩], .int .i64 4]) (by first | (simp [results, Tryz.results48, go_sem]; done) | (simp [results, Tryz.results48, go_sem, z0, z1, z2, z3, zl]; done) | simp [results, Tryz.results48, go_sem]) rfl (evP_n hR.out xt)
       | some g =>
        have hR := Lib.hid (kb3.out g hb)
        have kT2 := Lib.hid (fun w2 => kT.out g w2 (hnn.out g hb))
        rw [hb] at hq
        obtain ⟨rfl, hE3⟩ := evP_some hq
        replace hbr := Lib.hid (hbr.out.ext hE3)
        replace hbx := Lib.hid (hbx.out.ext hE3)
        replace hb8 := Lib.hid (hb8.out.ext hE3)
        replace hE := hE.trans hE3
        clear hE3 hq hb kT hnn
        generalize comb op f g = C at *
        have x0 : w3.cell? ⟨w.heap.size, 0, none⟩ = some (.int .i64 op) := (hbx.out.cell 0).trans rfl
        have xl : w.heap.size < w3.heap.size := hbx.out.lt
        have u0 : w3.cell? ⟨w1.heap.size, 0, none⟩ = some (.string f.name) := (hb8.out.cell 0).trans rfl
        have u1 : w3.cell? ⟨w1.heap.size, 1, none⟩ = some (.int .i64 f.kind) := (hb8.out.cell 1).trans rfl
        have u2 : w3.cell? ⟨w1.heap.size, 2, none⟩ = some (.int .i64 f.n) := (hb8.out.cell 2).trans rfl
        have u3 : w3.cell? ⟨w1.heap.size, 3, none⟩ = some (.string f.text) := (hb8.out.cell 3).trans rfl
        have ul : w1.heap.size < w3.heap.size := hb8.out.lt
        have hEb : Ext w3 (w3.alloc (.cells #[.string g.name, .int .i64 g.kind, .int .i64 g.n, .string g.text] 62)) := (Ext.refl _).alloc _
        cases C with
        | none =>
         go_wp2_with fail
         refine (kT2.out _).mono ?_
         rintro e w4 hq
         obtain ⟨rfl, hE4⟩ := evP_none hq
         replace hbr := Lib.hid (hbr.out.ext (hEb.trans hE4))
         replace hE := hE.trans (hEb.trans hE4)
         clear hE4 hq hEb x0 xl u0 u1 u2 u3 ul kT2
         have z0 : w4.cell? ⟨w.heap.size + 1, 0, none⟩ = some (.string ⟨#[]⟩) := (hbr.out.cell 0).trans rfl
         have z1 : w4.cell? ⟨w.heap.size + 1, 1, none⟩ = some (.int .i64 0) := (hbr.out.cell 1).trans rfl
         have z2 : w4.cell? ⟨w.heap.size + 1, 2, none⟩ = some (.int .i64 0) := (hbr.out.cell 2).trans rfl
         have z3 : w4.cell? ⟨w.heap.size + 1, 3, none⟩ = some (.string ⟨#[]⟩) := (hbr.out.cell 3).trans rfl
         have f0 := hbr.out.fz 0
         have f1 := hbr.out.fz 1
         have f2 := hbr.out.fz 2
         have f3 := hbr.out.fz 3
         have zl : w.heap.size + 1 < w4.heap.size := hbr.out.lt
         go_wp2
         exact bodyPost_ret (v := .tuple #[.agg #[.string ⟨#[]⟩, .int .i64 0, .int .i64 0, .string ⟨#[]⟩], .int .i64 4]) (by first | (simp [results, Tryz.results48, go_sem, z0, z1, z2, z3]; done) | (simp [results, Tryz.results48, go_sem, z0, z1, z2, z3, zl]; done) | simp [results, Tryz.results48, go_sem]) rfl (evP_n hR.out xt)
        | some h =>
         go_wp2_with fail
         refine (kT2.out _).mono ?_
         rintro e w4 hq
         obtain ⟨rfl, hE4⟩ := evP_some hq
         replace hbr := Lib.hid (hbr.out.ext (hEb.trans hE4))
         replace hE := hE.trans (hEb.trans hE4)
         clear hE4 hq hEb x0 xl u0 u1 u2 u3 ul kT2
         have z0 : w4.cell? ⟨w.heap.size + 1, 0, none⟩ = some (.string ⟨#[]⟩) := (hbr.out.cell 0).trans rfl
         have z1 : w4.cell? ⟨w.heap.size + 1, 1, none⟩ = some (.int .i64 0) := (hbr.out.cell 1).trans rfl
         have z2 : w4.cell? ⟨w.heap.size + 1, 2, none⟩ = some (.int .i64 0) := (hbr.out.cell 2).trans rfl
         have z3 : w4.cell? ⟨w.heap.size + 1, 3, none⟩ = some (.string ⟨#[]⟩) := (hbr.out.cell 3).trans rfl
         have f0 := hbr.out.fz 0
         have f1 := hbr.out.fz 1
         have f2 := hbr.out.fz 2
         have f3 := hbr.out.fz 3
         have zl : w.heap.size + 1 < w4.heap.size := hbr.out.lt
         go_wp2
         exact bodyPost_ret (v := .tuple #[.agg #[.string h.name, .int .i64 h.kind, .int .i64 h.n, .string h.text], .int .i64 0]) (by first | (simp [results, Tryz.results48, go_sem, z0, z1, z2, z3]; done) | (simp [results, Tryz.results48, go_sem, z0, z1, z2, z3, zl]; done) | simp [results, Tryz.results48, go_sem]) rfl (evP_s (f := h) hR.out xt)
    · skip
      go_enter Tryz.func48, Tryz.ntmps48
      have hbx0 := (Blk.new w #[.int .i64 op, .string nm, .string tx, .int .i64 n, .slice (some ⟨bb, off, none⟩) 2 cp] 40).alloc (.cells #[.string ⟨#[]⟩, .int .i64 0, .int .i64 0, .string ⟨#[]⟩] 62)
      have hbr0 := Blk.new' (w.alloc (.cells #[.int .i64 op, .string nm, .string tx, .int .i64 n, .slice (some ⟨bb, off, none⟩) 2 cp] 40)) #[.string ⟨#[]⟩, .int .i64 0, .int .i64 0, .string ⟨#[]⟩] 62 (w.heap.size + 1) (by simp)
      have hE00 : Ext w ((w.alloc (.cells #[.int .i64 op, .string nm, .string tx, .int .i64 n, .slice (some ⟨bb, off, none⟩) 2 cp] 40)).alloc (.cells #[.string ⟨#[]⟩, .int .i64 0, .int .i64 0, .string ⟨#[]⟩] 62)) := ((Ext.refl w).alloc _).alloc _
      go_wp2_with fail
      refine (k0.out _ hE00).mono ?_
      rintro e w1 hq
      clear y0 y1 y2 y3 y4
      rw [ha] at hq
      obtain ⟨rfl, hE1⟩ := evP_some hq
      have hbr := Lib.hid (hbr0.ext hE1)
      have hbx := Lib.hid (hbx0.ext hE1)
      have hE : Ext w w1 := hE00.trans hE1
      clear hE1 hq hbr0 hbx0 hE00 k0
      have x0 : w1.cell? ⟨w.heap.size, 0, none⟩ = some (.int .i64 op) := (hbx.out.cell 0).trans rfl
      have x4 : w1.cell? ⟨w.heap.size, 4, none⟩ = some (.slice (some ⟨bb, off, none⟩) 2 cp) := (hbx.out.cell 4).trans rfl
      have xl : w.heap.size < w1.heap.size := hbx.out.lt
      have hb8 := Blk.new w1 #[.string f.name, .int .i64 f.kind, .int .i64 f.n, .string f.text] 62
      have hEa : Ext w1 (w1.alloc (.cells #[.string f.name, .int .i64 f.kind, .int .i64 f.n, .string f.text] 62)) := (Ext.refl _).alloc _
      go_wp2_with fail
      replace hbx := Lib.hid (hbx.out.ext hEa)
      replace hbr := Lib.hid (hbr.out.ext hEa)
      replace hE := hE.trans hEa
      clear x0 x4 xl
      generalize w1.alloc (.cells #[.string f.name, .int .i64 f.kind, .int .i64 f.n, .string f.text] 62) = w2 at *
      replace hb8 := Lib.hid hb8
      clear hEa
      go_loopw [10] (fun i wr => i = .int .i64 1 ∧ wr = w2) (fun _ _ => 0)
      case atStart => exact ⟨rfl, rfl⟩
      case round =>
       obtain ⟨rfl, rfl⟩ := hrel
       have x0 : wr.cell? ⟨w.heap.size, 0, none⟩ = some (.int .i64 op) := (hbx.out.cell 0).trans rfl
       have x4 : wr.cell? ⟨w.heap.size, 4, none⟩ = some (.slice (some ⟨bb, off, none⟩) 2 cp) := (hbx.out.cell 4).trans rfl
       have xl : w.heap.size < wr.heap.size := hbx.out.lt
       obtain ⟨v0, v1, v2, v3, v4⟩ := (hc1.out.ext hE).five
       go_wp2_with fail
       refine (k1.out _ hE).mono ?_
       rintro e w3 hq
       clear x0 x4 xl v0 v1 v2 v3 v4
       cases hb : b.ev l nilS with
       | none =>
        have hR := Lib.hid (kb2.out hb)
        rw [hb] at hq
        obtain ⟨rfl, hE3⟩ := evP_none hq
        replace hbr := Lib.hid (hbr.out.ext hE3)
        replace hE := hE.trans hE3
        clear hE3 hq hb
        have z0 : w3.cell? ⟨w.heap.size + 1, 0, none⟩ = some (.string ⟨#[]⟩) := (hbr.out.cell 0).trans rfl
        have z1 : w3.cell? ⟨w.heap.size + 1, 1, none⟩ = some (.int .i64 0) := (hbr.out.cell 1).trans rfl
        have z2 : w3.cell? ⟨w.heap.size + 1, 2, none⟩ = some (.int .i64 0) := (hbr.out.cell 2).trans rfl
        have z3 : w3.cell? ⟨w.heap.size + 1, 3, none⟩ = some (.string ⟨#[]⟩) := (hbr.out.cell 3).trans rfl
        have f0 := hbr.out.fz 0
        have f1 := hbr.out.fz 1
        have f2 := hbr.out.fz 2
        have f3 := hbr.out.fz 3
        have zl : w.heap.size + 1 < w3.heap.size := hbr.out.lt
        go_wp2
        exact bodyPost_ret (v := .tuple #[.agg #[.string ⟨#[]⟩, .int .i64 0, .int .i64 0, .string ⟨#[]⟩], .int .i64 4]) (by first | (simp [results, Tryz.results48, go_sem]; done) | (simp [results, Tryz.results48, go_sem, z0, z1, z2, z3, zl]; done) | simp [results, Tryz.results48, go_sem]) rfl (evP_n hR.out xt)
       | some g =>
        have hR := Lib.hid (kb3.out g hb)
        have kT2 := Lib.hid (fun w2 => kT.out g w2 (hnn.out g hb))
        rw [hb] at hq
        obtain ⟨rfl, hE3⟩ := evP_some hq
        replace hbr := Lib.hid (hbr.out.ext hE3)
        replace hbx := Lib.hid (hbx.out.ext hE3)
        replace hb8 := Lib.hid (hb8.out.ext hE3)
        replace hE := hE.trans hE3
        clear hE3 hq hb kT hnn
        generalize comb op f g = C at *
        have x0 : w3.cell? ⟨w.heap.size, 0, none⟩ = some (.int .i64 op) := (hbx.out.cell 0).trans rfl
        have xl : w.heap.size < w3.heap.size := hbx.out.lt
        have u0 : w3.cell? ⟨w1.heap.size, 0, none⟩ = some (.string f.name) := (hb8.out.cell 0).trans rfl
        have u1 : w3.cell? ⟨w1.heap.size, 1, none⟩ = some (.int .i64 f.kind) := (hb8.out.cell 1).trans rfl
        have u2 : w3.cell? ⟨w1.heap.size, 2, none⟩ = some (.int .i64 f.n) := (hb8.out.cell 2).trans rfl
        have u3 : w3.cell? ⟨w1.heap.size, 3, none⟩ = some (.string f.text) := (hb8.out.cell 3).trans rfl
        have ul : w1.heap.size < w3.heap.size := hb8.out.lt
        have hEb : Ext w3 (w3.alloc (.cells #[.string g.name, .int .i64 g.kind, .int .i64 g.n, .string g.text] 62)) := (Ext.refl _).alloc _
        cases C with
        | none =>
         go_wp2_with fail
         refine (kT2.out _).mono ?_
         rintro e w4 hq
         obtain ⟨rfl, hE4⟩ := evP_none hq
         replace hbr := Lib.hid (hbr.out.ext (hEb.trans hE4))
         replace hE := hE.trans (hEb.trans hE4)
         clear hE4 hq hEb x0 xl u0 u1 u2 u3 ul kT2
         have z0 : w4.cell? ⟨w.heap.size + 1, 0, none⟩ = some (.string ⟨#[]⟩) := (hbr.out.cell 0).trans rfl
         have z1 : w4.cell? ⟨w.heap.size + 1, 1, none⟩ = some (.int .i64 0) := (hbr.out.cell 1).trans rfl
         have z2 : w4.cell? ⟨w.heap.size + 1, 2, none⟩ = some (.int .i64 0) := (hbr.out.cell 2).trans rfl
         have z3 : w4.cell? ⟨w.heap.size + 1, 3, none⟩ = some (.string ⟨#[]⟩) := (hbr.out.cell 3).trans rfl
         have f0 := hbr.out.fz 0
         have f1 := hbr.out.fz 1
         have f2 := hbr.out.fz 2
         have f3 := hbr.out.fz 3
         have zl : w.heap.size + 1 < w4.heap.size := hbr.out.lt
         go_wp2
         exact bodyPost_ret (v := .tuple #[.agg #[.string ⟨#[]⟩, .int .i64 0, .int .i64 0, .string ⟨#[]⟩], .int .i64 4]) (by first | (simp [results, Tryz.results48, go_sem, z0, z1, z2, z3]; done) | (simp [results, Tryz.results48, go_sem, z0, z1, z2, z3, zl]; done) | simp [results, Tryz.results48, go_sem]) rfl (evP_n hR.out xt)
        | some h =>
         go_wp2_with fail
         refine (kT2.out _).mono ?_
         rintro e w4 hq
         obtain ⟨rfl, hE4⟩ := evP_some hq
         replace hbr := Lib.hid (hbr.out.ext (hEb.trans hE4))
         replace hE := hE.trans (hEb.trans hE4)
         clear hE4 hq hEb x0 xl u0 u1 u2 u3 ul kT2
         have z0 : w4.cell? ⟨w.heap.size + 1, 0, none⟩ = some (.string ⟨#[]⟩) := (hbr.out.cell 0).trans rfl
         have z1 : w4.cell? ⟨w.heap.size + 1, 1, none⟩ = some (.int .i64 0) := (hbr.out.cell 1).trans rfl
         have z2 : w4.cell? ⟨w.heap.size + 1, 2, none⟩ = some (.int .i64 0) := (hbr.out.cell 2).trans rfl
         have z3 : w4.cell? ⟨w.heap.size + 1, 3, none⟩ = some (.string ⟨#[]⟩) := (hbr.out.cell 3).trans rfl
         have f0 := hbr.out.fz 0
         have f1 := hbr.out.fz 1
         have f2 := hbr.out.fz 2
         have f3 := hbr.out.fz 3
         have zl : w.heap.size + 1 < w4.heap.size := hbr.out.lt
         go_wp2
         exact bodyPost_ret (v := .tuple #[.agg #[.string h.name, .int .i64 h.kind, .int .i64 h.n, .string h.text], .int .i64 0]) (by first | (simp [results, Tryz.results48, go_sem, z0, z1, z2, z3]; done) | (simp [results, Tryz.results48, go_sem, z0, z1, z2, z3, zl]; done) | simp [results, Tryz.results48, go_sem]) rfl (evP_s (f := h) hR.out xt)
    · skip
      go_enter Tryz.func48, Tryz.ntmps48
      have hbx0 := (Blk.new w #[.int .i64 op, .string nm, .string tx, .int .i64 n, .slice (some ⟨bb, off, none⟩) 2 cp] 40).alloc (.cells #[.string ⟨#[]⟩, .int .i64 0, .int .i64 0, .string ⟨#[]⟩] 62)
      have hbr0 := Blk.new' (w.alloc (.cells #[.int .i64 op, .string nm, .string tx, .int .i64 n, .slice (some ⟨bb, off, none⟩) 2 cp] 40)) #[.string ⟨#[]⟩, .int .i64 0, .int .i64 0, .string ⟨#[]⟩] 62 (w.heap.size + 1) (by simp)
      have hE00 : Ext w ((w.alloc (.cells #[.int .i64 op, .string nm, .string tx, .int .i64 n, .slice (some ⟨bb, off, none⟩) 2 cp] 40)).alloc (.cells #[.string ⟨#[]⟩, .int .i64 0, .int .i64 0, .string ⟨#[]⟩] 62)) := ((Ext.refl w).alloc _).alloc _
      go_wp2_with fail
      refine (k0.out _ hE00).mono ?_
      rintro e w1 hq
      clear y0 y1 y2 y3 y4
      rw [ha] at hq
      obtain ⟨rfl, hE1⟩ := evP_some hq
      have hbr := Lib.hid (hbr0.ext hE1)
      have hbx := Lib.hid (hbx0.ext hE1)
      have hE : Ext w w1 := hE00.trans hE1
      clear hE1 hq hbr0 hbx0 hE00 k0
      have x0 : w1.cell? ⟨w.heap.size, 0, none⟩ = some (.int .i64 op) := (hbx.out.cell 0).trans rfl
      have x4 : w1.cell? ⟨w.heap.size, 4, none⟩ = some (.slice (some ⟨bb, off, none⟩) 2 cp) := (hbx.out.cell 4).trans rfl
      have xl : w.heap.size < w1.heap.size := hbx.out.lt
      have hb8 := Blk.new w1 #[.string f.name, .int .i64 f.kind, .int .i64 f.n, .string f.text] 62
      have hEa : Ext w1 (w1.alloc (.cells #[.string f.name, .int .i64 f.kind, .int .i64 f.n, .string f.text] 62)) := (Ext.refl _).alloc _
      go_wp2_with fail
      replace hbx := Lib.hid (hbx.out.ext hEa)
      replace hbr := Lib.hid (hbr.out.ext hEa)
      replace hE := hE.trans hEa
      clear x0 x4 xl
      generalize w1.alloc (.cells #[.string f.name, .int .i64 f.kind, .int .i64 f.n, .string f.text] 62) = w2 at *
      replace hb8 := Lib.hid hb8
      clear hEa
      go_loopw [10] (fun i wr => i = .int .i64 1 ∧ wr = w2) (fun _ _ => 0)
      case atStart => exact ⟨rfl, rfl⟩
      case round =>
       obtain ⟨rfl, rfl⟩ := hrel
       have x0 : wr.cell? ⟨w.heap.size, 0, none⟩ = some (.int .i64 op) := (hbx.out.cell 0).trans rfl
       have x4 : wr.cell? ⟨w.heap.size, 4, none⟩ = some (.slice (some ⟨bb, off, none⟩) 2 cp) := (hbx.out.cell 4).trans rfl
       have xl : w.heap.size < wr.heap.size := hbx.out.lt
       obtain ⟨v0, v1, v2, v3, v4⟩ := (hc1.out.ext hE).five
       go_wp2_with fail
       refine (k1.out _ hE).mono ?_
       rintro e w3 hq
       clear x0 x4 xl v0 v1 v2 v3 v4
       cases hb : b.ev l nilS with
       | none =>
        have hR := Lib.hid (kb2.out hb)
        rw [hb] at hq
        obtain ⟨rfl, hE3⟩ := evP_none hq
        replace hbr := Lib.hid (hbr.out.ext hE3)
        replace hE := hE.trans hE3
        clear hE3 hq hb
        have z0 : w3.cell? ⟨w.heap.size + 1, 0, none⟩ = some (.string ⟨#[]⟩) := (hbr.out.cell 0).trans rfl
        have z1 : w3.cell? ⟨w.heap.size + 1, 1, none⟩ = some (.int .i64 0) := (hbr.out.cell 1).trans rfl
        have z2 : w3.cell? ⟨w.heap.size + 1, 2, none⟩ = some (.int .i64 0) := (hbr.out.cell 2).trans rfl
        have z3 : w3.cell? ⟨w.heap.size + 1, 3, none⟩ = some (.string ⟨#[]⟩) := (hbr.out.cell 3).trans rfl
        have f0 := hbr.out.fz 0
        have f1 := hbr.out.fz 1
        have f2 := hbr.out.fz 2
        have f3 := hbr.out.fz 3
        have zl : w.heap.size + 1 < w3.heap.size := hbr.out.lt
        go_wp2
        exact bodyPost_ret (v := .tuple #[.agg #[.string ⟨#[]⟩, .int .i64 0, .int .i64 0, .string ⟨#[]⟩], .int .i64 4]) (by first | (simp [results, Tryz.results48, go_sem]; done) | (simp [results, Tryz.results48, go_sem, z0, z1, z2, z3, zl]; done) | simp [results, Tryz.results48, go_sem]) rfl (evP_n hR.out xt)
       | some g =>
        have hR := Lib.hid (kb3.out g hb)
        have kT2 := Lib.hid (fun w2 => kT.out g w2 (hnn.out g hb))
        rw [hb] at hq
        obtain ⟨rfl, hE3⟩ := evP_some hq
        replace hbr := Lib.hid (hbr.out.ext hE3)
        replace hbx := Lib.hid (hbx.out.ext hE3)
        replace hb8 := Lib.hid (hb8.out.ext hE3)
        replace hE := hE.trans hE3
        clear hE3 hq hb kT hnn
        generalize comb op f g = C at *
        have x0 : w3.cell? ⟨w.heap.size, 0, none⟩ = some (.int .i64 op) := (hbx.out.cell 0).trans rfl
        have xl : w.heap.size < w3.heap.size := hbx.out.lt
        have u0 : w3.cell? ⟨w1.heap.size, 0, none⟩ = some (.string f.name) := (hb8.out.cell 0).trans rfl
        have u1 : w3.cell? ⟨w1.heap.size, 1, none⟩ = some (.int .i64 f.kind) := (hb8.out.cell 1).trans rfl
        have u2 : w3.cell? ⟨w1.heap.size, 2, none⟩ = some (.int .i64 f.n) := (hb8.out.cell 2).trans rfl
        have u3 : w3.cell? ⟨w1.heap.size, 3, none⟩ = some (.string f.text) := (hb8.out.cell 3).trans rfl
        have ul : w1.heap.size < w3.heap.size := hb8.out.lt
        have hEb : Ext w3 (w3.alloc (.cells #[.string g.name, .int .i64 g.kind, .int .i64 g.n, .string g.text] 62)) := (Ext.refl _).alloc _
        cases C with
        | none =>
         go_wp2_with fail
         refine (kT2.out _).mono ?_
         rintro e w4 hq
         obtain ⟨rfl, hE4⟩ := evP_none hq
         replace hbr := Lib.hid (hbr.out.ext (hEb.trans hE4))
         replace hE := hE.trans (hEb.trans hE4)
         clear hE4 hq hEb x0 xl u0 u1 u2 u3 ul kT2
         have z0 : w4.cell? ⟨w.heap.size + 1, 0, none⟩ = some (.string ⟨#[]⟩) := (hbr.out.cell 0).trans rfl
         have z1 : w4.cell? ⟨w.heap.size + 1, 1, none⟩ = some (.int .i64 0) := (hbr.out.cell 1).trans rfl
         have z2 : w4.cell? ⟨w.heap.size + 1, 2, none⟩ = some (.int .i64 0) := (hbr.out.cell 2).trans rfl
         have z3 : w4.cell? ⟨w.heap.size + 1, 3, none⟩ = some (.string ⟨#[]⟩) := (hbr.out.cell 3).trans rfl
         have f0 := hbr.out.fz 0
         have f1 := hbr.out.fz 1
         have f2 := hbr.out.fz 2
         have f3 := hbr.out.fz 3
         have zl : w.heap.size + 1 < w4.heap.size := hbr.out.lt
         go_wp2
         exact bodyPost_ret (v := .tuple #[.agg #[.string ⟨#[]⟩, .int .i64 0, .int .i64 0, .string ⟨#[]⟩], .int .i64 4]) (by first | (simp [results, Tryz.results48, go_sem, z0, z1, z2, z3]; done) | (simp [results, Tryz.results48, go_sem, z0, z1, z2, z3, zl]; done) | simp [results, Tryz.results48, go_sem]) rfl (evP_n hR.out xt)
        | some h =>
         go_wp2_with fail
         refine (kT2.out _).mono ?_
         rintro e w4 hq
         obtain ⟨rfl, hE4⟩ := evP_some hq
         replace hbr := Lib.hid (hbr.out.ext (hEb.trans hE4))
         replace hE := hE.trans (hEb.trans hE4)
         clear hE4 hq hEb x0 xl u0 u1 u2 u3 ul kT2
         have z0 : w4.cell? ⟨w.heap.size + 1, 0, none⟩ = some (.string ⟨#[]⟩) := (hbr.out.cell 0).trans rfl
         have z1 : w4.cell? ⟨w.heap.size + 1, 1, none⟩ = some (.int .i64 0) := (hbr.out.cell 1).trans rfl
         have z2 : w4.cell? ⟨w.heap.size + 1, 2, none⟩ = some (.int .i64 0) := (hbr.out.cell 2).trans rfl
         have z3 : w4.cell? ⟨w.heap.size + 1, 3, none⟩ = some (.string ⟨#[]⟩) := (hbr.out.cell 3).trans rfl
         have f0 := hbr.out.fz 0
         have f1 := hbr.out.fz 1
         have f2 := hbr.out.fz 2
         have f3 := hbr.out.fz 3
         have zl : w.heap.size + 1 < w4.heap.size := hbr.out.lt
         go_wp2
         exact bodyPost_ret (v := .tuple #[.agg #[.string h.name, .int .i64 h.kind, .int .i64 h.n, .string h.text], .int .i64 0]) (by first | (simp [results, Tryz.results48, go_sem, z0, z1, z2, z3]; done) | (simp [results, Tryz.results48, go_sem, z0, z1, z2, z3, zl]; done) | simp [results, Tryz.results48, go_sem]) rfl (evP_s (f := h) hR.out xt)
    · skip
      go_enter Tryz.func48, Tryz.ntmps48
      have hbx0 := (Blk.new w #[.int .i64 op, .string nm, .string tx, .int .i64 n, .slice (some ⟨bb, off, none⟩) 2 cp] 40).alloc (.cells #[.string ⟨#[]⟩, .int .i64 0, .int .i64 0, .string ⟨#[]⟩] 62)
      have hbr0 := Blk.new' (w.alloc (.cells #[.int .i64 op, .string nm, .string tx, .int .i64 n, .slice (some ⟨bb, off, none⟩) 2 cp] 40)) #[.string ⟨#[]⟩, .int .i64 0, .int .i64 0, .string ⟨#[]⟩] 62 (w.heap.size + 1) (by simp)
      have hE00 : Ext w ((w.alloc (.cells #[.int .i64 op, .string nm, .string tx, .int .i64 n, .slice (some ⟨bb, off, none⟩) 2 cp] 40)).alloc (.cells #[.string ⟨#[]⟩, .int .i64 0, .int .i64 0, .string ⟨#[]⟩] 62)) := ((Ext.refl w).alloc _).alloc _
      go_wp2_with fail
      refine (k0.out _ hE00).mono ?_
      rintro e w1 hq
      clear y0 y1 y2 y3 y4
      rw [ha] at hq
      obtain ⟨rfl, hE1⟩ := evP_some hq
      have hbr := Lib.hid (hbr0.ext hE1)
      have hbx := Lib.hid (hbx0.ext hE1)
      have hE : Ext w w1 := hE00.trans hE1
      clear hE1 hq hbr0 hbx0 hE00 k0
      have x0 : w1.cell? ⟨w.heap.size, 0, none⟩ = some (.int .i64 op) := (hbx.out.cell 0).trans rfl
      have x4 : w1.cell? ⟨w.heap.size, 4, none⟩ = some (.slice (some ⟨bb, off, none⟩) 2 cp) := (hbx.out.cell 4).trans rfl
      have xl : w.heap.size < w1.heap.size := hbx.out.lt
      have hb8 := Blk.new w1 #[.string f.name, .int .i64 f.kind, .int .i64 f.n, .string f.text] 62
      have hEa : Ext w1 (w1.alloc (.cells #[.string f.name, .int .i64 f.kind, .int .i64 f.n, .string f.text] 62)) := (Ext.refl _).alloc _
      go_wp2_with fail
      replace hbx := Lib.hid (hbx.out.ext hEa)
      replace hbr := Lib.hid (hbr.out.ext hEa)
      replace hE := hE.trans hEa
      clear x0 x4 xl
      generalize w1.alloc (.cells #[.string f.name, .int .i64 f.kind, .int .i64 f.n, .string f.text] 62) = w2 at *
      replace hb8 := Lib.hid hb8
      clear hEa
      go_loopw [10] (fun i wr => i = .int .i64 1 ∧ wr = w2) (fun _ _ => 0)
      case atStart => exact ⟨rfl, rfl⟩
      case round =>
       obtain ⟨rfl, rfl⟩ := hrel
       have x0 : wr.cell? ⟨w.heap.size, 0, none⟩ = some (.int .i64 op) := (hbx.out.cell 0).trans rfl
       have x4 : wr.cell? ⟨w.heap.size, 4, none⟩ = some (.slice (some ⟨bb, off, none⟩) 2 cp) := (hbx.out.cell 4).trans rfl
       have xl : w.heap.size < wr.heap.size := hbx.out.lt
       obtain ⟨v0, v1, v2, v3, v4⟩ := (hc1.out.ext hE).five
       go_wp2_with fail
       refine (k1.out _ hE).mono ?_
       rintro e w3 hq
       clear x0 x4 xl v0 v1 v2 v3 v4
       cases hb : b.ev l nilS with
       | none =>
        have hR := Lib.hid (kb2.out hb)
        rw [hb] at hq
        obtain ⟨rfl, hE3⟩ := evP_none hq
        replace hbr := Lib.hid (hbr.out.ext hE3)
        replace hE := hE.trans hE3
        clear hE3 hq hb
        have z0 : w3.cell? ⟨w.heap.size + 1, 0, none⟩ = some (.string ⟨#[]⟩) := (hbr.out.cell 0).trans rfl
        have z1 : w3.cell? ⟨w.heap.size + 1, 1, none⟩ = some (.int .i64 0) := (hbr.out.cell 1).trans rfl
        have z2 : w3.cell? ⟨w.heap.size + 1, 2, none⟩ = some (.int .i64 0) := (hbr.out.cell 2).trans rfl
        have z3 : w3.cell? ⟨w.heap.size + 1, 3, none⟩ = some (.string ⟨#[]⟩) := (hbr.out.cell 3).trans rfl
        have f0 := hbr.out.fz 0
        have f1 := hbr.out.fz 1
        have f2 := hbr.out.fz 2
        have f3 := hbr.out.fz 3
        have zl : w.heap.size + 1 < w3.heap.size := hbr.out.lt
        go_wp2
        exact bodyPost_ret (v := .tuple #[.agg #[.string ⟨#[]⟩, .int .i64 0, .int .i64 0, .string ⟨#[]⟩], .int .i64 4]) (by first | (simp [results, Tryz.results48, go_sem]; done) | (simp [results, Tryz.results48, go_sem, z0, z1, z2, z3, zl]; done) | simp [results, Tryz.results48, go_sem]) rfl (evP_n hR.out xt)
       | some g =>
        have hR := Lib.hid (kb3.out g hb)
        have kT2 := Lib.hid (fun w2 => kT.out g w2 (hnn.out g hb))
        rw [hb] at hq
        obtain ⟨rfl, hE3⟩ := evP_some hq
        replace hbr := Lib.hid (hbr.out.ext hE3)
        replace hbx := Lib.hid (hbx.out.ext hE3)
        replace hb8 := Lib.hid (hb8.out.ext hE3)
        replace hE := hE.trans hE3
        clear hE3 hq hb kT hnn
        generalize comb op f g = C at *
        have x0 : w3.cell? ⟨w.heap.size, 0, none⟩ = some (.int .i64 op) := (hbx.out.cell 0).trans rfl
        have xl : w.heap.size < w3.heap.size := hbx.out.lt
        have u0 : w3.cell? ⟨w1.heap.size, 0, none⟩ = some (.string f.name) := (hb8.out.cell 0).trans rfl
        have u1 : w3.cell? ⟨w1.heap.size, 1, none⟩ = some (.int .i64 f.kind) := (hb8.out.cell 1).trans rfl
        have u2 : w3.cell? ⟨w1.heap.size, 2, none⟩ = some (.int .i64 f.n) := (hb8.out.cell 2).trans rfl
        have u3 : w3.cell? ⟨w1.heap.size, 3, none⟩ = some (.string f.text) := (hb8.out.cell 3).trans rfl
        have ul : w1.heap.size < w3.heap.size := hb8.out.lt
        have hEb : Ext w3 (w3.alloc (.cells #[.string g.name, .int .i64 g.kind, .int .i64 g.n, .string g.text] 62)) := (Ext.refl _).alloc _
        cases C with
        | none =>
         go_wp2_with fail
         refine (kT2.out _).mono ?_
         rintro e w4 hq
         obtain ⟨rfl, hE4⟩ := evP_none hq
         replace hbr := Lib.hid (hbr.out.ext (hEb.trans hE4))
         replace hE := hE.trans (hEb.trans hE4)
         clear hE4 hq hEb x0 xl u0 u1 u2 u3 ul kT2
         have z0 : w4.cell? ⟨w.heap.size + 1, 0, none⟩ = some (.string ⟨#[]⟩) := (hbr.out.cell 0).trans rfl
         have z1 : w4.cell? ⟨w.heap.size + 1, 1, none⟩ = some (.int .i64 0) := (hbr.out.cell 1).trans rfl
         have z2 : w4.cell? ⟨w.heap.size + 1, 2, none⟩ = some (.int .i64 0) := (hbr.out.cell 2).trans rfl
         have z3 : w4.cell? ⟨w.heap.size + 1, 3, none⟩ = some (.string ⟨#[]⟩) := (hbr.out.cell 3).trans rfl
         have f0 := hbr.out.fz 0
         have f1 := hbr.out.fz 1
         have f2 := hbr.out.fz 2
         have f3 := hbr.out.fz 3
         have zl : w.heap.size + 1 < w4.heap.size := hbr.out.lt
         go_wp2
         exact bodyPost_ret (v := .tuple #[.agg #[.string ⟨#[]⟩, .int .i64 0, .int .i64 0, .string ⟨#[]⟩], .int .i64 4]) (by first | (simp [results, Tryz.results48, go_sem, z0, z1, z2, z3]; done) | (simp [results, Tryz.results48, go_sem, z0, z1, z2, z3, zl]; done) | simp [results, Tryz.results48, go_sem]) rfl (evP_n hR.out xt)
        | some h =>
         go_wp2_with fail
         refine (kT2.out _).mono ?_
         rintro e w4 hq
         obtain ⟨rfl, hE4⟩ := evP_some hq
         replace hbr := Lib.hid (hbr.out.ext (hEb.trans hE4))
         replace hE := hE.trans (hEb.trans hE4)
         clear hE4 hq hEb x0 xl u0 u1 u2 u3 ul kT2
         have z0 : w4.cell? ⟨w.heap.size + 1, 0, none⟩ = some (.string ⟨#[]⟩) := (hbr.out.cell 0).trans rfl
         have z1 : w4.cell? ⟨w.heap.size + 1, 1, none⟩ = some (.int .i64 0) := (hbr.out.cell 1).trans rfl
         have z2 : w4.cell? ⟨w.heap.size + 1, 2, none⟩ = some (.int .i64 0) := (hbr.out.cell 2).trans rfl
         have z3 : w4.cell? ⟨w.heap.size + 1, 3, none⟩ = some (.string ⟨#[]⟩) := (hbr.out.cell 3).trans rfl
         have f0 := hbr.out.fz 0
         have f1 := hbr.out.fz 1
         have f2 := hbr.out.fz 2
         have f3 := hbr.out.fz 3
         have zl : w.heap.size + 1 < w4.heap.size := hbr.out.lt
         go_wp2
         exact bodyPost_ret (v := .tuple #[.agg #[.string h.name, .int .i64 h.kind, .int .i64 h.n, .string h.text], .int .i64 0]) (by first | (simp [results, Tryz.results48, go_sem, z0, z1, z2, z3]; done) | (simp [results, Tryz.results48, go_sem, z0, z1, z2, z3, zl]; done) | simp [results, Tryz.results48, go_sem]) rfl (evP_s (f := h) hR.out xt)
set_option maxRecDepth 8000 in
set_option maxHeartbeats 2000000 in
theorem rev15 (nm tx : ByteArray) (n : Int) (bb off cp : Nat) (a : Ex) (r : List Ex) (w : World) (fv : Value) (l : List Feat) (hr : r.length ≤ 100) (k0 : RKid w fv l bb off a) (kr : ∀ i, i < r.length → RKid w fv l bb (off + (i + 1) * 5) (r.getD i exD)) (R : Option Feat) (h0 : a.ev l nilS = none → R = none) (h1 : ∀ f, a.ev l nilS = some f → R = inV f (r.map fun x => x.ev l nilS)) : Calls Tryz.prog 48 #[.agg #[.int .i64 15, .string nm, .string tx, .int .i64 n, .slice (some ⟨bb, off, none⟩) (r.length + 1) cp], fv, .slice none 0 0] w (EvP R w) := by
 obtain ⟨q0, c0, hc, k0⟩ := k0
 obtain ⟨y0, y1, y2, y3, y4⟩ := hc.five
 have hbl : bb < w.heap.size := cell_lt y0
 unfold exAgg at k0
 replace k0 := Lib.hid k0
 replace kr := Lib.hid kr
 have dN : (((r.length + 1 : Nat) : Int) == 0) = false := by simp; omega
 obtain ⟨N, hN⟩ : ∃ N, N = r.length + 1 := ⟨_, rfl⟩
 rw [← hN] at dN ⊢
 have hN1 : 1 ≤ N := by omega
 replace hN := Lib.hid hN
 cases ha : a.ev l nilS with
 | none =>
  have hR := Lib.hid (h0 ha)
  clear h0 h1 kr
  go_enter Tryz.func48, Tryz.ntmps48
  have hbx0 := (Blk.new w #[.int .i64 15, .string nm, .string tx, .int .i64 n, .slice (some ⟨bb, off, none⟩) N cp] 40).alloc (.cells #[.string ⟨#[]⟩, .int .i64 0, .int .i64 0, .string ⟨#[]⟩] 62)
  have hbr0 := Blk.new' (w.alloc (.cells #[.int .i64 15, .string nm, .string tx, .int .i64 n, .slice (some ⟨bb, off, none⟩) N cp] 40)) #[.string ⟨#[]⟩, .int .i64 0, .int .i64 0, .string ⟨#[]⟩] 62 (w.heap.size + 1) (by simp)
  have hE00 : Ext w ((w.alloc (.cells #[.int .i64 15, .string nm, .string tx, .int .i64 n, .slice (some ⟨bb, off, none⟩) N cp] 40)).alloc (.cells #[.string ⟨#[]⟩, .int .i64 0, .int .i64 0, .string ⟨#[]⟩] 62)) := ((Ext.refl w).alloc _).alloc _
  go_wp2_with fail
  refine (k0.out _ hE00).mono ?_
  rintro e w1 hq
  clear y0 y1 y2 y3 y4
  rw [ha] at hq
  obtain ⟨rfl, hE1⟩ := evP_none hq
  have hbr := Lib.hid (hbr0.ext hE1)
  have hbx := Lib.hid (hbx0.ext hE1)
  have hE : Ext w w1 := hE00.trans hE1
  clear hE1 hq hbr0 hbx0 hE00 k0
  have z0 : w1.cell? ⟨w.heap.size + 1, 0, none⟩ = some (.string ⟨#[]⟩) := (hbr.out.cell 0).trans rfl
  have z1 : w1.cell? ⟨w.heap.size + 1, 1, none⟩ = some (.int .i64 0) := (hbr.out.cell 1).trans rfl
  have z2 : w1.cell? ⟨w.heap.size + 1, 2, none⟩ = some (.int .i64 0) := (hbr.out.cell 2).trans rfl
  have z3 : w1.cell? ⟨w.heap.size + 1, 3, none⟩ = some (.string ⟨#[]⟩) := (hbr.out.cell 3).trans rfl
  have f0 := hbr.out.fz 0
  have f1 := hbr.out.fz 1
  have f2 := hbr.out.fz 2
  have f3 := hbr.out.fz 3
  have zl : w.heap.size + 1 < w1.heap.size := hbr.out.lt
  clear ha hbx
  go_wp2
  exact bodyPost_ret (v := .tuple #[.agg #[.string ⟨#[]⟩, .int .i64 0, .int .i64 0, .string ⟨#[]⟩], .int .i64 4]) (by first | (simp [results, Tryz.results48, go_sem]; done) | (simp [results, Tryz.results48, go_sem, z0, z1, z2, z3, zl]; done) | simp [results, Tryz.results48, go_sem]) rfl (evP_n hR.out xt)
 | some f =>
  have hR0 := Lib.hid (h1 f ha)
  clear h0 h1
  have hq1 := fun (g : Feat) (w : World) => featEq f g w
  replace hq1 := Lib.hid hq1
  have kT := Lib.hid (fun b w2 => rtruth_any b w2)
  go_enter Tryz.func48, Tryz.ntmps48
  have hbx0 := (Blk.new w #[.int .i64 15, .string nm, .string tx, .int .i64 n, .slice (some ⟨bb, off, none⟩) N cp] 40).alloc (.cells #[.string ⟨#[]⟩, .int .i64 0, .int .i64 0, .string ⟨#[]⟩] 62)
  have hbr0 := Blk.new' (w.alloc (.cells #[.int .i64 15, .string nm, .string tx, .int .i64 n, .slice (some ⟨bb, off, none⟩) N cp] 40)) #[.string ⟨#[]⟩, .int .i64 0, .int .i64 0, .string ⟨#[]⟩] 62 (w.heap.size + 1) (by simp)
  have hE00 : Ext w ((w.alloc (.cells #[.int .i64 15, .string nm, .string tx, .int .i64 n, .slice (some ⟨bb, off, none⟩) N cp] 40)).alloc (.cells #[.string ⟨#[]⟩, .int .i64 0, .int .i64 0, .string ⟨#[]⟩] 62)) := ((Ext.refl w).alloc _).alloc _
  go_wp2_with fail
  refine (k0.out _ hE00).mono ?_
  rintro e w1 hq
  clear y0 y1 y2 y3 y4
  rw [ha] at hq
  obtain ⟨rfl, hE1⟩ := evP_some hq
  have hbr := Lib.hid (hbr0.ext hE1)
  have hbx := Lib.hid (hbx0.ext hE1)
  have hE : Ext w w1 := hE00.trans hE1
  clear hE1 hq hbr0 hbx0 hE00 k0
  have x0 : w1.cell? ⟨w.heap.size, 0, none⟩ = some (.int .i64 15) := (hbx.out.cell 0).trans rfl
  have x4 : w1.cell? ⟨w.heap.size, 4, none⟩ = some (.slice (some ⟨bb, off, none⟩) N cp) := (hbx.out.cell 4).trans rfl
  have xl : w.heap.size < w1.heap.size := hbx.out.lt
  have hb8 := Blk.new w1 #[.string f.name, .int .i64 f.kind, .int .i64 f.n, .string f.text] 62
  have hEa : Ext w1 (w1.alloc (.cells #[.string f.name, .int .i64 f.kind, .int .i64 f.n, .string f.text] 62)) := (Ext.refl _).alloc _
  clear ha
  go_wp2_with fail
  replace hbx := Lib.hid (hbx.out.ext hEa)
  replace hbr := Lib.hid (hbr.out.ext hEa)
  replace hE := hE.trans hEa
  clear x0 x4 xl
  generalize w1.alloc (.cells #[.string f.name, .int .i64 f.kind, .int .i64 f.n, .string f.text] 62) = w2 at *
  replace hb8 := Lib.hid hb8
  clear hEa
  go_loopw [10] (fun i wr => ∃ k : Nat, k ≤ r.length ∧ i = .int .i64 ((k : Int) + 1) ∧ R = inV f ((r.drop k).map fun x => x.ev l nilS) ∧ Ext w2 wr) (fun i _ => r.length + 1 - (intOf i).toNat)
  case atStart => exact ⟨0, Nat.zero_le _, rfl, hR0.out, Ext.refl _⟩
  case round =>
   obtain ⟨k, hk, rfl, hR, hEr⟩ := hrel
   replace hbx := Lib.hid (hbx.out.ext hEr)
   replace hbr := Lib.hid (hbr.out.ext hEr)
   replace hb8 := Lib.hid (hb8.out.ext hEr)
   have hE0 := hE
   replace hE := hE.trans hEr
   have x0 : wr.cell? ⟨w.heap.size, 0, none⟩ = some (.int .i64 15) := (hbx.out.cell 0).trans rfl
   have x4 : wr.cell? ⟨w.heap.size, 4, none⟩ = some (.slice (some ⟨bb, off, none⟩) N cp) := (hbx.out.cell 4).trans rfl
   have xl : w.heap.size < wr.heap.size := hbx.out.lt
   by_cases hlt : k < r.length
   · obtain ⟨q1, c1, hc1, k1⟩ := kr.out k hlt
     have hd : r.drop k = r.getD k exD :: r.drop (k + 1) := by
      rw [List.drop_eq_getElem_cons hlt]
      simp [List.getD_eq_getElem?_getD, hlt]
     rw [hd, List.map_cons] at hR
     replace hR := Lib.hid hR
     unfold exAgg at k1
     replace k1 := Lib.hid k1
     clear hd
     generalize r.getD k exD = b at *
     have dl : decide ((k : Int) + 1 < (N : Int)) = true := decide_eq_true (by have := hN.out; omega)
     have hbw : bb < wr.heap.size := by have := hE.size; omega
     have hkN : k + 1 < N := by have := hN.out; omega
     obtain ⟨v0, v1, v2, v3, v4⟩ := (hc1.ext hE).five
     clear hc1
     go_wp2_with fail
     refine (k1.out _ hE).mono ?_
     rintro e w3 hq
     clear x0 x4 xl v0 v1 v2 v3 v4
     cases hb : b.ev l nilS with
     | none =>
      have hR2 := Lib.hid (show R = none by rw [hR.out, hb]; rfl)
      rw [hb] at hq
      obtain ⟨rfl, hE3⟩ := evP_none hq
      replace hbr := Lib.hid (hbr.out.ext hE3)
      replace hE := hE.trans hE3
      clear hE3 hq hb hE0
      have z0 : w3.cell? ⟨w.heap.size + 1, 0, none⟩ = some (.string ⟨#[]⟩) := (hbr.out.cell 0).trans rfl
      have z1 : w3.cell? ⟨w.heap.size + 1, 1, none⟩ = some (.int .i64 0) := (hbr.out.cell 1).trans rfl
      have z2 : w3.cell? ⟨w.heap.size + 1, 2, none⟩ = some (.int .i64 0) := (hbr.out.cell 2).trans rfl
      have z3 : w3.cell? ⟨w.heap.size + 1, 3, none⟩ = some (.string ⟨#[]⟩) := (hbr.out.cell 3).trans rfl
      have f0 := hbr.out.fz 0
      have f1 := hbr.out.fz 1
      have f2 := hbr.out.fz 2
      have f3 := hbr.out.fz 3
      have zl : w.heap.size + 1 < w3.heap.size := hbr.out.lt
      go_wp2
      exact bodyPost_ret (v := .tuple #[.agg #[.string ⟨#[]⟩, .int .i64 0, .int .i64 0, .string ⟨#[]⟩], .int .i64 4]) (by first | (simp [results, Tryz.results48, go_sem]; done) | (simp [results, Tryz.results48, go_sem, z0, z1, z2, z3, zl]; done) | simp [results, Tryz.results48, go_sem]) rfl (evP_n hR2.out xt)
     | some g =>
      have hR2 := Lib.hid (show R = if g = f then some (truthF true) else inV f ((r.drop (k + 1)).map fun x => x.ev l nilS) by rw [hR.out, hb, inV])
      rw [hb] at hq
      obtain ⟨rfl, hE3⟩ := evP_some hq
      replace hbr := Lib.hid (hbr.out.ext hE3)
      replace hbx := Lib.hid (hbx.out.ext hE3)
      replace hb8 := Lib.hid (hb8.out.ext hE3)
      replace hEr := hEr.trans hE3
      replace hE := hE.trans hE3
      have x0 : w3.cell? ⟨w.heap.size, 0, none⟩ = some (.int .i64 15) := (hbx.out.cell 0).trans rfl
      have xl : w.heap.size < w3.heap.size := hbx.out.lt
      have u0 : w3.cell? ⟨w1.heap.size, 0, none⟩ = some (.string f.name) := (hb8.out.cell 0).trans rfl
      have u1 : w3.cell? ⟨w1.heap.size, 1, none⟩ = some (.int .i64 f.kind) := (hb8.out.cell 1).trans rfl
      have u2 : w3.cell? ⟨w1.heap.size, 2, none⟩ = some (.int .i64 f.n) := (hb8.out.cell 2).trans rfl
      have u3 : w3.cell? ⟨w1.heap.size, 3, none⟩ = some (.string f.text) := (hb8.out.cell 3).trans rfl
      have ul : w1.heap.size < w3.heap.size := hb8.out.lt
      have hq2 := hq1.out g
      by_cases hgf : g = f
      · have hR3 := Lib.hid (hR2.out.trans (if_pos hgf))
        rw [decide_eq_true hgf.symm] at hq2
        have kT2 := Lib.hid (fun w2 => kT.out true w2)
        have hEb : Ext w3 (w3.alloc (.cells #[.string g.name, .int .i64 g.kind, .int .i64 g.n, .string g.text] 62)) := (Ext.refl _).alloc _
        generalize truthF true = h at *
        clear hgf hR2 hR hE3 hq hb hE0 kT hEr
        go_wp2_with fail
        refine (kT2.out _).mono ?_
        rintro e w4 hq
        obtain ⟨rfl, hE4⟩ := evP_some hq
        replace hbr := Lib.hid (hbr.out.ext (hEb.trans hE4))
        replace hE := hE.trans (hEb.trans hE4)
        clear hE4 hq hEb x0 xl u0 u1 u2 u3 ul kT2 hq2
        have z0 : w4.cell? ⟨w.heap.size + 1, 0, none⟩ = some (.string ⟨#[]⟩) := (hbr.out.cell 0).trans rfl
        have z1 : w4.cell? ⟨w.heap.size + 1, 1, none⟩ = some (.int .i64 0) := (hbr.out.cell 1).trans rfl
        have z2 : w4.cell? ⟨w.heap.size + 1, 2, none⟩ = some (.int .i64 0) := (hbr.out.cell 2).trans rfl
        have z3 : w4.cell? ⟨w.heap.size + 1, 3, none⟩ = some (.string ⟨#[]⟩) := (hbr.out.cell 3).trans rfl
        have f0 := hbr.out.fz 0
        have f1 := hbr.out.fz 1
        have f2 := hbr.out.fz 2
        have f3 := hbr.out.fz 3
        have zl : w.heap.size + 1 < w4.heap.size := hbr.out.lt
        go_wp2
        exact bodyPost_ret (v := .tuple #[.agg #[.string h.name, .int .i64 h.kind, .int .i64 h.n, .string h.text], .int .i64 0]) (by first | (simp [results, Tryz.results48, go_sem, z0, z1, z2, z3]; done) | (simp [results, Tryz.results48, go_sem, z0, z1, z2, z3, zl]; done) | simp [results, Tryz.results48, go_sem]) rfl (evP_s (f := h) hR3.out xt)
      · have hR3 := Lib.hid (hR2.out.trans (if_neg hgf))
        rw [decide_eq_false (fun h => hgf h.symm)] at hq2
        clear hgf hR2 hR hE3 hq hb hE0
        go_wp2
        go_roundw
        case rel => exact ⟨k + 1, by omega, by go_num, hR3.out, hEr.alloc _⟩
        case measure => simp [intOf]; omega
   · have hk2 : k = r.length := by omega
     have hd : r.drop k = [] := by rw [hk2]; exact List.drop_length
     rw [hd] at hR
     have hR3 := Lib.hid (show R = some (truthF false) by rw [hR]; rfl)
     have kT2 := Lib.hid (fun w2 => kT.out false w2)
     have dl : decide ((k : Int) + 1 < (N : Int)) = false := decide_eq_false (by have := hN.out; omega)
     generalize truthF false = h at *
     clear hd hk2 hR hE0 kT
     go_wp2_with fail
     refine (kT2.out _).mono ?_
     rintro e w4 hq
     obtain ⟨rfl, hE4⟩ := evP_some hq
     replace hbr := Lib.hid (hbr.out.ext hE4)
     replace hE := hE.trans hE4
     clear hE4 hq x0 x4 xl kT2
     have z0 : w4.cell? ⟨w.heap.size + 1, 0, none⟩ = some (.string ⟨#[]⟩) := (hbr.out.cell 0).trans rfl
     have z1 : w4.cell? ⟨w.heap.size + 1, 1, none⟩ = some (.int .i64 0) := (hbr.out.cell 1).trans rfl
     have z2 : w4.cell? ⟨w.heap.size + 1, 2, none⟩ = some (.int .i64 0) := (hbr.out.cell 2).trans rfl
     have z3 : w4.cell? ⟨w.heap.size + 1, 3, none⟩ = some (.string ⟨#[]⟩) := (hbr.out.cell 3).trans rfl
     have f0 := hbr.out.fz 0
     have f1 := hbr.out.fz 1
     have f2 := hbr.out.fz 2
     have f3 := hbr.out.fz 3
     have zl : w.heap.size + 1 < w4.heap.size := hbr.out.lt
     go_wp2
     exact bodyPost_ret (v := .tuple #[.agg #[.string h.name, .int .i64 h.kind, .int .i64 h.n, .string h.text], .int .i64 0]) (by first | (simp [results, Tryz.results48, go_sem, z0, z1, z2, z3]; done) | (simp [results, Tryz.results48, go_sem, z0, z1, z2, z3, zl]; done) | simp [results, Tryz.results48, go_sem]) rfl (evP_s (f := h) hR3.out xt)
set_option maxHeartbeats 1000000 in
theorem reval_any {w : World} {v : Value} {l0 : List Ex} (h : ExS w v l0) (fv : Value) (l : List Feat) (hF : Feats w fv l) (hN : namesE [] l = 0) : ∀ x : Ex, x.args = l0 → ∀ w', Ext w w' → x.formed = true → (x.ty l).2 = 0 → Calls Tryz.prog 48 #[exAgg x v, fv, .slice none 0 0] w' (EvP (x.ev l nilS) w') := by
 refine ExS.ind (P := fun x v => ∀ w', Ext w w' → x.formed = true → (x.ty l).2 = 0 → Calls Tryz.prog 48 #[exAgg x v, fv, .slice none 0 0] w' (EvP (x.ev l nilS) w')) ?_ h
 clear h
 intro x v hS hK w' hE hf ht
 obtain ⟨op, nm, tx, n, args⟩ := x
 obtain ⟨q, cp, rfl⟩ := hS.form
 simp only [Ex.args] at hS hK ⊢
 rw [formed_eq] at hf
 simp only [Bool.and_eq_true, List.all_eq_true] at hf
 obtain ⟨hfv, hfa⟩ := hf
 obtain ⟨hta, fk, hfk, hb, -⟩ := ty_inv ht
 have hty : ∀ a ∈ args, ∀ f, a.ev l nilS = some f → WellF (a.ty l).1 f := fun a ha f hv => ev_typed l hN nilS a (hfa a ha) (hta a ha) f hv
 have hkid : 0 < args.length → ∃ bb off, q = some ⟨bb, off, none⟩ ∧ ∀ i, i < args.length → RKid w' fv l bb (off + i * 5) (args.getD i exD) := by
  intro h0
  obtain ⟨bb, off, rfl, sv, hk⟩ := hK _ _ rfl h0
  refine ⟨bb, off, rfl, fun i hi => ?_⟩
  obtain ⟨h1, h2, h3⟩ := hk i hi
  obtain ⟨qi, ci, hform⟩ := h2.form
  have hmem : args.getD i exD ∈ args := by
   rw [List.getD_eq_getElem?_getD, List.getElem?_eq_getElem hi, Option.getD_some]
   exact List.getElem_mem hi
  rw [hform] at h1 h3
  exact ⟨qi, ci, h1.ext hE, fun w2 hE2 => h3 w2 (hE.trans hE2) (hfa _ hmem) (hta _ hmem)⟩
 rw [exAgg_mk]
 rcases fv_cut hfv with ⟨ho, hl⟩ | ⟨ho, hl⟩ | ⟨⟨ho, ho'⟩, hl⟩ | ⟨ho, hl, hl'⟩
 · obtain rfl := List.length_eq_zero_iff.1 hl
   refine rev0 op nm tx n q cp w' fv _ (fun w1 h1 => ?_)
   rw [ev_mk]
   have hF1 := hF.ext (hE.trans h1)
   rcases ho with rfl | rfl | rfl | rfl | rfl
   · exact rleaf1 nm tx n q cp w1 (by unfold hasFv at hfv; rw [if_pos rfl] at hfv; simp only [Bool.and_eq_true] at hfv; exact hfv.1.1.1) fv l hF1
   · exact rleaf2 nm tx n q cp w1 fv l hF1
   · exact rleaf3 nm tx n q cp w1 fv l hF1
   · exact rleaf16 nm tx n q cp w1 fv l hF1
   · exact rleaf17 nm tx n q cp w1 fv l hF1
 · obtain ⟨a, rfl⟩ := len1 hl
   obtain ⟨bb, off, rfl, hk⟩ := hkid (by simp)
   have k0 : RKid w' fv l bb off a := hk 0 (by simp)
   simp only [List.map_cons, List.map_nil] at hb
   rcases byK_one ho hb with ⟨rfl, e1, -⟩ | ⟨rfl, e1, -⟩
   · exact rev4 nm tx n bb off 1 cp (by omega) a w' fv l k0 _ (fun h => by rw [ev_one (Or.inl rfl), h]) (fun f h => by rw [ev_one (Or.inl rfl), h]; simp)
   · refine rev5 nm tx n bb off 1 cp (by omega) a w' fv l k0 _ (fun h => by rw [ev_one (Or.inr rfl), h]) (fun f h => ⟨by rw [ev_one (Or.inr rfl), h]; simp, ?_⟩)
     have hw := hty a (by simp) f h
     rw [e1] at hw
     rcases hw.2.2 with h | h | h
     · exact h.2.1
     · exact absurd h.1 (by omega)
     · exact absurd h.1 (by omega)
 · obtain ⟨a, c, rfl⟩ := len2 hl
   obtain ⟨bb, off, rfl, hk⟩ := hkid (by simp)
   have k0 : RKid w' fv l bb off a := hk 0 (by simp)
   have k1 : RKid w' fv l bb (off + 5) c := hk 1 (by simp)
   simp only [List.map_cons, List.map_nil] at hb
   have hn : ∀ f g, a.ev l nilS = some f → c.ev l nilS = some g → op = 12 ∨ op = 13 ∨ op = 14 → nbrB f.n = true ∧ nbrB g.n = true := by
    intro f g h1 h2 h3
    have w1 := hty a (by simp) f h1
    have w2 := hty c (by simp) g h2
    rcases byK_two ho ho' hb with ⟨h, _⟩ | ⟨h, _⟩ | ⟨h, _⟩ | ⟨h, e1, e2, _⟩
    · omega
    · omega
    · omega
    · rw [e1] at w1
      rw [e2] at w2
      refine ⟨?_, ?_⟩
      · rcases w1.2.2 with h | h | h
        · exact h.2.1
        · exact absurd h.1 (by omega)
        · exact absurd h.1 (by omega)
      · rcases w2.2.2 with h | h | h
        · exact h.2.1
        · exact absurd h.1 (by omega)
        · exact absurd h.1 (by omega)
   exact rev2 op ⟨ho, ho'⟩ nm tx n bb off cp a c w' fv l k0 k1 _ (fun h => by rw [ev_two ho ho', h]) (fun f h hc => by rw [ev_two ho ho', h]; simp only [if_pos hc]) (fun f h hc h2 => by rw [ev_two ho ho', h]; simp only [if_neg hc, h2]) (fun f g h hc h2 => by rw [ev_two ho ho', h]; simp only [if_neg hc, h2]) hn
 · subst ho
   cases args with
   | nil => simp at hl
   | cons a r =>
    obtain ⟨bb, off, rfl, hk⟩ := hkid (by simp)
    have k0 : RKid w' fv l bb off a := hk 0 (by simp)
    simp only [List.length_cons] at hl hl'
    exact rev15 nm tx n bb off cp a r w' fv l (by omega) k0 (fun i hi => by have := hk (i + 1) (by simp; omega); simpa using this) _ (fun h => by rw [ev_in, h]) (fun f h => by rw [ev_in, h]; rfl)
set_option maxRecDepth 8000 in
set_option maxHeartbeats 4000000 in
theorem rEval_any {w : World} {v : Value} (x : Ex) (hS : ExS w v x.args) (hok : StrOk [x]) (hpt : x.parts.length ≤ 1000000) (fp : Option Addr) (fc : Nat) (l : List Feat) (hF : Feats w (.slice fp l.length fc) l) (hcap : l.length ≤ fc) (hs : ∀ i, i < l.length → (l.getD i fD).name.size ≤ 140737488355328) : Calls Tryz.prog 20 #[exAgg x v, .slice fp l.length fc, .slice none 0 0] w (EvalPost (evalV x l nilS) w) := by
 obtain ⟨q, cp, rfl⟩ := hS.form
 have kC := Lib.hid (fun w1 (h : Ext w w1) => rcheck_any x (hS.ext h) hok hpt fp fc l (hF.ext h) hcap hs)
 have kE := Lib.hid (fun w1 (h : Ext w w1) (hc : (checkV x l).2 = 0) => by
  obtain ⟨h1, h2, h3, h4⟩ := checkV_ok (x := x) (l := l) hc
  exact reval_any hS (.slice fp l.length fc) l hF h1 x rfl w1 h h3 h4)
 obtain ⟨R, hR⟩ : ∃ R, R = evalV x l nilS := ⟨_, rfl⟩
 rw [← hR]
 unfold evalV at hR
 unfold TyPost at kC
 unfold EvalPost
 generalize x.ev l nilS = ev at *
 generalize checkV x l = cv at *
 obtain ⟨c1, c2⟩ := cv
 simp only at kC kE hR
 obtain ⟨op, nm, tx, n, args⟩ := x
 simp only [exAgg_mk, Ex.args] at kC kE ⊢
 replace hR := Lib.hid hR
 clear hS hF hok hpt hs
 by_cases hc : c2 = 0
 · subst hc
   have kE2 := Lib.hid (fun w1 h => kE.out w1 h rfl)
   have hR2 := Lib.hid (hR.out.trans (if_neg (by simp)))
   clear hR kE
   cases ev with
   | none =>
    have hR3 := Lib.hid (show R = (fD, 4) from hR2.out)
    go_enter Tryz.func20, Tryz.ntmps20
    have hbx0 := (Blk.new w #[.int .i64 op, .string nm, .string tx, .int .i64 n, .slice q args.length cp] 40).alloc (.cells #[.string ⟨#[]⟩, .int .i64 0, .int .i64 0, .string ⟨#[]⟩] 62)
    have hbr0 := Blk.new' (w.alloc (.cells #[.int .i64 op, .string nm, .string tx, .int .i64 n, .slice q args.length cp] 40)) #[.string ⟨#[]⟩, .int .i64 0, .int .i64 0, .string ⟨#[]⟩] 62 (w.heap.size + 1) (by simp)
    have hE00 : Ext w ((w.alloc (.cells #[.int .i64 op, .string nm, .string tx, .int .i64 n, .slice q args.length cp] 40)).alloc (.cells #[.string ⟨#[]⟩, .int .i64 0, .int .i64 0, .string ⟨#[]⟩] 62)) := ((Ext.refl w).alloc _).alloc _
    go_wp2_with fail
    refine (kC.out _ hE00).mono ?_
    rintro e w1 ⟨rfl, hE1⟩
    have hbx := Lib.hid (hbx0.ext hE1)
    have hbr := Lib.hid (hbr0.ext hE1)
    have hE : Ext w w1 := hE00.trans hE1
    have x0 : w1.cell? ⟨w.heap.size, 0, none⟩ = some (.int .i64 op) := (hbx.out.cell 0).trans rfl
    have x1 : w1.cell? ⟨w.heap.size, 1, none⟩ = some (.string nm) := (hbx.out.cell 1).trans rfl
    have x2 : w1.cell? ⟨w.heap.size, 2, none⟩ = some (.string tx) := (hbx.out.cell 2).trans rfl
    have x3 : w1.cell? ⟨w.heap.size, 3, none⟩ = some (.int .i64 n) := (hbx.out.cell 3).trans rfl
    have x4 : w1.cell? ⟨w.heap.size, 4, none⟩ = some (.slice q args.length cp) := (hbx.out.cell 4).trans rfl
    clear hE1 hbr0 hbx0 hE00 kC
    go_wp2_with fail
    refine (kE2.out _ hE).mono ?_
    rintro e w2 hq
    obtain ⟨rfl, hE2⟩ := evP_none hq
    replace hbr := Lib.hid (hbr.out.ext hE2)
    replace hE := hE.trans hE2
    clear hE2 hq kE2 x0 x1 x2 x3 x4
    have z0 : w2.cell? ⟨w.heap.size + 1, 0, none⟩ = some (.string ⟨#[]⟩) := (hbr.out.cell 0).trans rfl
    have z1 : w2.cell? ⟨w.heap.size + 1, 1, none⟩ = some (.int .i64 0) := (hbr.out.cell 1).trans rfl
    have z2 : w2.cell? ⟨w.heap.size + 1, 2, none⟩ = some (.int .i64 0) := (hbr.out.cell 2).trans rfl
    have z3 : w2.cell? ⟨w.heap.size + 1, 3, none⟩ = some (.string ⟨#[]⟩) := (hbr.out.cell 3).trans rfl
    have f0 := hbr.out.fz 0
    have f1 := hbr.out.fz 1
    have f2 := hbr.out.fz 2
    have f3 := hbr.out.fz 3
    have zl : w.heap.size + 1 < w2.heap.size := hbr.out.lt
    go_wp2
    exact bodyPost_ret (v := .tuple #[.agg #[.string ⟨#[]⟩, .int .i64 0, .int .i64 0, .string ⟨#[]⟩], .int .i64 4]) (by first | (simp [results, Tryz.results20, go_sem, z0, z1, z2, z3]; done) | (simp [results, Tryz.results20, go_sem, z0, z1, z2, z3, zl]; done) | simp [results, Tryz.results20, go_sem]) rfl ⟨by first | (rw [hR3.out]; done) | (rw [hR3.out]; rfl), xt⟩
   | some f =>
    have hR3 := Lib.hid (show R = (f, 0) from hR2.out)
    go_enter Tryz.func20, Tryz.ntmps20
    have hbx0 := (Blk.new w #[.int .i64 op, .string nm, .string tx, .int .i64 n, .slice q args.length cp] 40).alloc (.cells #[.string ⟨#[]⟩, .int .i64 0, .int .i64 0, .string ⟨#[]⟩] 62)
    have hbr0 := Blk.new' (w.alloc (.cells #[.int .i64 op, .string nm, .string tx, .int .i64 n, .slice q args.length cp] 40)) #[.string ⟨#[]⟩, .int .i64 0, .int .i64 0, .string ⟨#[]⟩] 62 (w.heap.size + 1) (by simp)
    have hE00 : Ext w ((w.alloc (.cells #[.int .i64 op, .string nm, .string tx, .int .i64 n, .slice q args.length cp] 40)).alloc (.cells #[.string ⟨#[]⟩, .int .i64 0, .int .i64 0, .string ⟨#[]⟩] 62)) := ((Ext.refl w).alloc _).alloc _
    go_wp2_with fail
    refine (kC.out _ hE00).mono ?_
    rintro e w1 ⟨rfl, hE1⟩
    have hbx := Lib.hid (hbx0.ext hE1)
    have hbr := Lib.hid (hbr0.ext hE1)
    have hE : Ext w w1 := hE00.trans hE1
    have x0 : w1.cell? ⟨w.heap.size, 0, none⟩ = some (.int .i64 op) := (hbx.out.cell 0).trans rfl
    have x1 : w1.cell? ⟨w.heap.size, 1, none⟩ = some (.string nm) := (hbx.out.cell 1).trans rfl
    have x2 : w1.cell? ⟨w.heap.size, 2, none⟩ = some (.string tx) := (hbx.out.cell 2).trans rfl
    have x3 : w1.cell? ⟨w.heap.size, 3, none⟩ = some (.int .i64 n) := (hbx.out.cell 3).trans rfl
    have x4 : w1.cell? ⟨w.heap.size, 4, none⟩ = some (.slice q args.length cp) := (hbx.out.cell 4).trans rfl
    clear hE1 hbr0 hbx0 hE00 kC
    go_wp2_with fail
    refine (kE2.out _ hE).mono ?_
    rintro e w2 hq
    obtain ⟨rfl, hE2⟩ := evP_some hq
    replace hbr := Lib.hid (hbr.out.ext hE2)
    replace hE := hE.trans hE2
    clear hE2 hq kE2 x0 x1 x2 x3 x4
    have z0 : w2.cell? ⟨w.heap.size + 1, 0, none⟩ = some (.string ⟨#[]⟩) := (hbr.out.cell 0).trans rfl
    have z1 : w2.cell? ⟨w.heap.size + 1, 1, none⟩ = some (.int .i64 0) := (hbr.out.cell 1).trans rfl
    have z2 : w2.cell? ⟨w.heap.size + 1, 2, none⟩ = some (.int .i64 0) := (hbr.out.cell 2).trans rfl
    have z3 : w2.cell? ⟨w.heap.size + 1, 3, none⟩ = some (.string ⟨#[]⟩) := (hbr.out.cell 3).trans rfl
    have f0 := hbr.out.fz 0
    have f1 := hbr.out.fz 1
    have f2 := hbr.out.fz 2
    have f3 := hbr.out.fz 3
    have zl : w.heap.size + 1 < w2.heap.size := hbr.out.lt
    go_wp2
    exact bodyPost_ret (v := .tuple #[.agg #[.string f.name, .int .i64 f.kind, .int .i64 f.n, .string f.text], .int .i64 0]) (by first | (simp [results, Tryz.results20, go_sem, z0, z1, z2, z3]; done) | (simp [results, Tryz.results20, go_sem, z0, z1, z2, z3, zl]; done) | simp [results, Tryz.results20, go_sem]) rfl ⟨by first | (rw [hR3.out]; done) | (rw [hR3.out]; rfl), xt⟩
 · have dc : (c2 != 0) = true := by simpa using hc
   have hR3 := Lib.hid (show R = (fD, c2) from hR.out.trans (if_pos hc))
   clear hR kE hc
   go_enter Tryz.func20, Tryz.ntmps20
   have hbx0 := (Blk.new w #[.int .i64 op, .string nm, .string tx, .int .i64 n, .slice q args.length cp] 40).alloc (.cells #[.string ⟨#[]⟩, .int .i64 0, .int .i64 0, .string ⟨#[]⟩] 62)
   have hbr0 := Blk.new' (w.alloc (.cells #[.int .i64 op, .string nm, .string tx, .int .i64 n, .slice q args.length cp] 40)) #[.string ⟨#[]⟩, .int .i64 0, .int .i64 0, .string ⟨#[]⟩] 62 (w.heap.size + 1) (by simp)
   have hE00 : Ext w ((w.alloc (.cells #[.int .i64 op, .string nm, .string tx, .int .i64 n, .slice q args.length cp] 40)).alloc (.cells #[.string ⟨#[]⟩, .int .i64 0, .int .i64 0, .string ⟨#[]⟩] 62)) := ((Ext.refl w).alloc _).alloc _
   go_wp2_with fail
   refine (kC.out _ hE00).mono ?_
   rintro e w1 ⟨rfl, hE1⟩
   have hbr := Lib.hid (hbr0.ext hE1)
   have hE : Ext w w1 := hE00.trans hE1
   clear hE1 hbr0 hbx0 hE00 kC
   have z0 : w1.cell? ⟨w.heap.size + 1, 0, none⟩ = some (.string ⟨#[]⟩) := (hbr.out.cell 0).trans rfl
   have z1 : w1.cell? ⟨w.heap.size + 1, 1, none⟩ = some (.int .i64 0) := (hbr.out.cell 1).trans rfl
   have z2 : w1.cell? ⟨w.heap.size + 1, 2, none⟩ = some (.int .i64 0) := (hbr.out.cell 2).trans rfl
   have z3 : w1.cell? ⟨w.heap.size + 1, 3, none⟩ = some (.string ⟨#[]⟩) := (hbr.out.cell 3).trans rfl
   have f0 := hbr.out.fz 0
   have f1 := hbr.out.fz 1
   have f2 := hbr.out.fz 2
   have f3 := hbr.out.fz 3
   have zl : w.heap.size + 1 < w1.heap.size := hbr.out.lt
   go_wp2
   exact bodyPost_ret (v := .tuple #[.agg #[.string ⟨#[]⟩, .int .i64 0, .int .i64 0, .string ⟨#[]⟩], .int .i64 c2]) (by first | (simp [results, Tryz.results20, go_sem, z0, z1, z2, z3]; done) | (simp [results, Tryz.results20, go_sem, z0, z1, z2, z3, zl]; done) | simp [results, Tryz.results20, go_sem]) rfl ⟨by first | (rw [hR3.out]; done) | (rw [hR3.out]; rfl), xt⟩
end Go.Proofs.YtangdoidkcelfaaGreatDoor
