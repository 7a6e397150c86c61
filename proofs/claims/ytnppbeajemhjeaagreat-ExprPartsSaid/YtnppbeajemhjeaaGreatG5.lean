/- Contracts of the reference's all, by, kind, Check (walks; printed by gen/g5.py). -/
import Derived.Test.YtnppbeajemhjeaaGreatG4
import Derived.Test.YtnppbeajemhjeaaGreatEd
import Derived.Test.YtnppbeajemhjeaaGreatEf
namespace Go.Proofs.YtnppbeajemhjeaaGreat
open Go.RowKit
theorem Ints.at {w : World} {v : Value} {zs : List Int} (h : Ints w v zs) : ∃ p c, v = .slice p zs.length c ∧ (0 < zs.length → ∃ b off, p = some ⟨b, off, none⟩ ∧ ∀ i, i < zs.length → w.cell? ⟨b, off + i, none⟩ = some (.int .i64 (zs.getD i 0))) := by
  rcases h with ⟨rfl, rfl⟩ | ⟨b, off, cap, rfl, hc⟩
  · exact ⟨none, 0, rfl, fun h => absurd h (by simp)⟩
  · exact ⟨_, cap, rfl, fun _ => ⟨b, off, rfl, hc⟩⟩
theorem allK_snoc (ks : List Int) (k : Int) (j : Nat) (hj : j < ks.length) : allK (ks.take (j + 1)) k = (allK (ks.take j) k && decide (ks.getD j 0 = k)) := by
  unfold allK
  rw [take_snocD ks 0 j hj, List.all_append]
  simp
theorem allK_bad (ks : List Int) (k : Int) (j : Nat) (hj : j < ks.length) (h : ¬ ks.getD j 0 = k) : allK ks k = false := by
  unfold allK
  rw [List.all_eq_false]
  refine ⟨ks.getD j 0, ?_, by simpa using h⟩
  rw [List.getD_eq_getElem?_getD, List.getElem?_eq_getElem hj, Option.getD_some]
  exact List.getElem_mem hj
set_option maxRecDepth 8000 in
set_option maxHeartbeats 1000000 in
theorem rall_any (v : Value) (ks : List Int) (k : Int) (w : World) (hI : Ints w v ks) (hl : ks.length ≤ 1000000) : Calls Tryz.prog 103 #[v, .int .i64 k] w (BlP (allK ks k) w) := by
  obtain ⟨p, c, rfl, hat⟩ := hI.at
  replace hat := Lib.hid hat
  go_enter Tryz.func103, Tryz.ntmps103
  go_wp2
  go_loop [5] (fun i => ∃ j : Nat, j ≤ ks.length ∧ i = .int .i64 j ∧ allK (ks.take j) k = true) (fun i => ks.length - (intOf i).toNat)
  case atStart => exact ⟨0, Nat.zero_le _, rfl, rfl⟩
  case round =>
    obtain ⟨j, hj, rfl, hall⟩ := hrel
    replace hall := Lib.hid hall
    by_cases hlt : j < ks.length
    · obtain ⟨b, off, rfl, hc⟩ := hat.out (by omega)
      have c0 := hc j hlt
      have hsn := Lib.hid (allK_snoc ks k j hlt)
      have hbd := Lib.hid (allK_bad ks k j hlt)
      clear hc
      generalize ks.getD j 0 = z at *
      by_cases e : z = k
      · have hn := Lib.hid (show allK (ks.take (j + 1)) k = true by rw [hsn.out, hall.out, decide_eq_true e]; rfl)
        have d1 : (z != k) = false := by simp [e]
        clear e hsn hbd
        go_wp2
        go_round
        case rel => exact ⟨j + 1, by omega, by go_num, hn.out⟩
        case measure => simp [intOf]; omega
      · have hn := Lib.hid (hbd.out e)
        have d1 : (z != k) = true := by simp [e]
        clear e hsn hbd
        go_wp2
        go_ret
        exact ⟨ret_boolE hn.out.symm, rfl⟩
    · have hk2 : ks.take j = ks := List.take_of_length_le (by omega)
      have hn := hall.out
      rw [hk2] at hn
      replace hn := Lib.hid hn
      clear hk2
      go_wp2
      go_ret
      exact ⟨ret_boolE hn.out.symm, rfl⟩
def ByP (n : Int) (w : World) (e : Ending) (w' : World) : Prop := e = .returned (.int .i64 n) ∧ w = w'
theorem byP {n m : Int} {w : World} (h : n = m) : ByP n w (.returned (.int .i64 m)) w := by subst h; exact ⟨rfl, rfl⟩
set_option maxRecDepth 8000 in
set_option maxHeartbeats 1000000 in
theorem by1 (fk : Int) (v : Value) (ks : List Int) (w : World) (_ : Ints w v ks) (_ : ks.length ≤ 1000000) : Calls Tryz.prog 99 #[.int .i64 1, .int .i64 fk, v] w (ByP (byK 1 fk ks) w) := by
  go_enter Tryz.func99, Tryz.ntmps99
  go_wp2
  go_ret
  exact byP (by simp [byK])
set_option maxRecDepth 8000 in
set_option maxHeartbeats 1000000 in
theorem by2 (fk : Int) (v : Value) (ks : List Int) (w : World) (_ : Ints w v ks) (_ : ks.length ≤ 1000000) : Calls Tryz.prog 99 #[.int .i64 2, .int .i64 fk, v] w (ByP (byK 2 fk ks) w) := by
  go_enter Tryz.func99, Tryz.ntmps99
  go_wp2
  go_ret
  exact byP (by simp [byK])
set_option maxRecDepth 8000 in
set_option maxHeartbeats 1000000 in
theorem by3 (fk : Int) (v : Value) (ks : List Int) (w : World) (_ : Ints w v ks) (_ : ks.length ≤ 1000000) : Calls Tryz.prog 99 #[.int .i64 3, .int .i64 fk, v] w (ByP (byK 3 fk ks) w) := by
  go_enter Tryz.func99, Tryz.ntmps99
  go_wp2
  go_ret
  exact byP (by simp [byK])
set_option maxRecDepth 8000 in
set_option maxHeartbeats 1000000 in
theorem by16 (fk : Int) (v : Value) (ks : List Int) (w : World) (_ : Ints w v ks) (_ : ks.length ≤ 1000000) : Calls Tryz.prog 99 #[.int .i64 16, .int .i64 fk, v] w (ByP (byK 16 fk ks) w) := by
  by_cases h2 : fk = 2
  · have d : (fk == 2) = true := by simpa using h2
    go_enter Tryz.func99, Tryz.ntmps99
    go_wp2
    go_ret
    exact byP (by simp [byK, h2])
  · have d : (fk == 2) = false := by simpa using h2
    go_enter Tryz.func99, Tryz.ntmps99
    go_wp2
    go_ret
    exact byP (by simp [byK, h2])
set_option maxRecDepth 8000 in
set_option maxHeartbeats 1000000 in
theorem by17 (fk : Int) (v : Value) (ks : List Int) (w : World) (_ : Ints w v ks) (_ : ks.length ≤ 1000000) : Calls Tryz.prog 99 #[.int .i64 17, .int .i64 fk, v] w (ByP (byK 17 fk ks) w) := by
  by_cases h2 : fk = 2
  · have d : (fk == 2) = true := by simpa using h2
    go_enter Tryz.func99, Tryz.ntmps99
    go_wp2
    go_ret
    exact byP (by simp [byK, h2])
  · have d : (fk == 2) = false := by simpa using h2
    go_enter Tryz.func99, Tryz.ntmps99
    go_wp2
    go_ret
    exact byP (by simp [byK, h2])
set_option maxRecDepth 8000 in
set_option maxHeartbeats 1000000 in
theorem by4 (fk : Int) (v : Value) (ks : List Int) (w : World) (hI : Ints w v ks) (hl : ks.length ≤ 1000000) : Calls Tryz.prog 99 #[.int .i64 4, .int .i64 fk, v] w (ByP (byK 4 fk ks) w) := by
  have kA := Lib.hid (fun w1 (h : Ints w1 v ks) => rall_any v ks 3 w1 h hl)
  replace hI := Lib.hid hI
  cases ha : allK ks 3 with
  | true =>
    rw [ha] at kA
    go_enter Tryz.func99, Tryz.ntmps99
    go_wp2_with fail
    refine (kA.out _ hI.out).mono ?_
    rintro e w1 ⟨rfl, rfl⟩
    go_wp2
    go_ret
    exact byP (by simp [byK, ha])
  | false =>
    rw [ha] at kA
    go_enter Tryz.func99, Tryz.ntmps99
    go_wp2_with fail
    refine (kA.out _ hI.out).mono ?_
    rintro e w1 ⟨rfl, rfl⟩
    go_wp2
    go_ret
    exact byP (by simp [byK, ha])
set_option maxRecDepth 8000 in
set_option maxHeartbeats 1000000 in
theorem by6 (fk : Int) (v : Value) (ks : List Int) (w : World) (hI : Ints w v ks) (hl : ks.length ≤ 1000000) : Calls Tryz.prog 99 #[.int .i64 6, .int .i64 fk, v] w (ByP (byK 6 fk ks) w) := by
  have kA := Lib.hid (fun w1 (h : Ints w1 v ks) => rall_any v ks 3 w1 h hl)
  replace hI := Lib.hid hI
  cases ha : allK ks 3 with
  | true =>
    rw [ha] at kA
    go_enter Tryz.func99, Tryz.ntmps99
    go_wp2_with fail
    refine (kA.out _ hI.out).mono ?_
    rintro e w1 ⟨rfl, rfl⟩
    go_wp2
    go_ret
    exact byP (by simp [byK, ha])
  | false =>
    rw [ha] at kA
    go_enter Tryz.func99, Tryz.ntmps99
    go_wp2_with fail
    refine (kA.out _ hI.out).mono ?_
    rintro e w1 ⟨rfl, rfl⟩
    go_wp2
    go_ret
    exact byP (by simp [byK, ha])
set_option maxRecDepth 8000 in
set_option maxHeartbeats 1000000 in
theorem by7 (fk : Int) (v : Value) (ks : List Int) (w : World) (hI : Ints w v ks) (hl : ks.length ≤ 1000000) : Calls Tryz.prog 99 #[.int .i64 7, .int .i64 fk, v] w (ByP (byK 7 fk ks) w) := by
  have kA := Lib.hid (fun w1 (h : Ints w1 v ks) => rall_any v ks 3 w1 h hl)
  replace hI := Lib.hid hI
  cases ha : allK ks 3 with
  | true =>
    rw [ha] at kA
    go_enter Tryz.func99, Tryz.ntmps99
    go_wp2_with fail
    refine (kA.out _ hI.out).mono ?_
    rintro e w1 ⟨rfl, rfl⟩
    go_wp2
    go_ret
    exact byP (by simp [byK, ha])
  | false =>
    rw [ha] at kA
    go_enter Tryz.func99, Tryz.ntmps99
    go_wp2_with fail
    refine (kA.out _ hI.out).mono ?_
    rintro e w1 ⟨rfl, rfl⟩
    go_wp2
    go_ret
    exact byP (by simp [byK, ha])
set_option maxRecDepth 8000 in
set_option maxHeartbeats 1000000 in
theorem by5 (fk : Int) (v : Value) (ks : List Int) (w : World) (hI : Ints w v ks) (hl : ks.length ≤ 1000000) : Calls Tryz.prog 99 #[.int .i64 5, .int .i64 fk, v] w (ByP (byK 5 fk ks) w) := by
  have kA := Lib.hid (fun w1 (h : Ints w1 v ks) => rall_any v ks 1 w1 h hl)
  replace hI := Lib.hid hI
  cases ha : allK ks 1 with
  | true =>
    rw [ha] at kA
    go_enter Tryz.func99, Tryz.ntmps99
    go_wp2_with fail
    refine (kA.out _ hI.out).mono ?_
    rintro e w1 ⟨rfl, rfl⟩
    go_wp2
    go_ret
    exact byP (by simp [byK, ha])
  | false =>
    rw [ha] at kA
    go_enter Tryz.func99, Tryz.ntmps99
    go_wp2_with fail
    refine (kA.out _ hI.out).mono ?_
    rintro e w1 ⟨rfl, rfl⟩
    go_wp2
    go_ret
    exact byP (by simp [byK, ha])
set_option maxRecDepth 8000 in
set_option maxHeartbeats 1000000 in
theorem by12 (fk : Int) (v : Value) (ks : List Int) (w : World) (hI : Ints w v ks) (hl : ks.length ≤ 1000000) : Calls Tryz.prog 99 #[.int .i64 12, .int .i64 fk, v] w (ByP (byK 12 fk ks) w) := by
  have kA := Lib.hid (fun w1 (h : Ints w1 v ks) => rall_any v ks 1 w1 h hl)
  replace hI := Lib.hid hI
  cases ha : allK ks 1 with
  | true =>
    rw [ha] at kA
    go_enter Tryz.func99, Tryz.ntmps99
    go_wp2_with fail
    refine (kA.out _ hI.out).mono ?_
    rintro e w1 ⟨rfl, rfl⟩
    go_wp2
    go_ret
    exact byP (by simp [byK, ha])
  | false =>
    rw [ha] at kA
    go_enter Tryz.func99, Tryz.ntmps99
    go_wp2_with fail
    refine (kA.out _ hI.out).mono ?_
    rintro e w1 ⟨rfl, rfl⟩
    go_wp2
    go_ret
    exact byP (by simp [byK, ha])
set_option maxRecDepth 8000 in
set_option maxHeartbeats 1000000 in
theorem by13 (fk : Int) (v : Value) (ks : List Int) (w : World) (hI : Ints w v ks) (hl : ks.length ≤ 1000000) : Calls Tryz.prog 99 #[.int .i64 13, .int .i64 fk, v] w (ByP (byK 13 fk ks) w) := by
  have kA := Lib.hid (fun w1 (h : Ints w1 v ks) => rall_any v ks 1 w1 h hl)
  replace hI := Lib.hid hI
  cases ha : allK ks 1 with
  | true =>
    rw [ha] at kA
    go_enter Tryz.func99, Tryz.ntmps99
    go_wp2_with fail
    refine (kA.out _ hI.out).mono ?_
    rintro e w1 ⟨rfl, rfl⟩
    go_wp2
    go_ret
    exact byP (by simp [byK, ha])
  | false =>
    rw [ha] at kA
    go_enter Tryz.func99, Tryz.ntmps99
    go_wp2_with fail
    refine (kA.out _ hI.out).mono ?_
    rintro e w1 ⟨rfl, rfl⟩
    go_wp2
    go_ret
    exact byP (by simp [byK, ha])
set_option maxRecDepth 8000 in
set_option maxHeartbeats 1000000 in
theorem by14 (fk : Int) (v : Value) (ks : List Int) (w : World) (hI : Ints w v ks) (hl : ks.length ≤ 1000000) : Calls Tryz.prog 99 #[.int .i64 14, .int .i64 fk, v] w (ByP (byK 14 fk ks) w) := by
  have kA := Lib.hid (fun w1 (h : Ints w1 v ks) => rall_any v ks 1 w1 h hl)
  replace hI := Lib.hid hI
  cases ha : allK ks 1 with
  | true =>
    rw [ha] at kA
    go_enter Tryz.func99, Tryz.ntmps99
    go_wp2_with fail
    refine (kA.out _ hI.out).mono ?_
    rintro e w1 ⟨rfl, rfl⟩
    go_wp2
    go_ret
    exact byP (by simp [byK, ha])
  | false =>
    rw [ha] at kA
    go_enter Tryz.func99, Tryz.ntmps99
    go_wp2_with fail
    refine (kA.out _ hI.out).mono ?_
    rintro e w1 ⟨rfl, rfl⟩
    go_wp2
    go_ret
    exact byP (by simp [byK, ha])
set_option maxRecDepth 8000 in
set_option maxHeartbeats 1000000 in
theorem by10 (fk : Int) (v : Value) (ks : List Int) (w : World) (hI : Ints w v ks) (hl : ks.length ≤ 1000000) : Calls Tryz.prog 99 #[.int .i64 10, .int .i64 fk, v] w (ByP (byK 10 fk ks) w) := by
  have kA := Lib.hid (fun w1 (h : Ints w1 v ks) => rall_any v ks 1 w1 h hl)
  replace hI := Lib.hid hI
  cases ha : allK ks 1 with
  | true =>
    rw [ha] at kA
    go_enter Tryz.func99, Tryz.ntmps99
    go_wp2_with fail
    refine (kA.out _ hI.out).mono ?_
    rintro e w1 ⟨rfl, rfl⟩
    go_wp2
    go_ret
    exact byP (by simp [byK, ha])
  | false =>
    rw [ha] at kA
    go_enter Tryz.func99, Tryz.ntmps99
    go_wp2_with fail
    refine (kA.out _ hI.out).mono ?_
    rintro e w1 ⟨rfl, rfl⟩
    go_wp2
    go_ret
    exact byP (by simp [byK, ha])
set_option maxRecDepth 8000 in
set_option maxHeartbeats 1000000 in
theorem by11 (fk : Int) (v : Value) (ks : List Int) (w : World) (hI : Ints w v ks) (hl : ks.length ≤ 1000000) : Calls Tryz.prog 99 #[.int .i64 11, .int .i64 fk, v] w (ByP (byK 11 fk ks) w) := by
  have kA := Lib.hid (fun w1 (h : Ints w1 v ks) => rall_any v ks 1 w1 h hl)
  replace hI := Lib.hid hI
  cases ha : allK ks 1 with
  | true =>
    rw [ha] at kA
    go_enter Tryz.func99, Tryz.ntmps99
    go_wp2_with fail
    refine (kA.out _ hI.out).mono ?_
    rintro e w1 ⟨rfl, rfl⟩
    go_wp2
    go_ret
    exact byP (by simp [byK, ha])
  | false =>
    rw [ha] at kA
    go_enter Tryz.func99, Tryz.ntmps99
    go_wp2_with fail
    refine (kA.out _ hI.out).mono ?_
    rintro e w1 ⟨rfl, rfl⟩
    go_wp2
    go_ret
    exact byP (by simp [byK, ha])
set_option maxRecDepth 8000 in
set_option maxHeartbeats 1000000 in
theorem by8 (fk : Int) (v : Value) (ks : List Int) (w : World) (hI : Ints w v ks) (hl : ks.length ≤ 1000000) (h0 : 0 < ks.length) : Calls Tryz.prog 99 #[.int .i64 8, .int .i64 fk, v] w (ByP (byK 8 fk ks) w) := by
  have kA := Lib.hid (fun w1 (h : Ints w1 v ks) k => rall_any v ks k w1 h hl)
  obtain ⟨p, c, rfl, hat⟩ := hI.at
  obtain ⟨b, off, rfl, hc⟩ := hat h0
  have c0 := hc 0 h0
  rw [Nat.add_zero] at c0
  replace hI := Lib.hid hI
  have hR := Lib.hid (show byK 8 fk ks = byK 8 fk ks from rfl)
  clear hat hc hR
  obtain ⟨z, hz⟩ : ∃ z, z = ks.getD 0 0 := ⟨_, rfl⟩
  rw [← hz] at c0
  cases ha : allK ks z with
  | true =>
    have hR := Lib.hid (show byK 8 fk ks = 3 by unfold byK; rw [← hz]; simp [ha])
    rw [hR.out]
    have kA := Lib.hid (fun w1 h => kA.out w1 h z)
    rw [ha] at kA
    clear ha hz
    go_enter Tryz.func99, Tryz.ntmps99
    go_wp2_with fail
    refine (kA.out _ hI.out).mono ?_
    rintro e w1 ⟨rfl, rfl⟩
    go_wp2
    go_ret
    exact byP rfl
  | false =>
    have hR := Lib.hid (show byK 8 fk ks = 0 by unfold byK; rw [← hz]; simp [ha])
    rw [hR.out]
    have kA := Lib.hid (fun w1 h => kA.out w1 h z)
    rw [ha] at kA
    clear ha hz
    go_enter Tryz.func99, Tryz.ntmps99
    go_wp2_with fail
    refine (kA.out _ hI.out).mono ?_
    rintro e w1 ⟨rfl, rfl⟩
    go_wp2
    go_ret
    exact byP rfl
set_option maxRecDepth 8000 in
set_option maxHeartbeats 1000000 in
theorem by9 (fk : Int) (v : Value) (ks : List Int) (w : World) (hI : Ints w v ks) (hl : ks.length ≤ 1000000) (h0 : 0 < ks.length) : Calls Tryz.prog 99 #[.int .i64 9, .int .i64 fk, v] w (ByP (byK 9 fk ks) w) := by
  have kA := Lib.hid (fun w1 (h : Ints w1 v ks) k => rall_any v ks k w1 h hl)
  obtain ⟨p, c, rfl, hat⟩ := hI.at
  obtain ⟨b, off, rfl, hc⟩ := hat h0
  have c0 := hc 0 h0
  rw [Nat.add_zero] at c0
  replace hI := Lib.hid hI
  have hR := Lib.hid (show byK 9 fk ks = byK 9 fk ks from rfl)
  clear hat hc hR
  obtain ⟨z, hz⟩ : ∃ z, z = ks.getD 0 0 := ⟨_, rfl⟩
  rw [← hz] at c0
  cases ha : allK ks z with
  | true =>
    have hR := Lib.hid (show byK 9 fk ks = 3 by unfold byK; rw [← hz]; simp [ha])
    rw [hR.out]
    have kA := Lib.hid (fun w1 h => kA.out w1 h z)
    rw [ha] at kA
    clear ha hz
    go_enter Tryz.func99, Tryz.ntmps99
    go_wp2_with fail
    refine (kA.out _ hI.out).mono ?_
    rintro e w1 ⟨rfl, rfl⟩
    go_wp2
    go_ret
    exact byP rfl
  | false =>
    have hR := Lib.hid (show byK 9 fk ks = 0 by unfold byK; rw [← hz]; simp [ha])
    rw [hR.out]
    have kA := Lib.hid (fun w1 h => kA.out w1 h z)
    rw [ha] at kA
    clear ha hz
    go_enter Tryz.func99, Tryz.ntmps99
    go_wp2_with fail
    refine (kA.out _ hI.out).mono ?_
    rintro e w1 ⟨rfl, rfl⟩
    go_wp2
    go_ret
    exact byP rfl
set_option maxRecDepth 8000 in
set_option maxHeartbeats 1000000 in
theorem by15 (fk : Int) (v : Value) (ks : List Int) (w : World) (hI : Ints w v ks) (hl : ks.length ≤ 1000000) (h0 : 0 < ks.length) : Calls Tryz.prog 99 #[.int .i64 15, .int .i64 fk, v] w (ByP (byK 15 fk ks) w) := by
  have kA := Lib.hid (fun w1 (h : Ints w1 v ks) k => rall_any v ks k w1 h hl)
  obtain ⟨p, c, rfl, hat⟩ := hI.at
  obtain ⟨b, off, rfl, hc⟩ := hat h0
  have c0 := hc 0 h0
  rw [Nat.add_zero] at c0
  replace hI := Lib.hid hI
  have hR := Lib.hid (show byK 15 fk ks = byK 15 fk ks from rfl)
  clear hat hc hR
  obtain ⟨z, hz⟩ : ∃ z, z = ks.getD 0 0 := ⟨_, rfl⟩
  rw [← hz] at c0
  by_cases h3 : z = 3
  · have d3 : (z != 3) = false := by simp [h3]
    have hR := Lib.hid (show byK 15 fk ks = 0 by unfold byK; rw [← hz]; simp [h3])
    rw [hR.out]
    clear h3 hz kA
    go_enter Tryz.func99, Tryz.ntmps99
    go_wp2
    go_ret
    exact byP rfl
  · have d3 : (z != 3) = true := by simp [h3]
    cases ha : allK ks z with
    | true =>
      have hR := Lib.hid (show byK 15 fk ks = 3 by unfold byK; rw [← hz]; simp [ha, h3])
      rw [hR.out]
      have kA := Lib.hid (fun w1 h => kA.out w1 h z)
      rw [ha] at kA
      clear ha hz h3
      go_enter Tryz.func99, Tryz.ntmps99
      go_wp2_with fail
      refine (kA.out _ hI.out).mono ?_
      rintro e w1 ⟨rfl, rfl⟩
      go_wp2
      go_ret
      exact byP rfl
    | false =>
      have hR := Lib.hid (show byK 15 fk ks = 0 by unfold byK; rw [← hz]; simp [ha, h3])
      rw [hR.out]
      have kA := Lib.hid (fun w1 h => kA.out w1 h z)
      rw [ha] at kA
      clear ha hz h3
      go_enter Tryz.func99, Tryz.ntmps99
      go_wp2_with fail
      refine (kA.out _ hI.out).mono ?_
      rintro e w1 ⟨rfl, rfl⟩
      go_wp2
      go_ret
      exact byP rfl
theorem by_any (op fk : Int) (v : Value) (ks : List Int) (w : World) (hI : Ints w v ks) (hl : ks.length ≤ 1000000) (h17 : 1 ≤ op ∧ op ≤ 17) (h0 : op = 8 ∨ op = 9 ∨ op = 15 → 0 < ks.length) : Calls Tryz.prog 99 #[.int .i64 op, .int .i64 fk, v] w (ByP (byK op fk ks) w) := by
  have h' : op = 1 ∨ op = 2 ∨ op = 3 ∨ op = 4 ∨ op = 5 ∨ op = 6 ∨ op = 7 ∨ op = 8 ∨ op = 9 ∨ op = 10 ∨ op = 11 ∨ op = 12 ∨ op = 13 ∨ op = 14 ∨ op = 15 ∨ op = 16 ∨ op = 17 := by omega
  rcases h' with rfl | rfl | rfl | rfl | rfl | rfl | rfl | rfl | rfl | rfl | rfl | rfl | rfl | rfl | rfl | rfl | rfl
  · exact by1 fk v ks w hI hl
  · exact by2 fk v ks w hI hl
  · exact by3 fk v ks w hI hl
  · exact by4 fk v ks w hI hl
  · exact by5 fk v ks w hI hl
  · exact by6 fk v ks w hI hl
  · exact by7 fk v ks w hI hl
  · exact by8 fk v ks w hI hl (h0 (by omega))
  · exact by9 fk v ks w hI hl (h0 (by omega))
  · exact by10 fk v ks w hI hl
  · exact by11 fk v ks w hI hl
  · exact by12 fk v ks w hI hl
  · exact by13 fk v ks w hI hl
  · exact by14 fk v ks w hI hl
  · exact by15 fk v ks w hI hl (h0 (by omega))
  · exact by16 fk v ks w hI hl
  · exact by17 fk v ks w hI hl
theorem ints_own {w : World} {B : Nat} {v : Value} {n : Nat} {ks : List Int} (h : w.ownsRow B 3 1 v n (ks.map (Value.int .i64))) (hn : n = ks.length) : Ints w v ks := by
  subst hn
  obtain ⟨_, ⟨rfl, h0⟩ | ⟨g, cap, cur, rfl, _, hb, hcap, _, hs, htk⟩⟩ := h
  · exact Or.inl ⟨rfl, List.length_eq_zero_iff.1 h0⟩
  · refine Or.inr ⟨g, 0, cap, rfl, fun i hi => ?_⟩
    have hb' : Blk w g cur 3 := hb
    rw [Nat.zero_add, hb'.cell, ← Array.getElem?_toList]
    have e : (cur.toList.take (ks.length * 1))[i]? = cur.toList[i]? := List.getElem?_take_of_lt (by omega)
    rw [← e, htk, List.getElem?_map, List.getElem?_eq_getElem hi]
    simp [List.getD_eq_getElem?_getD, List.getElem?_eq_getElem hi]
theorem tyL_len {l : List Feat} {args : List Ex} {ks : List Int} (h : Ex.ty.tyL l args = .ok ks) : ks.length = args.length := by
  induction args generalizing ks with
  | nil => simp only [Ex.ty.tyL] at h; cases h; rfl
  | cons x r ih =>
    rw [Ex.ty.tyL] at h
    split at h
    · cases h
    · cases hr : Ex.ty.tyL l r with
      | error c => rw [hr] at h; cases h
      | ok js => rw [hr] at h; cases h; simp [ih hr]
set_option maxRecDepth 8000 in
set_option maxHeartbeats 4000000 in
theorem rkind_any {w : World} {v : Value} {l0 : List Ex} (h : ExS w v l0) (fv : Value) (l : List Feat) (hF : Feats w fv l) : ∀ (x : Ex), x.args = l0 → ∀ w', Ext w w' → x.formed = true → Calls Tryz.prog 88 #[exAgg x v, fv] w' (TyPost (x.ty l) w') := by
  refine ExS.ind (P := fun x v => ∀ w', Ext w w' → x.formed = true → Calls Tryz.prog 88 #[exAgg x v, fv] w' (TyPost (x.ty l) w')) ?_ h
  clear h
  intro x v hS hK w' hEx hfm
  obtain ⟨op, nm, tx, n, args⟩ := x
  obtain ⟨q, cp, rfl⟩ := hS.form
  obtain ⟨fp, fc, rfl⟩ := hF.form
  rw [formed_eq] at hfm
  simp only [Bool.and_eq_true, List.all_eq_true] at hfm
  obtain ⟨hfv, hfa⟩ := hfm
  have hfk : ∀ k, k < args.length → (args.getD k exD).formed = true := by
    intro k hk
    refine hfa _ ?_
    rw [List.getD_eq_getElem?_getD, List.getElem?_eq_getElem hk, Option.getD_some]
    exact List.getElem_mem hk
  clear hfa
  replace hfk := Lib.hid hfk
  have hlen : args.length ≤ 17 := by have := fv_cut hfv; omega
  have hop : 1 ≤ op ∧ op ≤ 17 := by have := fv_cut hfv; omega
  have hop0 : op = 8 ∨ op = 9 ∨ op = 15 → 0 < args.length := fun h => by have := fv_cut hfv; omega
  clear hfv
  replace hop := Lib.hid hop
  replace hop0 := Lib.hid hop0
  replace hK := Lib.hid hK
  replace hF := Lib.hid (hF.ext hEx)
  simp only [Ex.args] at hK ⊢
  have hte := Lib.hid (fun c => ty_err (l := l) (op := op) (nm := nm) (tx := tx) (n := n) (args := args) (c := c))
  have hto := Lib.hid (fun ks => ty_ok (l := l) (op := op) (nm := nm) (tx := tx) (n := n) (args := args) (ks := ks))
  generalize (Ex.mk op nm tx n args).ty l = R at *
  rw [exAgg_mk]
  clear hS
  obtain ⟨i0, hi, hz0, hz1, hz2⟩ := info_partsE infoIntE
  replace hi := Lib.hid hi
  replace hz0 := Lib.hid hz0
  replace hz1 := Lib.hid hz1
  replace hz2 := Lib.hid hz2
  go_enter Tryz.func88, Tryz.ntmps88
  go_wp2_with fail
  have hb0 := Blk.new w' #[.int .i64 op, .string nm, .string tx, .int .i64 n, .slice q args.length cp] 24
  have hE0 : Ext w' (w'.alloc (.cells #[.int .i64 op, .string nm, .string tx, .int .i64 n, .slice q args.length cp] 24)) := (by repeat (first | with_reducible exact Ext.refl _ | with_reducible exact hE0 | with_reducible exact hE | with_reducible refine Ext.alloc ?_ _ | with_reducible refine Ext.drewN ?_ _ | with_reducible refine Ext.drew ?_ | ((with_reducible refine Ext.setCell ?_ ?side _); (case side => first | exact Nat.le_refl _ | (simp; done) | (simp; omega)))))
  generalize w'.alloc (.cells #[.int .i64 op, .string nm, .string tx, .int .i64 n, .slice q args.length cp] 24) = w0 at *
  replace hb0 := Lib.hid hb0
  go_loopw [6, 7] (fun kv i wr => ∃ k : Nat, ∃ ks : List Int, k ≤ args.length ∧ i = .int .i64 k ∧ Ex.ty.tyL l (args.take k) = .ok ks ∧ ks.length = k ∧ wr.ownsRow w0.heap.size 3 1 kv k (ks.map (Value.int .i64)) ∧ Ext w0 wr) (fun _ i _ => args.length - (intOf i).toNat)
  case atStart => exact ⟨0, [], Nat.zero_le _, rfl, rfl, rfl, ⟨rfl, Or.inl ⟨rfl, rfl⟩⟩, Ext.refl _⟩
  case round =>
    obtain ⟨k, ks, hk, rfl, hT, hkl, hown, hEr⟩ := hrel
    have x4 : wr.cell? ⟨w'.heap.size, 4, none⟩ = some (.slice q args.length cp) := ((hb0.out.ext hEr).cell 4).trans rfl
    by_cases hlt : k < args.length
    · obtain ⟨bb, off, rfl, sv, hkid⟩ := hK.out _ _ rfl (by omega)
      obtain ⟨hc, hsu, hP⟩ := hkid k hlt
      have hform := hsu.form
      have hEw := (hEx.trans hE0).trans hEr
      obtain ⟨c0, c1, c2, c3, c4⟩ := (hc.ext hEw).five
      have hsn := Lib.hid (tyL_snoc l args k hlt ks hT)
      have hbd := Lib.hid (tyL_bad l args k hlt ks hT)
      have hfy := hfk.out k hlt
      replace hP := Lib.hid hP
      replace hown := Lib.hid hown
      clear hc hkid hsu hT
      generalize args.getD k exD = y at *
      generalize sv k = u at *
      obtain ⟨uq, uc, rfl⟩ := hform
      replace hfy := Lib.hid hfy
      go_wp2_with fail
      refine (hP.out _ hEw hfy.out).mono ?_
      rintro e w3 ⟨rfl, hE1⟩
      have hE2 := hEr.trans hE1
      replace hown := Lib.hid (ownsRow_ext hown.out hE1)
      clear hE1 c0 c1 c2 c3 c4 x4 hEw hEr
      generalize y.ty l = ry at *
      obtain ⟨r1, r2⟩ := ry
      simp only at hsn hbd ⊢
      by_cases h0 : r2 = 0
      · subst h0
        have hnew := Lib.hid (hsn.out rfl)
        have hsz := hE2.size
        go_wp2_with (at_builtin; refine wpList_append_own _ rfl _ _ 81 rfl w0.heap.size 3 i0 (.int .i64 0) 1 8 Tryz.underlying81 hi.out hz0.out hz1.out hz2.out rfl (by decide) _ _ _ rfl (ownsRow_ext hown.out ((Ext.refl _).alloc _)) ⟨w3.heap.size, 0, none⟩ 1 1 [.int .i64 r1] rfl rfl ?_ ?_ ?_ ?_ ?_ ?_)
        · rfl
        · unfold maxLen; omega
        · omega
        · omega
        intro v5 w5 hown5 hgrow5 _
        have hE5 : Ext w0 w5 := Below.grown (hE2.alloc _) hgrow5 (by first | (simp; done) | (simp; omega)) (fun k hk => (hown.out.lt k hk).1)
        clear hgrow5 hown hE2
        go_wp2
        go_roundw
        case rel => exact ⟨k + 1, ks ++ [r1], by omega, by go_num, hnew.out, by simp [hkl], by simpa using hown5, hE5⟩
        case measure => simp [intOf]; omega
      · have d1 : (r2 != 0) = true := by simp [h0]
        have hR := Lib.hid (hte.out _ (hbd.out h0))
        clear hown
        go_wp2
        go_ret2
        exact ⟨by rw [hR.out]; rfl, hE0.trans hE2⟩
    · have hkk : args.take k = args := List.take_of_length_le (by omega)
      obtain rfl : k = args.length := by omega
      rw [hkk] at hT
      clear hkk hlt
      have hint := ints_own hown hkl.symm
      have hI2 := Lib.hid (fun w2 (h : Ext wr w2) => hint.ext h)
      have kB := Lib.hid (fun fk w2 (h : Ext wr w2) => by_any op fk _ ks w2 (hI2.out w2 h) (by omega) hop.out (fun h => by have := hop0.out h; omega))
      have kF := Lib.hid (fun w2 (h : Ext w' w2) => rfind_ex w2 (.slice fp l.length fc) l nm (hF.out.ext h))
      unfold FindP at kF
      have x1 : wr.cell? ⟨w'.heap.size, 1, none⟩ = some (.string nm) := ((hb0.out.ext hEr).cell 1).trans rfl
      have x0 : wr.cell? ⟨w'.heap.size, 0, none⟩ = some (.int .i64 op) := ((hb0.out.ext hEr).cell 0).trans rfl
      have hsz0 : w'.heap.size < wr.heap.size := cell_lt x0
      replace hT := Lib.hid (hto.out ks hT)
      have hE : Ext w' wr := hE0.trans hEr
      have hEw := Lib.hid hE
      clear hto hte hK hF hown hint hI2 hEr hE0 hEx hb0 hfk hkl hop0 hi hz0 hz1 hz2
      by_cases hnm : op = 3 ∨ op = 16 ∨ op = 17
      · skip
        cases hfd : findN l nm with
        | none =>
          have hR := Lib.hid (show R = (0, 6) by rw [hT.out, if_pos hnm]; simp only [hfd])
          rw [hfd] at kF
          clear hT hfd kB
          rcases hnm with rfl | rfl | rfl
          all_goals go_wp2_with fail
          all_goals refine (kF.out _ (hEw.out.alloc _)).mono ?_
          all_goals rintro e w6 ⟨rfl, rfl⟩
          all_goals go_wp2
          all_goals go_ret2
          all_goals exact ⟨by rw [hR.out]; rfl, (by repeat (first | with_reducible exact Ext.refl _ | with_reducible exact hE0 | with_reducible exact hE | with_reducible refine Ext.alloc ?_ _ | with_reducible refine Ext.drewN ?_ _ | with_reducible refine Ext.drew ?_ | ((with_reducible refine Ext.setCell ?_ ?side _); (case side => first | exact Nat.le_refl _ | (simp; done) | (simp; omega)))))⟩
        | some f =>
          have hR0 := Lib.hid (show R = if byK op f.kind ks = 0 then ((0 : Int), (28 : Int)) else (byK op f.kind ks, (0 : Int)) by rw [hT.out, if_pos hnm]; simp only [hfd])
          rw [hfd] at kF
          have kB2 := Lib.hid (fun w2 h => kB.out f.kind w2 h)
          clear hT hfd kB
          generalize byK op f.kind ks = bk at *
          simp only [Option.getD_some, Option.isSome_some] at kF
          by_cases hb : bk = 0
          · have hR := Lib.hid (show R = (0, 28) by rw [hR0.out, if_pos hb])
            subst hb
            clear hR0
            rcases hnm with rfl | rfl | rfl
            all_goals go_wp2_with fail
            all_goals refine (kF.out _ (hEw.out.alloc _)).mono ?_
            all_goals rintro e w6 ⟨rfl, rfl⟩
            all_goals go_wp2_with fail
            all_goals refine (kB2.out _ (by repeat (first | with_reducible exact Ext.refl _ | with_reducible refine Ext.alloc ?_ _ | (with_reducible refine Ext.setCell ?_ ?side _; case side => first | exact Nat.le_refl _ | (simp; done) | (simp; omega))))).mono ?_
            all_goals rintro e w7 ⟨rfl, rfl⟩
            all_goals go_wp2
            all_goals go_ret2
            all_goals exact ⟨by rw [hR.out]; rfl, (by repeat (first | with_reducible exact Ext.refl _ | with_reducible exact hE0 | with_reducible exact hE | with_reducible refine Ext.alloc ?_ _ | with_reducible refine Ext.drewN ?_ _ | with_reducible refine Ext.drew ?_ | ((with_reducible refine Ext.setCell ?_ ?side _); (case side => first | exact Nat.le_refl _ | (simp; done) | (simp; omega)))))⟩
          · have hR := Lib.hid (show R = (bk, 0) by rw [hR0.out, if_neg hb])
            have db : (bk == 0) = false := by simpa using hb
            clear hR0 hb
            rcases hnm with rfl | rfl | rfl
            all_goals go_wp2_with fail
            all_goals refine (kF.out _ (hEw.out.alloc _)).mono ?_
            all_goals rintro e w6 ⟨rfl, rfl⟩
            all_goals go_wp2_with fail
            all_goals refine (kB2.out _ (by repeat (first | with_reducible exact Ext.refl _ | with_reducible refine Ext.alloc ?_ _ | (with_reducible refine Ext.setCell ?_ ?side _; case side => first | exact Nat.le_refl _ | (simp; done) | (simp; omega))))).mono ?_
            all_goals rintro e w7 ⟨rfl, rfl⟩
            all_goals go_wp2
            all_goals go_ret2
            all_goals exact ⟨by rw [hR.out]; rfl, (by repeat (first | with_reducible exact Ext.refl _ | with_reducible exact hE0 | with_reducible exact hE | with_reducible refine Ext.alloc ?_ _ | with_reducible refine Ext.drewN ?_ _ | with_reducible refine Ext.drew ?_ | ((with_reducible refine Ext.setCell ?_ ?side _); (case side => first | exact Nat.le_refl _ | (simp; done) | (simp; omega)))))⟩
      · have hR0 := Lib.hid (show R = if byK op 0 ks = 0 then ((0 : Int), (28 : Int)) else (byK op 0 ks, (0 : Int)) by rw [hT.out, if_neg hnm])
        have o3 : (op == 3) = false := by simp; omega
        have o16 : (op == 16) = false := by simp; omega
        have o17 : (op == 17) = false := by simp; omega
        have kB2 := Lib.hid (fun w2 h => kB.out 0 w2 h)
        clear hT kB hnm kF
        generalize byK op 0 ks = bk at *
        by_cases hb : bk = 0
        · have hR := Lib.hid (show R = (0, 28) by rw [hR0.out, if_pos hb])
          subst hb
          clear hR0
          go_wp2_with fail
          refine (kB2.out _ ((Ext.refl _).alloc _)).mono ?_
          rintro e w7 ⟨rfl, rfl⟩
          go_wp2
          go_ret2
          exact ⟨by rw [hR.out]; rfl, (by repeat (first | with_reducible exact Ext.refl _ | with_reducible exact hE0 | with_reducible exact hE | with_reducible refine Ext.alloc ?_ _ | with_reducible refine Ext.drewN ?_ _ | with_reducible refine Ext.drew ?_ | ((with_reducible refine Ext.setCell ?_ ?side _); (case side => first | exact Nat.le_refl _ | (simp; done) | (simp; omega)))))⟩
        · have hR := Lib.hid (show R = (bk, 0) by rw [hR0.out, if_neg hb])
          have db : (bk == 0) = false := by simpa using hb
          clear hR0 hb
          go_wp2_with fail
          refine (kB2.out _ ((Ext.refl _).alloc _)).mono ?_
          rintro e w7 ⟨rfl, rfl⟩
          go_wp2
          go_ret2
          exact ⟨by rw [hR.out]; rfl, (by repeat (first | with_reducible exact Ext.refl _ | with_reducible exact hE0 | with_reducible exact hE | with_reducible refine Ext.alloc ?_ _ | with_reducible refine Ext.drewN ?_ _ | with_reducible refine Ext.drew ?_ | ((with_reducible refine Ext.setCell ?_ ?side _); (case side => first | exact Nat.le_refl _ | (simp; done) | (simp; omega)))))⟩
set_option maxRecDepth 8000 in
set_option maxHeartbeats 4000000 in
theorem rcheck_any {w : World} {v : Value} (x : Ex) (hS : ExS w v x.args) (hok : StrOk [x]) (hpt : x.parts.length ≤ 1000000) (fp : Option Addr) (fc : Nat) (l : List Feat) (hF : Feats w (.slice fp l.length fc) l) (hcap : l.length ≤ fc) (hs : ∀ i, i < l.length → (l.getD i fD).name.size ≤ 140737488355328) : Calls Tryz.prog 73 #[exAgg x v, .slice fp l.length fc] w (TyPost (checkV x l) w) := by
  obtain ⟨q, cp, rfl⟩ := hS.form
  have kV := Lib.hid (fun w1 (h : Ext w w1) => rvalid_any w1 fp fc l (hF.ext h) hcap hs)
  have kL := Lib.hid (fun w1 (h : Ext w w1) => rlevels_any hS x rfl w1 h (Nat.le_trans (levels_parts x) hpt))
  have kW := Lib.hid (fun w1 (h : Ext w w1) => rwell_any hS x rfl hok w1 h)
  have kK := Lib.hid (fun w1 (h : Ext w w1) (hf : x.formed = true) => rkind_any hS (.slice fp l.length fc) l hF x rfl w1 h hf)
  obtain ⟨R, hR⟩ : ∃ R, R = checkV x l := ⟨_, rfl⟩
  rw [← hR]
  unfold checkV at hR
  generalize x.ty l = ty at *
  generalize namesE [] l = ne at *
  obtain ⟨op, nm, tx, n, args⟩ := x
  simp only [exAgg_mk, Ex.args] at kV kL kW kK ⊢
  generalize (Ex.mk op nm tx n args).levels = lv at *
  generalize (Ex.mk op nm tx n args).formed = fm at *
  replace hR := Lib.hid hR
  clear hS hF hok hpt hs
  go_enter Tryz.func73, Tryz.ntmps73
  go_wp2_with fail
  have hb0 := Blk.new w #[.int .i64 op, .string nm, .string tx, .int .i64 n, .slice q args.length cp] 24
  refine (kV.out _ ((Ext.refl _).alloc _)).mono ?_
  rintro e w1 ⟨rfl, hE1⟩
  replace hb0 := Lib.hid (hb0.ext hE1)
  have hE : Ext w w1 := Ext.trans ((Ext.refl _).alloc _) hE1
  clear hE1 kV
  by_cases h1 : ne = 0
  · subst h1
    have x0 : w1.cell? ⟨w.heap.size, 0, none⟩ = some (.int .i64 op) := (hb0.out.cell 0).trans rfl
    have x1 : w1.cell? ⟨w.heap.size, 1, none⟩ = some (.string nm) := (hb0.out.cell 1).trans rfl
    have x2 : w1.cell? ⟨w.heap.size, 2, none⟩ = some (.string tx) := (hb0.out.cell 2).trans rfl
    have x3 : w1.cell? ⟨w.heap.size, 3, none⟩ = some (.int .i64 n) := (hb0.out.cell 3).trans rfl
    have x4 : w1.cell? ⟨w.heap.size, 4, none⟩ = some (.slice q args.length cp) := (hb0.out.cell 4).trans rfl
    replace hR := Lib.hid (hR.out.trans (if_neg (by simp)))
    go_wp2_with fail
    refine (kL.out _ hE).mono ?_
    rintro e w2 ⟨rfl, hE2⟩
    replace hb0 := Lib.hid (hb0.out.ext hE2)
    replace hE := hE.trans hE2
    clear hE2 kL x0 x1 x2 x3 x4
    by_cases h8 : 8 < lv
    · have hR2 := Lib.hid (hR.out.trans (if_pos h8))
      have d1 : decide ((8 : Int) < (lv : Int)) = true := decide_eq_true (by omega)
      have d2 : decide (8 < lv) = true := decide_eq_true h8
      clear h8 hR kW kK
      go_wp2
      go_ret2
      exact ⟨by rw [hR2.out]; rfl, hE⟩
    · have hR2 := Lib.hid (hR.out.trans (if_neg h8))
      have d1 : decide ((8 : Int) < (lv : Int)) = false := decide_eq_false (by omega)
      have d2 : decide (8 < lv) = false := decide_eq_false h8
      clear h8 hR
      have x0 : w2.cell? ⟨w.heap.size, 0, none⟩ = some (.int .i64 op) := (hb0.out.cell 0).trans rfl
      have x1 : w2.cell? ⟨w.heap.size, 1, none⟩ = some (.string nm) := (hb0.out.cell 1).trans rfl
      have x2 : w2.cell? ⟨w.heap.size, 2, none⟩ = some (.string tx) := (hb0.out.cell 2).trans rfl
      have x3 : w2.cell? ⟨w.heap.size, 3, none⟩ = some (.int .i64 n) := (hb0.out.cell 3).trans rfl
      have x4 : w2.cell? ⟨w.heap.size, 4, none⟩ = some (.slice q args.length cp) := (hb0.out.cell 4).trans rfl
      go_wp2_with fail
      refine (kW.out _ hE).mono ?_
      rintro e w3 ⟨rfl, hE3⟩
      replace hb0 := Lib.hid (hb0.out.ext hE3)
      replace hE := hE.trans hE3
      clear hE3 kW x0 x1 x2 x3 x4
      cases fm with
      | false =>
        have hR3 := Lib.hid (hR2.out.trans (if_pos rfl))
        clear hR2 kK
        go_wp2
        go_ret2
        exact ⟨by rw [hR3.out]; rfl, hE⟩
      | true =>
        have hR3 := Lib.hid (hR2.out.trans (if_neg (by simp)))
        clear hR2
        have kK2 := Lib.hid (fun w1 h => kK.out w1 h rfl)
        unfold TyPost at kK2
        clear kK
        obtain ⟨t1, t2⟩ := ty
        simp only at kK2
        have x0 : w3.cell? ⟨w.heap.size, 0, none⟩ = some (.int .i64 op) := (hb0.out.cell 0).trans rfl
        have x1 : w3.cell? ⟨w.heap.size, 1, none⟩ = some (.string nm) := (hb0.out.cell 1).trans rfl
        have x2 : w3.cell? ⟨w.heap.size, 2, none⟩ = some (.string tx) := (hb0.out.cell 2).trans rfl
        have x3 : w3.cell? ⟨w.heap.size, 3, none⟩ = some (.int .i64 n) := (hb0.out.cell 3).trans rfl
        have x4 : w3.cell? ⟨w.heap.size, 4, none⟩ = some (.slice q args.length cp) := (hb0.out.cell 4).trans rfl
        go_wp2_with fail
        refine (kK2.out _ hE).mono ?_
        rintro e w4 ⟨rfl, hE4⟩
        replace hE := hE.trans hE4
        clear hE4 kK2 x0 x1 x2 x3 x4
        go_wp2
        go_ret2
        exact ⟨by rw [hR3.out]; rfl, hE⟩
  · have d1 : (ne != 0) = true := by simpa using h1
    have hR2 := Lib.hid (hR.out.trans (if_pos h1))
    clear hR h1
    go_wp2
    go_ret2
    exact ⟨by rw [hR2.out]; rfl, hE⟩
end Go.Proofs.YtnppbeajemhjeaaGreat
