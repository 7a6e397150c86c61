/- Contracts of element.isOfKind and of the reference's digit and kind (walks). Written by gen/kind.py. -/
import Derived.Test.YthokhncdpfaifaaGreatDoorWirea
import Derived.Lib.TrimByte
namespace Go.Proofs.YthokhncdpfaifaaGreatDoor
open Go.RowKit
def hexB (c : UInt8) : Bool := digB c || (decide (97 ≤ c.toNat) && decide (c.toNat ≤ 102))
def kOk (k : Int) (c : UInt8) : Bool := if k = 1 then digB c else if k = 2 then prB c else hexB c
/-- The bytes are of the kind, and a text neither begins nor ends with a space. -/
def kindB (k : Int) (s : ByteArray) : Bool := allS (kOk k) s && (decide (k ≠ 2) || decide (Lib.trimB s.data.toList 32 = s.data.toList))
theorem kind_bad (k : Int) (s : ByteArray) (j : Nat) (h : j < s.size) (hc : kOk k s[j] = false) : kindB k s = false := by
  unfold kindB allS; rw [all_of_badP (kOk k) s j h hc]; rfl
theorem kind_end (k : Int) (s : ByteArray) (j : Nat) (hj : ¬ j < s.size) (h : (s.data.toList.take j).all (kOk k) = true) : kindB k s = (decide (k ≠ 2) || decide (Lib.trimB s.data.toList 32 = s.data.toList)) := by
  have hk' : s.data.toList.take j = s.data.toList := List.take_of_length_le (by simp; omega)
  rw [hk'] at h
  unfold kindB allS; rw [h]; rfl
theorem trim_eq (s : ByteArray) : (Lib.trimB s.data.toList 32 == s.toList) = (decide ((2 : Int) ≠ 2) || decide (Lib.trimB s.data.toList 32 = s.data.toList)) := by
  rw [ByteArray.toList_eq, Bool.eq_iff_iff]; simp
def KindPost (b : Bool) (w : World) (e : Ending) (w' : World) : Prop := e = .returned (.bool b) ∧ Ext w w'
theorem ret_b {a b : Bool} {v : Value} (hv : v = .bool a) (h : a = b) : Ending.returned v = .returned (.bool b) := by rw [hv, h]


set_option maxRecDepth 8000 in
set_option maxHeartbeats 1000000 in
theorem isOfKind_1 (s : ByteArray) (w : World) (hs : s.size ≤ 1000000) :
    Calls Tryz.prog 83 #[.int .i64 1, .string s] w (KindPost (kindB 1 s) w) := by
  go_enter Tryz.func83, Tryz.ntmps83
  go_wp2
  go_loop [11] (fun i => ∃ j : Nat, j ≤ s.size ∧ i = .int .i64 j ∧ (s.data.toList.take j).all (kOk 1) = true) (fun i => s.size - (intOf i).toNat)
  case atStart => exact ⟨0, Nat.zero_le _, rfl, rfl⟩
  case round =>
    obtain ⟨j, hj, rfl, hall⟩ := hrel
    have hH := Lib.hid hall
    clear hall
    by_cases hlt : j < s.size
    · skip
      have hc := s[j].toNat_lt
      rcases (show (0 ≤ s[j].toNat ∧ s[j].toNat ≤ 47) ∨ (48 ≤ s[j].toNat ∧ s[j].toNat ≤ 57) ∨ (58 ≤ s[j].toNat ∧ s[j].toNat ≤ 255) by omega) with ⟨q1, q2⟩ | ⟨q1, q2⟩ | ⟨q1, q2⟩
      · skip
        have t0 : decide (48 ≤ (s[j].toNat : Int)) = false := by simp; omega
        have t1 : decide ((s[j].toNat : Int) ≤ 57) = true := by simp; omega
        have hbad := Lib.hid (kind_bad 1 s j hlt (by unfold kOk hexB digB prB; simp; omega))
        go_wp2
        go_ret
        exact ⟨ret_b rfl hbad.out.symm, Ext.refl w⟩
      · skip
        have t0 : decide (48 ≤ (s[j].toNat : Int)) = true := by simp; omega
        have t1 : decide ((s[j].toNat : Int) ≤ 57) = true := by simp; omega
        have hok : kOk 1 s[j] = true := by unfold kOk hexB digB prB; simp; omega
        have hO := Lib.hid hok
        clear hok
        go_wp2
        go_round
        case rel => exact ⟨j + 1, by omega, by go_num, by rw [all_take_snocP (kOk 1) s j hlt, hH.out, hO.out]; rfl⟩
        case measure => simp [intOf]; omega
      · skip
        have t0 : decide (48 ≤ (s[j].toNat : Int)) = true := by simp; omega
        have t1 : decide ((s[j].toNat : Int) ≤ 57) = false := by simp; omega
        have hbad := Lib.hid (kind_bad 1 s j hlt (by unfold kOk hexB digB prB; simp; omega))
        go_wp2
        go_ret
        exact ⟨ret_b rfl hbad.out.symm, Ext.refl w⟩
    · have hend := Lib.hid (kind_end 1 s j hlt hH.out)
      go_wp2
      go_ret
      exact ⟨ret_b rfl (by rw [hend.out]; rfl), Ext.refl w⟩

set_option maxRecDepth 8000 in
set_option maxHeartbeats 1000000 in
theorem isOfKind_2 (s : ByteArray) (w : World) (hs : s.size ≤ 1000000) :
    Calls Tryz.prog 83 #[.int .i64 2, .string s] w (KindPost (kindB 2 s) w) := by
  go_enter Tryz.func83, Tryz.ntmps83
  go_wp2
  go_loop [11] (fun i => ∃ j : Nat, j ≤ s.size ∧ i = .int .i64 j ∧ (s.data.toList.take j).all (kOk 2) = true) (fun i => s.size - (intOf i).toNat)
  case atStart => exact ⟨0, Nat.zero_le _, rfl, rfl⟩
  case round =>
    obtain ⟨j, hj, rfl, hall⟩ := hrel
    have hH := Lib.hid hall
    clear hall
    by_cases hlt : j < s.size
    · skip
      have hc := s[j].toNat_lt
      rcases (show (0 ≤ s[j].toNat ∧ s[j].toNat ≤ 31) ∨ (32 ≤ s[j].toNat ∧ s[j].toNat ≤ 47) ∨ (48 ≤ s[j].toNat ∧ s[j].toNat ≤ 57) ∨ (58 ≤ s[j].toNat ∧ s[j].toNat ≤ 126) ∨ (127 ≤ s[j].toNat ∧ s[j].toNat ≤ 255) by omega) with ⟨q1, q2⟩ | ⟨q1, q2⟩ | ⟨q1, q2⟩ | ⟨q1, q2⟩ | ⟨q1, q2⟩
      · skip
        have t0 : decide (48 ≤ (s[j].toNat : Int)) = false := by simp; omega
        have t1 : decide ((s[j].toNat : Int) ≤ 57) = true := by simp; omega
        have t2 : decide (32 ≤ (s[j].toNat : Int)) = false := by simp; omega
        have t3 : decide ((s[j].toNat : Int) ≤ 126) = true := by simp; omega
        have hbad := Lib.hid (kind_bad 2 s j hlt (by unfold kOk hexB digB prB; simp; omega))
        go_wp2
        go_ret
        exact ⟨ret_b rfl hbad.out.symm, Ext.refl w⟩
      · skip
        have t0 : decide (48 ≤ (s[j].toNat : Int)) = false := by simp; omega
        have t1 : decide ((s[j].toNat : Int) ≤ 57) = true := by simp; omega
        have t2 : decide (32 ≤ (s[j].toNat : Int)) = true := by simp; omega
        have t3 : decide ((s[j].toNat : Int) ≤ 126) = true := by simp; omega
        have hok : kOk 2 s[j] = true := by unfold kOk hexB digB prB; simp; omega
        have hO := Lib.hid hok
        clear hok
        go_wp2
        go_round
        case rel => exact ⟨j + 1, by omega, by go_num, by rw [all_take_snocP (kOk 2) s j hlt, hH.out, hO.out]; rfl⟩
        case measure => simp [intOf]; omega
      · skip
        have t0 : decide (48 ≤ (s[j].toNat : Int)) = true := by simp; omega
        have t1 : decide ((s[j].toNat : Int) ≤ 57) = true := by simp; omega
        have t2 : decide (32 ≤ (s[j].toNat : Int)) = true := by simp; omega
        have t3 : decide ((s[j].toNat : Int) ≤ 126) = true := by simp; omega
        have hok : kOk 2 s[j] = true := by unfold kOk hexB digB prB; simp; omega
        have hO := Lib.hid hok
        clear hok
        go_wp2
        go_round
        case rel => exact ⟨j + 1, by omega, by go_num, by rw [all_take_snocP (kOk 2) s j hlt, hH.out, hO.out]; rfl⟩
        case measure => simp [intOf]; omega
      · skip
        have t0 : decide (48 ≤ (s[j].toNat : Int)) = true := by simp; omega
        have t1 : decide ((s[j].toNat : Int) ≤ 57) = false := by simp; omega
        have t2 : decide (32 ≤ (s[j].toNat : Int)) = true := by simp; omega
        have t3 : decide ((s[j].toNat : Int) ≤ 126) = true := by simp; omega
        have hok : kOk 2 s[j] = true := by unfold kOk hexB digB prB; simp; omega
        have hO := Lib.hid hok
        clear hok
        go_wp2
        go_round
        case rel => exact ⟨j + 1, by omega, by go_num, by rw [all_take_snocP (kOk 2) s j hlt, hH.out, hO.out]; rfl⟩
        case measure => simp [intOf]; omega
      · skip
        have t0 : decide (48 ≤ (s[j].toNat : Int)) = true := by simp; omega
        have t1 : decide ((s[j].toNat : Int) ≤ 57) = false := by simp; omega
        have t2 : decide (32 ≤ (s[j].toNat : Int)) = true := by simp; omega
        have t3 : decide ((s[j].toNat : Int) ≤ 126) = false := by simp; omega
        have hbad := Lib.hid (kind_bad 2 s j hlt (by unfold kOk hexB digB prB; simp; omega))
        go_wp2
        go_ret
        exact ⟨ret_b rfl hbad.out.symm, Ext.refl w⟩
    · have hend := Lib.hid (kind_end 2 s j hlt hH.out)
      go_wp2_with fail
      refine (Tryz.strings_Trim_one s 32 (by decide) w (by omega)).mono ?_
      rintro e w1 ⟨rfl, hw⟩
      have hE : Ext w w1 := by rcases hw with rfl | rfl; exact Ext.refl _; exact (Ext.refl _).drew
      clear hw
      go_wp2
      go_ret
      refine ⟨ret_b rfl ?_, hE⟩
      rw [hend.out]; exact trim_eq s

set_option maxRecDepth 8000 in
set_option maxHeartbeats 1000000 in
theorem isOfKind_3 (s : ByteArray) (w : World) (hs : s.size ≤ 1000000) :
    Calls Tryz.prog 83 #[.int .i64 3, .string s] w (KindPost (kindB 3 s) w) := by
  go_enter Tryz.func83, Tryz.ntmps83
  go_wp2
  go_loop [11] (fun i => ∃ j : Nat, j ≤ s.size ∧ i = .int .i64 j ∧ (s.data.toList.take j).all (kOk 3) = true) (fun i => s.size - (intOf i).toNat)
  case atStart => exact ⟨0, Nat.zero_le _, rfl, rfl⟩
  case round =>
    obtain ⟨j, hj, rfl, hall⟩ := hrel
    have hH := Lib.hid hall
    clear hall
    by_cases hlt : j < s.size
    · skip
      have hc := s[j].toNat_lt
      rcases (show (0 ≤ s[j].toNat ∧ s[j].toNat ≤ 47) ∨ (48 ≤ s[j].toNat ∧ s[j].toNat ≤ 57) ∨ (58 ≤ s[j].toNat ∧ s[j].toNat ≤ 96) ∨ (97 ≤ s[j].toNat ∧ s[j].toNat ≤ 102) ∨ (103 ≤ s[j].toNat ∧ s[j].toNat ≤ 255) by omega) with ⟨q1, q2⟩ | ⟨q1, q2⟩ | ⟨q1, q2⟩ | ⟨q1, q2⟩ | ⟨q1, q2⟩
      · skip
        have t0 : decide (48 ≤ (s[j].toNat : Int)) = false := by simp; omega
        have t1 : decide ((s[j].toNat : Int) ≤ 57) = true := by simp; omega
        have t2 : decide (97 ≤ (s[j].toNat : Int)) = false := by simp; omega
        have t3 : decide ((s[j].toNat : Int) ≤ 102) = true := by simp; omega
        have hbad := Lib.hid (kind_bad 3 s j hlt (by unfold kOk hexB digB prB; simp; omega))
        go_wp2
        go_ret
        exact ⟨ret_b rfl hbad.out.symm, Ext.refl w⟩
      · skip
        have t0 : decide (48 ≤ (s[j].toNat : Int)) = true := by simp; omega
        have t1 : decide ((s[j].toNat : Int) ≤ 57) = true := by simp; omega
        have t2 : decide (97 ≤ (s[j].toNat : Int)) = false := by simp; omega
        have t3 : decide ((s[j].toNat : Int) ≤ 102) = true := by simp; omega
        have hok : kOk 3 s[j] = true := by unfold kOk hexB digB prB; simp; omega
        have hO := Lib.hid hok
        clear hok
        go_wp2
        go_round
        case rel => exact ⟨j + 1, by omega, by go_num, by rw [all_take_snocP (kOk 3) s j hlt, hH.out, hO.out]; rfl⟩
        case measure => simp [intOf]; omega
      · skip
        have t0 : decide (48 ≤ (s[j].toNat : Int)) = true := by simp; omega
        have t1 : decide ((s[j].toNat : Int) ≤ 57) = false := by simp; omega
        have t2 : decide (97 ≤ (s[j].toNat : Int)) = false := by simp; omega
        have t3 : decide ((s[j].toNat : Int) ≤ 102) = true := by simp; omega
        have hbad := Lib.hid (kind_bad 3 s j hlt (by unfold kOk hexB digB prB; simp; omega))
        go_wp2
        go_ret
        exact ⟨ret_b rfl hbad.out.symm, Ext.refl w⟩
      · skip
        have t0 : decide (48 ≤ (s[j].toNat : Int)) = true := by simp; omega
        have t1 : decide ((s[j].toNat : Int) ≤ 57) = false := by simp; omega
        have t2 : decide (97 ≤ (s[j].toNat : Int)) = true := by simp; omega
        have t3 : decide ((s[j].toNat : Int) ≤ 102) = true := by simp; omega
        have hok : kOk 3 s[j] = true := by unfold kOk hexB digB prB; simp; omega
        have hO := Lib.hid hok
        clear hok
        go_wp2
        go_round
        case rel => exact ⟨j + 1, by omega, by go_num, by rw [all_take_snocP (kOk 3) s j hlt, hH.out, hO.out]; rfl⟩
        case measure => simp [intOf]; omega
      · skip
        have t0 : decide (48 ≤ (s[j].toNat : Int)) = true := by simp; omega
        have t1 : decide ((s[j].toNat : Int) ≤ 57) = false := by simp; omega
        have t2 : decide (97 ≤ (s[j].toNat : Int)) = true := by simp; omega
        have t3 : decide ((s[j].toNat : Int) ≤ 102) = false := by simp; omega
        have hbad := Lib.hid (kind_bad 3 s j hlt (by unfold kOk hexB digB prB; simp; omega))
        go_wp2
        go_ret
        exact ⟨ret_b rfl hbad.out.symm, Ext.refl w⟩
    · have hend := Lib.hid (kind_end 3 s j hlt hH.out)
      go_wp2
      go_ret
      exact ⟨ret_b rfl (by rw [hend.out]; rfl), Ext.refl w⟩

theorem dw_self_iff (l : List UInt8) (c : UInt8) (x : UInt8) (t : List UInt8) (h : l = x :: t) : l.dropWhile (· == c) = l ↔ x ≠ c := by
  subst h
  rw [List.dropWhile_cons]
  by_cases e : x = c
  · simp only [e, beq_self_eq_true, if_true, ne_eq, not_true, iff_false]
    intro h
    have := congrArg List.length h
    have h2 := (List.dropWhile_sublist (l := t) (· == c)).length_le
    simp at this; omega
  · simp [e]
theorem trim_self (l : List UInt8) (c : UInt8) (hl : l ≠ []) : Lib.trimB l c = l ↔ l.head hl ≠ c ∧ l.getLast hl ≠ c := by
  have hr : Lib.trimRightB l c = l ↔ l.getLast hl ≠ c := by
    unfold Lib.trimRightB
    rw [List.reverse_eq_iff, dw_self_iff l.reverse c (l.getLast hl) l.reverse.tail ?_]
    rw [← List.head_reverse (by simpa using hl), List.cons_head_tail]
  have hll : ∀ m : List UInt8, (Lib.trimLeftB m c).length ≤ m.length := fun m => (List.dropWhile_sublist _).length_le
  have hrl : (Lib.trimRightB l c).length ≤ l.length := by
    have := (List.dropWhile_sublist (l := l.reverse) (· == c)).length_le; simpa [Lib.trimRightB] using this
  unfold Lib.trimB
  constructor
  · intro h
    have h1 : (Lib.trimRightB l c).length = l.length := by have := congrArg List.length h; have := hll (Lib.trimRightB l c); omega
    have h2 : Lib.trimRightB l c = l := by
      have hs : (l.reverse.dropWhile (· == c)).Sublist l.reverse := List.dropWhile_sublist _
      have := hs.eq_of_length (by have := h1; simp [Lib.trimRightB] at this; simpa using this)
      unfold Lib.trimRightB; rw [this]; simp
    rw [h2] at h
    refine ⟨(dw_self_iff l c (l.head hl) l.tail (List.cons_head_tail hl).symm).1 h, hr.1 h2⟩
  · rintro ⟨h1, h2⟩
    rw [hr.2 h2]
    exact (dw_self_iff l c (l.head hl) l.tail (List.cons_head_tail hl).symm).2 h1
theorem ends_of (s : ByteArray) (h : 0 < s.size) : (Lib.trimB s.data.toList 32 = s.data.toList) ↔ (s[0] ≠ 32 ∧ s[s.size - 1] ≠ 32) := by
  have hne : s.data.toList ≠ [] := by
    intro e
    have h2 : s.data.toList.length = 0 := by rw [e]; rfl
    rw [Array.length_toList] at h2
    have h3 : s.size = s.data.size := rfl
    omega
  rw [trim_self _ _ hne]
  have e1 : s.data.toList.head hne = s[0] := by rw [List.head_eq_getElem]; rfl
  have e2 : s.data.toList.getLast hne = s[s.size - 1] := by rw [List.getLast_eq_getElem]; rfl
  rw [e1, e2]
theorem byte_ne (b c : UInt8) : ((b.toNat : Int) != (c.toNat : Int)) = decide (b ≠ c) := by
  rw [Bool.eq_iff_iff]
  simp
  constructor
  · intro h e; exact h (by rw [e])
  · intro h e; exact h (UInt8.toNat_inj.1 (by omega))

set_option maxRecDepth 8000 in
set_option maxHeartbeats 1000000 in
theorem rKind_1 (s : ByteArray) (w : World) (h0 : 0 < s.size) (hs : s.size ≤ 1000000) :
    Calls Tryz.prog 84 #[.int .i64 1, .string s] w (KindPost (kindB 1 s) w) := by
  go_enter Tryz.func84, Tryz.ntmps84
  go_wp2
  go_loop [5] (fun i => ∃ j : Nat, j ≤ s.size ∧ i = .int .i64 j ∧ (s.data.toList.take j).all (kOk 1) = true) (fun i => s.size - (intOf i).toNat)
  case atStart => exact ⟨0, Nat.zero_le _, rfl, rfl⟩
  case round =>
    obtain ⟨j, hj, rfl, hall⟩ := hrel
    have hH := Lib.hid hall
    clear hall
    by_cases hlt : j < s.size
    · skip
      have hc := s[j].toNat_lt
      rcases (show (0 ≤ s[j].toNat ∧ s[j].toNat ≤ 47) ∨ (48 ≤ s[j].toNat ∧ s[j].toNat ≤ 57) ∨ (58 ≤ s[j].toNat ∧ s[j].toNat ≤ 255) by omega) with ⟨q1, q2⟩ | ⟨q1, q2⟩ | ⟨q1, q2⟩
      · skip
        have t0 : decide (48 ≤ (s[j].toNat : Int)) = false := by simp; omega
        have t1 : decide ((s[j].toNat : Int) ≤ 57) = true := by simp; omega
        have hbad := Lib.hid (kind_bad 1 s j hlt (by unfold kOk hexB digB prB; simp; omega))
        go_wp2
        go_ret
        exact ⟨ret_b rfl hbad.out.symm, Ext.refl w⟩
      · skip
        have t0 : decide (48 ≤ (s[j].toNat : Int)) = true := by simp; omega
        have t1 : decide ((s[j].toNat : Int) ≤ 57) = true := by simp; omega
        have hok : kOk 1 s[j] = true := by unfold kOk hexB digB prB; simp; omega
        have hO := Lib.hid hok
        clear hok
        go_wp2
        go_round
        case rel => exact ⟨j + 1, by omega, by go_num, by rw [all_take_snocP (kOk 1) s j hlt, hH.out, hO.out]; rfl⟩
        case measure => simp [intOf]; omega
      · skip
        have t0 : decide (48 ≤ (s[j].toNat : Int)) = true := by simp; omega
        have t1 : decide ((s[j].toNat : Int) ≤ 57) = false := by simp; omega
        have hbad := Lib.hid (kind_bad 1 s j hlt (by unfold kOk hexB digB prB; simp; omega))
        go_wp2
        go_ret
        exact ⟨ret_b rfl hbad.out.symm, Ext.refl w⟩
    · have hend := Lib.hid (kind_end 1 s j hlt hH.out)
      go_wp2
      go_ret
      exact ⟨ret_b rfl (by rw [hend.out]; rfl), Ext.refl w⟩

set_option maxRecDepth 8000 in
set_option maxHeartbeats 1000000 in
theorem rKind_2 (s : ByteArray) (w : World) (h0 : 0 < s.size) (hs : s.size ≤ 1000000) :
    Calls Tryz.prog 84 #[.int .i64 2, .string s] w (KindPost (kindB 2 s) w) := by
  go_enter Tryz.func84, Tryz.ntmps84
  go_wp2
  go_loop [5] (fun i => ∃ j : Nat, j ≤ s.size ∧ i = .int .i64 j ∧ (s.data.toList.take j).all (kOk 2) = true) (fun i => s.size - (intOf i).toNat)
  case atStart => exact ⟨0, Nat.zero_le _, rfl, rfl⟩
  case round =>
    obtain ⟨j, hj, rfl, hall⟩ := hrel
    have hH := Lib.hid hall
    clear hall
    by_cases hlt : j < s.size
    · skip
      have hc := s[j].toNat_lt
      rcases (show (0 ≤ s[j].toNat ∧ s[j].toNat ≤ 31) ∨ (32 ≤ s[j].toNat ∧ s[j].toNat ≤ 47) ∨ (48 ≤ s[j].toNat ∧ s[j].toNat ≤ 57) ∨ (58 ≤ s[j].toNat ∧ s[j].toNat ≤ 126) ∨ (127 ≤ s[j].toNat ∧ s[j].toNat ≤ 255) by omega) with ⟨q1, q2⟩ | ⟨q1, q2⟩ | ⟨q1, q2⟩ | ⟨q1, q2⟩ | ⟨q1, q2⟩
      · skip
        have t0 : decide ((s[j].toNat : Int) < 32) = true := by simp; omega
        have t1 : decide (126 < (s[j].toNat : Int)) = false := by simp; omega
        have hbad := Lib.hid (kind_bad 2 s j hlt (by unfold kOk hexB digB prB; simp; omega))
        go_wp2
        go_ret
        exact ⟨ret_b rfl hbad.out.symm, Ext.refl w⟩
      · skip
        have t0 : decide ((s[j].toNat : Int) < 32) = false := by simp; omega
        have t1 : decide (126 < (s[j].toNat : Int)) = false := by simp; omega
        have hok : kOk 2 s[j] = true := by unfold kOk hexB digB prB; simp; omega
        have hO := Lib.hid hok
        clear hok
        go_wp2
        go_round
        case rel => exact ⟨j + 1, by omega, by go_num, by rw [all_take_snocP (kOk 2) s j hlt, hH.out, hO.out]; rfl⟩
        case measure => simp [intOf]; omega
      · skip
        have t0 : decide ((s[j].toNat : Int) < 32) = false := by simp; omega
        have t1 : decide (126 < (s[j].toNat : Int)) = false := by simp; omega
        have hok : kOk 2 s[j] = true := by unfold kOk hexB digB prB; simp; omega
        have hO := Lib.hid hok
        clear hok
        go_wp2
        go_round
        case rel => exact ⟨j + 1, by omega, by go_num, by rw [all_take_snocP (kOk 2) s j hlt, hH.out, hO.out]; rfl⟩
        case measure => simp [intOf]; omega
      · skip
        have t0 : decide ((s[j].toNat : Int) < 32) = false := by simp; omega
        have t1 : decide (126 < (s[j].toNat : Int)) = false := by simp; omega
        have hok : kOk 2 s[j] = true := by unfold kOk hexB digB prB; simp; omega
        have hO := Lib.hid hok
        clear hok
        go_wp2
        go_round
        case rel => exact ⟨j + 1, by omega, by go_num, by rw [all_take_snocP (kOk 2) s j hlt, hH.out, hO.out]; rfl⟩
        case measure => simp [intOf]; omega
      · skip
        have t0 : decide ((s[j].toNat : Int) < 32) = false := by simp; omega
        have t1 : decide (126 < (s[j].toNat : Int)) = true := by simp; omega
        have hbad := Lib.hid (kind_bad 2 s j hlt (by unfold kOk hexB digB prB; simp; omega))
        go_wp2
        go_ret
        exact ⟨ret_b rfl hbad.out.symm, Ext.refl w⟩
    · have hend := Lib.hid (kind_end 2 s j hlt hH.out)
      have he := Lib.hid (ends_of s h0)
      have b1 := byte_ne s[0] 32
      have b2 := byte_ne s[s.size - 1] 32
      rw [show (((32 : UInt8).toNat : Nat) : Int) = 32 from rfl] at b1 b2
      by_cases e1 : s[0] = 32
      · have c1 : ((s[0].toNat : Int) != 32) = false := by rw [b1]; simp [e1]
        have hE1 := Lib.hid e1
        clear e1 b1 b2
        go_wp2
        go_ret
        refine ⟨ret_b rfl ?_, Ext.refl w⟩
        rw [hend.out]; symm
        have : ¬ (Lib.trimB s.data.toList 32 = s.data.toList) := fun h => (he.out.1 h).1 hE1.out
        simp [this]
      · have c1 : ((s[0].toNat : Int) != 32) = true := by rw [b1]; simp [e1]
        have hE1 := Lib.hid e1
        have hB2 := Lib.hid b2
        clear e1 b1 b2
        go_wp2
        go_ret
        refine ⟨ret_b rfl ?_, Ext.refl w⟩
        rw [hend.out, hB2.out]
        by_cases e2 : s[s.size - 1] = 32
        · have : ¬ (Lib.trimB s.data.toList 32 = s.data.toList) := fun h => (he.out.1 h).2 e2
          simp [this, e2]
        · have : Lib.trimB s.data.toList 32 = s.data.toList := he.out.2 ⟨hE1.out, e2⟩
          simp [this, e2]

set_option maxRecDepth 8000 in
set_option maxHeartbeats 1000000 in
theorem rKind_3 (s : ByteArray) (w : World) (h0 : 0 < s.size) (hs : s.size ≤ 1000000) :
    Calls Tryz.prog 84 #[.int .i64 3, .string s] w (KindPost (kindB 3 s) w) := by
  go_enter Tryz.func84, Tryz.ntmps84
  go_wp2
  go_loop [5] (fun i => ∃ j : Nat, j ≤ s.size ∧ i = .int .i64 j ∧ (s.data.toList.take j).all (kOk 3) = true) (fun i => s.size - (intOf i).toNat)
  case atStart => exact ⟨0, Nat.zero_le _, rfl, rfl⟩
  case round =>
    obtain ⟨j, hj, rfl, hall⟩ := hrel
    have hH := Lib.hid hall
    clear hall
    by_cases hlt : j < s.size
    · skip
      have hc := s[j].toNat_lt
      rcases (show (0 ≤ s[j].toNat ∧ s[j].toNat ≤ 47) ∨ (48 ≤ s[j].toNat ∧ s[j].toNat ≤ 57) ∨ (58 ≤ s[j].toNat ∧ s[j].toNat ≤ 96) ∨ (97 ≤ s[j].toNat ∧ s[j].toNat ≤ 102) ∨ (103 ≤ s[j].toNat ∧ s[j].toNat ≤ 255) by omega) with ⟨q1, q2⟩ | ⟨q1, q2⟩ | ⟨q1, q2⟩ | ⟨q1, q2⟩ | ⟨q1, q2⟩
      · skip
        have t0 : decide (48 ≤ (s[j].toNat : Int)) = false := by simp; omega
        have t1 : decide ((s[j].toNat : Int) ≤ 57) = true := by simp; omega
        have t2 : decide ((s[j].toNat : Int) < 97) = true := by simp; omega
        have t3 : decide (102 < (s[j].toNat : Int)) = false := by simp; omega
        have hbad := Lib.hid (kind_bad 3 s j hlt (by unfold kOk hexB digB prB; simp; omega))
        go_wp2
        go_ret
        exact ⟨ret_b rfl hbad.out.symm, Ext.refl w⟩
      · skip
        have t0 : decide (48 ≤ (s[j].toNat : Int)) = true := by simp; omega
        have t1 : decide ((s[j].toNat : Int) ≤ 57) = true := by simp; omega
        have t2 : decide ((s[j].toNat : Int) < 97) = true := by simp; omega
        have t3 : decide (102 < (s[j].toNat : Int)) = false := by simp; omega
        have hok : kOk 3 s[j] = true := by unfold kOk hexB digB prB; simp; omega
        have hO := Lib.hid hok
        clear hok
        go_wp2
        go_round
        case rel => exact ⟨j + 1, by omega, by go_num, by rw [all_take_snocP (kOk 3) s j hlt, hH.out, hO.out]; rfl⟩
        case measure => simp [intOf]; omega
      · skip
        have t0 : decide (48 ≤ (s[j].toNat : Int)) = true := by simp; omega
        have t1 : decide ((s[j].toNat : Int) ≤ 57) = false := by simp; omega
        have t2 : decide ((s[j].toNat : Int) < 97) = true := by simp; omega
        have t3 : decide (102 < (s[j].toNat : Int)) = false := by simp; omega
        have hbad := Lib.hid (kind_bad 3 s j hlt (by unfold kOk hexB digB prB; simp; omega))
        go_wp2
        go_ret
        exact ⟨ret_b rfl hbad.out.symm, Ext.refl w⟩
      · skip
        have t0 : decide (48 ≤ (s[j].toNat : Int)) = true := by simp; omega
        have t1 : decide ((s[j].toNat : Int) ≤ 57) = false := by simp; omega
        have t2 : decide ((s[j].toNat : Int) < 97) = false := by simp; omega
        have t3 : decide (102 < (s[j].toNat : Int)) = false := by simp; omega
        have hok : kOk 3 s[j] = true := by unfold kOk hexB digB prB; simp; omega
        have hO := Lib.hid hok
        clear hok
        go_wp2
        go_round
        case rel => exact ⟨j + 1, by omega, by go_num, by rw [all_take_snocP (kOk 3) s j hlt, hH.out, hO.out]; rfl⟩
        case measure => simp [intOf]; omega
      · skip
        have t0 : decide (48 ≤ (s[j].toNat : Int)) = true := by simp; omega
        have t1 : decide ((s[j].toNat : Int) ≤ 57) = false := by simp; omega
        have t2 : decide ((s[j].toNat : Int) < 97) = false := by simp; omega
        have t3 : decide (102 < (s[j].toNat : Int)) = true := by simp; omega
        have hbad := Lib.hid (kind_bad 3 s j hlt (by unfold kOk hexB digB prB; simp; omega))
        go_wp2
        go_ret
        exact ⟨ret_b rfl hbad.out.symm, Ext.refl w⟩
    · have hend := Lib.hid (kind_end 3 s j hlt hH.out)
      go_wp2
      go_ret
      exact ⟨ret_b rfl (by rw [hend.out]; rfl), Ext.refl w⟩
end Go.Proofs.YthokhncdpfaifaaGreatDoor
