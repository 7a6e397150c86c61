/- Contracts of record's isIdentification, of pan's areDigits, sum, Luhn, Check and of money's isCurrency, Check (walks; printed by gen/h1.py). -/
import Derived.Test.YtmnhmkjmcckneaaGreatDoorG1
namespace Go.Proofs.YtmnhmkjmcckneaaGreatDoor
open Go.RowKit
theorem idS_no {s : ByteArray} (h : ¬ (1 ≤ s.size ∧ s.size ≤ 16)) : idS s = false := by unfold idS; rw [decide_eq_false h]; rfl
theorem idS_all {s : ByteArray} (h : 1 ≤ s.size ∧ s.size ≤ 16) : idS s = s.data.toList.all idC := by unfold idS; rw [decide_eq_true h]; rfl
set_option maxRecDepth 8000 in
set_option maxHeartbeats 4000000 in
theorem isIdent_any (s : ByteArray) (w : World) : Calls Tryz.prog 80 #[.string s] w (OneW (.bool (idS s)) w) := by
 by_cases hz : 1 ≤ s.size ∧ s.size ≤ 16
 · obtain ⟨R, hR⟩ : ∃ R, R = idS s := ⟨_, rfl⟩
   rw [← hR]
   rw [idS_all hz] at hR
   obtain ⟨hz1, hz2⟩ := hz
   have hbad := Lib.hid (fun h : s.data.toList.all idC = false => hR.trans h)
   have hgood := Lib.hid (fun h : s.data.toList.all idC = true => hR.trans h)
   have g1 : decide ((s.size : Int) < 1) = false := by simp; omega
   have g2 : decide (16 < (s.size : Int)) = false := by simp; omega
   clear hR
   go_enter Tryz.func80, Tryz.ntmps80
   go_wp2_with fail
   go_loopw [15] (fun i wr => ∃ k : Nat, k ≤ s.size ∧ i = .int .i64 k ∧ (s.data.toList.take k).all idC = true ∧ Ext w wr) (fun i _ => s.size - (intOf i).toNat)
   case atStart => exact ⟨0, Nat.zero_le _, rfl, by simp, Ext.refl _⟩
   case round =>
    obtain ⟨k, hk, rfl, hall, hE⟩ := hrel
    by_cases hlt : k < s.size
    · have hst := all_takeB idC s k hlt
      rw [hall, Bool.true_and] at hst
      have hb := all_badB idC s k hlt
      have hic := idC_iff s[k]
      have hc256 := s[k].toNat_lt
      replace hst := Lib.hid hst
      replace hb := Lib.hid hb
      replace hall := Lib.hid hall
      have hiv : (0 ≤ s[k].toNat ∧ s[k].toNat ≤ 44) ∨ (45 ≤ s[k].toNat ∧ s[k].toNat ≤ 45) ∨ (46 ≤ s[k].toNat ∧ s[k].toNat ≤ 47) ∨ (48 ≤ s[k].toNat ∧ s[k].toNat ≤ 57) ∨ (58 ≤ s[k].toNat ∧ s[k].toNat ≤ 64) ∨ (65 ≤ s[k].toNat ∧ s[k].toNat ≤ 90) ∨ (91 ≤ s[k].toNat ∧ s[k].toNat ≤ 94) ∨ (95 ≤ s[k].toNat ∧ s[k].toNat ≤ 95) ∨ (96 ≤ s[k].toNat ∧ s[k].toNat ≤ 96) ∨ (97 ≤ s[k].toNat ∧ s[k].toNat ≤ 122) ∨ (123 ≤ s[k].toNat ∧ s[k].toNat ≤ 255) := by omega
      rcases hiv with hiv | hiv | hiv | hiv | hiv | hiv | hiv | hiv | hiv | hiv | hiv
      · obtain ⟨hlo, hhi⟩ := hiv
        have f0 : decide ((97 : Int) ≤ (s[k].toNat : Int)) = false := decide_eq_false (by omega)
        have f1 : decide ((s[k].toNat : Int) ≤ 122) = true := decide_eq_true (by omega)
        have f2 : decide ((65 : Int) ≤ (s[k].toNat : Int)) = false := decide_eq_false (by omega)
        have f3 : decide ((s[k].toNat : Int) ≤ 90) = true := decide_eq_true (by omega)
        have f4 : decide ((48 : Int) ≤ (s[k].toNat : Int)) = false := decide_eq_false (by omega)
        have f5 : decide ((s[k].toNat : Int) ≤ 57) = true := decide_eq_true (by omega)
        have f6 : ((s[k].toNat : Int) == 95) = false := by simp; omega
        have f7 : ((s[k].toNat : Int) == 45) = false := by simp; omega
        have hR := Lib.hid (hbad.out (hb.out (by cases hc : idC s[k] with | false => rfl | true => (have := hic.1 hc; omega))))
        clear hic
        go_wp2
        go_ret
        exact ⟨by rw [hR.out]; rfl, hE⟩
      · obtain ⟨hlo, hhi⟩ := hiv
        have f0 : decide ((97 : Int) ≤ (s[k].toNat : Int)) = false := decide_eq_false (by omega)
        have f1 : decide ((s[k].toNat : Int) ≤ 122) = true := decide_eq_true (by omega)
        have f2 : decide ((65 : Int) ≤ (s[k].toNat : Int)) = false := decide_eq_false (by omega)
        have f3 : decide ((s[k].toNat : Int) ≤ 90) = true := decide_eq_true (by omega)
        have f4 : decide ((48 : Int) ≤ (s[k].toNat : Int)) = false := decide_eq_false (by omega)
        have f5 : decide ((s[k].toNat : Int) ≤ 57) = true := decide_eq_true (by omega)
        have f6 : ((s[k].toNat : Int) == 95) = false := by simp; omega
        have f7 : ((s[k].toNat : Int) == 45) = true := by simp; omega
        have hg := Lib.hid (hic.2 (by omega))
        clear hic
        go_wp2
        go_roundw
        case rel => exact ⟨k + 1, by omega, by go_num, by rw [hst.out, hg.out], hE⟩
        case measure => simp [intOf]; omega
      · obtain ⟨hlo, hhi⟩ := hiv
        have f0 : decide ((97 : Int) ≤ (s[k].toNat : Int)) = false := decide_eq_false (by omega)
        have f1 : decide ((s[k].toNat : Int) ≤ 122) = true := decide_eq_true (by omega)
        have f2 : decide ((65 : Int) ≤ (s[k].toNat : Int)) = false := decide_eq_false (by omega)
        have f3 : decide ((s[k].toNat : Int) ≤ 90) = true := decide_eq_true (by omega)
        have f4 : decide ((48 : Int) ≤ (s[k].toNat : Int)) = false := decide_eq_false (by omega)
        have f5 : decide ((s[k].toNat : Int) ≤ 57) = true := decide_eq_true (by omega)
        have f6 : ((s[k].toNat : Int) == 95) = false := by simp; omega
        have f7 : ((s[k].toNat : Int) == 45) = false := by simp; omega
        have hR := Lib.hid (hbad.out (hb.out (by cases hc : idC s[k] with | false => rfl | true => (have := hic.1 hc; omega))))
        clear hic
        go_wp2
        go_ret
        exact ⟨by rw [hR.out]; rfl, hE⟩
      · obtain ⟨hlo, hhi⟩ := hiv
        have f0 : decide ((97 : Int) ≤ (s[k].toNat : Int)) = false := decide_eq_false (by omega)
        have f1 : decide ((s[k].toNat : Int) ≤ 122) = true := decide_eq_true (by omega)
        have f2 : decide ((65 : Int) ≤ (s[k].toNat : Int)) = false := decide_eq_false (by omega)
        have f3 : decide ((s[k].toNat : Int) ≤ 90) = true := decide_eq_true (by omega)
        have f4 : decide ((48 : Int) ≤ (s[k].toNat : Int)) = true := decide_eq_true (by omega)
        have f5 : decide ((s[k].toNat : Int) ≤ 57) = true := decide_eq_true (by omega)
        have f6 : ((s[k].toNat : Int) == 95) = false := by simp; omega
        have f7 : ((s[k].toNat : Int) == 45) = false := by simp; omega
        have hg := Lib.hid (hic.2 (by omega))
        clear hic
        go_wp2
        go_roundw
        case rel => exact ⟨k + 1, by omega, by go_num, by rw [hst.out, hg.out], hE⟩
        case measure => simp [intOf]; omega
      · obtain ⟨hlo, hhi⟩ := hiv
        have f0 : decide ((97 : Int) ≤ (s[k].toNat : Int)) = false := decide_eq_false (by omega)
        have f1 : decide ((s[k].toNat : Int) ≤ 122) = true := decide_eq_true (by omega)
        have f2 : decide ((65 : Int) ≤ (s[k].toNat : Int)) = false := decide_eq_false (by omega)
        have f3 : decide ((s[k].toNat : Int) ≤ 90) = true := decide_eq_true (by omega)
        have f4 : decide ((48 : Int) ≤ (s[k].toNat : Int)) = true := decide_eq_true (by omega)
        have f5 : decide ((s[k].toNat : Int) ≤ 57) = false := decide_eq_false (by omega)
        have f6 : ((s[k].toNat : Int) == 95) = false := by simp; omega
        have f7 : ((s[k].toNat : Int) == 45) = false := by simp; omega
        have hR := Lib.hid (hbad.out (hb.out (by cases hc : idC s[k] with | false => rfl | true => (have := hic.1 hc; omega))))
        clear hic
        go_wp2
        go_ret
        exact ⟨by rw [hR.out]; rfl, hE⟩
      · obtain ⟨hlo, hhi⟩ := hiv
        have f0 : decide ((97 : Int) ≤ (s[k].toNat : Int)) = false := decide_eq_false (by omega)
        have f1 : decide ((s[k].toNat : Int) ≤ 122) = true := decide_eq_true (by omega)
        have f2 : decide ((65 : Int) ≤ (s[k].toNat : Int)) = true := decide_eq_true (by omega)
        have f3 : decide ((s[k].toNat : Int) ≤ 90) = true := decide_eq_true (by omega)
        have f4 : decide ((48 : Int) ≤ (s[k].toNat : Int)) = true := decide_eq_true (by omega)
        have f5 : decide ((s[k].toNat : Int) ≤ 57) = false := decide_eq_false (by omega)
        have f6 : ((s[k].toNat : Int) == 95) = false := by simp; omega
        have f7 : ((s[k].toNat : Int) == 45) = false := by simp; omega
        have hg := Lib.hid (hic.2 (by omega))
        clear hic
        go_wp2
        go_roundw
        case rel => exact ⟨k + 1, by omega, by go_num, by rw [hst.out, hg.out], hE⟩
        case measure => simp [intOf]; omega
      · obtain ⟨hlo, hhi⟩ := hiv
        have f0 : decide ((97 : Int) ≤ (s[k].toNat : Int)) = false := decide_eq_false (by omega)
        have f1 : decide ((s[k].toNat : Int) ≤ 122) = true := decide_eq_true (by omega)
        have f2 : decide ((65 : Int) ≤ (s[k].toNat : Int)) = true := decide_eq_true (by omega)
        have f3 : decide ((s[k].toNat : Int) ≤ 90) = false := decide_eq_false (by omega)
        have f4 : decide ((48 : Int) ≤ (s[k].toNat : Int)) = true := decide_eq_true (by omega)
        have f5 : decide ((s[k].toNat : Int) ≤ 57) = false := decide_eq_false (by omega)
        have f6 : ((s[k].toNat : Int) == 95) = false := by simp; omega
        have f7 : ((s[k].toNat : Int) == 45) = false := by simp; omega
        have hR := Lib.hid (hbad.out (hb.out (by cases hc : idC s[k] with | false => rfl | true => (have := hic.1 hc; omega))))
        clear hic
        go_wp2
        go_ret
        exact ⟨by rw [hR.out]; rfl, hE⟩
      · obtain ⟨hlo, hhi⟩ := hiv
        have f0 : decide ((97 : Int) ≤ (s[k].toNat : Int)) = false := decide_eq_false (by omega)
        have f1 : decide ((s[k].toNat : Int) ≤ 122) = true := decide_eq_true (by omega)
        have f2 : decide ((65 : Int) ≤ (s[k].toNat : Int)) = true := decide_eq_true (by omega)
        have f3 : decide ((s[k].toNat : Int) ≤ 90) = false := decide_eq_false (by omega)
        have f4 : decide ((48 : Int) ≤ (s[k].toNat : Int)) = true := decide_eq_true (by omega)
        have f5 : decide ((s[k].toNat : Int) ≤ 57) = false := decide_eq_false (by omega)
        have f6 : ((s[k].toNat : Int) == 95) = true := by simp; omega
        have f7 : ((s[k].toNat : Int) == 45) = false := by simp; omega
        have hg := Lib.hid (hic.2 (by omega))
        clear hic
        go_wp2
        go_roundw
        case rel => exact ⟨k + 1, by omega, by go_num, by rw [hst.out, hg.out], hE⟩
        case measure => simp [intOf]; omega
      · obtain ⟨hlo, hhi⟩ := hiv
        have f0 : decide ((97 : Int) ≤ (s[k].toNat : Int)) = false := decide_eq_false (by omega)
        have f1 : decide ((s[k].toNat : Int) ≤ 122) = true := decide_eq_true (by omega)
        have f2 : decide ((65 : Int) ≤ (s[k].toNat : Int)) = true := decide_eq_true (by omega)
        have f3 : decide ((s[k].toNat : Int) ≤ 90) = false := decide_eq_false (by omega)
        have f4 : decide ((48 : Int) ≤ (s[k].toNat : Int)) = true := decide_eq_true (by omega)
        have f5 : decide ((s[k].toNat : Int) ≤ 57) = false := decide_eq_false (by omega)
        have f6 : ((s[k].toNat : Int) == 95) = false := by simp; omega
        have f7 : ((s[k].toNat : Int) == 45) = false := by simp; omega
        have hR := Lib.hid (hbad.out (hb.out (by cases hc : idC s[k] with | false => rfl | true => (have := hic.1 hc; omega))))
        clear hic
        go_wp2
        go_ret
        exact ⟨by rw [hR.out]; rfl, hE⟩
      · obtain ⟨hlo, hhi⟩ := hiv
        have f0 : decide ((97 : Int) ≤ (s[k].toNat : Int)) = true := decide_eq_true (by omega)
        have f1 : decide ((s[k].toNat : Int) ≤ 122) = true := decide_eq_true (by omega)
        have f2 : decide ((65 : Int) ≤ (s[k].toNat : Int)) = true := decide_eq_true (by omega)
        have f3 : decide ((s[k].toNat : Int) ≤ 90) = false := decide_eq_false (by omega)
        have f4 : decide ((48 : Int) ≤ (s[k].toNat : Int)) = true := decide_eq_true (by omega)
        have f5 : decide ((s[k].toNat : Int) ≤ 57) = false := decide_eq_false (by omega)
        have f6 : ((s[k].toNat : Int) == 95) = false := by simp; omega
        have f7 : ((s[k].toNat : Int) == 45) = false := by simp; omega
        have hg := Lib.hid (hic.2 (by omega))
        clear hic
        go_wp2
        go_roundw
        case rel => exact ⟨k + 1, by omega, by go_num, by rw [hst.out, hg.out], hE⟩
        case measure => simp [intOf]; omega
      · obtain ⟨hlo, hhi⟩ := hiv
        have f0 : decide ((97 : Int) ≤ (s[k].toNat : Int)) = true := decide_eq_true (by omega)
        have f1 : decide ((s[k].toNat : Int) ≤ 122) = false := decide_eq_false (by omega)
        have f2 : decide ((65 : Int) ≤ (s[k].toNat : Int)) = true := decide_eq_true (by omega)
        have f3 : decide ((s[k].toNat : Int) ≤ 90) = false := decide_eq_false (by omega)
        have f4 : decide ((48 : Int) ≤ (s[k].toNat : Int)) = true := decide_eq_true (by omega)
        have f5 : decide ((s[k].toNat : Int) ≤ 57) = false := decide_eq_false (by omega)
        have f6 : ((s[k].toNat : Int) == 95) = false := by simp; omega
        have f7 : ((s[k].toNat : Int) == 45) = false := by simp; omega
        have hR := Lib.hid (hbad.out (hb.out (by cases hc : idC s[k] with | false => rfl | true => (have := hic.1 hc; omega))))
        clear hic
        go_wp2
        go_ret
        exact ⟨by rw [hR.out]; rfl, hE⟩
    · have hkk : s.data.toList.take k = s.data.toList := List.take_of_length_le (by simp; omega)
      rw [hkk] at hall
      have hR := Lib.hid (hgood.out hall)
      clear hkk hall
      go_wp2
      go_ret
      exact ⟨by rw [hR.out]; rfl, hE⟩
 · rw [idS_no hz]
   by_cases h1 : 1 ≤ s.size
   · have g1 : decide ((s.size : Int) < 1) = false := by simp; omega
     have g2 : decide (16 < (s.size : Int)) = true := by simp; omega
     go_enter Tryz.func80, Tryz.ntmps80
     go_wp2
     go_ret
     exact ⟨rfl, Ext.refl _⟩
   · have g1 : decide ((s.size : Int) < 1) = true := by simp; omega
     go_enter Tryz.func80, Tryz.ntmps80
     go_wp2
     go_ret
     exact ⟨rfl, Ext.refl _⟩
/-- A currency. -/
def upB (c : UInt8) : Bool := decide (65 ≤ c.toNat) && decide (c.toNat ≤ 90)
theorem upB_iff (c : UInt8) : upB c = true ↔ 65 ≤ c.toNat ∧ c.toNat ≤ 90 := by unfold upB; simp
def curB (s : ByteArray) : Bool := decide (s.size = 3) && s.data.toList.all upB
set_option maxRecDepth 8000 in
set_option maxHeartbeats 4000000 in
theorem isCur_any (s : ByteArray) (w : World) : Calls Tryz.prog 120 #[.string s] w (OneW (.bool (curB s)) w) := by
 by_cases hz : s.size = 3
 · obtain ⟨R, hR⟩ : ∃ R, R = curB s := ⟨_, rfl⟩
   rw [← hR]
   have hR : R = s.data.toList.all upB := by rw [hR]; unfold curB; rw [decide_eq_true hz]; rfl
   have hbad := Lib.hid (fun h : s.data.toList.all upB = false => hR.trans h)
   have hgood := Lib.hid (fun h : s.data.toList.all upB = true => hR.trans h)
   have g1 : ((s.size : Int) != 3) = false := by simp; omega
   have g2 : ((s.size : Int) == 3) = true := by simp; omega
   clear hR
   go_enter Tryz.func120, Tryz.ntmps120
   go_wp2_with fail
   go_loopw [9] (fun i wr => ∃ k : Nat, k ≤ s.size ∧ i = .int .i64 k ∧ (s.data.toList.take k).all upB = true ∧ Ext w wr) (fun i _ => s.size - (intOf i).toNat)
   case atStart => exact ⟨0, Nat.zero_le _, rfl, by simp, Ext.refl _⟩
   case round =>
    obtain ⟨k, hk, rfl, hall, hE⟩ := hrel
    by_cases hlt : k < s.size
    · have hst := all_takeB upB s k hlt
      rw [hall, Bool.true_and] at hst
      have hb := all_badB upB s k hlt
      have hic := upB_iff s[k]
      have hc256 := s[k].toNat_lt
      replace hst := Lib.hid hst
      replace hb := Lib.hid hb
      replace hall := Lib.hid hall
      have hiv : (0 ≤ s[k].toNat ∧ s[k].toNat ≤ 64) ∨ (65 ≤ s[k].toNat ∧ s[k].toNat ≤ 90) ∨ (91 ≤ s[k].toNat ∧ s[k].toNat ≤ 255) := by omega
      rcases hiv with hiv | hiv | hiv
      · obtain ⟨hlo, hhi⟩ := hiv
        have f0 : decide ((s[k].toNat : Int) < 65) = true := decide_eq_true (by omega)
        have f1 : decide ((90 : Int) < (s[k].toNat : Int)) = false := decide_eq_false (by omega)
        have hR := Lib.hid (hbad.out (hb.out (by cases hc : upB s[k] with | false => rfl | true => (have := hic.1 hc; omega))))
        clear hic
        go_wp2
        go_ret
        exact ⟨by rw [hR.out]; rfl, hE⟩
      · obtain ⟨hlo, hhi⟩ := hiv
        have f0 : decide ((s[k].toNat : Int) < 65) = false := decide_eq_false (by omega)
        have f1 : decide ((90 : Int) < (s[k].toNat : Int)) = false := decide_eq_false (by omega)
        have hg := Lib.hid (hic.2 (by omega))
        clear hic
        go_wp2
        go_roundw
        case rel => exact ⟨k + 1, by omega, by go_num, by rw [hst.out, hg.out], hE⟩
        case measure => simp [intOf]; omega
      · obtain ⟨hlo, hhi⟩ := hiv
        have f0 : decide ((s[k].toNat : Int) < 65) = false := decide_eq_false (by omega)
        have f1 : decide ((90 : Int) < (s[k].toNat : Int)) = true := decide_eq_true (by omega)
        have hR := Lib.hid (hbad.out (hb.out (by cases hc : upB s[k] with | false => rfl | true => (have := hic.1 hc; omega))))
        clear hic
        go_wp2
        go_ret
        exact ⟨by rw [hR.out]; rfl, hE⟩
    · have hkk : s.data.toList.take k = s.data.toList := List.take_of_length_le (by simp; omega)
      rw [hkk] at hall
      have hR := Lib.hid (hgood.out hall)
      clear hkk hall
      go_wp2
      go_ret
      exact ⟨by rw [hR.out]; rfl, hE⟩
 · rw [show curB s = false by unfold curB; rw [decide_eq_false hz]; rfl]
   have g1 : ((s.size : Int) != 3) = true := by simp; omega
   have g2 : ((s.size : Int) == 3) = false := by simp; omega
   go_enter Tryz.func120, Tryz.ntmps120
   go_wp2
   go_ret
   exact ⟨rfl, Ext.refl _⟩
def totalB (n : Int) : Bool := decide (-4503599627370496 ≤ n) && decide (n ≤ 4503599627370496)
theorem totalB_iff (n : Int) : totalB n = true ↔ -4503599627370496 ≤ n ∧ n ≤ 4503599627370496 := by unfold totalB; simp
set_option maxHeartbeats 1000000 in
theorem inTotal_any (n : Int) (w : World) : Calls Tryz.prog 121 #[.int .i64 n] w (OneW (.bool (totalB n)) w) := by
 unfold totalB
 by_cases h1 : -4503599627370496 ≤ n
 · by_cases h2 : n ≤ 4503599627370496
   · have d1 : decide (-4503599627370496 ≤ n) = true := decide_eq_true h1
     have d2 : decide (n ≤ 4503599627370496) = true := decide_eq_true h2
     rw [d1, d2]
     clear h1 h2
     go_enter Tryz.func121, Tryz.ntmps121
     go_wp2
     go_ret
     exact ⟨rfl, Ext.refl _⟩
   · have d1 : decide (-4503599627370496 ≤ n) = true := decide_eq_true h1
     have d2 : decide (n ≤ 4503599627370496) = false := decide_eq_false h2
     rw [d1, d2]
     clear h1 h2
     go_enter Tryz.func121, Tryz.ntmps121
     go_wp2
     go_ret
     exact ⟨rfl, Ext.refl _⟩
 · have d1 : decide (-4503599627370496 ≤ n) = false := decide_eq_false h1
   rw [d1]
   clear h1
   go_enter Tryz.func121, Tryz.ntmps121
   go_wp2
   go_ret
   exact ⟨rfl, Ext.refl _⟩
def monE (n : Int) (cur : ByteArray) : Int := if curB cur = false then 11 else if totalB n = false then 4 else 0
set_option maxHeartbeats 1000000 in
theorem mcheck_any (n : Int) (cur : ByteArray) (w : World) : Calls Tryz.prog 82 #[.agg #[.int .i64 n, .string cur]] w (OneW (.int .i64 (monE n cur)) w) := by
 go_enter Tryz.func82, Tryz.ntmps82
 go_wp2_with fail
 refine (isCur_any cur _).mono ?_
 rintro e w1 ⟨rfl, hE1⟩
 have hb := (Blk.new w #[.int .i64 n, .string cur] 26).ext hE1
 have hE : Ext w w1 := Ext.trans xt hE1
 have x0 : w1.cell? ⟨w.heap.size, 0, none⟩ = some (.int .i64 n) := (hb.cell 0).trans rfl
 cases hc : curB cur with
 | false =>
  have hM := Lib.hid (show monE n cur = 11 by unfold monE; rw [if_pos hc])
  clear hb hE1 hc
  go_wp2
  go_ret
  exact ⟨by rw [hM.out]; rfl, hE⟩
 | true =>
  clear hb hE1
  go_wp2_with fail
  refine (inTotal_any n _).mono ?_
  rintro e w2 ⟨rfl, hE2⟩
  cases ht : totalB n with
  | false =>
   have hM := Lib.hid (show monE n cur = 4 by unfold monE; rw [if_neg (by rw [hc]; decide), if_pos ht])
   clear hc ht
   go_wp2
   go_ret
   exact ⟨by rw [hM.out]; rfl, hE.trans hE2⟩
  | true =>
   have hM := Lib.hid (show monE n cur = 0 by unfold monE; rw [if_neg (by rw [hc]; decide), if_neg (by rw [ht]; decide)])
   clear hc ht
   go_wp2
   go_ret
   exact ⟨by rw [hM.out]; rfl, hE.trans hE2⟩
theorem Ext.iter (w : World) (s : ByteArray) (k : Nat) : Ext w (w.iter s k) := (Ext.refl w).alloc _
theorem dgtB_iff (c : UInt8) : dgtB c = true ↔ 48 ≤ c.toNat ∧ c.toNat ≤ 57 := by unfold dgtB; simp
set_option maxRecDepth 8000 in
set_option maxHeartbeats 4000000 in
theorem pdigits_any (s : ByteArray) (w : World) (_ : s.size ≤ 1000000) : Calls Tryz.prog 118 #[.string s] w (OneW (.bool (s.data.toList.all dgtB)) w) := by
 obtain ⟨R, hR⟩ : ∃ R, R = s.data.toList.all dgtB := ⟨_, rfl⟩
 rw [← hR]
 have hbad := Lib.hid (fun h : s.data.toList.all dgtB = false => hR.trans h)
 have hgood := Lib.hid (fun h : s.data.toList.all dgtB = true => hR.trans h)
 clear hR
 go_enter Tryz.func118, Tryz.ntmps118
 go_wp2_with fail
 go_loopw [] (fun wr => ∃ k : Nat, k ≤ s.size ∧ wr = w.iter s k ∧ (s.data.toList.take k).all dgtB = true) (fun wr => s.size - wr.iterPos w.heap.size)
 case atStart => exact ⟨0, Nat.zero_le _, rfl, by simp⟩
 case round =>
  obtain ⟨k, hk, rfl, hall⟩ := hrel
  by_cases hlt : k < s.size
  · have hst := all_takeB dgtB s k hlt
    rw [hall, Bool.true_and] at hst
    have hb := all_badB dgtB s k hlt
    have hic := dgtB_iff s[k]
    have hc256 := s[k].toNat_lt
    have hE : ∀ j, Ext w (w.iter s j) := Ext.iter w s
    replace hE := Lib.hid hE
    replace hst := Lib.hid hst
    replace hb := Lib.hid hb
    replace hall := Lib.hid hall
    by_cases ha : s[k].toNat < 128
    · have hnx : ∀ ty, (Instr.next (.pointer (some ⟨w.heap.size, 0, none⟩)) true ty).run Tryz.prog (w.iter s k) = _ := fun ty => run_next_ascii w s k ty hlt ha
      have hiv : (0 ≤ s[k].toNat ∧ s[k].toNat ≤ 47) ∨ (48 ≤ s[k].toNat ∧ s[k].toNat ≤ 57) ∨ (58 ≤ s[k].toNat ∧ s[k].toNat ≤ 255) := by omega
      rcases hiv with hiv | hiv | hiv
      · obtain ⟨hlo, hhi⟩ := hiv
        have f0 : decide ((s[k].toNat : Int) < 48) = true := decide_eq_true (by omega)
        have f1 : decide ((57 : Int) < (s[k].toNat : Int)) = false := decide_eq_false (by omega)
        have hR := Lib.hid (hbad.out (hb.out (by cases hc : dgtB s[k] with | false => rfl | true => (have := hic.1 hc; omega))))
        clear hic
        go_wp2
        go_ret
        exact ⟨by rw [hR.out]; rfl, hE.out _⟩
      · obtain ⟨hlo, hhi⟩ := hiv
        have f0 : decide ((s[k].toNat : Int) < 48) = false := decide_eq_false (by omega)
        have f1 : decide ((57 : Int) < (s[k].toNat : Int)) = false := decide_eq_false (by omega)
        have hg := Lib.hid (hic.2 (by omega))
        clear hic
        go_wp2
        go_roundw
        case rel => exact ⟨k + 1, by omega, rfl, by rw [hst.out, hg.out]⟩
        case measure => simp; omega
      · obtain ⟨hlo, hhi⟩ := hiv
        have f0 : decide ((s[k].toNat : Int) < 48) = false := decide_eq_false (by omega)
        have f1 : decide ((57 : Int) < (s[k].toNat : Int)) = true := decide_eq_true (by omega)
        have hR := Lib.hid (hbad.out (hb.out (by cases hc : dgtB s[k] with | false => rfl | true => (have := hic.1 hc; omega))))
        clear hic
        go_wp2
        go_ret
        exact ⟨by rw [hR.out]; rfl, hE.out _⟩
    · have hnx : ∀ ty, (Instr.next (.pointer (some ⟨w.heap.size, 0, none⟩)) true ty).run Tryz.prog (w.iter s k) = _ := fun ty => run_next_any w s k ty hlt
      have hh := (decode_high s k hlt (by omega)).1
      have hh2 := decode_le s k
      have hR := Lib.hid (hbad.out (hb.out (by cases hc : dgtB s[k] with | false => rfl | true => (have := hic.1 hc; omega))))
      clear hic
      generalize Utf8.decode s k = rw at *
      obtain ⟨ru, wd⟩ := rw
      have f1 : decide ((ru : Int) < 48) = false := decide_eq_false (by simp at hh; omega)
      have f2 : decide ((57 : Int) < (ru : Int)) = true := decide_eq_true (by simp at hh; omega)
      go_wp2
      go_ret
      exact ⟨by rw [hR.out]; rfl, hE.out _⟩
  · have hnx : ∀ ty, (Instr.next (.pointer (some ⟨w.heap.size, 0, none⟩)) true ty).run Tryz.prog (w.iter s k) = _ := fun ty => run_next_end w s k ty hlt
    have hkk : s.data.toList.take k = s.data.toList := List.take_of_length_le (by simp; omega)
    rw [hkk] at hall
    have hR := Lib.hid (hgood.out hall)
    have hE := Lib.hid (Ext.iter w s)
    clear hkk hall
    go_wp2
    go_ret
    exact ⟨by rw [hR.out]; rfl, hE.out _⟩
/-- What a digit adds to the sum of Luhn's check. -/
def luhnD (b : Bool) (n : Int) : Int := if b then (if 9 < 2 * n then 2 * n - 9 else 2 * n) else n
def luhnTo (s : ByteArray) : Nat → Int
 | 0 => 0
 | k + 1 => luhnTo s k + luhnD (decide ((s.size - k) % 2 = 0)) (((s.data.toList.getD k 48).toNat : Int) - 48)
theorem luhnD_bd (b : Bool) (n : Int) (h0 : 0 ≤ n) (h1 : n ≤ 9) : 0 ≤ luhnD b n ∧ luhnD b n ≤ 9 := by
 unfold luhnD
 cases b
 · simp; omega
 · simp only [if_true]; split <;> omega
theorem getD_dgt (s : ByteArray) (h : s.data.toList.all dgtB = true) (k : Nat) : 0 ≤ ((s.data.toList.getD k 48).toNat : Int) - 48 ∧ ((s.data.toList.getD k 48).toNat : Int) - 48 ≤ 9 := by
 by_cases hk : k < s.data.toList.length
 · have := List.all_eq_true.1 h _ (List.getElem_mem hk)
   rw [List.getD_eq_getElem?_getD, List.getElem?_eq_getElem hk, Option.getD_some]
   have := (dgtB_iff _).1 this
   omega
 · rw [List.getD_eq_getElem?_getD, List.getElem?_eq_none (by omega), Option.getD_none]
   decide
theorem luhnTo_bd (s : ByteArray) (h : s.data.toList.all dgtB = true) : ∀ k : Nat, 0 ≤ luhnTo s k ∧ luhnTo s k ≤ 9 * k
 | 0 => by simp [luhnTo]
 | k + 1 => by
  have h1 := luhnTo_bd s h k
  have h2 := getD_dgt s h k
  have h3 := luhnD_bd (decide ((s.size - k) % 2 = 0)) _ h2.1 h2.2
  rw [luhnTo]
  omega
end Go.Proofs.YtmnhmkjmcckneaaGreatDoor
