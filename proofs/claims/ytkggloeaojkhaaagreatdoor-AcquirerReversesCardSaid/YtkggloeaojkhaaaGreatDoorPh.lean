/- Contracts of acquirer's isCardNumber, isCurrency, isIdentification, isTerminal (walks; printed by gen/h77.py). -/
import Derived.Test.YtkggloeaojkhaaaGreatDoorPc
import Derived.Test.YtkggloeaojkhaaaGreatDoorQo
import Derived.LoopTactic
namespace Go.Proofs.YtkggloeaojkhaaaGreatDoor
open Go.RowKit
/-- A card number. -/
def crdC (c : UInt8) : Bool := decide (48 ≤ c.toNat) && decide (c.toNat ≤ 57)
theorem crdC_iff (c : UInt8) : crdC c = true ↔ 48 ≤ c.toNat ∧ c.toNat ≤ 57 := by unfold crdC; simp
def crdS (s : ByteArray) : Bool := decide (12 ≤ s.size ∧ s.size ≤ 19) && s.data.toList.all crdC
theorem crdS_all {s : ByteArray} (h : 12 ≤ s.size ∧ s.size ≤ 19) : crdS s = s.data.toList.all crdC := by unfold crdS; rw [decide_eq_true h]; rfl
theorem crdS_no {s : ByteArray} (h : ¬ (12 ≤ s.size ∧ s.size ≤ 19)) : crdS s = false := by unfold crdS; rw [decide_eq_false h]; rfl
set_option maxRecDepth 8000 in
set_option maxHeartbeats 4000000 in
theorem crd_any (s : ByteArray) (w : World) : Calls Tryz.prog 55 #[.string s] w (OneQ (.bool (crdS s)) w) := by
 by_cases hz : 12 ≤ s.size ∧ s.size ≤ 19
 · obtain ⟨R, hR⟩ : ∃ R, R = crdS s := ⟨_, rfl⟩
   rw [← hR]
   rw [crdS_all hz] at hR
   have hbad := Lib.hid (fun h : s.data.toList.all crdC = false => hR.trans h)
   have hgood := Lib.hid (fun h : s.data.toList.all crdC = true => hR.trans h)
   have g1 : decide ((s.size : Int) < 12) = false := by simp; omega
   have g2 : decide (19 < (s.size : Int)) = false := by simp; omega
   clear hR
   go_enter Tryz.func55, Tryz.ntmps55
   go_wp2_with fail
   go_loopw [14] (fun i wr => ∃ k : Nat, k ≤ s.size ∧ i = .int .i64 k ∧ (s.data.toList.take k).all crdC = true ∧ Ext w wr) (fun i _ => s.size - (intOf i).toNat)
   case atStart => exact ⟨0, Nat.zero_le _, rfl, by simp, Ext.refl _⟩
   case round =>
    obtain ⟨k, hk, rfl, hall, hE⟩ := hrel
    by_cases hlt : k < s.size
    · have hst := all_takeB crdC s k hlt
      rw [hall, Bool.true_and] at hst
      have hb := all_badB crdC s k hlt
      have hic := crdC_iff s[k]
      have hc256 := s[k].toNat_lt
      replace hst := Lib.hid hst
      replace hb := Lib.hid hb
      replace hall := Lib.hid hall
      have hiv : (0 ≤ s[k].toNat ∧ s[k].toNat ≤ 47) ∨ (48 ≤ s[k].toNat ∧ s[k].toNat ≤ 57) ∨ (58 ≤ s[k].toNat ∧ s[k].toNat ≤ 255) := by omega
      rcases hiv with hiv | hiv | hiv
      · obtain ⟨hlo, hhi⟩ := hiv
        have f0 : decide ((s[k].toNat : Int) < 48) = true := decide_eq_true (by omega)
        have f1 : decide ((57 : Int) < (s[k].toNat : Int)) = false := decide_eq_false (by omega)
        have hR := Lib.hid (hbad.out (hb.out (by cases hc : crdC s[k] with | false => rfl | true => (have := hic.1 hc; omega))))
        clear hic
        go_wp2
        go_ret
        exact ⟨by rw [hR.out]; rfl, hE⟩
      · obtain ⟨hlo, hhi⟩ := hiv
        have f0 : decide ((s[k].toNat : Int) < 48) = false := decide_eq_false (by omega)
        have f1 : decide ((57 : Int) < (s[k].toNat : Int)) = false := decide_eq_false (by omega)
        have hg := Lib.hid (hic.2 (by omega))
        clear hic
        go_wp2
        go_roundw
        case rel => exact ⟨k + 1, by omega, by go_num, by rw [hst.out, hg.out], hE⟩
        case measure => simp [intOf]; omega
      · obtain ⟨hlo, hhi⟩ := hiv
        have f0 : decide ((s[k].toNat : Int) < 48) = false := decide_eq_false (by omega)
        have f1 : decide ((57 : Int) < (s[k].toNat : Int)) = true := decide_eq_true (by omega)
        have hR := Lib.hid (hbad.out (hb.out (by cases hc : crdC s[k] with | false => rfl | true => (have := hic.1 hc; omega))))
        clear hic
        go_wp2
        go_ret
        exact ⟨by rw [hR.out]; rfl, hE⟩
    · have hkk : s.data.toList.take k = s.data.toList := List.take_of_length_le (by simp; omega)
      rw [hkk] at hall
      have hR := Lib.hid (hgood.out hall)
      clear hkk hall
      go_wp2
      go_ret
      exact ⟨by rw [hR.out]; rfl, hE⟩
 · rw [crdS_no hz]
   by_cases h1 : 12 ≤ s.size
   · have g1 : decide ((s.size : Int) < 12) = false := by simp; omega
     have g2 : decide (19 < (s.size : Int)) = true := by simp; omega
     go_enter Tryz.func55, Tryz.ntmps55
     go_wp2
     go_ret
     exact ⟨rfl, Ext.refl _⟩
   · have g1 : decide ((s.size : Int) < 12) = true := by simp; omega
     go_enter Tryz.func55, Tryz.ntmps55
     go_wp2
     go_ret
     exact ⟨rfl, Ext.refl _⟩
/-- An identification. -/
def idnC (c : UInt8) : Bool := (decide (97 ≤ c.toNat) && decide (c.toNat ≤ 122)) || (decide (65 ≤ c.toNat) && decide (c.toNat ≤ 90)) || (decide (48 ≤ c.toNat) && decide (c.toNat ≤ 57)) || decide (c.toNat = 95) || decide (c.toNat = 45)
theorem idnC_iff (c : UInt8) : idnC c = true ↔ (97 ≤ c.toNat ∧ c.toNat ≤ 122) ∨ (65 ≤ c.toNat ∧ c.toNat ≤ 90) ∨ (48 ≤ c.toNat ∧ c.toNat ≤ 57) ∨ c.toNat = 95 ∨ c.toNat = 45 := by
 unfold idnC
 simp only [Bool.or_eq_true, Bool.and_eq_true, decide_eq_true_eq]
 omega
def idnS (s : ByteArray) : Bool := decide (1 ≤ s.size ∧ s.size ≤ 16) && s.data.toList.all idnC
theorem idnS_all {s : ByteArray} (h : 1 ≤ s.size ∧ s.size ≤ 16) : idnS s = s.data.toList.all idnC := by unfold idnS; rw [decide_eq_true h]; rfl
theorem idnS_no {s : ByteArray} (h : ¬ (1 ≤ s.size ∧ s.size ≤ 16)) : idnS s = false := by unfold idnS; rw [decide_eq_false h]; rfl
set_option maxRecDepth 8000 in
set_option maxHeartbeats 4000000 in
theorem idn_any (s : ByteArray) (w : World) : Calls Tryz.prog 53 #[.string s] w (OneQ (.bool (idnS s)) w) := by
 by_cases hz : 1 ≤ s.size ∧ s.size ≤ 16
 · obtain ⟨R, hR⟩ : ∃ R, R = idnS s := ⟨_, rfl⟩
   rw [← hR]
   rw [idnS_all hz] at hR
   have hbad := Lib.hid (fun h : s.data.toList.all idnC = false => hR.trans h)
   have hgood := Lib.hid (fun h : s.data.toList.all idnC = true => hR.trans h)
   have g1 : decide ((s.size : Int) < 1) = false := by simp; omega
   have g2 : decide (16 < (s.size : Int)) = false := by simp; omega
   clear hR
   go_enter Tryz.func53, Tryz.ntmps53
   go_wp2_with fail
   go_loopw [15] (fun i wr => ∃ k : Nat, k ≤ s.size ∧ i = .int .i64 k ∧ (s.data.toList.take k).all idnC = true ∧ Ext w wr) (fun i _ => s.size - (intOf i).toNat)
   case atStart => exact ⟨0, Nat.zero_le _, rfl, by simp, Ext.refl _⟩
   case round =>
    obtain ⟨k, hk, rfl, hall, hE⟩ := hrel
    by_cases hlt : k < s.size
    · have hst := all_takeB idnC s k hlt
      rw [hall, Bool.true_and] at hst
      have hb := all_badB idnC s k hlt
      have hic := idnC_iff s[k]
      have hc256 := s[k].toNat_lt
      replace hst := Lib.hid hst
      replace hb := Lib.hid hb
      replace hall := Lib.hid hall
      have hiv : (0 ≤ s[k].toNat ∧ s[k].toNat ≤ 44) ∨ (45 ≤ s[k].toNat ∧ s[k].toNat ≤ 45) ∨ (46 ≤ s[k].toNat ∧ s[k].toNat ≤ 47) ∨ (48 ≤ s[k].toNat ∧ s[k].toNat ≤ 57) ∨ (58 ≤ s[k].toNat ∧ s[k].toNat ≤ 64) ∨ (65 ≤ s[k].toNat ∧ s[k].toNat ≤ 90) ∨ (91 ≤ s[k].toNat ∧ s[k].toNat ≤ 94) ∨ (95 ≤ s[k].toNat ∧ s[k].toNat ≤ 95) ∨ (96 ≤ s[k].toNat ∧ s[k].toNat ≤ 96) ∨ (97 ≤ s[k].toNat ∧ s[k].toNat ≤ 122) ∨ (123 ≤ s[k].toNat ∧ s[k].toNat ≤ 255) := by omega
      rcases hiv with hiv | hiv | hiv | hiv | hiv | hiv | hiv | hiv | hiv | hiv | hiv
      · obtain ⟨hlo, hhi⟩ := hiv
        have f0 : decide ((97 : Int) ≤ (s[k].toNat : Int)) = false := decide_eq_false (by omega)
        have f1 : decide ((s[k].toNat : Int) ≤ 122) = true := decide_eq_true (by omega)
        have f2 : decide ((65 : Int) ≤ (s[k].toNat : Int)) = false := decide_eq_false (by omega)
        have f3 : decide ((s[k].toNat : Int) ≤ 90) = true := decide_eq_true (by omega)
        have f4 : decide ((48 : Int) ≤ (s[k].toNat : Int)) = false := decide_eq_false (by omega)
        have f5 : decide ((s[k].toNat : Int) ≤ 57) = true := decide_eq_true (by omega)
        have f6 : ((s[k].toNat : Int) == 95) = false := by simp; omega
        have f7 : ((s[k].toNat : Int) == 45) = false := by simp; omega
        have hR := Lib.hid (hbad.out (hb.out (by cases hc : idnC s[k] with | false => rfl | true => (have := hic.1 hc; omega))))
        clear hic
        go_wp2
        go_ret
        exact ⟨by rw [hR.out]; rfl, hE⟩
      · obtain ⟨hlo, hhi⟩ := hiv
        have f0 : decide ((97 : Int) ≤ (s[k].toNat : Int)) = false := decide_eq_false (by omega)
        have f1 : decide ((s[k].toNat : Int) ≤ 122) = true := decide_eq_true (by omega)
        have f2 : decide ((65 : Int) ≤ (s[k].toNat : Int)) = false := decide_eq_false (by omega)
        have f3 : decide ((s[k].toNat : Int) ≤ 90) = true := decide_eq_true (by omega)
        have f4 : decide ((48 : Int) ≤ (s[k].toNat : Int)) = false := decide_eq_false (by omega)
        have f5 : decide ((s[k].toNat : Int) ≤ 57) = true := decide_eq_true (by omega)
        have f6 : ((s[k].toNat : Int) == 95) = false := by simp; omega
        have f7 : ((s[k].toNat : Int) == 45) = true := by simp; omega
        have hg := Lib.hid (hic.2 (by omega))
        clear hic
        go_wp2
        go_roundw
        case rel => exact ⟨k + 1, by omega, by go_num, by rw [hst.out, hg.out], hE⟩
        case measure => simp [intOf]; omega
      · obtain ⟨hlo, hhi⟩ := hiv
        have f0 : decide ((97 : Int) ≤ (s[k].toNat : Int)) = false := decide_eq_false (by omega)
        have f1 : decide ((s[k].toNat : Int) ≤ 122) = true := decide_eq_true (by omega)
        have f2 : decide ((65 : Int) ≤ (s[k].toNat : Int)) = false := decide_eq_false (by omega)
        have f3 : decide ((s[k].toNat : Int) ≤ 90) = true := decide_eq_true (by omega)
        have f4 : decide ((48 : Int) ≤ (s[k].toNat : Int)) = false := decide_eq_false (by omega)
        have f5 : decide ((s[k].toNat : Int) ≤ 57) = true := decide_eq_true (by omega)
        have f6 : ((s[k].toNat : Int) == 95) = false := by simp; omega
        have f7 : ((s[k].toNat : Int) == 45) = false := by simp; omega
        have hR := Lib.hid (hbad.out (hb.out (by cases hc : idnC s[k] with | false => rfl | true => (have := hic.1 hc; omega))))
        clear hic
        go_wp2
        go_ret
        exact ⟨by rw [hR.out]; rfl, hE⟩
      · obtain ⟨hlo, hhi⟩ := hiv
        have f0 : decide ((97 : Int) ≤ (s[k].toNat : Int)) = false := decide_eq_false (by omega)
        have f1 : decide ((s[k].toNat : Int) ≤ 122) = true := decide_eq_true (by omega)
        have f2 : decide ((65 : Int) ≤ (s[k].toNat : Int)) = false := decide_eq_false (by omega)
        have f3 : decide ((s[k].toNat : Int) ≤ 90) = true := decide_eq_true (by omega)
        have f4 : decide ((48 : Int) ≤ (s[k].toNat : Int)) = true := decide_eq_true (by omega)
        have f5 : decide ((s[k].toNat : Int) ≤ 57) = true := decide_eq_true (by omega)
        have f6 : ((s[k].toNat : Int) == 95) = false := by simp; omega
        have f7 : ((s[k].toNat : Int) == 45) = false := by simp; omega
        have hg := Lib.hid (hic.2 (by omega))
        clear hic
        go_wp2
        go_roundw
        case rel => exact ⟨k + 1, by omega, by go_num, by rw [hst.out, hg.out], hE⟩
        case measure => simp [intOf]; omega
      · obtain ⟨hlo, hhi⟩ := hiv
        have f0 : decide ((97 : Int) ≤ (s[k].toNat : Int)) = false := decide_eq_false (by omega)
        have f1 : decide ((s[k].toNat : Int) ≤ 122) = true := decide_eq_true (by omega)
        have f2 : decide ((65 : Int) ≤ (s[k].toNat : Int)) = false := decide_eq_false (by omega)
        have f3 : decide ((s[k].toNat : Int) ≤ 90) = true := decide_eq_true (by omega)
        have f4 : decide ((48 : Int) ≤ (s[k].toNat : Int)) = true := decide_eq_true (by omega)
        have f5 : decide ((s[k].toNat : Int) ≤ 57) = false := decide_eq_false (by omega)
        have f6 : ((s[k].toNat : Int) == 95) = false := by simp; omega
        have f7 : ((s[k].toNat : Int) == 45) = false := by simp; omega
        have hR := Lib.hid (hbad.out (hb.out (by cases hc : idnC s[k] with | false => rfl | true => (have := hic.1 hc; omega))))
        clear hic
        go_wp2
        go_ret
        exact ⟨by rw [hR.out]; rfl, hE⟩
      · obtain ⟨hlo, hhi⟩ := hiv
        have f0 : decide ((97 : Int) ≤ (s[k].toNat : Int)) = false := decide_eq_false (by omega)
        have f1 : decide ((s[k].toNat : Int) ≤ 122) = true := decide_eq_true (by omega)
        have f2 : decide ((65 : Int) ≤ (s[k].toNat : Int)) = true := decide_eq_true (by omega)
        have f3 : decide ((s[k].toNat : Int) ≤ 90) = true := decide_eq_true (by omega)
        have f4 : decide ((48 : Int) ≤ (s[k].toNat : Int)) = true := decide_eq_true (by omega)
        have f5 : decide ((s[k].toNat : Int) ≤ 57) = false := decide_eq_false (by omega)
        have f6 : ((s[k].toNat : Int) == 95) = false := by simp; omega
        have f7 : ((s[k].toNat : Int) == 45) = false := by simp; omega
        have hg := Lib.hid (hic.2 (by omega))
        clear hic
        go_wp2
        go_roundw
        case rel => exact ⟨k + 1, by omega, by go_num, by rw [hst.out, hg.out], hE⟩
        case measure => simp [intOf]; omega
      · obtain ⟨hlo, hhi⟩ := hiv
        have f0 : decide ((97 : Int) ≤ (s[k].toNat : Int)) = false := decide_eq_false (by omega)
        have f1 : decide ((s[k].toNat : Int) ≤ 122) = true := decide_eq_true (by omega)
        have f2 : decide ((65 : Int) ≤ (s[k].toNat : Int)) = true := decide_eq_true (by omega)
        have f3 : decide ((s[k].toNat : Int) ≤ 90) = false := decide_eq_false (by omega)
        have f4 : decide ((48 : Int) ≤ (s[k].toNat : Int)) = true := decide_eq_true (by omega)
        have f5 : decide ((s[k].toNat : Int) ≤ 57) = false := decide_eq_false (by omega)
        have f6 : ((s[k].toNat : Int) == 95) = false := by simp; omega
        have f7 : ((s[k].toNat : Int) == 45) = false := by simp; omega
        have hR := Lib.hid (hbad.out (hb.out (by cases hc : idnC s[k] with | false => rfl | true => (have := hic.1 hc; omega))))
        clear hic
        go_wp2
        go_ret
        exact ⟨by rw [hR.out]; rfl, hE⟩
      · obtain ⟨hlo, hhi⟩ := hiv
        have f0 : decide ((97 : Int) ≤ (s[k].toNat : Int)) = false := decide_eq_false (by omega)
        have f1 : decide ((s[k].toNat : Int) ≤ 122) = true := decide_eq_true (by omega)
        have f2 : decide ((65 : Int) ≤ (s[k].toNat : Int)) = true := decide_eq_true (by omega)
        have f3 : decide ((s[k].toNat : Int) ≤ 90) = false := decide_eq_false (by omega)
        have f4 : decide ((48 : Int) ≤ (s[k].toNat : Int)) = true := decide_eq_true (by omega)
        have f5 : decide ((s[k].toNat : Int) ≤ 57) = false := decide_eq_false (by omega)
        have f6 : ((s[k].toNat : Int) == 95) = true := by simp; omega
        have f7 : ((s[k].toNat : Int) == 45) = false := by simp; omega
        have hg := Lib.hid (hic.2 (by omega))
        clear hic
        go_wp2
        go_roundw
        case rel => exact ⟨k + 1, by omega, by go_num, by rw [hst.out, hg.out], hE⟩
        case measure => simp [intOf]; omega
      · obtain ⟨hlo, hhi⟩ := hiv
        have f0 : decide ((97 : Int) ≤ (s[k].toNat : Int)) = false := decide_eq_false (by omega)
        have f1 : decide ((s[k].toNat : Int) ≤ 122) = true := decide_eq_true (by omega)
        have f2 : decide ((65 : Int) ≤ (s[k].toNat : Int)) = true := decide_eq_true (by omega)
        have f3 : decide ((s[k].toNat : Int) ≤ 90) = false := decide_eq_false (by omega)
        have f4 : decide ((48 : Int) ≤ (s[k].toNat : Int)) = true := decide_eq_true (by omega)
        have f5 : decide ((s[k].toNat : Int) ≤ 57) = false := decide_eq_false (by omega)
        have f6 : ((s[k].toNat : Int) == 95) = false := by simp; omega
        have f7 : ((s[k].toNat : Int) == 45) = false := by simp; omega
        have hR := Lib.hid (hbad.out (hb.out (by cases hc : idnC s[k] with | false => rfl | true => (have := hic.1 hc; omega))))
        clear hic
        go_wp2
        go_ret
        exact ⟨by rw [hR.out]; rfl, hE⟩
      · obtain ⟨hlo, hhi⟩ := hiv
        have f0 : decide ((97 : Int) ≤ (s[k].toNat : Int)) = true := decide_eq_true (by omega)
        have f1 : decide ((s[k].toNat : Int) ≤ 122) = true := decide_eq_true (by omega)
        have f2 : decide ((65 : Int) ≤ (s[k].toNat : Int)) = true := decide_eq_true (by omega)
        have f3 : decide ((s[k].toNat : Int) ≤ 90) = false := decide_eq_false (by omega)
        have f4 : decide ((48 : Int) ≤ (s[k].toNat : Int)) = true := decide_eq_true (by omega)
        have f5 : decide ((s[k].toNat : Int) ≤ 57) = false := decide_eq_false (by omega)
        have f6 : ((s[k].toNat : Int) == 95) = false := by simp; omega
        have f7 : ((s[k].toNat : Int) == 45) = false := by simp; omega
        have hg := Lib.hid (hic.2 (by omega))
        clear hic
        go_wp2
        go_roundw
        case rel => exact ⟨k + 1, by omega, by go_num, by rw [hst.out, hg.out], hE⟩
        case measure => simp [intOf]; omega
      · obtain ⟨hlo, hhi⟩ := hiv
        have f0 : decide ((97 : Int) ≤ (s[k].toNat : Int)) = true := decide_eq_true (by omega)
        have f1 : decide ((s[k].toNat : Int) ≤ 122) = false := decide_eq_false (by omega)
        have f2 : decide ((65 : Int) ≤ (s[k].toNat : Int)) = true := decide_eq_true (by omega)
        have f3 : decide ((s[k].toNat : Int) ≤ 90) = false := decide_eq_false (by omega)
        have f4 : decide ((48 : Int) ≤ (s[k].toNat : Int)) = true := decide_eq_true (by omega)
        have f5 : decide ((s[k].toNat : Int) ≤ 57) = false := decide_eq_false (by omega)
        have f6 : ((s[k].toNat : Int) == 95) = false := by simp; omega
        have f7 : ((s[k].toNat : Int) == 45) = false := by simp; omega
        have hR := Lib.hid (hbad.out (hb.out (by cases hc : idnC s[k] with | false => rfl | true => (have := hic.1 hc; omega))))
        clear hic
        go_wp2
        go_ret
        exact ⟨by rw [hR.out]; rfl, hE⟩
    · have hkk : s.data.toList.take k = s.data.toList := List.take_of_length_le (by simp; omega)
      rw [hkk] at hall
      have hR := Lib.hid (hgood.out hall)
      clear hkk hall
      go_wp2
      go_ret
      exact ⟨by rw [hR.out]; rfl, hE⟩
 · rw [idnS_no hz]
   by_cases h1 : 1 ≤ s.size
   · have g1 : decide ((s.size : Int) < 1) = false := by simp; omega
     have g2 : decide (16 < (s.size : Int)) = true := by simp; omega
     go_enter Tryz.func53, Tryz.ntmps53
     go_wp2
     go_ret
     exact ⟨rfl, Ext.refl _⟩
   · have g1 : decide ((s.size : Int) < 1) = true := by simp; omega
     go_enter Tryz.func53, Tryz.ntmps53
     go_wp2
     go_ret
     exact ⟨rfl, Ext.refl _⟩
/-- A currency. -/
def curC (c : UInt8) : Bool := decide (65 ≤ c.toNat) && decide (c.toNat ≤ 90)
theorem curC_iff (c : UInt8) : curC c = true ↔ 65 ≤ c.toNat ∧ c.toNat ≤ 90 := by unfold curC; simp
def curS (s : ByteArray) : Bool := decide (s.size = 3) && s.data.toList.all curC
theorem curS_all {s : ByteArray} (h : s.size = 3) : curS s = s.data.toList.all curC := by unfold curS; rw [decide_eq_true h]; rfl
theorem curS_no {s : ByteArray} (h : ¬ s.size = 3) : curS s = false := by unfold curS; rw [decide_eq_false h]; rfl
set_option maxRecDepth 8000 in
set_option maxHeartbeats 4000000 in
theorem cur_any (s : ByteArray) (w : World) : Calls Tryz.prog 56 #[.string s] w (OneQ (.bool (curS s)) w) := by
 by_cases hz : s.size = 3
 · obtain ⟨R, hR⟩ : ∃ R, R = curS s := ⟨_, rfl⟩
   rw [← hR]
   rw [curS_all hz] at hR
   have hbad := Lib.hid (fun h : s.data.toList.all curC = false => hR.trans h)
   have hgood := Lib.hid (fun h : s.data.toList.all curC = true => hR.trans h)
   have g1 : ((s.size : Int) != 3) = false := by simp; omega
   have g2 : ((s.size : Int) == 3) = true := by simp; omega
   clear hR
   go_enter Tryz.func56, Tryz.ntmps56
   go_wp2_with fail
   go_loopw [9] (fun i wr => ∃ k : Nat, k ≤ s.size ∧ i = .int .i64 k ∧ (s.data.toList.take k).all curC = true ∧ Ext w wr) (fun i _ => s.size - (intOf i).toNat)
   case atStart => exact ⟨0, Nat.zero_le _, rfl, by simp, Ext.refl _⟩
   case round =>
    obtain ⟨k, hk, rfl, hall, hE⟩ := hrel
    by_cases hlt : k < s.size
    · have hst := all_takeB curC s k hlt
      rw [hall, Bool.true_and] at hst
      have hb := all_badB curC s k hlt
      have hic := curC_iff s[k]
      have hc256 := s[k].toNat_lt
      replace hst := Lib.hid hst
      replace hb := Lib.hid hb
      replace hall := Lib.hid hall
      have hiv : (0 ≤ s[k].toNat ∧ s[k].toNat ≤ 64) ∨ (65 ≤ s[k].toNat ∧ s[k].toNat ≤ 90) ∨ (91 ≤ s[k].toNat ∧ s[k].toNat ≤ 255) := by omega
      rcases hiv with hiv | hiv | hiv
      · obtain ⟨hlo, hhi⟩ := hiv
        have f0 : decide ((s[k].toNat : Int) < 65) = true := decide_eq_true (by omega)
        have f1 : decide ((90 : Int) < (s[k].toNat : Int)) = false := decide_eq_false (by omega)
        have hR := Lib.hid (hbad.out (hb.out (by cases hc : curC s[k] with | false => rfl | true => (have := hic.1 hc; omega))))
        clear hic
        go_wp2
        go_ret
        exact ⟨by rw [hR.out]; rfl, hE⟩
      · obtain ⟨hlo, hhi⟩ := hiv
        have f0 : decide ((s[k].toNat : Int) < 65) = false := decide_eq_false (by omega)
        have f1 : decide ((90 : Int) < (s[k].toNat : Int)) = false := decide_eq_false (by omega)
        have hg := Lib.hid (hic.2 (by omega))
        clear hic
        go_wp2
        go_roundw
        case rel => exact ⟨k + 1, by omega, by go_num, by rw [hst.out, hg.out], hE⟩
        case measure => simp [intOf]; omega
      · obtain ⟨hlo, hhi⟩ := hiv
        have f0 : decide ((s[k].toNat : Int) < 65) = false := decide_eq_false (by omega)
        have f1 : decide ((90 : Int) < (s[k].toNat : Int)) = true := decide_eq_true (by omega)
        have hR := Lib.hid (hbad.out (hb.out (by cases hc : curC s[k] with | false => rfl | true => (have := hic.1 hc; omega))))
        clear hic
        go_wp2
        go_ret
        exact ⟨by rw [hR.out]; rfl, hE⟩
    · have hkk : s.data.toList.take k = s.data.toList := List.take_of_length_le (by simp; omega)
      rw [hkk] at hall
      have hR := Lib.hid (hgood.out hall)
      clear hkk hall
      go_wp2
      go_ret
      exact ⟨by rw [hR.out]; rfl, hE⟩
 · rw [curS_no hz]
   have g1 : ((s.size : Int) != 3) = true := by simp; omega
   have g2 : ((s.size : Int) == 3) = false := by simp; omega
   go_enter Tryz.func56, Tryz.ntmps56
   go_wp2
   go_ret
   exact ⟨rfl, Ext.refl _⟩
/-- A terminal: its bytes, its first and its last one. -/
def trmC (c : UInt8) : Bool := decide (32 ≤ c.toNat) && decide (c.toNat ≤ 126)
theorem trmC_iff (c : UInt8) : trmC c = true ↔ 32 ≤ c.toNat ∧ c.toNat ≤ 126 := by unfold trmC; simp
def trmZ (s : ByteArray) : Bool := if h : 1 ≤ s.size ∧ s.size ≤ 8 then decide (s[0].toNat ≠ 32) && decide (s[s.size - 1].toNat ≠ 32) else false
def trmS (s : ByteArray) : Bool := trmZ s && s.data.toList.all trmC
theorem trmS_all {s : ByteArray} (h : trmZ s = true) : trmS s = s.data.toList.all trmC := by unfold trmS; rw [h]; rfl
theorem trmZ_iff {s : ByteArray} (h : 1 ≤ s.size ∧ s.size ≤ 8) : trmZ s = true ↔ s[0].toNat ≠ 32 ∧ s[s.size - 1].toNat ≠ 32 := by unfold trmZ; rw [dif_pos h]; simp
theorem trmZ_size {s : ByteArray} (h : trmZ s = true) : 1 ≤ s.size ∧ s.size ≤ 8 := by
 unfold trmZ at h
 by_cases hz : 1 ≤ s.size ∧ s.size ≤ 8
 · exact hz
 · rw [dif_neg hz] at h; cases h
theorem trmS_no {s : ByteArray} (h : ¬ trmZ s = true) : trmS s = false := by unfold trmS; simp [h]
set_option maxRecDepth 8000 in
set_option maxHeartbeats 4000000 in
theorem trm_any (s : ByteArray) (w : World) : Calls Tryz.prog 54 #[.string s] w (OneQ (.bool (trmS s)) w) := by
 by_cases hz : trmZ s = true
 · obtain ⟨R, hR⟩ : ∃ R, R = trmS s := ⟨_, rfl⟩
   rw [← hR]
   rw [trmS_all hz] at hR
   have hbad := Lib.hid (fun h : s.data.toList.all trmC = false => hR.trans h)
   have hgood := Lib.hid (fun h : s.data.toList.all trmC = true => hR.trans h)
   have hsz := trmZ_size hz
   obtain ⟨q0, q1⟩ := (trmZ_iff hsz).1 hz
   have g1 : decide ((s.size : Int) < 1) = false := by simp; omega
   have g2 : decide (8 < (s.size : Int)) = false := by simp; omega
   have h0 : 0 < s.size := by omega
   have hl : s.size - 1 < s.size := by omega
   have gl : ((s.size : Int) - 1).toNat = s.size - 1 := by omega
   have p0 : ((s[0].toNat : Int) == 32) = false := by simp; omega
   have p1 : ((s[s.size - 1].toNat : Int) == 32) = false := by simp; omega
   clear q0 q1 hz
   clear hR
   go_enter Tryz.func54, Tryz.ntmps54
   go_wp2_with fail
   go_loopw [27] (fun i wr => ∃ k : Nat, k ≤ s.size ∧ i = .int .i64 k ∧ (s.data.toList.take k).all trmC = true ∧ Ext w wr) (fun i _ => s.size - (intOf i).toNat)
   case atStart => exact ⟨0, Nat.zero_le _, rfl, by simp, Ext.refl _⟩
   case round =>
    obtain ⟨k, hk, rfl, hall, hE⟩ := hrel
    by_cases hlt : k < s.size
    · have hst := all_takeB trmC s k hlt
      rw [hall, Bool.true_and] at hst
      have hb := all_badB trmC s k hlt
      have hic := trmC_iff s[k]
      have hc256 := s[k].toNat_lt
      replace hst := Lib.hid hst
      replace hb := Lib.hid hb
      replace hall := Lib.hid hall
      have hiv : (0 ≤ s[k].toNat ∧ s[k].toNat ≤ 31) ∨ (32 ≤ s[k].toNat ∧ s[k].toNat ≤ 126) ∨ (127 ≤ s[k].toNat ∧ s[k].toNat ≤ 255) := by omega
      rcases hiv with hiv | hiv | hiv
      · obtain ⟨hlo, hhi⟩ := hiv
        have f0 : decide ((s[k].toNat : Int) < 32) = true := decide_eq_true (by omega)
        have f1 : decide ((126 : Int) < (s[k].toNat : Int)) = false := decide_eq_false (by omega)
        have hR := Lib.hid (hbad.out (hb.out (by cases hc : trmC s[k] with | false => rfl | true => (have := hic.1 hc; omega))))
        clear hic
        go_wp2
        go_ret
        exact ⟨by rw [hR.out]; rfl, hE⟩
      · obtain ⟨hlo, hhi⟩ := hiv
        have f0 : decide ((s[k].toNat : Int) < 32) = false := decide_eq_false (by omega)
        have f1 : decide ((126 : Int) < (s[k].toNat : Int)) = false := decide_eq_false (by omega)
        have hg := Lib.hid (hic.2 (by omega))
        clear hic
        go_wp2
        go_roundw
        case rel => exact ⟨k + 1, by omega, by go_num, by rw [hst.out, hg.out], hE⟩
        case measure => simp [intOf]; omega
      · obtain ⟨hlo, hhi⟩ := hiv
        have f0 : decide ((s[k].toNat : Int) < 32) = false := decide_eq_false (by omega)
        have f1 : decide ((126 : Int) < (s[k].toNat : Int)) = true := decide_eq_true (by omega)
        have hR := Lib.hid (hbad.out (hb.out (by cases hc : trmC s[k] with | false => rfl | true => (have := hic.1 hc; omega))))
        clear hic
        go_wp2
        go_ret
        exact ⟨by rw [hR.out]; rfl, hE⟩
    · have hkk : s.data.toList.take k = s.data.toList := List.take_of_length_le (by simp; omega)
      rw [hkk] at hall
      have hR := Lib.hid (hgood.out hall)
      clear hkk hall
      go_wp2
      go_ret
      exact ⟨by rw [hR.out]; rfl, hE⟩
 · rw [trmS_no hz]
   by_cases h1 : 1 ≤ s.size
   · have g1 : decide ((s.size : Int) < 1) = false := by simp; omega
     by_cases h2 : s.size ≤ 8
     · have g2 : decide (8 < (s.size : Int)) = false := by simp; omega
       have h0 : 0 < s.size := by omega
       have hl : s.size - 1 < s.size := by omega
       have gl : ((s.size : Int) - 1).toNat = s.size - 1 := by omega
       by_cases h3 : s[0].toNat = 32
       · have p0 : ((s[0].toNat : Int) == 32) = true := by simp; omega
         clear hz h3
         go_enter Tryz.func54, Tryz.ntmps54
         go_wp2
         go_ret
         exact ⟨rfl, Ext.refl _⟩
       · have p0 : ((s[0].toNat : Int) == 32) = false := by simp; omega
         have h4 : s[s.size - 1].toNat = 32 := by
          by_cases h4 : s[s.size - 1].toNat = 32
          · exact h4
          · exact absurd ((trmZ_iff ⟨h1, h2⟩).2 ⟨h3, h4⟩) hz
         have p1 : ((s[s.size - 1].toNat : Int) == 32) = true := by simp; omega
         clear hz h3 h4
         go_enter Tryz.func54, Tryz.ntmps54
         go_wp2
         go_ret
         exact ⟨rfl, Ext.refl _⟩
     · have g2 : decide (8 < (s.size : Int)) = true := by simp; omega
       go_enter Tryz.func54, Tryz.ntmps54
       go_wp2
       go_ret
       exact ⟨rfl, Ext.refl _⟩
   · have g1 : decide ((s.size : Int) < 1) = true := by simp; omega
     go_enter Tryz.func54, Tryz.ntmps54
     go_wp2
     go_ret
     exact ⟨rfl, Ext.refl _⟩
end Go.Proofs.YtkggloeaojkhaaaGreatDoor
