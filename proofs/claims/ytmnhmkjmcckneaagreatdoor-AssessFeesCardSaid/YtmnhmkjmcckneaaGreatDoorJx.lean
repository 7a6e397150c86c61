/- Contracts of the reference's texts of a record: identifications, names, cards, currencies, amounts (walks; printed by gen/h22.py). Contracts of the reference's check of a card and of a record (walks; printed by gen/h23.py). -/
import Derived.Test.YtmnhmkjmcckneaaGreatDoorHb
import Derived.Test.YtmnhmkjmcckneaaGreatDoorHs
namespace Go.Proofs.YtmnhmkjmcckneaaGreatDoor
open Go.RowKit
theorem idS_bad {s : ByteArray} (h : s.data.toList.all idC = false) : idS s = false := by unfold idS; rw [h, Bool.and_false]
theorem idS_fin {s : ByteArray} (h : s.data.toList.all idC = true) : idS s = decide (1 ≤ s.size ∧ s.size ≤ 16) := by unfold idS; rw [h, Bool.and_true]
theorem curB_bad {s : ByteArray} (h : s.data.toList.all upB = false) : curB s = false := by unfold curB; rw [h, Bool.and_false]
theorem curB_fin {s : ByteArray} (h : (s.data.toList.take (min 3 s.size)).all upB = true) : curB s = decide (s.size = 3) := by
 unfold curB
 by_cases e : s.size = 3
 · rw [e] at h
   have : s.data.toList.take (min 3 3) = s.data.toList := List.take_of_length_le (by simp; have : s.data.size = s.size := rfl; omega)
   rw [this] at h
   rw [h, Bool.and_true]
 · rw [decide_eq_false e, Bool.false_and]
set_option maxRecDepth 8000 in
set_option maxHeartbeats 4000000 in
theorem ridt_any (s : ByteArray) (w : World) (hs : s.size ≤ 1000) : Calls Tryz.prog 62 #[.string s] w (OneW (.bool (idS s)) w) := by
 obtain ⟨R, hR⟩ : ∃ R, R = idS s := ⟨_, rfl⟩
 rw [← hR]
 have hbad := Lib.hid (fun h : s.data.toList.all idC = false => hR.trans (idS_bad h))
 replace hR := Lib.hid hR
 go_enter Tryz.func62, Tryz.ntmps62
 go_wp2_with fail
 go_loopw [3] (fun i wr => ∃ k : Nat, k ≤ s.size ∧ i = .int .i64 k ∧ (s.data.toList.take k).all idC = true ∧ Ext w wr) (fun i _ => s.size - (intOf i).toNat)
 case atStart => exact ⟨0, by omega, rfl, by simp, Ext.refl _⟩
 case round =>
  obtain ⟨k, hk, rfl, hall, hE⟩ := hrel
  by_cases hlt : k < s.size
  · have hks := hlt
    have hst := all_takeB idC s k hks
    rw [hall, Bool.true_and] at hst
    have hb := all_badB idC s k hks
    have hic := idC_iff s[k]
    have hc256 := s[k].toNat_lt
    replace hst := Lib.hid hst
    replace hb := Lib.hid hb
    replace hall := Lib.hid hall
    clear hR
    have hiv : (0 ≤ s[k].toNat ∧ s[k].toNat ≤ 44) ∨ (45 ≤ s[k].toNat ∧ s[k].toNat ≤ 45) ∨ (46 ≤ s[k].toNat ∧ s[k].toNat ≤ 47) ∨ (48 ≤ s[k].toNat ∧ s[k].toNat ≤ 57) ∨ (58 ≤ s[k].toNat ∧ s[k].toNat ≤ 64) ∨ (65 ≤ s[k].toNat ∧ s[k].toNat ≤ 90) ∨ (91 ≤ s[k].toNat ∧ s[k].toNat ≤ 94) ∨ (95 ≤ s[k].toNat ∧ s[k].toNat ≤ 95) ∨ (96 ≤ s[k].toNat ∧ s[k].toNat ≤ 96) ∨ (97 ≤ s[k].toNat ∧ s[k].toNat ≤ 122) ∨ (123 ≤ s[k].toNat ∧ s[k].toNat ≤ 255) := by omega
    rcases hiv with hiv | hiv | hiv | hiv | hiv | hiv | hiv | hiv | hiv | hiv | hiv
    · obtain ⟨hlo, hhi⟩ := hiv
      have f0 : decide ((s[k].toNat : Int) < 97) = true := decide_eq_true (by omega)
      have f1 : decide ((122 : Int) < (s[k].toNat : Int)) = false := decide_eq_false (by omega)
      have f2 : decide ((s[k].toNat : Int) < 65) = true := decide_eq_true (by omega)
      have f3 : decide ((90 : Int) < (s[k].toNat : Int)) = false := decide_eq_false (by omega)
      have f4 : decide ((s[k].toNat : Int) < 48) = true := decide_eq_true (by omega)
      have f5 : decide ((57 : Int) < (s[k].toNat : Int)) = false := decide_eq_false (by omega)
      have f6 : ((s[k].toNat : Int) != 95) = true := by simp; omega
      have f6e : ((s[k].toNat : Int) == 95) = false := by simp; omega
      have f7 : ((s[k].toNat : Int) != 45) = true := by simp; omega
      have f7e : ((s[k].toNat : Int) == 45) = false := by simp; omega
      have hR := Lib.hid (hbad.out (hb.out (by cases hc : idC s[k] with | false => rfl | true => (have := hic.1 hc; omega))))
      clear hic
      go_wp2
      go_ret
      exact ⟨by rw [hR.out]; rfl, hE⟩
    · obtain ⟨hlo, hhi⟩ := hiv
      have f0 : decide ((s[k].toNat : Int) < 97) = true := decide_eq_true (by omega)
      have f1 : decide ((122 : Int) < (s[k].toNat : Int)) = false := decide_eq_false (by omega)
      have f2 : decide ((s[k].toNat : Int) < 65) = true := decide_eq_true (by omega)
      have f3 : decide ((90 : Int) < (s[k].toNat : Int)) = false := decide_eq_false (by omega)
      have f4 : decide ((s[k].toNat : Int) < 48) = true := decide_eq_true (by omega)
      have f5 : decide ((57 : Int) < (s[k].toNat : Int)) = false := decide_eq_false (by omega)
      have f6 : ((s[k].toNat : Int) != 95) = true := by simp; omega
      have f6e : ((s[k].toNat : Int) == 95) = false := by simp; omega
      have f7 : ((s[k].toNat : Int) != 45) = false := by simp; omega
      have f7e : ((s[k].toNat : Int) == 45) = true := by simp; omega
      have hg := Lib.hid (hic.2 (by omega))
      clear hic
      go_wp2
      go_roundw
      case rel => exact ⟨k + 1, by omega, by go_num, by rw [hst.out, hg.out], hE⟩
      case measure => simp [intOf]; omega
    · obtain ⟨hlo, hhi⟩ := hiv
      have f0 : decide ((s[k].toNat : Int) < 97) = true := decide_eq_true (by omega)
      have f1 : decide ((122 : Int) < (s[k].toNat : Int)) = false := decide_eq_false (by omega)
      have f2 : decide ((s[k].toNat : Int) < 65) = true := decide_eq_true (by omega)
      have f3 : decide ((90 : Int) < (s[k].toNat : Int)) = false := decide_eq_false (by omega)
      have f4 : decide ((s[k].toNat : Int) < 48) = true := decide_eq_true (by omega)
      have f5 : decide ((57 : Int) < (s[k].toNat : Int)) = false := decide_eq_false (by omega)
      have f6 : ((s[k].toNat : Int) != 95) = true := by simp; omega
      have f6e : ((s[k].toNat : Int) == 95) = false := by simp; omega
      have f7 : ((s[k].toNat : Int) != 45) = true := by simp; omega
      have f7e : ((s[k].toNat : Int) == 45) = false := by simp; omega
      have hR := Lib.hid (hbad.out (hb.out (by cases hc : idC s[k] with | false => rfl | true => (have := hic.1 hc; omega))))
      clear hic
      go_wp2
      go_ret
      exact ⟨by rw [hR.out]; rfl, hE⟩
    · obtain ⟨hlo, hhi⟩ := hiv
      have f0 : decide ((s[k].toNat : Int) < 97) = true := decide_eq_true (by omega)
      have f1 : decide ((122 : Int) < (s[k].toNat : Int)) = false := decide_eq_false (by omega)
      have f2 : decide ((s[k].toNat : Int) < 65) = true := decide_eq_true (by omega)
      have f3 : decide ((90 : Int) < (s[k].toNat : Int)) = false := decide_eq_false (by omega)
      have f4 : decide ((s[k].toNat : Int) < 48) = false := decide_eq_false (by omega)
      have f5 : decide ((57 : Int) < (s[k].toNat : Int)) = false := decide_eq_false (by omega)
      have f6 : ((s[k].toNat : Int) != 95) = true := by simp; omega
      have f6e : ((s[k].toNat : Int) == 95) = false := by simp; omega
      have f7 : ((s[k].toNat : Int) != 45) = true := by simp; omega
      have f7e : ((s[k].toNat : Int) == 45) = false := by simp; omega
      have hg := Lib.hid (hic.2 (by omega))
      clear hic
      go_wp2
      go_roundw
      case rel => exact ⟨k + 1, by omega, by go_num, by rw [hst.out, hg.out], hE⟩
      case measure => simp [intOf]; omega
    · obtain ⟨hlo, hhi⟩ := hiv
      have f0 : decide ((s[k].toNat : Int) < 97) = true := decide_eq_true (by omega)
      have f1 : decide ((122 : Int) < (s[k].toNat : Int)) = false := decide_eq_false (by omega)
      have f2 : decide ((s[k].toNat : Int) < 65) = true := decide_eq_true (by omega)
      have f3 : decide ((90 : Int) < (s[k].toNat : Int)) = false := decide_eq_false (by omega)
      have f4 : decide ((s[k].toNat : Int) < 48) = false := decide_eq_false (by omega)
      have f5 : decide ((57 : Int) < (s[k].toNat : Int)) = true := decide_eq_true (by omega)
      have f6 : ((s[k].toNat : Int) != 95) = true := by simp; omega
      have f6e : ((s[k].toNat : Int) == 95) = false := by simp; omega
      have f7 : ((s[k].toNat : Int) != 45) = true := by simp; omega
      have f7e : ((s[k].toNat : Int) == 45) = false := by simp; omega
      have hR := Lib.hid (hbad.out (hb.out (by cases hc : idC s[k] with | false => rfl | true => (have := hic.1 hc; omega))))
      clear hic
      go_wp2
      go_ret
      exact ⟨by rw [hR.out]; rfl, hE⟩
    · obtain ⟨hlo, hhi⟩ := hiv
      have f0 : decide ((s[k].toNat : Int) < 97) = true := decide_eq_true (by omega)
      have f1 : decide ((122 : Int) < (s[k].toNat : Int)) = false := decide_eq_false (by omega)
      have f2 : decide ((s[k].toNat : Int) < 65) = false := decide_eq_false (by omega)
      have f3 : decide ((90 : Int) < (s[k].toNat : Int)) = false := decide_eq_false (by omega)
      have f4 : decide ((s[k].toNat : Int) < 48) = false := decide_eq_false (by omega)
      have f5 : decide ((57 : Int) < (s[k].toNat : Int)) = true := decide_eq_true (by omega)
      have f6 : ((s[k].toNat : Int) != 95) = true := by simp; omega
      have f6e : ((s[k].toNat : Int) == 95) = false := by simp; omega
      have f7 : ((s[k].toNat : Int) != 45) = true := by simp; omega
      have f7e : ((s[k].toNat : Int) == 45) = false := by simp; omega
      have hg := Lib.hid (hic.2 (by omega))
      clear hic
      go_wp2
      go_roundw
      case rel => exact ⟨k + 1, by omega, by go_num, by rw [hst.out, hg.out], hE⟩
      case measure => simp [intOf]; omega
    · obtain ⟨hlo, hhi⟩ := hiv
      have f0 : decide ((s[k].toNat : Int) < 97) = true := decide_eq_true (by omega)
      have f1 : decide ((122 : Int) < (s[k].toNat : Int)) = false := decide_eq_false (by omega)
      have f2 : decide ((s[k].toNat : Int) < 65) = false := decide_eq_false (by omega)
      have f3 : decide ((90 : Int) < (s[k].toNat : Int)) = true := decide_eq_true (by omega)
      have f4 : decide ((s[k].toNat : Int) < 48) = false := decide_eq_false (by omega)
      have f5 : decide ((57 : Int) < (s[k].toNat : Int)) = true := decide_eq_true (by omega)
      have f6 : ((s[k].toNat : Int) != 95) = true := by simp; omega
      have f6e : ((s[k].toNat : Int) == 95) = false := by simp; omega
      have f7 : ((s[k].toNat : Int) != 45) = true := by simp; omega
      have f7e : ((s[k].toNat : Int) == 45) = false := by simp; omega
      have hR := Lib.hid (hbad.out (hb.out (by cases hc : idC s[k] with | false => rfl | true => (have := hic.1 hc; omega))))
      clear hic
      go_wp2
      go_ret
      exact ⟨by rw [hR.out]; rfl, hE⟩
    · obtain ⟨hlo, hhi⟩ := hiv
      have f0 : decide ((s[k].toNat : Int) < 97) = true := decide_eq_true (by omega)
      have f1 : decide ((122 : Int) < (s[k].toNat : Int)) = false := decide_eq_false (by omega)
      have f2 : decide ((s[k].toNat : Int) < 65) = false := decide_eq_false (by omega)
      have f3 : decide ((90 : Int) < (s[k].toNat : Int)) = true := decide_eq_true (by omega)
      have f4 : decide ((s[k].toNat : Int) < 48) = false := decide_eq_false (by omega)
      have f5 : decide ((57 : Int) < (s[k].toNat : Int)) = true := decide_eq_true (by omega)
      have f6 : ((s[k].toNat : Int) != 95) = false := by simp; omega
      have f6e : ((s[k].toNat : Int) == 95) = true := by simp; omega
      have f7 : ((s[k].toNat : Int) != 45) = true := by simp; omega
      have f7e : ((s[k].toNat : Int) == 45) = false := by simp; omega
      have hg := Lib.hid (hic.2 (by omega))
      clear hic
      go_wp2
      go_roundw
      case rel => exact ⟨k + 1, by omega, by go_num, by rw [hst.out, hg.out], hE⟩
      case measure => simp [intOf]; omega
    · obtain ⟨hlo, hhi⟩ := hiv
      have f0 : decide ((s[k].toNat : Int) < 97) = true := decide_eq_true (by omega)
      have f1 : decide ((122 : Int) < (s[k].toNat : Int)) = false := decide_eq_false (by omega)
      have f2 : decide ((s[k].toNat : Int) < 65) = false := decide_eq_false (by omega)
      have f3 : decide ((90 : Int) < (s[k].toNat : Int)) = true := decide_eq_true (by omega)
      have f4 : decide ((s[k].toNat : Int) < 48) = false := decide_eq_false (by omega)
      have f5 : decide ((57 : Int) < (s[k].toNat : Int)) = true := decide_eq_true (by omega)
      have f6 : ((s[k].toNat : Int) != 95) = true := by simp; omega
      have f6e : ((s[k].toNat : Int) == 95) = false := by simp; omega
      have f7 : ((s[k].toNat : Int) != 45) = true := by simp; omega
      have f7e : ((s[k].toNat : Int) == 45) = false := by simp; omega
      have hR := Lib.hid (hbad.out (hb.out (by cases hc : idC s[k] with | false => rfl | true => (have := hic.1 hc; omega))))
      clear hic
      go_wp2
      go_ret
      exact ⟨by rw [hR.out]; rfl, hE⟩
    · obtain ⟨hlo, hhi⟩ := hiv
      have f0 : decide ((s[k].toNat : Int) < 97) = false := decide_eq_false (by omega)
      have f1 : decide ((122 : Int) < (s[k].toNat : Int)) = false := decide_eq_false (by omega)
      have f2 : decide ((s[k].toNat : Int) < 65) = false := decide_eq_false (by omega)
      have f3 : decide ((90 : Int) < (s[k].toNat : Int)) = true := decide_eq_true (by omega)
      have f4 : decide ((s[k].toNat : Int) < 48) = false := decide_eq_false (by omega)
      have f5 : decide ((57 : Int) < (s[k].toNat : Int)) = true := decide_eq_true (by omega)
      have f6 : ((s[k].toNat : Int) != 95) = true := by simp; omega
      have f6e : ((s[k].toNat : Int) == 95) = false := by simp; omega
      have f7 : ((s[k].toNat : Int) != 45) = true := by simp; omega
      have f7e : ((s[k].toNat : Int) == 45) = false := by simp; omega
      have hg := Lib.hid (hic.2 (by omega))
      clear hic
      go_wp2
      go_roundw
      case rel => exact ⟨k + 1, by omega, by go_num, by rw [hst.out, hg.out], hE⟩
      case measure => simp [intOf]; omega
    · obtain ⟨hlo, hhi⟩ := hiv
      have f0 : decide ((s[k].toNat : Int) < 97) = false := decide_eq_false (by omega)
      have f1 : decide ((122 : Int) < (s[k].toNat : Int)) = true := decide_eq_true (by omega)
      have f2 : decide ((s[k].toNat : Int) < 65) = false := decide_eq_false (by omega)
      have f3 : decide ((90 : Int) < (s[k].toNat : Int)) = true := decide_eq_true (by omega)
      have f4 : decide ((s[k].toNat : Int) < 48) = false := decide_eq_false (by omega)
      have f5 : decide ((57 : Int) < (s[k].toNat : Int)) = true := decide_eq_true (by omega)
      have f6 : ((s[k].toNat : Int) != 95) = true := by simp; omega
      have f6e : ((s[k].toNat : Int) == 95) = false := by simp; omega
      have f7 : ((s[k].toNat : Int) != 45) = true := by simp; omega
      have f7e : ((s[k].toNat : Int) == 45) = false := by simp; omega
      have hR := Lib.hid (hbad.out (hb.out (by cases hc : idC s[k] with | false => rfl | true => (have := hic.1 hc; omega))))
      clear hic
      go_wp2
      go_ret
      exact ⟨by rw [hR.out]; rfl, hE⟩
  · have hkk : s.data.toList.take k = s.data.toList := List.take_of_length_le (by simp; have : s.data.size = s.size := rfl; omega)
    rw [hkk] at hall
    have hR2 := Lib.hid (hR.out.trans (idS_fin hall))
    clear hkk hall hR hbad
    by_cases h1 : 1 ≤ s.size
    · have d1 : decide ((1 : Int) ≤ (s.size : Int)) = true := decide_eq_true (by omega)
      by_cases h2 : s.size ≤ 16
      · have d2 : decide ((s.size : Int) ≤ 16) = true := decide_eq_true (by omega)
        replace hR2 := Lib.hid (hR2.out.trans (decide_eq_true ⟨h1, h2⟩))
        go_wp2
        go_ret
        exact ⟨by rw [hR2.out]; rfl, hE⟩
      · have d2 : decide ((s.size : Int) ≤ 16) = false := decide_eq_false (by omega)
        replace hR2 := Lib.hid (hR2.out.trans (decide_eq_false (fun h => h2 h.2)))
        go_wp2
        go_ret
        exact ⟨by rw [hR2.out]; rfl, hE⟩
    · have d1 : decide ((1 : Int) ≤ (s.size : Int)) = false := decide_eq_false (by omega)
      replace hR2 := Lib.hid (hR2.out.trans (decide_eq_false (fun h => h1 h.1)))
      go_wp2
      go_ret
      exact ⟨by rw [hR2.out]; rfl, hE⟩
set_option maxRecDepth 8000 in
set_option maxHeartbeats 4000000 in
theorem rdig_any (s : ByteArray) (w : World) (hs : s.size ≤ 1000) : Calls Tryz.prog 91 #[.string s] w (OneW (.bool (s.data.toList.all dgtB)) w) := by
 obtain ⟨R, hR⟩ : ∃ R, R = s.data.toList.all dgtB := ⟨_, rfl⟩
 rw [← hR]
 have hbad := Lib.hid (fun h : s.data.toList.all dgtB = false => hR.trans (id h))
 replace hR := Lib.hid hR
 go_enter Tryz.func91, Tryz.ntmps91
 go_wp2_with fail
 go_loopw [3] (fun i wr => ∃ k : Nat, k ≤ s.size ∧ i = .int .i64 k ∧ (s.data.toList.take k).all dgtB = true ∧ Ext w wr) (fun i _ => s.size - (intOf i).toNat)
 case atStart => exact ⟨0, by omega, rfl, by simp, Ext.refl _⟩
 case round =>
  obtain ⟨k, hk, rfl, hall, hE⟩ := hrel
  by_cases hlt : k < s.size
  · have hks := hlt
    have hst := all_takeB dgtB s k hks
    rw [hall, Bool.true_and] at hst
    have hb := all_badB dgtB s k hks
    have hic := dgtB_iff s[k]
    have hc256 := s[k].toNat_lt
    replace hst := Lib.hid hst
    replace hb := Lib.hid hb
    replace hall := Lib.hid hall
    clear hR
    have hiv : (0 ≤ s[k].toNat ∧ s[k].toNat ≤ 47) ∨ (48 ≤ s[k].toNat ∧ s[k].toNat ≤ 57) ∨ (58 ≤ s[k].toNat ∧ s[k].toNat ≤ 255) := by omega
    rcases hiv with hiv | hiv | hiv
    · obtain ⟨hlo, hhi⟩ := hiv
      have f0 : decide ((s[k].toNat : Int) < 48) = true := decide_eq_true (by omega)
      have f1 : decide ((57 : Int) < (s[k].toNat : Int)) = false := decide_eq_false (by omega)
      have hR := Lib.hid (hbad.out (hb.out (by cases hc : dgtB s[k] with | false => rfl | true => (have := hic.1 hc; omega))))
      clear hic
      go_wp2
      go_ret
      exact ⟨by rw [hR.out]; rfl, hE⟩
    · obtain ⟨hlo, hhi⟩ := hiv
      have f0 : decide ((s[k].toNat : Int) < 48) = false := decide_eq_false (by omega)
      have f1 : decide ((57 : Int) < (s[k].toNat : Int)) = false := decide_eq_false (by omega)
      have hg := Lib.hid (hic.2 (by omega))
      clear hic
      go_wp2
      go_roundw
      case rel => exact ⟨k + 1, by omega, by go_num, by rw [hst.out, hg.out], hE⟩
      case measure => simp [intOf]; omega
    · obtain ⟨hlo, hhi⟩ := hiv
      have f0 : decide ((s[k].toNat : Int) < 48) = false := decide_eq_false (by omega)
      have f1 : decide ((57 : Int) < (s[k].toNat : Int)) = true := decide_eq_true (by omega)
      have hR := Lib.hid (hbad.out (hb.out (by cases hc : dgtB s[k] with | false => rfl | true => (have := hic.1 hc; omega))))
      clear hic
      go_wp2
      go_ret
      exact ⟨by rw [hR.out]; rfl, hE⟩
  · have hkk : s.data.toList.take k = s.data.toList := List.take_of_length_le (by simp; have : s.data.size = s.size := rfl; omega)
    rw [hkk] at hall
    have hR2 := Lib.hid (hR.out.trans hall)
    clear hkk hall hR hbad
    go_wp2
    go_ret
    exact ⟨by rw [hR2.out]; rfl, hE⟩
set_option maxRecDepth 8000 in
set_option maxHeartbeats 4000000 in
theorem rcur_any (s : ByteArray) (w : World) (hs : s.size ≤ 1000) : Calls Tryz.prog 93 #[.string s] w (OneW (.bool (curB s)) w) := by
 obtain ⟨R, hR⟩ : ∃ R, R = curB s := ⟨_, rfl⟩
 rw [← hR]
 have hbad := Lib.hid (fun h : s.data.toList.all upB = false => hR.trans (curB_bad h))
 replace hR := Lib.hid hR
 go_enter Tryz.func93, Tryz.ntmps93
 go_wp2_with fail
 go_loopw [3] (fun i wr => ∃ k : Nat, (k ≤ s.size ∧ k ≤ 3) ∧ i = .int .i64 k ∧ (s.data.toList.take k).all upB = true ∧ Ext w wr) (fun i _ => s.size - (intOf i).toNat)
 case atStart => exact ⟨0, by omega, rfl, by simp, Ext.refl _⟩
 case round =>
  obtain ⟨k, hk, rfl, hall, hE⟩ := hrel
  by_cases hlt : k < s.size ∧ k < 3
  · have hks := hlt.1
    have hk3 := hlt.2
    have hst := all_takeB upB s k hks
    rw [hall, Bool.true_and] at hst
    have hb := all_badB upB s k hks
    have hic := upB_iff s[k]
    have hc256 := s[k].toNat_lt
    replace hst := Lib.hid hst
    replace hb := Lib.hid hb
    replace hall := Lib.hid hall
    clear hR
    have hiv : (0 ≤ s[k].toNat ∧ s[k].toNat ≤ 64) ∨ (65 ≤ s[k].toNat ∧ s[k].toNat ≤ 90) ∨ (91 ≤ s[k].toNat ∧ s[k].toNat ≤ 255) := by omega
    rcases hiv with hiv | hiv | hiv
    · obtain ⟨hlo, hhi⟩ := hiv
      have f0 : decide ((s[k].toNat : Int) < 65) = true := decide_eq_true (by omega)
      have f1 : decide ((90 : Int) < (s[k].toNat : Int)) = false := decide_eq_false (by omega)
      have hR := Lib.hid (hbad.out (hb.out (by cases hc : upB s[k] with | false => rfl | true => (have := hic.1 hc; omega))))
      clear hic
      go_wp2
      go_ret
      exact ⟨by rw [hR.out]; rfl, hE⟩
    · obtain ⟨hlo, hhi⟩ := hiv
      have f0 : decide ((s[k].toNat : Int) < 65) = false := decide_eq_false (by omega)
      have f1 : decide ((90 : Int) < (s[k].toNat : Int)) = false := decide_eq_false (by omega)
      have hg := Lib.hid (hic.2 (by omega))
      clear hic
      go_wp2
      go_roundw
      case rel => exact ⟨k + 1, by omega, by go_num, by rw [hst.out, hg.out], hE⟩
      case measure => simp [intOf]; omega
    · obtain ⟨hlo, hhi⟩ := hiv
      have f0 : decide ((s[k].toNat : Int) < 65) = false := decide_eq_false (by omega)
      have f1 : decide ((90 : Int) < (s[k].toNat : Int)) = true := decide_eq_true (by omega)
      have hR := Lib.hid (hbad.out (hb.out (by cases hc : upB s[k] with | false => rfl | true => (have := hic.1 hc; omega))))
      clear hic
      go_wp2
      go_ret
      exact ⟨by rw [hR.out]; rfl, hE⟩
  · have hkk : k = min 3 s.size := by omega
    have hR2 := Lib.hid (hR.out.trans (curB_fin (by rw [← hkk]; exact hall)))
    clear hall hR hbad
    have d1 : (decide ((k : Int) < (s.size : Int)) && decide ((k : Int) < 3)) = false := by simp; omega
    by_cases h3 : s.size = 3
    · have d2 : ((s.size : Int) == 3) = true := by simp; omega
      replace hR2 := Lib.hid (hR2.out.trans (decide_eq_true h3))
      by_cases hks : k < s.size
      · exfalso; omega
      · go_wp2
        go_ret
        exact ⟨by rw [hR2.out]; rfl, hE⟩
    · have d2 : ((s.size : Int) == 3) = false := by simp; omega
      replace hR2 := Lib.hid (hR2.out.trans (decide_eq_false h3))
      by_cases hks : k < s.size
      · have d3 : decide ((k : Int) < 3) = false := decide_eq_false (by omega)
        go_wp2
        go_ret
        exact ⟨by rw [hR2.out]; rfl, hE⟩
      · go_wp2
        go_ret
        exact ⟨by rw [hR2.out]; rfl, hE⟩
set_option maxHeartbeats 1000000 in
theorem r1within_any (n : Int) (w : World) : Calls Tryz.prog 94 #[.int .i64 n] w (OneW (.bool (totalB n)) w) := by
 unfold totalB
 by_cases h1 : -4503599627370496 ≤ n
 · by_cases h2 : n ≤ 4503599627370496
   · have d1 : decide (-4503599627370496 ≤ n) = true := decide_eq_true h1
     have d2 : decide (n ≤ 4503599627370496) = true := decide_eq_true h2
     rw [d1, d2]
     clear h1 h2
     go_enter Tryz.func94, Tryz.ntmps94
     go_wp2
     go_ret
     exact ⟨rfl, Ext.refl _⟩
   · have d1 : decide (-4503599627370496 ≤ n) = true := decide_eq_true h1
     have d2 : decide (n ≤ 4503599627370496) = false := decide_eq_false h2
     rw [d1, d2]
     clear h1 h2
     go_enter Tryz.func94, Tryz.ntmps94
     go_wp2
     go_ret
     exact ⟨rfl, Ext.refl _⟩
 · have d1 : decide (-4503599627370496 ≤ n) = false := decide_eq_false h1
   rw [d1]
   clear h1
   go_enter Tryz.func94, Tryz.ntmps94
   go_wp2
   go_ret
   exact ⟨rfl, Ext.refl _⟩
set_option maxHeartbeats 1000000 in
theorem r1check_any (n : Int) (cur : ByteArray) (w : World) (hs : cur.size ≤ 1000) : Calls Tryz.prog 65 #[.agg #[.int .i64 n, .string cur]] w (OneW (.int .i64 (monE n cur)) w) := by
 go_enter Tryz.func65, Tryz.ntmps65
 go_wp2_with fail
 refine (rcur_any cur _ hs).mono ?_
 rintro e w1 ⟨rfl, hE1⟩
 have hb := (Blk.new w #[.int .i64 n, .string cur] 26).ext hE1
 have hE : Ext w w1 := Ext.trans xt hE1
 have x0 : w1.cell? ⟨w.heap.size, 0, none⟩ = some (.int .i64 n) := (hb.cell 0).trans rfl
 cases hc : curB cur with
 | false =>
  have hM := Lib.hid (show monE n cur = 11 by unfold monE; rw [if_pos hc])
  clear hb hE1 hc
  go_wp2
  go_ret
  exact ⟨by rw [hM.out]; rfl, hE⟩
 | true =>
  clear hb hE1
  go_wp2_with fail
  refine (r1within_any n _).mono ?_
  rintro e w2 ⟨rfl, hE2⟩
  cases ht : totalB n with
  | false =>
   have hM := Lib.hid (show monE n cur = 4 by unfold monE; rw [if_neg (by rw [hc]; decide), if_pos ht])
   clear hc ht
   go_wp2
   go_ret
   exact ⟨by rw [hM.out]; rfl, hE.trans hE2⟩
  | true =>
   have hM := Lib.hid (show monE n cur = 0 by unfold monE; rw [if_neg (by rw [hc]; decide), if_neg (by rw [ht]; decide)])
   clear hc ht
   go_wp2
   go_ret
   exact ⟨by rw [hM.out]; rfl, hE.trans hE2⟩
set_option maxRecDepth 8000 in
set_option maxHeartbeats 1000000 in
theorem rletter_any (c : UInt8) (w : World) : Calls Tryz.prog 89 #[.int .u8 c.toNat] w (OneW (.bool (ltrB c)) w) := by
 have hic := ltr_iff c
 have hc256 := c.toNat_lt
 generalize ltrB c = R at *
 replace hic := Lib.hid hic
 have hiv : (0 ≤ c.toNat ∧ c.toNat ≤ 64) ∨ (65 ≤ c.toNat ∧ c.toNat ≤ 90) ∨ (91 ≤ c.toNat ∧ c.toNat ≤ 96) ∨ (97 ≤ c.toNat ∧ c.toNat ≤ 122) ∨ (123 ≤ c.toNat ∧ c.toNat ≤ 255) := by omega
 rcases hiv with hiv | hiv | hiv | hiv | hiv
 · obtain ⟨hlo, hhi⟩ := hiv
   have f0 : decide ((97 : Int) ≤ (c.toNat : Int)) = false := decide_eq_false (by omega)
   have f1 : decide ((c.toNat : Int) ≤ 122) = true := decide_eq_true (by omega)
   have f2 : decide ((65 : Int) ≤ (c.toNat : Int)) = false := decide_eq_false (by omega)
   have f3 : decide ((c.toNat : Int) ≤ 90) = true := decide_eq_true (by omega)
   have hR := Lib.hid (show R = false by cases hc : R with | false => rfl | true => (have := hic.out.1 hc; omega))
   rw [hR.out]
   clear hic hR
   go_enter Tryz.func89, Tryz.ntmps89
   go_wp2
   go_ret
   exact ⟨rfl, Ext.refl _⟩
 · obtain ⟨hlo, hhi⟩ := hiv
   have f0 : decide ((97 : Int) ≤ (c.toNat : Int)) = false := decide_eq_false (by omega)
   have f1 : decide ((c.toNat : Int) ≤ 122) = true := decide_eq_true (by omega)
   have f2 : decide ((65 : Int) ≤ (c.toNat : Int)) = true := decide_eq_true (by omega)
   have f3 : decide ((c.toNat : Int) ≤ 90) = true := decide_eq_true (by omega)
   have hR := Lib.hid (show R = true by exact hic.out.2 (by omega))
   rw [hR.out]
   clear hic hR
   go_enter Tryz.func89, Tryz.ntmps89
   go_wp2
   go_ret
   exact ⟨rfl, Ext.refl _⟩
 · obtain ⟨hlo, hhi⟩ := hiv
   have f0 : decide ((97 : Int) ≤ (c.toNat : Int)) = false := decide_eq_false (by omega)
   have f1 : decide ((c.toNat : Int) ≤ 122) = true := decide_eq_true (by omega)
   have f2 : decide ((65 : Int) ≤ (c.toNat : Int)) = true := decide_eq_true (by omega)
   have f3 : decide ((c.toNat : Int) ≤ 90) = false := decide_eq_false (by omega)
   have hR := Lib.hid (show R = false by cases hc : R with | false => rfl | true => (have := hic.out.1 hc; omega))
   rw [hR.out]
   clear hic hR
   go_enter Tryz.func89, Tryz.ntmps89
   go_wp2
   go_ret
   exact ⟨rfl, Ext.refl _⟩
 · obtain ⟨hlo, hhi⟩ := hiv
   have f0 : decide ((97 : Int) ≤ (c.toNat : Int)) = true := decide_eq_true (by omega)
   have f1 : decide ((c.toNat : Int) ≤ 122) = true := decide_eq_true (by omega)
   have f2 : decide ((65 : Int) ≤ (c.toNat : Int)) = true := decide_eq_true (by omega)
   have f3 : decide ((c.toNat : Int) ≤ 90) = false := decide_eq_false (by omega)
   have hR := Lib.hid (show R = true by exact hic.out.2 (by omega))
   rw [hR.out]
   clear hic hR
   go_enter Tryz.func89, Tryz.ntmps89
   go_wp2
   go_ret
   exact ⟨rfl, Ext.refl _⟩
 · obtain ⟨hlo, hhi⟩ := hiv
   have f0 : decide ((97 : Int) ≤ (c.toNat : Int)) = true := decide_eq_true (by omega)
   have f1 : decide ((c.toNat : Int) ≤ 122) = false := decide_eq_false (by omega)
   have f2 : decide ((65 : Int) ≤ (c.toNat : Int)) = true := decide_eq_true (by omega)
   have f3 : decide ((c.toNat : Int) ≤ 90) = false := decide_eq_false (by omega)
   have hR := Lib.hid (show R = false by cases hc : R with | false => rfl | true => (have := hic.out.1 hc; omega))
   rw [hR.out]
   clear hic hR
   go_enter Tryz.func89, Tryz.ntmps89
   go_wp2
   go_ret
   exact ⟨rfl, Ext.refl _⟩
set_option maxRecDepth 8000 in
set_option maxHeartbeats 1000000 in
theorem rdigit_any (c : UInt8) (w : World) : Calls Tryz.prog 128 #[.int .u8 c.toNat] w (OneW (.bool (dgtB c)) w) := by
 have hic := dgtB_iff c
 have hc256 := c.toNat_lt
 generalize dgtB c = R at *
 replace hic := Lib.hid hic
 have hiv : (0 ≤ c.toNat ∧ c.toNat ≤ 47) ∨ (48 ≤ c.toNat ∧ c.toNat ≤ 57) ∨ (58 ≤ c.toNat ∧ c.toNat ≤ 255) := by omega
 rcases hiv with hiv | hiv | hiv
 · obtain ⟨hlo, hhi⟩ := hiv
   have f0 : decide ((48 : Int) ≤ (c.toNat : Int)) = false := decide_eq_false (by omega)
   have f1 : decide ((c.toNat : Int) ≤ 57) = true := decide_eq_true (by omega)
   have hR := Lib.hid (show R = false by cases hc : R with | false => rfl | true => (have := hic.out.1 hc; omega))
   rw [hR.out]
   clear hic hR
   go_enter Tryz.func128, Tryz.ntmps128
   go_wp2
   go_ret
   exact ⟨rfl, Ext.refl _⟩
 · obtain ⟨hlo, hhi⟩ := hiv
   have f0 : decide ((48 : Int) ≤ (c.toNat : Int)) = true := decide_eq_true (by omega)
   have f1 : decide ((c.toNat : Int) ≤ 57) = true := decide_eq_true (by omega)
   have hR := Lib.hid (show R = true by exact hic.out.2 (by omega))
   rw [hR.out]
   clear hic hR
   go_enter Tryz.func128, Tryz.ntmps128
   go_wp2
   go_ret
   exact ⟨rfl, Ext.refl _⟩
 · obtain ⟨hlo, hhi⟩ := hiv
   have f0 : decide ((48 : Int) ≤ (c.toNat : Int)) = true := decide_eq_true (by omega)
   have f1 : decide ((c.toNat : Int) ≤ 57) = false := decide_eq_false (by omega)
   have hR := Lib.hid (show R = false by cases hc : R with | false => rfl | true => (have := hic.out.1 hc; omega))
   rw [hR.out]
   clear hic hR
   go_enter Tryz.func128, Tryz.ntmps128
   go_wp2
   go_ret
   exact ⟨rfl, Ext.refl _⟩
def WordP (s : ByteArray) (w : World) (e : Ending) (w' : World) : Prop := ∃ m : Nat, e = .returned (.int .i64 m) ∧ (decide ((m : Int) = (s.size : Int))) = s.data.toList.all wrdB ∧ Ext w w'
theorem wrd_eq (c : UInt8) : wrdB c = (ltrB c || dgtB c || decide (c.toNat = 95)) := rfl
set_option maxRecDepth 8000 in
set_option maxHeartbeats 4000000 in
theorem rword_any (s : ByteArray) (w : World) (hs : s.size ≤ 1000) : Calls Tryz.prog 90 #[.string s, .int .i64 0] w (WordP s w) := by
 go_enter Tryz.func90, Tryz.ntmps90
 go_wp2_with fail
 go_loopw [1] (fun i wr => ∃ k : Nat, k ≤ s.size ∧ i = .int .i64 k ∧ (s.data.toList.take k).all wrdB = true ∧ Ext w wr) (fun i _ => s.size - (intOf i).toNat)
 case atStart => exact ⟨0, by omega, rfl, by simp, Ext.refl _⟩
 case round =>
  obtain ⟨k, hk, rfl, hall, hE⟩ := hrel
  by_cases hlt : k < s.size
  · have hst := all_takeB wrdB s k hlt
    rw [hall, Bool.true_and] at hst
    have hb := all_badB wrdB s k hlt
    have hwe := wrd_eq s[k]
    have kL := Lib.hid (fun w1 => rletter_any s[k] w1)
    have kD := Lib.hid (fun w1 => rdigit_any s[k] w1)
    replace hst := Lib.hid hst
    replace hb := Lib.hid hb
    replace hall := Lib.hid hall
    replace hwe := Lib.hid hwe
    generalize ltrB s[k] = bl at *
    generalize dgtB s[k] = bd at *
    go_wp2_with fail
    refine (kL.out _).mono ?_
    rintro e w1 ⟨rfl, hE1⟩
    replace hE := hE.trans hE1
    clear hE1 kL
    cases bl with
    | true =>
     have hw := Lib.hid (show wrdB s[k] = true by rw [hwe.out]; rfl)
     clear kD
     go_wp2
     go_roundw
     case rel => exact ⟨k + 1, by omega, by go_num, by rw [hst.out, hw.out], xt⟩
     case measure => simp [intOf]; omega
    | false =>
     go_wp2_with fail
     refine (kD.out _).mono ?_
     rintro e w2 ⟨rfl, hE2⟩
     replace hE := hE.trans hE2
     clear hE2 kD
     cases bd with
     | true =>
      have hw := Lib.hid (show wrdB s[k] = true by rw [hwe.out]; rfl)
      go_wp2
      go_roundw
      case rel => exact ⟨k + 1, by omega, by go_num, by rw [hst.out, hw.out], xt⟩
      case measure => simp [intOf]; omega
     | false =>
      by_cases h95 : s[k].toNat = 95
      · have d1 : ((s[k].toNat : Int) == 95) = true := by simp; omega
        have hw := Lib.hid (show wrdB s[k] = true by rw [hwe.out, decide_eq_true h95]; rfl)
        go_wp2
        go_roundw
        case rel => exact ⟨k + 1, by omega, by go_num, by rw [hst.out, hw.out], xt⟩
        case measure => simp [intOf]; omega
      · have d1 : ((s[k].toNat : Int) == 95) = false := by simp; omega
        have hw := Lib.hid (hb.out (show wrdB s[k] = false by rw [hwe.out, decide_eq_false h95]; rfl))
        go_wp2
        go_ret
        exact ⟨k, rfl, by rw [hw.out]; exact decide_eq_false (by omega), hE⟩
  · have hkk : s.data.toList.take k = s.data.toList := List.take_of_length_le (by simp; have : s.data.size = s.size := rfl; omega)
    rw [hkk] at hall
    replace hall := Lib.hid hall
    clear hkk
    go_wp2
    go_ret
    exact ⟨k, rfl, by rw [hall.out]; exact decide_eq_true (by omega), hE⟩
set_option maxRecDepth 8000 in
set_option maxHeartbeats 1000000 in
theorem rname8_any (s : ByteArray) (w : World) (hs : s.size ≤ 1000) : Calls Tryz.prog 63 #[.string s] w (OneW (.bool (nameB s)) w) := by
 by_cases h0 : s.size = 0
 · have e0 := emp_list h0
   rw [show nameB s = false by simp [nameB, h0]]
   go_enter Tryz.func63, Tryz.ntmps63
   go_wp2
   go_ret
   exact ⟨rfl, Ext.refl _⟩
 · have e0 := ne_list h0
   have e1 := ne_isE h0
   by_cases h16 : s.size ≤ 16
   · have hn := Lib.hid (nameB_at s (by omega) h16)
     have d1 : decide ((s.size : Int) ≤ 16) = true := decide_eq_true (by omega)
     have hp : 0 < s.size := by omega
     have kL := Lib.hid (fun w1 => rletter_any s[0] w1)
     have kW := Lib.hid (fun w1 => rword_any s w1 hs)
     generalize ltrB s[0] = bl at *
     generalize nameB s = R at *
     go_enter Tryz.func63, Tryz.ntmps63
     go_wp2_with fail
     refine (kL.out _).mono ?_
     rintro e w1 ⟨rfl, hE1⟩
     clear kL
     cases bl with
     | false =>
      have hR := Lib.hid (hn.out.trans (Bool.false_and _))
      clear hn
      go_wp2
      go_ret
      exact ⟨by rw [hR.out]; rfl, hE1⟩
     | true =>
      have hR := Lib.hid (hn.out.trans (Bool.true_and _))
      clear hn
      go_wp2_with fail
      refine (kW.out _).mono ?_
      rintro e w2 ⟨m, rfl, hm, hE2⟩
      replace hR := Lib.hid (hR.out.trans hm.symm)
      clear hm
      by_cases hms : (m : Int) = (s.size : Int)
      · have d2 : ((m : Int) == (s.size : Int)) = true := by simp; omega
        replace hR := Lib.hid (hR.out.trans (decide_eq_true hms))
        clear hms
        go_wp2
        go_ret
        exact ⟨by rw [hR.out]; rfl, hE1.trans hE2⟩
      · have d2 : ((m : Int) == (s.size : Int)) = false := by simp; omega
        replace hR := Lib.hid (hR.out.trans (decide_eq_false hms))
        clear hms
        go_wp2
        go_ret
        exact ⟨by rw [hR.out]; rfl, hE1.trans hE2⟩
   · have d1 : decide ((s.size : Int) ≤ 16) = false := decide_eq_false (by omega)
     rw [show nameB s = false by simp [nameB]; intro h; omega]
     go_enter Tryz.func63, Tryz.ntmps63
     go_wp2
     go_ret
     exact ⟨rfl, Ext.refl _⟩
end Go.Proofs.YtmnhmkjmcckneaaGreatDoor
namespace Go.Proofs.YtmnhmkjmcckneaaGreatDoor
open Go.RowKit
set_option maxRecDepth 8000 in
set_option maxHeartbeats 4000000 in
theorem r4sum_any (s : ByteArray) (w : World) (hall : s.data.toList.all dgtB = true) (hs : s.size ≤ 1000) : Calls Tryz.prog 129 #[.string s, .int .i64 1] w (OneW (.int .i64 (luhnTo s s.size)) w) := by
 have hbd := Lib.hid (luhnTo_bd s hall)
 have hdg := Lib.hid (getD_dgt s hall)
 have hstep := Lib.hid (fun k => show luhnTo s (k + 1) = luhnTo s k + luhnD (decide ((s.size - k) % 2 = 0)) (((s.data.toList.getD k 48).toNat : Int) - 48) from rfl)
 have hget := Lib.hid (getD_at s)
 have h00 : luhnTo s 0 = 0 := rfl
 replace hall := Lib.hid hall
 go_enter Tryz.func129, Tryz.ntmps129
 go_wp2_with fail
 go_loopw [5, 6] (fun t i wr => ∃ k : Nat, k ≤ s.size ∧ i = .int .i64 k ∧ t = .int .i64 (luhnTo s k) ∧ Ext w wr) (fun _ i _ => s.size - (intOf i).toNat)
 case atStart => exact ⟨0, Nat.zero_le _, rfl, by rw [h00], Ext.refl _⟩
 case round =>
  clear h00
  obtain ⟨k, hk, rfl, rfl, hE⟩ := hrel
  by_cases hlt : k < s.size
  · have hb := hbd.out k
    have hd := hdg.out k
    have hst := hstep.out k
    rw [hget.out k hlt] at hd hst
    have hc256 := s[k].toNat_lt
    generalize luhnTo s k = S0 at *
    obtain ⟨m, hm⟩ : ∃ m : Nat, m = s[k].toNat := ⟨_, rfl⟩
    rw [← hm] at hd hst
    have hmm := Lib.hid hm
    have e1 : IntKind.u8.wrap ((s[k].toNat : Int) - 48) = (m : Int) - 48 := by rw [← hm, IntKind.wrap_u8]; omega
    clear hm hc256
    have e2 : wrap64 ((m : Int) - 48) = (m : Int) - 48 := by unfold wrap64; omega
    have e3 : wrap64 ((s.size : Int) - 1) = (s.size : Int) - 1 := by unfold wrap64; omega
    have e3b : wrap64 ((s.size : Int) - 1 - (k : Int)) = (s.size : Int) - 1 - (k : Int) := by unfold wrap64; omega
    have e3c : wrap64 ((s.size : Int) - 1 - (k : Int) + 1) = ((s.size - k : Nat) : Int) := by unfold wrap64; omega
    have e4 : (((s.size - k : Nat) : Int)).tmod 2 = ((s.size - k) % 2 : Nat) := by rw [Int.tmod_eq_emod_of_nonneg (by omega)]; omega
    have e5 : wrap64 (2 * ((m : Int) - 48)) = 2 * ((m : Int) - 48) := by unfold wrap64; omega
    have e6 : wrap64 (2 * ((m : Int) - 48) - 9) = 2 * ((m : Int) - 48) - 9 := by unfold wrap64; omega
    by_cases hp : (s.size - k) % 2 = 0
    · rw [decide_eq_true hp] at hst
      have d1 : ((((s.size - k) % 2 : Nat) : Int) == 0) = true := by rw [hp]; rfl
      by_cases h9 : 9 < 2 * ((m : Int) - 48)
      · have d2 : decide ((9 : Int) < 2 * ((m : Int) - 48)) = true := decide_eq_true (by omega)
        have hS : luhnTo s (k + 1) = S0 + (2 * ((m : Int) - 48) - 9) := by rw [hst]; unfold luhnD; rw [if_pos rfl, if_pos h9]
        replace hS := Lib.hid hS
        clear hst
        go_wp2
        go_roundw
        case rel => exact ⟨k + 1, by omega, by go_num, by rw [hS.out], hE⟩
        case measure => simp [intOf]; omega
      · have d2 : decide ((9 : Int) < 2 * ((m : Int) - 48)) = false := decide_eq_false (by omega)
        have hS : luhnTo s (k + 1) = S0 + 2 * ((m : Int) - 48) := by rw [hst]; unfold luhnD; rw [if_pos rfl, if_neg h9]
        replace hS := Lib.hid hS
        clear hst
        go_wp2
        go_roundw
        case rel => exact ⟨k + 1, by omega, by go_num, by rw [hS.out], hE⟩
        case measure => simp [intOf]; omega
    · rw [decide_eq_false hp] at hst
      have d1 : ((((s.size - k) % 2 : Nat) : Int) == 0) = false := by simp; omega
      have hS : luhnTo s (k + 1) = S0 + ((m : Int) - 48) := by rw [hst]; unfold luhnD; rw [if_neg (by decide)]
      replace hS := Lib.hid hS
      clear hst
      go_wp2
      go_roundw
      case rel => exact ⟨k + 1, by omega, by go_num, by rw [hS.out], hE⟩
      case measure => simp [intOf]; omega
  · obtain rfl : k = s.size := by omega
    generalize luhnTo s s.size = S0 at *
    go_wp2
    go_ret
    exact ⟨rfl, hE⟩
set_option maxHeartbeats 1000000 in
theorem r4luhn_any (s : ByteArray) (w : World) (h0 : 0 < s.size) (hs : s.size ≤ 1000) : Calls Tryz.prog 92 #[.string s] w (OneW (.bool (luhnB s)) w) := by
 have e0 := ne_list (s := s) (by omega)
 have e1 := ne_isE (s := s) (by omega)
 have kD := Lib.hid (fun w1 => rdig_any s w1 (by omega))
 have kS := Lib.hid (fun w1 h => r4sum_any s w1 h hs)
 have hB := Lib.hid (show luhnB s = (s.data.toList.all dgtB && decide (luhnTo s s.size % 10 = 0)) from rfl)
 generalize luhnB s = R at *
 have hbd := Lib.hid (fun h => (luhnTo_bd s h s.size).1)
 generalize luhnTo s s.size = L at *
 go_enter Tryz.func92, Tryz.ntmps92
 go_wp2_with fail
 refine (kD.out _).mono ?_
 rintro e w1 ⟨rfl, hE1⟩
 cases hd : s.data.toList.all dgtB with
 | false =>
  have hR := Lib.hid (show R = false by rw [hB.out, hd]; rfl)
  clear hB
  go_wp2
  go_ret
  exact ⟨by rw [hR.out]; rfl, hE1⟩
 | true =>
  have h0L := hbd.out hd
  have hk := kS.out w1 hd
  have hR := Lib.hid (show R = decide (L % 10 = 0) by rw [hB.out, hd]; rfl)
  have e4 : L.tmod 10 = L % 10 := Int.tmod_eq_emod_of_nonneg h0L
  clear hd hB
  go_wp2_with fail
  refine hk.mono ?_
  rintro e w2 ⟨rfl, hE2⟩
  by_cases hz : L % 10 = 0
  · have d1 : ((L % 10 : Int) == 0) = true := by simp [hz]
    replace hR := Lib.hid (hR.out.trans (decide_eq_true hz))
    go_wp2
    go_ret
    exact ⟨by rw [hR.out]; rfl, hE1.trans hE2⟩
  · have d1 : ((L % 10 : Int) == 0) = false := by simp [hz]
    replace hR := Lib.hid (hR.out.trans (decide_eq_false hz))
    go_wp2
    go_ret
    exact ⟨by rw [hR.out]; rfl, hE1.trans hE2⟩
set_option maxHeartbeats 1000000 in
theorem r4check_any (s : ByteArray) (w : World) : Calls Tryz.prog 64 #[.string s] w (OneW (.int .i64 (panE s)) w) := by
 have hP := Lib.hid (show panE s = if s.size < 12 then 1 else if 19 < s.size then 3 else if s.data.toList.all dgtB = false then 2 else if luhnTo s s.size % 10 ≠ 0 then 9 else 0 from rfl)
 generalize panE s = P at *
 by_cases h1 : s.size < 12
 · have d1 : decide ((s.size : Int) < 12) = true := decide_eq_true (by omega)
   have hR := Lib.hid (hP.out.trans (if_pos h1))
   clear hP
   go_enter Tryz.func64, Tryz.ntmps64
   go_wp2
   go_ret
   exact ⟨by rw [hR.out]; rfl, Ext.refl _⟩
 · have d1 : decide ((s.size : Int) < 12) = false := decide_eq_false (by omega)
   replace hP := Lib.hid (hP.out.trans (if_neg h1))
   by_cases h2 : 19 < s.size
   · have d2 : decide ((19 : Int) < (s.size : Int)) = true := decide_eq_true (by omega)
     have hR := Lib.hid (hP.out.trans (if_pos h2))
     clear hP
     go_enter Tryz.func64, Tryz.ntmps64
     go_wp2
     go_ret
     exact ⟨by rw [hR.out]; rfl, Ext.refl _⟩
   · have d2 : decide ((19 : Int) < (s.size : Int)) = false := decide_eq_false (by omega)
     replace hP := Lib.hid (hP.out.trans (if_neg h2))
     have kD := Lib.hid (fun w1 => rdig_any s w1 (by omega))
     have kL := Lib.hid (fun w1 => r4luhn_any s w1 (by omega) (by omega))
     have hB := Lib.hid (show luhnB s = (s.data.toList.all dgtB && decide (luhnTo s s.size % 10 = 0)) from rfl)
     generalize luhnB s = B at *
     generalize luhnTo s s.size = L at *
     go_enter Tryz.func64, Tryz.ntmps64
     go_wp2_with fail
     refine (kD.out _).mono ?_
     rintro e w1 ⟨rfl, hE1⟩
     cases hd : s.data.toList.all dgtB with
     | false =>
      have hR := Lib.hid (hP.out.trans (if_pos hd))
      clear hP hd hB
      go_wp2
      go_ret
      exact ⟨by rw [hR.out]; rfl, hE1⟩
     | true =>
      replace hP := Lib.hid (hP.out.trans (if_neg (by rw [hd]; decide)))
      replace hB := Lib.hid (show B = decide (L % 10 = 0) by rw [hB.out, hd]; rfl)
      clear hd
      go_wp2_with fail
      refine (kL.out _).mono ?_
      rintro e w2 ⟨rfl, hE2⟩
      by_cases hz : L % 10 = 0
      · obtain rfl : B = true := hB.out.trans (decide_eq_true hz)
        have hR := Lib.hid (hP.out.trans (if_neg (by simp [hz])))
        clear hP hB hz
        go_wp2
        go_ret
        exact ⟨by rw [hR.out]; rfl, hE1.trans hE2⟩
      · obtain rfl : B = false := hB.out.trans (decide_eq_false hz)
        have hR := Lib.hid (hP.out.trans (if_pos hz))
        clear hP hB hz
        go_wp2
        go_ret
        exact ⟨by rw [hR.out]; rfl, hE1.trans hE2⟩
theorem lt_none {pt : Nat → Int} : ∀ j, j < 0 → pt j = 0 := fun j h => absurd h (by omega)
theorem lt_snoc {pt : Nat → Int} {k : Nat} (h : ∀ j, j < k → pt j = 0) (hk : pt k = 0) : ∀ j, j < k + 1 → pt j = 0 := fun j hj => by
 by_cases e : j = k
 · rw [e]; exact hk
 · exact h j (by omega)
set_option maxRecDepth 8000 in
set_option maxHeartbeats 8000000 in
theorem rrcheck_any (r : RecD) (w : World) (hs : r.id.size ≤ 1000 ∧ r.auth.size ≤ 1000 ∧ r.acq.size ≤ 1000 ∧ r.iss.size ≤ 1000 ∧ r.mer.size ≤ 1000 ∧ r.cur.size ≤ 1000) : Calls Tryz.prog 30 #[recAgg r] w (OneW (.int .i64 (recE r)) w) := by
 have hR := Lib.hid (fun k (hk : k < 6) a h => recE_at (r := r) (k := k) hk a h)
 have hok := Lib.hid (recE_ok (r := r))
 generalize recE r = R at *
 obtain ⟨kind, id, auth, acq, iss, mer, card, amt, cur, date, cat, fin⟩ := r
 obtain ⟨s1, s2, s3, s4, s5, s6⟩ := hs
 have P0 := Lib.hid (show pointE ⟨kind, id, auth, acq, iss, mer, card, amt, cur, date, cat, fin⟩ 0 = if 1 ≤ kind ∧ kind ≤ 4 then 0 else 4 from rfl)
 have P1 := Lib.hid (show pointE ⟨kind, id, auth, acq, iss, mer, card, amt, cur, date, cat, fin⟩ 1 = if (idS id && (decide (auth.size = 0) || idS auth) && nameB acq && nameB iss && idS mer) = true then 0 else 5 from rfl)
 have P2 := Lib.hid (show pointE ⟨kind, id, auth, acq, iss, mer, card, amt, cur, date, cat, fin⟩ 2 = if panE card = 0 then 0 else 17 from rfl)
 have P3 := Lib.hid (show pointE ⟨kind, id, auth, acq, iss, mer, card, amt, cur, date, cat, fin⟩ 3 = monE amt cur from rfl)
 have P4 := Lib.hid (show pointE ⟨kind, id, auth, acq, iss, mer, card, amt, cur, date, cat, fin⟩ 4 = if (decide (1 ≤ amt) && decide (amt ≤ 999999999999) && decide (0 ≤ cat) && decide (cat ≤ 9999)) = true then 0 else 4 from rfl)
 have P5 := Lib.hid (show pointE ⟨kind, id, auth, acq, iss, mer, card, amt, cur, date, cat, fin⟩ 5 = if 0 ≤ date ∧ date ≤ 99999 then 0 else 14 from rfl)
 have kD := Lib.hid (fun w1 => ridt_any id w1 s1)
 have kU := Lib.hid (fun w1 => ridt_any auth w1 s2)
 have kA := Lib.hid (fun w1 => rname8_any acq w1 s3)
 have kI := Lib.hid (fun w1 => rname8_any iss w1 s4)
 have kM := Lib.hid (fun w1 => ridt_any mer w1 s5)
 have kC := Lib.hid (fun w1 => r4check_any card w1)
 have kO := Lib.hid (fun w1 => r1check_any amt cur w1 s6)
 generalize pointE ⟨kind, id, auth, acq, iss, mer, card, amt, cur, date, cat, fin⟩ = pt at *
 generalize idS id = b1 at *
 generalize idS auth = b2 at *
 generalize nameB acq = b3 at *
 generalize nameB iss = b4 at *
 generalize idS mer = b5 at *
 generalize panE card = pe at *
 generalize monE amt cur = me at *
 have hz := Lib.hid (lt_none (pt := pt))
 clear s1 s2 s3 s4 s5 s6
 unfold recAgg
 go_enter Tryz.func30, Tryz.ntmps30
 have bX := Lib.hid (Blk.new w #[.int .i64 kind, .string id, .string auth, .string acq, .string iss, .string mer, .string card, .int .i64 amt, .string cur, .int .i64 date, .int .i64 cat, .bool fin] 28)
 have hE : Ext w (w.alloc (.cells #[.int .i64 kind, .string id, .string auth, .string acq, .string iss, .string mer, .string card, .int .i64 amt, .string cur, .int .i64 date, .int .i64 cat, .bool fin] 28)) := xt

 by_cases h1 : kind < 1
 · have d1 : decide (kind < 1) = true := decide_eq_true h1
   have x0 := (bX.out.cell 0).trans (show _ = some (.int .i64 kind) from rfl)
   have hv := Lib.hid (show pt 0 = 4 by rw [P0.out]; exact if_neg (by omega))
   have hRR := Lib.hid ((hR.out 0 (by omega) hz.out (by rw [hv.out]; first | decide | assumption)).trans hv.out)
   clear hv hR hok P0 P1 P2 P3 P4 P5 hz bX
   go_wp2
   go_ret
   exact ⟨by rw [hRR.out]; rfl, hE⟩
 have d1 : decide (kind < 1) = false := decide_eq_false h1
 have x0 := (bX.out.cell 0).trans (show _ = some (.int .i64 kind) from rfl)
 by_cases h4 : 4 < kind
 · have d2 : decide (4 < kind) = true := decide_eq_true h4
   have hv := Lib.hid (show pt 0 = 4 by rw [P0.out]; exact if_neg (by omega))
   have hRR := Lib.hid ((hR.out 0 (by omega) hz.out (by rw [hv.out]; first | decide | assumption)).trans hv.out)
   clear hv hR hok P0 P1 P2 P3 P4 P5 hz bX
   go_wp2
   go_ret
   exact ⟨by rw [hRR.out]; rfl, hE⟩
 have d2 : decide (4 < kind) = false := decide_eq_false h4
 have hv := Lib.hid (show pt 0 = 0 by rw [P0.out]; exact if_pos (by omega))
 replace hz := Lib.hid (lt_snoc hz.out hv.out)
 clear hv
 have x1 := (bX.out.cell 1).trans (show _ = some (.string id) from rfl)
 go_wp2_with fail
 refine (kD.out _).mono ?_
 rintro e wn ⟨rfl, hEn⟩
 replace bX := Lib.hid (bX.out.ext hEn)
 replace hE := hE.trans hEn
 clear hEn x0 x1 d1 d2 h1 h4
 cases b1 with
 | false =>
  have hv := Lib.hid (show pt 1 = 5 by rw [P1.out]; simp)
  have hRR := Lib.hid ((hR.out 1 (by omega) hz.out (by rw [hv.out]; first | decide | assumption)).trans hv.out)
  clear hv hR hok P0 P1 P2 P3 P4 P5 hz bX
  go_wp2
  go_ret
  exact ⟨by rw [hRR.out]; rfl, hE⟩
 | true =>
  have x2 := (bX.out.cell 2).trans (show _ = some (.string auth) from rfl)
  by_cases ha : auth.size = 0
  · have e0 := emp_list ha
    rw [decide_eq_true ha] at P1
    clear ha
    have x3 := (bX.out.cell 3).trans (show _ = some (.string acq) from rfl)
    go_wp2_with fail
    refine (kA.out _).mono ?_
    rintro e wn ⟨rfl, hEn⟩
    replace bX := Lib.hid (bX.out.ext hEn)
    replace hE := hE.trans hEn
    clear hEn x3
    cases b3 with
    | false =>
     have hv := Lib.hid (show pt 1 = 5 by rw [P1.out]; simp)
     have hRR := Lib.hid ((hR.out 1 (by omega) hz.out (by rw [hv.out]; first | decide | assumption)).trans hv.out)
     clear hv hR hok P0 P1 P2 P3 P4 P5 hz bX
     go_wp2
     go_ret
     exact ⟨by rw [hRR.out]; rfl, hE⟩
    | true =>
     have x4 := (bX.out.cell 4).trans (show _ = some (.string iss) from rfl)
     go_wp2_with fail
     refine (kI.out _).mono ?_
     rintro e wn ⟨rfl, hEn⟩
     replace bX := Lib.hid (bX.out.ext hEn)
     replace hE := hE.trans hEn
     clear hEn x4
     cases b4 with
     | false =>
      have hv := Lib.hid (show pt 1 = 5 by rw [P1.out]; simp)
      have hRR := Lib.hid ((hR.out 1 (by omega) hz.out (by rw [hv.out]; first | decide | assumption)).trans hv.out)
      clear hv hR hok P0 P1 P2 P3 P4 P5 hz bX
      go_wp2
      go_ret
      exact ⟨by rw [hRR.out]; rfl, hE⟩
     | true =>
      have x5 := (bX.out.cell 5).trans (show _ = some (.string mer) from rfl)
      go_wp2_with fail
      refine (kM.out _).mono ?_
      rintro e wn ⟨rfl, hEn⟩
      replace bX := Lib.hid (bX.out.ext hEn)
      replace hE := hE.trans hEn
      clear hEn x5
      cases b5 with
      | false =>
       have hv := Lib.hid (show pt 1 = 5 by rw [P1.out]; simp)
       have hRR := Lib.hid ((hR.out 1 (by omega) hz.out (by rw [hv.out]; first | decide | assumption)).trans hv.out)
       clear hv hR hok P0 P1 P2 P3 P4 P5 hz bX
       go_wp2
       go_ret
       exact ⟨by rw [hRR.out]; rfl, hE⟩
      | true =>
       have hv := Lib.hid (show pt 1 = 0 by rw [P1.out]; try simp)
       replace hz := Lib.hid (lt_snoc hz.out hv.out)
       clear hv
       have x6 := (bX.out.cell 6).trans (show _ = some (.string card) from rfl)
       go_wp2_with fail
       refine (kC.out _).mono ?_
       rintro e wn ⟨rfl, hEn⟩
       replace bX := Lib.hid (bX.out.ext hEn)
       replace hE := hE.trans hEn
       clear hEn x6
       by_cases hpe : pe = 0
       · subst hpe
         have hv := Lib.hid (show pt 2 = 0 by rw [P2.out]; rfl)
         replace hz := Lib.hid (lt_snoc hz.out hv.out)
         clear hv
         have x7 := (bX.out.cell 7).trans (show _ = some (.int .i64 amt) from rfl)
         have x8 := (bX.out.cell 8).trans (show _ = some (.string cur) from rfl)
         go_wp2_with fail
         refine (kO.out _).mono ?_
         rintro e wn ⟨rfl, hEn⟩
         replace bX := Lib.hid (bX.out.ext hEn)
         replace hE := hE.trans hEn
         clear hEn x7 x8
         by_cases hme : me = 0
         · subst hme
           have hv := Lib.hid (show pt 3 = 0 by rw [P3.out]; try rfl)
           replace hz := Lib.hid (lt_snoc hz.out hv.out)
           clear hv
           have x7 := (bX.out.cell 7).trans (show _ = some (.int .i64 amt) from rfl)
           have x10 := (bX.out.cell 10).trans (show _ = some (.int .i64 cat) from rfl)
           by_cases a1 : amt < 1
           · have d0 : decide (amt < 1) = true := decide_eq_true a1
             have hv := Lib.hid (show pt 4 = 4 by rw [P4.out]; exact if_neg (fun h => by simp only [Bool.and_eq_true, decide_eq_true_eq] at h; omega))
             have hRR := Lib.hid ((hR.out 4 (by omega) hz.out (by rw [hv.out]; first | decide | assumption)).trans hv.out)
             clear hv hR hok P0 P1 P2 P3 P4 P5 hz bX
             go_wp2
             go_ret
             exact ⟨by rw [hRR.out]; rfl, hE⟩
           have d0 : decide (amt < 1) = false := decide_eq_false a1
           by_cases a2 : 999999999999 < amt
           · have d1 : decide (999999999999 < amt) = true := decide_eq_true a2
             have hv := Lib.hid (show pt 4 = 4 by rw [P4.out]; exact if_neg (fun h => by simp only [Bool.and_eq_true, decide_eq_true_eq] at h; omega))
             have hRR := Lib.hid ((hR.out 4 (by omega) hz.out (by rw [hv.out]; first | decide | assumption)).trans hv.out)
             clear hv hR hok P0 P1 P2 P3 P4 P5 hz bX
             go_wp2
             go_ret
             exact ⟨by rw [hRR.out]; rfl, hE⟩
           have d1 : decide (999999999999 < amt) = false := decide_eq_false a2
           by_cases a3 : cat < 0
           · have d2 : decide (cat < 0) = true := decide_eq_true a3
             have hv := Lib.hid (show pt 4 = 4 by rw [P4.out]; exact if_neg (fun h => by simp only [Bool.and_eq_true, decide_eq_true_eq] at h; omega))
             have hRR := Lib.hid ((hR.out 4 (by omega) hz.out (by rw [hv.out]; first | decide | assumption)).trans hv.out)
             clear hv hR hok P0 P1 P2 P3 P4 P5 hz bX
             go_wp2
             go_ret
             exact ⟨by rw [hRR.out]; rfl, hE⟩
           have d2 : decide (cat < 0) = false := decide_eq_false a3
           by_cases a4 : 9999 < cat
           · have d3 : decide (9999 < cat) = true := decide_eq_true a4
             have hv := Lib.hid (show pt 4 = 4 by rw [P4.out]; exact if_neg (fun h => by simp only [Bool.and_eq_true, decide_eq_true_eq] at h; omega))
             have hRR := Lib.hid ((hR.out 4 (by omega) hz.out (by rw [hv.out]; first | decide | assumption)).trans hv.out)
             clear hv hR hok P0 P1 P2 P3 P4 P5 hz bX
             go_wp2
             go_ret
             exact ⟨by rw [hRR.out]; rfl, hE⟩
           have d3 : decide (9999 < cat) = false := decide_eq_false a4
           have hv := Lib.hid (show pt 4 = 0 by rw [P4.out]; exact if_pos (by simp only [Bool.and_eq_true, decide_eq_true_eq]; omega))
           replace hz := Lib.hid (lt_snoc hz.out hv.out)
           clear hv
           clear a1 a2 a3 a4
           have x9 := (bX.out.cell 9).trans (show _ = some (.int .i64 date) from rfl)
           by_cases a1 : date < 0
           · have e0 : decide (date < 0) = true := decide_eq_true a1
             have hv := Lib.hid (show pt 5 = 14 by rw [P5.out]; exact if_neg (by omega))
             have hRR := Lib.hid ((hR.out 5 (by omega) hz.out (by rw [hv.out]; first | decide | assumption)).trans hv.out)
             clear hv hR hok P0 P1 P2 P3 P4 P5 hz bX
             go_wp2
             go_ret
             exact ⟨by rw [hRR.out]; rfl, hE⟩
           have e0 : decide (date < 0) = false := decide_eq_false a1
           by_cases a2 : 99999 < date
           · have e1 : decide (99999 < date) = true := decide_eq_true a2
             have hv := Lib.hid (show pt 5 = 14 by rw [P5.out]; exact if_neg (by omega))
             have hRR := Lib.hid ((hR.out 5 (by omega) hz.out (by rw [hv.out]; first | decide | assumption)).trans hv.out)
             clear hv hR hok P0 P1 P2 P3 P4 P5 hz bX
             go_wp2
             go_ret
             exact ⟨by rw [hRR.out]; rfl, hE⟩
           have e1 : decide (99999 < date) = false := decide_eq_false a2
           have hv := Lib.hid (show pt 5 = 0 by rw [P5.out]; exact if_pos (by omega))
           have hRR := Lib.hid (hok.out (lt_snoc hz.out hv.out))
           clear hv hR hok P0 P1 P2 P3 P4 P5 hz bX a1 a2
           go_wp2
           go_ret
           exact ⟨by rw [hRR.out]; rfl, hE⟩
         · have dp : (me != 0) = true := by simp [hme]
           have dq : (me == 0) = false := by simp [hme]
           have hv := Lib.hid (show pt 3 = me from P3.out)
           have hRR := Lib.hid ((hR.out 3 (by omega) hz.out (by rw [hv.out]; exact hme)).trans hv.out)
           clear hv hR hok P0 P1 P2 P3 P4 P5 hz hme
           have x7 := (bX.out.cell 7).trans (show _ = some (.int .i64 amt) from rfl)
           have x8 := (bX.out.cell 8).trans (show _ = some (.string cur) from rfl)
           go_wp2_with fail
           refine (kO.out _).mono ?_
           rintro e wn ⟨rfl, hEn⟩
           replace hE := hE.trans hEn
           clear hEn bX x7 x8
           go_wp2
           go_ret
           exact ⟨by rw [hRR.out]; rfl, hE⟩
       · have dp : (pe != 0) = true := by simp [hpe]
         have dq : (pe == 0) = false := by simp [hpe]
         have hv := Lib.hid (show pt 2 = 17 by rw [P2.out]; exact if_neg hpe)
         have hRR := Lib.hid ((hR.out 2 (by omega) hz.out (by rw [hv.out]; first | decide | assumption)).trans hv.out)
         clear hv hR hok P0 P1 P2 P3 P4 P5 hz bX
         go_wp2
         go_ret
         exact ⟨by rw [hRR.out]; rfl, hE⟩
  · have e0 := ne_list ha
    have e1 := ne_isE ha
    rw [decide_eq_false ha] at P1
    clear ha
    go_wp2_with fail
    refine (kU.out _).mono ?_
    rintro e wn ⟨rfl, hEn⟩
    replace bX := Lib.hid (bX.out.ext hEn)
    replace hE := hE.trans hEn
    clear hEn x2
    cases b2 with
    | false =>
     have hv := Lib.hid (show pt 1 = 5 by rw [P1.out]; simp)
     have hRR := Lib.hid ((hR.out 1 (by omega) hz.out (by rw [hv.out]; first | decide | assumption)).trans hv.out)
     clear hv hR hok P0 P1 P2 P3 P4 P5 hz bX
     go_wp2
     go_ret
     exact ⟨by rw [hRR.out]; rfl, hE⟩
    | true =>
     have x3 := (bX.out.cell 3).trans (show _ = some (.string acq) from rfl)
     go_wp2_with fail
     refine (kA.out _).mono ?_
     rintro e wn ⟨rfl, hEn⟩
     replace bX := Lib.hid (bX.out.ext hEn)
     replace hE := hE.trans hEn
     clear hEn x3
     cases b3 with
     | false =>
      have hv := Lib.hid (show pt 1 = 5 by rw [P1.out]; simp)
      have hRR := Lib.hid ((hR.out 1 (by omega) hz.out (by rw [hv.out]; first | decide | assumption)).trans hv.out)
      clear hv hR hok P0 P1 P2 P3 P4 P5 hz bX
      go_wp2
      go_ret
      exact ⟨by rw [hRR.out]; rfl, hE⟩
     | true =>
      have x4 := (bX.out.cell 4).trans (show _ = some (.string iss) from rfl)
      go_wp2_with fail
      refine (kI.out _).mono ?_
      rintro e wn ⟨rfl, hEn⟩
      replace bX := Lib.hid (bX.out.ext hEn)
      replace hE := hE.trans hEn
      clear hEn x4
      cases b4 with
      | false =>
       have hv := Lib.hid (show pt 1 = 5 by rw [P1.out]; simp)
       have hRR := Lib.hid ((hR.out 1 (by omega) hz.out (by rw [hv.out]; first | decide | assumption)).trans hv.out)
       clear hv hR hok P0 P1 P2 P3 P4 P5 hz bX
       go_wp2
       go_ret
       exact ⟨by rw [hRR.out]; rfl, hE⟩
      | true =>
       have x5 := (bX.out.cell 5).trans (show _ = some (.string mer) from rfl)
       go_wp2_with fail
       refine (kM.out _).mono ?_
       rintro e wn ⟨rfl, hEn⟩
       replace bX := Lib.hid (bX.out.ext hEn)
       replace hE := hE.trans hEn
       clear hEn x5
       cases b5 with
       | false =>
        have hv := Lib.hid (show pt 1 = 5 by rw [P1.out]; simp)
        have hRR := Lib.hid ((hR.out 1 (by omega) hz.out (by rw [hv.out]; first | decide | assumption)).trans hv.out)
        clear hv hR hok P0 P1 P2 P3 P4 P5 hz bX
        go_wp2
        go_ret
        exact ⟨by rw [hRR.out]; rfl, hE⟩
       | true =>
        have hv := Lib.hid (show pt 1 = 0 by rw [P1.out]; try simp)
        replace hz := Lib.hid (lt_snoc hz.out hv.out)
        clear hv
        have x6 := (bX.out.cell 6).trans (show _ = some (.string card) from rfl)
        go_wp2_with fail
        refine (kC.out _).mono ?_
        rintro e wn ⟨rfl, hEn⟩
        replace bX := Lib.hid (bX.out.ext hEn)
        replace hE := hE.trans hEn
        clear hEn x6
        by_cases hpe : pe = 0
        · subst hpe
          have hv := Lib.hid (show pt 2 = 0 by rw [P2.out]; rfl)
          replace hz := Lib.hid (lt_snoc hz.out hv.out)
          clear hv
          have x7 := (bX.out.cell 7).trans (show _ = some (.int .i64 amt) from rfl)
          have x8 := (bX.out.cell 8).trans (show _ = some (.string cur) from rfl)
          go_wp2_with fail
          refine (kO.out _).mono ?_
          rintro e wn ⟨rfl, hEn⟩
          replace bX := Lib.hid (bX.out.ext hEn)
          replace hE := hE.trans hEn
          clear hEn x7 x8
          by_cases hme : me = 0
          · subst hme
            have hv := Lib.hid (show pt 3 = 0 by rw [P3.out]; try rfl)
            replace hz := Lib.hid (lt_snoc hz.out hv.out)
            clear hv
            have x7 := (bX.out.cell 7).trans (show _ = some (.int .i64 amt) from rfl)
            have x10 := (bX.out.cell 10).trans (show _ = some (.int .i64 cat) from rfl)
            by_cases a1 : amt < 1
            · have d0 : decide (amt < 1) = true := decide_eq_true a1
              have hv := Lib.hid (show pt 4 = 4 by rw [P4.out]; exact if_neg (fun h => by simp only [Bool.and_eq_true, decide_eq_true_eq] at h; omega))
              have hRR := Lib.hid ((hR.out 4 (by omega) hz.out (by rw [hv.out]; first | decide | assumption)).trans hv.out)
              clear hv hR hok P0 P1 P2 P3 P4 P5 hz bX
              go_wp2
              go_ret
              exact ⟨by rw [hRR.out]; rfl, hE⟩
            have d0 : decide (amt < 1) = false := decide_eq_false a1
            by_cases a2 : 999999999999 < amt
            · have d1 : decide (999999999999 < amt) = true := decide_eq_true a2
              have hv := Lib.hid (show pt 4 = 4 by rw [P4.out]; exact if_neg (fun h => by simp only [Bool.and_eq_true, decide_eq_true_eq] at h; omega))
              have hRR := Lib.hid ((hR.out 4 (by omega) hz.out (by rw [hv.out]; first | decide | assumption)).trans hv.out)
              clear hv hR hok P0 P1 P2 P3 P4 P5 hz bX
              go_wp2
              go_ret
              exact ⟨by rw [hRR.out]; rfl, hE⟩
            have d1 : decide (999999999999 < amt) = false := decide_eq_false a2
            by_cases a3 : cat < 0
            · have d2 : decide (cat < 0) = true := decide_eq_true a3
              have hv := Lib.hid (show pt 4 = 4 by rw [P4.out]; exact if_neg (fun h => by simp only [Bool.and_eq_true, decide_eq_true_eq] at h; omega))
              have hRR := Lib.hid ((hR.out 4 (by omega) hz.out (by rw [hv.out]; first | decide | assumption)).trans hv.out)
              clear hv hR hok P0 P1 P2 P3 P4 P5 hz bX
              go_wp2
              go_ret
              exact ⟨by rw [hRR.out]; rfl, hE⟩
            have d2 : decide (cat < 0) = false := decide_eq_false a3
            by_cases a4 : 9999 < cat
            · have d3 : decide (9999 < cat) = true := decide_eq_true a4
              have hv := Lib.hid (show pt 4 = 4 by rw [P4.out]; exact if_neg (fun h => by simp only [Bool.and_eq_true, decide_eq_true_eq] at h; omega))
              have hRR := Lib.hid ((hR.out 4 (by omega) hz.out (by rw [hv.out]; first | decide | assumption)).trans hv.out)
              clear hv hR hok P0 P1 P2 P3 P4 P5 hz bX
              go_wp2
              go_ret
              exact ⟨by rw [hRR.out]; rfl, hE⟩
            have d3 : decide (9999 < cat) = false := decide_eq_false a4
            have hv := Lib.hid (show pt 4 = 0 by rw [P4.out]; exact if_pos (by simp only [Bool.and_eq_true, decide_eq_true_eq]; omega))
            replace hz := Lib.hid (lt_snoc hz.out hv.out)
            clear hv
            clear a1 a2 a3 a4
            have x9 := (bX.out.cell 9).trans (show _ = some (.int .i64 date) from rfl)
            by_cases a1 : date < 0
            · have e0 : decide (date < 0) = true := decide_eq_true a1
              have hv := Lib.hid (show pt 5 = 14 by rw [P5.out]; exact if_neg (by omega))
              have hRR := Lib.hid ((hR.out 5 (by omega) hz.out (by rw [hv.out]; first | decide | assumption)).trans hv.out)
              clear hv hR hok P0 P1 P2 P3 P4 P5 hz bX
              go_wp2
              go_ret
              exact ⟨by rw [hRR.out]; rfl, hE⟩
            have e0 : decide (date < 0) = false := decide_eq_false a1
            by_cases a2 : 99999 < date
            · have e1 : decide (99999 < date) = true := decide_eq_true a2
              have hv := Lib.hid (show pt 5 = 14 by rw [P5.out]; exact if_neg (by omega))
              have hRR := Lib.hid ((hR.out 5 (by omega) hz.out (by rw [hv.out]; first | decide | assumption)).trans hv.out)
              clear hv hR hok P0 P1 P2 P3 P4 P5 hz bX
              go_wp2
              go_ret
              exact ⟨by rw [hRR.out]; rfl, hE⟩
            have e1 : decide (99999 < date) = false := decide_eq_false a2
            have hv := Lib.hid (show pt 5 = 0 by rw [P5.out]; exact if_pos (by omega))
            have hRR := Lib.hid (hok.out (lt_snoc hz.out hv.out))
            clear hv hR hok P0 P1 P2 P3 P4 P5 hz bX a1 a2
            go_wp2
            go_ret
            exact ⟨by rw [hRR.out]; rfl, hE⟩
          · have dp : (me != 0) = true := by simp [hme]
            have dq : (me == 0) = false := by simp [hme]
            have hv := Lib.hid (show pt 3 = me from P3.out)
            have hRR := Lib.hid ((hR.out 3 (by omega) hz.out (by rw [hv.out]; exact hme)).trans hv.out)
            clear hv hR hok P0 P1 P2 P3 P4 P5 hz hme
            have x7 := (bX.out.cell 7).trans (show _ = some (.int .i64 amt) from rfl)
            have x8 := (bX.out.cell 8).trans (show _ = some (.string cur) from rfl)
            go_wp2_with fail
            refine (kO.out _).mono ?_
            rintro e wn ⟨rfl, hEn⟩
            replace hE := hE.trans hEn
            clear hEn bX x7 x8
            go_wp2
            go_ret
            exact ⟨by rw [hRR.out]; rfl, hE⟩
        · have dp : (pe != 0) = true := by simp [hpe]
          have dq : (pe == 0) = false := by simp [hpe]
          have hv := Lib.hid (show pt 2 = 17 by rw [P2.out]; exact if_neg hpe)
          have hRR := Lib.hid ((hR.out 2 (by omega) hz.out (by rw [hv.out]; first | decide | assumption)).trans hv.out)
          clear hv hR hok P0 P1 P2 P3 P4 P5 hz bX
          go_wp2
          go_ret
          exact ⟨by rw [hRR.out]; rfl, hE⟩
end Go.Proofs.YtmnhmkjmcckneaaGreatDoor
