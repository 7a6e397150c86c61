/- The contract of the reference's Decimal (walk; printed by gen/h18.py). -/
import Derived.Test.YtmnhmkjmcckneaaGreatDoorG1
import Derived.Lib.ItoaNum
import Derived.Lib.ItoaLen
namespace Go.Proofs.YtmnhmkjmcckneaaGreatDoor
open Go.RowKit
theorem dec_step {u : Nat} (h : ¬ u < 10) : Lib.decDigits u = Lib.decDigits (u / 10) ++ [UInt8.ofNat (48 + u % 10)] := by rw [Lib.decDigits, dif_neg h]
theorem dec_last {u : Nat} (h : u < 10) : Lib.decDigits u = [UInt8.ofNat (48 + u)] := by rw [Lib.decDigits, dif_pos h]
theorem dec_next {U u d : Nat} {s : List UInt8} (h : Lib.decDigits U = Lib.decDigits u ++ s) (hd : u % 10 = d) : (u < 10 → Lib.decDigits U = UInt8.ofNat (48 + d) :: s) ∧ (¬ u < 10 → Lib.decDigits U = Lib.decDigits (u / 10) ++ (UInt8.ofNat (48 + d) :: s)) := by
  constructor
  · intro hu
    rw [h, dec_last hu, show u = d by omega]
    rfl
  · intro hu
    rw [h, dec_step hu, hd, List.append_assoc]
    rfl
theorem cons_str (k : UInt8) (s : ByteArray) : ((⟨#[k]⟩ : ByteArray) ++ s).data.toList = k :: s.data.toList := by
  rw [ByteArray.data_append]
  simp
set_option maxRecDepth 8000 in
set_option maxHeartbeats 4000000 in
theorem rdec_any (n : Int) (w : World) (h0 : -9223372036854775808 ≤ n) (h1 : n ≤ 9223372036854775807) : Calls Tryz.prog 48 #[.int .i64 n] w fun e w' => ∃ r : ByteArray, e = .returned (.string r) ∧ r.data.toList = Lib.itoa n ∧ w' = w := by
  obtain ⟨U, hU⟩ : ∃ U, U = n.natAbs := ⟨_, rfl⟩
  have hlen := Lib.hid (show (Lib.decDigits U).length ≤ 21 by
    have h := Lib.itoa_length_le n h0 h1
    unfold Lib.itoa at h
    split at h
    · rw [hU]; simp at h; omega
    · rw [hU]; have e : n.toNat = n.natAbs := by omega
      rw [e] at h; exact h)
  have hUb := Lib.hid (show U ≤ 9223372036854775808 by omega)
  by_cases hneg : n < 0
  · have hit : Lib.itoa n = 45 :: Lib.decDigits U := by unfold Lib.itoa; rw [if_pos hneg, hU]
    have d : decide (n < 0) = true := decide_eq_true hneg
    obtain rfl : n = -(U : Int) := by omega
    replace hit := Lib.hid hit
    clear h0 h1 hU
    go_enter Tryz.func48, Tryz.ntmps48
    go_wp2_with fail
    clear d
    go_loopw [0, 4] (fun a s wr => ∃ (u : Nat) (t : ByteArray), a = .int .i64 (-(u : Int)) ∧ s = .string t ∧ u ≤ 9223372036854775808 ∧ Lib.decDigits U = Lib.decDigits u ++ t.data.toList ∧ wr = w) (fun a _ _ => (intOf a).natAbs)
    case atStart => exact ⟨U, ⟨#[]⟩, rfl, rfl, hUb.out, by simp, rfl⟩
    case round =>
      obtain ⟨u, t, rfl, rfl, hu, hdd, hE⟩ := hrel
      obtain ⟨q, r, hur, hr⟩ : ∃ q r, u = 10 * q + r ∧ r < 10 := ⟨u / 10, u % 10, by omega, by omega⟩
      have hn := Lib.hid (dec_next (d := r) hdd (by omega))
      have htz : t.size ≤ 21 := by
        have h5 := congrArg List.length hdd
        rw [List.length_append] at h5
        have h6 : t.data.toList.length = t.size := by rw [Array.length_toList]; rfl
        have h7 := hlen.out
        omega
      have hqd := Lib.hid (show u / 10 = q by omega)
      have hqb := Lib.hid (show q ≤ 922337203685477580 by omega)
      have z1 : ¬ 9223372036854775807 < 1 + t.size := by omega
      have z2 : ¬ 9223372036854775807 < 1 + (1 + t.size) := by omega
      have hul := Lib.hid (show q = 0 → u < 10 by omega)
      have hug := Lib.hid (show ¬ q = 0 → ¬ u < 10 by omega)
      clear hdd hu htz
      have hcase : r = 0 ∨ r = 1 ∨ r = 2 ∨ r = 3 ∨ r = 4 ∨ r = 5 ∨ r = 6 ∨ r = 7 ∨ r = 8 ∨ r = 9 := by omega
      clear hr
      rcases hcase with rfl | rfl | rfl | rfl | rfl | rfl | rfl | rfl | rfl | rfl
      · have hD : (⟨#[48, 49, 50, 51, 52, 53, 54, 55, 56, 57]⟩ : ByteArray).extract 0 1 = ⟨#[48]⟩ := rfl
        by_cases hq0 : q = 0
        · have hR := Lib.hid (hn.out.1 (hul.out hq0))
          clear hn hul hug
          subst hq0
          go_wp2
          go_ret
          refine ⟨_, rfl, ?_, rfl⟩
          rw [cons_str, cons_str, hit.out, hR.out]
          rfl
        · have hR := Lib.hid (hn.out.2 (hug.out hq0))
          rw [hqd.out] at hR
          clear hn hul hug
          have dq : (-(q : Int) == 0) = false := by simp [hq0]
          have hW : wrap64 (-(q : Int)) = -(q : Int) := by
            have h := hqb.out
            unfold wrap64; omega
          go_wp2
          refine ⟨⟨q, ⟨#[48]⟩ ++ t, by first | rfl | rw [hW], rfl, by have := hqb.out; omega, by rw [hR.out, cons_str]; rfl, by first | rfl | trivial⟩, ?_⟩
          (try rw [hW])
          clear hW dq z1 z2
          simp only [intOf]
          omega
      · have hD : (⟨#[48, 49, 50, 51, 52, 53, 54, 55, 56, 57]⟩ : ByteArray).extract 1 2 = ⟨#[49]⟩ := rfl
        by_cases hq0 : q = 0
        · have hR := Lib.hid (hn.out.1 (hul.out hq0))
          clear hn hul hug
          subst hq0
          go_wp2
          go_ret
          refine ⟨_, rfl, ?_, rfl⟩
          rw [cons_str, cons_str, hit.out, hR.out]
          rfl
        · have hR := Lib.hid (hn.out.2 (hug.out hq0))
          rw [hqd.out] at hR
          clear hn hul hug
          have dq : (-(q : Int) == 0) = false := by simp [hq0]
          have hW : wrap64 (-((10 * (q : Int) + 1).tdiv 10)) = -(q : Int) := by
            have h := hqb.out
            rw [Int.tdiv_eq_ediv_of_nonneg (by omega), show (10 * (q : Int) + 1) / 10 = (q : Int) by omega]; unfold wrap64; omega
          go_wp2
          refine ⟨⟨q, ⟨#[49]⟩ ++ t, by first | rfl | rw [hW], rfl, by have := hqb.out; omega, by rw [hR.out, cons_str]; rfl, by first | rfl | trivial⟩, ?_⟩
          (try rw [hW])
          clear hW dq z1 z2
          simp only [intOf]
          omega
      · have hD : (⟨#[48, 49, 50, 51, 52, 53, 54, 55, 56, 57]⟩ : ByteArray).extract 2 3 = ⟨#[50]⟩ := rfl
        by_cases hq0 : q = 0
        · have hR := Lib.hid (hn.out.1 (hul.out hq0))
          clear hn hul hug
          subst hq0
          go_wp2
          go_ret
          refine ⟨_, rfl, ?_, rfl⟩
          rw [cons_str, cons_str, hit.out, hR.out]
          rfl
        · have hR := Lib.hid (hn.out.2 (hug.out hq0))
          rw [hqd.out] at hR
          clear hn hul hug
          have dq : (-(q : Int) == 0) = false := by simp [hq0]
          have hW : wrap64 (-((10 * (q : Int) + 2).tdiv 10)) = -(q : Int) := by
            have h := hqb.out
            rw [Int.tdiv_eq_ediv_of_nonneg (by omega), show (10 * (q : Int) + 2) / 10 = (q : Int) by omega]; unfold wrap64; omega
          go_wp2
          refine ⟨⟨q, ⟨#[50]⟩ ++ t, by first | rfl | rw [hW], rfl, by have := hqb.out; omega, by rw [hR.out, cons_str]; rfl, by first | rfl | trivial⟩, ?_⟩
          (try rw [hW])
          clear hW dq z1 z2
          simp only [intOf]
          omega
      · have hD : (⟨#[48, 49, 50, 51, 52, 53, 54, 55, 56, 57]⟩ : ByteArray).extract 3 4 = ⟨#[51]⟩ := rfl
        by_cases hq0 : q = 0
        · have hR := Lib.hid (hn.out.1 (hul.out hq0))
          clear hn hul hug
          subst hq0
          go_wp2
          go_ret
          refine ⟨_, rfl, ?_, rfl⟩
          rw [cons_str, cons_str, hit.out, hR.out]
          rfl
        · have hR := Lib.hid (hn.out.2 (hug.out hq0))
          rw [hqd.out] at hR
          clear hn hul hug
          have dq : (-(q : Int) == 0) = false := by simp [hq0]
          have hW : wrap64 (-((10 * (q : Int) + 3).tdiv 10)) = -(q : Int) := by
            have h := hqb.out
            rw [Int.tdiv_eq_ediv_of_nonneg (by omega), show (10 * (q : Int) + 3) / 10 = (q : Int) by omega]; unfold wrap64; omega
          go_wp2
          refine ⟨⟨q, ⟨#[51]⟩ ++ t, by first | rfl | rw [hW], rfl, by have := hqb.out; omega, by rw [hR.out, cons_str]; rfl, by first | rfl | trivial⟩, ?_⟩
          (try rw [hW])
          clear hW dq z1 z2
          simp only [intOf]
          omega
      · have hD : (⟨#[48, 49, 50, 51, 52, 53, 54, 55, 56, 57]⟩ : ByteArray).extract 4 5 = ⟨#[52]⟩ := rfl
        by_cases hq0 : q = 0
        · have hR := Lib.hid (hn.out.1 (hul.out hq0))
          clear hn hul hug
          subst hq0
          go_wp2
          go_ret
          refine ⟨_, rfl, ?_, rfl⟩
          rw [cons_str, cons_str, hit.out, hR.out]
          rfl
        · have hR := Lib.hid (hn.out.2 (hug.out hq0))
          rw [hqd.out] at hR
          clear hn hul hug
          have dq : (-(q : Int) == 0) = false := by simp [hq0]
          have hW : wrap64 (-((10 * (q : Int) + 4).tdiv 10)) = -(q : Int) := by
            have h := hqb.out
            rw [Int.tdiv_eq_ediv_of_nonneg (by omega), show (10 * (q : Int) + 4) / 10 = (q : Int) by omega]; unfold wrap64; omega
          go_wp2
          refine ⟨⟨q, ⟨#[52]⟩ ++ t, by first | rfl | rw [hW], rfl, by have := hqb.out; omega, by rw [hR.out, cons_str]; rfl, by first | rfl | trivial⟩, ?_⟩
          (try rw [hW])
          clear hW dq z1 z2
          simp only [intOf]
          omega
      · have hD : (⟨#[48, 49, 50, 51, 52, 53, 54, 55, 56, 57]⟩ : ByteArray).extract 5 6 = ⟨#[53]⟩ := rfl
        by_cases hq0 : q = 0
        · have hR := Lib.hid (hn.out.1 (hul.out hq0))
          clear hn hul hug
          subst hq0
          go_wp2
          go_ret
          refine ⟨_, rfl, ?_, rfl⟩
          rw [cons_str, cons_str, hit.out, hR.out]
          rfl
        · have hR := Lib.hid (hn.out.2 (hug.out hq0))
          rw [hqd.out] at hR
          clear hn hul hug
          have dq : (-(q : Int) == 0) = false := by simp [hq0]
          have hW : wrap64 (-((10 * (q : Int) + 5).tdiv 10)) = -(q : Int) := by
            have h := hqb.out
            rw [Int.tdiv_eq_ediv_of_nonneg (by omega), show (10 * (q : Int) + 5) / 10 = (q : Int) by omega]; unfold wrap64; omega
          go_wp2
          refine ⟨⟨q, ⟨#[53]⟩ ++ t, by first | rfl | rw [hW], rfl, by have := hqb.out; omega, by rw [hR.out, cons_str]; rfl, by first | rfl | trivial⟩, ?_⟩
          (try rw [hW])
          clear hW dq z1 z2
          simp only [intOf]
          omega
      · have hD : (⟨#[48, 49, 50, 51, 52, 53, 54, 55, 56, 57]⟩ : ByteArray).extract 6 7 = ⟨#[54]⟩ := rfl
        by_cases hq0 : q = 0
        · have hR := Lib.hid (hn.out.1 (hul.out hq0))
          clear hn hul hug
          subst hq0
          go_wp2
          go_ret
          refine ⟨_, rfl, ?_, rfl⟩
          rw [cons_str, cons_str, hit.out, hR.out]
          rfl
        · have hR := Lib.hid (hn.out.2 (hug.out hq0))
          rw [hqd.out] at hR
          clear hn hul hug
          have dq : (-(q : Int) == 0) = false := by simp [hq0]
          have hW : wrap64 (-((10 * (q : Int) + 6).tdiv 10)) = -(q : Int) := by
            have h := hqb.out
            rw [Int.tdiv_eq_ediv_of_nonneg (by omega), show (10 * (q : Int) + 6) / 10 = (q : Int) by omega]; unfold wrap64; omega
          go_wp2
          refine ⟨⟨q, ⟨#[54]⟩ ++ t, by first | rfl | rw [hW], rfl, by have := hqb.out; omega, by rw [hR.out, cons_str]; rfl, by first | rfl | trivial⟩, ?_⟩
          (try rw [hW])
          clear hW dq z1 z2
          simp only [intOf]
          omega
      · have hD : (⟨#[48, 49, 50, 51, 52, 53, 54, 55, 56, 57]⟩ : ByteArray).extract 7 8 = ⟨#[55]⟩ := rfl
        by_cases hq0 : q = 0
        · have hR := Lib.hid (hn.out.1 (hul.out hq0))
          clear hn hul hug
          subst hq0
          go_wp2
          go_ret
          refine ⟨_, rfl, ?_, rfl⟩
          rw [cons_str, cons_str, hit.out, hR.out]
          rfl
        · have hR := Lib.hid (hn.out.2 (hug.out hq0))
          rw [hqd.out] at hR
          clear hn hul hug
          have dq : (-(q : Int) == 0) = false := by simp [hq0]
          have hW : wrap64 (-((10 * (q : Int) + 7).tdiv 10)) = -(q : Int) := by
            have h := hqb.out
            rw [Int.tdiv_eq_ediv_of_nonneg (by omega), show (10 * (q : Int) + 7) / 10 = (q : Int) by omega]; unfold wrap64; omega
          go_wp2
          refine ⟨⟨q, ⟨#[55]⟩ ++ t, by first | rfl | rw [hW], rfl, by have := hqb.out; omega, by rw [hR.out, cons_str]; rfl, by first | rfl | trivial⟩, ?_⟩
          (try rw [hW])
          clear hW dq z1 z2
          simp only [intOf]
          omega
      · have hD : (⟨#[48, 49, 50, 51, 52, 53, 54, 55, 56, 57]⟩ : ByteArray).extract 8 9 = ⟨#[56]⟩ := rfl
        by_cases hq0 : q = 0
        · have hR := Lib.hid (hn.out.1 (hul.out hq0))
          clear hn hul hug
          subst hq0
          go_wp2
          go_ret
          refine ⟨_, rfl, ?_, rfl⟩
          rw [cons_str, cons_str, hit.out, hR.out]
          rfl
        · have hR := Lib.hid (hn.out.2 (hug.out hq0))
          rw [hqd.out] at hR
          clear hn hul hug
          have dq : (-(q : Int) == 0) = false := by simp [hq0]
          have hW : wrap64 (-((10 * (q : Int) + 8).tdiv 10)) = -(q : Int) := by
            have h := hqb.out
            rw [Int.tdiv_eq_ediv_of_nonneg (by omega), show (10 * (q : Int) + 8) / 10 = (q : Int) by omega]; unfold wrap64; omega
          go_wp2
          refine ⟨⟨q, ⟨#[56]⟩ ++ t, by first | rfl | rw [hW], rfl, by have := hqb.out; omega, by rw [hR.out, cons_str]; rfl, by first | rfl | trivial⟩, ?_⟩
          (try rw [hW])
          clear hW dq z1 z2
          simp only [intOf]
          omega
      · have hD : (⟨#[48, 49, 50, 51, 52, 53, 54, 55, 56, 57]⟩ : ByteArray).extract 9 10 = ⟨#[57]⟩ := rfl
        by_cases hq0 : q = 0
        · have hR := Lib.hid (hn.out.1 (hul.out hq0))
          clear hn hul hug
          subst hq0
          go_wp2
          go_ret
          refine ⟨_, rfl, ?_, rfl⟩
          rw [cons_str, cons_str, hit.out, hR.out]
          rfl
        · have hR := Lib.hid (hn.out.2 (hug.out hq0))
          rw [hqd.out] at hR
          clear hn hul hug
          have dq : (-(q : Int) == 0) = false := by simp [hq0]
          have hW : wrap64 (-((10 * (q : Int) + 9).tdiv 10)) = -(q : Int) := by
            have h := hqb.out
            rw [Int.tdiv_eq_ediv_of_nonneg (by omega), show (10 * (q : Int) + 9) / 10 = (q : Int) by omega]; unfold wrap64; omega
          go_wp2
          refine ⟨⟨q, ⟨#[57]⟩ ++ t, by first | rfl | rw [hW], rfl, by have := hqb.out; omega, by rw [hR.out, cons_str]; rfl, by first | rfl | trivial⟩, ?_⟩
          (try rw [hW])
          clear hW dq z1 z2
          simp only [intOf]
          omega
  · have hit : Lib.itoa n = Lib.decDigits U := by unfold Lib.itoa; rw [if_neg hneg, hU, show n.toNat = n.natAbs by omega]
    have d : decide (n < 0) = false := decide_eq_false hneg
    obtain rfl : n = (U : Int) := by omega
    replace hit := Lib.hid hit
    replace hUb := Lib.hid (show U ≤ 9223372036854775807 by omega)
    clear h0 h1 hU
    go_enter Tryz.func48, Tryz.ntmps48
    go_wp2_with fail
    clear d
    go_loopw [0, 4] (fun a s wr => ∃ (u : Nat) (t : ByteArray), a = .int .i64 (u : Int) ∧ s = .string t ∧ u ≤ 9223372036854775807 ∧ Lib.decDigits U = Lib.decDigits u ++ t.data.toList ∧ wr = w) (fun a _ _ => (intOf a).natAbs)
    case atStart => exact ⟨U, ⟨#[]⟩, rfl, rfl, hUb.out, by simp, rfl⟩
    case round =>
      obtain ⟨u, t, rfl, rfl, hu, hdd, hE⟩ := hrel
      obtain ⟨q, r, hur, hr⟩ : ∃ q r, u = 10 * q + r ∧ r < 10 := ⟨u / 10, u % 10, by omega, by omega⟩
      have hn := Lib.hid (dec_next (d := r) hdd (by omega))
      have htz : t.size ≤ 21 := by
        have h5 := congrArg List.length hdd
        rw [List.length_append] at h5
        have h6 : t.data.toList.length = t.size := by rw [Array.length_toList]; rfl
        have h7 := hlen.out
        omega
      have hqd := Lib.hid (show u / 10 = q by omega)
      have hqb := Lib.hid (show q ≤ 922337203685477580 by omega)
      have z1 : ¬ 9223372036854775807 < 1 + t.size := by omega
      have z2 : ¬ 9223372036854775807 < 1 + (1 + t.size) := by omega
      have hul := Lib.hid (show q = 0 → u < 10 by omega)
      have hug := Lib.hid (show ¬ q = 0 → ¬ u < 10 by omega)
      clear hdd hu htz
      have hcase : r = 0 ∨ r = 1 ∨ r = 2 ∨ r = 3 ∨ r = 4 ∨ r = 5 ∨ r = 6 ∨ r = 7 ∨ r = 8 ∨ r = 9 := by omega
      clear hr
      rcases hcase with rfl | rfl | rfl | rfl | rfl | rfl | rfl | rfl | rfl | rfl
      · have hD : (⟨#[48, 49, 50, 51, 52, 53, 54, 55, 56, 57]⟩ : ByteArray).extract 0 1 = ⟨#[48]⟩ := rfl
        by_cases hq0 : q = 0
        · have hR := Lib.hid (hn.out.1 (hul.out hq0))
          clear hn hul hug
          subst hq0
          go_wp2
          go_ret
          refine ⟨_, rfl, ?_, rfl⟩
          rw [cons_str, hit.out, hR.out]
          rfl
        · have hR := Lib.hid (hn.out.2 (hug.out hq0))
          rw [hqd.out] at hR
          clear hn hul hug
          have dq : ((q : Int) == 0) = false := by simp [hq0]
          have hW : wrap64 ((q : Int)) = (q : Int) := by
            have h := hqb.out
            unfold wrap64; omega
          go_wp2
          refine ⟨⟨q, ⟨#[48]⟩ ++ t, by first | rfl | rw [hW], rfl, by have := hqb.out; omega, by rw [hR.out, cons_str]; rfl, by first | rfl | trivial⟩, ?_⟩
          (try rw [hW])
          clear hW dq z1 z2
          simp only [intOf]
          omega
      · have hD : (⟨#[48, 49, 50, 51, 52, 53, 54, 55, 56, 57]⟩ : ByteArray).extract 1 2 = ⟨#[49]⟩ := rfl
        by_cases hq0 : q = 0
        · have hR := Lib.hid (hn.out.1 (hul.out hq0))
          clear hn hul hug
          subst hq0
          go_wp2
          go_ret
          refine ⟨_, rfl, ?_, rfl⟩
          rw [cons_str, hit.out, hR.out]
          rfl
        · have hR := Lib.hid (hn.out.2 (hug.out hq0))
          rw [hqd.out] at hR
          clear hn hul hug
          have dq : ((q : Int) == 0) = false := by simp [hq0]
          have hW : wrap64 ((10 * (q : Int) + 1).tdiv 10) = (q : Int) := by
            have h := hqb.out
            rw [Int.tdiv_eq_ediv_of_nonneg (by omega), show (10 * (q : Int) + 1) / 10 = (q : Int) by omega]; unfold wrap64; omega
          go_wp2
          refine ⟨⟨q, ⟨#[49]⟩ ++ t, by first | rfl | rw [hW], rfl, by have := hqb.out; omega, by rw [hR.out, cons_str]; rfl, by first | rfl | trivial⟩, ?_⟩
          (try rw [hW])
          clear hW dq z1 z2
          simp only [intOf]
          omega
      · have hD : (⟨#[48, 49, 50, 51, 52, 53, 54, 55, 56, 57]⟩ : ByteArray).extract 2 3 = ⟨#[50]⟩ := rfl
        by_cases hq0 : q = 0
        · have hR := Lib.hid (hn.out.1 (hul.out hq0))
          clear hn hul hug
          subst hq0
          go_wp2
          go_ret
          refine ⟨_, rfl, ?_, rfl⟩
          rw [cons_str, hit.out, hR.out]
          rfl
        · have hR := Lib.hid (hn.out.2 (hug.out hq0))
          rw [hqd.out] at hR
          clear hn hul hug
          have dq : ((q : Int) == 0) = false := by simp [hq0]
          have hW : wrap64 ((10 * (q : Int) + 2).tdiv 10) = (q : Int) := by
            have h := hqb.out
            rw [Int.tdiv_eq_ediv_of_nonneg (by omega), show (10 * (q : Int) + 2) / 10 = (q : Int) by omega]; unfold wrap64; omega
          go_wp2
          refine ⟨⟨q, ⟨#[50]⟩ ++ t, by first | rfl | rw [hW], rfl, by have := hqb.out; omega, by rw [hR.out, cons_str]; rfl, by first | rfl | trivial⟩, ?_⟩
          (try rw [hW])
          clear hW dq z1 z2
          simp only [intOf]
          omega
      · have hD : (⟨#[48, 49, 50, 51, 52, 53, 54, 55, 56, 57]⟩ : ByteArray).extract 3 4 = ⟨#[51]⟩ := rfl
        by_cases hq0 : q = 0
        · have hR := Lib.hid (hn.out.1 (hul.out hq0))
          clear hn hul hug
          subst hq0
          go_wp2
          go_ret
          refine ⟨_, rfl, ?_, rfl⟩
          rw [cons_str, hit.out, hR.out]
          rfl
        · have hR := Lib.hid (hn.out.2 (hug.out hq0))
          rw [hqd.out] at hR
          clear hn hul hug
          have dq : ((q : Int) == 0) = false := by simp [hq0]
          have hW : wrap64 ((10 * (q : Int) + 3).tdiv 10) = (q : Int) := by
            have h := hqb.out
            rw [Int.tdiv_eq_ediv_of_nonneg (by omega), show (10 * (q : Int) + 3) / 10 = (q : Int) by omega]; unfold wrap64; omega
          go_wp2
          refine ⟨⟨q, ⟨#[51]⟩ ++ t, by first | rfl | rw [hW], rfl, by have := hqb.out; omega, by rw [hR.out, cons_str]; rfl, by first | rfl | trivial⟩, ?_⟩
          (try rw [hW])
          clear hW dq z1 z2
          simp only [intOf]
          omega
      · have hD : (⟨#[48, 49, 50, 51, 52, 53, 54, 55, 56, 57]⟩ : ByteArray).extract 4 5 = ⟨#[52]⟩ := rfl
        by_cases hq0 : q = 0
        · have hR := Lib.hid (hn.out.1 (hul.out hq0))
          clear hn hul hug
          subst hq0
          go_wp2
          go_ret
          refine ⟨_, rfl, ?_, rfl⟩
          rw [cons_str, hit.out, hR.out]
          rfl
        · have hR := Lib.hid (hn.out.2 (hug.out hq0))
          rw [hqd.out] at hR
          clear hn hul hug
          have dq : ((q : Int) == 0) = false := by simp [hq0]
          have hW : wrap64 ((10 * (q : Int) + 4).tdiv 10) = (q : Int) := by
            have h := hqb.out
            rw [Int.tdiv_eq_ediv_of_nonneg (by omega), show (10 * (q : Int) + 4) / 10 = (q : Int) by omega]; unfold wrap64; omega
          go_wp2
          refine ⟨⟨q, ⟨#[52]⟩ ++ t, by first | rfl | rw [hW], rfl, by have := hqb.out; omega, by rw [hR.out, cons_str]; rfl, by first | rfl | trivial⟩, ?_⟩
          (try rw [hW])
          clear hW dq z1 z2
          simp only [intOf]
          omega
      · have hD : (⟨#[48, 49, 50, 51, 52, 53, 54, 55, 56, 57]⟩ : ByteArray).extract 5 6 = ⟨#[53]⟩ := rfl
        by_cases hq0 : q = 0
        · have hR := Lib.hid (hn.out.1 (hul.out hq0))
          clear hn hul hug
          subst hq0
          go_wp2
          go_ret
          refine ⟨_, rfl, ?_, rfl⟩
          rw [cons_str, hit.out, hR.out]
          rfl
        · have hR := Lib.hid (hn.out.2 (hug.out hq0))
          rw [hqd.out] at hR
          clear hn hul hug
          have dq : ((q : Int) == 0) = false := by simp [hq0]
          have hW : wrap64 ((10 * (q : Int) + 5).tdiv 10) = (q : Int) := by
            have h := hqb.out
            rw [Int.tdiv_eq_ediv_of_nonneg (by omega), show (10 * (q : Int) + 5) / 10 = (q : Int) by omega]; unfold wrap64; omega
          go_wp2
          refine ⟨⟨q, ⟨#[53]⟩ ++ t, by first | rfl | rw [hW], rfl, by have := hqb.out; omega, by rw [hR.out, cons_str]; rfl, by first | rfl | trivial⟩, ?_⟩
          (try rw [hW])
          clear hW dq z1 z2
          simp only [intOf]
          omega
      · have hD : (⟨#[48, 49, 50, 51, 52, 53, 54, 55, 56, 57]⟩ : ByteArray).extract 6 7 = ⟨#[54]⟩ := rfl
        by_cases hq0 : q = 0
        · have hR := Lib.hid (hn.out.1 (hul.out hq0))
          clear hn hul hug
          subst hq0
          go_wp2
          go_ret
          refine ⟨_, rfl, ?_, rfl⟩
          rw [cons_str, hit.out, hR.out]
          rfl
        · have hR := Lib.hid (hn.out.2 (hug.out hq0))
          rw [hqd.out] at hR
          clear hn hul hug
          have dq : ((q : Int) == 0) = false := by simp [hq0]
          have hW : wrap64 ((10 * (q : Int) + 6).tdiv 10) = (q : Int) := by
            have h := hqb.out
            rw [Int.tdiv_eq_ediv_of_nonneg (by omega), show (10 * (q : Int) + 6) / 10 = (q : Int) by omega]; unfold wrap64; omega
          go_wp2
          refine ⟨⟨q, ⟨#[54]⟩ ++ t, by first | rfl | rw [hW], rfl, by have := hqb.out; omega, by rw [hR.out, cons_str]; rfl, by first | rfl | trivial⟩, ?_⟩
          (try rw [hW])
          clear hW dq z1 z2
          simp only [intOf]
          omega
      · have hD : (⟨#[48, 49, 50, 51, 52, 53, 54, 55, 56, 57]⟩ : ByteArray).extract 7 8 = ⟨#[55]⟩ := rfl
        by_cases hq0 : q = 0
        · have hR := Lib.hid (hn.out.1 (hul.out hq0))
          clear hn hul hug
          subst hq0
          go_wp2
          go_ret
          refine ⟨_, rfl, ?_, rfl⟩
          rw [cons_str, hit.out, hR.out]
          rfl
        · have hR := Lib.hid (hn.out.2 (hug.out hq0))
          rw [hqd.out] at hR
          clear hn hul hug
          have dq : ((q : Int) == 0) = false := by simp [hq0]
          have hW : wrap64 ((10 * (q : Int) + 7).tdiv 10) = (q : Int) := by
            have h := hqb.out
            rw [Int.tdiv_eq_ediv_of_nonneg (by omega), show (10 * (q : Int) + 7) / 10 = (q : Int) by omega]; unfold wrap64; omega
          go_wp2
          refine ⟨⟨q, ⟨#[55]⟩ ++ t, by first | rfl | rw [hW], rfl, by have := hqb.out; omega, by rw [hR.out, cons_str]; rfl, by first | rfl | trivial⟩, ?_⟩
          (try rw [hW])
          clear hW dq z1 z2
          simp only [intOf]
          omega
      · have hD : (⟨#[48, 49, 50, 51, 52, 53, 54, 55, 56, 57]⟩ : ByteArray).extract 8 9 = ⟨#[56]⟩ := rfl
        by_cases hq0 : q = 0
        · have hR := Lib.hid (hn.out.1 (hul.out hq0))
          clear hn hul hug
          subst hq0
          go_wp2
          go_ret
          refine ⟨_, rfl, ?_, rfl⟩
          rw [cons_str, hit.out, hR.out]
          rfl
        · have hR := Lib.hid (hn.out.2 (hug.out hq0))
          rw [hqd.out] at hR
          clear hn hul hug
          have dq : ((q : Int) == 0) = false := by simp [hq0]
          have hW : wrap64 ((10 * (q : Int) + 8).tdiv 10) = (q : Int) := by
            have h := hqb.out
            rw [Int.tdiv_eq_ediv_of_nonneg (by omega), show (10 * (q : Int) + 8) / 10 = (q : Int) by omega]; unfold wrap64; omega
          go_wp2
          refine ⟨⟨q, ⟨#[56]⟩ ++ t, by first | rfl | rw [hW], rfl, by have := hqb.out; omega, by rw [hR.out, cons_str]; rfl, by first | rfl | trivial⟩, ?_⟩
          (try rw [hW])
          clear hW dq z1 z2
          simp only [intOf]
          omega
      · have hD : (⟨#[48, 49, 50, 51, 52, 53, 54, 55, 56, 57]⟩ : ByteArray).extract 9 10 = ⟨#[57]⟩ := rfl
        by_cases hq0 : q = 0
        · have hR := Lib.hid (hn.out.1 (hul.out hq0))
          clear hn hul hug
          subst hq0
          go_wp2
          go_ret
          refine ⟨_, rfl, ?_, rfl⟩
          rw [cons_str, hit.out, hR.out]
          rfl
        · have hR := Lib.hid (hn.out.2 (hug.out hq0))
          rw [hqd.out] at hR
          clear hn hul hug
          have dq : ((q : Int) == 0) = false := by simp [hq0]
          have hW : wrap64 ((10 * (q : Int) + 9).tdiv 10) = (q : Int) := by
            have h := hqb.out
            rw [Int.tdiv_eq_ediv_of_nonneg (by omega), show (10 * (q : Int) + 9) / 10 = (q : Int) by omega]; unfold wrap64; omega
          go_wp2
          refine ⟨⟨q, ⟨#[57]⟩ ++ t, by first | rfl | rw [hW], rfl, by have := hqb.out; omega, by rw [hR.out, cons_str]; rfl, by first | rfl | trivial⟩, ?_⟩
          (try rw [hW])
          clear hW dq z1 z2
          simp only [intOf]
          omega
end Go.Proofs.YtmnhmkjmcckneaaGreatDoor
