/- Plain facts on padded numbers: digW. -/
import Derived.Test.YtkggloeaojkhaaaGreatDoorPb
namespace Go.Proofs.YtkggloeaojkhaaaGreatDoor
open Go.RowKit
/-- The last w digits of n. -/
def digW : Nat → Nat → List UInt8
 | 0, _ => []
 | w + 1, n => digW w (n / 10) ++ [UInt8.ofNat (48 + n % 10)]
theorem digW_len : ∀ (w n : Nat), (digW w n).length = w
 | 0, _ => rfl
 | w + 1, n => by unfold digW; rw [List.length_append, digW_len w]; rfl
theorem digW_zero : ∀ w : Nat, digW w 0 = List.replicate w 48
 | 0 => rfl
 | w + 1 => by
  unfold digW
  rw [Nat.zero_div, digW_zero w, List.replicate_succ']
  rfl
theorem decDigits_one {n : Nat} (h : n < 10) : Lib.decDigits n = [UInt8.ofNat (48 + n)] := by rw [Lib.decDigits, dif_pos h]
theorem decDigits_more {n : Nat} (h : ¬ n < 10) : Lib.decDigits n = Lib.decDigits (n / 10) ++ [UInt8.ofNat (48 + n % 10)] := by conv => lhs; rw [Lib.decDigits, dif_neg h]
theorem itoa_dec (n : Nat) : Lib.itoa (n : Int) = Lib.decDigits n := by unfold Lib.itoa; rw [if_neg (by omega)]; rfl
theorem padL_eq : ∀ (w n : Nat), 1 ≤ w → n < 10 ^ w → padL n w = digW w n
 | 0, _, h, _ => absurd h (by decide)
 | w + 1, n, _, hn => by
  unfold padL
  rw [itoa_dec]
  by_cases h : n < 10
  · rw [decDigits_one h]
    unfold digW
    rw [Nat.div_eq_of_lt h, Nat.mod_eq_of_lt h, digW_zero]
    rfl
  · have hw : 1 ≤ w := by
     cases w with
     | zero => omega
     | succ k => omega
    rw [decDigits_more h, List.length_append]
    have ih := padL_eq w (n / 10) hw (by rw [Nat.pow_succ] at hn; omega)
    unfold padL at ih
    rw [itoa_dec] at ih
    unfold digW
    rw [← ih, List.append_assoc]
    have e : w + 1 - ((Lib.decDigits (n / 10)).length + [UInt8.ofNat (48 + n % 10)].length) = w - (Lib.decDigits (n / 10)).length := by simp only [List.length_cons, List.length_nil]; omega
    rw [e]
theorem u8_48 (d : Nat) (h : d < 10) : (UInt8.ofNat (48 + d)).toNat = 48 + d := by
 rw [UInt8.toNat_ofNat']
 omega
theorem digW_all (P : UInt8 → Bool) (hP : ∀ d : Nat, d < 10 → P (UInt8.ofNat (48 + d)) = true) : ∀ (w n : Nat), (digW w n).all P = true
 | 0, _ => rfl
 | w + 1, n => by
  unfold digW
  rw [List.all_append, digW_all P hP w]
  simp only [List.all_cons, List.all_nil, Bool.and_true, Bool.true_and]
  exact hP _ (Nat.mod_lt _ (by decide))
theorem digW_inj : ∀ (w n m : Nat), n < 10 ^ w → m < 10 ^ w → digW w n = digW w m → n = m
 | 0, n, m, hn, hm, _ => by rw [Nat.pow_zero] at hn hm; omega
 | w + 1, n, m, hn, hm, h => by
  unfold digW at h
  have h1 := List.append_inj' h rfl
  have e1 := digW_inj w (n / 10) (m / 10) (by rw [Nat.pow_succ] at hn; omega) (by rw [Nat.pow_succ] at hm; omega) h1.1
  have e2 := h1.2
  injection e2 with e2
  have e3 := congrArg UInt8.toNat e2
  rw [u8_48 _ (Nat.mod_lt _ (by decide)), u8_48 _ (Nat.mod_lt _ (by decide))] at e3
  omega
/-- The reference of a date, a sender and a number. -/
def refL (date sender number : Nat) : List UInt8 := digW 5 date ++ digW 1 sender ++ digW 6 number
theorem refL_len (a b c : Nat) : (refL a b c).length = 12 := by unfold refL; rw [List.length_append, List.length_append, digW_len, digW_len, digW_len]
theorem refL_num {a b c a' b' c' : Nat} (hc : c < 1000000) (hc' : c' < 1000000) (h : refL a b c = refL a' b' c') : c = c' := by
 unfold refL at h
 have h1 := List.append_inj' h (by rw [digW_len, digW_len])
 exact digW_inj 6 c c' (by omega) (by omega) h1.2
end Go.Proofs.YtkggloeaojkhaaaGreatDoor
