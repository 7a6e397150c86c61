/- Plain facts on words of 64 bits. -/
import Derived.Laws.Bits64
import Derived.Lib.Hide
namespace Go.Proofs.YthokhncdpfaifaaGreatDoor
open Go

/-- A word without its highest bit. -/
def clr (a : Nat) : Nat := a % 2 ^ 63
/-- A power of two. -/
def pw (i : Nat) : Nat := 2 ^ i
/-- A word. -/
def Wd (a : Nat) : Prop := a < 2 ^ 64
theorem ofInt_nat (a : Nat) (ha : a < 2 ^ 64) : (BitVec.ofInt 64 (a : Int)).toNat = a := by
  rw [BitVec.ofInt_natCast, BitVec.toNat_ofNat]; exact Nat.mod_eq_of_lt ha
theorem wrap_nat (a : Nat) (ha : a < 2 ^ 64) : IntKind.u64.wrap (a : Int) = a := by rw [IntKind.wrap_u64]; omega
theorem bits_or (a b : Nat) (ha : Wd a) (hb : Wd b) : bits .or .u64 (a : Int) (b : Int) = ((a ||| b : Nat) : Int) := by
  unfold Wd at *
  show IntKind.u64.wrap ((BitVec.ofInt 64 (a : Int) ||| BitVec.ofInt 64 (b : Int)).toNat : Int) = _
  rw [BitVec.toNat_or, ofInt_nat a ha, ofInt_nat b hb, wrap_nat _ (Nat.or_lt_two_pow ha hb)]
theorem bits_and (a b : Nat) (ha : Wd a) (hb : Wd b) : bits .and .u64 (a : Int) (b : Int) = ((a &&& b : Nat) : Int) := by
  unfold Wd at *
  show IntKind.u64.wrap ((BitVec.ofInt 64 (a : Int) &&& BitVec.ofInt 64 (b : Int)).toNat : Int) = _
  rw [BitVec.toNat_and, ofInt_nat a ha, ofInt_nat b hb, wrap_nat _ (Nat.and_lt_two_pow _ hb)]
theorem bits_andNot (a b : Nat) (ha : Wd a) (hb : Wd b) : bits .andNot .u64 (a : Int) (b : Int) = ((a &&& (2 ^ 64 - 1 - b) : Nat) : Int) := by
  unfold Wd at *
  show IntKind.u64.wrap ((BitVec.ofInt 64 (a : Int) &&& ~~~ BitVec.ofInt 64 (b : Int)).toNat : Int) = _
  rw [BitVec.toNat_and, BitVec.toNat_not, ofInt_nat a ha, ofInt_nat b hb, wrap_nat _ (Nat.and_lt_two_pow _ (by omega))]
theorem bits_clr (a : Nat) (ha : Wd a) : bits .andNot .u64 (a : Int) 9223372036854775808 = (clr a : Int) := by
  have := bits_andNot a 9223372036854775808 ha (by unfold Wd; omega)
  rw [show ((9223372036854775808 : Nat) : Int) = 9223372036854775808 from rfl] at this
  rw [this, clr]
  congr 1
  rw [show 2 ^ 64 - 1 - 9223372036854775808 = 2 ^ 63 - 1 from by decide, Nat.and_two_pow_sub_one_eq_mod]
theorem Wd_clr (a : Nat) : Wd (clr a) := by unfold Wd clr; omega
theorem Wd_pw (i : Nat) (h : i ≤ 63) : Wd (pw i) := by
  unfold Wd pw
  exact Nat.pow_lt_pow_right (by omega) (by omega)
theorem Wd_or {a b : Nat} (ha : Wd a) (hb : Wd b) : Wd (a ||| b) := Nat.or_lt_two_pow ha hb
theorem wrap_pw (i : Nat) (h : i ≤ 63) : IntKind.u64.wrap (2 ^ i) = (pw i : Int) := by
  have := wrap_nat (pw i) (Wd_pw i h)
  rw [← this]; unfold pw; simp
theorem testBit_clr (a i : Nat) : (clr a).testBit i = (decide (i < 63) && a.testBit i) := by unfold clr; rw [Nat.testBit_mod_two_pow]
theorem testBit_pw (i j : Nat) : (pw i).testBit j = decide (i = j) := by unfold pw; rw [Nat.testBit_two_pow]
theorem and_pw_ne (a i : Nat) : ((a &&& pw i : Nat) : Int) ≠ 0 ↔ a.testBit i = true := by
  constructor
  · intro h
    cases hb : a.testBit i with
    | true => rfl
    | false =>
      exfalso
      apply h
      have : a &&& pw i = 0 := by
        apply Nat.eq_of_testBit_eq
        intro j
        rw [Nat.testBit_and, testBit_pw, Nat.zero_testBit]
        by_cases e : i = j
        · subst e; simp [hb]
        · simp [e]
      omega
  · intro h e
    have e' : a &&& pw i = 0 := by omega
    have := congrArg (fun x => x.testBit i) e'
    simp [Nat.testBit_and, testBit_pw, h] at this
theorem and_i64 (x : Int) : ∃ c : Nat, c ≤ 127 ∧ bits .and .i64 x 127 = c := by
  refine ⟨(BitVec.ofInt 64 x &&& BitVec.ofInt 64 127).toNat, ?_, ?_⟩
  · rw [BitVec.toNat_and]
    exact Nat.and_le_right
  · show IntKind.i64.wrap ((BitVec.ofInt 64 x &&& BitVec.ofInt 64 127).toNat : Int) = _
    have h : (BitVec.ofInt 64 x &&& BitVec.ofInt 64 127).toNat ≤ 127 := by rw [BitVec.toNat_and]; exact Nat.and_le_right
    rw [IntKind.wrap_i64] <;> omega
end Go.Proofs.YthokhncdpfaifaaGreatDoor
