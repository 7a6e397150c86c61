/- Records, results and fee tables as data; what record.Check and assess compute, in plain words (printed by gen/h2.py). -/
import Derived.Test.YtmnhmkjmcckneaaGreatDoorHa
namespace Go.Proofs.YtmnhmkjmcckneaaGreatDoor
open Go.RowKit
def I64 (n : Int) : Prop := -9223372036854775808 ≤ n ∧ n ≤ 9223372036854775807
structure RecD where
 kind : Int
 id : ByteArray
 auth : ByteArray
 acq : ByteArray
 iss : ByteArray
 mer : ByteArray
 card : ByteArray
 amt : Int
 cur : ByteArray
 date : Int
 cat : Int
 fin : Bool
def recD : RecD := ⟨0, emS, emS, emS, emS, emS, emS, 0, emS, 0, 0, false⟩
def recAgg (r : RecD) : Value := .agg #[.int .i64 r.kind, .string r.id, .string r.auth, .string r.acq, .string r.iss, .string r.mer, .string r.card, .int .i64 r.amt, .string r.cur, .int .i64 r.date, .int .i64 r.cat, .bool r.fin]
def panE (s : ByteArray) : Int := if s.size < 12 then 1 else if 19 < s.size then 3 else if s.data.toList.all dgtB = false then 2 else if luhnTo s s.size % 10 ≠ 0 then 9 else 0
def namesR (r : RecD) : Bool := idS r.id && (decide (r.auth.size = 0) || idS r.auth) && nameB r.acq && nameB r.iss && idS r.mer
def limB (r : RecD) : Bool := decide (1 ≤ r.amt) && decide (r.amt ≤ 999999999999) && decide (0 ≤ r.cat) && decide (r.cat ≤ 9999)
/-- The point k of the list of a record's points. -/
def pointE (r : RecD) : Nat → Int
 | 0 => if 1 ≤ r.kind ∧ r.kind ≤ 4 then 0 else 4
 | 1 => if namesR r then 0 else 5
 | 2 => if panE r.card = 0 then 0 else 17
 | 3 => monE r.amt r.cur
 | 4 => if limB r then 0 else 4
 | 5 => if 0 ≤ r.date ∧ r.date ≤ 99999 then 0 else 14
 | _ => 0
/-- What record.Check returns. -/
def recE (r : RecD) : Int := if pointE r 0 ≠ 0 then pointE r 0 else if pointE r 1 ≠ 0 then pointE r 1 else if pointE r 2 ≠ 0 then pointE r 2 else if pointE r 3 ≠ 0 then pointE r 3 else if pointE r 4 ≠ 0 then pointE r 4 else pointE r 5
theorem recE_at {r : RecD} : ∀ {k : Nat}, k < 6 → (∀ j, j < k → pointE r j = 0) → pointE r k ≠ 0 → recE r = pointE r k
 | 0, _, _, h => by unfold recE; rw [if_pos h]
 | 1, _, a, h => by unfold recE; rw [if_neg (by rw [a 0 (by omega)]; decide), if_pos h]
 | 2, _, a, h => by unfold recE; rw [if_neg (by rw [a 0 (by omega)]; decide), if_neg (by rw [a 1 (by omega)]; decide), if_pos h]
 | 3, _, a, h => by unfold recE; rw [if_neg (by rw [a 0 (by omega)]; decide), if_neg (by rw [a 1 (by omega)]; decide), if_neg (by rw [a 2 (by omega)]; decide), if_pos h]
 | 4, _, a, h => by unfold recE; rw [if_neg (by rw [a 0 (by omega)]; decide), if_neg (by rw [a 1 (by omega)]; decide), if_neg (by rw [a 2 (by omega)]; decide), if_neg (by rw [a 3 (by omega)]; decide), if_pos h]
 | 5, _, a, _ => by unfold recE; rw [if_neg (by rw [a 0 (by omega)]; decide), if_neg (by rw [a 1 (by omega)]; decide), if_neg (by rw [a 2 (by omega)]; decide), if_neg (by rw [a 3 (by omega)]; decide), if_neg (by rw [a 4 (by omega)]; decide)]
 | k + 6, h, _, _ => by omega
theorem recE_ok {r : RecD} (h : ∀ j, j < 6 → pointE r j = 0) : recE r = 0 := by
 unfold recE
 rw [if_neg (by rw [h 0 (by omega)]; decide), if_neg (by rw [h 1 (by omega)]; decide), if_neg (by rw [h 2 (by omega)]; decide), if_neg (by rw [h 3 (by omega)]; decide), if_neg (by rw [h 4 (by omega)]; decide), h 5 (by omega)]
theorem recE_inv {r : RecD} (h : recE r = 0) : ∀ j, j < 6 → pointE r j = 0 := by
 unfold recE at h
 split at h
 · contradiction
 split at h
 · contradiction
 split at h
 · contradiction
 split at h
 · contradiction
 split at h
 · contradiction
 rename_i h0 h1 h2 h3 h4
 intro j hj
 match j, hj with
 | 0, _ => exact Decidable.not_not.1 h0
 | 1, _ => exact Decidable.not_not.1 h1
 | 2, _ => exact Decidable.not_not.1 h2
 | 3, _ => exact Decidable.not_not.1 h3
 | 4, _ => exact Decidable.not_not.1 h4
 | 5, _ => exact h
theorem rec_amt {r : RecD} (h : recE r = 0) : 1 ≤ r.amt ∧ r.amt ≤ 999999999999 ∧ 0 ≤ r.cat ∧ r.cat ≤ 9999 := by
 have h4 := recE_inv h 4 (by omega)
 simp only [pointE] at h4
 split at h4
 · rename_i hl
   unfold limB at hl
   simp only [Bool.and_eq_true, decide_eq_true_eq] at hl
   omega
 · cases h4
end Go.Proofs.YtmnhmkjmcckneaaGreatDoor
