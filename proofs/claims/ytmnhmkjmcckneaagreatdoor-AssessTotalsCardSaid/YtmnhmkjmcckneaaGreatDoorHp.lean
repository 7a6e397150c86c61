/- Results and fee tables as data; what assess computes, in plain words (printed by gen/h2.py). -/
import Derived.Test.YtmnhmkjmcckneaaGreatDoorHr
import Derived.Test.YtmnhmkjmcckneaaGreatDoorFz
import Derived.Test.YtmnhmkjmcckneaaGreatDoorFx
namespace Go.Proofs.YtmnhmkjmcckneaaGreatDoor
open Go.RowKit
/-- The features of a record. -/
def kinN : ByteArray := ⟨#[107, 105, 110, 100]⟩
def catN : ByteArray := ⟨#[99, 97, 116, 101, 103, 111, 114, 121]⟩
def amoN : ByteArray := ⟨#[97, 109, 111, 117, 110, 116]⟩
def datN : ByteArray := ⟨#[100, 97, 116, 101]⟩
def merN : ByteArray := ⟨#[109, 101, 114, 99, 104, 97, 110, 116]⟩
def issN : ByteArray := ⟨#[105, 115, 115, 117, 101, 114]⟩
def acqN : ByteArray := ⟨#[97, 99, 113, 117, 105, 114, 101, 114]⟩
def curN : ByteArray := ⟨#[99, 117, 114, 114, 101, 110, 99, 121]⟩
def autN : ByteArray := ⟨#[97, 117, 116, 104, 111, 114, 105, 122, 101, 100]⟩
def recF (r : RecD) : List Feat := [⟨kinN, 1, r.kind, emS⟩, ⟨catN, 1, r.cat, emS⟩, ⟨amoN, 1, r.amt, emS⟩, ⟨datN, 1, r.date, emS⟩, ⟨merN, 2, 0, r.mer⟩, ⟨issN, 2, 0, r.iss⟩, ⟨acqN, 2, 0, r.acq⟩, ⟨curN, 2, 0, r.cur⟩, ⟨autN, 3, if r.auth.size = 0 then 0 else 1, emS⟩]
/-- The error of a rule of a table behind others. -/
def ruleE (before : List RuleD) (r : RuleD) (fs : List Feat) : Int :=
 if nameB r.name = false then 5 else if (before.any fun o => decide (o.name = r.name)) = true then 7 else if possB r = false then 4 else if (checkV r.when fs).2 ≠ 0 then (checkV r.when fs).2 else if (checkV r.when fs).1 ≠ 3 then 28 else 0
/-- The first error of the rules from k on. -/
def tabFrom (l : List RuleD) (fs : List Feat) : Nat → Nat → Int
 | _, 0 => 0
 | k, m + 1 => if ruleE (l.take k) (l.getD k rD) fs ≠ 0 then ruleE (l.take k) (l.getD k rD) fs else tabFrom l fs (k + 1) m
/-- What feerule.Check returns. -/
def tabE (l : List RuleD) (fs : List Feat) : Int := if 64 < l.length then 3 else tabFrom l fs 0 l.length
/-- What assess.Check says of one table. -/
def oneE (l : List RuleD) : Int := if tabE l (recF recD) ≠ 0 then tabE l (recF recD) else if totB l = false then 6 else 0
structure TabsD where
 i : List RuleD
 s : List RuleD
 m : List RuleD
def tabsE (t : TabsD) : Int := if oneE t.i ≠ 0 then oneE t.i else if oneE t.s ≠ 0 then oneE t.s else oneE t.m
/-- What each party receives, and the fees. -/
structure ResD where
 i : LineD
 s : LineD
 m : LineD
 card : Int
 iss : Int
 acq : Int
 shop : Int
 net : Int
def resD : ResD := ⟨lineD, lineD, lineD, 0, 0, 0, 0, 0⟩
def resAgg (x : ResD) : Value := .agg #[.string x.i.rule, .int .i64 x.i.amt, .string x.i.why, .string x.s.rule, .int .i64 x.s.amt, .string x.s.why, .string x.m.rule, .int .i64 x.m.amt, .string x.m.why, .int .i64 x.card, .int .i64 x.iss, .int .i64 x.acq, .int .i64 x.shop, .int .i64 x.net]
/-- Whether the cardholder pays. -/
def paysB (k : Int) : Bool := decide (k = 1) || decide (k = 4)
def shareV (k a : Int) (i s m : LineD) : ResD := if paysB k then ⟨i, s, m, -a, i.amt, m.amt - i.amt - s.amt, a - m.amt, s.amt⟩ else ⟨i, s, m, a, -i.amt, i.amt - m.amt - s.amt, m.amt - a, s.amt⟩
/-- What Assess returns. -/
def assessV (t : TabsD) (r : RecD) : ResD × Int :=
 if recE r ≠ 0 then (resD, recE r) else if tabsE t ≠ 0 then (resD, tabsE t) else
 if (applyV t.i (recF r) r.amt).2 ≠ 0 then (resD, (applyV t.i (recF r) r.amt).2) else
 if (applyV t.s (recF r) r.amt).2 ≠ 0 then (resD, (applyV t.s (recF r) r.amt).2) else
 if (applyV t.m (recF r) r.amt).2 ≠ 0 then (resD, (applyV t.m (recF r) r.amt).2) else
 (shareV r.kind r.amt (applyV t.i (recF r) r.amt).1 (applyV t.s (recF r) r.amt).1 (applyV t.m (recF r) r.amt).1, 0)
theorem fee_top {r : RuleD} {n : Int} (h : (feeV r n).2 = 0) : 0 ≤ (feeV r n).1 ∧ (feeV r n).1 ≤ 2000000000000 := by
 obtain ⟨b1, b2, b3, ho⟩ := fee_bounds h
 obtain ⟨⟨h1, h2⟩, h3⟩ := (feeOk_iff r n).1 ho
 obtain ⟨p1, p2, p3, p4, p5, p6, p7⟩ := (poss_iff r).1 h3
 refine ⟨by omega, ?_⟩
 unfold feeV
 rw [if_pos ho]
 have hnn : (n * r.bps + 5000) / 10000 ≤ 1000000000000 := by
  have : n * r.bps ≤ 999999999999 * 10000 := Int.mul_le_mul h2 p2 p1 (by omega)
  omega
 have hl : feeLow r n ≤ 2000000000000 := by unfold feeLow; omega
 split
 · exact hl
 · simp only; omega
theorem apply_top {l : List RuleD} {fs : List Feat} {n : Int} (h : (applyV l fs n).2 = 0) : 0 ≤ (applyV l fs n).1.amt ∧ (applyV l fs n).1.amt ≤ 2000000000000 := by
 unfold applyV at h ⊢
 split
 · rename_i hi
   rw [hi] at h
   cases h
 · rename_i i hi
   rw [hi] at h
   simp only at h ⊢
   split at h
   · contradiction
   · rename_i h0
     rw [if_neg h0]
     exact fee_top (Decidable.not_not.1 h0)
theorem tab_step (l : List RuleD) (fs : List Feat) (k : Nat) (h : k < l.length) : tabFrom l fs k (l.length - k) = if ruleE (l.take k) (l.getD k rD) fs ≠ 0 then ruleE (l.take k) (l.getD k rD) fs else tabFrom l fs (k + 1) (l.length - (k + 1)) := by
 rw [show l.length - k = (l.length - (k + 1)) + 1 by omega, tabFrom]
end Go.Proofs.YtmnhmkjmcckneaaGreatDoor
