/- Contracts of calendar's isDate and Day, of trace.NewSource, of forward's isTime (walks; printed by gen/h70.py). -/
import Derived.Test.YtkggloeaojkhaaaGreatDoorQa
namespace Go.Proofs.YtkggloeaojkhaaaGreatDoor
open Go.RowKit
def OneQ (v : Value) (w : World) (e : Ending) (w' : World) : Prop := e = .returned v ∧ Ext w w'
def dateB (n : Int) : Bool := decide (0 ≤ n) && decide (n ≤ 99999)
set_option maxHeartbeats 1000000 in
theorem isDate_any (n : Int) (w : World) : Calls Tryz.prog 100 #[.int .i64 n] w (OneQ (.bool (dateB n)) w) := by
 unfold dateB
 by_cases h0 : 0 ≤ n
 · by_cases h1 : n ≤ 99999
   · have q0 : decide (0 ≤ n) = true := decide_eq_true h0
     have q1 : decide (n ≤ 99999) = true := decide_eq_true h1
     rw [q0, q1]
     go_enter Tryz.func100, Tryz.ntmps100
     go_wp2
     try go_ret
     exact ⟨rfl, xt⟩
   · have q0 : decide (0 ≤ n) = true := decide_eq_true h0
     have q1 : decide (n ≤ 99999) = false := decide_eq_false h1
     rw [q0, q1]
     go_enter Tryz.func100, Tryz.ntmps100
     go_wp2
     try go_ret
     exact ⟨rfl, xt⟩
 · have q0 : decide (0 ≤ n) = false := decide_eq_false h0
   rw [q0]
   go_enter Tryz.func100, Tryz.ntmps100
   go_wp2
   try go_ret
   exact ⟨rfl, xt⟩
/-- The date and the second of a time; -1, -1 if it is none. -/
def dayV (at' : Int) : Int × Int := if 0 ≤ at' ∧ at' < 8640000000 then (at' / 86400, at' % 86400) else (-1, -1)
set_option maxRecDepth 8000 in
set_option maxHeartbeats 2000000 in
theorem day_any (n : Int) (w : World) : Calls Tryz.prog 57 #[.int .i64 n] w (OneQ (.tuple #[.int .i64 (dayV n).1, .int .i64 (dayV n).2]) w) := by
 by_cases h0 : n < 0
 · have q0 : decide (n < 0) = true := decide_eq_true h0
   have e : dayV n = (-1, -1) := by unfold dayV; rw [if_neg (by omega)]
   rw [e]
   clear e
   go_enter Tryz.func57, Tryz.ntmps57
   go_wp2_with fail
   go_ret2
   exact ⟨rfl, xt⟩
 · have q0 : decide (n < 0) = false := decide_eq_false h0
   have hd : n.tdiv 86400 = n / 86400 := Int.tdiv_eq_ediv_of_nonneg (by omega)
   have hm : n.tmod 86400 = n % 86400 := Int.tmod_eq_emod_of_nonneg (by omega)
   by_cases h1 : 1099511627776 < n
   · have q1 : decide (1099511627776 < n) = true := decide_eq_true h1
     have e : dayV n = (-1, -1) := by unfold dayV; rw [if_neg (by omega)]
     rw [e]
     clear e hd hm
     go_enter Tryz.func57, Tryz.ntmps57
     go_wp2_with fail
     go_ret2
     exact ⟨rfl, xt⟩
   · have q1 : decide (1099511627776 < n) = false := decide_eq_false h1
     obtain ⟨D, hD⟩ : ∃ D, D = n / 86400 := ⟨_, rfl⟩
     obtain ⟨S, hS⟩ : ∃ S, S = n % 86400 := ⟨_, rfl⟩
     rw [← hD] at hd
     rw [← hS] at hm
     have kD := Lib.hid (fun w => isDate_any D w)
     by_cases h2 : n < 8640000000
     · have e : dayV n = (D, S) := by unfold dayV; rw [if_pos (by omega), hD, hS]
       have q2 : dateB D = true := by unfold dateB; rw [decide_eq_true (by omega), decide_eq_true (by omega)]; rfl
       rw [e]
       rw [q2] at kD
       have hD0 : 0 ≤ D ∧ D ≤ 99999 := by omega
       have hS0 : 0 ≤ S ∧ S ≤ 86399 := by omega
       clear e hD hS
       go_enter Tryz.func57, Tryz.ntmps57
       go_wp2_with fail
       refine (kD.out _).mono ?_
       rintro e w1 ⟨rfl, hE⟩
       go_wp2_with fail
       go_ret2
       exact ⟨rfl, hE⟩
     · have e : dayV n = (-1, -1) := by unfold dayV; rw [if_neg (by omega)]
       have q2 : dateB D = false := by unfold dateB; rw [decide_eq_false (show ¬ D ≤ 99999 by omega), Bool.and_false]
       rw [e]
       rw [q2] at kD
       have hD0 : 0 ≤ D ∧ D ≤ 12725829 := by omega
       clear e hD hS
       go_enter Tryz.func57, Tryz.ntmps57
       go_wp2_with fail
       refine (kD.out _).mono ?_
       rintro e w1 ⟨rfl, hE⟩
       go_wp2_with fail
       go_ret2
       exact ⟨rfl, hE⟩
end Go.Proofs.YtkggloeaojkhaaaGreatDoor
