/- Contracts of ask (walks): what a source says. -/
import Derived.Test.YtpdpjindmghfpaaGreatDoorEck
import Derived.Defers
import Derived.Recover
namespace Go.Proofs.YtpdpjindmghfpaaGreatDoor
open Go.RowKit
theorem ask1_idle (p q : Addr) (w : World) :
    CallsD Tryz.prog 116 #[.pointer (some p), .pointer (some q)] .returning w fun e u' w' => e = .returned (.tuple #[]) ∧ u' = .returning ∧ w' = w := by
  refine callsD_of_wpS Tryz.func116 rfl fun c₀ cs hu => ?_
  apply wpS_seq
  apply wpS_region
  simp [wpOpsS, go_sem, recoverD, hu, Tryz.ntmps116, Exit.thenS]
  refine wpS_cond (t := false) (by simp [Act.eval, Array.replicate]) ?_
  simp only [Bool.false_eq_true, if_false]
  refine wpS_of_wp (wp_skip ?_)
  cases c₀
  simp_all [bodyPostS, results, Tryz.results116]
def AskPost (o : Option Int) (w : World) (e : Ending) (w' : World) : Prop := e = .returned (.tuple #[.int .i64 (o.getD 0), .bool o.isSome]) ∧ Ext w w'
set_option maxRecDepth 8000 in
set_option maxHeartbeats 1000000 in
theorem ask_nil (E : Nat) (op : Int) (nm tx : ByteArray) (n : Int) (u : Value) (w : World) (hs : w.cell? ⟨E, 1, none⟩ = some .nilIface) : Calls Tryz.prog 94 #[.pointer (some ⟨E, 0, none⟩), .agg #[.int .i64 op, .string nm, .string tx, .int .i64 n, u]] w (AskPost (some 0) w) := by
  have hmf : ∀ (fn : Fn) (first cap : Array Value) (w : World), (Instr.makeFunc fn first cap).run Tryz.prog w = .ok (.func fn first cap) w := fun _ _ _ _ => rfl
  have hE : E < w.heap.size := cell_lt hs
  have hE1 : E < w.heap.size + 1 := by omega
  have hE2 : E < w.heap.size + 1 + 1 := by omega
  have hq : ∀ w : World, (binOp .eql 84 .nilIface .nilIface).run Tryz.prog w = .ok (.bool true) w := fun _ => rfl
  go_enter_defers Tryz.func94, Tryz.ntmps94
  go_wp2
  refine leaves_cons (f := 116) (args := #[.pointer (some ⟨w.heap.size + 1, 0, none⟩), .pointer (some ⟨w.heap.size + 1 + 1, 0, none⟩)]) (by simp) (by simp [go_sem]) ?_
  refine (ask1_idle _ _ _).mono ?_
  rintro e u' w'' ⟨rfl, rfl, rfl⟩
  simp [Leaves, settle, results, Tryz.results94, go_sem]
  exact ⟨rfl, (by repeat (first | with_reducible exact Ext.refl _ | with_reducible exact hE0 | with_reducible exact hE | with_reducible refine Ext.alloc ?_ _ | with_reducible refine Ext.drewN ?_ _ | with_reducible refine Ext.drew ?_ | ((with_reducible refine Ext.setCell ?_ ?side _); (case side => first | exact Nat.le_refl _ | (simp; done) | (simp; omega)))))⟩
def okN (n : Int) : Option Int := if nbrB n then some n else none
/-- What the evaluator at block E is told by its source. -/
def Asker (w : World) (E : Nat) (S : Bool → ByteArray → Int → Int) : Prop :=
  ∀ w', Ext w w' → ∀ (op : Int) (nm tx : ByteArray) (n : Int) (u : Value), op = 16 ∨ op = 17 → Calls Tryz.prog 94 #[.pointer (some ⟨E, 0, none⟩), .agg #[.int .i64 op, .string nm, .string tx, .int .i64 n, u]] w' (AskPost (okN (S (decide (op = 16)) nm n)) w')
def nilS (_ : Bool) (_ : ByteArray) (_ : Int) : Int := 0
theorem asker_nil {w : World} {E : Nat} (hs : w.cell? ⟨E, 1, none⟩ = some .nilIface) : Asker w E nilS := by
  intro w' hE op nm tx n u _
  exact ask_nil E op nm tx n u w' (hE.get hs)
theorem Asker.ext {w w' : World} {E : Nat} {S : Bool → ByteArray → Int → Int} (h : Asker w E S) (k : Ext w w') : Asker w' E S :=
  fun w2 h2 => h w2 (k.trans h2)
end Go.Proofs.YtpdpjindmghfpaaGreatDoor
