/- Contracts of wire.Reader's methods (walks; the closures are entered in place). -/
import Derived.Test.YthokhncdpfaifaaGreatDoorWirea
import Derived.Outline
import Derived.BigQuiet
import Derived.Deep.QuietTactic
import Derived.OneCell
namespace Go.Proofs.YthokhncdpfaifaaGreatDoor
open Go.RowKit

/-- Block r is a reader. -/
def Rd (w : World) (r : Nat) (rest : ByteArray) (err : Int) : Prop := w.heap[r]? = some (.cells #[.string rest, .int .i64 err] 135 (0, 0))
theorem Rd.lt {w : World} {r : Nat} {rest : ByteArray} {err : Int} (h : Rd w r rest err) : r < w.heap.size := (Array.getElem?_eq_some_iff.1 h).1
theorem Rd.c0 {w : World} {r : Nat} {rest : ByteArray} {err : Int} (h : Rd w r rest err) : w.cell? ⟨r, 0, none⟩ = some (.string rest) := by simp [World.cell?, Rd] at *; rw [h]; rfl
theorem Rd.c1 {w : World} {r : Nat} {rest : ByteArray} {err : Int} (h : Rd w r rest err) : w.cell? ⟨r, 1, none⟩ = some (.int .i64 err) := by simp [World.cell?, Rd] at *; rw [h]; rfl
theorem Rd.f0 {w : World} {r : Nat} {rest : ByteArray} {err : Int} (h : Rd w r rest err) : w.frozen? ⟨r, 0, none⟩ = false := by simp [World.frozen?, Rd] at *; rw [h]; rfl
theorem Rd.f1 {w : World} {r : Nat} {rest : ByteArray} {err : Int} (h : Rd w r rest err) : w.frozen? ⟨r, 1, none⟩ = false := by simp [World.frozen?, Rd] at *; rw [h]; rfl

/-- w' is w with new blocks and draws, and block r may have changed. -/
structure ExtBut (r : Nat) (w w' : World) : Prop where
  os : w'.os = w.os
  tape : w'.tape = w.tape
  output : w'.output = w.output
  size : w.heap.size ≤ w'.heap.size
  block : ∀ k, k < w.heap.size → k ≠ r → w'.heap[k]? = w.heap[k]?
theorem ExtBut.refl (r : Nat) (w : World) : ExtBut r w w := ⟨rfl, rfl, rfl, Nat.le_refl _, fun _ _ _ => rfl⟩
theorem ExtBut.alloc {r : Nat} {a w : World} (h : ExtBut r a w) (o : Obj) : ExtBut r a (w.alloc o) :=
  ⟨h.os, h.tape, h.output, by have := h.size; simp; omega, fun k hk hr => by rw [Below.heap_alloc _ _ _ (Nat.lt_of_lt_of_le hk h.size)]; exact h.block k hk hr⟩
theorem ExtBut.setCell {r : Nat} {a w : World} (h : ExtBut r a w) (o : Nat) (v : Value) : ExtBut r a (w.setCell ⟨r, o, none⟩ v) :=
  ⟨h.os, h.tape, h.output, by have := h.size; simp; omega, fun k hk hr => by rw [Below.heap_setCell _ _ _ _ hr]; exact h.block k hk hr⟩
theorem ExtBut.drew {r : Nat} {a w : World} (h : ExtBut r a w) : ExtBut r a w.drew := ⟨h.os, h.tape, h.output, h.size, h.block⟩
theorem ExtBut.after {r : Nat} {a b c : World} (h : Ext a b) (k : ExtBut r b c) (hr : a.heap.size ≤ r) : Ext a c :=
  ⟨k.os.trans (Below.os h), k.tape.trans (Below.tape h), k.output.trans (Below.output h), Nat.le_trans h.size k.size, fun i hi => (k.block i (Nat.lt_of_lt_of_le hi h.size) (by omega)).trans (h.block i hi)⟩
theorem ExtBut.of_ext {r : Nat} {a b : World} (h : Ext a b) : ExtBut r a b := ⟨Below.os h, Below.tape h, Below.output h, h.size, fun k hk _ => h.block k hk⟩
theorem ExtBut.trans {r : Nat} {a b c : World} (h : ExtBut r a b) (k : ExtBut r b c) : ExtBut r a c :=
  ⟨k.os.trans h.os, k.tape.trans h.tape, k.output.trans h.output, Nat.le_trans h.size k.size, fun i hi hr => (k.block i (Nat.lt_of_lt_of_le hi h.size) hr).trans (h.block i hi hr)⟩

theorem Rd.set0 {w : World} {r : Nat} {rest : ByteArray} {err : Int} (h : Rd w r rest err) (s : ByteArray) : Rd (w.setCell ⟨r, 0, none⟩ (.string s)) r s err := by
  have := h.lt
  simp only [Rd, World.setCell] at *
  rw [Array.getElem?_modify]; simp [h]
theorem Rd.set1 {w : World} {r : Nat} {rest : ByteArray} {err : Int} (h : Rd w r rest err) (e : Int) : Rd (w.setCell ⟨r, 1, none⟩ (.int .i64 e)) r rest e := by
  have := h.lt
  simp only [Rd, World.setCell] at *
  rw [Array.getElem?_modify]; simp [h]
theorem Rd.alloc {w : World} {r : Nat} {rest : ByteArray} {err : Int} (h : Rd w r rest err) (o : Obj) : Rd (w.alloc o) r rest err := by
  have := h.lt
  unfold Rd at *
  rw [Below.heap_alloc _ _ _ this, h]
theorem Rd.ext {w w' : World} {r : Nat} {rest : ByteArray} {err : Int} (h : Rd w r rest err) (k : Ext w w') : Rd w' r rest err := by
  have := h.lt
  unfold Rd at *
  rw [k.block _ this, h]

/-- A reader's method has returned v. -/
def RdPost (r : Nat) (v : Value) (rest : ByteArray) (err : Int) (w : World) (e : Ending) (w' : World) : Prop := e = .returned v ∧ Rd w' r rest err ∧ ExtBut r w w'

set_option maxHeartbeats 400000 in
theorem take_yes (r : Nat) (rest : ByteArray) (n : Int) (w : World) (h : Rd w r rest 0) (h0 : 0 ≤ n) (h1 : n ≤ rest.size) (_hs : rest.size ≤ 1000000) :
    Calls Tryz.prog 90 #[.pointer (some ⟨r, 0, none⟩), .int .i64 n] w (RdPost r (.string (rest.extract 0 n.toNat)) (rest.extract n.toNat rest.size) 0 w) := by
  have hr := h.lt
  have c0 := h.c0
  have c1 := h.c1
  have f0 := h.f0
  have f1 := h.f1
  go_enter Tryz.func90, Tryz.ntmps90
  go_wp2
  go_end0
  go_wp2
  go_ret
  exact ⟨rfl, ((h.set0 _).alloc _).alloc _, (((ExtBut.refl r w).setCell _ _).alloc _).alloc _⟩
set_option maxHeartbeats 400000 in
theorem take_no (r : Nat) (rest : ByteArray) (n : Int) (w : World) (h : Rd w r rest 0) (h0 : 0 ≤ n) (h1 : rest.size < n) (_hs : rest.size ≤ 1000000) :
    Calls Tryz.prog 90 #[.pointer (some ⟨r, 0, none⟩), .int .i64 n] w (RdPost r (.string ⟨#[]⟩) rest 1 w) := by
  have hr := h.lt
  have c0 := h.c0
  have c1 := h.c1
  have f0 := h.f0
  have f1 := h.f1
  go_enter Tryz.func90, Tryz.ntmps90
  go_wp2
  refine bodyPost_ret (results_none rfl _ _ _) rfl ?_
  go_wp2
  go_ret
  exact ⟨rfl, ((h.set1 _).alloc _).alloc _, (((ExtBut.refl r w).setCell _ _).alloc _).alloc _⟩
set_option maxHeartbeats 400000 in
theorem newReader_any (s : ByteArray) (w : World) :
    Calls Tryz.prog 88 #[.string s] w fun e w' => e = .returned (.pointer (some ⟨w.heap.size, 0, none⟩)) ∧ Rd w' w.heap.size s 0 ∧ Ext w w' := by
  go_enter Tryz.func88, Tryz.ntmps88
  go_wp2
  go_ret
  refine ⟨rfl, ?_, (Ext.refl w).alloc _⟩
  show (w.heap.push _)[w.heap.size]? = _
  simp
set_option maxHeartbeats 400000 in
theorem err_any (r : Nat) (rest : ByteArray) (err : Int) (w : World) (h : Rd w r rest err) :
    Calls Tryz.prog 91 #[.pointer (some ⟨r, 0, none⟩)] w fun e w' => e = .returned (.int .i64 err) ∧ w = w' := by
  have c1 := h.c1
  go_enter Tryz.func91, Tryz.ntmps91
  go_wp2
  go_ret
  exact ⟨rfl, rfl⟩
set_option maxHeartbeats 400000 in
theorem left_any (r : Nat) (rest : ByteArray) (err : Int) (w : World) (h : Rd w r rest err) (_hs : rest.size ≤ 1000000) :
    Calls Tryz.prog 93 #[.pointer (some ⟨r, 0, none⟩)] w fun e w' => e = .returned (.int .i64 rest.size) ∧ w = w' := by
  have c0 := h.c0
  go_enter Tryz.func93, Tryz.ntmps93
  go_wp2
  go_ret
  exact ⟨rfl, rfl⟩
end Go.Proofs.YthokhncdpfaifaaGreatDoor
