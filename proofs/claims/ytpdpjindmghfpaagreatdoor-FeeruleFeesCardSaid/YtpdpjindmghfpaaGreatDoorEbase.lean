/- The relation of worlds that all contracts state (new blocks alone), and small plain facts. -/
import Derived.Test.YtpdpjindmghfpaaGreatDoorProg
import Derived.WalkKit
import Derived.WalkSpells
import Derived.WalkLawsBesides
import Derived.WalkSmall
import Derived.Lib.Hide
import Derived.WideShapes
namespace Go.Proofs.YtpdpjindmghfpaaGreatDoor
open Go.RowKit

/-- w' is w with new blocks and draws. -/
def Ext (w w' : World) : Prop := Below w.heap.size w w'
theorem Ext.refl (w : World) : Ext w w := Below.refl _ _
theorem Ext.trans {a b c : World} (h : Ext a b) (k : Ext b c) : Ext a c := Below.trans h (Below.mono k h.size)
theorem Ext.drew {a b : World} (h : Ext a b) : Ext a b.drew := Below.drew h
theorem Ext.drewN {a b : World} (h : Ext a b) (n : Nat) : Ext a (b.drewN n) := ⟨h.os, h.tape, h.output, h.size, h.block⟩
theorem Ext.alloc {a b : World} (h : Ext a b) (o : Obj) : Ext a (b.alloc o) := Below.alloc h h.size o
theorem Ext.size {a b : World} (h : Ext a b) : a.heap.size ≤ b.heap.size := Below.size h
theorem Ext.block {a b : World} (h : Ext a b) (k : Nat) (hk : k < a.heap.size) : b.heap[k]? = a.heap[k]? := Below.block h k hk
theorem Ext.cell {a b : World} (h : Ext a b) (p : Addr) (hp : p.block < a.heap.size) : b.cell? p = a.cell? p := Below.cell h hp
theorem Ext.frozen {a b : World} (h : Ext a b) (p : Addr) (hp : p.block < a.heap.size) : b.frozen? p = a.frozen? p := Below.frozen h hp
theorem Ext.below {a b : World} (h : Ext a b) : Below a.heap.size a b := h

theorem Ext.setCell {a b : World} (h : Ext a b) {p : Addr} (hp : a.heap.size ≤ p.block) (v : Value) : Ext a (b.setCell p v) := Below.setCell h hp v
theorem alloc_drewN (w : World) (o : Obj) (k : Nat) : (w.alloc o).drewN k = (w.drewN k).alloc o := rfl
theorem draw_eq {w w0 : World} {k : Nat} (h : w.drewN k = w0) : w.heap.size = w0.heap.size ∧ Ext w w0 := by subst h; exact ⟨rfl, (Ext.refl w).drewN k⟩
theorem cell_lt {w : World} {p : Addr} {v : Value} (h : w.cell? p = some v) : p.block < w.heap.size := by
  unfold World.cell? at h
  split at h
  · rename_i c t f hb; exact (Array.getElem?_eq_some_iff.1 hb).1
  · cases h
theorem Ext.get {a b : World} (h : Ext a b) {p : Addr} {v : Value} (hc : a.cell? p = some v) : b.cell? p = some v := by rw [h.cell p (cell_lt hc), hc]
theorem Ext.fz {a b : World} (h : Ext a b) {p : Addr} (hp : p.block < a.heap.size) (hf : a.frozen? p = false) : b.frozen? p = false := by rw [h.frozen p hp, hf]

/-- Block B holds the cells cs, none of them frozen. -/
def Blk (w : World) (B : Nat) (cs : Array Value) (T : TypeId) : Prop := w.heap[B]? = some (.cells cs T (0, 0))
theorem Blk.lt {w : World} {B : Nat} {cs : Array Value} {T : TypeId} (h : Blk w B cs T) : B < w.heap.size := (Array.getElem?_eq_some_iff.1 h).1
theorem Blk.cell {w : World} {B : Nat} {cs : Array Value} {T : TypeId} (h : Blk w B cs T) (i : Nat) : w.cell? ⟨B, i, none⟩ = cs[i]? := by
  unfold Blk at h; unfold World.cell?; simp only [h]; rfl
theorem Blk.fz {w : World} {B : Nat} {cs : Array Value} {T : TypeId} (h : Blk w B cs T) (i : Nat) : w.frozen? ⟨B, i, none⟩ = false := by
  unfold Blk at h; unfold World.frozen?; simp [h]
theorem Blk.ext {w w' : World} {B : Nat} {cs : Array Value} {T : TypeId} (h : Blk w B cs T) (k : Ext w w') : Blk w' B cs T := by
  have := h.lt; unfold Blk at *; rw [k.block _ this, h]
theorem Blk.alloc {w : World} {B : Nat} {cs : Array Value} {T : TypeId} (h : Blk w B cs T) (o : Obj) : Blk (w.alloc o) B cs T := h.ext ((Ext.refl w).alloc o)
theorem Blk.new (w : World) (cs : Array Value) (T : TypeId) : Blk (w.alloc (.cells cs T)) w.heap.size cs T := by
  show (w.heap.push _)[w.heap.size]? = _
  simp
theorem Blk.new' (w : World) (cs : Array Value) (T : TypeId) (n : Nat) (h : n = w.heap.size) : Blk (w.alloc (.cells cs T)) n cs T := by subst h; exact Blk.new w cs T
theorem Blk.set {w : World} {B : Nat} {cs : Array Value} {T : TypeId} (h : Blk w B cs T) (i : Nat) (v : Value) : Blk (w.setCell ⟨B, i, none⟩ v) B (cs.setIfInBounds i v) T := by
  have := h.lt
  simp only [Blk, World.setCell] at *
  rw [Array.getElem?_modify]; simp [h]
theorem Blk.other {w : World} {B C : Nat} {cs : Array Value} {T : TypeId} (h : Blk w B cs T) (i : Nat) (v : Value) (hne : B ≠ C) : Blk (w.setCell ⟨C, i, none⟩ v) B cs T := by
  unfold Blk at *; rw [Below.heap_setCell _ _ _ _ hne, h]
theorem Blk.drewN {w : World} {B : Nat} {cs : Array Value} {T : TypeId} (h : Blk w B cs T) (k : Nat) : Blk (w.drewN k) B cs T := h
/-- v is a slice of integers that reads as zs. -/
def Ints (w : World) (v : Value) (zs : List Int) : Prop :=
  (v = .slice none 0 0 ∧ zs = []) ∨ ∃ b off cap, v = .slice (some ⟨b, off, none⟩) zs.length cap ∧ ∀ i, i < zs.length → w.cell? ⟨b, off + i, none⟩ = some (.int .i64 (zs.getD i 0))
theorem Ints.ext {w w' : World} {v : Value} {zs : List Int} (h : Ints w v zs) (k : Ext w w') : Ints w' v zs := by
  rcases h with h | ⟨b, off, cap, hv, hc⟩
  · exact Or.inl h
  · exact Or.inr ⟨b, off, cap, hv, fun i hi => k.get (hc i hi)⟩

theorem strT {a b : ByteArray} (h : (a.toList == b.toList) = true) : a = b := by
  rw [ByteArray.toList_eq, ByteArray.toList_eq] at h
  exact Go.WideShapes.bytes_inj (by simpa using h)
theorem strF {a b : ByteArray} (h : (a.toList == b.toList) = false) : a ≠ b := by
  intro e; subst e; simp at h
theorem strEq {a b : ByteArray} (h : a = b) : (a.toList == b.toList) = true := by subst h; simp
theorem strNe {a b : ByteArray} (h : a ≠ b) : (a.toList == b.toList) = false := by
  cases e : (a.toList == b.toList)
  · rfl
  · exact absurd (strT e) h
end Go.Proofs.YtpdpjindmghfpaaGreatDoor
