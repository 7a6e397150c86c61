/- The dictionary of data elements as plain data: its rows, its cells, and what a row's cells are. The relation of worlds that all contracts state (new blocks alone), the package-level variables, and small plain facts. A call that the kernel can run by itself: its contract from a run of n steps. Plain facts on words of 64 bits. -/
import Derived.Test.YtkggloeaojkhaaaGreatDoorProg
import Derived.WalkKit
import Derived.WalkSpells
import Derived.WalkLawsBesides
import Derived.Lib.Hide
import Derived.KernelRfl
import Derived.Test.YtkggloeaojkhaaaGreatDoorShelf
import Derived.WalkSmall
import Derived.WideShapes
import Derived.Calls
import Derived.Laws.Bits64
namespace Go.Proofs.YtkggloeaojkhaaaGreatDoor
open Go.RowKit

def dRows : List (Int × List UInt8 × Int × Int × Int) := [(2, [99, 97, 114, 100], 1, 19, 2), (3, [112, 114, 111, 99, 101, 115, 115], 1, 6, 0), (4, [97, 109, 111, 117, 110, 116], 1, 12, 0), (7, [115, 101, 110, 116], 1, 13, 0), (11, [116, 114, 97, 99, 101], 1, 6, 0), (14, [101, 120, 112, 105, 114, 121], 1, 5, 0), (18, [99, 97, 116, 101, 103, 111, 114, 121], 1, 4, 0), (32, [97, 99, 113, 117, 105, 114, 101, 114], 2, 16, 2), (37, [114, 101, 102, 101, 114, 101, 110, 99, 101], 1, 12, 0), (38, [97, 112, 112, 114, 111, 118, 97, 108], 1, 6, 0), (39, [114, 101, 115, 112, 111, 110, 115, 101], 1, 2, 0), (41, [116, 101, 114, 109, 105, 110, 97, 108], 2, 8, 0), (42, [109, 101, 114, 99, 104, 97, 110, 116], 2, 16, 2), (48, [101, 120, 116, 114, 97], 2, 255, 3), (49, [99, 117, 114, 114, 101, 110, 99, 121], 2, 3, 0), (52, [99, 114, 121, 112, 116, 111, 103, 114, 97, 109], 3, 16, 0), (54, [112, 97, 114, 116, 105, 97, 108], 1, 12, 0), (55, [99, 111, 117, 110, 116, 101, 114], 1, 6, 0), (56, [111, 114, 105, 103, 105, 110, 97, 108], 1, 12, 0), (59, [110, 111, 110, 99, 101], 2, 8, 0), (70, [110, 101, 116, 119, 111, 114, 107], 1, 3, 0), (95, [114, 97, 105, 115, 101], 1, 12, 0), (100, [114, 101, 99, 101, 105, 118, 101, 114], 2, 16, 2)]
def dCells : Array Value := #[.int .i64 2, .string ⟨#[99, 97, 114, 100]⟩, .int .i64 1, .int .i64 19, .int .i64 2, .int .i64 3, .string ⟨#[112, 114, 111, 99, 101, 115, 115]⟩, .int .i64 1, .int .i64 6, .int .i64 0, .int .i64 4, .string ⟨#[97, 109, 111, 117, 110, 116]⟩, .int .i64 1, .int .i64 12, .int .i64 0, .int .i64 7, .string ⟨#[115, 101, 110, 116]⟩, .int .i64 1, .int .i64 13, .int .i64 0, .int .i64 11, .string ⟨#[116, 114, 97, 99, 101]⟩, .int .i64 1, .int .i64 6, .int .i64 0, .int .i64 14, .string ⟨#[101, 120, 112, 105, 114, 121]⟩, .int .i64 1, .int .i64 5, .int .i64 0, .int .i64 18, .string ⟨#[99, 97, 116, 101, 103, 111, 114, 121]⟩, .int .i64 1, .int .i64 4, .int .i64 0, .int .i64 32, .string ⟨#[97, 99, 113, 117, 105, 114, 101, 114]⟩, .int .i64 2, .int .i64 16, .int .i64 2, .int .i64 37, .string ⟨#[114, 101, 102, 101, 114, 101, 110, 99, 101]⟩, .int .i64 1, .int .i64 12, .int .i64 0, .int .i64 38, .string ⟨#[97, 112, 112, 114, 111, 118, 97, 108]⟩, .int .i64 1, .int .i64 6, .int .i64 0, .int .i64 39, .string ⟨#[114, 101, 115, 112, 111, 110, 115, 101]⟩, .int .i64 1, .int .i64 2, .int .i64 0, .int .i64 41, .string ⟨#[116, 101, 114, 109, 105, 110, 97, 108]⟩, .int .i64 2, .int .i64 8, .int .i64 0, .int .i64 42, .string ⟨#[109, 101, 114, 99, 104, 97, 110, 116]⟩, .int .i64 2, .int .i64 16, .int .i64 2, .int .i64 48, .string ⟨#[101, 120, 116, 114, 97]⟩, .int .i64 2, .int .i64 255, .int .i64 3, .int .i64 49, .string ⟨#[99, 117, 114, 114, 101, 110, 99, 121]⟩, .int .i64 2, .int .i64 3, .int .i64 0, .int .i64 52, .string ⟨#[99, 114, 121, 112, 116, 111, 103, 114, 97, 109]⟩, .int .i64 3, .int .i64 16, .int .i64 0, .int .i64 54, .string ⟨#[112, 97, 114, 116, 105, 97, 108]⟩, .int .i64 1, .int .i64 12, .int .i64 0, .int .i64 55, .string ⟨#[99, 111, 117, 110, 116, 101, 114]⟩, .int .i64 1, .int .i64 6, .int .i64 0, .int .i64 56, .string ⟨#[111, 114, 105, 103, 105, 110, 97, 108]⟩, .int .i64 1, .int .i64 12, .int .i64 0, .int .i64 59, .string ⟨#[110, 111, 110, 99, 101]⟩, .int .i64 2, .int .i64 8, .int .i64 0, .int .i64 70, .string ⟨#[110, 101, 116, 119, 111, 114, 107]⟩, .int .i64 1, .int .i64 3, .int .i64 0, .int .i64 95, .string ⟨#[114, 97, 105, 115, 101]⟩, .int .i64 1, .int .i64 12, .int .i64 0, .int .i64 100, .string ⟨#[114, 101, 99, 101, 105, 118, 101, 114]⟩, .int .i64 2, .int .i64 16, .int .i64 2]
def dRow (k : Nat) : Int × List UInt8 × Int × Int × Int := dRows.getD k (0, [], 0, 0, 0)
def dNum (k : Nat) : Int := (dRow k).1
def dName (k : Nat) : ByteArray := ⟨(dRow k).2.1.toArray⟩
def dKind (k : Nat) : Int := (dRow k).2.2.1
def dLen (k : Nat) : Int := (dRow k).2.2.2.1
def dVar (k : Nat) : Int := (dRow k).2.2.2.2

/-- A fact of each k below 23, from 23 facts. -/
theorem below23 {P : Nat → Prop} (h : ∀ k : Fin 23, P k.val) (k : Nat) (hk : k < 23) : P k := h ⟨k, hk⟩

theorem all23 {P : Nat → Prop} (h0 : P 0) (h1 : P 1) (h2 : P 2) (h3 : P 3) (h4 : P 4) (h5 : P 5) (h6 : P 6) (h7 : P 7) (h8 : P 8) (h9 : P 9) (h10 : P 10) (h11 : P 11) (h12 : P 12) (h13 : P 13) (h14 : P 14) (h15 : P 15) (h16 : P 16) (h17 : P 17) (h18 : P 18) (h19 : P 19) (h20 : P 20) (h21 : P 21) (h22 : P 22) (k : Nat) (hk : k < 23) : P k := by
 match k, hk with
 | 0, _ => exact h0
 | 1, _ => exact h1
 | 2, _ => exact h2
 | 3, _ => exact h3
 | 4, _ => exact h4
 | 5, _ => exact h5
 | 6, _ => exact h6
 | 7, _ => exact h7
 | 8, _ => exact h8
 | 9, _ => exact h9
 | 10, _ => exact h10
 | 11, _ => exact h11
 | 12, _ => exact h12
 | 13, _ => exact h13
 | 14, _ => exact h14
 | 15, _ => exact h15
 | 16, _ => exact h16
 | 17, _ => exact h17
 | 18, _ => exact h18
 | 19, _ => exact h19
 | 20, _ => exact h20
 | 21, _ => exact h21
 | 22, _ => exact h22
 | n + 23, h => exact absurd h (by omega)

theorem dCells_size : dCells.size = 115 := by kernel_rfl
def rowVal (k : Nat) : Array Value := #[.int .i64 (dNum k), .string (dName k), .int .i64 (dKind k), .int .i64 (dLen k), .int .i64 (dVar k)]

/-- Indexing the array of all rows. -/
theorem index_dict (k : Nat) (hk : k < 23) : ∀ w : World, (Instr.index 238 (.agg dCells) (.int .i64 k)).run Tryz.prog w = .ok (.agg (rowVal k)) w :=
 all23 (P := fun k => ∀ w : World, (Instr.index 238 (.agg dCells) (.int .i64 k)).run Tryz.prog w = .ok (.agg (rowVal k)) w)
  (fun _ => by kernel_rfl) (fun _ => by kernel_rfl) (fun _ => by kernel_rfl) (fun _ => by kernel_rfl) (fun _ => by kernel_rfl) (fun _ => by kernel_rfl) (fun _ => by kernel_rfl) (fun _ => by kernel_rfl) (fun _ => by kernel_rfl) (fun _ => by kernel_rfl) (fun _ => by kernel_rfl) (fun _ => by kernel_rfl) (fun _ => by kernel_rfl) (fun _ => by kernel_rfl) (fun _ => by kernel_rfl) (fun _ => by kernel_rfl) (fun _ => by kernel_rfl) (fun _ => by kernel_rfl) (fun _ => by kernel_rfl) (fun _ => by kernel_rfl) (fun _ => by kernel_rfl) (fun _ => by kernel_rfl) (fun _ => by kernel_rfl) k hk

/-- The cells of row k. -/
theorem dict_cell (k : Nat) (hk : k < 23) : dCells[5 * k]? = some (.int .i64 (dNum k)) ∧ dCells[5 * k + 1]? = some (.string (dName k)) ∧ dCells[5 * k + 2]? = some (.int .i64 (dKind k)) ∧ dCells[5 * k + 3]? = some (.int .i64 (dLen k)) ∧ dCells[5 * k + 4]? = some (.int .i64 (dVar k)) :=
 all23 (P := fun k => dCells[5 * k]? = some (.int .i64 (dNum k)) ∧ dCells[5 * k + 1]? = some (.string (dName k)) ∧ dCells[5 * k + 2]? = some (.int .i64 (dKind k)) ∧ dCells[5 * k + 3]? = some (.int .i64 (dLen k)) ∧ dCells[5 * k + 4]? = some (.int .i64 (dVar k)))
  (by refine ⟨?_, ?_, ?_, ?_, ?_⟩ <;> kernel_rfl) (by refine ⟨?_, ?_, ?_, ?_, ?_⟩ <;> kernel_rfl) (by refine ⟨?_, ?_, ?_, ?_, ?_⟩ <;> kernel_rfl) (by refine ⟨?_, ?_, ?_, ?_, ?_⟩ <;> kernel_rfl) (by refine ⟨?_, ?_, ?_, ?_, ?_⟩ <;> kernel_rfl) (by refine ⟨?_, ?_, ?_, ?_, ?_⟩ <;> kernel_rfl) (by refine ⟨?_, ?_, ?_, ?_, ?_⟩ <;> kernel_rfl) (by refine ⟨?_, ?_, ?_, ?_, ?_⟩ <;> kernel_rfl) (by refine ⟨?_, ?_, ?_, ?_, ?_⟩ <;> kernel_rfl) (by refine ⟨?_, ?_, ?_, ?_, ?_⟩ <;> kernel_rfl) (by refine ⟨?_, ?_, ?_, ?_, ?_⟩ <;> kernel_rfl) (by refine ⟨?_, ?_, ?_, ?_, ?_⟩ <;> kernel_rfl) (by refine ⟨?_, ?_, ?_, ?_, ?_⟩ <;> kernel_rfl) (by refine ⟨?_, ?_, ?_, ?_, ?_⟩ <;> kernel_rfl) (by refine ⟨?_, ?_, ?_, ?_, ?_⟩ <;> kernel_rfl) (by refine ⟨?_, ?_, ?_, ?_, ?_⟩ <;> kernel_rfl) (by refine ⟨?_, ?_, ?_, ?_, ?_⟩ <;> kernel_rfl) (by refine ⟨?_, ?_, ?_, ?_, ?_⟩ <;> kernel_rfl) (by refine ⟨?_, ?_, ?_, ?_, ?_⟩ <;> kernel_rfl) (by refine ⟨?_, ?_, ?_, ?_, ?_⟩ <;> kernel_rfl) (by refine ⟨?_, ?_, ?_, ?_, ?_⟩ <;> kernel_rfl) (by refine ⟨?_, ?_, ?_, ?_, ?_⟩ <;> kernel_rfl) (by refine ⟨?_, ?_, ?_, ?_, ?_⟩ <;> kernel_rfl) k hk
end Go.Proofs.YtkggloeaojkhaaaGreatDoor
namespace Go.Proofs.YtkggloeaojkhaaaGreatDoor
open Go.RowKit

/-- w' is w with new blocks and draws. -/
def Ext (w w' : World) : Prop := Below w.heap.size w w'
theorem Ext.refl (w : World) : Ext w w := Below.refl _ _
theorem Ext.trans {a b c : World} (h : Ext a b) (k : Ext b c) : Ext a c := Below.trans h (Below.mono k h.size)
theorem Ext.drew {a b : World} (h : Ext a b) : Ext a b.drew := Below.drew h
theorem Ext.drewN {a b : World} (h : Ext a b) (n : Nat) : Ext a (b.drewN n) := ⟨h.os, h.tape, h.output, h.size, h.block⟩
theorem Ext.alloc {a b : World} (h : Ext a b) (o : Obj) : Ext a (b.alloc o) := Below.alloc h h.size o
theorem Ext.size {a b : World} (h : Ext a b) : a.heap.size ≤ b.heap.size := Below.size h
theorem Ext.grow {a b : World} (h : Ext a b) (os : Array Obj) : Ext a (Go.«Sort».grow b os) := by
 refine ⟨h.os, h.tape, h.output, ?_, fun k hk => ?_⟩
 · have := h.size; simp [Go.«Sort».grow]; omega
 · have := h.size
   rw [← h.block k hk]
   simp only [Go.«Sort».grow]
   rw [Array.getElem?_append_left (by omega)]
theorem Ext.block {a b : World} (h : Ext a b) (k : Nat) (hk : k < a.heap.size) : b.heap[k]? = a.heap[k]? := Below.block h k hk
theorem Ext.cell {a b : World} (h : Ext a b) (p : Addr) (hp : p.block < a.heap.size) : b.cell? p = a.cell? p := Below.cell h hp
theorem Ext.frozen {a b : World} (h : Ext a b) (p : Addr) (hp : p.block < a.heap.size) : b.frozen? p = a.frozen? p := Below.frozen h hp
theorem Ext.below {a b : World} (h : Ext a b) : Below a.heap.size a b := h

theorem Ext.setCell {a b : World} (h : Ext a b) {p : Addr} (hp : a.heap.size ≤ p.block) (v : Value) : Ext a (b.setCell p v) := Below.setCell h hp v
/-- A later world (what lies between is an alloc, a draw, a store into a younger block), found by itself. -/
theorem xt {w w' : World} (h : Ext w w' := by repeat (first | with_reducible exact Ext.refl _ | with_reducible assumption | with_reducible refine Ext.alloc ?_ _ | with_reducible refine Ext.drewN ?_ _ | with_reducible refine Ext.drew ?_ | ((with_reducible refine Ext.setCell ?_ ?side _); (case side => first | exact Nat.le_refl _ | (simp; done) | (simp; omega))))) : Ext w w' := h
theorem alloc_drewN (w : World) (o : Obj) (k : Nat) : (w.alloc o).drewN k = (w.drewN k).alloc o := rfl
theorem draw_eq {w w0 : World} {k : Nat} (h : w.drewN k = w0) : w.heap.size = w0.heap.size ∧ Ext w w0 := by subst h; exact ⟨rfl, (Ext.refl w).drewN k⟩
theorem cell_lt {w : World} {p : Addr} {v : Value} (h : w.cell? p = some v) : p.block < w.heap.size := by
 unfold World.cell? at h
 split at h
 · rename_i c t f hb; exact (Array.getElem?_eq_some_iff.1 hb).1
 · cases h
theorem Ext.get {a b : World} (h : Ext a b) {p : Addr} {v : Value} (hc : a.cell? p = some v) : b.cell? p = some v := by rw [h.cell p (cell_lt hc), hc]
theorem Ext.fz {a b : World} (h : Ext a b) {p : Addr} (hp : p.block < a.heap.size) (hf : a.frozen? p = false) : b.frozen? p = false := by rw [h.frozen p hp, hf]

/-- Block B holds the cells cs, none of them frozen. -/
def Blk (w : World) (B : Nat) (cs : Array Value) (T : TypeId) : Prop := w.heap[B]? = some (.cells cs T (0, 0))
theorem Blk.lt {w : World} {B : Nat} {cs : Array Value} {T : TypeId} (h : Blk w B cs T) : B < w.heap.size := (Array.getElem?_eq_some_iff.1 h).1
theorem Blk.cell {w : World} {B : Nat} {cs : Array Value} {T : TypeId} (h : Blk w B cs T) (i : Nat) : w.cell? ⟨B, i, none⟩ = cs[i]? := by
 unfold Blk at h; unfold World.cell?; simp only [h]; rfl
theorem Blk.fz {w : World} {B : Nat} {cs : Array Value} {T : TypeId} (h : Blk w B cs T) (i : Nat) : w.frozen? ⟨B, i, none⟩ = false := by
 unfold Blk at h; unfold World.frozen?; simp [h]
theorem Blk.ext {w w' : World} {B : Nat} {cs : Array Value} {T : TypeId} (h : Blk w B cs T) (k : Ext w w') : Blk w' B cs T := by
 have := h.lt; unfold Blk at *; rw [k.block _ this, h]
theorem Blk.alloc {w : World} {B : Nat} {cs : Array Value} {T : TypeId} (h : Blk w B cs T) (o : Obj) : Blk (w.alloc o) B cs T := h.ext ((Ext.refl w).alloc o)
theorem Blk.new (w : World) (cs : Array Value) (T : TypeId) : Blk (w.alloc (.cells cs T)) w.heap.size cs T := by
 show (w.heap.push _)[w.heap.size]? = _
 simp
theorem Blk.new' (w : World) (cs : Array Value) (T : TypeId) (n : Nat) (h : n = w.heap.size) : Blk (w.alloc (.cells cs T)) n cs T := by subst h; exact Blk.new w cs T
theorem Blk.set {w : World} {B : Nat} {cs : Array Value} {T : TypeId} (h : Blk w B cs T) (i : Nat) (v : Value) : Blk (w.setCell ⟨B, i, none⟩ v) B (cs.setIfInBounds i v) T := by
 have := h.lt
 simp only [Blk, World.setCell] at *
 rw [Array.getElem?_modify]; simp [h]
theorem Blk.other {w : World} {B C : Nat} {cs : Array Value} {T : TypeId} (h : Blk w B cs T) (i : Nat) (v : Value) (hne : B ≠ C) : Blk (w.setCell ⟨C, i, none⟩ v) B cs T := by
 unfold Blk at *; rw [Below.heap_setCell _ _ _ _ hne, h]
theorem Blk.drewN {w : World} {B : Nat} {cs : Array Value} {T : TypeId} (h : Blk w B cs T) (k : Nat) : Blk (w.drewN k) B cs T := h
/-- v is a slice of integers that reads as zs. -/
def Ints (w : World) (v : Value) (zs : List Int) : Prop :=
 (v = .slice none 0 0 ∧ zs = []) ∨ ∃ b off cap, v = .slice (some ⟨b, off, none⟩) zs.length cap ∧ ∀ i, i < zs.length → w.cell? ⟨b, off + i, none⟩ = some (.int .i64 (zs.getD i 0))
theorem Ints.ext {w w' : World} {v : Value} {zs : List Int} (h : Ints w v zs) (k : Ext w w') : Ints w' v zs := by
 rcases h with h | ⟨b, off, cap, hv, hc⟩
 · exact Or.inl h
 · exact Or.inr ⟨b, off, cap, hv, fun i hi => k.get (hc i hi)⟩

theorem strT {a b : ByteArray} (h : (a.toList == b.toList) = true) : a = b := by
 rw [ByteArray.toList_eq, ByteArray.toList_eq] at h
 exact Go.WideShapes.bytes_inj (by simpa using h)
theorem strF {a b : ByteArray} (h : (a.toList == b.toList) = false) : a ≠ b := by
 intro e; subst e; simp at h
theorem strEq {a b : ByteArray} (h : a = b) : (a.toList == b.toList) = true := by subst h; simp
theorem strNe {a b : ByteArray} (h : a ≠ b) : (a.toList == b.toList) = false := by
 cases e : (a.toList == b.toList)
 · rfl
 · exact absurd (strT e) h
/-- What the package-level variables hold. -/
structure Gl (w : World) : Prop where
 dict : ∃ t fr, w.heap[0]? = some (.cells dCells t fr)
 pow : Lib.TabIs Tryz.prog w "internal/strconv.uint64pow10" .u64 Lib.pow10Tab
theorem gPow : Tryz.prog.globalNamed "internal/strconv.uint64pow10" = some 2 := by kernel_rfl
theorem var?_lt {P : Program} {w : World} {n : String} {g : Nat} {cs : Array Value} (hg : P.globalNamed n = some g) (h : w.var? P n = some cs) : g < w.heap.size := by
 simp only [World.var?, hg, Option.bind_some] at h
 split at h
 · rename_i c t fr hb
   exact (Array.getElem?_eq_some_iff.1 hb).1
 · cases h
theorem Gl.ext {a b : World} (g : Gl a) (h : Ext a b) : Gl b := by
 obtain ⟨⟨t, fr, hd⟩, hp⟩ := g
 refine ⟨⟨t, fr, ?_⟩, var?_below (B := a.heap.size) h gPow (var?_lt gPow hp) hp⟩
 rw [h.block _ (by rcases Array.getElem?_eq_some_iff.1 hd with ⟨h1, _⟩; exact h1), hd]
end Go.Proofs.YtkggloeaojkhaaaGreatDoor
namespace Go.Proofs.YtkggloeaojkhaaaGreatDoor
open Go
/-- The running frame of a machine of one goroutine. -/
def topF (s : Stepped) : Frame := match s with
 | .next m => ((m.gs[0]?).map (·.frame)).getD default
 | _ => default
/-- The machine that enters f. -/
def entered (P : Program) (f : FuncId) (args : Array Value) (cs : List Frame) (w : World) : Machine := lone (Frame.enter P f args .normal) cs w
theorem calls_of_run {P : Program} {f : FuncId} {args : Array Value} {w w' : World} {R : Ending → World → Prop} (n : Nat) (fn : Func) (v : Value)
 (h1 : ∀ cs, runN P n (entered P f args cs w) = .next (lone (topF (runN P n (entered P f args [] w))) cs w'))
 (h2 : (topF (runN P n (entered P f args [] w))).fn = f)
 (h3 : (topF (runN P n (entered P f args [] w))).mode = .returning)
 (h4 : (topF (runN P n (entered P f args [] w))).defers = [])
 (h5 : (topF (runN P n (entered P f args [] w))).kind = .normal)
 (h6 : P.funcs[f]? = some fn)
 (h7 : (results fn (topF (runN P n (entered P f args [] w))).tmps).run P w' = .ok v w')
 (hR : R (.returned v) w') : Calls P f args w R := by
 intro cs
 refine ⟨.returned v, w', topF (runN P n (entered P f args [] w)), hR, ⟨n, h1 cs⟩, h2, h3, h4, h5, fn, ?_, h7⟩
 rw [h2]; exact h6
end Go.Proofs.YtkggloeaojkhaaaGreatDoor
namespace Go.Proofs.YtkggloeaojkhaaaGreatDoor
open Go

/-- A word without its highest bit. -/
def clr (a : Nat) : Nat := a % 2 ^ 63
/-- A power of two. -/
def pw (i : Nat) : Nat := 2 ^ i
/-- A word. -/
def Wd (a : Nat) : Prop := a < 2 ^ 64
theorem ofInt_nat (a : Nat) (ha : a < 2 ^ 64) : (BitVec.ofInt 64 (a : Int)).toNat = a := by
 rw [BitVec.ofInt_natCast, BitVec.toNat_ofNat]; exact Nat.mod_eq_of_lt ha
theorem wrap_nat (a : Nat) (ha : a < 2 ^ 64) : IntKind.u64.wrap (a : Int) = a := by rw [IntKind.wrap_u64]; omega
theorem bits_or (a b : Nat) (ha : Wd a) (hb : Wd b) : bits .or .u64 (a : Int) (b : Int) = ((a ||| b : Nat) : Int) := by
 unfold Wd at *
 show IntKind.u64.wrap ((BitVec.ofInt 64 (a : Int) ||| BitVec.ofInt 64 (b : Int)).toNat : Int) = _
 rw [BitVec.toNat_or, ofInt_nat a ha, ofInt_nat b hb, wrap_nat _ (Nat.or_lt_two_pow ha hb)]
theorem bits_and (a b : Nat) (ha : Wd a) (hb : Wd b) : bits .and .u64 (a : Int) (b : Int) = ((a &&& b : Nat) : Int) := by
 unfold Wd at *
 show IntKind.u64.wrap ((BitVec.ofInt 64 (a : Int) &&& BitVec.ofInt 64 (b : Int)).toNat : Int) = _
 rw [BitVec.toNat_and, ofInt_nat a ha, ofInt_nat b hb, wrap_nat _ (Nat.and_lt_two_pow _ hb)]
theorem bits_andNot (a b : Nat) (ha : Wd a) (hb : Wd b) : bits .andNot .u64 (a : Int) (b : Int) = ((a &&& (2 ^ 64 - 1 - b) : Nat) : Int) := by
 unfold Wd at *
 show IntKind.u64.wrap ((BitVec.ofInt 64 (a : Int) &&& ~~~ BitVec.ofInt 64 (b : Int)).toNat : Int) = _
 rw [BitVec.toNat_and, BitVec.toNat_not, ofInt_nat a ha, ofInt_nat b hb, wrap_nat _ (Nat.and_lt_two_pow _ (by omega))]
theorem bits_clr (a : Nat) (ha : Wd a) : bits .andNot .u64 (a : Int) 9223372036854775808 = (clr a : Int) := by
 have := bits_andNot a 9223372036854775808 ha (by unfold Wd; omega)
 rw [show ((9223372036854775808 : Nat) : Int) = 9223372036854775808 from rfl] at this
 rw [this, clr]
 congr 1
 rw [show 2 ^ 64 - 1 - 9223372036854775808 = 2 ^ 63 - 1 from by decide, Nat.and_two_pow_sub_one_eq_mod]
theorem Wd_clr (a : Nat) : Wd (clr a) := by unfold Wd clr; omega
theorem Wd_pw (i : Nat) (h : i ≤ 63) : Wd (pw i) := by
 unfold Wd pw
 exact Nat.pow_lt_pow_right (by omega) (by omega)
theorem Wd_or {a b : Nat} (ha : Wd a) (hb : Wd b) : Wd (a ||| b) := Nat.or_lt_two_pow ha hb
theorem wrap_pw (i : Nat) (h : i ≤ 63) : IntKind.u64.wrap (2 ^ i) = (pw i : Int) := by
 have := wrap_nat (pw i) (Wd_pw i h)
 rw [← this]; unfold pw; simp
theorem testBit_clr (a i : Nat) : (clr a).testBit i = (decide (i < 63) && a.testBit i) := by unfold clr; rw [Nat.testBit_mod_two_pow]
theorem testBit_pw (i j : Nat) : (pw i).testBit j = decide (i = j) := by unfold pw; rw [Nat.testBit_two_pow]
theorem and_pw_ne (a i : Nat) : ((a &&& pw i : Nat) : Int) ≠ 0 ↔ a.testBit i = true := by
 constructor
 · intro h
   cases hb : a.testBit i with
   | true => rfl
   | false =>
    exfalso
    apply h
    have : a &&& pw i = 0 := by
     apply Nat.eq_of_testBit_eq
     intro j
     rw [Nat.testBit_and, testBit_pw, Nat.zero_testBit]
     by_cases e : i = j
     · subst e; simp [hb]
     · simp [e]
    omega
 · intro h e
   have e' : a &&& pw i = 0 := by omega
   have := congrArg (fun x => x.testBit i) e'
   simp [Nat.testBit_and, testBit_pw, h] at this
theorem and_i64 (x : Int) : ∃ c : Nat, c ≤ 127 ∧ bits .and .i64 x 127 = c := by
 refine ⟨(BitVec.ofInt 64 x &&& BitVec.ofInt 64 127).toNat, ?_, ?_⟩
 · rw [BitVec.toNat_and]
   exact Nat.and_le_right
 · show IntKind.i64.wrap ((BitVec.ofInt 64 x &&& BitVec.ofInt 64 127).toNat : Int) = _
   have h : (BitVec.ofInt 64 x &&& BitVec.ofInt 64 127).toNat ≤ 127 := by rw [BitVec.toNat_and]; exact Nat.and_le_right
   rw [IntKind.wrap_i64] <;> omega
end Go.Proofs.YtkggloeaojkhaaaGreatDoor
