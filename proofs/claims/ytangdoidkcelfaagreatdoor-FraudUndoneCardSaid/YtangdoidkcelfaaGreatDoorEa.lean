/- The relation of worlds that all contracts state (new blocks alone), and small plain facts. Expressions as data, and how they lie in memory. Expressions: what Check, Eval and their parts compute, in plain words. Contracts of Levels and deeper (walks). -/
import Derived.Test.YtangdoidkcelfaaGreatDoorProg
import Derived.WalkKit
import Derived.WalkSpells
import Derived.WalkLawsBesides
import Derived.WalkSmall
import Derived.Lib.Hide
import Derived.WideShapes
import Derived.LoopTactic
import Derived.Outline
import Derived.BigQuiet
import Derived.Deep.QuietTactic
namespace Go.Proofs.YtangdoidkcelfaaGreatDoor
open Go.RowKit

/-- w' is w with new blocks and draws. -/
def Ext (w w' : World) : Prop := Below w.heap.size w w'
theorem Ext.refl (w : World) : Ext w w := Below.refl _ _
theorem Ext.trans {a b c : World} (h : Ext a b) (k : Ext b c) : Ext a c := Below.trans h (Below.mono k h.size)
theorem Ext.drew {a b : World} (h : Ext a b) : Ext a b.drew := Below.drew h
theorem Ext.drewN {a b : World} (h : Ext a b) (n : Nat) : Ext a (b.drewN n) := ⟨h.os, h.tape, h.output, h.size, h.block⟩
theorem Ext.alloc {a b : World} (h : Ext a b) (o : Obj) : Ext a (b.alloc o) := Below.alloc h h.size o
theorem Ext.size {a b : World} (h : Ext a b) : a.heap.size ≤ b.heap.size := Below.size h
theorem Ext.block {a b : World} (h : Ext a b) (k : Nat) (hk : k < a.heap.size) : b.heap[k]? = a.heap[k]? := Below.block h k hk
theorem Ext.cell {a b : World} (h : Ext a b) (p : Addr) (hp : p.block < a.heap.size) : b.cell? p = a.cell? p := Below.cell h hp
theorem Ext.frozen {a b : World} (h : Ext a b) (p : Addr) (hp : p.block < a.heap.size) : b.frozen? p = a.frozen? p := Below.frozen h hp
theorem Ext.below {a b : World} (h : Ext a b) : Below a.heap.size a b := h

theorem Ext.setCell {a b : World} (h : Ext a b) {p : Addr} (hp : a.heap.size ≤ p.block) (v : Value) : Ext a (b.setCell p v) := Below.setCell h hp v
/-- A later world (what lies between is an alloc, a draw, a store into a younger block), found by itself. -/
theorem xt {w w' : World} (h : Ext w w' := by repeat (first | with_reducible exact Ext.refl _ | with_reducible assumption | with_reducible refine Ext.alloc ?_ _ | with_reducible refine Ext.drewN ?_ _ | with_reducible refine Ext.drew ?_ | ((with_reducible refine Ext.setCell ?_ ?side _); (case side => first | exact Nat.le_refl _ | (simp; done) | (simp; omega))))) : Ext w w' := h
theorem alloc_drewN (w : World) (o : Obj) (k : Nat) : (w.alloc o).drewN k = (w.drewN k).alloc o := rfl
theorem draw_eq {w w0 : World} {k : Nat} (h : w.drewN k = w0) : w.heap.size = w0.heap.size ∧ Ext w w0 := by subst h; exact ⟨rfl, (Ext.refl w).drewN k⟩
theorem cell_lt {w : World} {p : Addr} {v : Value} (h : w.cell? p = some v) : p.block < w.heap.size := by
 unfold World.cell? at h
 split at h
 · rename_i c t f hb; exact (Array.getElem?_eq_some_iff.1 hb).1
 · cases h
theorem Ext.get {a b : World} (h : Ext a b) {p : Addr} {v : Value} (hc : a.cell? p = some v) : b.cell? p = some v := by rw [h.cell p (cell_lt hc), hc]
theorem Ext.fz {a b : World} (h : Ext a b) {p : Addr} (hp : p.block < a.heap.size) (hf : a.frozen? p = false) : b.frozen? p = false := by rw [h.frozen p hp, hf]

/-- Block B holds the cells cs, none of them frozen. -/
def Blk (w : World) (B : Nat) (cs : Array Value) (T : TypeId) : Prop := w.heap[B]? = some (.cells cs T (0, 0))
theorem Blk.lt {w : World} {B : Nat} {cs : Array Value} {T : TypeId} (h : Blk w B cs T) : B < w.heap.size := (Array.getElem?_eq_some_iff.1 h).1
theorem Blk.cell {w : World} {B : Nat} {cs : Array Value} {T : TypeId} (h : Blk w B cs T) (i : Nat) : w.cell? ⟨B, i, none⟩ = cs[i]? := by
 unfold Blk at h; unfold World.cell?; simp only [h]; rfl
theorem Blk.fz {w : World} {B : Nat} {cs : Array Value} {T : TypeId} (h : Blk w B cs T) (i : Nat) : w.frozen? ⟨B, i, none⟩ = false := by
 unfold Blk at h; unfold World.frozen?; simp [h]
theorem Blk.ext {w w' : World} {B : Nat} {cs : Array Value} {T : TypeId} (h : Blk w B cs T) (k : Ext w w') : Blk w' B cs T := by
 have := h.lt; unfold Blk at *; rw [k.block _ this, h]
theorem Blk.alloc {w : World} {B : Nat} {cs : Array Value} {T : TypeId} (h : Blk w B cs T) (o : Obj) : Blk (w.alloc o) B cs T := h.ext ((Ext.refl w).alloc o)
theorem Blk.new (w : World) (cs : Array Value) (T : TypeId) : Blk (w.alloc (.cells cs T)) w.heap.size cs T := by
 show (w.heap.push _)[w.heap.size]? = _
 simp
theorem Blk.new' (w : World) (cs : Array Value) (T : TypeId) (n : Nat) (h : n = w.heap.size) : Blk (w.alloc (.cells cs T)) n cs T := by subst h; exact Blk.new w cs T
theorem Blk.set {w : World} {B : Nat} {cs : Array Value} {T : TypeId} (h : Blk w B cs T) (i : Nat) (v : Value) : Blk (w.setCell ⟨B, i, none⟩ v) B (cs.setIfInBounds i v) T := by
 have := h.lt
 simp only [Blk, World.setCell] at *
 rw [Array.getElem?_modify]; simp [h]
theorem Blk.other {w : World} {B C : Nat} {cs : Array Value} {T : TypeId} (h : Blk w B cs T) (i : Nat) (v : Value) (hne : B ≠ C) : Blk (w.setCell ⟨C, i, none⟩ v) B cs T := by
 unfold Blk at *; rw [Below.heap_setCell _ _ _ _ hne, h]
theorem Blk.drewN {w : World} {B : Nat} {cs : Array Value} {T : TypeId} (h : Blk w B cs T) (k : Nat) : Blk (w.drewN k) B cs T := h
/-- v is a slice of integers that reads as zs. -/
def Ints (w : World) (v : Value) (zs : List Int) : Prop :=
 (v = .slice none 0 0 ∧ zs = []) ∨ ∃ b off cap, v = .slice (some ⟨b, off, none⟩) zs.length cap ∧ ∀ i, i < zs.length → w.cell? ⟨b, off + i, none⟩ = some (.int .i64 (zs.getD i 0))
theorem Ints.ext {w w' : World} {v : Value} {zs : List Int} (h : Ints w v zs) (k : Ext w w') : Ints w' v zs := by
 rcases h with h | ⟨b, off, cap, hv, hc⟩
 · exact Or.inl h
 · exact Or.inr ⟨b, off, cap, hv, fun i hi => k.get (hc i hi)⟩

theorem strT {a b : ByteArray} (h : (a.toList == b.toList) = true) : a = b := by
 rw [ByteArray.toList_eq, ByteArray.toList_eq] at h
 exact Go.WideShapes.bytes_inj (by simpa using h)
theorem strF {a b : ByteArray} (h : (a.toList == b.toList) = false) : a ≠ b := by
 intro e; subst e; simp at h
theorem strEq {a b : ByteArray} (h : a = b) : (a.toList == b.toList) = true := by subst h; simp
theorem strNe {a b : ByteArray} (h : a ≠ b) : (a.toList == b.toList) = false := by
 cases e : (a.toList == b.toList)
 · rfl
 · exact absurd (strT e) h
end Go.Proofs.YtangdoidkcelfaaGreatDoor
namespace Go.Proofs.YtangdoidkcelfaaGreatDoor
open Go.RowKit
/-- An expression. -/
inductive Ex where
 | mk (op : Int) (name text : ByteArray) (n : Int) (args : List Ex)
def Ex.op : Ex → Int | .mk o _ _ _ _ => o
def Ex.name : Ex → ByteArray | .mk _ s _ _ _ => s
def Ex.text : Ex → ByteArray | .mk _ _ t _ _ => t
def Ex.n : Ex → Int | .mk _ _ _ n _ => n
def Ex.args : Ex → List Ex | .mk _ _ _ _ l => l
def exD : Ex := .mk 0 ⟨#[]⟩ ⟨#[]⟩ 0 []
/-- The value of an expression whose list of arguments is the slice u. -/
def exAgg (x : Ex) (u : Value) : Value := .agg #[.int .i64 x.op, .string x.name, .string x.text, .int .i64 x.n, u]
def ExCells (w : World) (b o : Nat) (x : Ex) (u : Value) : Prop :=
 w.cell? ⟨b, o, none⟩ = some (.int .i64 x.op) ∧ w.cell? ⟨b, o + 1, none⟩ = some (.string x.name) ∧ w.cell? ⟨b, o + 2, none⟩ = some (.string x.text) ∧ w.cell? ⟨b, o + 3, none⟩ = some (.int .i64 x.n) ∧ w.cell? ⟨b, o + 4, none⟩ = some u
theorem ExCells.ext {w w' : World} {b o : Nat} {x : Ex} {u : Value} (h : ExCells w b o x u) (k : Ext w w') : ExCells w' b o x u :=
 ⟨k.get h.1, k.get h.2.1, k.get h.2.2.1, k.get h.2.2.2.1, k.get h.2.2.2.2⟩
/-- The slice v reads as the list of expressions. -/
inductive ExS (w : World) : Value → List Ex → Prop
 | nil (p : Option Addr) (c : Nat) : ExS w (.slice p 0 c) []
 | row (b off c : Nat) (args : List Ex) (sv : Nat → Value) (hpos : 0 < args.length) (hlen : args.length ≤ 140737488355328) (hcap : args.length ≤ c)
  (hc : ∀ i, i < args.length → ExCells w b (off + i * 5) (args.getD i exD) (sv i))
  (hs : ∀ i, i < args.length → ExS w (sv i) (args.getD i exD).args) : ExS w (.slice (some ⟨b, off, none⟩) args.length c) args
theorem ExS.ext {w w' : World} {v : Value} {l : List Ex} (h : ExS w v l) (k : Ext w w') : ExS w' v l := by
 induction h with
 | nil p c => exact .nil p c
 | row b off c args sv hpos hlen hcap hc hs ih => exact .row b off c args sv hpos hlen hcap (fun i hi => (hc i hi).ext k) ih
theorem ExS.form {w : World} {v : Value} {l : List Ex} (h : ExS w v l) : ∃ p c, v = .slice p l.length c := by
 cases h with
 | nil p c => exact ⟨p, c, rfl⟩
 | row b off c args sv hpos hlen hcap hc hs => exact ⟨_, _, rfl⟩
theorem ExS.len {w : World} {v : Value} {l : List Ex} (h : ExS w v l) : l.length ≤ 140737488355328 := by
 cases h with
 | nil p c => simp
 | row b off c args sv hpos hlen hcap hc hs => exact hlen
theorem ExS.cap {w : World} {p : Option Addr} {c : Nat} {l : List Ex} (h : ExS w (.slice p l.length c) l) (h0 : 0 < l.length) : l.length ≤ c := by
 generalize hv : (Value.slice p l.length c) = v at h
 cases h with
 | nil p c => cases h0
 | row b off c args sv hpos hlen hcap hc hs => cases hv; exact hcap
/-- What a place of the slice holds. -/
theorem ExS.at {w : World} {p : Option Addr} {c : Nat} {l : List Ex} (h : ExS w (.slice p l.length c) l) (h0 : 0 < l.length) : ∃ b off, p = some ⟨b, off, none⟩ ∧ ∃ sv : Nat → Value, ∀ i, i < l.length → ExCells w b (off + i * 5) (l.getD i exD) (sv i) ∧ ExS w (sv i) (l.getD i exD).args := by
 generalize hv : (Value.slice p l.length c) = v at h
 cases h with
 | nil p c => cases h0
 | row b off c args sv hpos hlen hcap hc hs =>
  cases hv
  exact ⟨b, off, rfl, sv, fun i hi => ⟨hc i hi, hs i hi⟩⟩
theorem take_snocD {α : Type} (l : List α) (d : α) (k : Nat) (h : k < l.length) : l.take (k + 1) = l.take k ++ [l.getD k d] := by
 rw [List.take_succ_eq_append_getElem h]
 simp only [List.getD_eq_getElem?_getD, List.getElem?_eq_getElem h, Option.getD_some]
/-- The depth of an expression. -/
def Ex.levels : Ex → Nat
 | .mk _ _ _ _ args => levelsL args + 1
where levelsL : List Ex → Nat
 | [] => 0
 | x :: l => max x.levels (levelsL l)
theorem levelsL_append (a b : List Ex) : Ex.levels.levelsL (a ++ b) = max (Ex.levels.levelsL a) (Ex.levels.levelsL b) := by
 induction a with
 | nil => simp [Ex.levels.levelsL]
 | cons x l ih => simp only [List.cons_append, Ex.levels.levelsL, ih]; omega
theorem levelsL_snoc (l : List Ex) (k : Nat) (h : k < l.length) : Ex.levels.levelsL (l.take (k + 1)) = max (Ex.levels.levelsL (l.take k)) (l.getD k exD).levels := by
 rw [take_snocD l exD k h, levelsL_append]
 simp [Ex.levels.levelsL]
theorem levels_le (l : List Ex) (k : Nat) (h : k < l.length) : (l.getD k exD).levels ≤ Ex.levels.levelsL l := by
 have h1 := levelsL_snoc l k h
 have h2 : Ex.levels.levelsL l = max (Ex.levels.levelsL (l.take (k + 1))) (Ex.levels.levelsL (l.drop (k + 1))) := by rw [← levelsL_append, List.take_append_drop]
 omega
theorem levels_eq (x : Ex) : x.levels = Ex.levels.levelsL x.args + 1 := by cases x; rfl
end Go.Proofs.YtangdoidkcelfaaGreatDoor
namespace Go.Proofs.YtangdoidkcelfaaGreatDoor
open Go.RowKit
def ltrB (c : UInt8) : Bool := (decide (97 ≤ c.toNat) && decide (c.toNat ≤ 122)) || (decide (65 ≤ c.toNat) && decide (c.toNat ≤ 90))
def dgtB (c : UInt8) : Bool := decide (48 ≤ c.toNat) && decide (c.toNat ≤ 57)
def wrdB (c : UInt8) : Bool := ltrB c || dgtB c || decide (c.toNat = 95)
/-- Whether a text is a name. -/
def nameB (s : ByteArray) : Bool := decide (1 ≤ s.size ∧ s.size ≤ 16) && (match s.data.toList with | [] => false | c :: _ => ltrB c) && s.data.toList.all wrdB
/-- Whether a number is one of an expression. -/
def nbrB (n : Int) : Bool := decide (-4611686018427387904 ≤ n) && decide (n ≤ 4611686018427387904)
def litC (c : UInt8) : Bool := decide (32 ≤ c.toNat) && decide (c.toNat ≤ 126) && !decide (c.toNat = 34)
def litB (s : ByteArray) : Bool := decide (s.size ≤ 100) && s.data.toList.all litC
def empB (s : ByteArray) : Bool := decide (s.size = 0)
/-- Whether an expression itself has the fields of its operator. -/
def hasFv (op : Int) (nm tx : ByteArray) (n : Int) (len : Nat) : Bool :=
 if op = 1 then nbrB n && empB nm && empB tx && decide (len = 0)
 else if op = 2 then litB tx && empB nm && decide (n = 0) && decide (len = 0)
 else if op = 3 then nameB nm && empB tx && decide (n = 0) && decide (len = 0)
 else if op = 16 ∨ op = 17 then nameB nm && decide (1 ≤ n) && decide (n ≤ 10000000) && empB tx && decide (len = 0)
 else if (empB nm && empB tx && decide (n = 0)) = false then false
 else if op = 4 ∨ op = 5 then decide (len = 1)
 else if 6 ≤ op ∧ op ≤ 14 then decide (len = 2)
 else if op = 15 then decide (2 ≤ len) && decide (len ≤ 17)
 else false
def hasF (x : Ex) : Bool := hasFv x.op x.name x.text x.n x.args.length
/-- Whether an expression is well-formed. -/
def Ex.formed : Ex → Bool
 | .mk op nm tx n args => hasFv op nm tx n args.length && formedL args
where formedL : List Ex → Bool
 | [] => true
 | x :: l => x.formed && formedL l
/-- A feature. -/
structure Feat where
 name : ByteArray
 kind : Int
 n : Int
 text : ByteArray
deriving DecidableEq
def emS : ByteArray := ⟨#[]⟩
def fD : Feat := ⟨emS, 0, 0, emS⟩
def truthF (b : Bool) : Feat := ⟨emS, 3, if b then 1 else 0, emS⟩
def numF (n : Int) : Feat := ⟨emS, 1, n, emS⟩
def txtF (t : ByteArray) : Feat := ⟨emS, 2, 0, t⟩
def ftAgg (f : Feat) : Value := .agg #[.string f.name, .int .i64 f.kind, .int .i64 f.n, .string f.text]
/-- The first feature of a name. -/
def findN (l : List Feat) (nm : ByteArray) : Option Feat := l.find? fun f => decide (f.name = nm)
/-- The error of a feature by itself. -/
def featE (f : Feat) : Int :=
 if nameB f.name = false then 5
 else if f.kind = 2 ∨ (f.kind = 1 ∧ nbrB f.n = true) ∨ (f.kind = 3 ∧ (f.n = 0 ∨ f.n = 1)) then 0 else 4
/-- The error of features (before: those that were read). -/
def namesE (before : List Feat) : List Feat → Int
 | [] => 0
 | f :: l => if featE f ≠ 0 then featE f else if (findN before f.name).isSome then 7 else namesE (before ++ [f]) l
def allK (ks : List Int) (k : Int) : Bool := ks.all fun j => decide (j = k)
/-- The type of a part by that of its feature and those of its arguments. -/
def byK (op : Int) (fk : Int) (ks : List Int) : Int :=
 if op = 1 then 1
 else if op = 2 then 2
 else if op = 3 then fk
 else if op = 16 ∨ op = 17 then (if fk = 2 then 1 else 0)
 else if op = 4 ∨ op = 6 ∨ op = 7 then (if allK ks 3 then 3 else 0)
 else if op = 5 ∨ op = 12 ∨ op = 13 ∨ op = 14 then (if allK ks 1 then 1 else 0)
 else if op = 10 ∨ op = 11 then (if allK ks 1 then 3 else 0)
 else if op = 8 ∨ op = 9 then (if allK ks (ks.getD 0 0) then 3 else 0)
 else if op = 15 then (if allK ks (ks.getD 0 0) && !decide (ks.getD 0 0 = 3) then 3 else 0)
 else 0
/-- The type of an expression, and the error. -/
def Ex.ty (l : List Feat) : Ex → Int × Int
 | .mk op nm _ _ args => match tyL args with
  | .error c => (0, c)
  | .ok ks =>
   if op = 3 ∨ op = 16 ∨ op = 17 then
    match findN l nm with
    | none => (0, 6)
    | some f => if byK op f.kind ks = 0 then (0, 28) else (byK op f.kind ks, 0)
   else if byK op 0 ks = 0 then (0, 28) else (byK op 0 ks, 0)
where tyL : List Ex → Except Int (List Int)
 | [] => .ok []
 | x :: r => if (x.ty l).2 ≠ 0 then .error (x.ty l).2 else match tyL r with
  | .error c => .error c
  | .ok ks => .ok ((x.ty l).1 :: ks)
/-- What Check returns. -/
def checkV (x : Ex) (l : List Feat) : Int × Int :=
 if namesE [] l ≠ 0 then (0, namesE [] l) else if 8 < x.levels then (0, 27) else if x.formed = false then (0, 2) else x.ty l
/-- The value of a feature. -/
def featOf (l : List Feat) (nm : ByteArray) : Feat :=
 match findN l nm with
 | some f => if f.kind = 2 then txtF f.text else ⟨emS, f.kind, f.n, emS⟩
 | none => fD
def sumV (a b : Int) : Option Int := if nbrB (a + b) then some (a + b) else none
def mulV (a b : Int) : Option Int := if nbrB (a * b) then some (a * b) else none
/-- An operator with two arguments. -/
def comb (op : Int) (a b : Feat) : Option Feat :=
 if op = 8 then some (truthF (decide (a = b)))
 else if op = 9 then some (truthF (decide (a ≠ b)))
 else if op = 10 then some (truthF (decide (a.n < b.n)))
 else if op = 11 then some (truthF (decide (a.n ≤ b.n)))
 else if op = 12 then (sumV a.n b.n).map numF
 else if op = 13 then (sumV a.n (-b.n)).map numF
 else if op = 14 then (mulV a.n b.n).map numF
 else some b
/-- Whether a value is among the values of further arguments. -/
def inV (first : Feat) : List (Option Feat) → Option Feat
 | [] => some (truthF false)
 | none :: _ => none
 | some v :: r => if v = first then some (truthF true) else inV first r
/-- The value of a part by those of its arguments (S: what the source says: whether it is a count, the name, the window). -/
def evOp (l : List Feat) (S : Bool → ByteArray → Int → Int) (op : Int) (nm tx : ByteArray) (n : Int) (vs : List (Option Feat)) : Option Feat :=
 if op = 1 then some (numF n)
 else if op = 2 then some (txtF tx)
 else if op = 3 then some (featOf l nm)
 else if op = 16 ∨ op = 17 then (if nbrB (S (decide (op = 16)) nm n) then some (numF (S (decide (op = 16)) nm n)) else none)
 else match vs with
  | [] => none
  | none :: _ => none
  | some first :: r =>
   if op = 4 then some (truthF (decide (first.n = 0)))
   else if op = 5 then some (numF (-first.n))
   else if op = 15 then inV first r
   else if (op = 6 ∧ first.n = 0) ∨ (op = 7 ∧ first.n = 1) then some first
   else match r with
    | [] => none
    | none :: _ => none
    | some second :: _ => comb op first second
/-- The value of an expression. -/
def Ex.ev (l : List Feat) (S : Bool → ByteArray → Int → Int) : Ex → Option Feat
 | .mk op nm tx n args => evOp l S op nm tx n (evL args)
where evL : List Ex → List (Option Feat)
 | [] => []
 | x :: r => x.ev l S :: evL r
theorem evL_map (l : List Feat) (S : Bool → ByteArray → Int → Int) (r : List Ex) : Ex.ev.evL l S r = r.map fun x => x.ev l S := by
 induction r with
 | nil => rfl
 | cons x r ih => simp only [Ex.ev.evL, ih, List.map_cons]
theorem ev_mk (l : List Feat) (S : Bool → ByteArray → Int → Int) (op : Int) (nm tx : ByteArray) (n : Int) (args : List Ex) : (Ex.mk op nm tx n args).ev l S = evOp l S op nm tx n (args.map fun x => x.ev l S) := by
 rw [Ex.ev, evL_map]
def Ex.ev.evIn (l : List Feat) (S : Bool → ByteArray → Int → Int) (first : Feat) (r : List Ex) : Option Feat := inV first (r.map fun x => x.ev l S)
/-- What Eval returns. -/
def evalV (x : Ex) (l : List Feat) (S : Bool → ByteArray → Int → Int) : Feat × Int :=
 if (checkV x l).2 ≠ 0 then (fD, (checkV x l).2) else match x.ev l S with
  | none => (fD, 4)
  | some v => (v, 0)
end Go.Proofs.YtangdoidkcelfaaGreatDoor
namespace Go.Proofs.YtangdoidkcelfaaGreatDoor
open Go.RowKit
def OneV (v : Value) (w : World) (e : Ending) (w' : World) : Prop := e = .returned v ∧ Ext w w'
/-- What the arguments of an expression in memory are good for. -/
def Kids (w : World) (P : Ex → Value → Prop) (v : Value) (l : List Ex) : Prop :=
 ∀ p c, v = .slice p l.length c → 0 < l.length → ∃ b off, p = some ⟨b, off, none⟩ ∧ ∃ sv : Nat → Value, ∀ i, i < l.length → ExCells w b (off + i * 5) (l.getD i exD) (sv i) ∧ ExS w (sv i) (l.getD i exD).args ∧ P (l.getD i exD) (sv i)
theorem ExS.ind {w : World} {P : Ex → Value → Prop} (step : ∀ x v, ExS w v x.args → Kids w P v x.args → P x v) {v : Value} {l : List Ex} (h : ExS w v l) : ∀ x : Ex, x.args = l → P x v := by
 induction h with
 | nil p c =>
  intro x hx
  refine step x _ (by rw [hx]; exact .nil p c) ?_
  rw [hx]
  intro p' c' _ h0
  cases h0
 | row b off c args sv hpos hlen hcap hc hs ih =>
  intro x hx
  refine step x _ (by rw [hx]; exact .row b off c args sv hpos hlen hcap hc hs) ?_
  rw [hx]
  intro p' c' hv _
  cases hv
  exact ⟨b, off, rfl, sv, fun i hi => ⟨hc i hi, hs i hi, ih i hi _ rfl⟩⟩
theorem exAgg_mk (op : Int) (nm tx : ByteArray) (n : Int) (args : List Ex) (u : Value) : exAgg (.mk op nm tx n args) u = .agg #[.int .i64 op, .string nm, .string tx, .int .i64 n, u] := rfl
theorem ExCells.five {w : World} {b o : Nat} {x : Ex} {u : Value} (h : ExCells w b o x u) : w.cell? ⟨b, o, none⟩ = some (.int .i64 x.op) ∧ w.cell? ⟨b, o + 1, none⟩ = some (.string x.name) ∧ w.cell? ⟨b, o + 1 + 1, none⟩ = some (.string x.text) ∧ w.cell? ⟨b, o + 1 + 1 + 1, none⟩ = some (.int .i64 x.n) ∧ w.cell? ⟨b, o + 1 + 1 + 1 + 1, none⟩ = some u := h
end Go.Proofs.YtangdoidkcelfaaGreatDoor
