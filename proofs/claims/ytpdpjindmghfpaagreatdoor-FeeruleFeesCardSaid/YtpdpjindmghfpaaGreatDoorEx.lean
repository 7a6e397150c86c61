/- Expressions as data, and how they lie in memory. -/
import Derived.Test.YtpdpjindmghfpaaGreatDoorEbase
import Derived.LoopTactic
import Derived.Outline
import Derived.BigQuiet
import Derived.Deep.QuietTactic
namespace Go.Proofs.YtpdpjindmghfpaaGreatDoor
open Go.RowKit
/-- An expression. -/
inductive Ex where
  | mk (op : Int) (name text : ByteArray) (n : Int) (args : List Ex)
def Ex.op : Ex → Int | .mk o _ _ _ _ => o
def Ex.name : Ex → ByteArray | .mk _ s _ _ _ => s
def Ex.text : Ex → ByteArray | .mk _ _ t _ _ => t
def Ex.n : Ex → Int | .mk _ _ _ n _ => n
def Ex.args : Ex → List Ex | .mk _ _ _ _ l => l
def exD : Ex := .mk 0 ⟨#[]⟩ ⟨#[]⟩ 0 []
/-- The value of an expression whose list of arguments is the slice u. -/
def exAgg (x : Ex) (u : Value) : Value := .agg #[.int .i64 x.op, .string x.name, .string x.text, .int .i64 x.n, u]
def ExCells (w : World) (b o : Nat) (x : Ex) (u : Value) : Prop :=
  w.cell? ⟨b, o, none⟩ = some (.int .i64 x.op) ∧ w.cell? ⟨b, o + 1, none⟩ = some (.string x.name) ∧ w.cell? ⟨b, o + 2, none⟩ = some (.string x.text) ∧ w.cell? ⟨b, o + 3, none⟩ = some (.int .i64 x.n) ∧ w.cell? ⟨b, o + 4, none⟩ = some u
theorem ExCells.ext {w w' : World} {b o : Nat} {x : Ex} {u : Value} (h : ExCells w b o x u) (k : Ext w w') : ExCells w' b o x u :=
  ⟨k.get h.1, k.get h.2.1, k.get h.2.2.1, k.get h.2.2.2.1, k.get h.2.2.2.2⟩
/-- The slice v reads as the list of expressions. -/
inductive ExS (w : World) : Value → List Ex → Prop
  | nil (p : Option Addr) (c : Nat) : ExS w (.slice p 0 c) []
  | row (b off c : Nat) (args : List Ex) (sv : Nat → Value) (hpos : 0 < args.length) (hlen : args.length ≤ 140737488355328) (hcap : args.length ≤ c)
      (hc : ∀ i, i < args.length → ExCells w b (off + i * 5) (args.getD i exD) (sv i))
      (hs : ∀ i, i < args.length → ExS w (sv i) (args.getD i exD).args) : ExS w (.slice (some ⟨b, off, none⟩) args.length c) args
theorem ExS.ext {w w' : World} {v : Value} {l : List Ex} (h : ExS w v l) (k : Ext w w') : ExS w' v l := by
  induction h with
  | nil p c => exact .nil p c
  | row b off c args sv hpos hlen hcap hc hs ih => exact .row b off c args sv hpos hlen hcap (fun i hi => (hc i hi).ext k) ih
theorem ExS.form {w : World} {v : Value} {l : List Ex} (h : ExS w v l) : ∃ p c, v = .slice p l.length c := by
  cases h with
  | nil p c => exact ⟨p, c, rfl⟩
  | row b off c args sv hpos hlen hcap hc hs => exact ⟨_, _, rfl⟩
theorem ExS.len {w : World} {v : Value} {l : List Ex} (h : ExS w v l) : l.length ≤ 140737488355328 := by
  cases h with
  | nil p c => simp
  | row b off c args sv hpos hlen hcap hc hs => exact hlen
theorem ExS.cap {w : World} {p : Option Addr} {c : Nat} {l : List Ex} (h : ExS w (.slice p l.length c) l) (h0 : 0 < l.length) : l.length ≤ c := by
  generalize hv : (Value.slice p l.length c) = v at h
  cases h with
  | nil p c => cases h0
  | row b off c args sv hpos hlen hcap hc hs => cases hv; exact hcap
/-- What a place of the slice holds. -/
theorem ExS.at {w : World} {p : Option Addr} {c : Nat} {l : List Ex} (h : ExS w (.slice p l.length c) l) (h0 : 0 < l.length) : ∃ b off, p = some ⟨b, off, none⟩ ∧ ∃ sv : Nat → Value, ∀ i, i < l.length → ExCells w b (off + i * 5) (l.getD i exD) (sv i) ∧ ExS w (sv i) (l.getD i exD).args := by
  generalize hv : (Value.slice p l.length c) = v at h
  cases h with
  | nil p c => cases h0
  | row b off c args sv hpos hlen hcap hc hs =>
    cases hv
    exact ⟨b, off, rfl, sv, fun i hi => ⟨hc i hi, hs i hi⟩⟩
theorem take_snocD {α : Type} (l : List α) (d : α) (k : Nat) (h : k < l.length) : l.take (k + 1) = l.take k ++ [l.getD k d] := by
  rw [List.take_succ_eq_append_getElem h]
  simp only [List.getD_eq_getElem?_getD, List.getElem?_eq_getElem h, Option.getD_some]
/-- The depth of an expression. -/
def Ex.levels : Ex → Nat
  | .mk _ _ _ _ args => levelsL args + 1
where levelsL : List Ex → Nat
  | [] => 0
  | x :: l => max x.levels (levelsL l)
theorem levelsL_append (a b : List Ex) : Ex.levels.levelsL (a ++ b) = max (Ex.levels.levelsL a) (Ex.levels.levelsL b) := by
  induction a with
  | nil => simp [Ex.levels.levelsL]
  | cons x l ih => simp only [List.cons_append, Ex.levels.levelsL, ih]; omega
theorem levelsL_snoc (l : List Ex) (k : Nat) (h : k < l.length) : Ex.levels.levelsL (l.take (k + 1)) = max (Ex.levels.levelsL (l.take k)) (l.getD k exD).levels := by
  rw [take_snocD l exD k h, levelsL_append]
  simp [Ex.levels.levelsL]
theorem levels_le (l : List Ex) (k : Nat) (h : k < l.length) : (l.getD k exD).levels ≤ Ex.levels.levelsL l := by
  have h1 := levelsL_snoc l k h
  have h2 : Ex.levels.levelsL l = max (Ex.levels.levelsL (l.take (k + 1))) (Ex.levels.levelsL (l.drop (k + 1))) := by rw [← levelsL_append, List.take_append_drop]
  omega
theorem levels_eq (x : Ex) : x.levels = Ex.levels.levelsL x.args + 1 := by cases x; rfl
end Go.Proofs.YtpdpjindmghfpaaGreatDoor
