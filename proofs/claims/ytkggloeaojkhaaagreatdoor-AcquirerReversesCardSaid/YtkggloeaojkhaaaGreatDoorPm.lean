/- Maps keyed by strings, known by a function from keys to values (any values). -/
import Derived.Test.YtkggloeaojkhaaaGreatDoorQa
import Derived.Maps.OwnSet
import Derived.Laws.AppendOwn
namespace Go.Proofs.YtkggloeaojkhaaaGreatDoor
open Go.RowKit
open Go.Maps (Keyed)
def vRead (v : Value) : Option (DataW Value × List MemPlace) := some (.held v, [])
/-- What stands at each key. -/
abbrev KeyF := List UInt8 → Option Value
def updF (f : KeyF) (s : List UInt8) (v : Value) : KeyF := fun x => if x = s then some v else f x
def delF (f : KeyF) (s : List UInt8) : KeyF := fun x => if x = s then none else f x
theorem updF_same (f : KeyF) (s : List UInt8) (v : Value) : updF f s v s = some v := if_pos rfl
theorem updF_other (f : KeyF) {s x : List UInt8} (v : Value) (h : x ≠ s) : updF f s v x = f x := if_neg h
/-- Block b is a map keyed by strings (type k) of at most n entries; f: what stands at each key. -/
def SMap (k : TypeId) (w : World) (b n : Nat) (f : KeyF) : Prop :=
 ∃ D : DataW Value, w.ownsMap Tryz.prog k vRead b n D ∧ ∀ (s : List UInt8) (z : DataW Value), D.atKey (.string s) z = match f s with | some v => .held v | none => z
theorem SMap.has {_k : TypeId} {_w : World} {_b _n : Nat} {f : KeyF} {D : DataW Value} (h : ∀ (s : List UInt8) (z : DataW Value), D.atKey (.string s) z = match f s with | some v => .held v | none => z) (s : List UInt8) : Maps.has D (.string s) = (f s).isSome := by
 cases hf : f s with
 | none => exact Maps.has_false_of_atKey fun z => by rw [h, hf]
 | some v => exact Maps.has_true_of_atKey (y := .held v) fun z => by rw [h, hf]
theorem SMap.lt {k : TypeId} {w : World} {b n : Nat} {f : KeyF} (h : SMap k w b n f) : b < w.heap.size := by
 obtain ⟨D, h, -⟩ := h
 exact h.lt
theorem SMap.mono {k : TypeId} {w : World} {b n n' : Nat} {f : KeyF} (h : SMap k w b n f) (hn : n ≤ n') : SMap k w b n' f := by
 obtain ⟨D, h, h2⟩ := h
 exact ⟨D, h.mono hn, h2⟩
theorem SMap.isMap {k : TypeId} {w : World} {b n : Nat} {f : KeyF} (h : SMap k w b n f) : ∃ es clock, w.heap[b]? = some (.map es clock) := by
 obtain ⟨D, ⟨es, clock, hb, -⟩, -⟩ := h
 exact ⟨es, clock, hb⟩
theorem SMap.at {k : TypeId} {w w' : World} {b n : Nat} {f : KeyF} (h : SMap k w b n f) (hb : w'.heap[b]? = w.heap[b]?) : SMap k w' b n f := by
 obtain ⟨D, ⟨es, clock, hm, r⟩, h2⟩ := h
 exact ⟨D, ⟨es, clock, hb.trans hm, r⟩, h2⟩
theorem SMap.ext {k : TypeId} {w w' : World} {b n : Nat} {f : KeyF} (h : SMap k w b n f) (e : Ext w w') : SMap k w' b n f := h.at (e.block b h.lt)
theorem SMap.made (k : TypeId) (w : World) : SMap k (w.alloc (.map #[] 0)) w.heap.size 0 (fun _ => none) :=
 ⟨.map [], World.ownsMap_made w Tryz.prog k vRead, fun _ _ => rfl⟩
/-- m[x]. -/
theorem SMap.look {k t e : TypeId} {w : World} {b n : Nat} {f : KeyF} (h : SMap k w b n f) (hk : Tryz.prog.underlying k = some .string) (ht : Tryz.prog.underlying t = some (.map k e)) {z : Value} (hz : (zeroValue e).run Tryz.prog w = .ok z w) {s : ByteArray} (hs : s.size ≤ maxLen) :
 (Instr.lookup t (.map (some b)) (.string s) false).run Tryz.prog w = .ok ((f s.data.toList).getD z) w := by
 obtain ⟨D, h, h2⟩ := h
 obtain ⟨v, ps, hrun, hv⟩ := h.lookup (Go.Maps.string_keyed hk) ht hz (zd := .held z) (zp := []) rfl (Go.WideMaps.keyOf_string_mk hk hs)
 rw [hrun]
 have hv' : v = (f s.data.toList).getD z := by
  have h3 : DataW.held v = D.atKey (.string s.data.toList) (.held z) := congrArg Prod.fst (Option.some.inj hv)
  rw [h2] at h3
  cases hf : f s.data.toList with
  | none => rw [hf] at h3; exact DataW.held.inj h3
  | some x => rw [hf] at h3; exact DataW.held.inj h3
 rw [hv']
/-- v, ok := m[x]. -/
theorem SMap.look_ok {k t e : TypeId} {w : World} {b n : Nat} {f : KeyF} (h : SMap k w b n f) (hk : Tryz.prog.underlying k = some .string) (ht : Tryz.prog.underlying t = some (.map k e)) {z : Value} (hz : (zeroValue e).run Tryz.prog w = .ok z w) {s : ByteArray} (hs : s.size ≤ maxLen) :
 (Instr.lookup t (.map (some b)) (.string s) true).run Tryz.prog w = .ok (.tuple #[(f s.data.toList).getD z, .bool (f s.data.toList).isSome]) w := by
 obtain ⟨D, h, h2⟩ := h
 obtain ⟨v, ps, hrun, hv⟩ := h.look_ok (Go.Maps.string_keyed hk) ht hz (zd := .held z) (zp := []) rfl (Go.WideMaps.keyOf_string_mk hk hs)
 rw [hrun, SMap.has (_k := k) (_w := w) (_b := b) (_n := n) h2]
 have hv' : v = (f s.data.toList).getD z := by
  have h3 : DataW.held v = D.atKey (.string s.data.toList) (.held z) := congrArg Prod.fst (Option.some.inj hv)
  rw [h2] at h3
  cases hf : f s.data.toList with
  | none => rw [hf] at h3; exact DataW.held.inj h3
  | some x => rw [hf] at h3; exact DataW.held.inj h3
 rw [hv']
/-- m[x] = v. -/
theorem SMap.store {k t e : TypeId} {w : World} {b n : Nat} {f : KeyF} (h : SMap k w b n f) (hk : Tryz.prog.underlying k = some .string) (ht : Tryz.prog.underlying t = some (.map k e)) (hn : n < maxLen) {s : ByteArray} (hs : s.size ≤ maxLen) (v : Value) :
 ∃ w', (Instr.mapUpdate t (.map (some b)) (.string s) v).run Tryz.prog w = .ok () w' ∧ SMap k w' b (n + 1) (updF f s.data.toList v) ∧ w.grownBy w' (some b) := by
 obtain ⟨D, h, h2⟩ := h
 obtain ⟨w', hrun, r1, r2⟩ := h.update (Go.Maps.string_keyed hk) ht hn (d := .held v) (ps := []) (val := v) (kl := .string s.data.toList) (Go.WideMaps.keyOf_string_mk hk hs) rfl
 refine ⟨w', hrun, ⟨_, r1, fun x z => ?_⟩, r2⟩
 by_cases hx : x = s.data.toList
 · subst hx
   rw [Maps.atKey_put_same h.isMap (Go.Maps.Keyed.key (Go.Maps.string_keyed hk) (Go.WideMaps.keyOf_string_mk hk hs)), updF_same]
 · rw [Maps.atKey_put_other (fun e => hx (Lit.string.inj e)), updF_other _ _ hx, h2]
section
variable {w : World} {ops : Array Oper} {rest : List Oper} {o : Oper} {a : Act} {Q : Exit → Act → World → Prop}
/-- m[x] = v at the operation. -/
theorem wpList_smap_store (hg : o.guard = none) (m x v : Operand) (t : TypeId) (hop : o.op = Op.mapUpdate t m x v)
 (k e : TypeId) (hk : Tryz.prog.underlying k = some .string) (ht : Tryz.prog.underlying t = some (.map k e)) (b n : Nat) (f : KeyF)
 (hm : a.eval m = .map (some b)) (h : SMap k w b n f) (hn : n < maxLen) (s : ByteArray) (val : Value) (hs : s.size ≤ maxLen) (hx : a.eval x = .string s) (hv : a.eval v = val)
 (hK : ∀ w', SMap k w' b (n + 1) (updF f s.data.toList val) → w.grownBy w' (some b) → wpList Tryz.prog ops Q rest (a.put o.dst undef) w') :
 wpList Tryz.prog ops Q (o :: rest) a w := by
 refine wpList_plain hg fun K' hK' => ?_
 obtain ⟨w', hrun, r1, r2⟩ := h.store hk ht hn hs val
 unfold Oper.wp
 simp [execOp, hop, hm, hx, hv, hrun, Result.andThen]
 exact hK' _ _ (hK w' r1 r2)
end
end Go.Proofs.YtkggloeaojkhaaaGreatDoor
