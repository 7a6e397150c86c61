/- A message among the arguments: what the row's reading gives, and that it reads behind the call as it read before. -/
import Derived.Test.YthokhncdpfaifaaGreatDoorMlawc
import Derived.Test.YthokhncdpfaifaaGreatDoorLaid
import Derived.Lib.SmallJoins
import Derived.Deep.SlicePairs
import Derived.Carry
namespace Go.Proofs.YthokhncdpfaifaaGreatDoor
open Go.ChangeShapes Go.WideShapes Go.ChangeAt Go.WideMaps Go.WideElems Go.RowKit
theorem oneMsg : ∃ f0 f1 : Field, Tryz.prog.underlying 24 = some (.struct #[f0, f1]) ∧ Go.Deep.oneCellFields Tryz.prog #[f0, f1] = true ∧ f0.type = 3 ∧ f1.type = 22 := ⟨_, _, Tryz.underlying24, by kernel_rfl, rfl, rfl⟩
theorem cMsg : Tryz.prog.cellsOf 24 = 2 := by kernel_rfl
theorem cEl : Tryz.prog.cellsOf 41 = 2 := by kernel_rfl
theorem oneEl : ∃ f0 f1 : Field, Tryz.prog.underlying 41 = some (.struct #[f0, f1]) ∧ f0.offset = 0 ∧ f1.offset = 1 ∧ f0.type = 3 ∧ f1.type = 9 := ⟨_, _, Tryz.underlying41, rfl, rfl, rfl, rfl⟩
def vInt : Value → Int | .int _ n => n | _ => 0
def vStr : Value → ByteArray | .string s => s | _ => ⟨#[]⟩
theorem laidB : laidOutB Tryz.prog = true := by kernel_rfl
set_option maxRecDepth 100000 in
theorem open_msg {H : Type} {enc : TypeId × Value → H} {W : World} {base b0 : Nat} {sp : Nat → Bool} {held : Bool} {r : Reach} {v : Value} {d : DataW H} {p : List MemPlace}
    (hv : Value.okWide Tryz.prog W r b0 24 v) (h : DataW.Trod enc Tryz.prog W base sp held 24 v d p) :
    ∃ (ty : Int) (u : Value) (es : List El), v = msgAgg ty u ∧ Okm W u es := by
  obtain ⟨f0, f1, hu, ho, ht0, ht1⟩ := oneMsg
  obtain ⟨v0, v1, y0, y1, n, rfl, _, _, h0, h1⟩ := Go.Joins.open_agg2 hu ho cMsg hv h
  rw [ht0] at h0
  rw [ht1] at h1
  obtain ⟨ty, e0, _, _⟩ := DataW.trod_int Tryz.underlying3 h0
  obtain ⟨g0, g1, hue, o0, o1, k0, k1⟩ := oneEl
  cases e0
  rcases Go.Deep.open_slice_pairs (f0 := g0) (f1 := g1) Tryz.underlying22 hue cEl o0 o1 (by rw [k0]; exact cInt) (by rw [k1]; exact cStr) h1 with ⟨hc, _⟩ | ⟨a, len, cap, m, n', V0, V1, D0, D1, P0, P1, hc, _, hlc, hcm, hm, _, hx⟩
  · cases hc
    exact ⟨ty, _, [], rfl, ⟨elems_nil W, by simp, fun j hj => by simp at hj⟩⟩
  · cases hc
    have hlm : len ≤ m := by rw [hm]; split <;> omega
    have key : ∀ i, i < len → ∃ (z : Int) (s : ByteArray), V0 i = .int .i64 z ∧ V1 i = .string s ∧ s.size ≤ maxLen := by
      intro i hi
      obtain ⟨_, _, q0, q1⟩ := hx i (by omega)
      rw [k0] at q0
      rw [k1] at q1
      obtain ⟨z, e1, _⟩ := DataW.trod_int Tryz.underlying3 q0
      obtain ⟨s, e2, _, hs⟩ := DataW.trod_string Tryz.underlying9 q1
      exact ⟨z, s, by simpa using e1, by simpa using e2, hs⟩
    refine ⟨ty, _, (List.range len).map fun i => (vInt (V0 i), vStr (V1 i)), rfl, ⟨⟨some a, cap, by simp, fun hpos => ?_⟩, ?_, fun j hj => ?_⟩⟩
    · have hpos : 0 < len := by simpa using hpos
      obtain ⟨b, off, spot⟩ := a
      obtain ⟨c0, _⟩ := hx 0 (by omega)
      have hspot : spot = none := by simpa [Addr.add] using World.cell?_spot c0
      subst hspot
      refine ⟨b, off, rfl, fun i hi => ?_⟩
      have hi : i < len := by simpa using hi
      obtain ⟨q0, q1, _, _⟩ := hx i (by omega)
      obtain ⟨z, s, e0, e1, _⟩ := key i hi
      rw [Addr.add_lit] at q0 q1
      have eg : ((List.range len).map fun i => (vInt (V0 i), vStr (V1 i))).getD i elD = (z, s) := by
        simp [hi, e0, e1, vInt, vStr]
      rw [eg]
      exact ⟨by rw [q0, e0], by rw [← Nat.add_assoc] at q1; rw [q1, e1]⟩
    · simp; unfold maxLen at hcm; omega
    · have hj : j < len := by simpa using hj
      obtain ⟨z, s, e0, e1, hs⟩ := key j hj
      have eg : ((List.range len).map fun i => (vInt (V0 i), vStr (V1 i))).getD j elD = (z, s) := by
        simp [hj, e0, e1, vInt, vStr]
      rw [eg]
      unfold maxLen at hs
      exact hs
set_option maxRecDepth 100000 in
theorem shut_msg {H : Type} {enc : TypeId × Value → H} {W W' : World} {sp : Nat → Bool} {v : Value} {d : DataW H} {p : List MemPlace}
    (h : DataW.Trod enc Tryz.prog W 0 (fun _ => true) true 24 v d p) (hE : Ext W W') (hlt : ∀ x ∈ p, x.block < W.heap.size) (hsp : ∀ x ∈ p, sp x.block = true) :
    DataW.Trod enc Tryz.prog W' 0 sp true 24 v d p :=
  Trod_stays laidB (by kernel_rfl) (of_decide_eq_true (by kernel_rfl)) h (fun x hx => hE.below.same (hlt x hx)) hsp
end Go.Proofs.YthokhncdpfaifaaGreatDoor
