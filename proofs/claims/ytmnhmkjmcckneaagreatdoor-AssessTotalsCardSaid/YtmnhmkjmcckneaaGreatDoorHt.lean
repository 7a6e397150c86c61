/- Results as data: their numbers, sums and balance, in plain words; a slice of results in memory. -/
import Derived.Test.YtmnhmkjmcckneaaGreatDoorHp
namespace Go.Proofs.YtmnhmkjmcckneaaGreatDoor
open Go.RowKit
/-- The numbers of a result, those of the parties first. -/
def numN (x : ResD) : Nat → Int
 | 0 => x.card
 | 1 => x.iss
 | 2 => x.acq
 | 3 => x.shop
 | 4 => x.net
 | 5 => x.i.amt
 | 6 => x.s.amt
 | 7 => x.m.amt
 | _ => 0
def numC (f : Nat → Int) : Array Value := #[.int .i64 (f 0), .int .i64 (f 1), .int .i64 (f 2), .int .i64 (f 3), .int .i64 (f 4), .int .i64 (f 5), .int .i64 (f 6), .int .i64 (f 7)]
theorem numC_get (f : Nat → Int) : ∀ k, k < 8 → (numC f)[k]? = some (.int .i64 (f k))
 | 0, _ => rfl
 | 1, _ => rfl
 | 2, _ => rfl
 | 3, _ => rfl
 | 4, _ => rfl
 | 5, _ => rfl
 | 6, _ => rfl
 | 7, _ => rfl
 | k + 8, h => by omega
theorem numC_set (f : Nat → Int) (n : Int) : ∀ k, k < 8 → (numC f).setIfInBounds k (.int .i64 n) = numC fun i => if i = k then n else f i
 | 0, _ => rfl
 | 1, _ => rfl
 | 2, _ => rfl
 | 3, _ => rfl
 | 4, _ => rfl
 | 5, _ => rfl
 | 6, _ => rfl
 | 7, _ => rfl
 | k + 8, h => by omega
theorem numC_congr {f g : Nat → Int} (h : ∀ k, k < 8 → f k = g k) : numC f = numC g := by
 unfold numC
 rw [h 0 (by omega), h 1 (by omega), h 2 (by omega), h 3 (by omega), h 4 (by omega), h 5 (by omega), h 6 (by omega), h 7 (by omega)]
/-- The sum of the first k. -/
def sumTo (f : Nat → Int) : Nat → Int
 | 0 => 0
 | k + 1 => sumTo f k + f k
theorem sumTo_le {f : Nat → Int} : ∀ {k : Nat}, (∀ j, j < k → totalB (f j) = true) → -(4503599627370496 * (k : Int)) ≤ sumTo f k ∧ sumTo f k ≤ 4503599627370496 * (k : Int)
 | 0, _ => by simp [sumTo]
 | k + 1, h => by
  have h1 := sumTo_le (k := k) fun j hj => h j (by omega)
  have h2 := (totalB_iff _).1 (h k (by omega))
  rw [sumTo]
  omega
def balB (x : ResD) : Bool := totalB x.card && totalB x.iss && totalB x.acq && totalB x.shop && totalB x.net && decide (x.card + x.iss + x.acq + x.shop + x.net = 0)
theorem balB_no {x : ResD} : ∀ {k : Nat}, k < 5 → totalB (numN x k) = false → balB x = false
 | 0, _, h => by unfold balB; rw [show totalB x.card = false from h]; simp
 | 1, _, h => by unfold balB; rw [show totalB x.iss = false from h]; simp
 | 2, _, h => by unfold balB; rw [show totalB x.acq = false from h]; simp
 | 3, _, h => by unfold balB; rw [show totalB x.shop = false from h]; simp
 | 4, _, h => by unfold balB; rw [show totalB x.net = false from h]; simp
 | k + 5, h, _ => by omega
theorem balB_all {x : ResD} (h : ∀ k, k < 5 → totalB (numN x k) = true) : balB x = decide (sumTo (numN x) 5 = 0) := by
 unfold balB
 rw [show totalB x.card = true from h 0 (by omega), show totalB x.iss = true from h 1 (by omega), show totalB x.acq = true from h 2 (by omega), show totalB x.shop = true from h 3 (by omega), show totalB x.net = true from h 4 (by omega)]
 simp only [Bool.true_and, sumTo, Int.zero_add]
 rfl
/-- The sums of the numbers at place j. -/
def tot (l : List ResD) (j : Nat) : Int := (l.map fun x => numN x j).sum
theorem tot_nil (j : Nat) : tot [] j = 0 := rfl
theorem tot_cons (x : ResD) (l : List ResD) (j : Nat) : tot (x :: l) j = numN x j + tot l j := by simp [tot]
theorem tot_append (a b : List ResD) (j : Nat) : tot (a ++ b) j = tot a j + tot b j := by
 induction a with
 | nil => simp [tot]
 | cons x a ih => rw [List.cons_append, tot_cons, tot_cons, ih]; omega
theorem tot_snoc (l : List ResD) (k : Nat) (h : k < l.length) (j : Nat) : tot (l.take (k + 1)) j = tot (l.take k) j + numN (l.getD k resD) j := by
 have e : l.take (k + 1) = l.take k ++ [l.getD k resD] := by
  rw [List.take_add_one, List.getD_eq_getElem?_getD, List.getElem?_eq_getElem h]; rfl
 rw [e, tot_append, tot_cons, tot_nil]; omega
def sumS : ByteArray := ⟨#[115, 117, 109]⟩
/-- The result with such numbers. -/
def sumR (f : Nat → Int) : ResD := ⟨⟨sumS, f 5, emS⟩, ⟨sumS, f 6, emS⟩, ⟨sumS, f 7, emS⟩, f 0, f 1, f 2, f 3, f 4⟩
def stepB (l : List ResD) (k j : Nat) : Bool := totalB (numN (l.getD k resD) j) && totalB (tot (l.take (k + 1)) j)
def sumB (l : List ResD) : Bool := (List.range l.length).all fun k => (List.range 8).all fun j => stepB l k j
theorem sumB_iff (l : List ResD) : sumB l = true ↔ ∀ k, k < l.length → ∀ j, j < 8 → stepB l k j = true := by
 unfold sumB
 simp only [List.all_eq_true, List.mem_range]
/-- What Sum returns. -/
def sumsV (l : List ResD) : ResD × Int := if sumB l = true then (sumR (tot l), 0) else (resD, 4)
theorem sumsV_no {l : List ResD} {k j : Nat} (hk : k < l.length) (hj : j < 8) (h : stepB l k j = false) : sumsV l = (resD, 4) := by
 unfold sumsV
 rw [if_neg]
 intro hs
 have := (sumB_iff l).1 hs k hk j hj
 rw [h] at this
 cases this
theorem sumsV_ok {l : List ResD} (h : ∀ k, k < l.length → ∀ j, j < 8 → stepB l k j = true) : sumsV l = (sumR (tot l), 0) := by
 unfold sumsV
 rw [if_pos ((sumB_iff l).2 h)]
def ResC (w : World) (b o : Nat) (x : ResD) : Prop :=
 w.cell? ⟨b, o, none⟩ = some (.string x.i.rule) ∧ w.cell? ⟨b, o + 1, none⟩ = some (.int .i64 x.i.amt) ∧ w.cell? ⟨b, o + 2, none⟩ = some (.string x.i.why) ∧ w.cell? ⟨b, o + 3, none⟩ = some (.string x.s.rule) ∧ w.cell? ⟨b, o + 4, none⟩ = some (.int .i64 x.s.amt) ∧ w.cell? ⟨b, o + 5, none⟩ = some (.string x.s.why) ∧ w.cell? ⟨b, o + 6, none⟩ = some (.string x.m.rule) ∧ w.cell? ⟨b, o + 7, none⟩ = some (.int .i64 x.m.amt) ∧ w.cell? ⟨b, o + 8, none⟩ = some (.string x.m.why) ∧ w.cell? ⟨b, o + 9, none⟩ = some (.int .i64 x.card) ∧ w.cell? ⟨b, o + 10, none⟩ = some (.int .i64 x.iss) ∧ w.cell? ⟨b, o + 11, none⟩ = some (.int .i64 x.acq) ∧ w.cell? ⟨b, o + 12, none⟩ = some (.int .i64 x.shop) ∧ w.cell? ⟨b, o + 13, none⟩ = some (.int .i64 x.net)
theorem ResC.ext {w w' : World} {b o : Nat} {x : ResD} (h : ResC w b o x) (k : Ext w w') : ResC w' b o x := by
 obtain ⟨h0, h1, h2, h3, h4, h5, h6, h7, h8, h9, h10, h11, h12, h13⟩ := h
 exact ⟨k.get h0, k.get h1, k.get h2, k.get h3, k.get h4, k.get h5, k.get h6, k.get h7, k.get h8, k.get h9, k.get h10, k.get h11, k.get h12, k.get h13⟩
/-- The slice v reads as the results. -/
def ResM (w : World) (v : Value) (l : List ResD) : Prop :=
 l.length ≤ 140737488355328 ∧ ((∃ p c, v = .slice p 0 c ∧ l = []) ∨ ∃ b off c, v = .slice (some ⟨b, off, none⟩) l.length c ∧ ∀ i, i < l.length → ResC w b (off + i * 14) (l.getD i resD))
theorem ResM.ext {w w' : World} {v : Value} {l : List ResD} (h : ResM w v l) (k : Ext w w') : ResM w' v l := by
 refine ⟨h.1, ?_⟩
 rcases h.2 with h | ⟨b, off, c, hv, hc⟩
 · exact Or.inl h
 · exact Or.inr ⟨b, off, c, hv, fun i hi => (hc i hi).ext k⟩
theorem ResM.form {w : World} {v : Value} {l : List ResD} (h : ResM w v l) : ∃ p c, v = .slice p l.length c := by
 rcases h.2 with ⟨p, c, hv, hl⟩ | ⟨b, off, c, hv, -⟩
 · exact ⟨p, c, by rw [hv, hl]; rfl⟩
 · exact ⟨_, _, hv⟩
theorem ResM.at {w : World} {p : Option Addr} {c : Nat} {l : List ResD} (h : ResM w (.slice p l.length c) l) (h0 : 0 < l.length) : ∃ b off, p = some ⟨b, off, none⟩ ∧ ∀ i, i < l.length → ResC w b (off + i * 14) (l.getD i resD) := by
 rcases h.2 with ⟨p', c', hv, hl⟩ | ⟨b, off, c', hv, hc⟩
 · rw [hl] at h0; cases h0
 · injection hv with h1 h2 h3
   exact ⟨b, off, h1, hc⟩
end Go.Proofs.YtmnhmkjmcckneaaGreatDoor
