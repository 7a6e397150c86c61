/- visit, and what the closures of Names and Windows collect (walks; printed by gen/visit.py). -/
import Derived.Test.YtpdpjindmghfpaaGreatDoorElv
import Derived.Test.YtpdpjindmghfpaaGreatDoorShelf
import Derived.Sort.OwnSorted
import Derived.Carry
namespace Go.Proofs.YtpdpjindmghfpaaGreatDoor
open Go.RowKit Go.Sort
/-- The parts of an expression, itself first. -/
def Ex.parts : Ex → List Ex
  | .mk op nm tx n args => .mk op nm tx n args :: partsL args
where partsL : List Ex → List Ex
  | [] => []
  | x :: r => x.parts ++ partsL r
theorem parts_mk (op : Int) (nm tx : ByteArray) (n : Int) (args : List Ex) : (Ex.mk op nm tx n args).parts = .mk op nm tx n args :: Ex.parts.partsL args := by rw [Ex.parts]
theorem partsL_append (a b : List Ex) : Ex.parts.partsL (a ++ b) = Ex.parts.partsL a ++ Ex.parts.partsL b := by
  induction a with
  | nil => rfl
  | cons x r ih => simp only [List.cons_append, Ex.parts.partsL, ih, List.append_assoc]
theorem partsL_snoc (l : List Ex) (k : Nat) (h : k < l.length) : Ex.parts.partsL (l.take (k + 1)) = Ex.parts.partsL (l.take k) ++ (l.getD k exD).parts := by
  rw [take_snocD l exD k h, partsL_append]
  simp [Ex.parts.partsL]
theorem partsL_len (l : List Ex) (k : Nat) (h : k < l.length) : (Ex.parts.partsL (l.take k)).length + (l.getD k exD).parts.length ≤ (Ex.parts.partsL l).length := by
  have h1 : Ex.parts.partsL l = Ex.parts.partsL (l.take (k + 1)) ++ Ex.parts.partsL (l.drop (k + 1)) := by rw [← partsL_append, List.take_append_drop]
  rw [h1, partsL_snoc l k h]
  simp only [List.length_append]
  omega
/-- w' is w, but for blocks of strings from B on, and for own blocks. -/
structure Mv (B : Nat) (own : Nat → Prop) (w w' : World) : Prop where
  os : w'.os = w.os
  tape : w'.tape = w.tape
  output : w'.output = w.output
  size : w.heap.size ≤ w'.heap.size
  block : ∀ k, k < w.heap.size → ¬ own k → (k < B ∨ ∃ cs T z, w.heap[k]? = some (.cells cs T z) ∧ T ≠ 9) → w'.heap[k]? = w.heap[k]?
theorem Mv.trans {B : Nat} {own : Nat → Prop} {a b c : World} (h : Mv B own a b) (k : Mv B own b c) : Mv B own a c := by
  refine ⟨k.os.trans h.os, k.tape.trans h.tape, k.output.trans h.output, Nat.le_trans h.size k.size, fun j hj ho hc => ?_⟩
  have e := h.block j hj ho hc
  rw [k.block j (Nat.lt_of_lt_of_le hj h.size) ho (by rw [e]; exact hc), e]
theorem Mv.of_ext {B : Nat} {own : Nat → Prop} {a b : World} (h : Ext a b) : Mv B own a b := ⟨h.os, h.tape, h.output, h.size, fun j hj _ _ => h.block j hj⟩
theorem Mv.refl {B : Nat} {own : Nat → Prop} (a : World) : Mv B own a a := Mv.of_ext (Ext.refl a)
theorem Mv.grown {B : Nat} {own : Nat → Prop} {a b : World} {r : Option Nat} (h : a.grownBy b r) (hr : ∀ k, r = some k → B ≤ k ∧ ∃ cs z, a.heap[k]? = some (.cells cs 9 z)) : Mv B own a b := by
  refine ⟨h.os, h.tape, h.output, h.size, fun j hj _ hc => h.block j hj ?_⟩
  intro e
  obtain ⟨h1, cs, z, h2⟩ := hr j e.symm
  rcases hc with hc | ⟨cs', T, z', h3, h4⟩
  · omega
  · rw [h2] at h3
    injection h3 with h3
    injection h3 with _ h5
    exact h4 h5.symm
theorem Mv.set {B : Nat} {own : Nat → Prop} (a : World) (b o : Nat) (v : Value) (hb : own b) : Mv B own a (a.setCell ⟨b, o, none⟩ v) := by
  refine ⟨rfl, rfl, rfl, by simp, fun j _ ho _ => ?_⟩
  exact Below.heap_setCell _ _ _ _ (fun e => ho (by subst e; exact hb))
theorem Mv.ext {B : Nat} {own : Nat → Prop} {w0 a b : World} (h : Mv B own a b) (k : Ext w0 a) (hB : w0.heap.size ≤ B) (ho : ∀ k, own k → B ≤ k) : Ext w0 b := by
  refine ⟨h.os.trans k.os, h.tape.trans k.tape, h.output.trans k.output, Nat.le_trans k.size h.size, fun j hj => ?_⟩
  rw [h.block j (Nat.lt_of_lt_of_le hj k.size) (fun e => by have := ho j e; omega) (Or.inl (by omega)), k.block j hj]
theorem Mv.blk {B : Nat} {own : Nat → Prop} {a b : World} (h : Mv B own a b) {k : Nat} {cs : Array Value} {T : TypeId} (hb : Blk a k cs T) (hT : T ≠ 9) (ho : ¬ own k) : Blk b k cs T := by
  have := hb.lt
  unfold Blk at *
  rw [h.block k this ho (Or.inr ⟨cs, T, _, hb, hT⟩), hb]
theorem ownsRow_ext {a b : World} {B : Nat} {e : TypeId} {size : Nat} {v : Value} {n : Nat} {xs : List Value} (h : a.ownsRow B e size v n xs) (k : Ext a b) : b.ownsRow B e size v n xs := by
  obtain ⟨h1, h | ⟨g, cap, cur, hv, hg, hb, h2⟩⟩ := h
  · exact ⟨h1, Or.inl h⟩
  · exact ⟨h1, Or.inr ⟨g, cap, cur, hv, hg, (k.block g (Array.getElem?_eq_some_iff.1 hb).1).trans hb, h2⟩⟩
theorem owns_formE {a : World} {B : Nat} {e : TypeId} {size : Nat} {v : Value} {n : Nat} {xs : List Value} (h : a.ownsRow B e size v n xs) : ∃ p c, v = .slice p n c := by
  obtain ⟨_, ⟨h, rfl⟩ | ⟨g, cap, cur, hv, _⟩⟩ := h
  · exact ⟨none, 0, h⟩
  · exact ⟨_, _, hv⟩
/-- What a function that calls f for all parts leaves. -/
def VP {σ : Type} (Inv : World → σ → Prop) (B : Nat) (own : Nat → Prop) (s : σ) (w : World) (e : Ending) (w' : World) : Prop := e = .returned (.tuple #[]) ∧ Inv w' s ∧ Mv B own w w'
theorem foldl_mu {σ : Type} (next : σ → Ex → σ) (μ : σ → Nat) (hμ : ∀ s x, μ (next s x) ≤ μ s + 1) : ∀ (l : List Ex) (s : σ), μ (l.foldl next s) ≤ μ s + l.length
  | [], s => by simp
  | x :: l, s => by
    have h1 := foldl_mu next μ hμ l (next s x)
    have h2 := hμ s x
    simp only [List.foldl_cons, List.length_cons]
    omega
set_option maxRecDepth 8000 in
set_option maxHeartbeats 2000000 in
theorem visit_n {σ : Type} (L : Nat) (Inv : World → σ → Prop) (next : σ → Ex → σ) (μ : σ → Nat) (B : Nat) (own : Nat → Prop) (hext : ∀ w1 w2 s, Inv w1 s → Ext w1 w2 → Inv w2 s) (hown : ∀ w1 s k, Inv w1 s → own k → B ≤ k ∧ k < w1.heap.size) (hμ : ∀ s x, μ (next s x) ≤ μ s + 1)
    (hf : ∀ w1 s x q len cp, Inv w1 s → μ s < 1000000 → Calls Tryz.prog 71 #[exAgg x (.slice q len cp), .pointer (some ⟨L, 0, none⟩)] w1 (VP Inv B own (next s x) w1)) {w : World} {v : Value} {l0 : List Ex} (h : ExS w v l0) (hB : w.heap.size ≤ B) : ∀ x : Ex, x.args = l0 → ∀ w' s, Ext w w' → Inv w' s → μ s + x.parts.length ≤ 1000000 → Calls Tryz.prog 70 #[exAgg x v, .func (Fn.func 71) #[] #[.pointer (some ⟨L, 0, none⟩)]] w' (VP Inv B own (x.parts.foldl next s) w') := by
  refine ExS.ind (P := fun x v => ∀ w' s, Ext w w' → Inv w' s → μ s + x.parts.length ≤ 1000000 → Calls Tryz.prog 70 #[exAgg x v, .func (Fn.func 71) #[] #[.pointer (some ⟨L, 0, none⟩)]] w' (VP Inv B own (x.parts.foldl next s) w')) ?_ h
  clear h
  intro x v hS hK w' s hE hI hm
  obtain ⟨op, nm, tx, n, args⟩ := x
  obtain ⟨q, cp, rfl⟩ := hS.form
  have hlen := hS.len
  replace hK := Lib.hid hK
  simp only [Ex.args] at hK hlen ⊢
  rw [parts_mk] at hm ⊢
  simp only [List.length_cons, List.foldl_cons] at hm ⊢
  have hF0 := Lib.hid (fun w1 => hf w1 s (.mk op nm tx n args) q args.length cp)
  have hms := hμ s (.mk op nm tx n args)
  have hmu := Lib.hid (foldl_mu next μ hμ)
  generalize next s (.mk op nm tx n args) = s1 at *
  simp only [exAgg_mk] at hF0 ⊢
  replace hext := Lib.hid hext
  replace hown := Lib.hid hown
  have hno : ¬ own w'.heap.size := fun h => by have := (hown.out w' s _ hI h).2; omega
  replace hno := Lib.hid hno
  replace hI := Lib.hid hI
  have hob := Lib.hid (fun k h => (hown.out w' s k hI.out h).1)
  clear hS hf hμ
  go_enter Tryz.func70, Tryz.ntmps70
  go_wp2_with fail
  refine (hF0.out _ (hext.out _ _ _ hI.out (by repeat (first | with_reducible exact Ext.refl _ | with_reducible exact hE0 | with_reducible exact hE | with_reducible refine Ext.alloc ?_ _ | with_reducible refine Ext.drewN ?_ _ | with_reducible refine Ext.drew ?_ | ((with_reducible refine Ext.setCell ?_ ?side _); (case side => first | exact Nat.le_refl _ | (simp; done) | (simp; omega)))))) (by omega)).mono ?_
  rintro e w1 ⟨rfl, hI1, hM1⟩
  have hb0 := hM1.blk (Blk.new w' #[.int .i64 op, .string nm, .string tx, .int .i64 n, .slice q args.length cp] 24) (by decide) hno.out
  have x4 : w1.cell? ⟨w'.heap.size, 4, none⟩ = some (.slice q args.length cp) := (hb0.cell 4).trans rfl
  replace hM1 : Mv B own w' w1 := Mv.trans (Mv.of_ext (by repeat (first | with_reducible exact Ext.refl _ | with_reducible exact hE0 | with_reducible exact hE | with_reducible refine Ext.alloc ?_ _ | with_reducible refine Ext.drewN ?_ _ | with_reducible refine Ext.drew ?_ | ((with_reducible refine Ext.setCell ?_ ?side _); (case side => first | exact Nat.le_refl _ | (simp; done) | (simp; omega)))))) hM1
  replace hI1 := Lib.hid hI1
  clear hb0 hF0
  go_wp2_with fail
  clear x4
  go_loopw [12] (fun i wr => ∃ k : Nat, k ≤ args.length ∧ i = .int .i64 k ∧ Inv wr ((Ex.parts.partsL (args.take k)).foldl next s1) ∧ Mv B own w' wr) (fun i _ => args.length - (intOf i).toNat)
  case atStart => exact ⟨0, Nat.zero_le _, rfl, hI1.out, hM1⟩
  case round =>
    clear hI1 hM1
    obtain ⟨k, hk, rfl, hI2, hM2⟩ := hrel
    replace hI2 := Lib.hid hI2
    by_cases hlt : k < args.length
    · obtain ⟨b, off, rfl, sv, hkid⟩ := hK.out _ _ rfl (by omega)
      obtain ⟨hc, hsu, hP⟩ := hkid k hlt
      have hform := hsu.form
      have hEr : Ext w wr := hM2.ext hE hB hob.out
      obtain ⟨c0, c1, c2, c3, c4⟩ := (hc.ext hEr).five
      have hsn := Lib.hid (partsL_snoc args k hlt)
      have hln := partsL_len args k hlt
      have hmk := hmu.out (Ex.parts.partsL (args.take k)) s1
      replace hP := Lib.hid hP
      clear hc hkid hsu
      generalize args.getD k exD = y at *
      generalize sv k = u at *
      generalize hs2 : (Ex.parts.partsL (args.take k)).foldl next s1 = s2 at *
      replace hs2 := Lib.hid hs2
      obtain ⟨uq, uc, rfl⟩ := hform
      go_wp2_with fail
      refine (hP.out _ s2 (hEr.alloc _) (hext.out _ _ _ hI2.out (by repeat (first | with_reducible exact Ext.refl _ | with_reducible exact hE0 | with_reducible exact hE | with_reducible refine Ext.alloc ?_ _ | with_reducible refine Ext.drewN ?_ _ | with_reducible refine Ext.drew ?_ | ((with_reducible refine Ext.setCell ?_ ?side _); (case side => first | exact Nat.le_refl _ | (simp; done) | (simp; omega)))))) (by omega)).mono ?_
      rintro e w2 ⟨rfl, hI3, hM3⟩
      replace hI3 := Lib.hid hI3
      replace hM3 : Mv B own w' w2 := hM2.trans (Mv.trans (Mv.of_ext (by repeat (first | with_reducible exact Ext.refl _ | with_reducible exact hE0 | with_reducible exact hE | with_reducible refine Ext.alloc ?_ _ | with_reducible refine Ext.drewN ?_ _ | with_reducible refine Ext.drew ?_ | ((with_reducible refine Ext.setCell ?_ ?side _); (case side => first | exact Nat.le_refl _ | (simp; done) | (simp; omega)))))) hM3)
      clear hM2 hI2 c0 c1 c2 c3 c4
      go_wp2
      go_roundw
      case rel => exact ⟨k + 1, by omega, by go_num, by rw [hsn.out, List.foldl_append, hs2.out]; exact hI3.out, hM3⟩
      case measure => simp [intOf]; omega
    · have hkk : args.take k = args := List.take_of_length_le (by omega)
      rw [hkk] at hI2
      clear hkk
      go_wp2
      go_end0
      exact ⟨rfl, hI2.out, hM2⟩
end Go.Proofs.YtpdpjindmghfpaaGreatDoor
