/- Lists of expressions that a call makes: how they lie in memory, and what an append leaves. -/
import Derived.Test.YtpdpjindmghfpaaGreatDoorEty
import Derived.Test.YtpdpjindmghfpaaGreatDoorEve
import Derived.Test.YtpdpjindmghfpaaGreatDoorEvi
import Derived.Deep.AppendLies
import Derived.Deep.RegionHeld3
namespace Go.Proofs.YtpdpjindmghfpaaGreatDoor
open Go.RowKit
/-- As ExS, every block of it being one of ok. -/
inductive ExB (w : World) (ok : Nat → Prop) : Value → List Ex → Prop
  | nil (p : Option Addr) (c : Nat) : ExB w ok (.slice p 0 c) []
  | row (b off c : Nat) (args : List Ex) (sv : Nat → Value) (hpos : 0 < args.length) (hlen : args.length ≤ 140737488355328) (hcap : args.length ≤ c) (hok : ok b)
      (hc : ∀ i, i < args.length → ExCells w b (off + i * 5) (args.getD i exD) (sv i))
      (hs : ∀ i, i < args.length → ExB w ok (sv i) (args.getD i exD).args) : ExB w ok (.slice (some ⟨b, off, none⟩) args.length c) args
theorem ExB.toS {w : World} {ok : Nat → Prop} {v : Value} {l : List Ex} (h : ExB w ok v l) : ExS w v l := by
  induction h with
  | nil p c => exact .nil p c
  | row b off c args sv hpos hlen hcap hok hc hs ih => exact .row b off c args sv hpos hlen hcap hc ih
theorem ExCells.lt {w : World} {b o : Nat} {x : Ex} {u : Value} (h : ExCells w b o x u) : b < w.heap.size := cell_lt h.1
theorem ExB.imp {w : World} {ok ok' : Nat → Prop} (hi : ∀ j, ok j → j < w.heap.size → ok' j) {v : Value} {l : List Ex} (h : ExB w ok v l) : ExB w ok' v l := by
  induction h with
  | nil p c => exact .nil p c
  | row b off c args sv hpos hlen hcap hok hc hs ih => exact .row b off c args sv hpos hlen hcap (hi b hok (hc 0 hpos).lt) hc ih
theorem ExCells.block {w w' : World} {b o : Nat} {x : Ex} {u : Value} (h : ExCells w b o x u) (e : w'.heap[b]? = w.heap[b]?) : ExCells w' b o x u := by
  have hc : ∀ j, w'.cell? ⟨b, j, none⟩ = w.cell? ⟨b, j, none⟩ := fun j => World.cell?_of_block e
  exact ⟨(hc _).trans h.1, (hc _).trans h.2.1, (hc _).trans h.2.2.1, (hc _).trans h.2.2.2.1, (hc _).trans h.2.2.2.2⟩
theorem ExB.move {w w' : World} {ok : Nat → Prop} (hm : ∀ j, ok j → j < w.heap.size → w'.heap[j]? = w.heap[j]?) {v : Value} {l : List Ex} (h : ExB w ok v l) : ExB w' ok v l := by
  induction h with
  | nil p c => exact .nil p c
  | row b off c args sv hpos hlen hcap hok hc hs ih => exact .row b off c args sv hpos hlen hcap hok (fun i hi => (hc i hi).block (hm b hok (hc 0 hpos).lt)) ih
theorem ExB.ext {w w' : World} {ok : Nat → Prop} {v : Value} {l : List Ex} (h : ExB w ok v l) (k : Ext w w') : ExB w' ok v l := h.move fun j _ hj => k.block j hj
/-- The cells of a list of expressions whose lists of arguments are us. -/
def exFlat : List Ex → List Value → List Value
  | y :: ys, u :: us => [.int .i64 y.op, .string y.name, .string y.text, .int .i64 y.n, u] ++ exFlat ys us
  | _, _ => []
theorem exFlat_snoc : ∀ (ys : List Ex) (us : List Value) (y : Ex) (u : Value), us.length = ys.length → exFlat (ys ++ [y]) (us ++ [u]) = exFlat ys us ++ [.int .i64 y.op, .string y.name, .string y.text, .int .i64 y.n, u]
  | [], [], _, _, _ => rfl
  | _ :: ys, _ :: us, y, u, h => by
    simp only [List.cons_append, exFlat, exFlat_snoc ys us y u (by simpa using h), List.nil_append]
  | [], _ :: _, _, _, h => by simp at h
  | _ :: _, [], _, _, h => by simp at h
theorem exFlat_len : ∀ (ys : List Ex) (us : List Value), us.length = ys.length → (exFlat ys us).length = ys.length * 5
  | [], [], _ => rfl
  | _ :: ys, _ :: us, h => by
    simp only [exFlat, List.length_append, exFlat_len ys us (by simpa using h), List.length_cons, List.length_nil]
    omega
  | [], _ :: _, h => by simp at h
  | _ :: _, [], h => by simp at h
theorem exFlat_get : ∀ (ys : List Ex) (us : List Value), us.length = ys.length → ∀ i, i < ys.length →
    (exFlat ys us)[i * 5]? = some (.int .i64 (ys.getD i exD).op) ∧ (exFlat ys us)[i * 5 + 1]? = some (.string (ys.getD i exD).name) ∧ (exFlat ys us)[i * 5 + 2]? = some (.string (ys.getD i exD).text) ∧ (exFlat ys us)[i * 5 + 3]? = some (.int .i64 (ys.getD i exD).n) ∧ (exFlat ys us)[i * 5 + 4]? = some (us.getD i (.slice none 0 0))
  | [], _, _, i, hi => by simp at hi
  | y :: ys, [], h, _, _ => by simp at h
  | y :: ys, u :: us, h, 0, _ => by simp [exFlat]
  | y :: ys, u :: us, h, i + 1, hi => by
    have ih := exFlat_get ys us (by simpa using h) i (by simpa using hi)
    have e : ∀ j, (exFlat (y :: ys) (u :: us))[(i + 1) * 5 + j]? = (exFlat ys us)[i * 5 + j]? := by
      intro j
      simp only [exFlat]
      rw [List.getElem?_append_right (by simp; omega)]
      congr 1
      simp only [List.length_cons, List.length_nil]
      omega
    simp only [List.getD_cons_succ]
    exact ⟨(e 0).trans ih.1, (e 1).trans ih.2.1, (e 2).trans ih.2.2.1, (e 3).trans ih.2.2.2.1, (e 4).trans ih.2.2.2.2⟩
/-- v is a slice that a call made, from block B on, and reads as ys. -/
def CL (w : World) (B : Nat) (v : Value) (ys : List Ex) : Prop :=
  ys.length ≤ 1000000 ∧ ∃ us : List Value, us.length = ys.length ∧ w.ownsRow B 24 5 v ys.length (exFlat ys us) ∧ ∀ i, i < ys.length → ExB w (fun j => B ≤ j ∧ v.ownBlock ≠ some j) (us.getD i (.slice none 0 0)) (ys.getD i exD).args
theorem CL.nil (w : World) (B : Nat) : CL w B (.slice none 0 0) [] := ⟨by simp, [], rfl, ⟨rfl, Or.inl ⟨rfl, rfl⟩⟩, fun i hi => by cases hi⟩
theorem CL.form {w : World} {B : Nat} {v : Value} {ys : List Ex} (h : CL w B v ys) : ∃ p c, v = .slice p ys.length c := by
  obtain ⟨_, us, _, h, _⟩ := h
  obtain ⟨_, ⟨h, h0⟩ | ⟨g, cap, cur, hv, _⟩⟩ := h
  · exact ⟨none, 0, by rw [h0]; exact h⟩
  · exact ⟨_, _, hv⟩
theorem ownsRow_extE {a b : World} {B : Nat} {e : TypeId} {size : Nat} {v : Value} {n : Nat} {xs : List Value} (h : a.ownsRow B e size v n xs) (k : Ext a b) : b.ownsRow B e size v n xs := by
  obtain ⟨h1, h | ⟨g, cap, cur, hv, hg, hb, h2⟩⟩ := h
  · exact ⟨h1, Or.inl h⟩
  · exact ⟨h1, Or.inr ⟨g, cap, cur, hv, hg, (k.block g (Array.getElem?_eq_some_iff.1 hb).1).trans hb, h2⟩⟩
theorem CL.ext {w w' : World} {B : Nat} {v : Value} {ys : List Ex} (h : CL w B v ys) (k : Ext w w') : CL w' B v ys := by
  obtain ⟨h0, us, h1, h2, h3⟩ := h
  exact ⟨h0, us, h1, ownsRow_extE h2 k, fun i hi => (h3 i hi).ext k⟩
theorem CL.set {w : World} {B b o : Nat} {v : Value} {ys : List Ex} (h : CL w B v ys) (hb : b < B) (u : Value) : CL (w.setCell ⟨b, o, none⟩ u) B v ys := by
  obtain ⟨h0, us, h1, h2, h3⟩ := h
  refine ⟨h0, us, h1, ?_, fun i hi => (h3 i hi).move fun j hj _ => Below.heap_setCell _ _ _ _ (by have := hj.1; show j ≠ b; omega)⟩
  obtain ⟨h4, h | ⟨g, cap, cur, hv, hg, hgb, h5⟩⟩ := h2
  · exact ⟨h4, Or.inl h⟩
  · exact ⟨h4, Or.inr ⟨g, cap, cur, hv, hg, by rw [Below.heap_setCell _ _ _ _ (show g ≠ b by omega)]; exact hgb, h5⟩⟩
theorem CL.row {w : World} {B : Nat} {v : Value} {ys : List Ex} (h : CL w B v ys) : ∃ us : List Value, us.length = ys.length ∧ w.ownsRow B 24 5 v ys.length (exFlat ys us) := by
  obtain ⟨_, us, h1, h2, _⟩ := h
  exact ⟨us, h1, h2⟩
/-- What an append of one expression leaves. -/
theorem CL.push {w w' : World} {B g cap : Nat} {v u : Value} {ys : List Ex} {us : List Value} {y : Ex} (hl : ys.length < 1000000) (hus : us.length = ys.length) (hk : ∀ i, i < ys.length → ExB w (fun j => B ≤ j ∧ v.ownBlock ≠ some j) (us.getD i (.slice none 0 0)) (ys.getD i exD).args)
    (hy : ExB w (fun j => B ≤ j ∧ v.ownBlock ≠ some j) u y.args)
    (hown : w'.ownsRow B 24 5 (.slice (some ⟨g, 0, none⟩) (ys.length + 1) cap) (ys.length + 1) (exFlat ys us ++ [.int .i64 y.op, .string y.name, .string y.text, .int .i64 y.n, u])) (hg : w.grownBy w' v.ownBlock) (hat : v.ownBlock = some g ∨ g = w.heap.size) : CL w' B (.slice (some ⟨g, 0, none⟩) (ys.length + 1) cap) (ys ++ [y]) := by
  have hmv : ∀ {z : Value} {l : List Ex}, ExB w (fun j => B ≤ j ∧ v.ownBlock ≠ some j) z l → ExB w' (fun j => B ≤ j ∧ Value.ownBlock (.slice (some ⟨g, 0, none⟩) (ys.length + 1) cap) ≠ some j) z l := by
    intro z l h
    have h1 : ExB w (fun j => (B ≤ j ∧ v.ownBlock ≠ some j) ∧ (B ≤ j ∧ Value.ownBlock (.slice (some ⟨g, 0, none⟩) (ys.length + 1) cap) ≠ some j)) z l := by
      refine h.imp fun j hj hlt => ⟨hj, hj.1, ?_⟩
      simp only [Value.ownBlock, ne_eq, Option.some.injEq]
      rcases hat with hat | hat
      · intro e; subst e; exact hj.2 hat
      · omega
    have h2 := h1.move (w' := w') fun j hj hlt => hg.block j hlt (fun e => hj.1.2 e.symm)
    exact h2.imp fun j hj _ => hj.2
  refine ⟨by simp; omega, us ++ [u], by simp [hus], ?_, ?_⟩
  · rw [exFlat_snoc ys us y u hus]
    simpa using hown
  · intro i hi
    by_cases hlt : i < ys.length
    · have e1 : (us ++ [u]).getD i (.slice none 0 0) = us.getD i (.slice none 0 0) := by
        simp only [List.getD_eq_getElem?_getD]; rw [List.getElem?_append_left (by omega)]
      have e2 : (ys ++ [y]).getD i exD = ys.getD i exD := by
        simp only [List.getD_eq_getElem?_getD]; rw [List.getElem?_append_left hlt]
      rw [e1, e2]
      exact hmv (hk i hlt)
    · have hi2 : i = ys.length := by simp at hi; omega
      subst hi2
      have e1 : (us ++ [u]).getD ys.length (.slice none 0 0) = u := by
        simp only [List.getD_eq_getElem?_getD]; rw [List.getElem?_append_right (by omega)]; simp [hus]
      have e2 : (ys ++ [y]).getD ys.length exD = y := by
        simp only [List.getD_eq_getElem?_getD]; rw [List.getElem?_append_right (by omega)]; simp
      rw [e1, e2]
      exact hmv hy
theorem CL.done {w : World} {B : Nat} {v : Value} {ys : List Ex} (h : CL w B v ys) : ExB w (fun j => B ≤ j) v ys := by
  obtain ⟨h0, us, h1, h2, h3⟩ := h
  obtain ⟨h4, ⟨hv, hn⟩ | ⟨g, cap, cur, hv, hg, hb, hcap, hcm, hcs, htk⟩⟩ := h2
  · obtain rfl := List.length_eq_zero_iff.1 hn
    subst hv
    exact .nil _ _
  · subst hv
    by_cases hp : 0 < ys.length
    · refine .row g 0 cap ys (fun i => us.getD i (.slice none 0 0)) hp (by omega) hcap hg (fun i hi => ?_) (fun i hi => (h3 i hi).imp fun j hj _ => hj.1)
      obtain ⟨g0, g1, g2, g3, g4⟩ := exFlat_get ys us h1 i hi
      have hcell : ∀ j u, (exFlat ys us)[j]? = some u → w.cell? ⟨g, 0 + j, none⟩ = some u := by
        intro j u hj
        have hb' : Blk w g cur 24 := hb
        rw [Nat.zero_add, hb'.cell j, ← Array.getElem?_toList, ← hj, ← htk]
        have hjl : j < ys.length * 5 := by
          have := (List.getElem?_eq_some_iff.1 hj).1
          rw [exFlat_len ys us h1] at this
          exact this
        rw [List.getElem?_take_of_lt hjl]
      refine ⟨hcell _ _ g0, ?_, ?_, ?_, ?_⟩
      · rw [Nat.add_assoc]; exact hcell _ _ g1
      · rw [Nat.add_assoc]; exact hcell _ _ g2
      · rw [Nat.add_assoc]; exact hcell _ _ g3
      · rw [Nat.add_assoc]; exact hcell _ _ g4
    · obtain rfl := List.length_eq_zero_iff.1 (show ys.length = 0 by omega)
      exact .nil _ _
/-- As Ext, but for one block. -/
structure ExtBut (b : Nat) (w w' : World) : Prop where
  os : w'.os = w.os
  tape : w'.tape = w.tape
  output : w'.output = w.output
  size : w.heap.size ≤ w'.heap.size
  block : ∀ k, k < w.heap.size → k ≠ b → w'.heap[k]? = w.heap[k]?
theorem ExtBut.refl (b : Nat) (w : World) : ExtBut b w w := ⟨rfl, rfl, rfl, Nat.le_refl _, fun _ _ _ => rfl⟩
theorem ExtBut.ext {b : Nat} {w w1 w2 : World} (h : ExtBut b w w1) (k : Ext w1 w2) : ExtBut b w w2 :=
  ⟨k.os.trans h.os, k.tape.trans h.tape, k.output.trans h.output, Nat.le_trans h.size k.size, fun j hj hne => by rw [k.block j (Nat.lt_of_lt_of_le hj h.size), h.block j hj hne]⟩
theorem ExtBut.grown {b : Nat} {w w1 w2 : World} {r : Option Nat} (h : ExtBut b w w1) (k : w1.grownBy w2 r) (hr : ∀ j, r = some j → w.heap.size ≤ j) : ExtBut b w w2 :=
  ⟨k.os.trans h.os, k.tape.trans h.tape, k.output.trans h.output, Nat.le_trans h.size k.size, fun j hj hne => by rw [k.block j (Nat.lt_of_lt_of_le hj h.size) (fun e => by have := hr j e.symm; omega), h.block j hj hne]⟩
theorem ExtBut.set {b : Nat} {w w1 : World} (h : ExtBut b w w1) (o : Nat) (v : Value) : ExtBut b w (w1.setCell ⟨b, o, none⟩ v) :=
  ⟨h.os, h.tape, h.output, by simpa using h.size, fun j hj hne => by rw [Below.heap_setCell _ _ _ _ hne, h.block j hj hne]⟩
theorem ExtBut.to {b : Nat} {w0 w w1 : World} (h : ExtBut b w w1) (k : Ext w0 w) (hb : w0.heap.size ≤ b) : Ext w0 w1 :=
  ⟨h.os.trans k.os, h.tape.trans k.tape, h.output.trans k.output, Nat.le_trans k.size h.size, fun j hj => by rw [h.block j (Nat.lt_of_lt_of_le hj k.size) (by omega), k.block j hj]⟩
theorem ExtBut.blk {b k : Nat} {w w1 : World} {cs : Array Value} {T : TypeId} (h : ExtBut b w w1) (hb : Blk w k cs T) (hne : k ≠ b) : Blk w1 k cs T := by
  have := hb.lt
  unfold Blk at *
  rw [h.block k this hne, hb]
theorem grown_undrew {w w' : World} {r : Option Nat} (h : w.drew.grownBy w' r) : w.grownBy w' r := ⟨h.os, h.tape, h.output, h.size, h.block⟩
theorem grown_undrew' {w w' : World} {r : Option Nat} {o : Obj} (h : ((w.alloc o).drew).grownBy w' r) : (w.alloc o).grownBy w' r := ⟨h.os, h.tape, h.output, h.size, h.block⟩
theorem infoExE : (Tryz.prog.info? 24).map (fun i => (i.zero, i.size, i.bytes)) = some (some (.agg #[.int .i64 0, .string ⟨#[]⟩, .string ⟨#[]⟩, .int .i64 0, .slice none 0 0]), 5, 72) := by kernel_rfl
theorem cell_five_new {W : World} {c0 c1 c2 c3 c4 : Value} {T : TypeId} {B : Nat} (h : Blk W B #[c0, c1, c2, c3, c4] T) : ∀ j u, [c0, c1, c2, c3, c4][j]? = some u → W.cell? ((⟨B, 0, none⟩ : Addr).add j) = some u := by
  intro j u hj
  have e : (⟨B, 0, none⟩ : Addr).add j = ⟨B, j, none⟩ := by
    simp [Addr.add]
    exact fun h => h.symm
  rw [e, h.cell j]
  simpa using hj
theorem five_one (a n : Value) (s t : ByteArray) (p : Option Addr) (m c : Nat) (ha : a.oneCell' = true) (hn : n.oneCell' = true) : ∀ u ∈ [a, Value.string s, .string t, n, .slice p m c], u.oneCell' = true := by
  intro u hu
  simp only [List.mem_cons, List.not_mem_nil, or_false] at hu
  rcases hu with rfl | rfl | rfl | rfl | rfl
  · exact ha
  · rfl
  · rfl
  · exact hn
  · rfl
/-- What a function that returns an expression of its own leaves. -/
def ExP (y : Ex) (w : World) (e : Ending) (w' : World) : Prop := ∃ p c, e = .returned (.agg #[.int .i64 y.op, .string y.name, .string y.text, .int .i64 y.n, .slice p y.args.length c]) ∧ ExB w' (fun j => w.heap.size ≤ j) (.slice p y.args.length c) y.args ∧ Ext w w'
/-- One append of a loop that makes a list of expressions. -/
theorem CL.step {B N k gg cap vc c : Nat} {ys : List Ex} {vp p : Option Addr} {us : List Value} {w1 w5 : World} {y : Ex} {C5 : Obj} (hl : ys.length = k) (hk : k < 1000000) (hus : us.length = ys.length)
    (hks : ∀ i, i < ys.length → ExB w1 (fun j => B ≤ j ∧ Value.ownBlock (.slice vp k vc) ≠ some j) (us.getD i (.slice none 0 0)) (ys.getD i exD).args) (hB1 : ExB w1 (fun j => N ≤ j) (.slice p y.args.length c) y.args) (hN : B ≤ N) (hrN : ∀ g, Value.ownBlock (.slice vp k vc) = some g → g < N)
    (hown : w5.ownsRow B 24 5 (.slice (some ⟨gg, 0, none⟩) (k + 1) cap) (k + 1) (exFlat ys us ++ [.int .i64 y.op, .string y.name, .string y.text, .int .i64 y.n, .slice p y.args.length c])) (hg : (w1.alloc C5).grownBy w5 (Value.ownBlock (.slice vp k vc))) (hat : Value.ownBlock (.slice vp k vc) = some gg ∨ gg = w1.heap.size + 1) : CL w5 B (.slice (some ⟨gg, 0, none⟩) (k + 1) cap) (ys ++ [y]) := by
  subst hl
  refine CL.push (w := w1.alloc C5) hk hus (fun i hi => (hks i hi).ext ((Ext.refl _).alloc _)) ((hB1.ext ((Ext.refl _).alloc _)).imp fun j hj _ => ⟨by omega, fun e => ?_⟩) hown hg (by simpa using hat)
  have := hrN j e
  omega
theorem partsL_ge (l : List Ex) : l.length ≤ (Ex.parts.partsL l).length := by
  induction l with
  | nil => simp
  | cons x r ih =>
    have : 1 ≤ x.parts.length := by cases x; rw [parts_mk]; simp
    simp only [Ex.parts.partsL, List.length_append, List.length_cons]
    omega
theorem blk_grownE {w w' : World} {r : Option Nat} {k : Nat} {cs : Array Value} {T : TypeId} (h : w.grownBy w' r) (hb : Blk w k cs T) (hne : ∀ j, r = some j → j ≠ k) : Blk w' k cs T := by
  have := hb.lt
  unfold Blk at *
  rw [h.block k this (fun e => hne k e.symm rfl), hb]
end Go.Proofs.YtpdpjindmghfpaaGreatDoor
