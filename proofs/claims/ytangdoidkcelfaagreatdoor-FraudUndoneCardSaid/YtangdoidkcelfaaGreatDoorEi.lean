/- Lists of expressions that a call makes: how they lie in memory, and what an append leaves. Contract of clone (a walk; printed by gen/clone.py). Contract of literal (a walk); what Fold computes, in plain words. Contracts of fold and Fold (walks; printed by gen/fold.py). Contract of Fold (a walk; printed by gen/foldt.py). -/
import Derived.Test.YtangdoidkcelfaaGreatDoorEd
import Derived.Test.YtangdoidkcelfaaGreatDoorEg
import Derived.Test.YtangdoidkcelfaaGreatDoorEh
import Derived.Deep.AppendLies
import Derived.Deep.RegionHeld3
import Derived.Test.YtangdoidkcelfaaGreatDoorHeld
namespace Go.Proofs.YtangdoidkcelfaaGreatDoor
open Go.RowKit
/-- As ExS, every block of it being one of ok. -/
inductive ExB (w : World) (ok : Nat → Prop) : Value → List Ex → Prop
 | nil (p : Option Addr) (c : Nat) : ExB w ok (.slice p 0 c) []
 | row (b off c : Nat) (args : List Ex) (sv : Nat → Value) (hpos : 0 < args.length) (hlen : args.length ≤ 140737488355328) (hcap : args.length ≤ c) (hok : ok b)
  (hc : ∀ i, i < args.length → ExCells w b (off + i * 5) (args.getD i exD) (sv i))
  (hs : ∀ i, i < args.length → ExB w ok (sv i) (args.getD i exD).args) : ExB w ok (.slice (some ⟨b, off, none⟩) args.length c) args
theorem ExB.toS {w : World} {ok : Nat → Prop} {v : Value} {l : List Ex} (h : ExB w ok v l) : ExS w v l := by
 induction h with
 | nil p c => exact .nil p c
 | row b off c args sv hpos hlen hcap hok hc hs ih => exact .row b off c args sv hpos hlen hcap hc ih
theorem ExCells.lt {w : World} {b o : Nat} {x : Ex} {u : Value} (h : ExCells w b o x u) : b < w.heap.size := cell_lt h.1
theorem ExB.imp {w : World} {ok ok' : Nat → Prop} (hi : ∀ j, ok j → j < w.heap.size → ok' j) {v : Value} {l : List Ex} (h : ExB w ok v l) : ExB w ok' v l := by
 induction h with
 | nil p c => exact .nil p c
 | row b off c args sv hpos hlen hcap hok hc hs ih => exact .row b off c args sv hpos hlen hcap (hi b hok (hc 0 hpos).lt) hc ih
theorem ExCells.block {w w' : World} {b o : Nat} {x : Ex} {u : Value} (h : ExCells w b o x u) (e : w'.heap[b]? = w.heap[b]?) : ExCells w' b o x u := by
 have hc : ∀ j, w'.cell? ⟨b, j, none⟩ = w.cell? ⟨b, j, none⟩ := fun j => World.cell?_of_block e
 exact ⟨(hc _).trans h.1, (hc _).trans h.2.1, (hc _).trans h.2.2.1, (hc _).trans h.2.2.2.1, (hc _).trans h.2.2.2.2⟩
theorem ExB.move {w w' : World} {ok : Nat → Prop} (hm : ∀ j, ok j → j < w.heap.size → w'.heap[j]? = w.heap[j]?) {v : Value} {l : List Ex} (h : ExB w ok v l) : ExB w' ok v l := by
 induction h with
 | nil p c => exact .nil p c
 | row b off c args sv hpos hlen hcap hok hc hs ih => exact .row b off c args sv hpos hlen hcap hok (fun i hi => (hc i hi).block (hm b hok (hc 0 hpos).lt)) ih
theorem ExB.ext {w w' : World} {ok : Nat → Prop} {v : Value} {l : List Ex} (h : ExB w ok v l) (k : Ext w w') : ExB w' ok v l := h.move fun j _ hj => k.block j hj
/-- The cells of a list of expressions whose lists of arguments are us. -/
def exFlat : List Ex → List Value → List Value
 | y :: ys, u :: us => [.int .i64 y.op, .string y.name, .string y.text, .int .i64 y.n, u] ++ exFlat ys us
 | _, _ => []
theorem exFlat_snoc : ∀ (ys : List Ex) (us : List Value) (y : Ex) (u : Value), us.length = ys.length → exFlat (ys ++ [y]) (us ++ [u]) = exFlat ys us ++ [.int .i64 y.op, .string y.name, .string y.text, .int .i64 y.n, u]
 | [], [], _, _, _ => rfl
 | _ :: ys, _ :: us, y, u, h => by
  simp only [List.cons_append, exFlat, exFlat_snoc ys us y u (by simpa using h), List.nil_append]
 | [], _ :: _, _, _, h => by simp at h
 | _ :: _, [], _, _, h => by simp at h
theorem exFlat_len : ∀ (ys : List Ex) (us : List Value), us.length = ys.length → (exFlat ys us).length = ys.length * 5
 | [], [], _ => rfl
 | _ :: ys, _ :: us, h => by
  simp only [exFlat, List.length_append, exFlat_len ys us (by simpa using h), List.length_cons, List.length_nil]
  omega
 | [], _ :: _, h => by simp at h
 | _ :: _, [], h => by simp at h
theorem exFlat_get : ∀ (ys : List Ex) (us : List Value), us.length = ys.length → ∀ i, i < ys.length →
 (exFlat ys us)[i * 5]? = some (.int .i64 (ys.getD i exD).op) ∧ (exFlat ys us)[i * 5 + 1]? = some (.string (ys.getD i exD).name) ∧ (exFlat ys us)[i * 5 + 2]? = some (.string (ys.getD i exD).text) ∧ (exFlat ys us)[i * 5 + 3]? = some (.int .i64 (ys.getD i exD).n) ∧ (exFlat ys us)[i * 5 + 4]? = some (us.getD i (.slice none 0 0))
 | [], _, _, i, hi => by simp at hi
 | y :: ys, [], h, _, _ => by simp at h
 | y :: ys, u :: us, h, 0, _ => by simp [exFlat]
 | y :: ys, u :: us, h, i + 1, hi => by
  have ih := exFlat_get ys us (by simpa using h) i (by simpa using hi)
  have e : ∀ j, (exFlat (y :: ys) (u :: us))[(i + 1) * 5 + j]? = (exFlat ys us)[i * 5 + j]? := by
   intro j
   simp only [exFlat]
   rw [List.getElem?_append_right (by simp; omega)]
   congr 1
   simp only [List.length_cons, List.length_nil]
   omega
  simp only [List.getD_cons_succ]
  exact ⟨(e 0).trans ih.1, (e 1).trans ih.2.1, (e 2).trans ih.2.2.1, (e 3).trans ih.2.2.2.1, (e 4).trans ih.2.2.2.2⟩
/-- v is a slice that a call made, from block B on, and reads as ys. -/
def CL (w : World) (B : Nat) (v : Value) (ys : List Ex) : Prop :=
 ys.length ≤ 1000000 ∧ ∃ us : List Value, us.length = ys.length ∧ w.ownsRow B 40 5 v ys.length (exFlat ys us) ∧ ∀ i, i < ys.length → ExB w (fun j => B ≤ j ∧ v.ownBlock ≠ some j) (us.getD i (.slice none 0 0)) (ys.getD i exD).args
theorem CL.nil (w : World) (B : Nat) : CL w B (.slice none 0 0) [] := ⟨by simp, [], rfl, ⟨rfl, Or.inl ⟨rfl, rfl⟩⟩, fun i hi => by cases hi⟩
theorem CL.form {w : World} {B : Nat} {v : Value} {ys : List Ex} (h : CL w B v ys) : ∃ p c, v = .slice p ys.length c := by
 obtain ⟨_, us, _, h, _⟩ := h
 obtain ⟨_, ⟨h, h0⟩ | ⟨g, cap, cur, hv, _⟩⟩ := h
 · exact ⟨none, 0, by rw [h0]; exact h⟩
 · exact ⟨_, _, hv⟩
theorem ownsRow_extE {a b : World} {B : Nat} {e : TypeId} {size : Nat} {v : Value} {n : Nat} {xs : List Value} (h : a.ownsRow B e size v n xs) (k : Ext a b) : b.ownsRow B e size v n xs := by
 obtain ⟨h1, h | ⟨g, cap, cur, hv, hg, hb, h2⟩⟩ := h
 · exact ⟨h1, Or.inl h⟩
 · exact ⟨h1, Or.inr ⟨g, cap, cur, hv, hg, (k.block g (Array.getElem?_eq_some_iff.1 hb).1).trans hb, h2⟩⟩
theorem CL.ext {w w' : World} {B : Nat} {v : Value} {ys : List Ex} (h : CL w B v ys) (k : Ext w w') : CL w' B v ys := by
 obtain ⟨h0, us, h1, h2, h3⟩ := h
 exact ⟨h0, us, h1, ownsRow_extE h2 k, fun i hi => (h3 i hi).ext k⟩
theorem CL.set {w : World} {B b o : Nat} {v : Value} {ys : List Ex} (h : CL w B v ys) (hb : b < B) (u : Value) : CL (w.setCell ⟨b, o, none⟩ u) B v ys := by
 obtain ⟨h0, us, h1, h2, h3⟩ := h
 refine ⟨h0, us, h1, ?_, fun i hi => (h3 i hi).move fun j hj _ => Below.heap_setCell _ _ _ _ (by have := hj.1; show j ≠ b; omega)⟩
 obtain ⟨h4, h | ⟨g, cap, cur, hv, hg, hgb, h5⟩⟩ := h2
 · exact ⟨h4, Or.inl h⟩
 · exact ⟨h4, Or.inr ⟨g, cap, cur, hv, hg, by rw [Below.heap_setCell _ _ _ _ (show g ≠ b by omega)]; exact hgb, h5⟩⟩
theorem CL.row {w : World} {B : Nat} {v : Value} {ys : List Ex} (h : CL w B v ys) : ∃ us : List Value, us.length = ys.length ∧ w.ownsRow B 40 5 v ys.length (exFlat ys us) := by
 obtain ⟨_, us, h1, h2, _⟩ := h
 exact ⟨us, h1, h2⟩
/-- What an append of one expression leaves. -/
theorem CL.push {w w' : World} {B g cap : Nat} {v u : Value} {ys : List Ex} {us : List Value} {y : Ex} (hl : ys.length < 1000000) (hus : us.length = ys.length) (hk : ∀ i, i < ys.length → ExB w (fun j => B ≤ j ∧ v.ownBlock ≠ some j) (us.getD i (.slice none 0 0)) (ys.getD i exD).args)
 (hy : ExB w (fun j => B ≤ j ∧ v.ownBlock ≠ some j) u y.args)
 (hown : w'.ownsRow B 40 5 (.slice (some ⟨g, 0, none⟩) (ys.length + 1) cap) (ys.length + 1) (exFlat ys us ++ [.int .i64 y.op, .string y.name, .string y.text, .int .i64 y.n, u])) (hg : w.grownBy w' v.ownBlock) (hat : v.ownBlock = some g ∨ g = w.heap.size) : CL w' B (.slice (some ⟨g, 0, none⟩) (ys.length + 1) cap) (ys ++ [y]) := by
 have hmv : ∀ {z : Value} {l : List Ex}, ExB w (fun j => B ≤ j ∧ v.ownBlock ≠ some j) z l → ExB w' (fun j => B ≤ j ∧ Value.ownBlock (.slice (some ⟨g, 0, none⟩) (ys.length + 1) cap) ≠ some j) z l := by
  intro z l h
  have h1 : ExB w (fun j => (B ≤ j ∧ v.ownBlock ≠ some j) ∧ (B ≤ j ∧ Value.ownBlock (.slice (some ⟨g, 0, none⟩) (ys.length + 1) cap) ≠ some j)) z l := by
   refine h.imp fun j hj hlt => ⟨hj, hj.1, ?_⟩
   simp only [Value.ownBlock, ne_eq, Option.some.injEq]
   rcases hat with hat | hat
   · intro e; subst e; exact hj.2 hat
   · omega
  have h2 := h1.move (w' := w') fun j hj hlt => hg.block j hlt (fun e => hj.1.2 e.symm)
  exact h2.imp fun j hj _ => hj.2
 refine ⟨by simp; omega, us ++ [u], by simp [hus], ?_, ?_⟩
 · rw [exFlat_snoc ys us y u hus]
   simpa using hown
 · intro i hi
   by_cases hlt : i < ys.length
   · have e1 : (us ++ [u]).getD i (.slice none 0 0) = us.getD i (.slice none 0 0) := by
      simp only [List.getD_eq_getElem?_getD]; rw [List.getElem?_append_left (by omega)]
     have e2 : (ys ++ [y]).getD i exD = ys.getD i exD := by
      simp only [List.getD_eq_getElem?_getD]; rw [List.getElem?_append_left hlt]
     rw [e1, e2]
     exact hmv (hk i hlt)
   · have hi2 : i = ys.length := by simp at hi; omega
     subst hi2
     have e1 : (us ++ [u]).getD ys.length (.slice none 0 0) = u := by
      simp only [List.getD_eq_getElem?_getD]; rw [List.getElem?_append_right (by omega)]; simp [hus]
     have e2 : (ys ++ [y]).getD ys.length exD = y := by
      simp only [List.getD_eq_getElem?_getD]; rw [List.getElem?_append_right (by omega)]; simp
     rw [e1, e2]
     exact hmv hy
theorem CL.done {w : World} {B : Nat} {v : Value} {ys : List Ex} (h : CL w B v ys) : ExB w (fun j => B ≤ j) v ys := by
 obtain ⟨h0, us, h1, h2, h3⟩ := h
 obtain ⟨h4, ⟨hv, hn⟩ | ⟨g, cap, cur, hv, hg, hb, hcap, hcm, hcs, htk⟩⟩ := h2
 · obtain rfl := List.length_eq_zero_iff.1 hn
   subst hv
   exact .nil _ _
 · subst hv
   by_cases hp : 0 < ys.length
   · refine .row g 0 cap ys (fun i => us.getD i (.slice none 0 0)) hp (by omega) hcap hg (fun i hi => ?_) (fun i hi => (h3 i hi).imp fun j hj _ => hj.1)
     obtain ⟨g0, g1, g2, g3, g4⟩ := exFlat_get ys us h1 i hi
     have hcell : ∀ j u, (exFlat ys us)[j]? = some u → w.cell? ⟨g, 0 + j, none⟩ = some u := by
      intro j u hj
      have hb' : Blk w g cur 40 := hb
      rw [Nat.zero_add, hb'.cell j, ← Array.getElem?_toList, ← hj, ← htk]
      have hjl : j < ys.length * 5 := by
       have := (List.getElem?_eq_some_iff.1 hj).1
       rw [exFlat_len ys us h1] at this
       exact this
      rw [List.getElem?_take_of_lt hjl]
     refine ⟨hcell _ _ g0, ?_, ?_, ?_, ?_⟩
     · rw [Nat.add_assoc]; exact hcell _ _ g1
     · rw [Nat.add_assoc]; exact hcell _ _ g2
     · rw [Nat.add_assoc]; exact hcell _ _ g3
     · rw [Nat.add_assoc]; exact hcell _ _ g4
   · obtain rfl := List.length_eq_zero_iff.1 (show ys.length = 0 by omega)
     exact .nil _ _
/-- As Ext, but for one block. -/
structure ExtBut (b : Nat) (w w' : World) : Prop where
 os : w'.os = w.os
 tape : w'.tape = w.tape
 output : w'.output = w.output
 size : w.heap.size ≤ w'.heap.size
 block : ∀ k, k < w.heap.size → k ≠ b → w'.heap[k]? = w.heap[k]?
theorem ExtBut.refl (b : Nat) (w : World) : ExtBut b w w := ⟨rfl, rfl, rfl, Nat.le_refl _, fun _ _ _ => rfl⟩
theorem ExtBut.ext {b : Nat} {w w1 w2 : World} (h : ExtBut b w w1) (k : Ext w1 w2) : ExtBut b w w2 :=
 ⟨k.os.trans h.os, k.tape.trans h.tape, k.output.trans h.output, Nat.le_trans h.size k.size, fun j hj hne => by rw [k.block j (Nat.lt_of_lt_of_le hj h.size), h.block j hj hne]⟩
theorem ExtBut.grown {b : Nat} {w w1 w2 : World} {r : Option Nat} (h : ExtBut b w w1) (k : w1.grownBy w2 r) (hr : ∀ j, r = some j → w.heap.size ≤ j) : ExtBut b w w2 :=
 ⟨k.os.trans h.os, k.tape.trans h.tape, k.output.trans h.output, Nat.le_trans h.size k.size, fun j hj hne => by rw [k.block j (Nat.lt_of_lt_of_le hj h.size) (fun e => by have := hr j e.symm; omega), h.block j hj hne]⟩
theorem ExtBut.set {b : Nat} {w w1 : World} (h : ExtBut b w w1) (o : Nat) (v : Value) : ExtBut b w (w1.setCell ⟨b, o, none⟩ v) :=
 ⟨h.os, h.tape, h.output, by simpa using h.size, fun j hj hne => by rw [Below.heap_setCell _ _ _ _ hne, h.block j hj hne]⟩
theorem ExtBut.to {b : Nat} {w0 w w1 : World} (h : ExtBut b w w1) (k : Ext w0 w) (hb : w0.heap.size ≤ b) : Ext w0 w1 :=
 ⟨h.os.trans k.os, h.tape.trans k.tape, h.output.trans k.output, Nat.le_trans k.size h.size, fun j hj => by rw [h.block j (Nat.lt_of_lt_of_le hj k.size) (by omega), k.block j hj]⟩
theorem ExtBut.blk {b k : Nat} {w w1 : World} {cs : Array Value} {T : TypeId} (h : ExtBut b w w1) (hb : Blk w k cs T) (hne : k ≠ b) : Blk w1 k cs T := by
 have := hb.lt
 unfold Blk at *
 rw [h.block k this hne, hb]
theorem grown_undrew {w w' : World} {r : Option Nat} (h : w.drew.grownBy w' r) : w.grownBy w' r := ⟨h.os, h.tape, h.output, h.size, h.block⟩
theorem grown_undrew' {w w' : World} {r : Option Nat} {o : Obj} (h : ((w.alloc o).drew).grownBy w' r) : (w.alloc o).grownBy w' r := ⟨h.os, h.tape, h.output, h.size, h.block⟩
theorem infoExE : (Tryz.prog.info? 40).map (fun i => (i.zero, i.size, i.bytes)) = some (some (.agg #[.int .i64 0, .string ⟨#[]⟩, .string ⟨#[]⟩, .int .i64 0, .slice none 0 0]), 5, 72) := by kernel_rfl
theorem cell_five_new {W : World} {c0 c1 c2 c3 c4 : Value} {T : TypeId} {B : Nat} (h : Blk W B #[c0, c1, c2, c3, c4] T) : ∀ j u, [c0, c1, c2, c3, c4][j]? = some u → W.cell? ((⟨B, 0, none⟩ : Addr).add j) = some u := by
 intro j u hj
 have e : (⟨B, 0, none⟩ : Addr).add j = ⟨B, j, none⟩ := by
  simp [Addr.add]
  exact fun h => h.symm
 rw [e, h.cell j]
 simpa using hj
theorem five_one (a n : Value) (s t : ByteArray) (p : Option Addr) (m c : Nat) (ha : a.oneCell' = true) (hn : n.oneCell' = true) : ∀ u ∈ [a, Value.string s, .string t, n, .slice p m c], u.oneCell' = true := by
 intro u hu
 simp only [List.mem_cons, List.not_mem_nil, or_false] at hu
 rcases hu with rfl | rfl | rfl | rfl | rfl
 · exact ha
 · rfl
 · rfl
 · exact hn
 · rfl
/-- What a function that returns an expression of its own leaves. -/
def ExP (y : Ex) (w : World) (e : Ending) (w' : World) : Prop := ∃ p c, e = .returned (.agg #[.int .i64 y.op, .string y.name, .string y.text, .int .i64 y.n, .slice p y.args.length c]) ∧ ExB w' (fun j => w.heap.size ≤ j) (.slice p y.args.length c) y.args ∧ Ext w w'
/-- One append of a loop that makes a list of expressions. -/
theorem CL.step {B N k gg cap vc c : Nat} {ys : List Ex} {vp p : Option Addr} {us : List Value} {w1 w5 : World} {y : Ex} {C5 : Obj} (hl : ys.length = k) (hk : k < 1000000) (hus : us.length = ys.length)
 (hks : ∀ i, i < ys.length → ExB w1 (fun j => B ≤ j ∧ Value.ownBlock (.slice vp k vc) ≠ some j) (us.getD i (.slice none 0 0)) (ys.getD i exD).args) (hB1 : ExB w1 (fun j => N ≤ j) (.slice p y.args.length c) y.args) (hN : B ≤ N) (hrN : ∀ g, Value.ownBlock (.slice vp k vc) = some g → g < N)
 (hown : w5.ownsRow B 40 5 (.slice (some ⟨gg, 0, none⟩) (k + 1) cap) (k + 1) (exFlat ys us ++ [.int .i64 y.op, .string y.name, .string y.text, .int .i64 y.n, .slice p y.args.length c])) (hg : (w1.alloc C5).grownBy w5 (Value.ownBlock (.slice vp k vc))) (hat : Value.ownBlock (.slice vp k vc) = some gg ∨ gg = w1.heap.size + 1) : CL w5 B (.slice (some ⟨gg, 0, none⟩) (k + 1) cap) (ys ++ [y]) := by
 subst hl
 refine CL.push (w := w1.alloc C5) hk hus (fun i hi => (hks i hi).ext ((Ext.refl _).alloc _)) ((hB1.ext ((Ext.refl _).alloc _)).imp fun j hj _ => ⟨by omega, fun e => ?_⟩) hown hg (by simpa using hat)
 have := hrN j e
 omega
theorem partsL_ge (l : List Ex) : l.length ≤ (Ex.parts.partsL l).length := by
 induction l with
 | nil => simp
 | cons x r ih =>
  have : 1 ≤ x.parts.length := by cases x; rw [parts_mk]; simp
  simp only [Ex.parts.partsL, List.length_append, List.length_cons]
  omega
theorem blk_grownE {w w' : World} {r : Option Nat} {k : Nat} {cs : Array Value} {T : TypeId} (h : w.grownBy w' r) (hb : Blk w k cs T) (hne : ∀ j, r = some j → j ≠ k) : Blk w' k cs T := by
 have := hb.lt
 unfold Blk at *
 rw [h.block k this (fun e => hne k e.symm rfl), hb]
end Go.Proofs.YtangdoidkcelfaaGreatDoor
namespace Go.Proofs.YtangdoidkcelfaaGreatDoor
open Go.RowKit

set_option maxRecDepth 8000 in
set_option maxHeartbeats 4000000 in
theorem clone_any {w : World} {v : Value} {l0 : List Ex} (h : ExS w v l0) : ∀ x : Ex, x.args = l0 → ∀ w', Ext w w' → x.parts.length ≤ 1000000 → Calls Tryz.prog 35 #[exAgg x v] w' (ExP x w') := by
 refine ExS.ind (P := fun x v => ∀ w', Ext w w' → x.parts.length ≤ 1000000 → Calls Tryz.prog 35 #[exAgg x v] w' (ExP x w')) ?_ h
 clear h
 intro x v hS hK w' hE hpt
 obtain ⟨op, nm, tx, n, args⟩ := x
 obtain ⟨q, cp, rfl⟩ := hS.form
 rw [parts_mk, List.length_cons] at hpt
 have hlen : args.length < 1000000 := by have := partsL_ge args; omega
 replace hK := Lib.hid hK
 simp only [Ex.args] at hK hlen ⊢
 rw [exAgg_mk]
 clear hS
 obtain ⟨i0, hi, hz0, hz1, hz2⟩ := info_partsE infoExE
 replace hi := Lib.hid hi
 replace hz0 := Lib.hid hz0
 replace hz1 := Lib.hid hz1
 replace hz2 := Lib.hid hz2
 go_enter Tryz.func35, Tryz.ntmps35
 go_wp2_with fail
 have hb0 : Blk ((w'.alloc (.cells #[.int .i64 op, .string nm, .string tx, .int .i64 n, .slice none 0 0] 40)).alloc (.cells #[.int .i64 0, .string ⟨#[]⟩, .string ⟨#[]⟩, .int .i64 0, .slice none 0 0] 40)) w'.heap.size #[.int .i64 op, .string nm, .string tx, .int .i64 n, .slice none 0 0] 40 := (Blk.new _ _ _).alloc _
 have hr0 : Blk ((w'.alloc (.cells #[.int .i64 op, .string nm, .string tx, .int .i64 n, .slice none 0 0] 40)).alloc (.cells #[.int .i64 0, .string ⟨#[]⟩, .string ⟨#[]⟩, .int .i64 0, .slice none 0 0] 40)) (w'.heap.size + 1) #[.int .i64 0, .string ⟨#[]⟩, .string ⟨#[]⟩, .int .i64 0, .slice none 0 0] 40 := Blk.new' _ _ _ _ (by simp)
 have hE0 : Ext w' ((w'.alloc (.cells #[.int .i64 op, .string nm, .string tx, .int .i64 n, .slice none 0 0] 40)).alloc (.cells #[.int .i64 0, .string ⟨#[]⟩, .string ⟨#[]⟩, .int .i64 0, .slice none 0 0] 40)) := xt
 have hsz : ((w'.alloc (.cells #[.int .i64 op, .string nm, .string tx, .int .i64 n, .slice none 0 0] 40)).alloc (.cells #[.int .i64 0, .string ⟨#[]⟩, .string ⟨#[]⟩, .int .i64 0, .slice none 0 0] 40)).heap.size = w'.heap.size + 1 + 1 := by simp
 generalize ((w'.alloc (.cells #[.int .i64 op, .string nm, .string tx, .int .i64 n, .slice none 0 0] 40)).alloc (.cells #[.int .i64 0, .string ⟨#[]⟩, .string ⟨#[]⟩, .int .i64 0, .slice none 0 0] 40)) = w0 at *
 replace hsz := Lib.hid hsz
 replace hr0 := Lib.hid hr0
 replace hb0 := Lib.hid hb0
 go_loopw [11] (fun i wr => ∃ k : Nat, ∃ vv, k ≤ args.length ∧ i = .int .i64 k ∧ Blk wr w'.heap.size #[.int .i64 op, .string nm, .string tx, .int .i64 n, vv] 40 ∧ CL wr (w'.heap.size + 1 + 1) vv (args.take k) ∧ ExtBut w'.heap.size w0 wr) (fun i _ => args.length - (intOf i).toNat)
 case atStart => exact ⟨0, _, Nat.zero_le _, rfl, hb0.out, CL.nil _ _, ExtBut.refl _ _⟩
 case round =>
  obtain ⟨k, vv, hk, rfl, hbw, hcl, hEb⟩ := hrel
  have hEr : Ext w' wr := hEb.to hE0 (Nat.le_refl _)
  by_cases hlt : k < args.length
  · obtain ⟨bb, off, rfl, sv, hkid⟩ := hK.out _ _ rfl (by omega)
    obtain ⟨hc, hsu, hP⟩ := hkid k hlt
    have hform := hsu.form
    obtain ⟨c0, c1, c2, c3, c4⟩ := (hc.ext (hE.trans hEr)).five
    have hsn := Lib.hid (take_snocD args exD k hlt)
    have hpy := Lib.hid (show (args.getD k exD).parts.length ≤ 1000000 by have := partsL_len args k hlt; omega)
    have htl : (args.take k).length = k := by simp; omega
    replace hP := Lib.hid hP
    clear hc hkid hsu
    generalize args.getD k exD = y at *
    generalize sv k = u at *
    obtain ⟨uq, uc, rfl⟩ := hform
    obtain ⟨vp, vc, rfl⟩ := hcl.form
    rw [htl] at hcl hbw
    have b4 : wr.cell? ⟨w'.heap.size, 4, none⟩ = some (.slice vp k vc) := (hbw.cell 4).trans rfl
    have b4f : wr.frozen? ⟨w'.heap.size, 4, none⟩ = false := hbw.fz 4
    have hbl : w'.heap.size < wr.heap.size := hbw.lt
    replace htl := Lib.hid htl
    replace hcl := Lib.hid hcl
    replace hbw := Lib.hid hbw
    go_wp2_with fail
    have hbP := Blk.new wr #[.int .i64 y.op, .string y.name, .string y.text, .int .i64 y.n, .slice uq y.args.length uc] 40
    have hX9 : Ext wr (wr.alloc (.cells #[.int .i64 y.op, .string y.name, .string y.text, .int .i64 y.n, .slice uq y.args.length uc] 40)) := xt
    have hs9 : (wr.alloc (.cells #[.int .i64 y.op, .string y.name, .string y.text, .int .i64 y.n, .slice uq y.args.length uc] 40)).heap.size = wr.heap.size + 1 := by simp
    generalize wr.alloc (.cells #[.int .i64 y.op, .string y.name, .string y.text, .int .i64 y.n, .slice uq y.args.length uc] 40) = w9 at *
    have hE9 := Lib.hid (hEr.trans hX9)
    have hNB := Lib.hid (show w'.heap.size + 1 + 1 ≤ w9.heap.size by have h1 := hsz.out; have h2 := hEb.size; omega)
    have hrB : ∀ j, Value.ownBlock (.slice vp k vc) = some j → w'.heap.size + 1 + 1 ≤ j := fun j e => by obtain ⟨us, _, h⟩ := hcl.out.row; exact (h.lt j e).1
    have hrN : ∀ j, Value.ownBlock (.slice vp k vc) = some j → j < w9.heap.size := fun j e => by obtain ⟨us, _, h⟩ := hcl.out.row; have := (h.lt j e).2; omega
    have hrP : ∀ j, Value.ownBlock (.slice vp k vc) = some j → j < wr.heap.size := fun j e => by obtain ⟨us, _, h⟩ := hcl.out.row; exact (h.lt j e).2
    replace hrB := Lib.hid hrB
    replace hrN := Lib.hid hrN
    replace hrP := Lib.hid hrP
    replace hcl := Lib.hid (hcl.out.ext hX9)
    replace hbw := Lib.hid (hbw.out.ext hX9)
    replace b4 := hX9.get b4
    replace hbl : w'.heap.size < w9.heap.size := hbw.out.lt
    replace hEb := Lib.hid (hEb.ext hX9)
    have r0 : w9.cell? ⟨wr.heap.size, 0, none⟩ = some (.int .i64 y.op) := (hbP.cell 0).trans rfl
    have r1 : w9.cell? ⟨wr.heap.size, 1, none⟩ = some (.string y.name) := (hbP.cell 1).trans rfl
    have r2 : w9.cell? ⟨wr.heap.size, 2, none⟩ = some (.string y.text) := (hbP.cell 2).trans rfl
    have r3 : w9.cell? ⟨wr.heap.size, 3, none⟩ = some (.int .i64 y.n) := (hbP.cell 3).trans rfl
    have r4 : w9.cell? ⟨wr.heap.size, 4, none⟩ = some (.slice uq y.args.length uc) := (hbP.cell 4).trans rfl
    replace hbP := Lib.hid hbP
    replace hs9 := Lib.hid hs9
    clear hX9 c0 c1 c2 c3 c4
    clear b4f
    refine wp_region_late 3 (fun W => W.cell? ⟨wr.heap.size, 0, none⟩ = some (.int .i64 y.op) ∧ W.cell? ⟨wr.heap.size, 1, none⟩ = some (.string y.name) ∧ W.cell? ⟨wr.heap.size, 2, none⟩ = some (.string y.text) ∧ W.cell? ⟨wr.heap.size, 3, none⟩ = some (.int .i64 y.n) ∧ W.cell? ⟨wr.heap.size, 4, none⟩ = some (.slice uq y.args.length uc) ∧ W.cell? ⟨w'.heap.size, 4, none⟩ = some (.slice vp k vc)) (by kernel_rfl) (by kernel_rfl) ⟨r0, r1, r2, r3, r4, b4⟩ ?aF ?head ?tail
    case head =>
     simp only [List.take_succ_cons, List.take_zero]
     refine HeldHead.cons ?v0 (by rfl) ?hv0 ?rest0
     case hv0 =>
      intro W hW
      obtain ⟨h0, h1, h2, h3, h4, h5⟩ := hW
      go_simp
      try with_reducible rfl
     simp only [Act.put, List.setIfInBounds_toArray, List.set_cons_zero, List.set_cons_succ]
     refine HeldHead.cons ?v1 (by rfl) ?hv1 ?rest1
     case hv1 =>
      intro W hW
      obtain ⟨h0, h1, h2, h3, h4, h5⟩ := hW
      go_simp
      try with_reducible rfl
     simp only [Act.put, List.setIfInBounds_toArray, List.set_cons_zero, List.set_cons_succ]
     refine HeldHead.cons ?v2 (by rfl) ?hv2 ?rest2
     case hv2 =>
      intro W hW
      obtain ⟨h0, h1, h2, h3, h4, h5⟩ := hW
      go_simp
      try with_reducible rfl
     simp only [Act.put, List.setIfInBounds_toArray, List.set_cons_zero, List.set_cons_succ]
     exact HeldHead.nil
    simp only [List.drop_succ_cons, List.drop_zero]
    refine wpTail_cons ?_
    go_wp2_with fail
    refine (hP.out _ (Ext.drew (hE.trans hE9.out)) hpy.out).mono ?_
    rintro e w1 ⟨p1, q1, rfl, hB1, hE1⟩
    have hS : Ext w9 w1 := Ext.trans (Ext.refl _).drew hE1
    replace hbw := Lib.hid (hbw.out.ext hS)
    replace hbP := Lib.hid (hbP.out.ext hS)
    obtain ⟨-, us, hus, hrow, hks⟩ := hcl.out.ext hS
    rw [htl.out] at hrow
    have hsz1 := Lib.hid (show w'.heap.size + 1 + 1 ≤ w1.heap.size by have := hNB.out; have := hS.size; omega)
    replace hEb := Lib.hid (hEb.out.ext hS)
    replace hbl : w'.heap.size < w1.heap.size := hbw.out.lt
    have hb5 := Lib.hid (Blk.new w1 #[.int .i64 y.op, .string y.name, .string y.text, .int .i64 y.n, .slice p1 y.args.length q1] 40)
    replace hus := Lib.hid hus
    replace hks := Lib.hid hks
    replace hrow := Lib.hid hrow
    replace hB1 := Lib.hid hB1
    replace r0 := hS.get r0
    replace r1 := hS.get r1
    replace r2 := hS.get r2
    replace r3 := hS.get r3
    replace r4 := hS.get r4
    replace b4 := hS.get b4
    clear hE1 hS hcl
    go_wp2_with fail
    refine ThenS.mk ⟨r0, r1, r2, r3, r4, b4⟩ (wpTail_cons ?_)
    go_wp2_with fail
    refine ThenS.mk ⟨Ext.get xt r0, Ext.get xt r1, Ext.get xt r2, Ext.get xt r3, Ext.get xt r4, Ext.get xt b4⟩ (wpTail_cons ?_)
    go_wp2_with (at_builtin; refine wpList_append_lies _ rfl _ _ 38 rfl (w'.heap.size + 1 + 1) 40 i0 (.agg #[.int .i64 0, .string ⟨#[]⟩, .string ⟨#[]⟩, .int .i64 0, .slice none 0 0]) 5 72 Tryz.underlying38 hi.out hz0.out hz1.out hz2.out rfl (by decide) _ _ _ rfl (hrow.out.alloc _) ⟨w1.heap.size, 0, none⟩ 1 1 [.int .i64 y.op, .string y.name, .string y.text, .int .i64 y.n, .slice p1 y.args.length q1] rfl rfl ?_ ?_ (by decide) ?_ ?_ ?_ (w1.heap.size + 1) ?_ ?_)
    · exact cell_five_new hb5.out
    · exact five_one _ _ _ _ _ _ _ rfl rfl
    · unfold maxLen; omega
    · omega
    · have := hsz1.out; simp; omega
    · simp
    intro gg cap w5 hown5 hgrow5 hat5 hgl5
    have hbw5 := blk_grownE hgrow5 (hbw.out.alloc _) (fun j e => by have := hrB.out j e; omega)
    have hbP5 := blk_grownE hgrow5 (hbP.out.alloc _) (fun j e => by have := hrP.out j e; omega)
    replace b4 : w5.cell? ⟨w'.heap.size, 4, none⟩ = some (.slice vp k vc) := (hbw5.cell 4).trans rfl
    have b4f : w5.frozen? ⟨w'.heap.size, 4, none⟩ = false := hbw5.fz 4
    replace r0 : w5.cell? ⟨wr.heap.size, 0, none⟩ = some (.int .i64 y.op) := (hbP5.cell 0).trans rfl
    replace r1 : w5.cell? ⟨wr.heap.size, 1, none⟩ = some (.string y.name) := (hbP5.cell 1).trans rfl
    replace r2 : w5.cell? ⟨wr.heap.size, 2, none⟩ = some (.string y.text) := (hbP5.cell 2).trans rfl
    replace r3 : w5.cell? ⟨wr.heap.size, 3, none⟩ = some (.int .i64 y.n) := (hbP5.cell 3).trans rfl
    replace r4 : w5.cell? ⟨wr.heap.size, 4, none⟩ = some (.slice uq y.args.length uc) := (hbP5.cell 4).trans rfl
    have hC5 := Lib.hid (CL.step htl.out (by omega) hus.out hks.out hB1.out hNB.out hrN.out hown5 hgrow5 hat5)
    have hE5 := Lib.hid ((hEb.out.ext ((Ext.refl _).alloc _)).grown hgrow5 (fun j e => by have := hrB.out j e; have := hsz.out; omega))
    replace hbw5 := Lib.hid hbw5
    clear hown5 hgrow5 hat5 hgl5 hbP5
    try go_wp2_with fail
    refine ThenS.mk ⟨r0, r1, r2, r3, r4, b4⟩ (wpTail_cons ?_)
    go_wp2_with fail
    refine ThenS.mk ⟨r0, r1, r2, r3, r4, b4⟩ (wpTail_one ?_)
    go_wp2_with fail
    refine NoPanic.normal ?_
    go_wp2
    go_roundw
    case rel => exact ⟨k + 1, _, by omega, by go_num, hbw5.out.set 4 _, by rw [hsn.out]; exact hC5.out.set (by omega) _, hE5.out.set _ _⟩
    case measure => simp [intOf]; omega
  · have hkk : args.take k = args := List.take_of_length_le (by omega)
    rw [hkk] at hcl
    clear hkk
    obtain ⟨vp, vc, rfl⟩ := hcl.form
    have hbr := hEb.blk hr0.out (by omega)
    have y0 : wr.cell? ⟨w'.heap.size + 1, 0, none⟩ = some (.int .i64 0) := (hbr.cell 0).trans rfl
    have y1 : wr.cell? ⟨w'.heap.size + 1, 1, none⟩ = some (.string ⟨#[]⟩) := (hbr.cell 1).trans rfl
    have y2 : wr.cell? ⟨w'.heap.size + 1, 2, none⟩ = some (.string ⟨#[]⟩) := (hbr.cell 2).trans rfl
    have y3 : wr.cell? ⟨w'.heap.size + 1, 3, none⟩ = some (.int .i64 0) := (hbr.cell 3).trans rfl
    have y4 : wr.cell? ⟨w'.heap.size + 1, 4, none⟩ = some (.slice none 0 0) := (hbr.cell 4).trans rfl
    have f0 := hbr.fz 0
    have f1 := hbr.fz 1
    have f2 := hbr.fz 2
    have f3 := hbr.fz 3
    have f4 := hbr.fz 4
    have x0 : wr.cell? ⟨w'.heap.size, 0, none⟩ = some (.int .i64 op) := (hbw.cell 0).trans rfl
    have x1 : wr.cell? ⟨w'.heap.size, 1, none⟩ = some (.string nm) := (hbw.cell 1).trans rfl
    have x2 : wr.cell? ⟨w'.heap.size, 2, none⟩ = some (.string tx) := (hbw.cell 2).trans rfl
    have x3 : wr.cell? ⟨w'.heap.size, 3, none⟩ = some (.int .i64 n) := (hbw.cell 3).trans rfl
    have x4 : wr.cell? ⟨w'.heap.size, 4, none⟩ = some (.slice vp args.length vc) := (hbw.cell 4).trans rfl
    replace hcl := Lib.hid hcl
    clear hbr hbw hEb
    replace hE := hEr
    go_wp2
    refine bodyPost_ret (v := .agg #[.int .i64 op, .string nm, .string tx, .int .i64 n, .slice vp args.length vc]) (by simp [results, Tryz.results35, go_sem, y0, y1, y2, y3, y4]) rfl ⟨vp, vc, rfl, ?_, xt⟩
    refine ((((((hcl.out.set (b := w'.heap.size + 1) (by omega) _).set (b := w'.heap.size + 1) (by omega) _).set (b := w'.heap.size + 1) (by omega) _).set (b := w'.heap.size + 1) (by omega) _).set (b := w'.heap.size + 1) (by omega) _).done).imp fun j hj _ => by omega

end Go.Proofs.YtangdoidkcelfaaGreatDoor
namespace Go.Proofs.YtangdoidkcelfaaGreatDoor
open Go.RowKit
def leafN (n : Int) : Ex := .mk 1 emS emS n []
/-- A value as an expression. -/
def litE (v : Feat) : Ex := if v.kind = 1 then leafN v.n else if v.kind = 2 then .mk 2 emS v.text 0 [] else .mk 8 emS emS 0 [leafN 1, leafN (2 - v.n)]
def constB (x : Ex) : Bool := x.occ.isEmpty && decide ((evalV x [] nilS).2 = 0)
/-- What fold makes of an expression. -/
def Ex.foldV : Ex → Ex
 | .mk op nm tx n args => if constB (.mk op nm tx n args) then litE (evalV (.mk op nm tx n args) [] nilS).1 else .mk op nm tx n (foldL args)
where foldL : List Ex → List Ex
 | [] => []
 | x :: r => x.foldV :: foldL r
theorem foldL_map (l : List Ex) : Ex.foldV.foldL l = l.map Ex.foldV := by
 induction l with
 | nil => rfl
 | cons x r ih => simp only [Ex.foldV.foldL, ih, List.map_cons]
theorem foldV_mk (op : Int) (nm tx : ByteArray) (n : Int) (args : List Ex) : (Ex.mk op nm tx n args).foldV = if constB (.mk op nm tx n args) then litE (evalV (.mk op nm tx n args) [] nilS).1 else .mk op nm tx n (args.map Ex.foldV) := by
 rw [Ex.foldV, foldL_map]
/-- What Fold returns. -/
def foldTop (x : Ex) : Ex := if 8 < x.levels ∨ x.formed = false then x else x.foldV
theorem compact_pos (l : List (List UInt8)) (h : 0 < l.length) : 0 < (Lib.compact l).length := by
 unfold Lib.compact
 have : ∀ m, 0 < m → 0 < (Lib.compactUpTo l.toArray m).length := by
  intro m
  induction m with
  | zero => intro h; cases h
  | succ m ih =>
   intro _
   rw [Lib.compactUpTo_succ]
   by_cases hm : m = 0
   · subst hm
     rw [Lib.keeps_lt_one _ 0 (by omega)]
     simp
   · have := ih (by omega)
     rw [List.length_append]
     omega
 exact this _ h
theorem uniL_zero (l : List (List UInt8)) : (uniL l).length = 0 ↔ l = [] := by
 constructor
 · intro h
   by_cases h0 : l = []
   · exact h0
   · have h1 : 0 < l.length := List.length_pos_iff.2 h0
     have := compact_pos (sortL l) (by rw [sortL_len]; exact h1)
     unfold uniL at h
     omega
 · intro h; subst h; rw [uniL_nil]; rfl
theorem exb_one {w : World} {ok : Nat → Prop} {B c : Nat} {x : Ex} {u : Value} {T : TypeId} (h : Blk w B #[.int .i64 x.op, .string x.name, .string x.text, .int .i64 x.n, u] T) (hok : ok B) (h1 : ExB w ok u x.args) (hc : 1 ≤ c) : ExB w ok (.slice (some ⟨B, 0, none⟩) 1 c) [x] := by
 refine ExB.row B 0 c [x] (fun _ => u) (by simp) (by simp) (by simpa using hc) hok ?_ ?_
 · intro i hi
   obtain rfl : i = 0 := by simp at hi; omega
   exact ⟨(h.cell 0).trans rfl, (h.cell 1).trans rfl, (h.cell 2).trans rfl, (h.cell 3).trans rfl, (h.cell 4).trans rfl⟩
 · intro i hi
   obtain rfl : i = 0 := by simp at hi; omega
   exact h1
theorem exb_two {w : World} {ok : Nat → Prop} {B c : Nat} {x y : Ex} {u1 u2 : Value} {T : TypeId} (h : Blk w B #[.int .i64 x.op, .string x.name, .string x.text, .int .i64 x.n, u1, .int .i64 y.op, .string y.name, .string y.text, .int .i64 y.n, u2] T) (hok : ok B) (h1 : ExB w ok u1 x.args) (h2 : ExB w ok u2 y.args) (hc : 2 ≤ c) : ExB w ok (.slice (some ⟨B, 0, none⟩) 2 c) [x, y] := by
 refine ExB.row B 0 c [x, y] (fun i => if i = 0 then u1 else u2) (by simp) (by simp) (by simpa using hc) hok ?_ ?_
 · intro i hi
   have : i = 0 ∨ i = 1 := by simp at hi; omega
   rcases this with rfl | rfl
   · exact ⟨(h.cell 0).trans rfl, (h.cell 1).trans rfl, (h.cell 2).trans rfl, (h.cell 3).trans rfl, (h.cell 4).trans rfl⟩
   · exact ⟨(h.cell 5).trans rfl, (h.cell 6).trans rfl, (h.cell 7).trans rfl, (h.cell 8).trans rfl, (h.cell 9).trans rfl⟩
 · intro i hi
   have : i = 0 ∨ i = 1 := by simp at hi; omega
   rcases this with rfl | rfl
   · exact h1
   · exact h2
theorem exb_three {w : World} {ok : Nat → Prop} {B c : Nat} {x y z : Ex} {u1 u2 u3 : Value} {T : TypeId} (h : Blk w B #[.int .i64 x.op, .string x.name, .string x.text, .int .i64 x.n, u1, .int .i64 y.op, .string y.name, .string y.text, .int .i64 y.n, u2, .int .i64 z.op, .string z.name, .string z.text, .int .i64 z.n, u3] T) (hok : ok B) (h1 : ExB w ok u1 x.args) (h2 : ExB w ok u2 y.args) (h3 : ExB w ok u3 z.args) (hc : 3 ≤ c) : ExB w ok (.slice (some ⟨B, 0, none⟩) 3 c) [x, y, z] := by
 refine ExB.row B 0 c [x, y, z] (fun i => if i = 0 then u1 else if i = 1 then u2 else u3) (by simp) (by simp) (by simpa using hc) hok ?_ ?_
 · intro i hi
   have : i = 0 ∨ i = 1 ∨ i = 2 := by simp at hi; omega
   rcases this with rfl | rfl | rfl
   · exact ⟨(h.cell 0).trans rfl, (h.cell 1).trans rfl, (h.cell 2).trans rfl, (h.cell 3).trans rfl, (h.cell 4).trans rfl⟩
   · exact ⟨(h.cell 5).trans rfl, (h.cell 6).trans rfl, (h.cell 7).trans rfl, (h.cell 8).trans rfl, (h.cell 9).trans rfl⟩
   · exact ⟨(h.cell 10).trans rfl, (h.cell 11).trans rfl, (h.cell 12).trans rfl, (h.cell 13).trans rfl, (h.cell 14).trans rfl⟩
 · intro i hi
   have : i = 0 ∨ i = 1 ∨ i = 2 := by simp at hi; omega
   rcases this with rfl | rfl | rfl
   · exact h1
   · exact h2
   · exact h3
end Go.Proofs.YtangdoidkcelfaaGreatDoor
namespace Go.Proofs.YtangdoidkcelfaaGreatDoor
open Go.RowKit
theorem const_well {x : Ex} {f : Feat} (h : evalV x [] nilS = (f, 0)) : f.kind = 1 ∨ f.kind = 2 ∨ (f.kind = 3 ∧ (f.n = 0 ∨ f.n = 1)) := by
 unfold evalV at h
 by_cases hc : (checkV x []).2 ≠ 0
 · rw [if_pos hc] at h
   injection h with h1 h2
   exact absurd h2 hc
 · rw [if_neg hc] at h
   obtain ⟨h1, h2, h3, h4⟩ := checkV_ok (x := x) (l := []) (by omega)
   cases hv : x.ev [] nilS with
   | none => rw [hv] at h; injection h with h5 h6; cases h6
   | some g =>
    rw [hv] at h
    injection h with h5 h6
    subst h5
    have hw := ev_typed [] rfl nilS x h3 h4 g hv
    rcases hw with ⟨_, hk, hw⟩
    rw [hk]
    rcases hw with h | h | h
    · exact Or.inl h.1
    · exact Or.inr (Or.inl h.1)
    · exact Or.inr (Or.inr ⟨h.1, h.2.1⟩)
theorem map_take_snoc (args : List Ex) (k : Nat) (h : k < args.length) : (args.take (k + 1)).map Ex.foldV = (args.take k).map Ex.foldV ++ [(args.getD k exD).foldV] := by
 rw [take_snocD args exD k h]; simp

end Go.Proofs.YtangdoidkcelfaaGreatDoor
namespace Go.Proofs.YtangdoidkcelfaaGreatDoor
open Go.RowKit
theorem ExB.set {w : World} {ok : Nat → Prop} {v u : Value} {l : List Ex} {b o : Nat} (h : ExB w ok v l) (hb : ∀ j, ok j → j ≠ b) : ExB (w.setCell ⟨b, o, none⟩ u) ok v l := h.move fun j hj _ => Below.heap_setCell _ _ _ _ (hb j hj)
end Go.Proofs.YtangdoidkcelfaaGreatDoor
