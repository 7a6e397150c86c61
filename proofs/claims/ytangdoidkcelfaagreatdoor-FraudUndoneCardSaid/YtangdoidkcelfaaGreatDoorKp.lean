/- Fraud's rules, verdicts and engines as data, where they lie, and what the package computes, in plain words (printed by gen/h31.py). -/
import Derived.Test.YtangdoidkcelfaaGreatDoorKa
import Derived.Test.YtangdoidkcelfaaGreatDoorKc
import Derived.Test.YtangdoidkcelfaaGreatDoorKe
import Derived.Test.YtangdoidkcelfaaGreatDoorKm
import Derived.Test.YtangdoidkcelfaaGreatDoorEi
import Derived.Test.YtangdoidkcelfaaGreatDoorHeld
namespace Go.Proofs.YtangdoidkcelfaaGreatDoor
open Go.RowKit Go.Sort
theorem ExB.chg {F ok : Nat → Prop} {w w' : World} {v : Value} {l : List Ex} (h : ExB w ok v l) (k : Chg F w w') (hF : ∀ j, ok j → ¬ F j) : ExB w' ok v l :=
 h.move fun j hj hl => k.block j hl (hF j hj)
structure FrR where
 name : ByteArray
 when : Ex
 act : Int
 score : Int
def frD : FrR := ⟨⟨#[]⟩, exD, 0, 0⟩
def frAgg (r : FrR) (u : Value) : Value := .agg #[.string r.name, .int .i64 r.when.op, .string r.when.name, .string r.when.text, .int .i64 r.when.n, u, .int .i64 r.act, .int .i64 r.score]
def FrCells (w : World) (b o : Nat) (r : FrR) (u : Value) : Prop :=
 w.cell? ⟨b, o, none⟩ = some (.string r.name) ∧ w.cell? ⟨b, o + 1, none⟩ = some (.int .i64 r.when.op) ∧ w.cell? ⟨b, o + 1 + 1, none⟩ = some (.string r.when.name) ∧ w.cell? ⟨b, o + 1 + 1 + 1, none⟩ = some (.string r.when.text) ∧ w.cell? ⟨b, o + 1 + 1 + 1 + 1, none⟩ = some (.int .i64 r.when.n) ∧ w.cell? ⟨b, o + 1 + 1 + 1 + 1 + 1, none⟩ = some u ∧ w.cell? ⟨b, o + 1 + 1 + 1 + 1 + 1 + 1, none⟩ = some (.int .i64 r.act) ∧ w.cell? ⟨b, o + 1 + 1 + 1 + 1 + 1 + 1 + 1, none⟩ = some (.int .i64 r.score)
theorem FrCells.ext {w w' : World} {b o : Nat} {r : FrR} {u : Value} (h : FrCells w b o r u) (k : Ext w w') : FrCells w' b o r u := by
 obtain ⟨h0, h1, h2, h3, h4, h5, h6, h7⟩ := h
 exact ⟨k.get h0, k.get h1, k.get h2, k.get h3, k.get h4, k.get h5, k.get h6, k.get h7⟩
/-- The slice v reads as the rules. -/
def FrsM (w : World) (v : Value) (l : List FrR) : Prop :=
 l.length ≤ 140737488355328 ∧ ((∃ p c, v = .slice p 0 c ∧ l = []) ∨ ∃ b off c, ∃ sv : Nat → Value, v = .slice (some ⟨b, off, none⟩) l.length c ∧ l.length ≤ c ∧ ∀ i, i < l.length → FrCells w b (off + i * 8) (l.getD i frD) (sv i) ∧ ExS w (sv i) (l.getD i frD).when.args)
theorem FrsM.ext {w w' : World} {v : Value} {l : List FrR} (h : FrsM w v l) (k : Ext w w') : FrsM w' v l := by
 refine ⟨h.1, ?_⟩
 rcases h.2 with h | ⟨b, off, c, sv, hv, hk, hc⟩
 · exact Or.inl h
 · exact Or.inr ⟨b, off, c, sv, hv, hk, fun i hi => ⟨(hc i hi).1.ext k, (hc i hi).2.ext k⟩⟩
theorem FrsM.form {w : World} {v : Value} {l : List FrR} (h : FrsM w v l) : ∃ p c, v = .slice p l.length c := by
 rcases h.2 with ⟨p, c, hv, hl⟩ | ⟨b, off, c, sv, hv, -, -⟩
 · exact ⟨p, c, by rw [hv, hl]; rfl⟩
 · exact ⟨_, _, hv⟩
theorem FrsM.cap {w : World} {p : Option Addr} {c : Nat} {l : List FrR} (h : FrsM w (.slice p l.length c) l) : l.length ≤ c := by
 rcases h.2 with ⟨p', c', hv, hl⟩ | ⟨b, off, c', sv, hv, hk, -⟩
 · rw [hl]; exact Nat.zero_le _
 · injection hv with h1 h2 h3
   omega
theorem FrsM.at {w : World} {p : Option Addr} {c : Nat} {l : List FrR} (h : FrsM w (.slice p l.length c) l) (h0 : 0 < l.length) : ∃ b off, p = some ⟨b, off, none⟩ ∧ ∃ sv : Nat → Value, ∀ i, i < l.length → FrCells w b (off + i * 8) (l.getD i frD) (sv i) ∧ ExS w (sv i) (l.getD i frD).when.args := by
 rcases h.2 with ⟨p', c', hv, hl⟩ | ⟨b, off, c', sv, hv, -, hc⟩
 · rw [hl] at h0; cases h0
 · injection hv with h1 h2 h3
   exact ⟨b, off, h1, sv, hc⟩
def frCells (r : FrR) (u : Value) : List Value := [.string r.name, .int .i64 r.when.op, .string r.when.name, .string r.when.text, .int .i64 r.when.n, u, .int .i64 r.act, .int .i64 r.score]
/-- The cells of a list of rules whose lists of arguments are us. -/
def frFlat : List FrR → List Value → List Value
 | y :: ys, u :: us => frCells y u ++ frFlat ys us
 | _, _ => []
theorem frFlat_snoc : ∀ (ys : List FrR) (us : List Value) (y : FrR) (u : Value), us.length = ys.length → frFlat (ys ++ [y]) (us ++ [u]) = frFlat ys us ++ frCells y u
 | [], [], _, _, _ => by simp [frFlat]
 | _ :: ys, _ :: us, y, u, h => by
  simp only [List.cons_append, frFlat, frFlat_snoc ys us y u (by simpa using h), List.append_assoc]
 | [], _ :: _, _, _, h => by simp at h
 | _ :: _, [], _, _, h => by simp at h
theorem frFlat_len : ∀ (ys : List FrR) (us : List Value), us.length = ys.length → (frFlat ys us).length = ys.length * 8
 | [], [], _ => rfl
 | _ :: ys, _ :: us, h => by
  simp only [frFlat, List.length_append, frFlat_len ys us (by simpa using h), List.length_cons, frCells, List.length_nil]
  omega
 | [], _ :: _, h => by simp at h
 | _ :: _, [], h => by simp at h
theorem frFlat_get : ∀ (ys : List FrR) (us : List Value), us.length = ys.length → ∀ i, i < ys.length → ∀ c, c < 8 → (frFlat ys us)[i * 8 + c]? = (frCells (ys.getD i frD) (us.getD i (.slice none 0 0)))[c]?
 | [], _, _, i, hi, _, _ => by simp at hi
 | y :: ys, [], h, _, _, _, _ => by simp at h
 | y :: ys, u :: us, h, 0, _, c, hc => by
  simp only [frFlat]
  rw [List.getElem?_append_left (by simp only [frCells, List.length_cons, List.length_nil]; omega)]
  simp
 | y :: ys, u :: us, h, i + 1, hi, c, hc => by
  have ih := frFlat_get ys us (by simpa using h) i (by simpa using hi) c hc
  simp only [frFlat, List.getD_cons_succ]
  rw [← ih, List.getElem?_append_right (by simp only [frCells, List.length_cons, List.length_nil]; omega)]
  congr 1
  simp only [frCells, List.length_cons, List.length_nil]
  omega
/-- v is a slice that a call made, from block B on, and reads as the rules ys. -/
def FL (w : World) (B : Nat) (v : Value) (ys : List FrR) : Prop :=
 ys.length ≤ 1000000 ∧ ∃ us : List Value, us.length = ys.length ∧ w.ownsRow B 46 8 v ys.length (frFlat ys us) ∧ ∀ i, i < ys.length → ExB w (fun j => B ≤ j ∧ v.ownBlock ≠ some j) (us.getD i (.slice none 0 0)) (ys.getD i frD).when.args
theorem FL.nil (w : World) (B : Nat) : FL w B (.slice none 0 0) [] := ⟨by simp, [], rfl, ⟨rfl, Or.inl ⟨rfl, rfl⟩⟩, fun i hi => by cases hi⟩
theorem FL.form {w : World} {B : Nat} {v : Value} {ys : List FrR} (h : FL w B v ys) : ∃ p c, v = .slice p ys.length c := by
 obtain ⟨_, us, _, h, _⟩ := h
 obtain ⟨_, ⟨h, h0⟩ | ⟨g, cap, cur, hv, _⟩⟩ := h
 · exact ⟨none, 0, by rw [h0]; exact h⟩
 · exact ⟨_, _, hv⟩
theorem FL.ext {w w' : World} {B : Nat} {v : Value} {ys : List FrR} (h : FL w B v ys) (k : Ext w w') : FL w' B v ys := by
 obtain ⟨h0, us, h1, h2, h3⟩ := h
 exact ⟨h0, us, h1, ownsRow_extE h2 k, fun i hi => (h3 i hi).ext k⟩
/-- What an append of one rule leaves. -/
theorem FL.push {w w' : World} {B g cap : Nat} {v u : Value} {ys : List FrR} {us : List Value} {y : FrR} (hl : ys.length < 1000000) (hus : us.length = ys.length) (hk : ∀ i, i < ys.length → ExB w (fun j => B ≤ j ∧ v.ownBlock ≠ some j) (us.getD i (.slice none 0 0)) (ys.getD i frD).when.args)
 (hy : ExB w (fun j => B ≤ j ∧ v.ownBlock ≠ some j) u y.when.args)
 (hown : w'.ownsRow B 46 8 (.slice (some ⟨g, 0, none⟩) (ys.length + 1) cap) (ys.length + 1) (frFlat ys us ++ frCells y u)) (hg : w.grownBy w' v.ownBlock) (hat : v.ownBlock = some g ∨ g = w.heap.size) : FL w' B (.slice (some ⟨g, 0, none⟩) (ys.length + 1) cap) (ys ++ [y]) := by
 have hmv : ∀ {z : Value} {l : List Ex}, ExB w (fun j => B ≤ j ∧ v.ownBlock ≠ some j) z l → ExB w' (fun j => B ≤ j ∧ Value.ownBlock (.slice (some ⟨g, 0, none⟩) (ys.length + 1) cap) ≠ some j) z l := by
  intro z l h
  have h1 : ExB w (fun j => (B ≤ j ∧ v.ownBlock ≠ some j) ∧ (B ≤ j ∧ Value.ownBlock (.slice (some ⟨g, 0, none⟩) (ys.length + 1) cap) ≠ some j)) z l := by
   refine h.imp fun j hj hlt => ⟨hj, hj.1, ?_⟩
   simp only [Value.ownBlock, ne_eq, Option.some.injEq]
   rcases hat with hat | hat
   · intro e; subst e; exact hj.2 hat
   · omega
  have h2 := h1.move (w' := w') fun j hj hlt => hg.block j hlt (fun e => hj.1.2 e.symm)
  exact h2.imp fun j hj _ => hj.2
 refine ⟨by simp; omega, us ++ [u], by simp [hus], ?_, ?_⟩
 · rw [frFlat_snoc ys us y u hus]
   simpa using hown
 · intro i hi
   by_cases hlt : i < ys.length
   · have e1 : (us ++ [u]).getD i (.slice none 0 0) = us.getD i (.slice none 0 0) := by
      simp only [List.getD_eq_getElem?_getD]; rw [List.getElem?_append_left (by omega)]
     have e2 : (ys ++ [y]).getD i frD = ys.getD i frD := by
      simp only [List.getD_eq_getElem?_getD]; rw [List.getElem?_append_left hlt]
     rw [e1, e2]
     exact hmv (hk i hlt)
   · have hi2 : i = ys.length := by simp at hi; omega
     subst hi2
     have e1 : (us ++ [u]).getD ys.length (.slice none 0 0) = u := by
      simp only [List.getD_eq_getElem?_getD]; rw [List.getElem?_append_right (by omega)]; simp [hus]
     have e2 : (ys ++ [y]).getD ys.length frD = y := by
      simp only [List.getD_eq_getElem?_getD]; rw [List.getElem?_append_right (by omega)]; simp
     rw [e1, e2]
     exact hmv hy
theorem FL.done {w : World} {B : Nat} {v : Value} {ys : List FrR} (h : FL w B v ys) : FrsM w v ys := by
 obtain ⟨h0, us, h1, h2, h3⟩ := h
 obtain ⟨h4, ⟨hv, hn⟩ | ⟨g, cap, cur, hv, hg, hb, hcap, hcm, hcs, htk⟩⟩ := h2
 · obtain rfl := List.length_eq_zero_iff.1 hn
   exact ⟨by simp, Or.inl ⟨none, 0, hv, rfl⟩⟩
 · subst hv
   refine ⟨by omega, Or.inr ⟨g, 0, cap, fun i => us.getD i (.slice none 0 0), rfl, hcap, fun i hi => ⟨?_, (h3 i hi).toS⟩⟩⟩
   have hcell : ∀ c u, c < 8 → (frCells (ys.getD i frD) (us.getD i (.slice none 0 0)))[c]? = some u → w.cell? ⟨g, 0 + i * 8 + c, none⟩ = some u := by
    intro c u hc hj
    have hb' : Blk w g cur 46 := hb
    rw [Nat.zero_add, hb'.cell, ← Array.getElem?_toList, ← hj, ← frFlat_get ys us h1 i hi c hc, ← htk]
    rw [List.getElem?_take_of_lt (by omega)]
   exact ⟨hcell 0 _ (by omega) rfl, hcell 1 _ (by omega) rfl, hcell 2 _ (by omega) rfl, hcell 3 _ (by omega) rfl, hcell 4 _ (by omega) rfl, hcell 5 _ (by omega) rfl, hcell 6 _ (by omega) rfl, hcell 7 _ (by omega) rfl⟩
theorem fr_one (r : FrR) (p : Option Addr) (m c : Nat) : ∀ u ∈ frCells r (.slice p m c), u.oneCell' = true := by
 intro u hu
 simp only [frCells, List.mem_cons, List.not_mem_nil, or_false] at hu
 rcases hu with rfl | rfl | rfl | rfl | rfl | rfl | rfl | rfl <;> rfl
theorem cell_eight_new {W : World} {c0 c1 c2 c3 c4 c5 c6 c7 : Value} {T : TypeId} {B : Nat} (h : Blk W B #[c0, c1, c2, c3, c4, c5, c6, c7] T) : ∀ j u, [c0, c1, c2, c3, c4, c5, c6, c7][j]? = some u → W.cell? ((⟨B, 0, none⟩ : Addr).add j) = some u := by
 intro j u hj
 have e : (⟨B, 0, none⟩ : Addr).add j = ⟨B, j, none⟩ := by
  simp [Addr.add]
  exact fun h => h.symm
 rw [e, h.cell j]
 simpa using hj
/-- The slice v reads as the rules; they lie, whole, in blocks that are ok. -/
def FrsB (w : World) (ok : Nat → Prop) (v : Value) (l : List FrR) : Prop :=
 l.length ≤ 1000000 ∧ ((∃ p c, v = .slice p 0 c ∧ l = []) ∨ ∃ b c, ∃ sv : Nat → Value, v = .slice (some ⟨b, 0, none⟩) l.length c ∧ l.length ≤ c ∧ ok b ∧ b < w.heap.size ∧ ∀ i, i < l.length → FrCells w b (0 + i * 8) (l.getD i frD) (sv i) ∧ ExB w ok (sv i) (l.getD i frD).when.args)
theorem FrsB.toM {w : World} {ok : Nat → Prop} {v : Value} {l : List FrR} (h : FrsB w ok v l) : FrsM w v l := by
 refine ⟨by have := h.1; omega, ?_⟩
 rcases h.2 with h | ⟨b, c, sv, hv, hk, -, -, hc⟩
 · exact Or.inl h
 · exact Or.inr ⟨b, 0, c, sv, hv, hk, fun i hi => ⟨(hc i hi).1, (hc i hi).2.toS⟩⟩
theorem FrCells.cells {w w' : World} {b o : Nat} {r : FrR} {u : Value} (h : FrCells w b o r u) (k : w'.heap[b]? = w.heap[b]?) : FrCells w' b o r u := by
 obtain ⟨h0, h1, h2, h3, h4, h5, h6, h7⟩ := h
 have e : ∀ i, w'.cell? ⟨b, i, none⟩ = w.cell? ⟨b, i, none⟩ := fun i => World.cell?_of_block k
 exact ⟨(e _).trans h0, (e _).trans h1, (e _).trans h2, (e _).trans h3, (e _).trans h4, (e _).trans h5, (e _).trans h6, (e _).trans h7⟩
theorem FrsB.move {w w' : World} {ok : Nat → Prop} {v : Value} {l : List FrR} (h : FrsB w ok v l) (hs : w.heap.size ≤ w'.heap.size) (hm : ∀ j, ok j → j < w.heap.size → w'.heap[j]? = w.heap[j]?) : FrsB w' ok v l := by
 refine ⟨h.1, ?_⟩
 rcases h.2 with h | ⟨b, c, sv, hv, hk, hok, hb, hc⟩
 · exact Or.inl h
 · exact Or.inr ⟨b, c, sv, hv, hk, hok, by omega, fun i hi => ⟨(hc i hi).1.cells (hm b hok hb), (hc i hi).2.move hm⟩⟩
theorem FrsB.ext {w w' : World} {ok : Nat → Prop} {v : Value} {l : List FrR} (h : FrsB w ok v l) (k : Ext w w') : FrsB w' ok v l := h.move k.size fun j _ hj => k.block j hj
theorem FrsB.chg {F ok : Nat → Prop} {w w' : World} {v : Value} {l : List FrR} (h : FrsB w ok v l) (k : Chg F w w') (hF : ∀ j, ok j → ¬ F j) : FrsB w' ok v l := h.move k.size fun j hj hl => k.block j hl (hF j hj)
theorem FrsB.imp {w : World} {ok ok' : Nat → Prop} (hi : ∀ j, ok j → j < w.heap.size → ok' j) {v : Value} {l : List FrR} (h : FrsB w ok v l) : FrsB w ok' v l := by
 refine ⟨h.1, ?_⟩
 rcases h.2 with h | ⟨b, c, sv, hv, hk, hok, hb, hc⟩
 · exact Or.inl h
 · exact Or.inr ⟨b, c, sv, hv, hk, hi b hok hb, hb, fun i hi' => ⟨(hc i hi').1, (hc i hi').2.imp hi⟩⟩
theorem FL.doneB {w : World} {B : Nat} {v : Value} {ys : List FrR} (h : FL w B v ys) : FrsB w (fun j => B ≤ j) v ys := by
 obtain ⟨h0, us, h1, h2, h3⟩ := h
 have h2' := h2
 obtain ⟨h4, ⟨hv, hn⟩ | ⟨g, cap, cur, hv, hg, hb, hcap, hcm, hcs, htk⟩⟩ := h2
 · obtain rfl := List.length_eq_zero_iff.1 hn
   exact ⟨by simp, Or.inl ⟨none, 0, hv, rfl⟩⟩
 · have hM := FL.done (w := w) (B := B) (v := v) (ys := ys) ⟨h0, us, h1, h2', h3⟩
   subst hv
   have hlt : g < w.heap.size := (Array.getElem?_eq_some_iff.1 hb).1
   refine ⟨h0, Or.inr ⟨g, cap, fun i => us.getD i (.slice none 0 0), rfl, hcap, hg, hlt, fun i hi => ⟨?_, (h3 i hi).imp fun j hj _ => hj.1⟩⟩⟩
   have hcell : ∀ c u, c < 8 → (frCells (ys.getD i frD) (us.getD i (.slice none 0 0)))[c]? = some u → w.cell? ⟨g, 0 + i * 8 + c, none⟩ = some u := by
    intro c u hc hj
    have hb' : Blk w g cur 46 := hb
    rw [Nat.zero_add, hb'.cell, ← Array.getElem?_toList, ← hj, ← frFlat_get ys us h1 i hi c hc, ← htk]
    rw [List.getElem?_take_of_lt (by omega)]
   exact ⟨hcell 0 _ (by omega) rfl, hcell 1 _ (by omega) rfl, hcell 2 _ (by omega) rfl, hcell 3 _ (by omega) rfl, hcell 4 _ (by omega) rfl, hcell 5 _ (by omega) rfl, hcell 6 _ (by omega) rfl, hcell 7 _ (by omega) rfl⟩
/-- The slice v reads as the names; they lie in a block that is ok. -/
def StrsB (w : World) (ok : Nat → Prop) (v : Value) (l : List (List UInt8)) : Prop :=
 ∃ p c, v = .slice p l.length c ∧ l.length ≤ 1000000 ∧ (0 < l.length → ∃ b, p = some ⟨b, 0, none⟩ ∧ ok b ∧ b < w.heap.size ∧ ∀ i, i < l.length → w.cell? ⟨b, i, none⟩ = some (encStr (l.getD i [])))
theorem StrsB.toM {w : World} {ok : Nat → Prop} {v : Value} {l : List (List UInt8)} (h : StrsB w ok v l) : StrsM w v l := by
 obtain ⟨p, c, h1, h2, h3⟩ := h
 refine ⟨p, c, h1, h2, fun h0 => ?_⟩
 obtain ⟨b, h4, -, -, h5⟩ := h3 h0
 exact ⟨b, 0, h4, fun i hi => by rw [Nat.zero_add]; exact h5 i hi⟩
theorem StrsB.move {w w' : World} {ok : Nat → Prop} {v : Value} {l : List (List UInt8)} (h : StrsB w ok v l) (hs : w.heap.size ≤ w'.heap.size) (hm : ∀ j, ok j → j < w.heap.size → w'.heap[j]? = w.heap[j]?) : StrsB w' ok v l := by
 obtain ⟨p, c, h1, h2, h3⟩ := h
 refine ⟨p, c, h1, h2, fun h0 => ?_⟩
 obtain ⟨b, h4, hok, hb, h5⟩ := h3 h0
 exact ⟨b, h4, hok, by omega, fun i hi => (World.cell?_of_block (hm b hok hb)).trans (h5 i hi)⟩
theorem StrsB.ext {w w' : World} {ok : Nat → Prop} {v : Value} {l : List (List UInt8)} (h : StrsB w ok v l) (k : Ext w w') : StrsB w' ok v l := h.move k.size fun j _ hj => k.block j hj
theorem StrsB.chg {F ok : Nat → Prop} {w w' : World} {v : Value} {l : List (List UInt8)} (h : StrsB w ok v l) (k : Chg F w w') (hF : ∀ j, ok j → ¬ F j) : StrsB w' ok v l := h.move k.size fun j hj hl => k.block j hl (hF j hj)
theorem StrsB.imp {w : World} {ok ok' : Nat → Prop} (hi : ∀ j, ok j → j < w.heap.size → ok' j) {v : Value} {l : List (List UInt8)} (h : StrsB w ok v l) : StrsB w ok' v l := by
 obtain ⟨p, c, h1, h2, h3⟩ := h
 refine ⟨p, c, h1, h2, fun h0 => ?_⟩
 obtain ⟨b, h4, hok, hb, h5⟩ := h3 h0
 exact ⟨b, h4, hi b hok hb, hb, h5⟩
/-- The blocks of an engine that can be changed. -/
def EngF (w : World) (X V : Nat) (k : Nat) : Prop := (k = X ∨ V ≤ k) ∧ ∃ cs T z, w.heap[k]? = some (.cells cs T z) ∧ (T = 91 ∨ T = 123 ∨ T = 182 ∨ T = 135)
theorem EngF.trans {a b c : World} {X V : Nat} (h : Chg (EngF a X V) a b) (k : Chg (EngF b X V) b c) : Chg (EngF a X V) a c := by
 refine ⟨k.os.trans h.os, k.tape.trans h.tape, k.output.trans h.output, Nat.le_trans h.size k.size, fun i hi hf => ?_⟩
 have e := h.block i hi hf
 rw [k.block i (Nat.lt_of_lt_of_le hi h.size) (fun hF => hf ?_), e]
 obtain ⟨h1, cs, T, z, h2, h3⟩ := hF
 exact ⟨h1, cs, T, z, by rw [← e]; exact h2, h3⟩
/-- A block of another type is kept. -/
theorem Blk.engF {w w' : World} {X V B : Nat} {cs : Array Value} {T : TypeId} (h : Blk w B cs T) (k : Chg (EngF w X V) w w') (h1 : T ≠ 91) (h2 : T ≠ 123) (h3 : T ≠ 182) (h4 : T ≠ 135) : Blk w' B cs T := by
 refine h.chg k fun hF => ?_
 obtain ⟨-, cs', T', z, e, ht⟩ := hF
 unfold Blk at h
 rw [h] at e
 injection e with e
 injection e with _ e
 subst e
 rcases ht with ht | ht | ht | ht
 · exact h1 ht
 · exact h2 ht
 · exact h3 ht
 · exact h4 ht
structure EngD where
 vel : VelD
 hor : Int
 last : Int
 uses : List UseV
 rules : List FrR
 names : List (List UInt8)
 refer : Int
 decline : Int
/-- Block X holds an engine that reads as d; V: the block of its counts. -/
structure EngM (w : World) (X V : Nat) (uv vv rv tv : Value) (d : EngD) : Prop where
 lt : X < V
 x : Blk w X #[.pointer (some ⟨V, 0, none⟩), .int .i64 d.hor, .int .i64 d.last, uv, rv, tv, .int .i64 d.refer, .int .i64 d.decline] 91
 v : VelM w V V vv d.vel
 u : UsesR 135 w V uv d.uses
 r : FrsB w (fun j => X < j ∧ j < V) rv d.rules
 t : StrsB w (fun j => X < j ∧ j < V) tv d.names
theorem EngM.ext {w w' : World} {X V : Nat} {uv vv rv tv : Value} {d : EngD} (h : EngM w X V uv vv rv tv d) (k : Ext w w') : EngM w' X V uv vv rv tv d := ⟨h.lt, h.x.ext k, h.v.ext k, h.u.ext k, h.r.ext k, h.t.ext k⟩
/-- The error of the names and numbers of rules. -/
def frN (before : List ByteArray) : List FrR → Int
 | [] => 0
 | r :: l => if nameB r.name = false then 5 else if before.any (fun m => decide (m = r.name)) then 7 else if r.act < 0 ∨ 2 < r.act ∨ r.score < 0 ∨ 1000 < r.score then 4 else frN (before ++ [r.name]) l
/-- The error of the conditions. -/
def frT (fs : List Feat) : List FrR → Int
 | [] => 0
 | r :: l => if (checkV r.when fs).2 ≠ 0 then (checkV r.when fs).2 else if (checkV r.when fs).1 ≠ 3 then 28 else frT fs l
def carN : ByteArray := ⟨#[99, 97, 114, 100]⟩
def merN : ByteArray := ⟨#[109, 101, 114, 99, 104, 97, 110, 116]⟩
def acqN : ByteArray := ⟨#[97, 99, 113, 117, 105, 114, 101, 114]⟩
def curN : ByteArray := ⟨#[99, 117, 114, 114, 101, 110, 99, 121]⟩
def terN : ByteArray := ⟨#[116, 101, 114, 109, 105, 110, 97, 108]⟩
def amoN : ByteArray := ⟨#[97, 109, 111, 117, 110, 116]⟩
def catN : ByteArray := ⟨#[99, 97, 116, 101, 103, 111, 114, 121]⟩
def senN : ByteArray := ⟨#[115, 101, 110, 116]⟩
def tokN : ByteArray := ⟨#[116, 111, 107, 101, 110]⟩
/-- The features of a message. -/
def msgF (es : List El) : List Feat := [⟨carN, 2, 0, getS 2 es⟩, ⟨merN, 2, 0, getS 42 es⟩, ⟨acqN, 2, 0, getS 32 es⟩, ⟨curN, 2, 0, getS 49 es⟩, ⟨terN, 2, 0, getS 41 es⟩, ⟨amoN, 1, numV 4 es, ⟨#[]⟩⟩, ⟨catN, 1, numV 18 es, ⟨#[]⟩⟩, ⟨senN, 1, numV 7 es, ⟨#[]⟩⟩, ⟨tokN, 3, if getB 52 es then 1 else 0, ⟨#[]⟩⟩]
/-- The error of New. -/
def frE (l : List FrR) (refer decline : Int) : Int := if 64 < l.length then 3 else if frN [] l ≠ 0 then frN [] l else if refer < 1 ∨ decline < refer ∨ 1000000 < decline then 4 else frT (msgF []) l
/-- The names that are tracked, and the horizon. -/
def trackV (l : List FrR) : List (List UInt8) := uniL (l.flatMap fun r => uniL r.when.wins)
def horV (l : List FrR) : Int := l.foldl (fun h r => max h r.when.long) 1
def newV (l : List FrR) (refer decline : Int) : EngD := ⟨⟨horV l, 0, []⟩, horV l, 0, [], l, trackV l, refer, decline⟩
/-- The key of a name. -/
def keyS (l : List Feat) (nm : ByteArray) : ByteArray := match findN l nm with | some f => nm ++ ⟨#[61]⟩ ++ f.text | none => ⟨#[]⟩
def keyB (l : List Feat) (nm : ByteArray) : Bool := match findN l nm with | some f => decide (f.kind = 2) | none => false
def keysV (names : List (List UInt8)) (l : List Feat) : List ByteArray := (names.filter fun nm => keyB l ⟨nm.toArray⟩).map fun nm => keyS l ⟨nm.toArray⟩
/-- What the source of Judge says. -/
def srcS (d : VelD) (names : List (List UInt8)) (l : List Feat) (now : Int) (c : Bool) (nm : ByteArray) (win : Int) : Int :=
 if nm.data.toList ∈ names ∧ keyB l nm = true then (if c then velCount d (keyS l nm) now win else velSum d (keyS l nm) now win) else 0
def holdB (fs : List Feat) (S : Bool → ByteArray → Int → Int) (r : FrR) : Bool := decide ((evalV r.when fs S).2 = 0) && decide ((evalV r.when fs S).1.kind = 3) && decide ((evalV r.when fs S).1.n = 1)
structure VerD where
 act : Int
 score : Int
 fired : List ByteArray
def stepV (fs : List Feat) (S : Bool → ByteArray → Int → Int) (v : VerD) (r : FrR) : VerD := if holdB fs S r then ⟨max v.act r.act, v.score + r.score, v.fired ++ [r.name]⟩ else v
def endV (refer decline : Int) (v : VerD) : VerD := ⟨if decline ≤ v.score then 2 else if refer ≤ v.score then max v.act 1 else v.act, v.score, v.fired⟩
def judgeV (d : EngD) (now : Int) (l : List Feat) : VerD := endV d.refer d.decline (d.rules.foldl (stepV l (srcS d.vel d.names l now)) ⟨0, 0, []⟩)
/-- add. -/
def addV (d : EngD) (now : Int) (keys : List ByteArray) (amt : Int) : EngD × Int :=
 if timeB now = false ∨ now < d.last then (d, 14)
 else if amt < 0 ∨ 999999999999 < amt then (d, 4)
 else if keys.any (fun k => decide (40 < k.size)) then (d, 5)
 else if 1000 < keys.length + (d.uses.filter fun u => decide (now - d.hor < u.t)).length then (d, 12)
 else if keys = [] then (⟨d.vel, d.hor, now, d.uses, d.rules, d.names, d.refer, d.decline⟩, 0)
 else (⟨keys.foldl (fun v k => (velAdd v ⟨k, now, amt⟩).1) d.vel, d.hor, now, (d.uses.filter fun u => decide (now - d.hor < u.t)) ++ keys.map (fun k => ⟨k, now, amt⟩), d.rules, d.names, d.refer, d.decline⟩, 0)
end Go.Proofs.YtangdoidkcelfaaGreatDoor
