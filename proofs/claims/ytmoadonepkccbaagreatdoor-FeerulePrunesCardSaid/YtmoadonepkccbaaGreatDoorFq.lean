/- What Prune returns, and that the pruned table gives the same lines (plain facts). -/
import Derived.Test.YtmoadonepkccbaaGreatDoorFz
import Derived.Test.YtmoadonepkccbaaGreatDoorEk
namespace Go.Proofs.YtmoadonepkccbaaGreatDoor
open Go.RowKit
theorem same_eq : ∀ x y : Ex, x.same y = true → x = y
  | .mk o1 n1 t1 k1 a1, .mk o2 n2 t2 k2 a2, h => by
    rw [Ex.same] at h
    simp only [Bool.and_eq_true, decide_eq_true_eq] at h
    obtain ⟨⟨⟨⟨rfl, rfl⟩, rfl⟩, rfl⟩, h⟩ := h
    rw [sameL_iff] at h
    obtain ⟨hl, hg⟩ := h
    have hA : a1 = a2 := by
      refine List.ext_getElem hl fun i h1 h2 => ?_
      have e := hg i h1
      rw [List.getD_eq_getElem?_getD, List.getElem?_eq_getElem h1, Option.getD_some, List.getD_eq_getElem?_getD, List.getElem?_eq_getElem h2, Option.getD_some] at e
      have hm : a1[i] ∈ a1 := List.getElem_mem h1
      exact same_eq a1[i] a2[i] e
    rw [hA]
termination_by x => SizeOf.sizeOf x
decreasing_by
  have := List.sizeOf_lt_of_mem hm
  simp only [Ex.mk.sizeOf_spec]
  omega
theorem eqE_lit (b : Bool) : litE (truthF b) = eqE (if b then 1 else 2) := by cases b <;> rfl
theorem eval_eqE (b : Bool) (fs : List Feat) (S : Bool → ByteArray → Int → Int) : evalV (eqE (if b then 1 else 2)) fs S = if namesE [] fs ≠ 0 then (fD, namesE [] fs) else (truthF b, 0) := by
  have hL := litOk (wellF_truth b) (by simp)
  have h2 := hL.lv2
  have h3 := hL.formed
  have h4 := hL.ty fs
  have h5 := hL.ev fs S
  rw [eqE_lit] at h2 h3 h4 h5
  rw [evalV_ok h3 (by omega), h4, h5]
  by_cases hn : namesE [] fs ≠ 0
  · simp only [if_pos hn]
  · simp only [if_neg hn]
    rfl
theorem fold_holds {r : RuleD} {b : Bool} (h : (foldTop r.when).same (eqE (if b then 1 else 2)) = true) (fs : List Feat) : holdsB fs r = (decide (namesE [] fs = 0) && b) := by
  have e := same_eq _ _ h
  have hv := (foldTop_ok r.when).2.1 fs (fun _ _ _ => 0)
  rw [e, eval_eqE] at hv
  unfold holdsB
  rw [← hv]
  by_cases hn : namesE [] fs = 0
  · rw [if_neg (by simpa using hn)]
    cases b <;> simp [truthF, hn]
  · rw [if_pos hn]
    simp [hn]
theorem alw_holds {r : RuleD} (h : alwB r = true) (fs : List Feat) : holdsB fs r = decide (namesE [] fs = 0) := by
  have := fold_holds (b := true) h fs
  rw [this, Bool.and_true]
theorem nev_holds {r : RuleD} (h : nevB r = true) (fs : List Feat) : holdsB fs r = false := by
  have := fold_holds (b := false) h fs
  rw [this, Bool.and_false]
theorem nev_alw {r : RuleD} (h : nevB r = true) : alwB r = false := by
  cases h1 : alwB r with
  | false => rfl
  | true =>
    have e1 := same_eq _ _ h1
    have e2 := same_eq _ _ h
    rw [e1] at e2
    simp [eqE, leafN] at e2
theorem bad_holds {fs : List Feat} (hn : namesE [] fs ≠ 0) (r : RuleD) : holdsB fs r = false := by
  unfold holdsB evalV checkV
  rw [if_pos hn]
  simp [hn]
/-- The rules that can be reached. -/
def pruneV : List RuleD → List RuleD
  | [] => []
  | r :: l => if nevB r then pruneV l else if alwB r then [r] else r :: pruneV l
theorem prune_len : ∀ l : List RuleD, (pruneV l).length ≤ l.length
  | [] => by simp [pruneV]
  | r :: l => by
    have ih := prune_len l
    rw [pruneV]
    split
    · simp only [List.length_cons]; omega
    · split
      · simp
      · simp only [List.length_cons]; omega
theorem prune_mem : ∀ (l : List RuleD) (r : RuleD), r ∈ pruneV l → r ∈ l
  | [], r, h => by simp [pruneV] at h
  | a :: l, r, h => by
    rw [pruneV] at h
    split at h
    · exact List.mem_cons_of_mem _ (prune_mem l r h)
    · split at h
      · obtain rfl := List.mem_singleton.1 h; exact List.mem_cons_self
      · rcases List.mem_cons.1 h with rfl | h
        · exact List.mem_cons_self
        · exact List.mem_cons_of_mem _ (prune_mem l r h)
/-- The first rule for which p holds. -/
theorem idx_find (p : RuleD → Bool) : ∀ (l : List RuleD) (k : Nat), (idxF p k l).map (fun i => l.getD (i - k) rD) = l.find? p
  | [], k => by simp [idxF]
  | r :: l, k => by
    rw [idxF, List.find?_cons]
    by_cases hp : p r = true
    · rw [if_pos hp, hp]; simp
    · have hp' : p r = false := by simpa using hp
      rw [if_neg hp, hp', ← idx_find p l (k + 1)]
      cases hx : idxF p (k + 1) l with
      | none => rfl
      | some i =>
        obtain ⟨h1, -⟩ := idx_some p l (k + 1) i hx
        have e : i - k = (i - (k + 1)) + 1 := by omega
        simp only [Option.map_some]
        rw [e, List.getD_cons_succ]
theorem idx_find0 (p : RuleD → Bool) (l : List RuleD) : (idxF p 0 l).map (fun i => l.getD i rD) = l.find? p := by
  rw [← idx_find p l 0]; rfl
theorem prune_find (fs : List Feat) : ∀ l : List RuleD, (pruneV l).find? (holdsB fs) = l.find? (holdsB fs)
  | [] => rfl
  | r :: l => by
    rw [pruneV]
    by_cases hn : nevB r = true
    · rw [if_pos hn, prune_find fs l, List.find?_cons, nev_holds hn]
    · rw [if_neg hn]
      by_cases ha : alwB r = true
      · rw [if_pos ha]
        simp only [List.find?_cons, alw_holds ha]
        by_cases hz : namesE [] fs = 0
        · simp [hz]
        · have : l.find? (holdsB fs) = none := by
            rw [List.find?_eq_none]; intro x _; rw [bad_holds hz]; simp
          rw [this]; simp [hz]
      · rw [if_neg ha]
        simp only [List.find?_cons, prune_find fs l]
theorem apply_find (l : List RuleD) (fs : List Feat) (n : Int) : applyV l fs n = match l.find? (holdsB fs) with
    | none => (lineD, 6)
    | some r => if (feeV r n).2 ≠ 0 then (lineD, (feeV r n).2) else (⟨r.name, (feeV r n).1, whyV fs (uniL r.when.occ)⟩, 0) := by
  unfold applyV
  rw [← idx_find0]
  cases idxF (holdsB fs) 0 l <;> rfl
theorem prune_apply (l : List RuleD) (fs : List Feat) (n : Int) : applyV (pruneV l) fs n = applyV l fs n := by
  rw [apply_find, apply_find, prune_find]
theorem tot_any (l : List RuleD) : totB l = l.any alwB := by
  unfold totB
  have h := idx_find0 alwB l
  cases hx : idxF alwB 0 l with
  | none =>
    rw [hx] at h
    have h2 := List.find?_eq_none.1 h.symm
    simp only [Option.isSome_none]
    symm
    rw [List.any_eq_false]
    exact h2
  | some i =>
    rw [hx] at h
    have h2 := List.find?_some h.symm
    have h3 := List.mem_of_find?_eq_some h.symm
    simp only [Option.isSome_some]
    symm
    rw [List.any_eq_true]
    exact ⟨_, h3, h2⟩
theorem prune_any : ∀ l : List RuleD, (pruneV l).any alwB = l.any alwB
  | [] => rfl
  | r :: l => by
    rw [pruneV]
    by_cases hn : nevB r = true
    · rw [if_pos hn, prune_any l, List.any_cons, nev_alw hn, Bool.false_or]
    · rw [if_neg hn]
      by_cases ha : alwB r = true
      · rw [if_pos ha]
        simp [List.any_cons, ha]
      · rw [if_neg ha]
        simp only [List.any_cons, prune_any l]
theorem prune_tot (l : List RuleD) : totB (pruneV l) = totB l := by rw [tot_any, tot_any, prune_any]
theorem prune_ok {l : List RuleD} {fs : List Feat} (h : TabOk l fs) : TabOk (pruneV l) fs := by
  have hx : ∀ i, i < (pruneV l).length → ∃ j, j < l.length ∧ (pruneV l).getD i rD = l.getD j rD := by
    intro i hi
    have hm := prune_mem l ((pruneV l)[i]) (List.getElem_mem hi)
    obtain ⟨j, hj, e⟩ := List.getElem_of_mem hm
    refine ⟨j, hj, ?_⟩
    rw [List.getD_eq_getElem?_getD, List.getElem?_eq_getElem hi, List.getD_eq_getElem?_getD, List.getElem?_eq_getElem hj]
    simp only [Option.getD_some]
    exact e.symm
  refine ⟨fun i hi => ?_, fun i hi => ?_⟩
  · obtain ⟨j, hj, e⟩ := hx i hi; rw [e]; exact h.parts j hj
  · obtain ⟨j, hj, e⟩ := hx i hi; rw [e]; exact h.why j hj
/-- The rules kept of the first k ones, where no one of these always holds. -/
theorem prune_step (l : List RuleD) (k : Nat) (h : k < l.length) : pruneV (l.drop k) = if nevB (l.getD k rD) then pruneV (l.drop (k + 1)) else if alwB (l.getD k rD) then [l.getD k rD] else l.getD k rD :: pruneV (l.drop (k + 1)) := by
  rw [List.drop_eq_getElem_cons h, pruneV]
  simp [List.getD_eq_getElem?_getD, h]
end Go.Proofs.YtmoadonepkccbaaGreatDoor
