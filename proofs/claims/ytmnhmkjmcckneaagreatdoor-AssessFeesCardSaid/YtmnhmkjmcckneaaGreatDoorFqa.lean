/- A rule that always holds (cut out of XFq). -/
import Derived.Test.YtmnhmkjmcckneaaGreatDoorFz
import Derived.Test.YtmnhmkjmcckneaaGreatDoorFx
import Derived.Test.YtmnhmkjmcckneaaGreatDoorEk
namespace Go.Proofs.YtmnhmkjmcckneaaGreatDoor
open Go.RowKit
theorem same_eq : ∀ x y : Ex, x.same y = true → x = y
 | .mk o1 n1 t1 k1 a1, .mk o2 n2 t2 k2 a2, h => by
  rw [Ex.same] at h
  simp only [Bool.and_eq_true, decide_eq_true_eq] at h
  obtain ⟨⟨⟨⟨rfl, rfl⟩, rfl⟩, rfl⟩, h⟩ := h
  rw [sameL_iff] at h
  obtain ⟨hl, hg⟩ := h
  have hA : a1 = a2 := by
   refine List.ext_getElem hl fun i h1 h2 => ?_
   have e := hg i h1
   rw [List.getD_eq_getElem?_getD, List.getElem?_eq_getElem h1, Option.getD_some, List.getD_eq_getElem?_getD, List.getElem?_eq_getElem h2, Option.getD_some] at e
   have hm : a1[i] ∈ a1 := List.getElem_mem h1
   exact same_eq a1[i] a2[i] e
  rw [hA]
termination_by x => SizeOf.sizeOf x
decreasing_by
 have := List.sizeOf_lt_of_mem hm
 simp only [Ex.mk.sizeOf_spec]
 omega
theorem eqE_lit (b : Bool) : litE (truthF b) = eqE (if b then 1 else 2) := by cases b <;> rfl
theorem eval_eqE (b : Bool) (fs : List Feat) (S : Bool → ByteArray → Int → Int) : evalV (eqE (if b then 1 else 2)) fs S = if namesE [] fs ≠ 0 then (fD, namesE [] fs) else (truthF b, 0) := by
 have hL := litOk (wellF_truth b) (by simp)
 have h2 := hL.lv2
 have h3 := hL.formed
 have h4 := hL.ty fs
 have h5 := hL.ev fs S
 rw [eqE_lit] at h2 h3 h4 h5
 rw [evalV_ok h3 (by omega), h4, h5]
 by_cases hn : namesE [] fs ≠ 0
 · simp only [if_pos hn]
 · simp only [if_neg hn]
   rfl
theorem fold_holds {r : RuleD} {b : Bool} (h : (foldTop r.when).same (eqE (if b then 1 else 2)) = true) (fs : List Feat) : holdsB fs r = (decide (namesE [] fs = 0) && b) := by
 have e := same_eq _ _ h
 have hv := (foldTop_ok r.when).2.1 fs (fun _ _ _ => 0)
 rw [e, eval_eqE] at hv
 unfold holdsB
 rw [← hv]
 by_cases hn : namesE [] fs = 0
 · rw [if_neg (by simpa using hn)]
   cases b <;> simp [truthF, hn]
 · rw [if_pos hn]
   simp [hn]
theorem alw_holds {r : RuleD} (h : alwB r = true) (fs : List Feat) : holdsB fs r = decide (namesE [] fs = 0) := by
 have := fold_holds (b := true) h fs
 rw [this, Bool.and_true]
end Go.Proofs.YtmnhmkjmcckneaaGreatDoor
