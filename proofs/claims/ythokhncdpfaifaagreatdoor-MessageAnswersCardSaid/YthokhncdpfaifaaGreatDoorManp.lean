/- Plain facts on replies: what Get finds in a reply and behind With; the reply's numbers ascend. -/
import Derived.Test.YthokhncdpfaifaaGreatDoorMsgw
namespace Go.Proofs.YthokhncdpfaifaaGreatDoor
open Go.RowKit
theorem getE_nil (n : Int) : getE n [] = none := rfl
theorem getE_cons (n : Int) (x : El) (l : List El) : getE n (x :: l) = if x.1 = n then some x.2 else getE n l := by
  unfold getE
  rw [firstP]
  by_cases h : x.1 = n
  · rw [if_pos (by simpa using h), if_pos h]; rfl
  · rw [if_neg (by simpa using h), if_neg h]
    cases firstP (fun m => m == n) l with
    | none => rfl
    | some k => rfl
theorem getE_append (n : Int) (a b : List El) : getE n (a ++ b) = (getE n a).or (getE n b) := by
  induction a with
  | nil => simp [getE_nil]
  | cons x l ih =>
    rw [List.cons_append, getE_cons, getE_cons, ih]
    split
    · rfl
    · rfl
theorem getE_eq (n : Int) (es : List El) : getE n es = if getB n es then some (getS n es) else none := by
  unfold getB getS
  cases getE n es <;> rfl
theorem getE_one (es : List El) (code : ByteArray) (m n : Int) : getE n (repOne es code m) = if m = n then (if n = 39 then some code else getE n es) else none := by
  unfold repOne
  by_cases h39 : m = 39
  · subst h39
    rw [if_pos rfl, getE_cons, getE_nil]
    by_cases h : (39 : Int) = n
    · subst h; simp
    · rw [if_neg h, if_neg h]
  · rw [if_neg h39]
    by_cases h : m = n
    · subst h
      rw [if_pos rfl, if_neg h39, getE_eq m es]
      split
      · rw [getE_cons, if_pos rfl]
      · rfl
    · rw [if_neg h]
      split
      · rw [getE_cons, if_neg h, getE_nil]
      · rfl
theorem getE_flat (es : List El) (code : ByteArray) (n : Int) : ∀ ns : List Int, getE n (ns.flatMap (repOne es code)) = if n ∈ ns then (if n = 39 then some code else getE n es) else none
  | [] => by simp [getE_nil]
  | m :: ns => by
    rw [List.flatMap_cons, getE_append, getE_one, getE_flat es code n ns]
    by_cases h : m = n
    · subst h
      simp only [if_true, List.mem_cons, true_or]
      generalize (if m = 39 then some code else getE m es) = o
      cases o with
      | none => split <;> rfl
      | some v => rfl
    · rw [if_neg h]
      have h' : ¬ n = m := fun e => h e.symm
      simp [h']
theorem getE_rep (es : List El) (code : ByteArray) (n : Int) : getE n (repK es code 13) = if n ∈ repN then (if n = 39 then some code else getE n es) else none := getE_flat es code n repN
theorem rep_agr (es : List El) (code : ByteArray) (n : Int) (h : n ∈ repN) (h39 : n ≠ 39) : agrB es (repK es code 13) n = true := by
  have e := getE_rep es code n
  rw [if_pos h, if_neg h39] at e
  unfold agrB getB getS
  rw [e]
  cases getE n es <;> simp
theorem rep_ans (ty : Int) (es : List El) (code : ByteArray) (ha : asksB ty = true) : ansB ty (ty + 10) es (repK es code 13) = true := by
  unfold ansB
  rw [ha, rep_agr es code 11 (by decide) (by decide), rep_agr es code 37 (by decide) (by decide), rep_agr es code 56 (by decide) (by decide)]
  simp
theorem rep_not (ty : Int) (es rs : List El) (ha : asksB ty = true) : ansB (ty + 10) ty rs es = false := by
  have h : asksB (ty + 10) = false := by
    unfold asksB at ha ⊢
    rw [decide_eq_true_iff] at ha
    rw [decide_eq_false_iff_not]
    omega
  unfold ansB
  rw [h]; rfl
theorem nums_flat (es : List El) (code : ByteArray) : ∀ ns : List Int, List.Sublist (numsL (ns.flatMap (repOne es code))) ns
  | [] => List.Sublist.slnil
  | m :: ns => by
    have ih := nums_flat es code ns
    unfold numsL at ih ⊢
    rw [List.flatMap_cons, List.map_append]
    have h1 : List.Sublist ((repOne es code m).map fun x => x.1) [m] := by
      unfold repOne
      split
      · rename_i h; subst h; exact List.Sublist.refl _
      · split
        · exact List.Sublist.refl _
        · exact List.nil_sublist _
    exact h1.append ih
theorem rep_asc (es : List El) (code : ByteArray) : (numsL (repK es code 13)).Pairwise (· < ·) :=
  List.Pairwise.sublist (nums_flat es code repN) (by decide)
theorem rep_asc_at (es : List El) (code : ByteArray) (j : Nat) (hj : j + 1 < (repK es code 13).length) : ((repK es code 13).getD j elD).1 < ((repK es code 13).getD (j + 1) elD).1 := by
  have h := rep_asc es code
  generalize repK es code 13 = l at *
  unfold numsL at h
  rw [List.pairwise_map, List.pairwise_iff_getElem] at h
  have := h j (j + 1) (by omega) hj (by omega)
  simpa [List.getElem?_eq_getElem hj, List.getElem?_eq_getElem (show j < l.length by omega)] using this
theorem getE_no (n : Int) : ∀ l : List El, (∀ x ∈ l, x.1 ≠ n) → getE n l = none
  | [], _ => rfl
  | x :: l, h => by rw [getE_cons, if_neg (h x (by simp)), getE_no n l (fun y hy => h y (by simp [hy]))]
theorem with_get (n : Int) (val : ByteArray) (es : List El) : getE n (withL n val es) = some val := by
  unfold withL insL
  rw [getE_append, getE_no n _ (fun x hx => ?_), getE_cons, if_pos rfl]
  · rfl
  · have h1 := (List.takeWhile_sublist _).subset hx
    unfold keepL at h1
    have := (List.mem_filter.1 h1).2
    simpa using this
end Go.Proofs.YthokhncdpfaifaaGreatDoor
