/- Plain facts: the reference's With is the program's, where the numbers ascend. -/
import Derived.Test.YthokhncdpfaifaaGreatDoorMsgw
namespace Go.Proofs.YthokhncdpfaifaaGreatDoor
open Go.RowKit
theorem elems_cells {w : World} {p : Option Addr} {c : Nat} {es : List El} (h : Elems w (.slice p es.length c) es) : 0 < es.length → ∃ b off, p = some ⟨b, off, none⟩ ∧ ∀ i, i < es.length → w.cell? ⟨b, off + i * 2, none⟩ = some (.int .i64 (es.getD i elD).1) ∧ w.cell? ⟨b, off + i * 2 + 1, none⟩ = some (.string (es.getD i elD).2) := by
  obtain ⟨p', c', hv, hp⟩ := h
  cases hv
  exact hp
/-- One round of the reference's With. -/
def rwStep (n : Int) (val : ByteArray) (st : List El × Bool) (x : El) : List El × Bool :=
  ((st.1 ++ if st.2 = false ∧ n ≤ x.1 then [(n, val)] else []) ++ if x.1 = n then [] else [x], st.2 || decide (n ≤ x.1))
def rwSt (n : Int) (val : ByteArray) (es : List El) : List El × Bool := es.foldl (rwStep n val) ([], false)
def rwEnd (n : Int) (val : ByteArray) (st : List El × Bool) : List El := if st.2 then st.1 else st.1 ++ [(n, val)]
def rwL (n : Int) (val : ByteArray) (es : List El) : List El := rwEnd n val (rwSt n val es)
theorem rwSt_snoc (n : Int) (val : ByteArray) (es : List El) (k : Nat) (hk : k < es.length) : rwSt n val (es.take (k + 1)) = rwStep n val (rwSt n val (es.take k)) (es.getD k elD) := by
  unfold rwSt
  rw [List.take_succ_eq_append_getElem hk, List.foldl_append]
  simp only [List.getD_eq_getElem?_getD, List.getElem?_eq_getElem hk, Option.getD_some, List.foldl_cons, List.foldl_nil]
theorem rwStep_len (n : Int) (val : ByteArray) (st : List El × Bool) (x : El) : (rwStep n val st x).1.length ≤ st.1.length + 2 := by
  unfold rwStep
  simp only [List.length_append]
  split <;> split <;> simp
theorem rwSt_len (n : Int) (val : ByteArray) (es : List El) (k : Nat) (hk : k ≤ es.length) : (rwSt n val (es.take k)).1.length ≤ 2 * k := by
  induction k with
  | zero => simp [rwSt]
  | succ k ih =>
    rw [rwSt_snoc n val es k (by omega)]
    have := rwStep_len n val (rwSt n val (es.take k)) (es.getD k elD)
    have := ih (by omega)
    omega
/-- The same by recursion. -/
def rwR (n : Int) (val : ByteArray) : Bool → List El → List El
  | d, [] => if d then [] else [(n, val)]
  | d, x :: l => (if d = false ∧ n ≤ x.1 then [(n, val)] else []) ++ ((if x.1 = n then [] else [x]) ++ rwR n val (d || decide (n ≤ x.1)) l)
theorem rwR_eq (n : Int) (val : ByteArray) : ∀ (l : List El) (st : List El × Bool), rwEnd n val (l.foldl (rwStep n val) st) = st.1 ++ rwR n val st.2 l
  | [], st => by
    obtain ⟨acc, d⟩ := st
    cases d <;> simp [rwEnd, rwR]
  | x :: l, st => by
    rw [List.foldl_cons, rwR_eq n val l (rwStep n val st x), rwR]
    unfold rwStep
    simp only [List.append_assoc]
theorem rwR_true (n : Int) (val : ByteArray) : ∀ l : List El, rwR n val true l = keepL (fun m => m != n) l
  | [] => rfl
  | x :: l => by
    rw [rwR, Bool.true_or, rwR_true n val l]
    unfold keepL
    rw [List.filter_cons]
    by_cases h : x.1 = n
    · simp [h]
    · simp [h]
theorem rwR_asc (n : Int) (val : ByteArray) : ∀ l : List El, (numsL l).Pairwise (· < ·) → rwR n val false l = withL n val l
  | [], _ => rfl
  | x :: l, h => by
    have h' : (∀ y ∈ l, x.1 < y.1) ∧ (numsL l).Pairwise (· < ·) := by
      unfold numsL at h ⊢
      rw [List.map_cons, List.pairwise_cons] at h
      exact ⟨fun y hy => h.1 y.1 (List.mem_map_of_mem hy), h.2⟩
    have ih := rwR_asc n val l h'.2
    rw [rwR]
    unfold withL insL keepL at ih ⊢
    dsimp only at ih ⊢
    by_cases h1 : x.1 = n
    · have hk : l.filter (fun y => y.1 != n) = l := by
        rw [List.filter_eq_self]
        intro y hy
        have := h'.1 y hy
        simp; omega
      have ht : l.takeWhile (fun y => !decide (n < y.1)) = [] := by
        cases l with
        | nil => rfl
        | cons y l2 =>
          have h3 := h'.1 y (by simp)
          rw [h1] at h3
          rw [List.takeWhile_cons_of_neg (by simpa using h3)]
      have hd : l.dropWhile (fun y => !decide (n < y.1)) = l := by
        cases l with
        | nil => rfl
        | cons y l2 =>
          have h3 := h'.1 y (by simp)
          rw [h1] at h3
          rw [List.dropWhile_cons_of_neg (by simpa using h3)]
      have e1 : rwR n val true l = l := by rw [rwR_true]; exact hk
      have ef : (x :: l).filter (fun y => y.1 != n) = l := by rw [List.filter_cons, if_neg (by simp [h1]), hk]
      rw [ef, if_pos (show false = false ∧ n ≤ x.1 from ⟨rfl, by omega⟩), if_pos h1, Bool.false_or, decide_eq_true (show n ≤ x.1 by omega), e1, ht, hd]
      rfl
    · by_cases h2 : n < x.1
      · have e1 : rwR n val true l = l.filter (fun y => y.1 != n) := rwR_true n val l
        have ef : (x :: l).filter (fun y => y.1 != n) = x :: l.filter (fun y => y.1 != n) := by rw [List.filter_cons, if_pos (by simpa using h1)]
        rw [ef, if_pos (show false = false ∧ n ≤ x.1 from ⟨rfl, by omega⟩), if_neg h1, Bool.false_or, decide_eq_true (show n ≤ x.1 by omega), e1, List.takeWhile_cons_of_neg (by simpa using h2), List.dropWhile_cons_of_neg (by simpa using h2)]
        rfl
      · have ef : (x :: l).filter (fun y => y.1 != n) = x :: l.filter (fun y => y.1 != n) := by rw [List.filter_cons, if_pos (by simpa using h1)]
        have h3 : x.1 ≤ n := by omega
        rw [ef, if_neg (show ¬ (false = false ∧ n ≤ x.1) by omega), if_neg h1, Bool.false_or, decide_eq_false (show ¬ n ≤ x.1 by omega), ih, List.takeWhile_cons_of_pos (by simpa using h3), List.dropWhile_cons_of_pos (by simpa using h3)]
        rfl
theorem rwL_asc (n : Int) (val : ByteArray) (l : List El) (h : (numsL l).Pairwise (· < ·)) : rwL n val l = withL n val l := by
  unfold rwL rwSt
  rw [rwR_eq, rwR_asc n val l h]
  rfl
theorem withL_len (n : Int) (val : ByteArray) (es : List El) : (withL n val es).length ≤ es.length + 1 := by
  have h := keepL_len (fun m => m != n) es
  unfold withL insL
  rw [List.length_append, List.length_cons]
  have e := congrArg List.length (List.takeWhile_append_dropWhile (p := fun y : El => !(fun m => decide (n < m)) y.1) (l := keepL (fun m => m != n) es))
  rw [List.length_append] at e
  omega
end Go.Proofs.YthokhncdpfaifaaGreatDoor
