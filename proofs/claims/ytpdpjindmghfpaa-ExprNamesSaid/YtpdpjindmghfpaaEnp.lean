/- The value depends on the names that occur alone (plain facts). -/
import Derived.Test.YtpdpjindmghfpaaEpf
namespace Go.Proofs.Ytpdpjindmghfpaa
open Go.RowKit
theorem mem_upTo {α : Type} [Inhabited α] [DecidableEq α] (d : Array α) : ∀ m x, x ∈ Lib.compactUpTo d m ↔ ∃ j, j < m ∧ d[j]! = x
  | 0, x => by simp [Lib.compactUpTo]
  | m + 1, x => by
    rw [Lib.compactUpTo_succ, List.mem_append, mem_upTo d m x]
    constructor
    · rintro (⟨j, hj, rfl⟩ | h)
      · exact ⟨j, by omega, rfl⟩
      · split at h
        · simp at h; exact ⟨m, by omega, h.symm⟩
        · cases h
    · rintro ⟨j, hj, rfl⟩
      by_cases hjm : j < m
      · exact Or.inl ⟨j, hjm, rfl⟩
      · obtain rfl : j = m := by omega
        by_cases hk : Lib.keeps d j = true
        · right; rw [if_pos hk]; simp
        · left
          simp only [Lib.keeps, decide_eq_true_eq, not_or] at hk
          exact ⟨j - 1, by omega, (Decidable.not_not.1 hk.2).symm⟩
theorem mem_compact {α : Type} [Inhabited α] [DecidableEq α] (l : List α) (x : α) : x ∈ Lib.compact l ↔ x ∈ l := by
  unfold Lib.compact
  rw [mem_upTo]
  constructor
  · rintro ⟨j, hj, rfl⟩
    have e : (l.toArray)[j]! = l[j] := by simp [hj]
    rw [e]; exact List.getElem_mem hj
  · intro h
    obtain ⟨j, hj, rfl⟩ := List.mem_iff_getElem.1 h
    exact ⟨j, hj, by simp [hj]⟩
theorem mem_uniL (l : List (List UInt8)) (x : List UInt8) : x ∈ uniL l ↔ x ∈ l := by
  unfold uniL sortL
  rw [mem_compact, List.mem_mergeSort]
theorem bts_inj {a b : ByteArray} (h : bts a = bts b) : a = b := by
  obtain ⟨⟨a⟩⟩ := a
  obtain ⟨⟨b⟩⟩ := b
  simp only [bts] at h
  subst h
  rfl
theorem noW_mk {op : Int} {nm tx : ByteArray} {n : Int} {args : List Ex} (h : (Ex.mk op nm tx n args).wins = []) : ¬ (op = 16 ∨ op = 17) ∧ ∀ a ∈ args, a.wins = [] := by
  rw [wins_mk, List.append_eq_nil_iff] at h
  refine ⟨fun hop => ?_, fun a ha => List.flatMap_eq_nil_iff.1 h.2 a ha⟩
  have := h.1
  simp [win1, Ex.op, hop] at this
/-- Without counts and sums the source does not matter. -/
theorem ev_noW (l : List Feat) : ∀ x : Ex, x.wins = [] → ∀ S S', x.ev l S = x.ev l S' := by
  refine Ex.indOn ?_
  intro op nm tx n args ih h S S'
  obtain ⟨h1, h2⟩ := noW_mk h
  rw [ev_mk, ev_mk]
  have e : (args.map fun x => x.ev l S) = args.map fun x => x.ev l S' := List.map_congr_left fun a ha => ih a ha (h2 a ha) S S'
  rw [e]
  unfold evOp
  rw [if_neg h1, if_neg h1]
/-- Features that agree on the names that occur give the same type and value. -/
def Agree (x : Ex) (l m : List Feat) : Prop := ∀ nm, bts nm ∈ x.occ → findN m nm = findN l nm
theorem agree_mk {op : Int} {nm tx : ByteArray} {n : Int} {args : List Ex} {l m : List Feat} (h : Agree (.mk op nm tx n args) l m) : (op = 3 ∨ op = 16 ∨ op = 17 → findN m nm = findN l nm) ∧ ∀ a ∈ args, Agree a l m := by
  unfold Agree at h
  rw [occ_mk] at h
  refine ⟨fun hop => h nm ?_, fun a ha s hs => h s ?_⟩
  · rw [List.mem_append]; left; simp [occ1, Ex.op, hop, Ex.name]
  · rw [List.mem_append]; right; exact List.mem_flatMap.2 ⟨a, ha, hs⟩
theorem ty_agree {l m : List Feat} : ∀ x : Ex, Agree x l m → x.ty m = x.ty l := by
  refine Ex.indOn ?_
  intro op nm tx n args ih h
  obtain ⟨h1, h2⟩ := agree_mk h
  have e := tyL_map id m l args (fun a ha => ih a ha (h2 a ha))
  rw [List.map_id] at e
  rw [Ex.ty, Ex.ty, e]
  by_cases hop : op = 3 ∨ op = 16 ∨ op = 17
  · rw [h1 hop]
  · simp only [if_neg hop]
theorem ev_agree {l m : List Feat} (S : Bool → ByteArray → Int → Int) : ∀ x : Ex, Agree x l m → x.ev m S = x.ev l S := by
  refine Ex.indOn ?_
  intro op nm tx n args ih h
  obtain ⟨h1, h2⟩ := agree_mk h
  rw [ev_mk, ev_mk]
  have e : (args.map fun x => x.ev m S) = args.map fun x => x.ev l S := List.map_congr_left fun a ha => ih a ha (h2 a ha)
  rw [e]
  unfold evOp
  by_cases h3 : op = 3
  · have := h1 (Or.inl h3)
    unfold featOf
    rw [this]
  · rw [if_neg h3, if_neg h3]
/-- The feature that stands for one whose name does not occur. -/
def swapF (used : List (List UInt8)) (n : Int) (f : Feat) : Feat := if bts f.name ∈ used then f else ⟨f.name, 1, n, emS⟩
theorem swap_name (used : List (List UInt8)) (n : Int) (f : Feat) : (swapF used n f).name = f.name := by unfold swapF; split <;> rfl
theorem swap_featE (used : List (List UInt8)) (n : Int) (hn : nbrB n = true) (f : Feat) (h : featE f = 0) : featE (swapF used n f) = 0 := by
  unfold swapF
  split
  · exact h
  · unfold featE at h ⊢
    by_cases h1 : nameB f.name = false
    · rw [if_pos h1] at h; omega
    · rw [if_neg h1, if_pos]
      exact Or.inr (Or.inl ⟨rfl, hn⟩)
theorem find_swap (used : List (List UInt8)) (n : Int) (nm : ByteArray) : ∀ l : List Feat, findN (l.map (swapF used n)) nm = (findN l nm).map (swapF used n)
  | [] => rfl
  | f :: r => by
    unfold findN
    rw [List.map_cons, List.find?_cons, List.find?_cons, swap_name]
    by_cases h : f.name = nm
    · simp [h]
    · simp only [h, decide_false]
      exact find_swap used n nm r
theorem namesE_swap (used : List (List UInt8)) (n : Int) (hn : nbrB n = true) : ∀ (l before : List Feat), namesE before l = 0 → namesE (before.map (swapF used n)) (l.map (swapF used n)) = 0
  | [], _, _ => rfl
  | f :: r, before, h => by
    rw [List.map_cons, namesE]
    rw [namesE] at h
    by_cases h1 : featE f ≠ 0
    · rw [if_pos h1] at h; omega
    · rw [if_neg h1] at h
      rw [if_neg (by have := swap_featE used n hn f (by omega); omega), swap_name, find_swap, Option.isSome_map]
      by_cases h2 : (findN before f.name).isSome = true
      · rw [if_pos h2] at h; cases h
      · rw [if_neg h2] at h ⊢
        have := namesE_swap used n hn r (before ++ [f]) h
        rw [List.map_append] at this
        exact this
theorem agree_swap (x : Ex) (l : List Feat) (n : Int) : Agree x l (l.map (swapF (uniL x.occ) n)) := by
  intro nm hm
  rw [find_swap]
  cases hf : findN l nm with
  | none => rfl
  | some f =>
    have hnm : f.name = nm := (findN_mem hf).2
    simp only [Option.map_some, Option.some.injEq]
    unfold swapF
    rw [if_pos]
    rw [hnm, mem_uniL]
    exact hm
/-- The value depends on features and uses that occur alone. -/
theorem evalV_swap {x : Ex} {l : List Feat} {S : Bool → ByteArray → Int → Int} (h : (evalV x l S).2 = 0) {n : Int} (hn : nbrB n = true) : evalV x (l.map (swapF (uniL x.occ) n)) S = evalV x l S := by
  have hA := agree_swap x l n
  unfold evalV at h ⊢
  by_cases h0 : (checkV x l).2 ≠ 0
  · rw [if_pos h0] at h; exact absurd h h0
  · obtain ⟨h1, h2, h3, h4⟩ := checkV_ok (show (checkV x l).2 = 0 by omega)
    have hc : checkV x (l.map (swapF (uniL x.occ) n)) = checkV x l := by
      have := namesE_swap (uniL x.occ) n hn l [] h1
      rw [List.map_nil] at this
      rw [checkV_nil h3 h2, checkV_nil h3 h2, ty_agree x hA, if_neg (show ¬ namesE [] l ≠ 0 by omega), if_neg (show ¬ namesE [] (l.map (swapF (uniL x.occ) n)) ≠ 0 by omega)]
    rw [hc, ev_agree S x hA]
theorem evalV_noW {x : Ex} (l : List Feat) (S S' : Bool → ByteArray → Int → Int) (h : x.wins = []) : evalV x l S = evalV x l S' := by
  unfold evalV
  rw [ev_noW l x h S S']
end Go.Proofs.Ytpdpjindmghfpaa
