/- Membership of sorted and compacted names (cut out of XEnp). -/
import Derived.Test.YtangdoidkcelfaaGreatDoorEh
namespace Go.Proofs.YtangdoidkcelfaaGreatDoor
open Go.RowKit
theorem mem_upTo {α : Type} [Inhabited α] [DecidableEq α] (d : Array α) : ∀ m x, x ∈ Lib.compactUpTo d m ↔ ∃ j, j < m ∧ d[j]! = x
 | 0, x => by simp [Lib.compactUpTo]
 | m + 1, x => by
  rw [Lib.compactUpTo_succ, List.mem_append, mem_upTo d m x]
  constructor
  · rintro (⟨j, hj, rfl⟩ | h)
    · exact ⟨j, by omega, rfl⟩
    · split at h
      · simp at h; exact ⟨m, by omega, h.symm⟩
      · cases h
  · rintro ⟨j, hj, rfl⟩
    by_cases hjm : j < m
    · exact Or.inl ⟨j, hjm, rfl⟩
    · obtain rfl : j = m := by omega
      by_cases hk : Lib.keeps d j = true
      · right; rw [if_pos hk]; simp
      · left
        simp only [Lib.keeps, decide_eq_true_eq, not_or] at hk
        exact ⟨j - 1, by omega, (Decidable.not_not.1 hk.2).symm⟩
theorem mem_compact {α : Type} [Inhabited α] [DecidableEq α] (l : List α) (x : α) : x ∈ Lib.compact l ↔ x ∈ l := by
 unfold Lib.compact
 rw [mem_upTo]
 constructor
 · rintro ⟨j, hj, rfl⟩
   have e : (l.toArray)[j]! = l[j] := by simp [hj]
   rw [e]; exact List.getElem_mem hj
 · intro h
   obtain ⟨j, hj, rfl⟩ := List.mem_iff_getElem.1 h
   exact ⟨j, hj, by simp [hj]⟩
theorem mem_uniL (l : List (List UInt8)) (x : List UInt8) : x ∈ uniL l ↔ x ∈ l := by
 unfold uniL sortL
 rw [mem_compact, List.mem_mergeSort]
end Go.Proofs.YtangdoidkcelfaaGreatDoor
