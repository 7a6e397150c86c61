/- Contract of wire.Reader.Var (walk; the closure is entered in place). Written by gen/rdvar.py. -/
import Derived.Test.YthokhncdpfaifaaGreatDoorReader
namespace Go.Proofs.YthokhncdpfaifaaGreatDoor
open Go.RowKit

/-- wire.Reader.Var at digits 2 or 3: the five ways. -/
def VarRd (r : Nat) (rest : ByteArray) (d most : Nat) (w : World) (e : Ending) (w' : World) : Prop :=
  (rest.size < d ∧ RdPost r (.string ⟨#[]⟩) rest 1 w e w') ∨
  (d ≤ rest.size ∧ (rest.data.toList.take d).all digB = false ∧ RdPost r (.string ⟨#[]⟩) rest 2 w e w') ∨
  (d ≤ rest.size ∧ (rest.data.toList.take d).all digB = true ∧ ∃ n : Nat, numL (rest.data.toList.take d) = n ∧
    ((most < n ∧ RdPost r (.string ⟨#[]⟩) rest 3 w e w') ∨
     (n ≤ most ∧ rest.size < d + n ∧ RdPost r (.string ⟨#[]⟩) rest 1 w e w') ∨
     (n ≤ most ∧ d + n ≤ rest.size ∧ RdPost r (.string (rest.extract d (d + n))) (rest.extract (d + n) rest.size) 0 w e w')))
theorem NumP.bd {s : ByteArray} {n : Int} {ok : Bool} (h : NumP s n ok) (hs : s.size ≤ 15) : 0 ≤ n ∧ n ≤ 1000000000000000 := by
  obtain ⟨h1, h2⟩ := h
  cases ok
  · simp at h2; omega
  · simp at h2; rw [h2]; exact numL_bd15 _ h1.symm (by simpa using hs)
theorem extract_list (s : ByteArray) (a b : Nat) : (s.extract a b).data.toList = (s.data.toList.take b).drop a := by
  rw [Lib.extract_data, List.drop_take]
theorem num_bad {s : ByteArray} {d : Nat} {n : Int} (h : NumP (s.extract 0 d) n false) : (s.data.toList.take d).all digB = false := by
  have := h.1.symm; rw [extract_list, List.drop_zero] at this; exact this
theorem num_good {s : ByteArray} {d : Nat} {n : Int} (h : NumP (s.extract 0 d) n true) : (s.data.toList.take d).all digB = true ∧ numL (s.data.toList.take d) = n := by
  have h1 := h.1.symm; have h2 := h.2; rw [extract_list, List.drop_zero] at h1 h2; exact ⟨h1, by simpa using h2.symm⟩


set_option maxHeartbeats 1000000 in
theorem rdVar2_any (r : Nat) (rest : ByteArray) (most : Nat) (w : World) (h : Rd w r rest 0) (hm : most ≤ 255) (hs : rest.size ≤ 1000000) :
    Calls Tryz.prog 89 #[.pointer (some ⟨r, 0, none⟩), .int .i64 2, .int .i64 most] w (VarRd r rest 2 most w) := by
  have hr := h.lt
  have hr1 : r < w.heap.size + 1 := by omega
  have hr2 : r < w.heap.size + 2 := by omega
  have c0 := h.c0
  have c1 := h.c1
  have f0 := h.f0
  have f1 := h.f1
  by_cases g1 : rest.size < 2
  · go_enter Tryz.func89, Tryz.ntmps89
    go_wp2
    refine bodyPost_ret (results_none rfl _ _ _) rfl ?_
    go_wp2
    go_ret
    exact Or.inl ⟨g1, rfl, (((h.set1 _).alloc _).alloc _).alloc _, ((((ExtBut.refl r w).setCell _ _).alloc _).alloc _).alloc _⟩
  · have hx : (rest.extract 0 2).size = 2 := by simp; omega
    go_enter Tryz.func89, Tryz.ntmps89
    go_wp2_with (first | (go_at_call 114; refine (numberOf_any (rest.extract 0 2) _ (by omega)).mono ?_; rintro e w1 ⟨n, ok, rfl, hN, rfl⟩; obtain ⟨n, rfl⟩ := Int.eq_ofNat_of_zero_le (hN.bd (by omega)).1; have hb := (hN.bd (by omega)).2; cases ok) | go_in)
    · have hall := num_bad hN
      refine bodyPost_ret (results_none rfl _ _ _) rfl ?_
      go_wp2
      go_ret
      exact Or.inr (Or.inl ⟨by omega, hall, rfl, (((h.set1 _).alloc _).alloc _).alloc _, ((((ExtBut.refl r w).setCell _ _).alloc _).alloc _).alloc _⟩)
    · have hall := num_good hN
      refine bodyPost_ret (results_none rfl _ _ _) rfl ?_
      go_wp2
      go_ret
      exact Or.inr (Or.inr ⟨by omega, hall.1, n, hall.2, Or.inr (Or.inl ⟨by omega, by omega, rfl, (((h.set1 _).alloc _).alloc _).alloc _, ((((ExtBut.refl r w).setCell _ _).alloc _).alloc _).alloc _⟩)⟩)
    · have hall := num_good hN
      go_end0
      go_wp2
      go_ret
      exact Or.inr (Or.inr ⟨by omega, hall.1, n, hall.2, Or.inr (Or.inr ⟨by omega, by omega, rfl, (((h.set0 _).alloc _).alloc _).alloc _, ((((ExtBut.refl r w).setCell _ _).alloc _).alloc _).alloc _⟩)⟩)
    · have hall := num_good hN
      refine bodyPost_ret (results_none rfl _ _ _) rfl ?_
      go_wp2
      go_ret
      exact Or.inr (Or.inr ⟨by omega, hall.1, n, hall.2, Or.inl ⟨by omega, rfl, (((h.set1 _).alloc _).alloc _).alloc _, ((((ExtBut.refl r w).setCell _ _).alloc _).alloc _).alloc _⟩⟩)

set_option maxHeartbeats 1000000 in
theorem rdVar3_any (r : Nat) (rest : ByteArray) (most : Nat) (w : World) (h : Rd w r rest 0) (hm : most ≤ 255) (hs : rest.size ≤ 1000000) :
    Calls Tryz.prog 89 #[.pointer (some ⟨r, 0, none⟩), .int .i64 3, .int .i64 most] w (VarRd r rest 3 most w) := by
  have hr := h.lt
  have hr1 : r < w.heap.size + 1 := by omega
  have hr2 : r < w.heap.size + 2 := by omega
  have c0 := h.c0
  have c1 := h.c1
  have f0 := h.f0
  have f1 := h.f1
  by_cases g1 : rest.size < 3
  · go_enter Tryz.func89, Tryz.ntmps89
    go_wp2
    refine bodyPost_ret (results_none rfl _ _ _) rfl ?_
    go_wp2
    go_ret
    exact Or.inl ⟨g1, rfl, (((h.set1 _).alloc _).alloc _).alloc _, ((((ExtBut.refl r w).setCell _ _).alloc _).alloc _).alloc _⟩
  · have hx : (rest.extract 0 3).size = 3 := by simp; omega
    go_enter Tryz.func89, Tryz.ntmps89
    go_wp2_with (first | (go_at_call 114; refine (numberOf_any (rest.extract 0 3) _ (by omega)).mono ?_; rintro e w1 ⟨n, ok, rfl, hN, rfl⟩; obtain ⟨n, rfl⟩ := Int.eq_ofNat_of_zero_le (hN.bd (by omega)).1; have hb := (hN.bd (by omega)).2; cases ok) | go_in)
    · have hall := num_bad hN
      refine bodyPost_ret (results_none rfl _ _ _) rfl ?_
      go_wp2
      go_ret
      exact Or.inr (Or.inl ⟨by omega, hall, rfl, (((h.set1 _).alloc _).alloc _).alloc _, ((((ExtBut.refl r w).setCell _ _).alloc _).alloc _).alloc _⟩)
    · have hall := num_good hN
      refine bodyPost_ret (results_none rfl _ _ _) rfl ?_
      go_wp2
      go_ret
      exact Or.inr (Or.inr ⟨by omega, hall.1, n, hall.2, Or.inr (Or.inl ⟨by omega, by omega, rfl, (((h.set1 _).alloc _).alloc _).alloc _, ((((ExtBut.refl r w).setCell _ _).alloc _).alloc _).alloc _⟩)⟩)
    · have hall := num_good hN
      go_end0
      go_wp2
      go_ret
      exact Or.inr (Or.inr ⟨by omega, hall.1, n, hall.2, Or.inr (Or.inr ⟨by omega, by omega, rfl, (((h.set0 _).alloc _).alloc _).alloc _, ((((ExtBut.refl r w).setCell _ _).alloc _).alloc _).alloc _⟩)⟩)
    · have hall := num_good hN
      refine bodyPost_ret (results_none rfl _ _ _) rfl ?_
      go_wp2
      go_ret
      exact Or.inr (Or.inr ⟨by omega, hall.1, n, hall.2, Or.inl ⟨by omega, rfl, (((h.set1 _).alloc _).alloc _).alloc _, ((((ExtBut.refl r w).setCell _ _).alloc _).alloc _).alloc _⟩⟩)
end Go.Proofs.YthokhncdpfaifaaGreatDoor
