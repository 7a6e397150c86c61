/- Contract of all (a walk); facts on types. -/
import Derived.Test.YtpdpjindmghfpaaGreatDoorEns
namespace Go.Proofs.YtpdpjindmghfpaaGreatDoor
open Go.RowKit
set_option maxHeartbeats 1000000 in
theorem all_any (w : World) (g n : Nat) (ks : List Int) (k : Int) (hlen : ks.length = n) (hn : n ≤ 1000000) (hc : ∀ i, i < n → w.cell? ⟨g, i, none⟩ = some (.int .i64 (ks.getD i 0))) : Calls Tryz.prog 113 #[.slice (some ⟨g, 0, none⟩) n n, .int .i64 k] w (BlP (allK ks k) w) := by
  replace hc := Lib.hid hc
  replace hlen := Lib.hid hlen
  go_enter Tryz.func113, Tryz.ntmps113
  go_wp2
  go_loop [9] (fun i => ∃ j : Nat, j ≤ n ∧ i = .int .i64 j ∧ allK (ks.take j) k = true) (fun i => n - (intOf i).toNat)
  case atStart => exact ⟨0, Nat.zero_le _, rfl, rfl⟩
  case round =>
    obtain ⟨j, hj, rfl, hall⟩ := hrel
    replace hall := Lib.hid hall
    by_cases hlt : j < n
    · have c0 := hc.out j hlt
      have hl : j < ks.length := by rw [hlen.out]; exact hlt
      have hsn := Lib.hid (all_snocD (fun j => decide (j = k)) ks 0 j hl)
      have hbd := Lib.hid (all_badD (fun j => decide (j = k)) ks 0 j hl)
      clear hl
      generalize ks.getD j 0 = y at *
      by_cases hy : y = k
      · have d1 : (y != k) = false := by simp [hy]
        have d2 : (y == k) = true := by simp [hy]
        go_wp2
        go_round
        case rel => exact ⟨j + 1, by omega, by go_num, by unfold allK at *; rw [hsn.out, hall.out, decide_eq_true hy]; rfl⟩
        case measure => simp [intOf]; omega
      · have d1 : (y != k) = true := by simp [hy]
        have d2 : (y == k) = false := by simp [hy]
        go_wp2
        go_ret
        exact ⟨ret_boolE (by unfold allK; rw [hbd.out (decide_eq_false hy)]), rfl⟩
    · have hkk : ks.take j = ks := List.take_of_length_le (by rw [hlen.out]; omega)
      rw [hkk] at hall
      replace hall := Lib.hid hall.out
      clear hkk
      go_wp2
      go_ret
      exact ⟨ret_boolE hall.out.symm, rfl⟩
theorem tyL_append (l : List Feat) (a b : List Ex) : Ex.ty.tyL l (a ++ b) = match Ex.ty.tyL l a with | .error c => .error c | .ok ks => match Ex.ty.tyL l b with | .error c => .error c | .ok js => .ok (ks ++ js) := by
  induction a with
  | nil =>
    simp only [List.nil_append, Ex.ty.tyL]
    cases Ex.ty.tyL l b <;> rfl
  | cons x r ih =>
    simp only [List.cons_append, Ex.ty.tyL, ih]
    by_cases h : (x.ty l).2 ≠ 0
    · simp only [if_pos h]
    · simp only [if_neg h]
      cases Ex.ty.tyL l r with
      | error c => rfl
      | ok ks =>
        cases Ex.ty.tyL l b with
        | error c => rfl
        | ok js => rfl
theorem tyL_snoc (l : List Feat) (args : List Ex) (k : Nat) (h : k < args.length) (ks : List Int) (hk : Ex.ty.tyL l (args.take k) = .ok ks) (h0 : ((args.getD k exD).ty l).2 = 0) : Ex.ty.tyL l (args.take (k + 1)) = .ok (ks ++ [((args.getD k exD).ty l).1]) := by
  rw [take_snocD args exD k h, tyL_append, hk]
  simp only [Ex.ty.tyL, h0]
  simp
theorem tyL_bad (l : List Feat) (args : List Ex) (k : Nat) (h : k < args.length) (ks : List Int) (hk : Ex.ty.tyL l (args.take k) = .ok ks) (h0 : ((args.getD k exD).ty l).2 ≠ 0) : Ex.ty.tyL l args = .error ((args.getD k exD).ty l).2 := by
  have h1 : args = args.take (k + 1) ++ args.drop (k + 1) := (List.take_append_drop _ _).symm
  rw [h1, tyL_append, take_snocD args exD k h, tyL_append, hk]
  rw [← take_snocD args exD k h, ← h1]
  simp only [Ex.ty.tyL, if_pos h0]
theorem ty_err {l : List Feat} {op : Int} {nm tx : ByteArray} {n : Int} {args : List Ex} {c : Int} (h : Ex.ty.tyL l args = .error c) : (Ex.mk op nm tx n args).ty l = (0, c) := by
  rw [Ex.ty, h]
theorem ty_ok {l : List Feat} {op : Int} {nm tx : ByteArray} {n : Int} {args : List Ex} {ks : List Int} (h : Ex.ty.tyL l args = .ok ks) : (Ex.mk op nm tx n args).ty l = if op = 3 ∨ op = 16 ∨ op = 17 then (match findN l nm with | none => ((0 : Int), (6 : Int)) | some f => if byK op f.kind ks = 0 then ((0 : Int), (28 : Int)) else (byK op f.kind ks, (0 : Int))) else if byK op 0 ks = 0 then ((0 : Int), (28 : Int)) else (byK op 0 ks, (0 : Int)) := by
  simp only [Ex.ty, h]
  cases findN l nm <;> rfl
theorem fv_name {op : Int} {nm tx : ByteArray} {n : Int} {len : Nat} (h : hasFv op nm tx n len = true) : nm.size ≤ 16 := by
  by_cases hn : nameB nm = true
  · exact nameB_size hn
  · have he : empB nm = true := by
      rw [Bool.not_eq_true] at hn
      unfold hasFv at h
      rw [hn] at h
      simp only [Bool.false_and] at h
      split at h
      · simp only [Bool.and_eq_true] at h; exact h.1.1.2
      · split at h
        · simp only [Bool.and_eq_true] at h; exact h.1.1.2
        · split at h
          · cases h
          · split at h
            · cases h
            · split at h
              · cases h
              · rename_i hx
                rw [Bool.not_eq_false] at hx
                simp only [Bool.and_eq_true] at hx
                exact hx.1.1
    have : nm.size = 0 := by simpa [empB] using he
    omega
theorem fv_cut {op : Int} {nm tx : ByteArray} {n : Int} {len : Nat} (h : hasFv op nm tx n len = true) : (op = 1 ∨ op = 2 ∨ op = 3 ∨ op = 16 ∨ op = 17) ∧ len = 0 ∨ (op = 4 ∨ op = 5) ∧ len = 1 ∨ (6 ≤ op ∧ op ≤ 14) ∧ len = 2 ∨ op = 15 ∧ 2 ≤ len ∧ len ≤ 17 := by
  unfold hasFv at h
  split at h
  · simp only [Bool.and_eq_true, decide_eq_true_eq] at h; omega
  · split at h
    · simp only [Bool.and_eq_true, decide_eq_true_eq] at h; omega
    · split at h
      · simp only [Bool.and_eq_true, decide_eq_true_eq] at h; omega
      · split at h
        · simp only [Bool.and_eq_true, decide_eq_true_eq] at h; omega
        · split at h
          · cases h
          · split at h
            · simp only [decide_eq_true_eq] at h; omega
            · split at h
              · simp only [decide_eq_true_eq] at h; omega
              · split at h
                · simp only [Bool.and_eq_true, decide_eq_true_eq] at h; omega
                · cases h
def TyPost (r : Int × Int) (w : World) (e : Ending) (w' : World) : Prop := e = .returned (.tuple #[.int .i64 r.1, .int .i64 r.2]) ∧ Ext w w'
end Go.Proofs.YtpdpjindmghfpaaGreatDoor
