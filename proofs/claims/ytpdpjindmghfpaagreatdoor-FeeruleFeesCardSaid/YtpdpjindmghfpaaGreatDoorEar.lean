/- Contracts of sum, magnitude, product, number, truth (walks). -/
import Derived.Test.YtpdpjindmghfpaaGreatDoorEnm
namespace Go.Proofs.YtpdpjindmghfpaaGreatDoor
open Go.RowKit
theorem nbr_iff (n : Int) : nbrB n = true ↔ -4611686018427387904 ≤ n ∧ n ≤ 4611686018427387904 := by simp [nbrB]
theorem wrap64_id (n : Int) (h : -9223372036854775808 ≤ n) (h' : n ≤ 9223372036854775807) : wrap64 n = n := by unfold wrap64; omega
theorem u64_id (n : Int) (h : 0 ≤ n) (h' : n ≤ 18446744073709551615) : IntKind.u64.wrap n = n := by simp [IntKind.wrap, IntKind.bits, IntKind.signed]; omega
def OptI (o : Option Int) (w : World) (e : Ending) (w' : World) : Prop := e = .returned (.tuple #[.int .i64 (o.getD 0), .bool o.isSome]) ∧ w = w'
theorem optI_none {o : Option Int} (w : World) (h : o = none) : OptI o w (.returned (.tuple #[.int .i64 0, .bool false])) w := by subst h; exact ⟨rfl, rfl⟩
theorem optI_some {o : Option Int} {n : Int} (w : World) (h : o = some n) : OptI o w (.returned (.tuple #[.int .i64 n, .bool true])) w := by subst h; exact ⟨rfl, rfl⟩
set_option maxRecDepth 8000 in
set_option maxHeartbeats 1000000 in
theorem sum_any (a b : Int) (w : World) (ha : nbrB a = true) (hb : nbrB b = true) : Calls Tryz.prog 117 #[.int .i64 a, .int .i64 b] w (OptI (sumV a b) w) := by
  rw [nbr_iff] at ha hb
  obtain ⟨m1, hm1⟩ : ∃ m, m = 4611686018427387904 - b := ⟨_, rfl⟩
  obtain ⟨m2, hm2⟩ : ∃ m, m = -4611686018427387904 - b := ⟨_, rfl⟩
  by_cases hp : 0 < b
  · have d1 : decide (0 < b) = true := by simp [hp]
    have d2 : decide (b < 0) = false := by simp; omega
    have e1 : wrap64 (4611686018427387904 - b) = m1 := by rw [wrap64_id _ (by omega) (by omega), hm1]
    by_cases hc : m1 < a
    · have hS := Lib.hid (show sumV a b = none by unfold sumV; rw [show nbrB (a + b) = false by simp [nbrB]; omega]; rfl)
      have d3 : decide (m1 < a) = true := by simp [hc]
      clear ha hb hm1 hm2 hp hc
      go_enter Tryz.func117, Tryz.ntmps117
      go_wp2
      go_ret2
      exact optI_none _ hS.out
    · have hS := Lib.hid (show sumV a b = some (a + b) by unfold sumV; rw [show nbrB (a + b) = true by rw [nbr_iff]; omega]; rfl)
      have e3 : wrap64 (a + b) = a + b := wrap64_id _ (by omega) (by omega)
      have d3 : decide (m1 < a) = false := by simp; omega
      clear ha hb hm1 hm2 hp hc
      go_enter Tryz.func117, Tryz.ntmps117
      go_wp2
      go_ret2
      exact optI_some _ (by rw [e3]; exact hS.out)
  · have d1 : decide (0 < b) = false := by simp; omega
    by_cases hn : b < 0
    · have d2 : decide (b < 0) = true := by simp [hn]
      have e2 : wrap64 (-4611686018427387904 - b) = m2 := by rw [wrap64_id _ (by omega) (by omega), hm2]
      by_cases hc : a < m2
      · have hS := Lib.hid (show sumV a b = none by unfold sumV; rw [show nbrB (a + b) = false by simp [nbrB]; omega]; rfl)
        have d3 : decide (a < m2) = true := by simp [hc]
        clear ha hb hm1 hm2 hp hc hn
        go_enter Tryz.func117, Tryz.ntmps117
        go_wp2
        go_ret2
        exact optI_none _ hS.out
      · have hS := Lib.hid (show sumV a b = some (a + b) by unfold sumV; rw [show nbrB (a + b) = true by rw [nbr_iff]; omega]; rfl)
        have e3 : wrap64 (a + b) = a + b := wrap64_id _ (by omega) (by omega)
        have d3 : decide (a < m2) = false := by simp; omega
        clear ha hb hm1 hm2 hp hc hn
        go_enter Tryz.func117, Tryz.ntmps117
        go_wp2
        go_ret2
        exact optI_some _ (by rw [e3]; exact hS.out)
    · have hb0 : b = 0 := by omega
      have hS := Lib.hid (show sumV a b = some (a + b) by unfold sumV; rw [show nbrB (a + b) = true by rw [nbr_iff]; omega]; rfl)
      have e3 : wrap64 (a + b) = a + b := wrap64_id _ (by omega) (by omega)
      have d2 : decide (b < 0) = false := by simp; omega
      clear ha hb hm1 hm2 hp hn hb0
      go_enter Tryz.func117, Tryz.ntmps117
      go_wp2
      go_ret2
      exact optI_some _ (by rw [e3]; exact hS.out)
set_option maxHeartbeats 1000000 in
theorem magnitude_any (a : Int) (w : World) (ha : nbrB a = true) : Calls Tryz.prog 140 #[.int .i64 a] w fun e w' => e = .returned (.int .u64 a.natAbs) ∧ w = w' := by
  rw [nbr_iff] at ha
  by_cases h : a < 0
  · have d1 : decide (a < 0) = true := by simp [h]
    have e1 : wrap64 (-a) = a.natAbs := by rw [wrap64_id _ (by omega) (by omega)]; omega
    have e2 : IntKind.u64.wrap (a.natAbs : Int) = a.natAbs := u64_id _ (by omega) (by omega)
    clear ha h
    go_enter Tryz.func140, Tryz.ntmps140
    go_wp2
    go_ret
    exact ⟨rfl, rfl⟩
  · have d1 : decide (a < 0) = false := by simp; omega
    have e2 : IntKind.u64.wrap a = a.natAbs := by rw [u64_id _ (by omega) (by omega)]; omega
    clear ha h
    go_enter Tryz.func140, Tryz.ntmps140
    go_wp2
    go_ret
    exact ⟨rfl, rfl⟩
theorem mul64_any (x y : Nat) (hx : x < 18446744073709551616) (hy : y < 18446744073709551616) (w : World) : Calls Tryz.prog 139 #[.int .u64 x, .int .u64 y] w fun e w' => ∃ hi lo : Nat, e = .returned (.tuple #[.int .u64 hi, .int .u64 lo]) ∧ (hi * 18446744073709551616 + lo = x * y ∧ lo < 18446744073709551616) ∧ w = w' :=
  (Tryz.bits_Mul64 x y hx hy w).mono fun _ _ h => ⟨_, _, h.1, ⟨by omega, by omega⟩, h.2.symm⟩
theorem natAbs_mul_le {a b : Int} : nbrB (a * b) = true ↔ a.natAbs * b.natAbs ≤ 4611686018427387904 := by
  rw [nbr_iff, ← Int.natAbs_mul]
  omega
set_option maxRecDepth 8000 in
set_option maxHeartbeats 2000000 in
theorem product_any (a b : Int) (w : World) (ha : nbrB a = true) (hb : nbrB b = true) : Calls Tryz.prog 118 #[.int .i64 a, .int .i64 b] w (OptI (mulV a b) w) := by
  have hm1 := Lib.hid (fun w => magnitude_any a w ha)
  have hm2 := Lib.hid (fun w => magnitude_any b w hb)
  rw [nbr_iff] at ha hb
  have hmul := Lib.hid (fun w => mul64_any a.natAbs b.natAbs (by omega) (by omega) w)
  have hV := Lib.hid (show mulV a b = if a.natAbs * b.natAbs ≤ 4611686018427387904 then some (a * b) else none by
    unfold mulV
    by_cases h : a.natAbs * b.natAbs ≤ 4611686018427387904
    · rw [if_pos h, natAbs_mul_le.2 h]; rfl
    · rw [if_neg h, show nbrB (a * b) = false by rw [Bool.eq_false_iff]; intro hc; exact h (natAbs_mul_le.1 hc)]; rfl)
  clear ha hb
  go_enter Tryz.func118, Tryz.ntmps118
  go_wp2_with fail
  refine (hm1.out _).mono ?_
  rintro e w1 ⟨rfl, rfl⟩
  go_wp2_with fail
  refine (hm2.out _).mono ?_
  rintro e w1 ⟨rfl, rfl⟩
  go_wp2_with fail
  refine (hmul.out _).mono ?_
  rintro e w1 ⟨hi, lo, rfl, ⟨hs, hlo⟩, rfl⟩
  by_cases hle : a.natAbs * b.natAbs ≤ 4611686018427387904
  · have h0 : hi = 0 := by omega
    have h1 : lo = a.natAbs * b.natAbs := by omega
    have hV := Lib.hid (hV.out.trans (if_pos hle))
    subst h0
    have d1 : decide (4611686018427387904 < (lo : Int)) = false := by simp; omega
    have e1 : wrap64 (lo : Int) = lo := wrap64_id _ (by omega) (by omega)
    have e2 : wrap64 (-(lo : Int)) = -lo := wrap64_id _ (by omega) (by omega)
    replace h1 := Lib.hid h1
    clear hs hlo hle hm1 hm2 hmul
    by_cases s1 : a < 0
    · have s1' := decide_eq_true s1
      by_cases s2 : b < 0
      · have s2' := decide_eq_true s2
        have hV2 := Lib.hid (show mulV a b = some ((lo : Int)) by rw [hV.out, h1.out, Int.natCast_mul, show (a.natAbs : Int) = -a by omega, show (b.natAbs : Int) = -b by omega, Int.neg_mul_neg])
        clear s1 s2 h1
        go_wp2
        go_ret2
        exact optI_some _ (by first | (rw [e1]; exact hV2.out) | (rw [e2]; exact hV2.out))
      · have s2' := decide_eq_false s2
        have hV2 := Lib.hid (show mulV a b = some (-(lo : Int)) by rw [hV.out, h1.out, Int.natCast_mul, show (a.natAbs : Int) = -a by omega, show (b.natAbs : Int) = b by omega, Int.neg_mul, Int.neg_neg])
        clear s1 s2 h1
        go_wp2
        go_ret2
        exact optI_some _ (by first | (rw [e1]; exact hV2.out) | (rw [e2]; exact hV2.out))
    · have s1' := decide_eq_false s1
      by_cases s2 : b < 0
      · have s2' := decide_eq_true s2
        have hV2 := Lib.hid (show mulV a b = some (-(lo : Int)) by rw [hV.out, h1.out, Int.natCast_mul, show (a.natAbs : Int) = a by omega, show (b.natAbs : Int) = -b by omega, Int.mul_neg, Int.neg_neg])
        clear s1 s2 h1
        go_wp2
        go_ret2
        exact optI_some _ (by first | (rw [e1]; exact hV2.out) | (rw [e2]; exact hV2.out))
      · have s2' := decide_eq_false s2
        have hV2 := Lib.hid (show mulV a b = some ((lo : Int)) by rw [hV.out, h1.out, Int.natCast_mul, show (a.natAbs : Int) = a by omega, show (b.natAbs : Int) = b by omega])
        clear s1 s2 h1
        go_wp2
        go_ret2
        exact optI_some _ (by first | (rw [e1]; exact hV2.out) | (rw [e2]; exact hV2.out))
  · have hV := Lib.hid (hV.out.trans (if_neg hle))
    by_cases h0 : hi = 0
    · subst h0
      have d1 : decide (4611686018427387904 < (lo : Int)) = true := by simp; omega
      clear hs hlo hle hm1 hm2 hmul
      go_wp2
      go_ret2
      exact optI_none _ hV.out
    · have d1 : ((hi : Int) != 0) = true := by simp; omega
      have d2 : ((hi : Int) == 0) = false := by simp; omega
      clear hs hlo hle hm1 hm2 hmul
      go_wp2
      go_ret2
      exact optI_none _ hV.out
set_option maxHeartbeats 400000 in
theorem number_any (n : Int) (w : World) : Calls Tryz.prog 92 #[.int .i64 n] w (OneV (.agg #[.string ⟨#[]⟩, .int .i64 1, .int .i64 n, .string ⟨#[]⟩]) w) := by
  go_enter Tryz.func92, Tryz.ntmps92
  go_wp2
  exact bodyPost_ret (v := .agg #[.string ⟨#[]⟩, .int .i64 1, .int .i64 n, .string ⟨#[]⟩]) (by simp [results, Tryz.results92, go_sem]) rfl ⟨rfl, (by repeat (first | with_reducible exact Ext.refl _ | with_reducible exact hE0 | with_reducible exact hE | with_reducible refine Ext.alloc ?_ _ | with_reducible refine Ext.drewN ?_ _ | with_reducible refine Ext.drew ?_ | ((with_reducible refine Ext.setCell ?_ ?side _); (case side => first | exact Nat.le_refl _ | (simp; done) | (simp; omega)))))⟩
set_option maxHeartbeats 400000 in
theorem truth_t (w : World) : Calls Tryz.prog 95 #[.bool true] w (OneV (.agg #[.string ⟨#[]⟩, .int .i64 3, .int .i64 1, .string ⟨#[]⟩]) w) := by
  go_enter Tryz.func95, Tryz.ntmps95
  go_wp2
  exact bodyPost_ret (v := .agg #[.string ⟨#[]⟩, .int .i64 3, .int .i64 1, .string ⟨#[]⟩]) (by simp [results, Tryz.results95, go_sem]) rfl ⟨rfl, (by repeat (first | with_reducible exact Ext.refl _ | with_reducible exact hE0 | with_reducible exact hE | with_reducible refine Ext.alloc ?_ _ | with_reducible refine Ext.drewN ?_ _ | with_reducible refine Ext.drew ?_ | ((with_reducible refine Ext.setCell ?_ ?side _); (case side => first | exact Nat.le_refl _ | (simp; done) | (simp; omega)))))⟩
set_option maxHeartbeats 400000 in
theorem truth_f (w : World) : Calls Tryz.prog 95 #[.bool false] w (OneV (.agg #[.string ⟨#[]⟩, .int .i64 3, .int .i64 0, .string ⟨#[]⟩]) w) := by
  go_enter Tryz.func95, Tryz.ntmps95
  go_wp2
  exact bodyPost_ret (v := .agg #[.string ⟨#[]⟩, .int .i64 3, .int .i64 0, .string ⟨#[]⟩]) (by simp [results, Tryz.results95, go_sem]) rfl ⟨rfl, (by repeat (first | with_reducible exact Ext.refl _ | with_reducible exact hE0 | with_reducible exact hE | with_reducible refine Ext.alloc ?_ _ | with_reducible refine Ext.drewN ?_ _ | with_reducible refine Ext.drew ?_ | ((with_reducible refine Ext.setCell ?_ ?side _); (case side => first | exact Nat.le_refl _ | (simp; done) | (simp; omega)))))⟩
/-- What a new block of four cells holds later. -/
theorem new4 {w w1 : World} {c0 c1 c2 c3 : Value} {T : TypeId} (B : Nat) (hB : B = w.heap.size) (hE : Ext (w.alloc (.cells #[c0, c1, c2, c3] T)) w1) :
    (w1.cell? ⟨B, 0, none⟩ = some c0 ∧ w1.cell? ⟨B, 1, none⟩ = some c1 ∧ w1.cell? ⟨B, 2, none⟩ = some c2 ∧ w1.cell? ⟨B, 3, none⟩ = some c3) ∧ (w1.frozen? ⟨B, 0, none⟩ = false ∧ w1.frozen? ⟨B, 1, none⟩ = false ∧ w1.frozen? ⟨B, 2, none⟩ = false ∧ w1.frozen? ⟨B, 3, none⟩ = false) := by
  have h := (Blk.new' w #[c0, c1, c2, c3] T B hB).ext hE
  exact ⟨⟨(h.cell 0).trans rfl, (h.cell 1).trans rfl, (h.cell 2).trans rfl, (h.cell 3).trans rfl⟩, h.fz 0, h.fz 1, h.fz 2, h.fz 3⟩
end Go.Proofs.YtpdpjindmghfpaaGreatDoor
