/- Contracts of hasFields by operator (walks; printed by gen/hasf.py, parted). -/
import Derived.Test.YtpdpjindmghfpaaGreatDoorEh0
namespace Go.Proofs.YtpdpjindmghfpaaGreatDoor
open Go.RowKit
set_option maxRecDepth 8000 in
set_option maxHeartbeats 4000000 in
theorem hasF15 (nm tx : ByteArray) (n : Int) (q : Option Addr) (len cp : Nat) (w : World) : Calls Tryz.prog 110 #[.agg #[.int .i64 15, .string nm, .string tx, .int .i64 n, .slice q len cp]] w (OneV (.bool (hasFv 15 nm tx n len)) w) := by
  cases hm : empB nm with
  | false =>
    have hma := empB_f hm
    have hmb := empB_f' hm
    go_enter Tryz.func110, Tryz.ntmps110
    go_wp2
    go_ret
    exact ⟨ret_boolE (by first | (simp_all [hasFv]; done) | (simp_all [hasFv]; omega)), (by repeat (first | with_reducible exact Ext.refl _ | with_reducible exact hE0 | with_reducible exact hE | with_reducible refine Ext.alloc ?_ _ | with_reducible refine Ext.drewN ?_ _ | with_reducible refine Ext.drew ?_ | ((with_reducible refine Ext.setCell ?_ ?side _); (case side => first | exact Nat.le_refl _ | (simp; done) | (simp; omega)))))⟩
  | true =>
    have hma := empB_t hm
    cases ht : empB tx with
    | false =>
      have hta := empB_f ht
      have htb := empB_f' ht
      go_enter Tryz.func110, Tryz.ntmps110
      go_wp2
      go_ret
      exact ⟨ret_boolE (by first | (simp_all [hasFv]; done) | (simp_all [hasFv]; omega)), (by repeat (first | with_reducible exact Ext.refl _ | with_reducible exact hE0 | with_reducible exact hE | with_reducible refine Ext.alloc ?_ _ | with_reducible refine Ext.drewN ?_ _ | with_reducible refine Ext.drew ?_ | ((with_reducible refine Ext.setCell ?_ ?side _); (case side => first | exact Nat.le_refl _ | (simp; done) | (simp; omega)))))⟩
    | true =>
      have hta := empB_t ht
      cases hz : decide (n = 0) with
      | false =>
        have hza : (n == 0) = false := by simpa using hz
        have hzb : ¬ n = 0 := of_decide_eq_false hz
        have hzc : (n != 0) = true := by simpa using hz
        go_enter Tryz.func110, Tryz.ntmps110
        go_wp2
        go_ret
        exact ⟨ret_boolE (by first | (simp_all [hasFv]; done) | (simp_all [hasFv]; omega)), (by repeat (first | with_reducible exact Ext.refl _ | with_reducible exact hE0 | with_reducible exact hE | with_reducible refine Ext.alloc ?_ _ | with_reducible refine Ext.drewN ?_ _ | with_reducible refine Ext.drew ?_ | ((with_reducible refine Ext.setCell ?_ ?side _); (case side => first | exact Nat.le_refl _ | (simp; done) | (simp; omega)))))⟩
      | true =>
        have hza : n = 0 := of_decide_eq_true hz
        subst hza
        cases hl1 : decide (2 ≤ len) with
        | false =>
          have hla : ¬ (2 : Int) ≤ len := by have := of_decide_eq_false hl1; omega
          go_enter Tryz.func110, Tryz.ntmps110
          go_wp2
          go_ret
          exact ⟨ret_boolE (by first | (simp_all [hasFv]; done) | (simp_all [hasFv]; omega)), (by repeat (first | with_reducible exact Ext.refl _ | with_reducible exact hE0 | with_reducible exact hE | with_reducible refine Ext.alloc ?_ _ | with_reducible refine Ext.drewN ?_ _ | with_reducible refine Ext.drew ?_ | ((with_reducible refine Ext.setCell ?_ ?side _); (case side => first | exact Nat.le_refl _ | (simp; done) | (simp; omega)))))⟩
        | true =>
          have hla : (2 : Int) ≤ len := by have := of_decide_eq_true hl1; omega
          cases hl2 : decide (len ≤ 17) with
          | false =>
            have hlb : ¬ (len : Int) ≤ 17 := by have := of_decide_eq_false hl2; omega
            go_enter Tryz.func110, Tryz.ntmps110
            go_wp2
            go_ret
            exact ⟨ret_boolE (by first | (simp_all [hasFv]; done) | (simp_all [hasFv]; omega)), (by repeat (first | with_reducible exact Ext.refl _ | with_reducible exact hE0 | with_reducible exact hE | with_reducible refine Ext.alloc ?_ _ | with_reducible refine Ext.drewN ?_ _ | with_reducible refine Ext.drew ?_ | ((with_reducible refine Ext.setCell ?_ ?side _); (case side => first | exact Nat.le_refl _ | (simp; done) | (simp; omega)))))⟩
          | true =>
            have hlb : (len : Int) ≤ 17 := by have := of_decide_eq_true hl2; omega
            go_enter Tryz.func110, Tryz.ntmps110
            go_wp2
            go_ret
            exact ⟨ret_boolE (by first | (simp_all [hasFv]; done) | (simp_all [hasFv]; omega)), (by repeat (first | with_reducible exact Ext.refl _ | with_reducible exact hE0 | with_reducible exact hE | with_reducible refine Ext.alloc ?_ _ | with_reducible refine Ext.drewN ?_ _ | with_reducible refine Ext.drew ?_ | ((with_reducible refine Ext.setCell ?_ ?side _); (case side => first | exact Nat.le_refl _ | (simp; done) | (simp; omega)))))⟩
set_option maxRecDepth 8000 in
set_option maxHeartbeats 4000000 in
theorem hasFx (op : Int) (nm tx : ByteArray) (n : Int) (q : Option Addr) (len cp : Nat) (w : World) (hop : op < 1 ∨ 17 < op) : Calls Tryz.prog 110 #[.agg #[.int .i64 op, .string nm, .string tx, .int .i64 n, .slice q len cp]] w (OneV (.bool (hasFv op nm tx n len)) w) := by
  have o1 : (op == 1) = false := by simp; omega
  have o2 : (op == 2) = false := by simp; omega
  have o3 : (op == 3) = false := by simp; omega
  have o4 : (op == 4) = false := by simp; omega
  have o5 : (op == 5) = false := by simp; omega
  have o6 : (op == 6) = false := by simp; omega
  have o7 : (op == 7) = false := by simp; omega
  have o8 : (op == 8) = false := by simp; omega
  have o9 : (op == 9) = false := by simp; omega
  have o10 : (op == 10) = false := by simp; omega
  have o11 : (op == 11) = false := by simp; omega
  have o12 : (op == 12) = false := by simp; omega
  have o13 : (op == 13) = false := by simp; omega
  have o14 : (op == 14) = false := by simp; omega
  have o15 : (op == 15) = false := by simp; omega
  have o16 : (op == 16) = false := by simp; omega
  have o17 : (op == 17) = false := by simp; omega
  have hv : hasFv op nm tx n len = false := by
    unfold hasFv
    rw [if_neg (by omega), if_neg (by omega), if_neg (by omega), if_neg (by omega)]
    split
    · rfl
    · rw [if_neg (by omega), if_neg (by omega), if_neg (by omega)]
  rw [hv]
  clear hv hop
  cases hm : empB nm with
  | false =>
    have hma := empB_f hm
    have hmb := empB_f' hm
    go_enter Tryz.func110, Tryz.ntmps110
    go_wp2
    go_ret
    exact ⟨rfl, (by repeat (first | with_reducible exact Ext.refl _ | with_reducible exact hE0 | with_reducible exact hE | with_reducible refine Ext.alloc ?_ _ | with_reducible refine Ext.drewN ?_ _ | with_reducible refine Ext.drew ?_ | ((with_reducible refine Ext.setCell ?_ ?side _); (case side => first | exact Nat.le_refl _ | (simp; done) | (simp; omega)))))⟩
  | true =>
    have hma := empB_t hm
    cases ht : empB tx with
    | false =>
      have hta := empB_f ht
      have htb := empB_f' ht
      go_enter Tryz.func110, Tryz.ntmps110
      go_wp2
      go_ret
      exact ⟨rfl, (by repeat (first | with_reducible exact Ext.refl _ | with_reducible exact hE0 | with_reducible exact hE | with_reducible refine Ext.alloc ?_ _ | with_reducible refine Ext.drewN ?_ _ | with_reducible refine Ext.drew ?_ | ((with_reducible refine Ext.setCell ?_ ?side _); (case side => first | exact Nat.le_refl _ | (simp; done) | (simp; omega)))))⟩
    | true =>
      have hta := empB_t ht
      cases hz : decide (n = 0) with
      | false =>
        have hza : (n == 0) = false := by simpa using hz
        have hzb : ¬ n = 0 := of_decide_eq_false hz
        have hzc : (n != 0) = true := by simpa using hz
        go_enter Tryz.func110, Tryz.ntmps110
        go_wp2
        go_ret
        exact ⟨rfl, (by repeat (first | with_reducible exact Ext.refl _ | with_reducible exact hE0 | with_reducible exact hE | with_reducible refine Ext.alloc ?_ _ | with_reducible refine Ext.drewN ?_ _ | with_reducible refine Ext.drew ?_ | ((with_reducible refine Ext.setCell ?_ ?side _); (case side => first | exact Nat.le_refl _ | (simp; done) | (simp; omega)))))⟩
      | true =>
        have hza : n = 0 := of_decide_eq_true hz
        subst hza
        go_enter Tryz.func110, Tryz.ntmps110
        go_wp2
        go_ret
        exact ⟨rfl, (by repeat (first | with_reducible exact Ext.refl _ | with_reducible exact hE0 | with_reducible exact hE | with_reducible refine Ext.alloc ?_ _ | with_reducible refine Ext.drewN ?_ _ | with_reducible refine Ext.drew ?_ | ((with_reducible refine Ext.setCell ?_ ?side _); (case side => first | exact Nat.le_refl _ | (simp; done) | (simp; omega)))))⟩
end Go.Proofs.YtpdpjindmghfpaaGreatDoor
