/- Contracts of hasFields by operator (walks; printed by gen/hasf.py, parted). -/
import Derived.Test.YtpdpjindmghfpaaGreatDoorEh0
namespace Go.Proofs.YtpdpjindmghfpaaGreatDoor
open Go.RowKit
set_option maxRecDepth 8000 in
set_option maxHeartbeats 4000000 in
theorem hasF16 (nm tx : ByteArray) (n : Int) (q : Option Addr) (len cp : Nat) (w : World) : Calls Tryz.prog 110 #[.agg #[.int .i64 16, .string nm, .string tx, .int .i64 n, .slice q len cp]] w (OneV (.bool (hasFv 16 nm tx n len)) w) := by
  cases hN : nameB nm with
  | false =>
    go_enter Tryz.func110, Tryz.ntmps110
    go_wp2_with fail
    refine (isName_any nm _).mono ?_
    rintro e w1 ⟨rfl, rfl⟩
    rw [hN]
    go_wp2
    go_ret
    exact ⟨ret_boolE (by first | (simp_all [hasFv]; done) | (simp_all [hasFv]; omega)), (by repeat (first | with_reducible exact Ext.refl _ | with_reducible exact hE0 | with_reducible exact hE | with_reducible refine Ext.alloc ?_ _ | with_reducible refine Ext.drewN ?_ _ | with_reducible refine Ext.drew ?_ | ((with_reducible refine Ext.setCell ?_ ?side _); (case side => first | exact Nat.le_refl _ | (simp; done) | (simp; omega)))))⟩
  | true =>
    cases hq1 : decide (1 ≤ n) with
    | false =>
      have hq1a : ¬ 1 ≤ n := of_decide_eq_false hq1
      go_enter Tryz.func110, Tryz.ntmps110
      go_wp2_with fail
      refine (isName_any nm _).mono ?_
      rintro e w1 ⟨rfl, rfl⟩
      rw [hN]
      go_wp2
      go_ret
      exact ⟨ret_boolE (by first | (simp_all [hasFv]; done) | (simp_all [hasFv]; omega)), (by repeat (first | with_reducible exact Ext.refl _ | with_reducible exact hE0 | with_reducible exact hE | with_reducible refine Ext.alloc ?_ _ | with_reducible refine Ext.drewN ?_ _ | with_reducible refine Ext.drew ?_ | ((with_reducible refine Ext.setCell ?_ ?side _); (case side => first | exact Nat.le_refl _ | (simp; done) | (simp; omega)))))⟩
    | true =>
      have hq1a : 1 ≤ n := of_decide_eq_true hq1
      cases hq2 : decide (n ≤ 10000000) with
      | false =>
        have hq2a : ¬ n ≤ 10000000 := of_decide_eq_false hq2
        go_enter Tryz.func110, Tryz.ntmps110
        go_wp2_with fail
        refine (isName_any nm _).mono ?_
        rintro e w1 ⟨rfl, rfl⟩
        rw [hN]
        go_wp2
        go_ret
        exact ⟨ret_boolE (by first | (simp_all [hasFv]; done) | (simp_all [hasFv]; omega)), (by repeat (first | with_reducible exact Ext.refl _ | with_reducible exact hE0 | with_reducible exact hE | with_reducible refine Ext.alloc ?_ _ | with_reducible refine Ext.drewN ?_ _ | with_reducible refine Ext.drew ?_ | ((with_reducible refine Ext.setCell ?_ ?side _); (case side => first | exact Nat.le_refl _ | (simp; done) | (simp; omega)))))⟩
      | true =>
        have hq2a : n ≤ 10000000 := of_decide_eq_true hq2
        cases hm : empB tx with
        | false =>
          have hma := empB_f hm
          have hmb := empB_f' hm
          go_enter Tryz.func110, Tryz.ntmps110
          go_wp2_with fail
          refine (isName_any nm _).mono ?_
          rintro e w1 ⟨rfl, rfl⟩
          rw [hN]
          go_wp2
          go_ret
          exact ⟨ret_boolE (by first | (simp_all [hasFv]; done) | (simp_all [hasFv]; omega)), (by repeat (first | with_reducible exact Ext.refl _ | with_reducible exact hE0 | with_reducible exact hE | with_reducible refine Ext.alloc ?_ _ | with_reducible refine Ext.drewN ?_ _ | with_reducible refine Ext.drew ?_ | ((with_reducible refine Ext.setCell ?_ ?side _); (case side => first | exact Nat.le_refl _ | (simp; done) | (simp; omega)))))⟩
        | true =>
          have hma := empB_t hm
          cases hlen : decide (len = 0) with
          | false =>
            have hla : ((len : Int) == 0) = false := by have := of_decide_eq_false hlen; simp; omega
            go_enter Tryz.func110, Tryz.ntmps110
            go_wp2_with fail
            refine (isName_any nm _).mono ?_
            rintro e w1 ⟨rfl, rfl⟩
            rw [hN]
            go_wp2
            go_ret
            exact ⟨ret_boolE (by first | (simp_all [hasFv]; done) | (simp_all [hasFv]; omega)), (by repeat (first | with_reducible exact Ext.refl _ | with_reducible exact hE0 | with_reducible exact hE | with_reducible refine Ext.alloc ?_ _ | with_reducible refine Ext.drewN ?_ _ | with_reducible refine Ext.drew ?_ | ((with_reducible refine Ext.setCell ?_ ?side _); (case side => first | exact Nat.le_refl _ | (simp; done) | (simp; omega)))))⟩
          | true =>
            have hla : len = 0 := of_decide_eq_true hlen
            subst hla
            go_enter Tryz.func110, Tryz.ntmps110
            go_wp2_with fail
            refine (isName_any nm _).mono ?_
            rintro e w1 ⟨rfl, rfl⟩
            rw [hN]
            go_wp2
            go_ret
            exact ⟨ret_boolE (by first | (simp_all [hasFv]; done) | (simp_all [hasFv]; omega)), (by repeat (first | with_reducible exact Ext.refl _ | with_reducible exact hE0 | with_reducible exact hE | with_reducible refine Ext.alloc ?_ _ | with_reducible refine Ext.drewN ?_ _ | with_reducible refine Ext.drew ?_ | ((with_reducible refine Ext.setCell ?_ ?side _); (case side => first | exact Nat.le_refl _ | (simp; done) | (simp; omega)))))⟩
set_option maxRecDepth 8000 in
set_option maxHeartbeats 4000000 in
theorem hasF17 (nm tx : ByteArray) (n : Int) (q : Option Addr) (len cp : Nat) (w : World) : Calls Tryz.prog 110 #[.agg #[.int .i64 17, .string nm, .string tx, .int .i64 n, .slice q len cp]] w (OneV (.bool (hasFv 17 nm tx n len)) w) := by
  cases hN : nameB nm with
  | false =>
    go_enter Tryz.func110, Tryz.ntmps110
    go_wp2_with fail
    refine (isName_any nm _).mono ?_
    rintro e w1 ⟨rfl, rfl⟩
    rw [hN]
    go_wp2
    go_ret
    exact ⟨ret_boolE (by first | (simp_all [hasFv]; done) | (simp_all [hasFv]; omega)), (by repeat (first | with_reducible exact Ext.refl _ | with_reducible exact hE0 | with_reducible exact hE | with_reducible refine Ext.alloc ?_ _ | with_reducible refine Ext.drewN ?_ _ | with_reducible refine Ext.drew ?_ | ((with_reducible refine Ext.setCell ?_ ?side _); (case side => first | exact Nat.le_refl _ | (simp; done) | (simp; omega)))))⟩
  | true =>
    cases hq1 : decide (1 ≤ n) with
    | false =>
      have hq1a : ¬ 1 ≤ n := of_decide_eq_false hq1
      go_enter Tryz.func110, Tryz.ntmps110
      go_wp2_with fail
      refine (isName_any nm _).mono ?_
      rintro e w1 ⟨rfl, rfl⟩
      rw [hN]
      go_wp2
      go_ret
      exact ⟨ret_boolE (by first | (simp_all [hasFv]; done) | (simp_all [hasFv]; omega)), (by repeat (first | with_reducible exact Ext.refl _ | with_reducible exact hE0 | with_reducible exact hE | with_reducible refine Ext.alloc ?_ _ | with_reducible refine Ext.drewN ?_ _ | with_reducible refine Ext.drew ?_ | ((with_reducible refine Ext.setCell ?_ ?side _); (case side => first | exact Nat.le_refl _ | (simp; done) | (simp; omega)))))⟩
    | true =>
      have hq1a : 1 ≤ n := of_decide_eq_true hq1
      cases hq2 : decide (n ≤ 10000000) with
      | false =>
        have hq2a : ¬ n ≤ 10000000 := of_decide_eq_false hq2
        go_enter Tryz.func110, Tryz.ntmps110
        go_wp2_with fail
        refine (isName_any nm _).mono ?_
        rintro e w1 ⟨rfl, rfl⟩
        rw [hN]
        go_wp2
        go_ret
        exact ⟨ret_boolE (by first | (simp_all [hasFv]; done) | (simp_all [hasFv]; omega)), (by repeat (first | with_reducible exact Ext.refl _ | with_reducible exact hE0 | with_reducible exact hE | with_reducible refine Ext.alloc ?_ _ | with_reducible refine Ext.drewN ?_ _ | with_reducible refine Ext.drew ?_ | ((with_reducible refine Ext.setCell ?_ ?side _); (case side => first | exact Nat.le_refl _ | (simp; done) | (simp; omega)))))⟩
      | true =>
        have hq2a : n ≤ 10000000 := of_decide_eq_true hq2
        cases hm : empB tx with
        | false =>
          have hma := empB_f hm
          have hmb := empB_f' hm
          go_enter Tryz.func110, Tryz.ntmps110
          go_wp2_with fail
          refine (isName_any nm _).mono ?_
          rintro e w1 ⟨rfl, rfl⟩
          rw [hN]
          go_wp2
          go_ret
          exact ⟨ret_boolE (by first | (simp_all [hasFv]; done) | (simp_all [hasFv]; omega)), (by repeat (first | with_reducible exact Ext.refl _ | with_reducible exact hE0 | with_reducible exact hE | with_reducible refine Ext.alloc ?_ _ | with_reducible refine Ext.drewN ?_ _ | with_reducible refine Ext.drew ?_ | ((with_reducible refine Ext.setCell ?_ ?side _); (case side => first | exact Nat.le_refl _ | (simp; done) | (simp; omega)))))⟩
        | true =>
          have hma := empB_t hm
          cases hlen : decide (len = 0) with
          | false =>
            have hla : ((len : Int) == 0) = false := by have := of_decide_eq_false hlen; simp; omega
            go_enter Tryz.func110, Tryz.ntmps110
            go_wp2_with fail
            refine (isName_any nm _).mono ?_
            rintro e w1 ⟨rfl, rfl⟩
            rw [hN]
            go_wp2
            go_ret
            exact ⟨ret_boolE (by first | (simp_all [hasFv]; done) | (simp_all [hasFv]; omega)), (by repeat (first | with_reducible exact Ext.refl _ | with_reducible exact hE0 | with_reducible exact hE | with_reducible refine Ext.alloc ?_ _ | with_reducible refine Ext.drewN ?_ _ | with_reducible refine Ext.drew ?_ | ((with_reducible refine Ext.setCell ?_ ?side _); (case side => first | exact Nat.le_refl _ | (simp; done) | (simp; omega)))))⟩
          | true =>
            have hla : len = 0 := of_decide_eq_true hlen
            subst hla
            go_enter Tryz.func110, Tryz.ntmps110
            go_wp2_with fail
            refine (isName_any nm _).mono ?_
            rintro e w1 ⟨rfl, rfl⟩
            rw [hN]
            go_wp2
            go_ret
            exact ⟨ret_boolE (by first | (simp_all [hasFv]; done) | (simp_all [hasFv]; omega)), (by repeat (first | with_reducible exact Ext.refl _ | with_reducible exact hE0 | with_reducible exact hE | with_reducible refine Ext.alloc ?_ _ | with_reducible refine Ext.drewN ?_ _ | with_reducible refine Ext.drew ?_ | ((with_reducible refine Ext.setCell ?_ ?side _); (case side => first | exact Nat.le_refl _ | (simp; done) | (simp; omega)))))⟩
set_option maxRecDepth 8000 in
set_option maxHeartbeats 4000000 in
theorem hasF4 (nm tx : ByteArray) (n : Int) (q : Option Addr) (len cp : Nat) (w : World) : Calls Tryz.prog 110 #[.agg #[.int .i64 4, .string nm, .string tx, .int .i64 n, .slice q len cp]] w (OneV (.bool (hasFv 4 nm tx n len)) w) := by
  cases hm : empB nm with
  | false =>
    have hma := empB_f hm
    have hmb := empB_f' hm
    go_enter Tryz.func110, Tryz.ntmps110
    go_wp2
    go_ret
    exact ⟨ret_boolE (by first | (simp_all [hasFv]; done) | (simp_all [hasFv]; omega)), (by repeat (first | with_reducible exact Ext.refl _ | with_reducible exact hE0 | with_reducible exact hE | with_reducible refine Ext.alloc ?_ _ | with_reducible refine Ext.drewN ?_ _ | with_reducible refine Ext.drew ?_ | ((with_reducible refine Ext.setCell ?_ ?side _); (case side => first | exact Nat.le_refl _ | (simp; done) | (simp; omega)))))⟩
  | true =>
    have hma := empB_t hm
    cases ht : empB tx with
    | false =>
      have hta := empB_f ht
      have htb := empB_f' ht
      go_enter Tryz.func110, Tryz.ntmps110
      go_wp2
      go_ret
      exact ⟨ret_boolE (by first | (simp_all [hasFv]; done) | (simp_all [hasFv]; omega)), (by repeat (first | with_reducible exact Ext.refl _ | with_reducible exact hE0 | with_reducible exact hE | with_reducible refine Ext.alloc ?_ _ | with_reducible refine Ext.drewN ?_ _ | with_reducible refine Ext.drew ?_ | ((with_reducible refine Ext.setCell ?_ ?side _); (case side => first | exact Nat.le_refl _ | (simp; done) | (simp; omega)))))⟩
    | true =>
      have hta := empB_t ht
      cases hz : decide (n = 0) with
      | false =>
        have hza : (n == 0) = false := by simpa using hz
        have hzb : ¬ n = 0 := of_decide_eq_false hz
        have hzc : (n != 0) = true := by simpa using hz
        go_enter Tryz.func110, Tryz.ntmps110
        go_wp2
        go_ret
        exact ⟨ret_boolE (by first | (simp_all [hasFv]; done) | (simp_all [hasFv]; omega)), (by repeat (first | with_reducible exact Ext.refl _ | with_reducible exact hE0 | with_reducible exact hE | with_reducible refine Ext.alloc ?_ _ | with_reducible refine Ext.drewN ?_ _ | with_reducible refine Ext.drew ?_ | ((with_reducible refine Ext.setCell ?_ ?side _); (case side => first | exact Nat.le_refl _ | (simp; done) | (simp; omega)))))⟩
      | true =>
        have hza : n = 0 := of_decide_eq_true hz
        subst hza
        cases hlen : decide (len = 1) with
        | false =>
          have hla : ((len : Int) == 1) = false := by have := of_decide_eq_false hlen; simp; omega
          go_enter Tryz.func110, Tryz.ntmps110
          go_wp2
          go_ret
          exact ⟨ret_boolE (by first | (simp_all [hasFv]; done) | (simp_all [hasFv]; omega)), (by repeat (first | with_reducible exact Ext.refl _ | with_reducible exact hE0 | with_reducible exact hE | with_reducible refine Ext.alloc ?_ _ | with_reducible refine Ext.drewN ?_ _ | with_reducible refine Ext.drew ?_ | ((with_reducible refine Ext.setCell ?_ ?side _); (case side => first | exact Nat.le_refl _ | (simp; done) | (simp; omega)))))⟩
        | true =>
          have hla : len = 1 := of_decide_eq_true hlen
          subst hla
          go_enter Tryz.func110, Tryz.ntmps110
          go_wp2
          go_ret
          exact ⟨ret_boolE (by first | (simp_all [hasFv]; done) | (simp_all [hasFv]; omega)), (by repeat (first | with_reducible exact Ext.refl _ | with_reducible exact hE0 | with_reducible exact hE | with_reducible refine Ext.alloc ?_ _ | with_reducible refine Ext.drewN ?_ _ | with_reducible refine Ext.drew ?_ | ((with_reducible refine Ext.setCell ?_ ?side _); (case side => first | exact Nat.le_refl _ | (simp; done) | (simp; omega)))))⟩
set_option maxRecDepth 8000 in
set_option maxHeartbeats 4000000 in
theorem hasF5 (nm tx : ByteArray) (n : Int) (q : Option Addr) (len cp : Nat) (w : World) : Calls Tryz.prog 110 #[.agg #[.int .i64 5, .string nm, .string tx, .int .i64 n, .slice q len cp]] w (OneV (.bool (hasFv 5 nm tx n len)) w) := by
  cases hm : empB nm with
  | false =>
    have hma := empB_f hm
    have hmb := empB_f' hm
    go_enter Tryz.func110, Tryz.ntmps110
    go_wp2
    go_ret
    exact ⟨ret_boolE (by first | (simp_all [hasFv]; done) | (simp_all [hasFv]; omega)), (by repeat (first | with_reducible exact Ext.refl _ | with_reducible exact hE0 | with_reducible exact hE | with_reducible refine Ext.alloc ?_ _ | with_reducible refine Ext.drewN ?_ _ | with_reducible refine Ext.drew ?_ | ((with_reducible refine Ext.setCell ?_ ?side _); (case side => first | exact Nat.le_refl _ | (simp; done) | (simp; omega)))))⟩
  | true =>
    have hma := empB_t hm
    cases ht : empB tx with
    | false =>
      have hta := empB_f ht
      have htb := empB_f' ht
      go_enter Tryz.func110, Tryz.ntmps110
      go_wp2
      go_ret
      exact ⟨ret_boolE (by first | (simp_all [hasFv]; done) | (simp_all [hasFv]; omega)), (by repeat (first | with_reducible exact Ext.refl _ | with_reducible exact hE0 | with_reducible exact hE | with_reducible refine Ext.alloc ?_ _ | with_reducible refine Ext.drewN ?_ _ | with_reducible refine Ext.drew ?_ | ((with_reducible refine Ext.setCell ?_ ?side _); (case side => first | exact Nat.le_refl _ | (simp; done) | (simp; omega)))))⟩
    | true =>
      have hta := empB_t ht
      cases hz : decide (n = 0) with
      | false =>
        have hza : (n == 0) = false := by simpa using hz
        have hzb : ¬ n = 0 := of_decide_eq_false hz
        have hzc : (n != 0) = true := by simpa using hz
        go_enter Tryz.func110, Tryz.ntmps110
        go_wp2
        go_ret
        exact ⟨ret_boolE (by first | (simp_all [hasFv]; done) | (simp_all [hasFv]; omega)), (by repeat (first | with_reducible exact Ext.refl _ | with_reducible exact hE0 | with_reducible exact hE | with_reducible refine Ext.alloc ?_ _ | with_reducible refine Ext.drewN ?_ _ | with_reducible refine Ext.drew ?_ | ((with_reducible refine Ext.setCell ?_ ?side _); (case side => first | exact Nat.le_refl _ | (simp; done) | (simp; omega)))))⟩
      | true =>
        have hza : n = 0 := of_decide_eq_true hz
        subst hza
        cases hlen : decide (len = 1) with
        | false =>
          have hla : ((len : Int) == 1) = false := by have := of_decide_eq_false hlen; simp; omega
          go_enter Tryz.func110, Tryz.ntmps110
          go_wp2
          go_ret
          exact ⟨ret_boolE (by first | (simp_all [hasFv]; done) | (simp_all [hasFv]; omega)), (by repeat (first | with_reducible exact Ext.refl _ | with_reducible exact hE0 | with_reducible exact hE | with_reducible refine Ext.alloc ?_ _ | with_reducible refine Ext.drewN ?_ _ | with_reducible refine Ext.drew ?_ | ((with_reducible refine Ext.setCell ?_ ?side _); (case side => first | exact Nat.le_refl _ | (simp; done) | (simp; omega)))))⟩
        | true =>
          have hla : len = 1 := of_decide_eq_true hlen
          subst hla
          go_enter Tryz.func110, Tryz.ntmps110
          go_wp2
          go_ret
          exact ⟨ret_boolE (by first | (simp_all [hasFv]; done) | (simp_all [hasFv]; omega)), (by repeat (first | with_reducible exact Ext.refl _ | with_reducible exact hE0 | with_reducible exact hE | with_reducible refine Ext.alloc ?_ _ | with_reducible refine Ext.drewN ?_ _ | with_reducible refine Ext.drew ?_ | ((with_reducible refine Ext.setCell ?_ ?side _); (case side => first | exact Nat.le_refl _ | (simp; done) | (simp; omega)))))⟩
set_option maxRecDepth 8000 in
set_option maxHeartbeats 4000000 in
theorem hasF6 (nm tx : ByteArray) (n : Int) (q : Option Addr) (len cp : Nat) (w : World) : Calls Tryz.prog 110 #[.agg #[.int .i64 6, .string nm, .string tx, .int .i64 n, .slice q len cp]] w (OneV (.bool (hasFv 6 nm tx n len)) w) := by
  cases hm : empB nm with
  | false =>
    have hma := empB_f hm
    have hmb := empB_f' hm
    go_enter Tryz.func110, Tryz.ntmps110
    go_wp2
    go_ret
    exact ⟨ret_boolE (by first | (simp_all [hasFv]; done) | (simp_all [hasFv]; omega)), (by repeat (first | with_reducible exact Ext.refl _ | with_reducible exact hE0 | with_reducible exact hE | with_reducible refine Ext.alloc ?_ _ | with_reducible refine Ext.drewN ?_ _ | with_reducible refine Ext.drew ?_ | ((with_reducible refine Ext.setCell ?_ ?side _); (case side => first | exact Nat.le_refl _ | (simp; done) | (simp; omega)))))⟩
  | true =>
    have hma := empB_t hm
    cases ht : empB tx with
    | false =>
      have hta := empB_f ht
      have htb := empB_f' ht
      go_enter Tryz.func110, Tryz.ntmps110
      go_wp2
      go_ret
      exact ⟨ret_boolE (by first | (simp_all [hasFv]; done) | (simp_all [hasFv]; omega)), (by repeat (first | with_reducible exact Ext.refl _ | with_reducible exact hE0 | with_reducible exact hE | with_reducible refine Ext.alloc ?_ _ | with_reducible refine Ext.drewN ?_ _ | with_reducible refine Ext.drew ?_ | ((with_reducible refine Ext.setCell ?_ ?side _); (case side => first | exact Nat.le_refl _ | (simp; done) | (simp; omega)))))⟩
    | true =>
      have hta := empB_t ht
      cases hz : decide (n = 0) with
      | false =>
        have hza : (n == 0) = false := by simpa using hz
        have hzb : ¬ n = 0 := of_decide_eq_false hz
        have hzc : (n != 0) = true := by simpa using hz
        go_enter Tryz.func110, Tryz.ntmps110
        go_wp2
        go_ret
        exact ⟨ret_boolE (by first | (simp_all [hasFv]; done) | (simp_all [hasFv]; omega)), (by repeat (first | with_reducible exact Ext.refl _ | with_reducible exact hE0 | with_reducible exact hE | with_reducible refine Ext.alloc ?_ _ | with_reducible refine Ext.drewN ?_ _ | with_reducible refine Ext.drew ?_ | ((with_reducible refine Ext.setCell ?_ ?side _); (case side => first | exact Nat.le_refl _ | (simp; done) | (simp; omega)))))⟩
      | true =>
        have hza : n = 0 := of_decide_eq_true hz
        subst hza
        cases hlen : decide (len = 2) with
        | false =>
          have hla : ((len : Int) == 2) = false := by have := of_decide_eq_false hlen; simp; omega
          go_enter Tryz.func110, Tryz.ntmps110
          go_wp2
          go_ret
          exact ⟨ret_boolE (by first | (simp_all [hasFv]; done) | (simp_all [hasFv]; omega)), (by repeat (first | with_reducible exact Ext.refl _ | with_reducible exact hE0 | with_reducible exact hE | with_reducible refine Ext.alloc ?_ _ | with_reducible refine Ext.drewN ?_ _ | with_reducible refine Ext.drew ?_ | ((with_reducible refine Ext.setCell ?_ ?side _); (case side => first | exact Nat.le_refl _ | (simp; done) | (simp; omega)))))⟩
        | true =>
          have hla : len = 2 := of_decide_eq_true hlen
          subst hla
          go_enter Tryz.func110, Tryz.ntmps110
          go_wp2
          go_ret
          exact ⟨ret_boolE (by first | (simp_all [hasFv]; done) | (simp_all [hasFv]; omega)), (by repeat (first | with_reducible exact Ext.refl _ | with_reducible exact hE0 | with_reducible exact hE | with_reducible refine Ext.alloc ?_ _ | with_reducible refine Ext.drewN ?_ _ | with_reducible refine Ext.drew ?_ | ((with_reducible refine Ext.setCell ?_ ?side _); (case side => first | exact Nat.le_refl _ | (simp; done) | (simp; omega)))))⟩
set_option maxRecDepth 8000 in
set_option maxHeartbeats 4000000 in
theorem hasF7 (nm tx : ByteArray) (n : Int) (q : Option Addr) (len cp : Nat) (w : World) : Calls Tryz.prog 110 #[.agg #[.int .i64 7, .string nm, .string tx, .int .i64 n, .slice q len cp]] w (OneV (.bool (hasFv 7 nm tx n len)) w) := by
  cases hm : empB nm with
  | false =>
    have hma := empB_f hm
    have hmb := empB_f' hm
    go_enter Tryz.func110, Tryz.ntmps110
    go_wp2
    go_ret
    exact ⟨ret_boolE (by first | (simp_all [hasFv]; done) | (simp_all [hasFv]; omega)), (by repeat (first | with_reducible exact Ext.refl _ | with_reducible exact hE0 | with_reducible exact hE | with_reducible refine Ext.alloc ?_ _ | with_reducible refine Ext.drewN ?_ _ | with_reducible refine Ext.drew ?_ | ((with_reducible refine Ext.setCell ?_ ?side _); (case side => first | exact Nat.le_refl _ | (simp; done) | (simp; omega)))))⟩
  | true =>
    have hma := empB_t hm
    cases ht : empB tx with
    | false =>
      have hta := empB_f ht
      have htb := empB_f' ht
      go_enter Tryz.func110, Tryz.ntmps110
      go_wp2
      go_ret
      exact ⟨ret_boolE (by first | (simp_all [hasFv]; done) | (simp_all [hasFv]; omega)), (by repeat (first | with_reducible exact Ext.refl _ | with_reducible exact hE0 | with_reducible exact hE | with_reducible refine Ext.alloc ?_ _ | with_reducible refine Ext.drewN ?_ _ | with_reducible refine Ext.drew ?_ | ((with_reducible refine Ext.setCell ?_ ?side _); (case side => first | exact Nat.le_refl _ | (simp; done) | (simp; omega)))))⟩
    | true =>
      have hta := empB_t ht
      cases hz : decide (n = 0) with
      | false =>
        have hza : (n == 0) = false := by simpa using hz
        have hzb : ¬ n = 0 := of_decide_eq_false hz
        have hzc : (n != 0) = true := by simpa using hz
        go_enter Tryz.func110, Tryz.ntmps110
        go_wp2
        go_ret
        exact ⟨ret_boolE (by first | (simp_all [hasFv]; done) | (simp_all [hasFv]; omega)), (by repeat (first | with_reducible exact Ext.refl _ | with_reducible exact hE0 | with_reducible exact hE | with_reducible refine Ext.alloc ?_ _ | with_reducible refine Ext.drewN ?_ _ | with_reducible refine Ext.drew ?_ | ((with_reducible refine Ext.setCell ?_ ?side _); (case side => first | exact Nat.le_refl _ | (simp; done) | (simp; omega)))))⟩
      | true =>
        have hza : n = 0 := of_decide_eq_true hz
        subst hza
        cases hlen : decide (len = 2) with
        | false =>
          have hla : ((len : Int) == 2) = false := by have := of_decide_eq_false hlen; simp; omega
          go_enter Tryz.func110, Tryz.ntmps110
          go_wp2
          go_ret
          exact ⟨ret_boolE (by first | (simp_all [hasFv]; done) | (simp_all [hasFv]; omega)), (by repeat (first | with_reducible exact Ext.refl _ | with_reducible exact hE0 | with_reducible exact hE | with_reducible refine Ext.alloc ?_ _ | with_reducible refine Ext.drewN ?_ _ | with_reducible refine Ext.drew ?_ | ((with_reducible refine Ext.setCell ?_ ?side _); (case side => first | exact Nat.le_refl _ | (simp; done) | (simp; omega)))))⟩
        | true =>
          have hla : len = 2 := of_decide_eq_true hlen
          subst hla
          go_enter Tryz.func110, Tryz.ntmps110
          go_wp2
          go_ret
          exact ⟨ret_boolE (by first | (simp_all [hasFv]; done) | (simp_all [hasFv]; omega)), (by repeat (first | with_reducible exact Ext.refl _ | with_reducible exact hE0 | with_reducible exact hE | with_reducible refine Ext.alloc ?_ _ | with_reducible refine Ext.drewN ?_ _ | with_reducible refine Ext.drew ?_ | ((with_reducible refine Ext.setCell ?_ ?side _); (case side => first | exact Nat.le_refl _ | (simp; done) | (simp; omega)))))⟩
end Go.Proofs.YtpdpjindmghfpaaGreatDoor
