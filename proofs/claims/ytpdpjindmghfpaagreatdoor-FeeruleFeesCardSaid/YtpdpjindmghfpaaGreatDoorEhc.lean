/- Contracts of hasFields by operator (walks; printed by gen/hasf.py, parted). -/
import Derived.Test.YtpdpjindmghfpaaGreatDoorEh0
namespace Go.Proofs.YtpdpjindmghfpaaGreatDoor
open Go.RowKit
set_option maxRecDepth 8000 in
set_option maxHeartbeats 4000000 in
theorem hasF8 (nm tx : ByteArray) (n : Int) (q : Option Addr) (len cp : Nat) (w : World) : Calls Tryz.prog 110 #[.agg #[.int .i64 8, .string nm, .string tx, .int .i64 n, .slice q len cp]] w (OneV (.bool (hasFv 8 nm tx n len)) w) := by
  cases hm : empB nm with
  | false =>
    have hma := empB_f hm
    have hmb := empB_f' hm
    go_enter Tryz.func110, Tryz.ntmps110
    go_wp2
    go_ret
    exact ⟨ret_boolE (by first | (simp_all [hasFv]; done) | (simp_all [hasFv]; omega)), (by repeat (first | with_reducible exact Ext.refl _ | with_reducible exact hE0 | with_reducible exact hE | with_reducible refine Ext.alloc ?_ _ | with_reducible refine Ext.drewN ?_ _ | with_reducible refine Ext.drew ?_ | ((with_reducible refine Ext.setCell ?_ ?side _); (case side => first | exact Nat.le_refl _ | (simp; done) | (simp; omega)))))⟩
  | true =>
    have hma := empB_t hm
    cases ht : empB tx with
    | false =>
      have hta := empB_f ht
      have htb := empB_f' ht
      go_enter Tryz.func110, Tryz.ntmps110
      go_wp2
      go_ret
      exact ⟨ret_boolE (by first | (simp_all [hasFv]; done) | (simp_all [hasFv]; omega)), (by repeat (first | with_reducible exact Ext.refl _ | with_reducible exact hE0 | with_reducible exact hE | with_reducible refine Ext.alloc ?_ _ | with_reducible refine Ext.drewN ?_ _ | with_reducible refine Ext.drew ?_ | ((with_reducible refine Ext.setCell ?_ ?side _); (case side => first | exact Nat.le_refl _ | (simp; done) | (simp; omega)))))⟩
    | true =>
      have hta := empB_t ht
      cases hz : decide (n = 0) with
      | false =>
        have hza : (n == 0) = false := by simpa using hz
        have hzb : ¬ n = 0 := of_decide_eq_false hz
        have hzc : (n != 0) = true := by simpa using hz
        go_enter Tryz.func110, Tryz.ntmps110
        go_wp2
        go_ret
        exact ⟨ret_boolE (by first | (simp_all [hasFv]; done) | (simp_all [hasFv]; omega)), (by repeat (first | with_reducible exact Ext.refl _ | with_reducible exact hE0 | with_reducible exact hE | with_reducible refine Ext.alloc ?_ _ | with_reducible refine Ext.drewN ?_ _ | with_reducible refine Ext.drew ?_ | ((with_reducible refine Ext.setCell ?_ ?side _); (case side => first | exact Nat.le_refl _ | (simp; done) | (simp; omega)))))⟩
      | true =>
        have hza : n = 0 := of_decide_eq_true hz
        subst hza
        cases hlen : decide (len = 2) with
        | false =>
          have hla : ((len : Int) == 2) = false := by have := of_decide_eq_false hlen; simp; omega
          go_enter Tryz.func110, Tryz.ntmps110
          go_wp2
          go_ret
          exact ⟨ret_boolE (by first | (simp_all [hasFv]; done) | (simp_all [hasFv]; omega)), (by repeat (first | with_reducible exact Ext.refl _ | with_reducible exact hE0 | with_reducible exact hE | with_reducible refine Ext.alloc ?_ _ | with_reducible refine Ext.drewN ?_ _ | with_reducible refine Ext.drew ?_ | ((with_reducible refine Ext.setCell ?_ ?side _); (case side => first | exact Nat.le_refl _ | (simp; done) | (simp; omega)))))⟩
        | true =>
          have hla : len = 2 := of_decide_eq_true hlen
          subst hla
          go_enter Tryz.func110, Tryz.ntmps110
          go_wp2
          go_ret
          exact ⟨ret_boolE (by first | (simp_all [hasFv]; done) | (simp_all [hasFv]; omega)), (by repeat (first | with_reducible exact Ext.refl _ | with_reducible exact hE0 | with_reducible exact hE | with_reducible refine Ext.alloc ?_ _ | with_reducible refine Ext.drewN ?_ _ | with_reducible refine Ext.drew ?_ | ((with_reducible refine Ext.setCell ?_ ?side _); (case side => first | exact Nat.le_refl _ | (simp; done) | (simp; omega)))))⟩
set_option maxRecDepth 8000 in
set_option maxHeartbeats 4000000 in
theorem hasF9 (nm tx : ByteArray) (n : Int) (q : Option Addr) (len cp : Nat) (w : World) : Calls Tryz.prog 110 #[.agg #[.int .i64 9, .string nm, .string tx, .int .i64 n, .slice q len cp]] w (OneV (.bool (hasFv 9 nm tx n len)) w) := by
  cases hm : empB nm with
  | false =>
    have hma := empB_f hm
    have hmb := empB_f' hm
    go_enter Tryz.func110, Tryz.ntmps110
    go_wp2
    go_ret
    exact ⟨ret_boolE (by first | (simp_all [hasFv]; done) | (simp_all [hasFv]; omega)), (by repeat (first | with_reducible exact Ext.refl _ | with_reducible exact hE0 | with_reducible exact hE | with_reducible refine Ext.alloc ?_ _ | with_reducible refine Ext.drewN ?_ _ | with_reducible refine Ext.drew ?_ | ((with_reducible refine Ext.setCell ?_ ?side _); (case side => first | exact Nat.le_refl _ | (simp; done) | (simp; omega)))))⟩
  | true =>
    have hma := empB_t hm
    cases ht : empB tx with
    | false =>
      have hta := empB_f ht
      have htb := empB_f' ht
      go_enter Tryz.func110, Tryz.ntmps110
      go_wp2
      go_ret
      exact ⟨ret_boolE (by first | (simp_all [hasFv]; done) | (simp_all [hasFv]; omega)), (by repeat (first | with_reducible exact Ext.refl _ | with_reducible exact hE0 | with_reducible exact hE | with_reducible refine Ext.alloc ?_ _ | with_reducible refine Ext.drewN ?_ _ | with_reducible refine Ext.drew ?_ | ((with_reducible refine Ext.setCell ?_ ?side _); (case side => first | exact Nat.le_refl _ | (simp; done) | (simp; omega)))))⟩
    | true =>
      have hta := empB_t ht
      cases hz : decide (n = 0) with
      | false =>
        have hza : (n == 0) = false := by simpa using hz
        have hzb : ¬ n = 0 := of_decide_eq_false hz
        have hzc : (n != 0) = true := by simpa using hz
        go_enter Tryz.func110, Tryz.ntmps110
        go_wp2
        go_ret
        exact ⟨ret_boolE (by first | (simp_all [hasFv]; done) | (simp_all [hasFv]; omega)), (by repeat (first | with_reducible exact Ext.refl _ | with_reducible exact hE0 | with_reducible exact hE | with_reducible refine Ext.alloc ?_ _ | with_reducible refine Ext.drewN ?_ _ | with_reducible refine Ext.drew ?_ | ((with_reducible refine Ext.setCell ?_ ?side _); (case side => first | exact Nat.le_refl _ | (simp; done) | (simp; omega)))))⟩
      | true =>
        have hza : n = 0 := of_decide_eq_true hz
        subst hza
        cases hlen : decide (len = 2) with
        | false =>
          have hla : ((len : Int) == 2) = false := by have := of_decide_eq_false hlen; simp; omega
          go_enter Tryz.func110, Tryz.ntmps110
          go_wp2
          go_ret
          exact ⟨ret_boolE (by first | (simp_all [hasFv]; done) | (simp_all [hasFv]; omega)), (by repeat (first | with_reducible exact Ext.refl _ | with_reducible exact hE0 | with_reducible exact hE | with_reducible refine Ext.alloc ?_ _ | with_reducible refine Ext.drewN ?_ _ | with_reducible refine Ext.drew ?_ | ((with_reducible refine Ext.setCell ?_ ?side _); (case side => first | exact Nat.le_refl _ | (simp; done) | (simp; omega)))))⟩
        | true =>
          have hla : len = 2 := of_decide_eq_true hlen
          subst hla
          go_enter Tryz.func110, Tryz.ntmps110
          go_wp2
          go_ret
          exact ⟨ret_boolE (by first | (simp_all [hasFv]; done) | (simp_all [hasFv]; omega)), (by repeat (first | with_reducible exact Ext.refl _ | with_reducible exact hE0 | with_reducible exact hE | with_reducible refine Ext.alloc ?_ _ | with_reducible refine Ext.drewN ?_ _ | with_reducible refine Ext.drew ?_ | ((with_reducible refine Ext.setCell ?_ ?side _); (case side => first | exact Nat.le_refl _ | (simp; done) | (simp; omega)))))⟩
set_option maxRecDepth 8000 in
set_option maxHeartbeats 4000000 in
theorem hasF10 (nm tx : ByteArray) (n : Int) (q : Option Addr) (len cp : Nat) (w : World) : Calls Tryz.prog 110 #[.agg #[.int .i64 10, .string nm, .string tx, .int .i64 n, .slice q len cp]] w (OneV (.bool (hasFv 10 nm tx n len)) w) := by
  cases hm : empB nm with
  | false =>
    have hma := empB_f hm
    have hmb := empB_f' hm
    go_enter Tryz.func110, Tryz.ntmps110
    go_wp2
    go_ret
    exact ⟨ret_boolE (by first | (simp_all [hasFv]; done) | (simp_all [hasFv]; omega)), (by repeat (first | with_reducible exact Ext.refl _ | with_reducible exact hE0 | with_reducible exact hE | with_reducible refine Ext.alloc ?_ _ | with_reducible refine Ext.drewN ?_ _ | with_reducible refine Ext.drew ?_ | ((with_reducible refine Ext.setCell ?_ ?side _); (case side => first | exact Nat.le_refl _ | (simp; done) | (simp; omega)))))⟩
  | true =>
    have hma := empB_t hm
    cases ht : empB tx with
    | false =>
      have hta := empB_f ht
      have htb := empB_f' ht
      go_enter Tryz.func110, Tryz.ntmps110
      go_wp2
      go_ret
      exact ⟨ret_boolE (by first | (simp_all [hasFv]; done) | (simp_all [hasFv]; omega)), (by repeat (first | with_reducible exact Ext.refl _ | with_reducible exact hE0 | with_reducible exact hE | with_reducible refine Ext.alloc ?_ _ | with_reducible refine Ext.drewN ?_ _ | with_reducible refine Ext.drew ?_ | ((with_reducible refine Ext.setCell ?_ ?side _); (case side => first | exact Nat.le_refl _ | (simp; done) | (simp; omega)))))⟩
    | true =>
      have hta := empB_t ht
      cases hz : decide (n = 0) with
      | false =>
        have hza : (n == 0) = false := by simpa using hz
        have hzb : ¬ n = 0 := of_decide_eq_false hz
        have hzc : (n != 0) = true := by simpa using hz
        go_enter Tryz.func110, Tryz.ntmps110
        go_wp2
        go_ret
        exact ⟨ret_boolE (by first | (simp_all [hasFv]; done) | (simp_all [hasFv]; omega)), (by repeat (first | with_reducible exact Ext.refl _ | with_reducible exact hE0 | with_reducible exact hE | with_reducible refine Ext.alloc ?_ _ | with_reducible refine Ext.drewN ?_ _ | with_reducible refine Ext.drew ?_ | ((with_reducible refine Ext.setCell ?_ ?side _); (case side => first | exact Nat.le_refl _ | (simp; done) | (simp; omega)))))⟩
      | true =>
        have hza : n = 0 := of_decide_eq_true hz
        subst hza
        cases hlen : decide (len = 2) with
        | false =>
          have hla : ((len : Int) == 2) = false := by have := of_decide_eq_false hlen; simp; omega
          go_enter Tryz.func110, Tryz.ntmps110
          go_wp2
          go_ret
          exact ⟨ret_boolE (by first | (simp_all [hasFv]; done) | (simp_all [hasFv]; omega)), (by repeat (first | with_reducible exact Ext.refl _ | with_reducible exact hE0 | with_reducible exact hE | with_reducible refine Ext.alloc ?_ _ | with_reducible refine Ext.drewN ?_ _ | with_reducible refine Ext.drew ?_ | ((with_reducible refine Ext.setCell ?_ ?side _); (case side => first | exact Nat.le_refl _ | (simp; done) | (simp; omega)))))⟩
        | true =>
          have hla : len = 2 := of_decide_eq_true hlen
          subst hla
          go_enter Tryz.func110, Tryz.ntmps110
          go_wp2
          go_ret
          exact ⟨ret_boolE (by first | (simp_all [hasFv]; done) | (simp_all [hasFv]; omega)), (by repeat (first | with_reducible exact Ext.refl _ | with_reducible exact hE0 | with_reducible exact hE | with_reducible refine Ext.alloc ?_ _ | with_reducible refine Ext.drewN ?_ _ | with_reducible refine Ext.drew ?_ | ((with_reducible refine Ext.setCell ?_ ?side _); (case side => first | exact Nat.le_refl _ | (simp; done) | (simp; omega)))))⟩
set_option maxRecDepth 8000 in
set_option maxHeartbeats 4000000 in
theorem hasF11 (nm tx : ByteArray) (n : Int) (q : Option Addr) (len cp : Nat) (w : World) : Calls Tryz.prog 110 #[.agg #[.int .i64 11, .string nm, .string tx, .int .i64 n, .slice q len cp]] w (OneV (.bool (hasFv 11 nm tx n len)) w) := by
  cases hm : empB nm with
  | false =>
    have hma := empB_f hm
    have hmb := empB_f' hm
    go_enter Tryz.func110, Tryz.ntmps110
    go_wp2
    go_ret
    exact ⟨ret_boolE (by first | (simp_all [hasFv]; done) | (simp_all [hasFv]; omega)), (by repeat (first | with_reducible exact Ext.refl _ | with_reducible exact hE0 | with_reducible exact hE | with_reducible refine Ext.alloc ?_ _ | with_reducible refine Ext.drewN ?_ _ | with_reducible refine Ext.drew ?_ | ((with_reducible refine Ext.setCell ?_ ?side _); (case side => first | exact Nat.le_refl _ | (simp; done) | (simp; omega)))))⟩
  | true =>
    have hma := empB_t hm
    cases ht : empB tx with
    | false =>
      have hta := empB_f ht
      have htb := empB_f' ht
      go_enter Tryz.func110, Tryz.ntmps110
      go_wp2
      go_ret
      exact ⟨ret_boolE (by first | (simp_all [hasFv]; done) | (simp_all [hasFv]; omega)), (by repeat (first | with_reducible exact Ext.refl _ | with_reducible exact hE0 | with_reducible exact hE | with_reducible refine Ext.alloc ?_ _ | with_reducible refine Ext.drewN ?_ _ | with_reducible refine Ext.drew ?_ | ((with_reducible refine Ext.setCell ?_ ?side _); (case side => first | exact Nat.le_refl _ | (simp; done) | (simp; omega)))))⟩
    | true =>
      have hta := empB_t ht
      cases hz : decide (n = 0) with
      | false =>
        have hza : (n == 0) = false := by simpa using hz
        have hzb : ¬ n = 0 := of_decide_eq_false hz
        have hzc : (n != 0) = true := by simpa using hz
        go_enter Tryz.func110, Tryz.ntmps110
        go_wp2
        go_ret
        exact ⟨ret_boolE (by first | (simp_all [hasFv]; done) | (simp_all [hasFv]; omega)), (by repeat (first | with_reducible exact Ext.refl _ | with_reducible exact hE0 | with_reducible exact hE | with_reducible refine Ext.alloc ?_ _ | with_reducible refine Ext.drewN ?_ _ | with_reducible refine Ext.drew ?_ | ((with_reducible refine Ext.setCell ?_ ?side _); (case side => first | exact Nat.le_refl _ | (simp; done) | (simp; omega)))))⟩
      | true =>
        have hza : n = 0 := of_decide_eq_true hz
        subst hza
        cases hlen : decide (len = 2) with
        | false =>
          have hla : ((len : Int) == 2) = false := by have := of_decide_eq_false hlen; simp; omega
          go_enter Tryz.func110, Tryz.ntmps110
          go_wp2
          go_ret
          exact ⟨ret_boolE (by first | (simp_all [hasFv]; done) | (simp_all [hasFv]; omega)), (by repeat (first | with_reducible exact Ext.refl _ | with_reducible exact hE0 | with_reducible exact hE | with_reducible refine Ext.alloc ?_ _ | with_reducible refine Ext.drewN ?_ _ | with_reducible refine Ext.drew ?_ | ((with_reducible refine Ext.setCell ?_ ?side _); (case side => first | exact Nat.le_refl _ | (simp; done) | (simp; omega)))))⟩
        | true =>
          have hla : len = 2 := of_decide_eq_true hlen
          subst hla
          go_enter Tryz.func110, Tryz.ntmps110
          go_wp2
          go_ret
          exact ⟨ret_boolE (by first | (simp_all [hasFv]; done) | (simp_all [hasFv]; omega)), (by repeat (first | with_reducible exact Ext.refl _ | with_reducible exact hE0 | with_reducible exact hE | with_reducible refine Ext.alloc ?_ _ | with_reducible refine Ext.drewN ?_ _ | with_reducible refine Ext.drew ?_ | ((with_reducible refine Ext.setCell ?_ ?side _); (case side => first | exact Nat.le_refl _ | (simp; done) | (simp; omega)))))⟩
set_option maxRecDepth 8000 in
set_option maxHeartbeats 4000000 in
theorem hasF12 (nm tx : ByteArray) (n : Int) (q : Option Addr) (len cp : Nat) (w : World) : Calls Tryz.prog 110 #[.agg #[.int .i64 12, .string nm, .string tx, .int .i64 n, .slice q len cp]] w (OneV (.bool (hasFv 12 nm tx n len)) w) := by
  cases hm : empB nm with
  | false =>
    have hma := empB_f hm
    have hmb := empB_f' hm
    go_enter Tryz.func110, Tryz.ntmps110
    go_wp2
    go_ret
    exact ⟨ret_boolE (by first | (simp_all [hasFv]; done) | (simp_all [hasFv]; omega)), (by repeat (first | with_reducible exact Ext.refl _ | with_reducible exact hE0 | with_reducible exact hE | with_reducible refine Ext.alloc ?_ _ | with_reducible refine Ext.drewN ?_ _ | with_reducible refine Ext.drew ?_ | ((with_reducible refine Ext.setCell ?_ ?side _); (case side => first | exact Nat.le_refl _ | (simp; done) | (simp; omega)))))⟩
  | true =>
    have hma := empB_t hm
    cases ht : empB tx with
    | false =>
      have hta := empB_f ht
      have htb := empB_f' ht
      go_enter Tryz.func110, Tryz.ntmps110
      go_wp2
      go_ret
      exact ⟨ret_boolE (by first | (simp_all [hasFv]; done) | (simp_all [hasFv]; omega)), (by repeat (first | with_reducible exact Ext.refl _ | with_reducible exact hE0 | with_reducible exact hE | with_reducible refine Ext.alloc ?_ _ | with_reducible refine Ext.drewN ?_ _ | with_reducible refine Ext.drew ?_ | ((with_reducible refine Ext.setCell ?_ ?side _); (case side => first | exact Nat.le_refl _ | (simp; done) | (simp; omega)))))⟩
    | true =>
      have hta := empB_t ht
      cases hz : decide (n = 0) with
      | false =>
        have hza : (n == 0) = false := by simpa using hz
        have hzb : ¬ n = 0 := of_decide_eq_false hz
        have hzc : (n != 0) = true := by simpa using hz
        go_enter Tryz.func110, Tryz.ntmps110
        go_wp2
        go_ret
        exact ⟨ret_boolE (by first | (simp_all [hasFv]; done) | (simp_all [hasFv]; omega)), (by repeat (first | with_reducible exact Ext.refl _ | with_reducible exact hE0 | with_reducible exact hE | with_reducible refine Ext.alloc ?_ _ | with_reducible refine Ext.drewN ?_ _ | with_reducible refine Ext.drew ?_ | ((with_reducible refine Ext.setCell ?_ ?side _); (case side => first | exact Nat.le_refl _ | (simp; done) | (simp; omega)))))⟩
      | true =>
        have hza : n = 0 := of_decide_eq_true hz
        subst hza
        cases hlen : decide (len = 2) with
        | false =>
          have hla : ((len : Int) == 2) = false := by have := of_decide_eq_false hlen; simp; omega
          go_enter Tryz.func110, Tryz.ntmps110
          go_wp2
          go_ret
          exact ⟨ret_boolE (by first | (simp_all [hasFv]; done) | (simp_all [hasFv]; omega)), (by repeat (first | with_reducible exact Ext.refl _ | with_reducible exact hE0 | with_reducible exact hE | with_reducible refine Ext.alloc ?_ _ | with_reducible refine Ext.drewN ?_ _ | with_reducible refine Ext.drew ?_ | ((with_reducible refine Ext.setCell ?_ ?side _); (case side => first | exact Nat.le_refl _ | (simp; done) | (simp; omega)))))⟩
        | true =>
          have hla : len = 2 := of_decide_eq_true hlen
          subst hla
          go_enter Tryz.func110, Tryz.ntmps110
          go_wp2
          go_ret
          exact ⟨ret_boolE (by first | (simp_all [hasFv]; done) | (simp_all [hasFv]; omega)), (by repeat (first | with_reducible exact Ext.refl _ | with_reducible exact hE0 | with_reducible exact hE | with_reducible refine Ext.alloc ?_ _ | with_reducible refine Ext.drewN ?_ _ | with_reducible refine Ext.drew ?_ | ((with_reducible refine Ext.setCell ?_ ?side _); (case side => first | exact Nat.le_refl _ | (simp; done) | (simp; omega)))))⟩
set_option maxRecDepth 8000 in
set_option maxHeartbeats 4000000 in
theorem hasF13 (nm tx : ByteArray) (n : Int) (q : Option Addr) (len cp : Nat) (w : World) : Calls Tryz.prog 110 #[.agg #[.int .i64 13, .string nm, .string tx, .int .i64 n, .slice q len cp]] w (OneV (.bool (hasFv 13 nm tx n len)) w) := by
  cases hm : empB nm with
  | false =>
    have hma := empB_f hm
    have hmb := empB_f' hm
    go_enter Tryz.func110, Tryz.ntmps110
    go_wp2
    go_ret
    exact ⟨ret_boolE (by first | (simp_all [hasFv]; done) | (simp_all [hasFv]; omega)), (by repeat (first | with_reducible exact Ext.refl _ | with_reducible exact hE0 | with_reducible exact hE | with_reducible refine Ext.alloc ?_ _ | with_reducible refine Ext.drewN ?_ _ | with_reducible refine Ext.drew ?_ | ((with_reducible refine Ext.setCell ?_ ?side _); (case side => first | exact Nat.le_refl _ | (simp; done) | (simp; omega)))))⟩
  | true =>
    have hma := empB_t hm
    cases ht : empB tx with
    | false =>
      have hta := empB_f ht
      have htb := empB_f' ht
      go_enter Tryz.func110, Tryz.ntmps110
      go_wp2
      go_ret
      exact ⟨ret_boolE (by first | (simp_all [hasFv]; done) | (simp_all [hasFv]; omega)), (by repeat (first | with_reducible exact Ext.refl _ | with_reducible exact hE0 | with_reducible exact hE | with_reducible refine Ext.alloc ?_ _ | with_reducible refine Ext.drewN ?_ _ | with_reducible refine Ext.drew ?_ | ((with_reducible refine Ext.setCell ?_ ?side _); (case side => first | exact Nat.le_refl _ | (simp; done) | (simp; omega)))))⟩
    | true =>
      have hta := empB_t ht
      cases hz : decide (n = 0) with
      | false =>
        have hza : (n == 0) = false := by simpa using hz
        have hzb : ¬ n = 0 := of_decide_eq_false hz
        have hzc : (n != 0) = true := by simpa using hz
        go_enter Tryz.func110, Tryz.ntmps110
        go_wp2
        go_ret
        exact ⟨ret_boolE (by first | (simp_all [hasFv]; done) | (simp_all [hasFv]; omega)), (by repeat (first | with_reducible exact Ext.refl _ | with_reducible exact hE0 | with_reducible exact hE | with_reducible refine Ext.alloc ?_ _ | with_reducible refine Ext.drewN ?_ _ | with_reducible refine Ext.drew ?_ | ((with_reducible refine Ext.setCell ?_ ?side _); (case side => first | exact Nat.le_refl _ | (simp; done) | (simp; omega)))))⟩
      | true =>
        have hza : n = 0 := of_decide_eq_true hz
        subst hza
        cases hlen : decide (len = 2) with
        | false =>
          have hla : ((len : Int) == 2) = false := by have := of_decide_eq_false hlen; simp; omega
          go_enter Tryz.func110, Tryz.ntmps110
          go_wp2
          go_ret
          exact ⟨ret_boolE (by first | (simp_all [hasFv]; done) | (simp_all [hasFv]; omega)), (by repeat (first | with_reducible exact Ext.refl _ | with_reducible exact hE0 | with_reducible exact hE | with_reducible refine Ext.alloc ?_ _ | with_reducible refine Ext.drewN ?_ _ | with_reducible refine Ext.drew ?_ | ((with_reducible refine Ext.setCell ?_ ?side _); (case side => first | exact Nat.le_refl _ | (simp; done) | (simp; omega)))))⟩
        | true =>
          have hla : len = 2 := of_decide_eq_true hlen
          subst hla
          go_enter Tryz.func110, Tryz.ntmps110
          go_wp2
          go_ret
          exact ⟨ret_boolE (by first | (simp_all [hasFv]; done) | (simp_all [hasFv]; omega)), (by repeat (first | with_reducible exact Ext.refl _ | with_reducible exact hE0 | with_reducible exact hE | with_reducible refine Ext.alloc ?_ _ | with_reducible refine Ext.drewN ?_ _ | with_reducible refine Ext.drew ?_ | ((with_reducible refine Ext.setCell ?_ ?side _); (case side => first | exact Nat.le_refl _ | (simp; done) | (simp; omega)))))⟩
set_option maxRecDepth 8000 in
set_option maxHeartbeats 4000000 in
theorem hasF14 (nm tx : ByteArray) (n : Int) (q : Option Addr) (len cp : Nat) (w : World) : Calls Tryz.prog 110 #[.agg #[.int .i64 14, .string nm, .string tx, .int .i64 n, .slice q len cp]] w (OneV (.bool (hasFv 14 nm tx n len)) w) := by
  cases hm : empB nm with
  | false =>
    have hma := empB_f hm
    have hmb := empB_f' hm
    go_enter Tryz.func110, Tryz.ntmps110
    go_wp2
    go_ret
    exact ⟨ret_boolE (by first | (simp_all [hasFv]; done) | (simp_all [hasFv]; omega)), (by repeat (first | with_reducible exact Ext.refl _ | with_reducible exact hE0 | with_reducible exact hE | with_reducible refine Ext.alloc ?_ _ | with_reducible refine Ext.drewN ?_ _ | with_reducible refine Ext.drew ?_ | ((with_reducible refine Ext.setCell ?_ ?side _); (case side => first | exact Nat.le_refl _ | (simp; done) | (simp; omega)))))⟩
  | true =>
    have hma := empB_t hm
    cases ht : empB tx with
    | false =>
      have hta := empB_f ht
      have htb := empB_f' ht
      go_enter Tryz.func110, Tryz.ntmps110
      go_wp2
      go_ret
      exact ⟨ret_boolE (by first | (simp_all [hasFv]; done) | (simp_all [hasFv]; omega)), (by repeat (first | with_reducible exact Ext.refl _ | with_reducible exact hE0 | with_reducible exact hE | with_reducible refine Ext.alloc ?_ _ | with_reducible refine Ext.drewN ?_ _ | with_reducible refine Ext.drew ?_ | ((with_reducible refine Ext.setCell ?_ ?side _); (case side => first | exact Nat.le_refl _ | (simp; done) | (simp; omega)))))⟩
    | true =>
      have hta := empB_t ht
      cases hz : decide (n = 0) with
      | false =>
        have hza : (n == 0) = false := by simpa using hz
        have hzb : ¬ n = 0 := of_decide_eq_false hz
        have hzc : (n != 0) = true := by simpa using hz
        go_enter Tryz.func110, Tryz.ntmps110
        go_wp2
        go_ret
        exact ⟨ret_boolE (by first | (simp_all [hasFv]; done) | (simp_all [hasFv]; omega)), (by repeat (first | with_reducible exact Ext.refl _ | with_reducible exact hE0 | with_reducible exact hE | with_reducible refine Ext.alloc ?_ _ | with_reducible refine Ext.drewN ?_ _ | with_reducible refine Ext.drew ?_ | ((with_reducible refine Ext.setCell ?_ ?side _); (case side => first | exact Nat.le_refl _ | (simp; done) | (simp; omega)))))⟩
      | true =>
        have hza : n = 0 := of_decide_eq_true hz
        subst hza
        cases hlen : decide (len = 2) with
        | false =>
          have hla : ((len : Int) == 2) = false := by have := of_decide_eq_false hlen; simp; omega
          go_enter Tryz.func110, Tryz.ntmps110
          go_wp2
          go_ret
          exact ⟨ret_boolE (by first | (simp_all [hasFv]; done) | (simp_all [hasFv]; omega)), (by repeat (first | with_reducible exact Ext.refl _ | with_reducible exact hE0 | with_reducible exact hE | with_reducible refine Ext.alloc ?_ _ | with_reducible refine Ext.drewN ?_ _ | with_reducible refine Ext.drew ?_ | ((with_reducible refine Ext.setCell ?_ ?side _); (case side => first | exact Nat.le_refl _ | (simp; done) | (simp; omega)))))⟩
        | true =>
          have hla : len = 2 := of_decide_eq_true hlen
          subst hla
          go_enter Tryz.func110, Tryz.ntmps110
          go_wp2
          go_ret
          exact ⟨ret_boolE (by first | (simp_all [hasFv]; done) | (simp_all [hasFv]; omega)), (by repeat (first | with_reducible exact Ext.refl _ | with_reducible exact hE0 | with_reducible exact hE | with_reducible refine Ext.alloc ?_ _ | with_reducible refine Ext.drewN ?_ _ | with_reducible refine Ext.drew ?_ | ((with_reducible refine Ext.setCell ?_ ?side _); (case side => first | exact Nat.le_refl _ | (simp; done) | (simp; omega)))))⟩
end Go.Proofs.YtpdpjindmghfpaaGreatDoor
