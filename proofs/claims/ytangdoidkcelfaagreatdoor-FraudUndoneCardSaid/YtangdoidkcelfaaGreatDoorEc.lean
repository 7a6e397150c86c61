/- Contracts of hasFields by operator (walks; printed by gen/hasf.py, parted). Contracts of hasFields by operator (walks; printed by gen/hasf.py, parted). Contracts of hasFields by operator (walks; printed by gen/hasf.py, parted). Contracts of hasFields by operator (walks; printed by gen/hasf.py, parted). The contract of hasFields. The contract of formed (walk). -/
import Derived.Test.YtangdoidkcelfaaGreatDoorEb
namespace Go.Proofs.YtangdoidkcelfaaGreatDoor
open Go.RowKit
set_option maxRecDepth 8000 in
set_option maxHeartbeats 4000000 in
theorem hasF1 (nm tx : ByteArray) (n : Int) (q : Option Addr) (len cp : Nat) (w : World) : Calls Tryz.prog 122 #[.agg #[.int .i64 1, .string nm, .string tx, .int .i64 n, .slice q len cp]] w (OneV (.bool (hasFv 1 nm tx n len)) w) := by
 cases hN : nbrB n with
 | false =>
  go_enter Tryz.func122, Tryz.ntmps122
  go_wp2_with fail
  refine (isNumber_any n _).mono ?_
  rintro e w1 ⟨rfl, rfl⟩
  rw [hN]
  go_wp2
  go_ret
  exact ⟨ret_boolE (by first | (simp_all [hasFv]; done) | (simp_all [hasFv]; omega)), xt⟩
 | true =>
  cases hm : empB nm with
  | false =>
   have hma := empB_f hm
   have hmb := empB_f' hm
   go_enter Tryz.func122, Tryz.ntmps122
   go_wp2_with fail
   refine (isNumber_any n _).mono ?_
   rintro e w1 ⟨rfl, rfl⟩
   rw [hN]
   go_wp2
   go_ret
   exact ⟨ret_boolE (by first | (simp_all [hasFv]; done) | (simp_all [hasFv]; omega)), xt⟩
  | true =>
   have hma := empB_t hm
   cases ht : empB tx with
   | false =>
    have hta := empB_f ht
    have htb := empB_f' ht
    go_enter Tryz.func122, Tryz.ntmps122
    go_wp2_with fail
    refine (isNumber_any n _).mono ?_
    rintro e w1 ⟨rfl, rfl⟩
    rw [hN]
    go_wp2
    go_ret
    exact ⟨ret_boolE (by first | (simp_all [hasFv]; done) | (simp_all [hasFv]; omega)), xt⟩
   | true =>
    have hta := empB_t ht
    cases hlen : decide (len = 0) with
    | false =>
     have hla : ((len : Int) == 0) = false := by have := of_decide_eq_false hlen; simp; omega
     go_enter Tryz.func122, Tryz.ntmps122
     go_wp2_with fail
     refine (isNumber_any n _).mono ?_
     rintro e w1 ⟨rfl, rfl⟩
     rw [hN]
     go_wp2
     go_ret
     exact ⟨ret_boolE (by first | (simp_all [hasFv]; done) | (simp_all [hasFv]; omega)), xt⟩
    | true =>
     have hla : len = 0 := of_decide_eq_true hlen
     subst hla
     go_enter Tryz.func122, Tryz.ntmps122
     go_wp2_with fail
     refine (isNumber_any n _).mono ?_
     rintro e w1 ⟨rfl, rfl⟩
     rw [hN]
     go_wp2
     go_ret
     exact ⟨ret_boolE (by first | (simp_all [hasFv]; done) | (simp_all [hasFv]; omega)), xt⟩
set_option maxRecDepth 8000 in
set_option maxHeartbeats 4000000 in
theorem hasF2 (nm tx : ByteArray) (n : Int) (q : Option Addr) (len cp : Nat) (w : World) : Calls Tryz.prog 122 #[.agg #[.int .i64 2, .string nm, .string tx, .int .i64 n, .slice q len cp]] w (OneV (.bool (hasFv 2 nm tx n len)) w) := by
 cases hN : litB tx with
 | false =>
  go_enter Tryz.func122, Tryz.ntmps122
  go_wp2_with fail
  refine (isLiteral_any tx _).mono ?_
  rintro e w1 ⟨rfl, rfl⟩
  rw [hN]
  go_wp2
  go_ret
  exact ⟨ret_boolE (by first | (simp_all [hasFv]; done) | (simp_all [hasFv]; omega)), xt⟩
 | true =>
  cases hm : empB nm with
  | false =>
   have hma := empB_f hm
   have hmb := empB_f' hm
   go_enter Tryz.func122, Tryz.ntmps122
   go_wp2_with fail
   refine (isLiteral_any tx _).mono ?_
   rintro e w1 ⟨rfl, rfl⟩
   rw [hN]
   go_wp2
   go_ret
   exact ⟨ret_boolE (by first | (simp_all [hasFv]; done) | (simp_all [hasFv]; omega)), xt⟩
  | true =>
   have hma := empB_t hm
   cases hz : decide (n = 0) with
   | false =>
    have hza : (n == 0) = false := by simpa using hz
    have hzb : ¬ n = 0 := of_decide_eq_false hz
    have hzc : (n != 0) = true := by simpa using hz
    go_enter Tryz.func122, Tryz.ntmps122
    go_wp2_with fail
    refine (isLiteral_any tx _).mono ?_
    rintro e w1 ⟨rfl, rfl⟩
    rw [hN]
    go_wp2
    go_ret
    exact ⟨ret_boolE (by first | (simp_all [hasFv]; done) | (simp_all [hasFv]; omega)), xt⟩
   | true =>
    have hza : n = 0 := of_decide_eq_true hz
    subst hza
    cases hlen : decide (len = 0) with
    | false =>
     have hla : ((len : Int) == 0) = false := by have := of_decide_eq_false hlen; simp; omega
     go_enter Tryz.func122, Tryz.ntmps122
     go_wp2_with fail
     refine (isLiteral_any tx _).mono ?_
     rintro e w1 ⟨rfl, rfl⟩
     rw [hN]
     go_wp2
     go_ret
     exact ⟨ret_boolE (by first | (simp_all [hasFv]; done) | (simp_all [hasFv]; omega)), xt⟩
    | true =>
     have hla : len = 0 := of_decide_eq_true hlen
     subst hla
     go_enter Tryz.func122, Tryz.ntmps122
     go_wp2_with fail
     refine (isLiteral_any tx _).mono ?_
     rintro e w1 ⟨rfl, rfl⟩
     rw [hN]
     go_wp2
     go_ret
     exact ⟨ret_boolE (by first | (simp_all [hasFv]; done) | (simp_all [hasFv]; omega)), xt⟩
set_option maxRecDepth 8000 in
set_option maxHeartbeats 4000000 in
theorem hasF3 (nm tx : ByteArray) (n : Int) (q : Option Addr) (len cp : Nat) (w : World) : Calls Tryz.prog 122 #[.agg #[.int .i64 3, .string nm, .string tx, .int .i64 n, .slice q len cp]] w (OneV (.bool (hasFv 3 nm tx n len)) w) := by
 cases hN : nameB nm with
 | false =>
  go_enter Tryz.func122, Tryz.ntmps122
  go_wp2_with fail
  refine (isName_any nm _).mono ?_
  rintro e w1 ⟨rfl, rfl⟩
  rw [hN]
  go_wp2
  go_ret
  exact ⟨ret_boolE (by first | (simp_all [hasFv]; done) | (simp_all [hasFv]; omega)), xt⟩
 | true =>
  cases hm : empB tx with
  | false =>
   have hma := empB_f hm
   have hmb := empB_f' hm
   go_enter Tryz.func122, Tryz.ntmps122
   go_wp2_with fail
   refine (isName_any nm _).mono ?_
   rintro e w1 ⟨rfl, rfl⟩
   rw [hN]
   go_wp2
   go_ret
   exact ⟨ret_boolE (by first | (simp_all [hasFv]; done) | (simp_all [hasFv]; omega)), xt⟩
  | true =>
   have hma := empB_t hm
   cases hz : decide (n = 0) with
   | false =>
    have hza : (n == 0) = false := by simpa using hz
    have hzb : ¬ n = 0 := of_decide_eq_false hz
    have hzc : (n != 0) = true := by simpa using hz
    go_enter Tryz.func122, Tryz.ntmps122
    go_wp2_with fail
    refine (isName_any nm _).mono ?_
    rintro e w1 ⟨rfl, rfl⟩
    rw [hN]
    go_wp2
    go_ret
    exact ⟨ret_boolE (by first | (simp_all [hasFv]; done) | (simp_all [hasFv]; omega)), xt⟩
   | true =>
    have hza : n = 0 := of_decide_eq_true hz
    subst hza
    cases hlen : decide (len = 0) with
    | false =>
     have hla : ((len : Int) == 0) = false := by have := of_decide_eq_false hlen; simp; omega
     go_enter Tryz.func122, Tryz.ntmps122
     go_wp2_with fail
     refine (isName_any nm _).mono ?_
     rintro e w1 ⟨rfl, rfl⟩
     rw [hN]
     go_wp2
     go_ret
     exact ⟨ret_boolE (by first | (simp_all [hasFv]; done) | (simp_all [hasFv]; omega)), xt⟩
    | true =>
     have hla : len = 0 := of_decide_eq_true hlen
     subst hla
     go_enter Tryz.func122, Tryz.ntmps122
     go_wp2_with fail
     refine (isName_any nm _).mono ?_
     rintro e w1 ⟨rfl, rfl⟩
     rw [hN]
     go_wp2
     go_ret
     exact ⟨ret_boolE (by first | (simp_all [hasFv]; done) | (simp_all [hasFv]; omega)), xt⟩
end Go.Proofs.YtangdoidkcelfaaGreatDoor
namespace Go.Proofs.YtangdoidkcelfaaGreatDoor
open Go.RowKit
set_option maxRecDepth 8000 in
set_option maxHeartbeats 4000000 in
theorem hasF16 (nm tx : ByteArray) (n : Int) (q : Option Addr) (len cp : Nat) (w : World) : Calls Tryz.prog 122 #[.agg #[.int .i64 16, .string nm, .string tx, .int .i64 n, .slice q len cp]] w (OneV (.bool (hasFv 16 nm tx n len)) w) := by
 cases hN : nameB nm with
 | false =>
  go_enter Tryz.func122, Tryz.ntmps122
  go_wp2_with fail
  refine (isName_any nm _).mono ?_
  rintro e w1 ⟨rfl, rfl⟩
  rw [hN]
  go_wp2
  go_ret
  exact ⟨ret_boolE (by first | (simp_all [hasFv]; done) | (simp_all [hasFv]; omega)), xt⟩
 | true =>
  cases hq1 : decide (1 ≤ n) with
  | false =>
   have hq1a : ¬ 1 ≤ n := of_decide_eq_false hq1
   go_enter Tryz.func122, Tryz.ntmps122
   go_wp2_with fail
   refine (isName_any nm _).mono ?_
   rintro e w1 ⟨rfl, rfl⟩
   rw [hN]
   go_wp2
   go_ret
   exact ⟨ret_boolE (by first | (simp_all [hasFv]; done) | (simp_all [hasFv]; omega)), xt⟩
  | true =>
   have hq1a : 1 ≤ n := of_decide_eq_true hq1
   cases hq2 : decide (n ≤ 10000000) with
   | false =>
    have hq2a : ¬ n ≤ 10000000 := of_decide_eq_false hq2
    go_enter Tryz.func122, Tryz.ntmps122
    go_wp2_with fail
    refine (isName_any nm _).mono ?_
    rintro e w1 ⟨rfl, rfl⟩
    rw [hN]
    go_wp2
    go_ret
    exact ⟨ret_boolE (by first | (simp_all [hasFv]; done) | (simp_all [hasFv]; omega)), xt⟩
   | true =>
    have hq2a : n ≤ 10000000 := of_decide_eq_true hq2
    cases hm : empB tx with
    | false =>
     have hma := empB_f hm
     have hmb := empB_f' hm
     go_enter Tryz.func122, Tryz.ntmps122
     go_wp2_with fail
     refine (isName_any nm _).mono ?_
     rintro e w1 ⟨rfl, rfl⟩
     rw [hN]
     go_wp2
     go_ret
     exact ⟨ret_boolE (by first | (simp_all [hasFv]; done) | (simp_all [hasFv]; omega)), xt⟩
    | true =>
     have hma := empB_t hm
     cases hlen : decide (len = 0) with
     | false =>
      have hla : ((len : Int) == 0) = false := by have := of_decide_eq_false hlen; simp; omega
      go_enter Tryz.func122, Tryz.ntmps122
      go_wp2_with fail
      refine (isName_any nm _).mono ?_
      rintro e w1 ⟨rfl, rfl⟩
      rw [hN]
      go_wp2
      go_ret
      exact ⟨ret_boolE (by first | (simp_all [hasFv]; done) | (simp_all [hasFv]; omega)), xt⟩
     | true =>
      have hla : len = 0 := of_decide_eq_true hlen
      subst hla
      go_enter Tryz.func122, Tryz.ntmps122
      go_wp2_with fail
      refine (isName_any nm _).mono ?_
      rintro e w1 ⟨rfl, rfl⟩
      rw [hN]
      go_wp2
      go_ret
      exact ⟨ret_boolE (by first | (simp_all [hasFv]; done) | (simp_all [hasFv]; omega)), xt⟩
set_option maxRecDepth 8000 in
set_option maxHeartbeats 4000000 in
theorem hasF17 (nm tx : ByteArray) (n : Int) (q : Option Addr) (len cp : Nat) (w : World) : Calls Tryz.prog 122 #[.agg #[.int .i64 17, .string nm, .string tx, .int .i64 n, .slice q len cp]] w (OneV (.bool (hasFv 17 nm tx n len)) w) := by
 cases hN : nameB nm with
 | false =>
  go_enter Tryz.func122, Tryz.ntmps122
  go_wp2_with fail
  refine (isName_any nm _).mono ?_
  rintro e w1 ⟨rfl, rfl⟩
  rw [hN]
  go_wp2
  go_ret
  exact ⟨ret_boolE (by first | (simp_all [hasFv]; done) | (simp_all [hasFv]; omega)), xt⟩
 | true =>
  cases hq1 : decide (1 ≤ n) with
  | false =>
   have hq1a : ¬ 1 ≤ n := of_decide_eq_false hq1
   go_enter Tryz.func122, Tryz.ntmps122
   go_wp2_with fail
   refine (isName_any nm _).mono ?_
   rintro e w1 ⟨rfl, rfl⟩
   rw [hN]
   go_wp2
   go_ret
   exact ⟨ret_boolE (by first | (simp_all [hasFv]; done) | (simp_all [hasFv]; omega)), xt⟩
  | true =>
   have hq1a : 1 ≤ n := of_decide_eq_true hq1
   cases hq2 : decide (n ≤ 10000000) with
   | false =>
    have hq2a : ¬ n ≤ 10000000 := of_decide_eq_false hq2
    go_enter Tryz.func122, Tryz.ntmps122
    go_wp2_with fail
    refine (isName_any nm _).mono ?_
    rintro e w1 ⟨rfl, rfl⟩
    rw [hN]
    go_wp2
    go_ret
    exact ⟨ret_boolE (by first | (simp_all [hasFv]; done) | (simp_all [hasFv]; omega)), xt⟩
   | true =>
    have hq2a : n ≤ 10000000 := of_decide_eq_true hq2
    cases hm : empB tx with
    | false =>
     have hma := empB_f hm
     have hmb := empB_f' hm
     go_enter Tryz.func122, Tryz.ntmps122
     go_wp2_with fail
     refine (isName_any nm _).mono ?_
     rintro e w1 ⟨rfl, rfl⟩
     rw [hN]
     go_wp2
     go_ret
     exact ⟨ret_boolE (by first | (simp_all [hasFv]; done) | (simp_all [hasFv]; omega)), xt⟩
    | true =>
     have hma := empB_t hm
     cases hlen : decide (len = 0) with
     | false =>
      have hla : ((len : Int) == 0) = false := by have := of_decide_eq_false hlen; simp; omega
      go_enter Tryz.func122, Tryz.ntmps122
      go_wp2_with fail
      refine (isName_any nm _).mono ?_
      rintro e w1 ⟨rfl, rfl⟩
      rw [hN]
      go_wp2
      go_ret
      exact ⟨ret_boolE (by first | (simp_all [hasFv]; done) | (simp_all [hasFv]; omega)), xt⟩
     | true =>
      have hla : len = 0 := of_decide_eq_true hlen
      subst hla
      go_enter Tryz.func122, Tryz.ntmps122
      go_wp2_with fail
      refine (isName_any nm _).mono ?_
      rintro e w1 ⟨rfl, rfl⟩
      rw [hN]
      go_wp2
      go_ret
      exact ⟨ret_boolE (by first | (simp_all [hasFv]; done) | (simp_all [hasFv]; omega)), xt⟩
set_option maxRecDepth 8000 in
set_option maxHeartbeats 4000000 in
theorem hasF4 (nm tx : ByteArray) (n : Int) (q : Option Addr) (len cp : Nat) (w : World) : Calls Tryz.prog 122 #[.agg #[.int .i64 4, .string nm, .string tx, .int .i64 n, .slice q len cp]] w (OneV (.bool (hasFv 4 nm tx n len)) w) := by
 cases hm : empB nm with
 | false =>
  have hma := empB_f hm
  have hmb := empB_f' hm
  go_enter Tryz.func122, Tryz.ntmps122
  go_wp2
  go_ret
  exact ⟨ret_boolE (by first | (simp_all [hasFv]; done) | (simp_all [hasFv]; omega)), xt⟩
 | true =>
  have hma := empB_t hm
  cases ht : empB tx with
  | false =>
   have hta := empB_f ht
   have htb := empB_f' ht
   go_enter Tryz.func122, Tryz.ntmps122
   go_wp2
   go_ret
   exact ⟨ret_boolE (by first | (simp_all [hasFv]; done) | (simp_all [hasFv]; omega)), xt⟩
  | true =>
   have hta := empB_t ht
   cases hz : decide (n = 0) with
   | false =>
    have hza : (n == 0) = false := by simpa using hz
    have hzb : ¬ n = 0 := of_decide_eq_false hz
    have hzc : (n != 0) = true := by simpa using hz
    go_enter Tryz.func122, Tryz.ntmps122
    go_wp2
    go_ret
    exact ⟨ret_boolE (by first | (simp_all [hasFv]; done) | (simp_all [hasFv]; omega)), xt⟩
   | true =>
    have hza : n = 0 := of_decide_eq_true hz
    subst hza
    cases hlen : decide (len = 1) with
    | false =>
     have hla : ((len : Int) == 1) = false := by have := of_decide_eq_false hlen; simp; omega
     go_enter Tryz.func122, Tryz.ntmps122
     go_wp2
     go_ret
     exact ⟨ret_boolE (by first | (simp_all [hasFv]; done) | (simp_all [hasFv]; omega)), xt⟩
    | true =>
     have hla : len = 1 := of_decide_eq_true hlen
     subst hla
     go_enter Tryz.func122, Tryz.ntmps122
     go_wp2
     go_ret
     exact ⟨ret_boolE (by first | (simp_all [hasFv]; done) | (simp_all [hasFv]; omega)), xt⟩
set_option maxRecDepth 8000 in
set_option maxHeartbeats 4000000 in
theorem hasF5 (nm tx : ByteArray) (n : Int) (q : Option Addr) (len cp : Nat) (w : World) : Calls Tryz.prog 122 #[.agg #[.int .i64 5, .string nm, .string tx, .int .i64 n, .slice q len cp]] w (OneV (.bool (hasFv 5 nm tx n len)) w) := by
 cases hm : empB nm with
 | false =>
  have hma := empB_f hm
  have hmb := empB_f' hm
  go_enter Tryz.func122, Tryz.ntmps122
  go_wp2
  go_ret
  exact ⟨ret_boolE (by first | (simp_all [hasFv]; done) | (simp_all [hasFv]; omega)), xt⟩
 | true =>
  have hma := empB_t hm
  cases ht : empB tx with
  | false =>
   have hta := empB_f ht
   have htb := empB_f' ht
   go_enter Tryz.func122, Tryz.ntmps122
   go_wp2
   go_ret
   exact ⟨ret_boolE (by first | (simp_all [hasFv]; done) | (simp_all [hasFv]; omega)), xt⟩
  | true =>
   have hta := empB_t ht
   cases hz : decide (n = 0) with
   | false =>
    have hza : (n == 0) = false := by simpa using hz
    have hzb : ¬ n = 0 := of_decide_eq_false hz
    have hzc : (n != 0) = true := by simpa using hz
    go_enter Tryz.func122, Tryz.ntmps122
    go_wp2
    go_ret
    exact ⟨ret_boolE (by first | (simp_all [hasFv]; done) | (simp_all [hasFv]; omega)), xt⟩
   | true =>
    have hza : n = 0 := of_decide_eq_true hz
    subst hza
    cases hlen : decide (len = 1) with
    | false =>
     have hla : ((len : Int) == 1) = false := by have := of_decide_eq_false hlen; simp; omega
     go_enter Tryz.func122, Tryz.ntmps122
     go_wp2
     go_ret
     exact ⟨ret_boolE (by first | (simp_all [hasFv]; done) | (simp_all [hasFv]; omega)), xt⟩
    | true =>
     have hla : len = 1 := of_decide_eq_true hlen
     subst hla
     go_enter Tryz.func122, Tryz.ntmps122
     go_wp2
     go_ret
     exact ⟨ret_boolE (by first | (simp_all [hasFv]; done) | (simp_all [hasFv]; omega)), xt⟩
set_option maxRecDepth 8000 in
set_option maxHeartbeats 4000000 in
theorem hasF6 (nm tx : ByteArray) (n : Int) (q : Option Addr) (len cp : Nat) (w : World) : Calls Tryz.prog 122 #[.agg #[.int .i64 6, .string nm, .string tx, .int .i64 n, .slice q len cp]] w (OneV (.bool (hasFv 6 nm tx n len)) w) := by
 cases hm : empB nm with
 | false =>
  have hma := empB_f hm
  have hmb := empB_f' hm
  go_enter Tryz.func122, Tryz.ntmps122
  go_wp2
  go_ret
  exact ⟨ret_boolE (by first | (simp_all [hasFv]; done) | (simp_all [hasFv]; omega)), xt⟩
 | true =>
  have hma := empB_t hm
  cases ht : empB tx with
  | false =>
   have hta := empB_f ht
   have htb := empB_f' ht
   go_enter Tryz.func122, Tryz.ntmps122
   go_wp2
   go_ret
   exact ⟨ret_boolE (by first | (simp_all [hasFv]; done) | (simp_all [hasFv]; omega)), xt⟩
  | true =>
   have hta := empB_t ht
   cases hz : decide (n = 0) with
   | false =>
    have hza : (n == 0) = false := by simpa using hz
    have hzb : ¬ n = 0 := of_decide_eq_false hz
    have hzc : (n != 0) = true := by simpa using hz
    go_enter Tryz.func122, Tryz.ntmps122
    go_wp2
    go_ret
    exact ⟨ret_boolE (by first | (simp_all [hasFv]; done) | (simp_all [hasFv]; omega)), xt⟩
   | true =>
    have hza : n = 0 := of_decide_eq_true hz
    subst hza
    cases hlen : decide (len = 2) with
    | false =>
     have hla : ((len : Int) == 2) = false := by have := of_decide_eq_false hlen; simp; omega
     go_enter Tryz.func122, Tryz.ntmps122
     go_wp2
     go_ret
     exact ⟨ret_boolE (by first | (simp_all [hasFv]; done) | (simp_all [hasFv]; omega)), xt⟩
    | true =>
     have hla : len = 2 := of_decide_eq_true hlen
     subst hla
     go_enter Tryz.func122, Tryz.ntmps122
     go_wp2
     go_ret
     exact ⟨ret_boolE (by first | (simp_all [hasFv]; done) | (simp_all [hasFv]; omega)), xt⟩
set_option maxRecDepth 8000 in
set_option maxHeartbeats 4000000 in
theorem hasF7 (nm tx : ByteArray) (n : Int) (q : Option Addr) (len cp : Nat) (w : World) : Calls Tryz.prog 122 #[.agg #[.int .i64 7, .string nm, .string tx, .int .i64 n, .slice q len cp]] w (OneV (.bool (hasFv 7 nm tx n len)) w) := by
 cases hm : empB nm with
 | false =>
  have hma := empB_f hm
  have hmb := empB_f' hm
  go_enter Tryz.func122, Tryz.ntmps122
  go_wp2
  go_ret
  exact ⟨ret_boolE (by first | (simp_all [hasFv]; done) | (simp_all [hasFv]; omega)), xt⟩
 | true =>
  have hma := empB_t hm
  cases ht : empB tx with
  | false =>
   have hta := empB_f ht
   have htb := empB_f' ht
   go_enter Tryz.func122, Tryz.ntmps122
   go_wp2
   go_ret
   exact ⟨ret_boolE (by first | (simp_all [hasFv]; done) | (simp_all [hasFv]; omega)), xt⟩
  | true =>
   have hta := empB_t ht
   cases hz : decide (n = 0) with
   | false =>
    have hza : (n == 0) = false := by simpa using hz
    have hzb : ¬ n = 0 := of_decide_eq_false hz
    have hzc : (n != 0) = true := by simpa using hz
    go_enter Tryz.func122, Tryz.ntmps122
    go_wp2
    go_ret
    exact ⟨ret_boolE (by first | (simp_all [hasFv]; done) | (simp_all [hasFv]; omega)), xt⟩
   | true =>
    have hza : n = 0 := of_decide_eq_true hz
    subst hza
    cases hlen : decide (len = 2) with
    | false =>
     have hla : ((len : Int) == 2) = false := by have := of_decide_eq_false hlen; simp; omega
     go_enter Tryz.func122, Tryz.ntmps122
     go_wp2
     go_ret
     exact ⟨ret_boolE (by first | (simp_all [hasFv]; done) | (simp_all [hasFv]; omega)), xt⟩
    | true =>
     have hla : len = 2 := of_decide_eq_true hlen
     subst hla
     go_enter Tryz.func122, Tryz.ntmps122
     go_wp2
     go_ret
     exact ⟨ret_boolE (by first | (simp_all [hasFv]; done) | (simp_all [hasFv]; omega)), xt⟩
end Go.Proofs.YtangdoidkcelfaaGreatDoor
namespace Go.Proofs.YtangdoidkcelfaaGreatDoor
open Go.RowKit
set_option maxRecDepth 8000 in
set_option maxHeartbeats 4000000 in
theorem hasF8 (nm tx : ByteArray) (n : Int) (q : Option Addr) (len cp : Nat) (w : World) : Calls Tryz.prog 122 #[.agg #[.int .i64 8, .string nm, .string tx, .int .i64 n, .slice q len cp]] w (OneV (.bool (hasFv 8 nm tx n len)) w) := by
 cases hm : empB nm with
 | false =>
  have hma := empB_f hm
  have hmb := empB_f' hm
  go_enter Tryz.func122, Tryz.ntmps122
  go_wp2
  go_ret
  exact ⟨ret_boolE (by first | (simp_all [hasFv]; done) | (simp_all [hasFv]; omega)), xt⟩
 | true =>
  have hma := empB_t hm
  cases ht : empB tx with
  | false =>
   have hta := empB_f ht
   have htb := empB_f' ht
   go_enter Tryz.func122, Tryz.ntmps122
   go_wp2
   go_ret
   exact ⟨ret_boolE (by first | (simp_all [hasFv]; done) | (simp_all [hasFv]; omega)), xt⟩
  | true =>
   have hta := empB_t ht
   cases hz : decide (n = 0) with
   | false =>
    have hza : (n == 0) = false := by simpa using hz
    have hzb : ¬ n = 0 := of_decide_eq_false hz
    have hzc : (n != 0) = true := by simpa using hz
    go_enter Tryz.func122, Tryz.ntmps122
    go_wp2
    go_ret
    exact ⟨ret_boolE (by first | (simp_all [hasFv]; done) | (simp_all [hasFv]; omega)), xt⟩
   | true =>
    have hza : n = 0 := of_decide_eq_true hz
    subst hza
    cases hlen : decide (len = 2) with
    | false =>
     have hla : ((len : Int) == 2) = false := by have := of_decide_eq_false hlen; simp; omega
     go_enter Tryz.func122, Tryz.ntmps122
     go_wp2
     go_ret
     exact ⟨ret_boolE (by first | (simp_all [hasFv]; done) | (simp_all [hasFv]; omega)), xt⟩
    | true =>
     have hla : len = 2 := of_decide_eq_true hlen
     subst hla
     go_enter Tryz.func122, Tryz.ntmps122
     go_wp2
     go_ret
     exact ⟨ret_boolE (by first | (simp_all [hasFv]; done) | (simp_all [hasFv]; omega)), xt⟩
set_option maxRecDepth 8000 in
set_option maxHeartbeats 4000000 in
theorem hasF9 (nm tx : ByteArray) (n : Int) (q : Option Addr) (len cp : Nat) (w : World) : Calls Tryz.prog 122 #[.agg #[.int .i64 9, .string nm, .string tx, .int .i64 n, .slice q len cp]] w (OneV (.bool (hasFv 9 nm tx n len)) w) := by
 cases hm : empB nm with
 | false =>
  have hma := empB_f hm
  have hmb := empB_f' hm
  go_enter Tryz.func122, Tryz.ntmps122
  go_wp2
  go_ret
  exact ⟨ret_boolE (by first | (simp_all [hasFv]; done) | (simp_all [hasFv]; omega)), xt⟩
 | true =>
  have hma := empB_t hm
  cases ht : empB tx with
  | false =>
   have hta := empB_f ht
   have htb := empB_f' ht
   go_enter Tryz.func122, Tryz.ntmps122
   go_wp2
   go_ret
   exact ⟨ret_boolE (by first | (simp_all [hasFv]; done) | (simp_all [hasFv]; omega)), xt⟩
  | true =>
   have hta := empB_t ht
   cases hz : decide (n = 0) with
   | false =>
    have hza : (n == 0) = false := by simpa using hz
    have hzb : ¬ n = 0 := of_decide_eq_false hz
    have hzc : (n != 0) = true := by simpa using hz
    go_enter Tryz.func122, Tryz.ntmps122
    go_wp2
    go_ret
    exact ⟨ret_boolE (by first | (simp_all [hasFv]; done) | (simp_all [hasFv]; omega)), xt⟩
   | true =>
    have hza : n = 0 := of_decide_eq_true hz
    subst hza
    cases hlen : decide (len = 2) with
    | false =>
     have hla : ((len : Int) == 2) = false := by have := of_decide_eq_false hlen; simp; omega
     go_enter Tryz.func122, Tryz.ntmps122
     go_wp2
     go_ret
     exact ⟨ret_boolE (by first | (simp_all [hasFv]; done) | (simp_all [hasFv]; omega)), xt⟩
    | true =>
     have hla : len = 2 := of_decide_eq_true hlen
     subst hla
     go_enter Tryz.func122, Tryz.ntmps122
     go_wp2
     go_ret
     exact ⟨ret_boolE (by first | (simp_all [hasFv]; done) | (simp_all [hasFv]; omega)), xt⟩
set_option maxRecDepth 8000 in
set_option maxHeartbeats 4000000 in
theorem hasF10 (nm tx : ByteArray) (n : Int) (q : Option Addr) (len cp : Nat) (w : World) : Calls Tryz.prog 122 #[.agg #[.int .i64 10, .string nm, .string tx, .int .i64 n, .slice q len cp]] w (OneV (.bool (hasFv 10 nm tx n len)) w) := by
 cases hm : empB nm with
 | false =>
  have hma := empB_f hm
  have hmb := empB_f' hm
  go_enter Tryz.func122, Tryz.ntmps122
  go_wp2
  go_ret
  exact ⟨ret_boolE (by first | (simp_all [hasFv]; done) | (simp_all [hasFv]; omega)), xt⟩
 | true =>
  have hma := empB_t hm
  cases ht : empB tx with
  | false =>
   have hta := empB_f ht
   have htb := empB_f' ht
   go_enter Tryz.func122, Tryz.ntmps122
   go_wp2
   go_ret
   exact ⟨ret_boolE (by first | (simp_all [hasFv]; done) | (simp_all [hasFv]; omega)), xt⟩
  | true =>
   have hta := empB_t ht
   cases hz : decide (n = 0) with
   | false =>
    have hza : (n == 0) = false := by simpa using hz
    have hzb : ¬ n = 0 := of_decide_eq_false hz
    have hzc : (n != 0) = true := by simpa using hz
    go_enter Tryz.func122, Tryz.ntmps122
    go_wp2
    go_ret
    exact ⟨ret_boolE (by first | (simp_all [hasFv]; done) | (simp_all [hasFv]; omega)), xt⟩
   | true =>
    have hza : n = 0 := of_decide_eq_true hz
    subst hza
    cases hlen : decide (len = 2) with
    | false =>
     have hla : ((len : Int) == 2) = false := by have := of_decide_eq_false hlen; simp; omega
     go_enter Tryz.func122, Tryz.ntmps122
     go_wp2
     go_ret
     exact ⟨ret_boolE (by first | (simp_all [hasFv]; done) | (simp_all [hasFv]; omega)), xt⟩
    | true =>
     have hla : len = 2 := of_decide_eq_true hlen
     subst hla
     go_enter Tryz.func122, Tryz.ntmps122
     go_wp2
     go_ret
     exact ⟨ret_boolE (by first | (simp_all [hasFv]; done) | (simp_all [hasFv]; omega)), xt⟩
set_option maxRecDepth 8000 in
set_option maxHeartbeats 4000000 in
theorem hasF11 (nm tx : ByteArray) (n : Int) (q : Option Addr) (len cp : Nat) (w : World) : Calls Tryz.prog 122 #[.agg #[.int .i64 11, .string nm, .string tx, .int .i64 n, .slice q len cp]] w (OneV (.bool (hasFv 11 nm tx n len)) w) := by
 cases hm : empB nm with
 | false =>
  have hma := empB_f hm
  have hmb := empB_f' hm
  go_enter Tryz.func122, Tryz.ntmps122
  go_wp2
  go_ret
  exact ⟨ret_boolE (by first | (simp_all [hasFv]; done) | (simp_all [hasFv]; omega)), xt⟩
 | true =>
  have hma := empB_t hm
  cases ht : empB tx with
  | false =>
   have hta := empB_f ht
   have htb := empB_f' ht
   go_enter Tryz.func122, Tryz.ntmps122
   go_wp2
   go_ret
   exact ⟨ret_boolE (by first | (simp_all [hasFv]; done) | (simp_all [hasFv]; omega)), xt⟩
  | true =>
   have hta := empB_t ht
   cases hz : decide (n = 0) with
   | false =>
    have hza : (n == 0) = false := by simpa using hz
    have hzb : ¬ n = 0 := of_decide_eq_false hz
    have hzc : (n != 0) = true := by simpa using hz
    go_enter Tryz.func122, Tryz.ntmps122
    go_wp2
    go_ret
    exact ⟨ret_boolE (by first | (simp_all [hasFv]; done) | (simp_all [hasFv]; omega)), xt⟩
   | true =>
    have hza : n = 0 := of_decide_eq_true hz
    subst hza
    cases hlen : decide (len = 2) with
    | false =>
     have hla : ((len : Int) == 2) = false := by have := of_decide_eq_false hlen; simp; omega
     go_enter Tryz.func122, Tryz.ntmps122
     go_wp2
     go_ret
     exact ⟨ret_boolE (by first | (simp_all [hasFv]; done) | (simp_all [hasFv]; omega)), xt⟩
    | true =>
     have hla : len = 2 := of_decide_eq_true hlen
     subst hla
     go_enter Tryz.func122, Tryz.ntmps122
     go_wp2
     go_ret
     exact ⟨ret_boolE (by first | (simp_all [hasFv]; done) | (simp_all [hasFv]; omega)), xt⟩
set_option maxRecDepth 8000 in
set_option maxHeartbeats 4000000 in
theorem hasF12 (nm tx : ByteArray) (n : Int) (q : Option Addr) (len cp : Nat) (w : World) : Calls Tryz.prog 122 #[.agg #[.int .i64 12, .string nm, .string tx, .int .i64 n, .slice q len cp]] w (OneV (.bool (hasFv 12 nm tx n len)) w) := by
 cases hm : empB nm with
 | false =>
  have hma := empB_f hm
  have hmb := empB_f' hm
  go_enter Tryz.func122, Tryz.ntmps122
  go_wp2
  go_ret
  exact ⟨ret_boolE (by first | (simp_all [hasFv]; done) | (simp_all [hasFv]; omega)), xt⟩
 | true =>
  have hma := empB_t hm
  cases ht : empB tx with
  | false =>
   have hta := empB_f ht
   have htb := empB_f' ht
   go_enter Tryz.func122, Tryz.ntmps122
   go_wp2
   go_ret
   exact ⟨ret_boolE (by first | (simp_all [hasFv]; done) | (simp_all [hasFv]; omega)), xt⟩
  | true =>
   have hta := empB_t ht
   cases hz : decide (n = 0) with
   | false =>
    have hza : (n == 0) = false := by simpa using hz
    have hzb : ¬ n = 0 := of_decide_eq_false hz
    have hzc : (n != 0) = true := by simpa using hz
    go_enter Tryz.func122, Tryz.ntmps122
    go_wp2
    go_ret
    exact ⟨ret_boolE (by first | (simp_all [hasFv]; done) | (simp_all [hasFv]; omega)), xt⟩
   | true =>
    have hza : n = 0 := of_decide_eq_true hz
    subst hza
    cases hlen : decide (len = 2) with
    | false =>
     have hla : ((len : Int) == 2) = false := by have := of_decide_eq_false hlen; simp; omega
     go_enter Tryz.func122, Tryz.ntmps122
     go_wp2
     go_ret
     exact ⟨ret_boolE (by first | (simp_all [hasFv]; done) | (simp_all [hasFv]; omega)), xt⟩
    | true =>
     have hla : len = 2 := of_decide_eq_true hlen
     subst hla
     go_enter Tryz.func122, Tryz.ntmps122
     go_wp2
     go_ret
     exact ⟨ret_boolE (by first | (simp_all [hasFv]; done) | (simp_all [hasFv]; omega)), xt⟩
set_option maxRecDepth 8000 in
set_option maxHeartbeats 4000000 in
theorem hasF13 (nm tx : ByteArray) (n : Int) (q : Option Addr) (len cp : Nat) (w : World) : Calls Tryz.prog 122 #[.agg #[.int .i64 13, .string nm, .string tx, .int .i64 n, .slice q len cp]] w (OneV (.bool (hasFv 13 nm tx n len)) w) := by
 cases hm : empB nm with
 | false =>
  have hma := empB_f hm
  have hmb := empB_f' hm
  go_enter Tryz.func122, Tryz.ntmps122
  go_wp2
  go_ret
  exact ⟨ret_boolE (by first | (simp_all [hasFv]; done) | (simp_all [hasFv]; omega)), xt⟩
 | true =>
  have hma := empB_t hm
  cases ht : empB tx with
  | false =>
   have hta := empB_f ht
   have htb := empB_f' ht
   go_enter Tryz.func122, Tryz.ntmps122
   go_wp2
   go_ret
   exact ⟨ret_boolE (by first | (simp_all [hasFv]; done) | (simp_all [hasFv]; omega)), xt⟩
  | true =>
   have hta := empB_t ht
   cases hz : decide (n = 0) with
   | false =>
    have hza : (n == 0) = false := by simpa using hz
    have hzb : ¬ n = 0 := of_decide_eq_false hz
    have hzc : (n != 0) = true := by simpa using hz
    go_enter Tryz.func122, Tryz.ntmps122
    go_wp2
    go_ret
    exact ⟨ret_boolE (by first | (simp_all [hasFv]; done) | (simp_all [hasFv]; omega)), xt⟩
   | true =>
    have hza : n = 0 := of_decide_eq_true hz
    subst hza
    cases hlen : decide (len = 2) with
    | false =>
     have hla : ((len : Int) == 2) = false := by have := of_decide_eq_false hlen; simp; omega
     go_enter Tryz.func122, Tryz.ntmps122
     go_wp2
     go_ret
     exact ⟨ret_boolE (by first | (simp_all [hasFv]; done) | (simp_all [hasFv]; omega)), xt⟩
    | true =>
     have hla : len = 2 := of_decide_eq_true hlen
     subst hla
     go_enter Tryz.func122, Tryz.ntmps122
     go_wp2
     go_ret
     exact ⟨ret_boolE (by first | (simp_all [hasFv]; done) | (simp_all [hasFv]; omega)), xt⟩
set_option maxRecDepth 8000 in
set_option maxHeartbeats 4000000 in
theorem hasF14 (nm tx : ByteArray) (n : Int) (q : Option Addr) (len cp : Nat) (w : World) : Calls Tryz.prog 122 #[.agg #[.int .i64 14, .string nm, .string tx, .int .i64 n, .slice q len cp]] w (OneV (.bool (hasFv 14 nm tx n len)) w) := by
 cases hm : empB nm with
 | false =>
  have hma := empB_f hm
  have hmb := empB_f' hm
  go_enter Tryz.func122, Tryz.ntmps122
  go_wp2
  go_ret
  exact ⟨ret_boolE (by first | (simp_all [hasFv]; done) | (simp_all [hasFv]; omega)), xt⟩
 | true =>
  have hma := empB_t hm
  cases ht : empB tx with
  | false =>
   have hta := empB_f ht
   have htb := empB_f' ht
   go_enter Tryz.func122, Tryz.ntmps122
   go_wp2
   go_ret
   exact ⟨ret_boolE (by first | (simp_all [hasFv]; done) | (simp_all [hasFv]; omega)), xt⟩
  | true =>
   have hta := empB_t ht
   cases hz : decide (n = 0) with
   | false =>
    have hza : (n == 0) = false := by simpa using hz
    have hzb : ¬ n = 0 := of_decide_eq_false hz
    have hzc : (n != 0) = true := by simpa using hz
    go_enter Tryz.func122, Tryz.ntmps122
    go_wp2
    go_ret
    exact ⟨ret_boolE (by first | (simp_all [hasFv]; done) | (simp_all [hasFv]; omega)), xt⟩
   | true =>
    have hza : n = 0 := of_decide_eq_true hz
    subst hza
    cases hlen : decide (len = 2) with
    | false =>
     have hla : ((len : Int) == 2) = false := by have := of_decide_eq_false hlen; simp; omega
     go_enter Tryz.func122, Tryz.ntmps122
     go_wp2
     go_ret
     exact ⟨ret_boolE (by first | (simp_all [hasFv]; done) | (simp_all [hasFv]; omega)), xt⟩
    | true =>
     have hla : len = 2 := of_decide_eq_true hlen
     subst hla
     go_enter Tryz.func122, Tryz.ntmps122
     go_wp2
     go_ret
     exact ⟨ret_boolE (by first | (simp_all [hasFv]; done) | (simp_all [hasFv]; omega)), xt⟩
end Go.Proofs.YtangdoidkcelfaaGreatDoor
namespace Go.Proofs.YtangdoidkcelfaaGreatDoor
open Go.RowKit
set_option maxRecDepth 8000 in
set_option maxHeartbeats 4000000 in
theorem hasF15 (nm tx : ByteArray) (n : Int) (q : Option Addr) (len cp : Nat) (w : World) : Calls Tryz.prog 122 #[.agg #[.int .i64 15, .string nm, .string tx, .int .i64 n, .slice q len cp]] w (OneV (.bool (hasFv 15 nm tx n len)) w) := by
 cases hm : empB nm with
 | false =>
  have hma := empB_f hm
  have hmb := empB_f' hm
  go_enter Tryz.func122, Tryz.ntmps122
  go_wp2
  go_ret
  exact ⟨ret_boolE (by first | (simp_all [hasFv]; done) | (simp_all [hasFv]; omega)), xt⟩
 | true =>
  have hma := empB_t hm
  cases ht : empB tx with
  | false =>
   have hta := empB_f ht
   have htb := empB_f' ht
   go_enter Tryz.func122, Tryz.ntmps122
   go_wp2
   go_ret
   exact ⟨ret_boolE (by first | (simp_all [hasFv]; done) | (simp_all [hasFv]; omega)), xt⟩
  | true =>
   have hta := empB_t ht
   cases hz : decide (n = 0) with
   | false =>
    have hza : (n == 0) = false := by simpa using hz
    have hzb : ¬ n = 0 := of_decide_eq_false hz
    have hzc : (n != 0) = true := by simpa using hz
    go_enter Tryz.func122, Tryz.ntmps122
    go_wp2
    go_ret
    exact ⟨ret_boolE (by first | (simp_all [hasFv]; done) | (simp_all [hasFv]; omega)), xt⟩
   | true =>
    have hza : n = 0 := of_decide_eq_true hz
    subst hza
    cases hl1 : decide (2 ≤ len) with
    | false =>
     have hla : ¬ (2 : Int) ≤ len := by have := of_decide_eq_false hl1; omega
     go_enter Tryz.func122, Tryz.ntmps122
     go_wp2
     go_ret
     exact ⟨ret_boolE (by first | (simp_all [hasFv]; done) | (simp_all [hasFv]; omega)), xt⟩
    | true =>
     have hla : (2 : Int) ≤ len := by have := of_decide_eq_true hl1; omega
     cases hl2 : decide (len ≤ 17) with
     | false =>
      have hlb : ¬ (len : Int) ≤ 17 := by have := of_decide_eq_false hl2; omega
      go_enter Tryz.func122, Tryz.ntmps122
      go_wp2
      go_ret
      exact ⟨ret_boolE (by first | (simp_all [hasFv]; done) | (simp_all [hasFv]; omega)), xt⟩
     | true =>
      have hlb : (len : Int) ≤ 17 := by have := of_decide_eq_true hl2; omega
      go_enter Tryz.func122, Tryz.ntmps122
      go_wp2
      go_ret
      exact ⟨ret_boolE (by first | (simp_all [hasFv]; done) | (simp_all [hasFv]; omega)), xt⟩
set_option maxRecDepth 8000 in
set_option maxHeartbeats 4000000 in
theorem hasFx (op : Int) (nm tx : ByteArray) (n : Int) (q : Option Addr) (len cp : Nat) (w : World) (hop : op < 1 ∨ 17 < op) : Calls Tryz.prog 122 #[.agg #[.int .i64 op, .string nm, .string tx, .int .i64 n, .slice q len cp]] w (OneV (.bool (hasFv op nm tx n len)) w) := by
 have o1 : (op == 1) = false := by simp; omega
 have o2 : (op == 2) = false := by simp; omega
 have o3 : (op == 3) = false := by simp; omega
 have o4 : (op == 4) = false := by simp; omega
 have o5 : (op == 5) = false := by simp; omega
 have o6 : (op == 6) = false := by simp; omega
 have o7 : (op == 7) = false := by simp; omega
 have o8 : (op == 8) = false := by simp; omega
 have o9 : (op == 9) = false := by simp; omega
 have o10 : (op == 10) = false := by simp; omega
 have o11 : (op == 11) = false := by simp; omega
 have o12 : (op == 12) = false := by simp; omega
 have o13 : (op == 13) = false := by simp; omega
 have o14 : (op == 14) = false := by simp; omega
 have o15 : (op == 15) = false := by simp; omega
 have o16 : (op == 16) = false := by simp; omega
 have o17 : (op == 17) = false := by simp; omega
 have hv : hasFv op nm tx n len = false := by
  unfold hasFv
  rw [if_neg (by omega), if_neg (by omega), if_neg (by omega), if_neg (by omega)]
  split
  · rfl
  · rw [if_neg (by omega), if_neg (by omega), if_neg (by omega)]
 rw [hv]
 clear hv hop
 cases hm : empB nm with
 | false =>
  have hma := empB_f hm
  have hmb := empB_f' hm
  go_enter Tryz.func122, Tryz.ntmps122
  go_wp2
  go_ret
  exact ⟨rfl, xt⟩
 | true =>
  have hma := empB_t hm
  cases ht : empB tx with
  | false =>
   have hta := empB_f ht
   have htb := empB_f' ht
   go_enter Tryz.func122, Tryz.ntmps122
   go_wp2
   go_ret
   exact ⟨rfl, xt⟩
  | true =>
   have hta := empB_t ht
   cases hz : decide (n = 0) with
   | false =>
    have hza : (n == 0) = false := by simpa using hz
    have hzb : ¬ n = 0 := of_decide_eq_false hz
    have hzc : (n != 0) = true := by simpa using hz
    go_enter Tryz.func122, Tryz.ntmps122
    go_wp2
    go_ret
    exact ⟨rfl, xt⟩
   | true =>
    have hza : n = 0 := of_decide_eq_true hz
    subst hza
    go_enter Tryz.func122, Tryz.ntmps122
    go_wp2
    go_ret
    exact ⟨rfl, xt⟩
end Go.Proofs.YtangdoidkcelfaaGreatDoor
namespace Go.Proofs.YtangdoidkcelfaaGreatDoor
open Go.RowKit
theorem hasFields_any (op : Int) (nm tx : ByteArray) (n : Int) (q : Option Addr) (len cp : Nat) (w : World) : Calls Tryz.prog 122 #[.agg #[.int .i64 op, .string nm, .string tx, .int .i64 n, .slice q len cp]] w (OneV (.bool (hasFv op nm tx n len)) w) := by
 by_cases h : op < 1 ∨ 17 < op
 · exact hasFx op nm tx n q len cp w h
 · have h' : op = 1 ∨ op = 2 ∨ op = 3 ∨ op = 4 ∨ op = 5 ∨ op = 6 ∨ op = 7 ∨ op = 8 ∨ op = 9 ∨ op = 10 ∨ op = 11 ∨ op = 12 ∨ op = 13 ∨ op = 14 ∨ op = 15 ∨ op = 16 ∨ op = 17 := by omega
   rcases h' with rfl | rfl | rfl | rfl | rfl | rfl | rfl | rfl | rfl | rfl | rfl | rfl | rfl | rfl | rfl | rfl | rfl
   · exact hasF1 nm tx n q len cp w
   · exact hasF2 nm tx n q len cp w
   · exact hasF3 nm tx n q len cp w
   · exact hasF4 nm tx n q len cp w
   · exact hasF5 nm tx n q len cp w
   · exact hasF6 nm tx n q len cp w
   · exact hasF7 nm tx n q len cp w
   · exact hasF8 nm tx n q len cp w
   · exact hasF9 nm tx n q len cp w
   · exact hasF10 nm tx n q len cp w
   · exact hasF11 nm tx n q len cp w
   · exact hasF12 nm tx n q len cp w
   · exact hasF13 nm tx n q len cp w
   · exact hasF14 nm tx n q len cp w
   · exact hasF15 nm tx n q len cp w
   · exact hasF16 nm tx n q len cp w
   · exact hasF17 nm tx n q len cp w

end Go.Proofs.YtangdoidkcelfaaGreatDoor
namespace Go.Proofs.YtangdoidkcelfaaGreatDoor
open Go.RowKit
set_option maxRecDepth 8000 in
set_option maxHeartbeats 2000000 in
theorem formed_any {w : World} {v : Value} {l : List Ex} (h : ExS w v l) : ∀ (x : Ex), x.args = l → ∀ w', Ext w w' → Calls Tryz.prog 85 #[exAgg x v] w' (OneV (.bool x.formed) w') := by
 refine ExS.ind (P := fun x v => ∀ w', Ext w w' → Calls Tryz.prog 85 #[exAgg x v] w' (OneV (.bool x.formed) w')) ?_ h
 clear h
 intro x v hS hK w' hE
 obtain ⟨op, nm, tx, n, args⟩ := x
 obtain ⟨q, cp, rfl⟩ := hS.form
 have hlen := hS.len
 replace hK := Lib.hid hK
 have hfe := Lib.hid (formed_eq op nm tx n args)
 simp only [Ex.args] at hK hlen ⊢
 generalize (Ex.mk op nm tx n args).formed = F at *
 rw [exAgg_mk]
 clear hS
 cases hf : hasFv op nm tx n args.length with
 | false =>
  have hF : F = false := by rw [hfe.out, hf]; rfl
  subst hF
  clear hfe hK
  go_enter Tryz.func85, Tryz.ntmps85
  go_wp2_with fail
  refine (hasFields_any op nm tx n q args.length cp _).mono ?_
  rintro e w1 ⟨rfl, hE1⟩
  rw [hf]
  clear hf
  have hE : Ext w' w1 := Ext.trans xt hE1
  clear hE1
  go_wp2
  go_ret
  exact ⟨rfl, hE⟩
 | true =>
  have hF : F = args.all Ex.formed := by rw [hfe.out, hf]; rfl
  replace hF := Lib.hid hF
  clear hfe
  go_enter Tryz.func85, Tryz.ntmps85
  go_wp2_with fail
  have hb0 := (Blk.new w' #[.int .i64 op, .string nm, .string tx, .int .i64 n, .slice q args.length cp] 40)
  refine (hasFields_any op nm tx n q args.length cp _).mono ?_
  rintro e w1 ⟨rfl, hE1⟩
  rw [hf]
  clear hf
  have hb1 := (hb0.ext hE1).cell 4
  have x4 : w1.cell? ⟨w'.heap.size, 4, none⟩ = some (.slice q args.length cp) := hb1.trans rfl
  have hE0 : Ext w' w1 := Ext.trans xt hE1
  clear hE1 hb0 hb1
  go_wp2_with fail
  go_loopw [11] (fun i wr => ∃ k : Nat, k ≤ args.length ∧ i = .int .i64 k ∧ (args.take k).all Ex.formed = true ∧ Ext w' wr) (fun i _ => args.length - (intOf i).toNat)
  case atStart => exact ⟨0, Nat.zero_le _, rfl, rfl, hE0⟩
  case round =>
   obtain ⟨k, hk, rfl, hd, hEr⟩ := hrel
   by_cases hlt : k < args.length
   · obtain ⟨b, off, rfl, sv, hkid⟩ := hK.out _ _ rfl (by omega)
     obtain ⟨hc, hsu, hP⟩ := hkid k hlt
     have hform := hsu.form
     obtain ⟨c0, c1, c2, c3, c4⟩ := (hc.ext (hE.trans hEr)).five
     have hsn := Lib.hid (all_snocD Ex.formed args exD k hlt)
     have hbd := Lib.hid (all_badD Ex.formed args exD k hlt)
     replace hP := Lib.hid hP
     replace hd := Lib.hid hd
     clear hc hkid hsu
     generalize args.getD k exD = y at *
     generalize sv k = u at *
     obtain ⟨uq, uc, rfl⟩ := hform
     go_wp2_with fail
     refine (hP.out _ ((hE.trans hEr).alloc _)).mono ?_
     rintro e w2 ⟨rfl, hE1⟩
     have hE2 := (hEr.alloc _).trans hE1
     clear hE1 c0 c1 c2 c3 c4
     cases hy : y.formed with
     | false =>
      go_wp2
      go_ret
      exact ⟨ret_boolE (by rw [hF.out, hbd.out hy]), hE2⟩
     | true =>
      go_wp2
      go_roundw
      case rel => exact ⟨k + 1, by omega, by go_num, by rw [hsn.out, hd.out, hy]; rfl, hE2⟩
      case measure => simp [intOf]; omega
   · have hkk : args.take k = args := List.take_of_length_le (by omega)
     rw [hkk] at hd
     replace hd := Lib.hid hd
     clear hkk
     go_wp2
     go_ret
     exact ⟨ret_boolE (by rw [hF.out, hd.out]), hEr⟩
end Go.Proofs.YtangdoidkcelfaaGreatDoor
