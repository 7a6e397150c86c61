/- Contracts of the reference's bare and part (walks; printed by gen/g2.py). -/
import Derived.Test.YtnppbeajemhjeaaGreatG1
namespace Go.Proofs.YtnppbeajemhjeaaGreat
open Go.RowKit
def bareB (nm tx : ByteArray) (n : Int) : Bool := empB nm && empB tx && decide (n = 0)
set_option maxRecDepth 8000 in
set_option maxHeartbeats 1000000 in
theorem bare_any (op : Int) (nm tx : ByteArray) (n : Int) (q : Option Addr) (len cp : Nat) (w : World) : Calls Tryz.prog 72 #[.agg #[.int .i64 op, .string nm, .string tx, .int .i64 n, .slice q len cp]] w (OneV (.bool (bareB nm tx n)) w) := by
  unfold bareB
  cases hm : empB nm with
  | false =>
    have hma := empB_f hm
    have hmb := empB_f' hm
    go_enter Tryz.func72, Tryz.ntmps72
    go_wp2
    go_ret
    exact ⟨ret_boolE (by first | (simp_all; done) | (simp_all [bareB]; omega)), (by repeat (first | with_reducible exact Ext.refl _ | with_reducible exact hE0 | with_reducible exact hE | with_reducible refine Ext.alloc ?_ _ | with_reducible refine Ext.drewN ?_ _ | with_reducible refine Ext.drew ?_ | ((with_reducible refine Ext.setCell ?_ ?side _); (case side => first | exact Nat.le_refl _ | (simp; done) | (simp; omega)))))⟩
  | true =>
    have hma := empB_t hm
    cases ht : empB tx with
    | false =>
      have hta := empB_f ht
      have htb := empB_f' ht
      go_enter Tryz.func72, Tryz.ntmps72
      go_wp2
      go_ret
      exact ⟨ret_boolE (by first | (simp_all; done) | (simp_all [bareB]; omega)), (by repeat (first | with_reducible exact Ext.refl _ | with_reducible exact hE0 | with_reducible exact hE | with_reducible refine Ext.alloc ?_ _ | with_reducible refine Ext.drewN ?_ _ | with_reducible refine Ext.drew ?_ | ((with_reducible refine Ext.setCell ?_ ?side _); (case side => first | exact Nat.le_refl _ | (simp; done) | (simp; omega)))))⟩
    | true =>
      have hta := empB_t ht
      cases hz : decide (n = 0) with
      | false =>
        have hza : (n == 0) = false := by simpa using hz
        have hzb : ¬ n = 0 := of_decide_eq_false hz
        have hzc : (n != 0) = true := by simpa using hz
        go_enter Tryz.func72, Tryz.ntmps72
        go_wp2
        go_ret
        exact ⟨ret_boolE (by first | (simp_all; done) | (simp_all [bareB]; omega)), (by repeat (first | with_reducible exact Ext.refl _ | with_reducible exact hE0 | with_reducible exact hE | with_reducible refine Ext.alloc ?_ _ | with_reducible refine Ext.drewN ?_ _ | with_reducible refine Ext.drew ?_ | ((with_reducible refine Ext.setCell ?_ ?side _); (case side => first | exact Nat.le_refl _ | (simp; done) | (simp; omega)))))⟩
      | true =>
        have hza : n = 0 := of_decide_eq_true hz
        subst hza
        go_enter Tryz.func72, Tryz.ntmps72
        go_wp2
        go_ret
        exact ⟨ret_boolE (by first | (simp_all; done) | (simp_all [bareB]; omega)), (by repeat (first | with_reducible exact Ext.refl _ | with_reducible exact hE0 | with_reducible exact hE | with_reducible refine Ext.alloc ?_ _ | with_reducible refine Ext.drewN ?_ _ | with_reducible refine Ext.drew ?_ | ((with_reducible refine Ext.setCell ?_ ?side _); (case side => first | exact Nat.le_refl _ | (simp; done) | (simp; omega)))))⟩
set_option maxRecDepth 8000 in
set_option maxHeartbeats 4000000 in
theorem part1 (nm tx : ByteArray) (n : Int) (q : Option Addr) (len cp : Nat) (w : World) (_hn0 : nm.size ≤ 140737488355328) (_ht0 : tx.size ≤ 140737488355328) : Calls Tryz.prog 45 #[.agg #[.int .i64 1, .string nm, .string tx, .int .i64 n, .slice q len cp]] w (OneV (.bool (hasFv 1 nm tx n len)) w) := by
  cases hlen : decide (len = 0) with
  | false =>
    have hla : ((len : Int) == 0) = false := by have := of_decide_eq_false hlen; simp; omega
    go_enter Tryz.func45, Tryz.ntmps45
    go_wp2
    go_ret
    exact ⟨ret_boolE (by first | (simp_all [hasFv]; done) | (simp_all [hasFv, bareB]; omega)), (by repeat (first | with_reducible exact Ext.refl _ | with_reducible exact hE0 | with_reducible exact hE | with_reducible refine Ext.alloc ?_ _ | with_reducible refine Ext.drewN ?_ _ | with_reducible refine Ext.drew ?_ | ((with_reducible refine Ext.setCell ?_ ?side _); (case side => first | exact Nat.le_refl _ | (simp; done) | (simp; omega)))))⟩
  | true =>
    have hla : len = 0 := of_decide_eq_true hlen
    subst hla
    cases hm : empB nm with
    | false =>
      have hma := empB_f hm
      have hmb := empB_f' hm
      go_enter Tryz.func45, Tryz.ntmps45
      go_wp2
      go_ret
      exact ⟨ret_boolE (by first | (simp_all [hasFv]; done) | (simp_all [hasFv, bareB]; omega)), (by repeat (first | with_reducible exact Ext.refl _ | with_reducible exact hE0 | with_reducible exact hE | with_reducible refine Ext.alloc ?_ _ | with_reducible refine Ext.drewN ?_ _ | with_reducible refine Ext.drew ?_ | ((with_reducible refine Ext.setCell ?_ ?side _); (case side => first | exact Nat.le_refl _ | (simp; done) | (simp; omega)))))⟩
    | true =>
      have hma := empB_t hm
      cases ht : empB tx with
      | false =>
        have hta := empB_f ht
        have htb := empB_f' ht
        go_enter Tryz.func45, Tryz.ntmps45
        go_wp2
        go_ret
        exact ⟨ret_boolE (by first | (simp_all [hasFv]; done) | (simp_all [hasFv, bareB]; omega)), (by repeat (first | with_reducible exact Ext.refl _ | with_reducible exact hE0 | with_reducible exact hE | with_reducible refine Ext.alloc ?_ _ | with_reducible refine Ext.drewN ?_ _ | with_reducible refine Ext.drew ?_ | ((with_reducible refine Ext.setCell ?_ ?side _); (case side => first | exact Nat.le_refl _ | (simp; done) | (simp; omega)))))⟩
      | true =>
        have hta := empB_t ht
        cases hN : nbrB n with
        | false =>
          go_enter Tryz.func45, Tryz.ntmps45
          go_wp2_with fail
          refine (rnumber_any n _).mono ?_
          rintro e w1 ⟨rfl, rfl⟩
          rw [hN]
          go_wp2
          go_ret
          exact ⟨ret_boolE (by first | (simp_all [hasFv]; done) | (simp_all [hasFv, bareB]; omega)), (by repeat (first | with_reducible exact Ext.refl _ | with_reducible exact hE0 | with_reducible exact hE | with_reducible refine Ext.alloc ?_ _ | with_reducible refine Ext.drewN ?_ _ | with_reducible refine Ext.drew ?_ | ((with_reducible refine Ext.setCell ?_ ?side _); (case side => first | exact Nat.le_refl _ | (simp; done) | (simp; omega)))))⟩
        | true =>
          go_enter Tryz.func45, Tryz.ntmps45
          go_wp2_with fail
          refine (rnumber_any n _).mono ?_
          rintro e w1 ⟨rfl, rfl⟩
          rw [hN]
          go_wp2
          go_ret
          exact ⟨ret_boolE (by first | (simp_all [hasFv]; done) | (simp_all [hasFv, bareB]; omega)), (by repeat (first | with_reducible exact Ext.refl _ | with_reducible exact hE0 | with_reducible exact hE | with_reducible refine Ext.alloc ?_ _ | with_reducible refine Ext.drewN ?_ _ | with_reducible refine Ext.drew ?_ | ((with_reducible refine Ext.setCell ?_ ?side _); (case side => first | exact Nat.le_refl _ | (simp; done) | (simp; omega)))))⟩
set_option maxRecDepth 8000 in
set_option maxHeartbeats 4000000 in
theorem part2 (nm tx : ByteArray) (n : Int) (q : Option Addr) (len cp : Nat) (w : World) (_hn0 : nm.size ≤ 140737488355328) (ht0 : tx.size ≤ 140737488355328) : Calls Tryz.prog 45 #[.agg #[.int .i64 2, .string nm, .string tx, .int .i64 n, .slice q len cp]] w (OneV (.bool (hasFv 2 nm tx n len)) w) := by
  cases hlen : decide (len = 0) with
  | false =>
    have hla : ((len : Int) == 0) = false := by have := of_decide_eq_false hlen; simp; omega
    go_enter Tryz.func45, Tryz.ntmps45
    go_wp2
    go_ret
    exact ⟨ret_boolE (by first | (simp_all [hasFv]; done) | (simp_all [hasFv, bareB]; omega)), (by repeat (first | with_reducible exact Ext.refl _ | with_reducible exact hE0 | with_reducible exact hE | with_reducible refine Ext.alloc ?_ _ | with_reducible refine Ext.drewN ?_ _ | with_reducible refine Ext.drew ?_ | ((with_reducible refine Ext.setCell ?_ ?side _); (case side => first | exact Nat.le_refl _ | (simp; done) | (simp; omega)))))⟩
  | true =>
    have hla : len = 0 := of_decide_eq_true hlen
    subst hla
    cases hm : empB nm with
    | false =>
      have hma := empB_f hm
      have hmb := empB_f' hm
      go_enter Tryz.func45, Tryz.ntmps45
      go_wp2
      go_ret
      exact ⟨ret_boolE (by first | (simp_all [hasFv]; done) | (simp_all [hasFv, bareB]; omega)), (by repeat (first | with_reducible exact Ext.refl _ | with_reducible exact hE0 | with_reducible exact hE | with_reducible refine Ext.alloc ?_ _ | with_reducible refine Ext.drewN ?_ _ | with_reducible refine Ext.drew ?_ | ((with_reducible refine Ext.setCell ?_ ?side _); (case side => first | exact Nat.le_refl _ | (simp; done) | (simp; omega)))))⟩
    | true =>
      have hma := empB_t hm
      cases hz : decide (n = 0) with
      | false =>
        have hza : (n == 0) = false := by simpa using hz
        have hzb : ¬ n = 0 := of_decide_eq_false hz
        have hzc : (n != 0) = true := by simpa using hz
        go_enter Tryz.func45, Tryz.ntmps45
        go_wp2
        go_ret
        exact ⟨ret_boolE (by first | (simp_all [hasFv]; done) | (simp_all [hasFv, bareB]; omega)), (by repeat (first | with_reducible exact Ext.refl _ | with_reducible exact hE0 | with_reducible exact hE | with_reducible refine Ext.alloc ?_ _ | with_reducible refine Ext.drewN ?_ _ | with_reducible refine Ext.drew ?_ | ((with_reducible refine Ext.setCell ?_ ?side _); (case side => first | exact Nat.le_refl _ | (simp; done) | (simp; omega)))))⟩
      | true =>
        have hza : n = 0 := of_decide_eq_true hz
        subst hza
        cases hN : litB tx with
        | false =>
          go_enter Tryz.func45, Tryz.ntmps45
          go_wp2_with fail
          refine ((fun w9 => printable_any tx w9 ht0) _).mono ?_
          rintro e w1 ⟨rfl, rfl⟩
          rw [hN]
          go_wp2
          go_ret
          exact ⟨ret_boolE (by first | (simp_all [hasFv]; done) | (simp_all [hasFv, bareB]; omega)), (by repeat (first | with_reducible exact Ext.refl _ | with_reducible exact hE0 | with_reducible exact hE | with_reducible refine Ext.alloc ?_ _ | with_reducible refine Ext.drewN ?_ _ | with_reducible refine Ext.drew ?_ | ((with_reducible refine Ext.setCell ?_ ?side _); (case side => first | exact Nat.le_refl _ | (simp; done) | (simp; omega)))))⟩
        | true =>
          go_enter Tryz.func45, Tryz.ntmps45
          go_wp2_with fail
          refine ((fun w9 => printable_any tx w9 ht0) _).mono ?_
          rintro e w1 ⟨rfl, rfl⟩
          rw [hN]
          go_wp2
          go_ret
          exact ⟨ret_boolE (by first | (simp_all [hasFv]; done) | (simp_all [hasFv, bareB]; omega)), (by repeat (first | with_reducible exact Ext.refl _ | with_reducible exact hE0 | with_reducible exact hE | with_reducible refine Ext.alloc ?_ _ | with_reducible refine Ext.drewN ?_ _ | with_reducible refine Ext.drew ?_ | ((with_reducible refine Ext.setCell ?_ ?side _); (case side => first | exact Nat.le_refl _ | (simp; done) | (simp; omega)))))⟩
set_option maxRecDepth 8000 in
set_option maxHeartbeats 4000000 in
theorem part3 (nm tx : ByteArray) (n : Int) (q : Option Addr) (len cp : Nat) (w : World) (hn0 : nm.size ≤ 140737488355328) (_ht0 : tx.size ≤ 140737488355328) : Calls Tryz.prog 45 #[.agg #[.int .i64 3, .string nm, .string tx, .int .i64 n, .slice q len cp]] w (OneV (.bool (hasFv 3 nm tx n len)) w) := by
  cases hlen : decide (len = 0) with
  | false =>
    have hla : ((len : Int) == 0) = false := by have := of_decide_eq_false hlen; simp; omega
    go_enter Tryz.func45, Tryz.ntmps45
    go_wp2
    go_ret
    exact ⟨ret_boolE (by first | (simp_all [hasFv]; done) | (simp_all [hasFv, bareB]; omega)), (by repeat (first | with_reducible exact Ext.refl _ | with_reducible exact hE0 | with_reducible exact hE | with_reducible refine Ext.alloc ?_ _ | with_reducible refine Ext.drewN ?_ _ | with_reducible refine Ext.drew ?_ | ((with_reducible refine Ext.setCell ?_ ?side _); (case side => first | exact Nat.le_refl _ | (simp; done) | (simp; omega)))))⟩
  | true =>
    have hla : len = 0 := of_decide_eq_true hlen
    subst hla
    cases hN : nameB nm with
    | false =>
      go_enter Tryz.func45, Tryz.ntmps45
      go_wp2_with fail
      refine ((fun w9 => risName_any nm w9 hn0) _).mono ?_
      rintro e w1 ⟨rfl, hE1⟩
      have hE := Ext.trans (a := w) (by repeat (first | with_reducible exact Ext.refl _ | with_reducible exact hE0 | with_reducible exact hE | with_reducible refine Ext.alloc ?_ _ | with_reducible refine Ext.drewN ?_ _ | with_reducible refine Ext.drew ?_ | ((with_reducible refine Ext.setCell ?_ ?side _); (case side => first | exact Nat.le_refl _ | (simp; done) | (simp; omega))))) hE1
      have hb := Blk.ext (Blk.new w _ _) hE1
      have y2 := hb.cell 2
      have y3 := hb.cell 3
      simp at y2 y3
      clear hb hE1
      rw [hN]
      go_wp2
      go_ret
      exact ⟨ret_boolE (by first | (simp_all [hasFv]; done) | (simp_all [hasFv, bareB]; omega)), (by repeat (first | with_reducible exact Ext.refl _ | with_reducible exact hE0 | with_reducible exact hE | with_reducible refine Ext.alloc ?_ _ | with_reducible refine Ext.drewN ?_ _ | with_reducible refine Ext.drew ?_ | ((with_reducible refine Ext.setCell ?_ ?side _); (case side => first | exact Nat.le_refl _ | (simp; done) | (simp; omega)))))⟩
    | true =>
      cases ht : empB tx with
      | false =>
        have hta := empB_f ht
        have htb := empB_f' ht
        go_enter Tryz.func45, Tryz.ntmps45
        go_wp2_with fail
        refine ((fun w9 => risName_any nm w9 hn0) _).mono ?_
        rintro e w1 ⟨rfl, hE1⟩
        have hE := Ext.trans (a := w) (by repeat (first | with_reducible exact Ext.refl _ | with_reducible exact hE0 | with_reducible exact hE | with_reducible refine Ext.alloc ?_ _ | with_reducible refine Ext.drewN ?_ _ | with_reducible refine Ext.drew ?_ | ((with_reducible refine Ext.setCell ?_ ?side _); (case side => first | exact Nat.le_refl _ | (simp; done) | (simp; omega))))) hE1
        have hb := Blk.ext (Blk.new w _ _) hE1
        have y2 := hb.cell 2
        have y3 := hb.cell 3
        simp at y2 y3
        clear hb hE1
        rw [hN]
        go_wp2
        go_ret
        exact ⟨ret_boolE (by first | (simp_all [hasFv]; done) | (simp_all [hasFv, bareB]; omega)), (by repeat (first | with_reducible exact Ext.refl _ | with_reducible exact hE0 | with_reducible exact hE | with_reducible refine Ext.alloc ?_ _ | with_reducible refine Ext.drewN ?_ _ | with_reducible refine Ext.drew ?_ | ((with_reducible refine Ext.setCell ?_ ?side _); (case side => first | exact Nat.le_refl _ | (simp; done) | (simp; omega)))))⟩
      | true =>
        have hta := empB_t ht
        cases hz : decide (n = 0) with
        | false =>
          have hza : (n == 0) = false := by simpa using hz
          have hzb : ¬ n = 0 := of_decide_eq_false hz
          have hzc : (n != 0) = true := by simpa using hz
          go_enter Tryz.func45, Tryz.ntmps45
          go_wp2_with fail
          refine ((fun w9 => risName_any nm w9 hn0) _).mono ?_
          rintro e w1 ⟨rfl, hE1⟩
          have hE := Ext.trans (a := w) (by repeat (first | with_reducible exact Ext.refl _ | with_reducible exact hE0 | with_reducible exact hE | with_reducible refine Ext.alloc ?_ _ | with_reducible refine Ext.drewN ?_ _ | with_reducible refine Ext.drew ?_ | ((with_reducible refine Ext.setCell ?_ ?side _); (case side => first | exact Nat.le_refl _ | (simp; done) | (simp; omega))))) hE1
          have hb := Blk.ext (Blk.new w _ _) hE1
          have y2 := hb.cell 2
          have y3 := hb.cell 3
          simp at y2 y3
          clear hb hE1
          rw [hN]
          go_wp2
          go_ret
          exact ⟨ret_boolE (by first | (simp_all [hasFv]; done) | (simp_all [hasFv, bareB]; omega)), (by repeat (first | with_reducible exact Ext.refl _ | with_reducible exact hE0 | with_reducible exact hE | with_reducible refine Ext.alloc ?_ _ | with_reducible refine Ext.drewN ?_ _ | with_reducible refine Ext.drew ?_ | ((with_reducible refine Ext.setCell ?_ ?side _); (case side => first | exact Nat.le_refl _ | (simp; done) | (simp; omega)))))⟩
        | true =>
          have hza : n = 0 := of_decide_eq_true hz
          subst hza
          go_enter Tryz.func45, Tryz.ntmps45
          go_wp2_with fail
          refine ((fun w9 => risName_any nm w9 hn0) _).mono ?_
          rintro e w1 ⟨rfl, hE1⟩
          have hE := Ext.trans (a := w) (by repeat (first | with_reducible exact Ext.refl _ | with_reducible exact hE0 | with_reducible exact hE | with_reducible refine Ext.alloc ?_ _ | with_reducible refine Ext.drewN ?_ _ | with_reducible refine Ext.drew ?_ | ((with_reducible refine Ext.setCell ?_ ?side _); (case side => first | exact Nat.le_refl _ | (simp; done) | (simp; omega))))) hE1
          have hb := Blk.ext (Blk.new w _ _) hE1
          have y2 := hb.cell 2
          have y3 := hb.cell 3
          simp at y2 y3
          clear hb hE1
          rw [hN]
          go_wp2
          go_ret
          exact ⟨ret_boolE (by first | (simp_all [hasFv]; done) | (simp_all [hasFv, bareB]; omega)), (by repeat (first | with_reducible exact Ext.refl _ | with_reducible exact hE0 | with_reducible exact hE | with_reducible refine Ext.alloc ?_ _ | with_reducible refine Ext.drewN ?_ _ | with_reducible refine Ext.drew ?_ | ((with_reducible refine Ext.setCell ?_ ?side _); (case side => first | exact Nat.le_refl _ | (simp; done) | (simp; omega)))))⟩
set_option maxRecDepth 8000 in
set_option maxHeartbeats 4000000 in
theorem part4 (nm tx : ByteArray) (n : Int) (q : Option Addr) (len cp : Nat) (w : World) (_hn0 : nm.size ≤ 140737488355328) (_ht0 : tx.size ≤ 140737488355328) : Calls Tryz.prog 45 #[.agg #[.int .i64 4, .string nm, .string tx, .int .i64 n, .slice q len cp]] w (OneV (.bool (hasFv 4 nm tx n len)) w) := by
  cases hlen : decide (len = 1) with
  | false =>
    have hla : ((len : Int) == 1) = false := by have := of_decide_eq_false hlen; simp; omega
    go_enter Tryz.func45, Tryz.ntmps45
    go_wp2
    go_ret
    exact ⟨ret_boolE (by first | (simp_all [hasFv]; done) | (simp_all [hasFv, bareB]; omega)), (by repeat (first | with_reducible exact Ext.refl _ | with_reducible exact hE0 | with_reducible exact hE | with_reducible refine Ext.alloc ?_ _ | with_reducible refine Ext.drewN ?_ _ | with_reducible refine Ext.drew ?_ | ((with_reducible refine Ext.setCell ?_ ?side _); (case side => first | exact Nat.le_refl _ | (simp; done) | (simp; omega)))))⟩
  | true =>
    have hla : len = 1 := of_decide_eq_true hlen
    subst hla
    cases hB : bareB nm tx n with
    | false =>
      go_enter Tryz.func45, Tryz.ntmps45
      go_wp2_with fail
      refine (bare_any 4 nm tx n q _ cp _).mono ?_
      rintro e w1 ⟨rfl, hE1⟩
      have hE := Ext.trans (a := w) (by repeat (first | with_reducible exact Ext.refl _ | with_reducible exact hE0 | with_reducible exact hE | with_reducible refine Ext.alloc ?_ _ | with_reducible refine Ext.drewN ?_ _ | with_reducible refine Ext.drew ?_ | ((with_reducible refine Ext.setCell ?_ ?side _); (case side => first | exact Nat.le_refl _ | (simp; done) | (simp; omega))))) hE1
      rw [hB]
      go_wp2
      go_ret
      exact ⟨ret_boolE (by first | (simp_all [hasFv, bareB]; done) | (simp_all [hasFv, bareB]; omega)), (by repeat (first | with_reducible exact Ext.refl _ | with_reducible exact hE0 | with_reducible exact hE | with_reducible refine Ext.alloc ?_ _ | with_reducible refine Ext.drewN ?_ _ | with_reducible refine Ext.drew ?_ | ((with_reducible refine Ext.setCell ?_ ?side _); (case side => first | exact Nat.le_refl _ | (simp; done) | (simp; omega)))))⟩
    | true =>
      go_enter Tryz.func45, Tryz.ntmps45
      go_wp2_with fail
      refine (bare_any 4 nm tx n q _ cp _).mono ?_
      rintro e w1 ⟨rfl, hE1⟩
      have hE := Ext.trans (a := w) (by repeat (first | with_reducible exact Ext.refl _ | with_reducible exact hE0 | with_reducible exact hE | with_reducible refine Ext.alloc ?_ _ | with_reducible refine Ext.drewN ?_ _ | with_reducible refine Ext.drew ?_ | ((with_reducible refine Ext.setCell ?_ ?side _); (case side => first | exact Nat.le_refl _ | (simp; done) | (simp; omega))))) hE1
      rw [hB]
      go_wp2
      go_ret
      exact ⟨ret_boolE (by first | (simp_all [hasFv, bareB]; done) | (simp_all [hasFv, bareB]; omega)), (by repeat (first | with_reducible exact Ext.refl _ | with_reducible exact hE0 | with_reducible exact hE | with_reducible refine Ext.alloc ?_ _ | with_reducible refine Ext.drewN ?_ _ | with_reducible refine Ext.drew ?_ | ((with_reducible refine Ext.setCell ?_ ?side _); (case side => first | exact Nat.le_refl _ | (simp; done) | (simp; omega)))))⟩
set_option maxRecDepth 8000 in
set_option maxHeartbeats 4000000 in
theorem part5 (nm tx : ByteArray) (n : Int) (q : Option Addr) (len cp : Nat) (w : World) (_hn0 : nm.size ≤ 140737488355328) (_ht0 : tx.size ≤ 140737488355328) : Calls Tryz.prog 45 #[.agg #[.int .i64 5, .string nm, .string tx, .int .i64 n, .slice q len cp]] w (OneV (.bool (hasFv 5 nm tx n len)) w) := by
  cases hlen : decide (len = 1) with
  | false =>
    have hla : ((len : Int) == 1) = false := by have := of_decide_eq_false hlen; simp; omega
    go_enter Tryz.func45, Tryz.ntmps45
    go_wp2
    go_ret
    exact ⟨ret_boolE (by first | (simp_all [hasFv]; done) | (simp_all [hasFv, bareB]; omega)), (by repeat (first | with_reducible exact Ext.refl _ | with_reducible exact hE0 | with_reducible exact hE | with_reducible refine Ext.alloc ?_ _ | with_reducible refine Ext.drewN ?_ _ | with_reducible refine Ext.drew ?_ | ((with_reducible refine Ext.setCell ?_ ?side _); (case side => first | exact Nat.le_refl _ | (simp; done) | (simp; omega)))))⟩
  | true =>
    have hla : len = 1 := of_decide_eq_true hlen
    subst hla
    cases hB : bareB nm tx n with
    | false =>
      go_enter Tryz.func45, Tryz.ntmps45
      go_wp2_with fail
      refine (bare_any 5 nm tx n q _ cp _).mono ?_
      rintro e w1 ⟨rfl, hE1⟩
      have hE := Ext.trans (a := w) (by repeat (first | with_reducible exact Ext.refl _ | with_reducible exact hE0 | with_reducible exact hE | with_reducible refine Ext.alloc ?_ _ | with_reducible refine Ext.drewN ?_ _ | with_reducible refine Ext.drew ?_ | ((with_reducible refine Ext.setCell ?_ ?side _); (case side => first | exact Nat.le_refl _ | (simp; done) | (simp; omega))))) hE1
      rw [hB]
      go_wp2
      go_ret
      exact ⟨ret_boolE (by first | (simp_all [hasFv, bareB]; done) | (simp_all [hasFv, bareB]; omega)), (by repeat (first | with_reducible exact Ext.refl _ | with_reducible exact hE0 | with_reducible exact hE | with_reducible refine Ext.alloc ?_ _ | with_reducible refine Ext.drewN ?_ _ | with_reducible refine Ext.drew ?_ | ((with_reducible refine Ext.setCell ?_ ?side _); (case side => first | exact Nat.le_refl _ | (simp; done) | (simp; omega)))))⟩
    | true =>
      go_enter Tryz.func45, Tryz.ntmps45
      go_wp2_with fail
      refine (bare_any 5 nm tx n q _ cp _).mono ?_
      rintro e w1 ⟨rfl, hE1⟩
      have hE := Ext.trans (a := w) (by repeat (first | with_reducible exact Ext.refl _ | with_reducible exact hE0 | with_reducible exact hE | with_reducible refine Ext.alloc ?_ _ | with_reducible refine Ext.drewN ?_ _ | with_reducible refine Ext.drew ?_ | ((with_reducible refine Ext.setCell ?_ ?side _); (case side => first | exact Nat.le_refl _ | (simp; done) | (simp; omega))))) hE1
      rw [hB]
      go_wp2
      go_ret
      exact ⟨ret_boolE (by first | (simp_all [hasFv, bareB]; done) | (simp_all [hasFv, bareB]; omega)), (by repeat (first | with_reducible exact Ext.refl _ | with_reducible exact hE0 | with_reducible exact hE | with_reducible refine Ext.alloc ?_ _ | with_reducible refine Ext.drewN ?_ _ | with_reducible refine Ext.drew ?_ | ((with_reducible refine Ext.setCell ?_ ?side _); (case side => first | exact Nat.le_refl _ | (simp; done) | (simp; omega)))))⟩
set_option maxRecDepth 8000 in
set_option maxHeartbeats 4000000 in
theorem part6 (nm tx : ByteArray) (n : Int) (q : Option Addr) (len cp : Nat) (w : World) (_hn0 : nm.size ≤ 140737488355328) (_ht0 : tx.size ≤ 140737488355328) : Calls Tryz.prog 45 #[.agg #[.int .i64 6, .string nm, .string tx, .int .i64 n, .slice q len cp]] w (OneV (.bool (hasFv 6 nm tx n len)) w) := by
  cases hlen : decide (len = 2) with
  | false =>
    have hla : ((len : Int) == 2) = false := by have := of_decide_eq_false hlen; simp; omega
    go_enter Tryz.func45, Tryz.ntmps45
    go_wp2
    go_ret
    exact ⟨ret_boolE (by first | (simp_all [hasFv]; done) | (simp_all [hasFv, bareB]; omega)), (by repeat (first | with_reducible exact Ext.refl _ | with_reducible exact hE0 | with_reducible exact hE | with_reducible refine Ext.alloc ?_ _ | with_reducible refine Ext.drewN ?_ _ | with_reducible refine Ext.drew ?_ | ((with_reducible refine Ext.setCell ?_ ?side _); (case side => first | exact Nat.le_refl _ | (simp; done) | (simp; omega)))))⟩
  | true =>
    have hla : len = 2 := of_decide_eq_true hlen
    subst hla
    cases hB : bareB nm tx n with
    | false =>
      go_enter Tryz.func45, Tryz.ntmps45
      go_wp2_with fail
      refine (bare_any 6 nm tx n q _ cp _).mono ?_
      rintro e w1 ⟨rfl, hE1⟩
      have hE := Ext.trans (a := w) (by repeat (first | with_reducible exact Ext.refl _ | with_reducible exact hE0 | with_reducible exact hE | with_reducible refine Ext.alloc ?_ _ | with_reducible refine Ext.drewN ?_ _ | with_reducible refine Ext.drew ?_ | ((with_reducible refine Ext.setCell ?_ ?side _); (case side => first | exact Nat.le_refl _ | (simp; done) | (simp; omega))))) hE1
      rw [hB]
      go_wp2
      go_ret
      exact ⟨ret_boolE (by first | (simp_all [hasFv, bareB]; done) | (simp_all [hasFv, bareB]; omega)), (by repeat (first | with_reducible exact Ext.refl _ | with_reducible exact hE0 | with_reducible exact hE | with_reducible refine Ext.alloc ?_ _ | with_reducible refine Ext.drewN ?_ _ | with_reducible refine Ext.drew ?_ | ((with_reducible refine Ext.setCell ?_ ?side _); (case side => first | exact Nat.le_refl _ | (simp; done) | (simp; omega)))))⟩
    | true =>
      go_enter Tryz.func45, Tryz.ntmps45
      go_wp2_with fail
      refine (bare_any 6 nm tx n q _ cp _).mono ?_
      rintro e w1 ⟨rfl, hE1⟩
      have hE := Ext.trans (a := w) (by repeat (first | with_reducible exact Ext.refl _ | with_reducible exact hE0 | with_reducible exact hE | with_reducible refine Ext.alloc ?_ _ | with_reducible refine Ext.drewN ?_ _ | with_reducible refine Ext.drew ?_ | ((with_reducible refine Ext.setCell ?_ ?side _); (case side => first | exact Nat.le_refl _ | (simp; done) | (simp; omega))))) hE1
      rw [hB]
      go_wp2
      go_ret
      exact ⟨ret_boolE (by first | (simp_all [hasFv, bareB]; done) | (simp_all [hasFv, bareB]; omega)), (by repeat (first | with_reducible exact Ext.refl _ | with_reducible exact hE0 | with_reducible exact hE | with_reducible refine Ext.alloc ?_ _ | with_reducible refine Ext.drewN ?_ _ | with_reducible refine Ext.drew ?_ | ((with_reducible refine Ext.setCell ?_ ?side _); (case side => first | exact Nat.le_refl _ | (simp; done) | (simp; omega)))))⟩
set_option maxRecDepth 8000 in
set_option maxHeartbeats 4000000 in
theorem part7 (nm tx : ByteArray) (n : Int) (q : Option Addr) (len cp : Nat) (w : World) (_hn0 : nm.size ≤ 140737488355328) (_ht0 : tx.size ≤ 140737488355328) : Calls Tryz.prog 45 #[.agg #[.int .i64 7, .string nm, .string tx, .int .i64 n, .slice q len cp]] w (OneV (.bool (hasFv 7 nm tx n len)) w) := by
  cases hlen : decide (len = 2) with
  | false =>
    have hla : ((len : Int) == 2) = false := by have := of_decide_eq_false hlen; simp; omega
    go_enter Tryz.func45, Tryz.ntmps45
    go_wp2
    go_ret
    exact ⟨ret_boolE (by first | (simp_all [hasFv]; done) | (simp_all [hasFv, bareB]; omega)), (by repeat (first | with_reducible exact Ext.refl _ | with_reducible exact hE0 | with_reducible exact hE | with_reducible refine Ext.alloc ?_ _ | with_reducible refine Ext.drewN ?_ _ | with_reducible refine Ext.drew ?_ | ((with_reducible refine Ext.setCell ?_ ?side _); (case side => first | exact Nat.le_refl _ | (simp; done) | (simp; omega)))))⟩
  | true =>
    have hla : len = 2 := of_decide_eq_true hlen
    subst hla
    cases hB : bareB nm tx n with
    | false =>
      go_enter Tryz.func45, Tryz.ntmps45
      go_wp2_with fail
      refine (bare_any 7 nm tx n q _ cp _).mono ?_
      rintro e w1 ⟨rfl, hE1⟩
      have hE := Ext.trans (a := w) (by repeat (first | with_reducible exact Ext.refl _ | with_reducible exact hE0 | with_reducible exact hE | with_reducible refine Ext.alloc ?_ _ | with_reducible refine Ext.drewN ?_ _ | with_reducible refine Ext.drew ?_ | ((with_reducible refine Ext.setCell ?_ ?side _); (case side => first | exact Nat.le_refl _ | (simp; done) | (simp; omega))))) hE1
      rw [hB]
      go_wp2
      go_ret
      exact ⟨ret_boolE (by first | (simp_all [hasFv, bareB]; done) | (simp_all [hasFv, bareB]; omega)), (by repeat (first | with_reducible exact Ext.refl _ | with_reducible exact hE0 | with_reducible exact hE | with_reducible refine Ext.alloc ?_ _ | with_reducible refine Ext.drewN ?_ _ | with_reducible refine Ext.drew ?_ | ((with_reducible refine Ext.setCell ?_ ?side _); (case side => first | exact Nat.le_refl _ | (simp; done) | (simp; omega)))))⟩
    | true =>
      go_enter Tryz.func45, Tryz.ntmps45
      go_wp2_with fail
      refine (bare_any 7 nm tx n q _ cp _).mono ?_
      rintro e w1 ⟨rfl, hE1⟩
      have hE := Ext.trans (a := w) (by repeat (first | with_reducible exact Ext.refl _ | with_reducible exact hE0 | with_reducible exact hE | with_reducible refine Ext.alloc ?_ _ | with_reducible refine Ext.drewN ?_ _ | with_reducible refine Ext.drew ?_ | ((with_reducible refine Ext.setCell ?_ ?side _); (case side => first | exact Nat.le_refl _ | (simp; done) | (simp; omega))))) hE1
      rw [hB]
      go_wp2
      go_ret
      exact ⟨ret_boolE (by first | (simp_all [hasFv, bareB]; done) | (simp_all [hasFv, bareB]; omega)), (by repeat (first | with_reducible exact Ext.refl _ | with_reducible exact hE0 | with_reducible exact hE | with_reducible refine Ext.alloc ?_ _ | with_reducible refine Ext.drewN ?_ _ | with_reducible refine Ext.drew ?_ | ((with_reducible refine Ext.setCell ?_ ?side _); (case side => first | exact Nat.le_refl _ | (simp; done) | (simp; omega)))))⟩
set_option maxRecDepth 8000 in
set_option maxHeartbeats 4000000 in
theorem part8 (nm tx : ByteArray) (n : Int) (q : Option Addr) (len cp : Nat) (w : World) (_hn0 : nm.size ≤ 140737488355328) (_ht0 : tx.size ≤ 140737488355328) : Calls Tryz.prog 45 #[.agg #[.int .i64 8, .string nm, .string tx, .int .i64 n, .slice q len cp]] w (OneV (.bool (hasFv 8 nm tx n len)) w) := by
  cases hlen : decide (len = 2) with
  | false =>
    have hla : ((len : Int) == 2) = false := by have := of_decide_eq_false hlen; simp; omega
    go_enter Tryz.func45, Tryz.ntmps45
    go_wp2
    go_ret
    exact ⟨ret_boolE (by first | (simp_all [hasFv]; done) | (simp_all [hasFv, bareB]; omega)), (by repeat (first | with_reducible exact Ext.refl _ | with_reducible exact hE0 | with_reducible exact hE | with_reducible refine Ext.alloc ?_ _ | with_reducible refine Ext.drewN ?_ _ | with_reducible refine Ext.drew ?_ | ((with_reducible refine Ext.setCell ?_ ?side _); (case side => first | exact Nat.le_refl _ | (simp; done) | (simp; omega)))))⟩
  | true =>
    have hla : len = 2 := of_decide_eq_true hlen
    subst hla
    cases hB : bareB nm tx n with
    | false =>
      go_enter Tryz.func45, Tryz.ntmps45
      go_wp2_with fail
      refine (bare_any 8 nm tx n q _ cp _).mono ?_
      rintro e w1 ⟨rfl, hE1⟩
      have hE := Ext.trans (a := w) (by repeat (first | with_reducible exact Ext.refl _ | with_reducible exact hE0 | with_reducible exact hE | with_reducible refine Ext.alloc ?_ _ | with_reducible refine Ext.drewN ?_ _ | with_reducible refine Ext.drew ?_ | ((with_reducible refine Ext.setCell ?_ ?side _); (case side => first | exact Nat.le_refl _ | (simp; done) | (simp; omega))))) hE1
      rw [hB]
      go_wp2
      go_ret
      exact ⟨ret_boolE (by first | (simp_all [hasFv, bareB]; done) | (simp_all [hasFv, bareB]; omega)), (by repeat (first | with_reducible exact Ext.refl _ | with_reducible exact hE0 | with_reducible exact hE | with_reducible refine Ext.alloc ?_ _ | with_reducible refine Ext.drewN ?_ _ | with_reducible refine Ext.drew ?_ | ((with_reducible refine Ext.setCell ?_ ?side _); (case side => first | exact Nat.le_refl _ | (simp; done) | (simp; omega)))))⟩
    | true =>
      go_enter Tryz.func45, Tryz.ntmps45
      go_wp2_with fail
      refine (bare_any 8 nm tx n q _ cp _).mono ?_
      rintro e w1 ⟨rfl, hE1⟩
      have hE := Ext.trans (a := w) (by repeat (first | with_reducible exact Ext.refl _ | with_reducible exact hE0 | with_reducible exact hE | with_reducible refine Ext.alloc ?_ _ | with_reducible refine Ext.drewN ?_ _ | with_reducible refine Ext.drew ?_ | ((with_reducible refine Ext.setCell ?_ ?side _); (case side => first | exact Nat.le_refl _ | (simp; done) | (simp; omega))))) hE1
      rw [hB]
      go_wp2
      go_ret
      exact ⟨ret_boolE (by first | (simp_all [hasFv, bareB]; done) | (simp_all [hasFv, bareB]; omega)), (by repeat (first | with_reducible exact Ext.refl _ | with_reducible exact hE0 | with_reducible exact hE | with_reducible refine Ext.alloc ?_ _ | with_reducible refine Ext.drewN ?_ _ | with_reducible refine Ext.drew ?_ | ((with_reducible refine Ext.setCell ?_ ?side _); (case side => first | exact Nat.le_refl _ | (simp; done) | (simp; omega)))))⟩
set_option maxRecDepth 8000 in
set_option maxHeartbeats 4000000 in
theorem part9 (nm tx : ByteArray) (n : Int) (q : Option Addr) (len cp : Nat) (w : World) (_hn0 : nm.size ≤ 140737488355328) (_ht0 : tx.size ≤ 140737488355328) : Calls Tryz.prog 45 #[.agg #[.int .i64 9, .string nm, .string tx, .int .i64 n, .slice q len cp]] w (OneV (.bool (hasFv 9 nm tx n len)) w) := by
  cases hlen : decide (len = 2) with
  | false =>
    have hla : ((len : Int) == 2) = false := by have := of_decide_eq_false hlen; simp; omega
    go_enter Tryz.func45, Tryz.ntmps45
    go_wp2
    go_ret
    exact ⟨ret_boolE (by first | (simp_all [hasFv]; done) | (simp_all [hasFv, bareB]; omega)), (by repeat (first | with_reducible exact Ext.refl _ | with_reducible exact hE0 | with_reducible exact hE | with_reducible refine Ext.alloc ?_ _ | with_reducible refine Ext.drewN ?_ _ | with_reducible refine Ext.drew ?_ | ((with_reducible refine Ext.setCell ?_ ?side _); (case side => first | exact Nat.le_refl _ | (simp; done) | (simp; omega)))))⟩
  | true =>
    have hla : len = 2 := of_decide_eq_true hlen
    subst hla
    cases hB : bareB nm tx n with
    | false =>
      go_enter Tryz.func45, Tryz.ntmps45
      go_wp2_with fail
      refine (bare_any 9 nm tx n q _ cp _).mono ?_
      rintro e w1 ⟨rfl, hE1⟩
      have hE := Ext.trans (a := w) (by repeat (first | with_reducible exact Ext.refl _ | with_reducible exact hE0 | with_reducible exact hE | with_reducible refine Ext.alloc ?_ _ | with_reducible refine Ext.drewN ?_ _ | with_reducible refine Ext.drew ?_ | ((with_reducible refine Ext.setCell ?_ ?side _); (case side => first | exact Nat.le_refl _ | (simp; done) | (simp; omega))))) hE1
      rw [hB]
      go_wp2
      go_ret
      exact ⟨ret_boolE (by first | (simp_all [hasFv, bareB]; done) | (simp_all [hasFv, bareB]; omega)), (by repeat (first | with_reducible exact Ext.refl _ | with_reducible exact hE0 | with_reducible exact hE | with_reducible refine Ext.alloc ?_ _ | with_reducible refine Ext.drewN ?_ _ | with_reducible refine Ext.drew ?_ | ((with_reducible refine Ext.setCell ?_ ?side _); (case side => first | exact Nat.le_refl _ | (simp; done) | (simp; omega)))))⟩
    | true =>
      go_enter Tryz.func45, Tryz.ntmps45
      go_wp2_with fail
      refine (bare_any 9 nm tx n q _ cp _).mono ?_
      rintro e w1 ⟨rfl, hE1⟩
      have hE := Ext.trans (a := w) (by repeat (first | with_reducible exact Ext.refl _ | with_reducible exact hE0 | with_reducible exact hE | with_reducible refine Ext.alloc ?_ _ | with_reducible refine Ext.drewN ?_ _ | with_reducible refine Ext.drew ?_ | ((with_reducible refine Ext.setCell ?_ ?side _); (case side => first | exact Nat.le_refl _ | (simp; done) | (simp; omega))))) hE1
      rw [hB]
      go_wp2
      go_ret
      exact ⟨ret_boolE (by first | (simp_all [hasFv, bareB]; done) | (simp_all [hasFv, bareB]; omega)), (by repeat (first | with_reducible exact Ext.refl _ | with_reducible exact hE0 | with_reducible exact hE | with_reducible refine Ext.alloc ?_ _ | with_reducible refine Ext.drewN ?_ _ | with_reducible refine Ext.drew ?_ | ((with_reducible refine Ext.setCell ?_ ?side _); (case side => first | exact Nat.le_refl _ | (simp; done) | (simp; omega)))))⟩
set_option maxRecDepth 8000 in
set_option maxHeartbeats 4000000 in
theorem part10 (nm tx : ByteArray) (n : Int) (q : Option Addr) (len cp : Nat) (w : World) (_hn0 : nm.size ≤ 140737488355328) (_ht0 : tx.size ≤ 140737488355328) : Calls Tryz.prog 45 #[.agg #[.int .i64 10, .string nm, .string tx, .int .i64 n, .slice q len cp]] w (OneV (.bool (hasFv 10 nm tx n len)) w) := by
  cases hlen : decide (len = 2) with
  | false =>
    have hla : ((len : Int) == 2) = false := by have := of_decide_eq_false hlen; simp; omega
    go_enter Tryz.func45, Tryz.ntmps45
    go_wp2
    go_ret
    exact ⟨ret_boolE (by first | (simp_all [hasFv]; done) | (simp_all [hasFv, bareB]; omega)), (by repeat (first | with_reducible exact Ext.refl _ | with_reducible exact hE0 | with_reducible exact hE | with_reducible refine Ext.alloc ?_ _ | with_reducible refine Ext.drewN ?_ _ | with_reducible refine Ext.drew ?_ | ((with_reducible refine Ext.setCell ?_ ?side _); (case side => first | exact Nat.le_refl _ | (simp; done) | (simp; omega)))))⟩
  | true =>
    have hla : len = 2 := of_decide_eq_true hlen
    subst hla
    cases hB : bareB nm tx n with
    | false =>
      go_enter Tryz.func45, Tryz.ntmps45
      go_wp2_with fail
      refine (bare_any 10 nm tx n q _ cp _).mono ?_
      rintro e w1 ⟨rfl, hE1⟩
      have hE := Ext.trans (a := w) (by repeat (first | with_reducible exact Ext.refl _ | with_reducible exact hE0 | with_reducible exact hE | with_reducible refine Ext.alloc ?_ _ | with_reducible refine Ext.drewN ?_ _ | with_reducible refine Ext.drew ?_ | ((with_reducible refine Ext.setCell ?_ ?side _); (case side => first | exact Nat.le_refl _ | (simp; done) | (simp; omega))))) hE1
      rw [hB]
      go_wp2
      go_ret
      exact ⟨ret_boolE (by first | (simp_all [hasFv, bareB]; done) | (simp_all [hasFv, bareB]; omega)), (by repeat (first | with_reducible exact Ext.refl _ | with_reducible exact hE0 | with_reducible exact hE | with_reducible refine Ext.alloc ?_ _ | with_reducible refine Ext.drewN ?_ _ | with_reducible refine Ext.drew ?_ | ((with_reducible refine Ext.setCell ?_ ?side _); (case side => first | exact Nat.le_refl _ | (simp; done) | (simp; omega)))))⟩
    | true =>
      go_enter Tryz.func45, Tryz.ntmps45
      go_wp2_with fail
      refine (bare_any 10 nm tx n q _ cp _).mono ?_
      rintro e w1 ⟨rfl, hE1⟩
      have hE := Ext.trans (a := w) (by repeat (first | with_reducible exact Ext.refl _ | with_reducible exact hE0 | with_reducible exact hE | with_reducible refine Ext.alloc ?_ _ | with_reducible refine Ext.drewN ?_ _ | with_reducible refine Ext.drew ?_ | ((with_reducible refine Ext.setCell ?_ ?side _); (case side => first | exact Nat.le_refl _ | (simp; done) | (simp; omega))))) hE1
      rw [hB]
      go_wp2
      go_ret
      exact ⟨ret_boolE (by first | (simp_all [hasFv, bareB]; done) | (simp_all [hasFv, bareB]; omega)), (by repeat (first | with_reducible exact Ext.refl _ | with_reducible exact hE0 | with_reducible exact hE | with_reducible refine Ext.alloc ?_ _ | with_reducible refine Ext.drewN ?_ _ | with_reducible refine Ext.drew ?_ | ((with_reducible refine Ext.setCell ?_ ?side _); (case side => first | exact Nat.le_refl _ | (simp; done) | (simp; omega)))))⟩
set_option maxRecDepth 8000 in
set_option maxHeartbeats 4000000 in
theorem part11 (nm tx : ByteArray) (n : Int) (q : Option Addr) (len cp : Nat) (w : World) (_hn0 : nm.size ≤ 140737488355328) (_ht0 : tx.size ≤ 140737488355328) : Calls Tryz.prog 45 #[.agg #[.int .i64 11, .string nm, .string tx, .int .i64 n, .slice q len cp]] w (OneV (.bool (hasFv 11 nm tx n len)) w) := by
  cases hlen : decide (len = 2) with
  | false =>
    have hla : ((len : Int) == 2) = false := by have := of_decide_eq_false hlen; simp; omega
    go_enter Tryz.func45, Tryz.ntmps45
    go_wp2
    go_ret
    exact ⟨ret_boolE (by first | (simp_all [hasFv]; done) | (simp_all [hasFv, bareB]; omega)), (by repeat (first | with_reducible exact Ext.refl _ | with_reducible exact hE0 | with_reducible exact hE | with_reducible refine Ext.alloc ?_ _ | with_reducible refine Ext.drewN ?_ _ | with_reducible refine Ext.drew ?_ | ((with_reducible refine Ext.setCell ?_ ?side _); (case side => first | exact Nat.le_refl _ | (simp; done) | (simp; omega)))))⟩
  | true =>
    have hla : len = 2 := of_decide_eq_true hlen
    subst hla
    cases hB : bareB nm tx n with
    | false =>
      go_enter Tryz.func45, Tryz.ntmps45
      go_wp2_with fail
      refine (bare_any 11 nm tx n q _ cp _).mono ?_
      rintro e w1 ⟨rfl, hE1⟩
      have hE := Ext.trans (a := w) (by repeat (first | with_reducible exact Ext.refl _ | with_reducible exact hE0 | with_reducible exact hE | with_reducible refine Ext.alloc ?_ _ | with_reducible refine Ext.drewN ?_ _ | with_reducible refine Ext.drew ?_ | ((with_reducible refine Ext.setCell ?_ ?side _); (case side => first | exact Nat.le_refl _ | (simp; done) | (simp; omega))))) hE1
      rw [hB]
      go_wp2
      go_ret
      exact ⟨ret_boolE (by first | (simp_all [hasFv, bareB]; done) | (simp_all [hasFv, bareB]; omega)), (by repeat (first | with_reducible exact Ext.refl _ | with_reducible exact hE0 | with_reducible exact hE | with_reducible refine Ext.alloc ?_ _ | with_reducible refine Ext.drewN ?_ _ | with_reducible refine Ext.drew ?_ | ((with_reducible refine Ext.setCell ?_ ?side _); (case side => first | exact Nat.le_refl _ | (simp; done) | (simp; omega)))))⟩
    | true =>
      go_enter Tryz.func45, Tryz.ntmps45
      go_wp2_with fail
      refine (bare_any 11 nm tx n q _ cp _).mono ?_
      rintro e w1 ⟨rfl, hE1⟩
      have hE := Ext.trans (a := w) (by repeat (first | with_reducible exact Ext.refl _ | with_reducible exact hE0 | with_reducible exact hE | with_reducible refine Ext.alloc ?_ _ | with_reducible refine Ext.drewN ?_ _ | with_reducible refine Ext.drew ?_ | ((with_reducible refine Ext.setCell ?_ ?side _); (case side => first | exact Nat.le_refl _ | (simp; done) | (simp; omega))))) hE1
      rw [hB]
      go_wp2
      go_ret
      exact ⟨ret_boolE (by first | (simp_all [hasFv, bareB]; done) | (simp_all [hasFv, bareB]; omega)), (by repeat (first | with_reducible exact Ext.refl _ | with_reducible exact hE0 | with_reducible exact hE | with_reducible refine Ext.alloc ?_ _ | with_reducible refine Ext.drewN ?_ _ | with_reducible refine Ext.drew ?_ | ((with_reducible refine Ext.setCell ?_ ?side _); (case side => first | exact Nat.le_refl _ | (simp; done) | (simp; omega)))))⟩
set_option maxRecDepth 8000 in
set_option maxHeartbeats 4000000 in
theorem part12 (nm tx : ByteArray) (n : Int) (q : Option Addr) (len cp : Nat) (w : World) (_hn0 : nm.size ≤ 140737488355328) (_ht0 : tx.size ≤ 140737488355328) : Calls Tryz.prog 45 #[.agg #[.int .i64 12, .string nm, .string tx, .int .i64 n, .slice q len cp]] w (OneV (.bool (hasFv 12 nm tx n len)) w) := by
  cases hlen : decide (len = 2) with
  | false =>
    have hla : ((len : Int) == 2) = false := by have := of_decide_eq_false hlen; simp; omega
    go_enter Tryz.func45, Tryz.ntmps45
    go_wp2
    go_ret
    exact ⟨ret_boolE (by first | (simp_all [hasFv]; done) | (simp_all [hasFv, bareB]; omega)), (by repeat (first | with_reducible exact Ext.refl _ | with_reducible exact hE0 | with_reducible exact hE | with_reducible refine Ext.alloc ?_ _ | with_reducible refine Ext.drewN ?_ _ | with_reducible refine Ext.drew ?_ | ((with_reducible refine Ext.setCell ?_ ?side _); (case side => first | exact Nat.le_refl _ | (simp; done) | (simp; omega)))))⟩
  | true =>
    have hla : len = 2 := of_decide_eq_true hlen
    subst hla
    cases hB : bareB nm tx n with
    | false =>
      go_enter Tryz.func45, Tryz.ntmps45
      go_wp2_with fail
      refine (bare_any 12 nm tx n q _ cp _).mono ?_
      rintro e w1 ⟨rfl, hE1⟩
      have hE := Ext.trans (a := w) (by repeat (first | with_reducible exact Ext.refl _ | with_reducible exact hE0 | with_reducible exact hE | with_reducible refine Ext.alloc ?_ _ | with_reducible refine Ext.drewN ?_ _ | with_reducible refine Ext.drew ?_ | ((with_reducible refine Ext.setCell ?_ ?side _); (case side => first | exact Nat.le_refl _ | (simp; done) | (simp; omega))))) hE1
      rw [hB]
      go_wp2
      go_ret
      exact ⟨ret_boolE (by first | (simp_all [hasFv, bareB]; done) | (simp_all [hasFv, bareB]; omega)), (by repeat (first | with_reducible exact Ext.refl _ | with_reducible exact hE0 | with_reducible exact hE | with_reducible refine Ext.alloc ?_ _ | with_reducible refine Ext.drewN ?_ _ | with_reducible refine Ext.drew ?_ | ((with_reducible refine Ext.setCell ?_ ?side _); (case side => first | exact Nat.le_refl _ | (simp; done) | (simp; omega)))))⟩
    | true =>
      go_enter Tryz.func45, Tryz.ntmps45
      go_wp2_with fail
      refine (bare_any 12 nm tx n q _ cp _).mono ?_
      rintro e w1 ⟨rfl, hE1⟩
      have hE := Ext.trans (a := w) (by repeat (first | with_reducible exact Ext.refl _ | with_reducible exact hE0 | with_reducible exact hE | with_reducible refine Ext.alloc ?_ _ | with_reducible refine Ext.drewN ?_ _ | with_reducible refine Ext.drew ?_ | ((with_reducible refine Ext.setCell ?_ ?side _); (case side => first | exact Nat.le_refl _ | (simp; done) | (simp; omega))))) hE1
      rw [hB]
      go_wp2
      go_ret
      exact ⟨ret_boolE (by first | (simp_all [hasFv, bareB]; done) | (simp_all [hasFv, bareB]; omega)), (by repeat (first | with_reducible exact Ext.refl _ | with_reducible exact hE0 | with_reducible exact hE | with_reducible refine Ext.alloc ?_ _ | with_reducible refine Ext.drewN ?_ _ | with_reducible refine Ext.drew ?_ | ((with_reducible refine Ext.setCell ?_ ?side _); (case side => first | exact Nat.le_refl _ | (simp; done) | (simp; omega)))))⟩
set_option maxRecDepth 8000 in
set_option maxHeartbeats 4000000 in
theorem part13 (nm tx : ByteArray) (n : Int) (q : Option Addr) (len cp : Nat) (w : World) (_hn0 : nm.size ≤ 140737488355328) (_ht0 : tx.size ≤ 140737488355328) : Calls Tryz.prog 45 #[.agg #[.int .i64 13, .string nm, .string tx, .int .i64 n, .slice q len cp]] w (OneV (.bool (hasFv 13 nm tx n len)) w) := by
  cases hlen : decide (len = 2) with
  | false =>
    have hla : ((len : Int) == 2) = false := by have := of_decide_eq_false hlen; simp; omega
    go_enter Tryz.func45, Tryz.ntmps45
    go_wp2
    go_ret
    exact ⟨ret_boolE (by first | (simp_all [hasFv]; done) | (simp_all [hasFv, bareB]; omega)), (by repeat (first | with_reducible exact Ext.refl _ | with_reducible exact hE0 | with_reducible exact hE | with_reducible refine Ext.alloc ?_ _ | with_reducible refine Ext.drewN ?_ _ | with_reducible refine Ext.drew ?_ | ((with_reducible refine Ext.setCell ?_ ?side _); (case side => first | exact Nat.le_refl _ | (simp; done) | (simp; omega)))))⟩
  | true =>
    have hla : len = 2 := of_decide_eq_true hlen
    subst hla
    cases hB : bareB nm tx n with
    | false =>
      go_enter Tryz.func45, Tryz.ntmps45
      go_wp2_with fail
      refine (bare_any 13 nm tx n q _ cp _).mono ?_
      rintro e w1 ⟨rfl, hE1⟩
      have hE := Ext.trans (a := w) (by repeat (first | with_reducible exact Ext.refl _ | with_reducible exact hE0 | with_reducible exact hE | with_reducible refine Ext.alloc ?_ _ | with_reducible refine Ext.drewN ?_ _ | with_reducible refine Ext.drew ?_ | ((with_reducible refine Ext.setCell ?_ ?side _); (case side => first | exact Nat.le_refl _ | (simp; done) | (simp; omega))))) hE1
      rw [hB]
      go_wp2
      go_ret
      exact ⟨ret_boolE (by first | (simp_all [hasFv, bareB]; done) | (simp_all [hasFv, bareB]; omega)), (by repeat (first | with_reducible exact Ext.refl _ | with_reducible exact hE0 | with_reducible exact hE | with_reducible refine Ext.alloc ?_ _ | with_reducible refine Ext.drewN ?_ _ | with_reducible refine Ext.drew ?_ | ((with_reducible refine Ext.setCell ?_ ?side _); (case side => first | exact Nat.le_refl _ | (simp; done) | (simp; omega)))))⟩
    | true =>
      go_enter Tryz.func45, Tryz.ntmps45
      go_wp2_with fail
      refine (bare_any 13 nm tx n q _ cp _).mono ?_
      rintro e w1 ⟨rfl, hE1⟩
      have hE := Ext.trans (a := w) (by repeat (first | with_reducible exact Ext.refl _ | with_reducible exact hE0 | with_reducible exact hE | with_reducible refine Ext.alloc ?_ _ | with_reducible refine Ext.drewN ?_ _ | with_reducible refine Ext.drew ?_ | ((with_reducible refine Ext.setCell ?_ ?side _); (case side => first | exact Nat.le_refl _ | (simp; done) | (simp; omega))))) hE1
      rw [hB]
      go_wp2
      go_ret
      exact ⟨ret_boolE (by first | (simp_all [hasFv, bareB]; done) | (simp_all [hasFv, bareB]; omega)), (by repeat (first | with_reducible exact Ext.refl _ | with_reducible exact hE0 | with_reducible exact hE | with_reducible refine Ext.alloc ?_ _ | with_reducible refine Ext.drewN ?_ _ | with_reducible refine Ext.drew ?_ | ((with_reducible refine Ext.setCell ?_ ?side _); (case side => first | exact Nat.le_refl _ | (simp; done) | (simp; omega)))))⟩
set_option maxRecDepth 8000 in
set_option maxHeartbeats 4000000 in
theorem part14 (nm tx : ByteArray) (n : Int) (q : Option Addr) (len cp : Nat) (w : World) (_hn0 : nm.size ≤ 140737488355328) (_ht0 : tx.size ≤ 140737488355328) : Calls Tryz.prog 45 #[.agg #[.int .i64 14, .string nm, .string tx, .int .i64 n, .slice q len cp]] w (OneV (.bool (hasFv 14 nm tx n len)) w) := by
  cases hlen : decide (len = 2) with
  | false =>
    have hla : ((len : Int) == 2) = false := by have := of_decide_eq_false hlen; simp; omega
    go_enter Tryz.func45, Tryz.ntmps45
    go_wp2
    go_ret
    exact ⟨ret_boolE (by first | (simp_all [hasFv]; done) | (simp_all [hasFv, bareB]; omega)), (by repeat (first | with_reducible exact Ext.refl _ | with_reducible exact hE0 | with_reducible exact hE | with_reducible refine Ext.alloc ?_ _ | with_reducible refine Ext.drewN ?_ _ | with_reducible refine Ext.drew ?_ | ((with_reducible refine Ext.setCell ?_ ?side _); (case side => first | exact Nat.le_refl _ | (simp; done) | (simp; omega)))))⟩
  | true =>
    have hla : len = 2 := of_decide_eq_true hlen
    subst hla
    cases hB : bareB nm tx n with
    | false =>
      go_enter Tryz.func45, Tryz.ntmps45
      go_wp2_with fail
      refine (bare_any 14 nm tx n q _ cp _).mono ?_
      rintro e w1 ⟨rfl, hE1⟩
      have hE := Ext.trans (a := w) (by repeat (first | with_reducible exact Ext.refl _ | with_reducible exact hE0 | with_reducible exact hE | with_reducible refine Ext.alloc ?_ _ | with_reducible refine Ext.drewN ?_ _ | with_reducible refine Ext.drew ?_ | ((with_reducible refine Ext.setCell ?_ ?side _); (case side => first | exact Nat.le_refl _ | (simp; done) | (simp; omega))))) hE1
      rw [hB]
      go_wp2
      go_ret
      exact ⟨ret_boolE (by first | (simp_all [hasFv, bareB]; done) | (simp_all [hasFv, bareB]; omega)), (by repeat (first | with_reducible exact Ext.refl _ | with_reducible exact hE0 | with_reducible exact hE | with_reducible refine Ext.alloc ?_ _ | with_reducible refine Ext.drewN ?_ _ | with_reducible refine Ext.drew ?_ | ((with_reducible refine Ext.setCell ?_ ?side _); (case side => first | exact Nat.le_refl _ | (simp; done) | (simp; omega)))))⟩
    | true =>
      go_enter Tryz.func45, Tryz.ntmps45
      go_wp2_with fail
      refine (bare_any 14 nm tx n q _ cp _).mono ?_
      rintro e w1 ⟨rfl, hE1⟩
      have hE := Ext.trans (a := w) (by repeat (first | with_reducible exact Ext.refl _ | with_reducible exact hE0 | with_reducible exact hE | with_reducible refine Ext.alloc ?_ _ | with_reducible refine Ext.drewN ?_ _ | with_reducible refine Ext.drew ?_ | ((with_reducible refine Ext.setCell ?_ ?side _); (case side => first | exact Nat.le_refl _ | (simp; done) | (simp; omega))))) hE1
      rw [hB]
      go_wp2
      go_ret
      exact ⟨ret_boolE (by first | (simp_all [hasFv, bareB]; done) | (simp_all [hasFv, bareB]; omega)), (by repeat (first | with_reducible exact Ext.refl _ | with_reducible exact hE0 | with_reducible exact hE | with_reducible refine Ext.alloc ?_ _ | with_reducible refine Ext.drewN ?_ _ | with_reducible refine Ext.drew ?_ | ((with_reducible refine Ext.setCell ?_ ?side _); (case side => first | exact Nat.le_refl _ | (simp; done) | (simp; omega)))))⟩
set_option maxRecDepth 8000 in
set_option maxHeartbeats 4000000 in
theorem part15 (nm tx : ByteArray) (n : Int) (q : Option Addr) (len cp : Nat) (w : World) (_hn0 : nm.size ≤ 140737488355328) (_ht0 : tx.size ≤ 140737488355328) : Calls Tryz.prog 45 #[.agg #[.int .i64 15, .string nm, .string tx, .int .i64 n, .slice q len cp]] w (OneV (.bool (hasFv 15 nm tx n len)) w) := by
  cases hl1 : decide (2 ≤ len) with
  | false =>
    have hla : ¬ (2 : Int) ≤ len := by have := of_decide_eq_false hl1; omega
    go_enter Tryz.func45, Tryz.ntmps45
    go_wp2
    go_ret
    exact ⟨ret_boolE (by first | (simp_all [hasFv]; done) | (simp_all [hasFv]; omega)), (by repeat (first | with_reducible exact Ext.refl _ | with_reducible exact hE0 | with_reducible exact hE | with_reducible refine Ext.alloc ?_ _ | with_reducible refine Ext.drewN ?_ _ | with_reducible refine Ext.drew ?_ | ((with_reducible refine Ext.setCell ?_ ?side _); (case side => first | exact Nat.le_refl _ | (simp; done) | (simp; omega)))))⟩
  | true =>
    have hla : (2 : Int) ≤ len := by have := of_decide_eq_true hl1; omega
    cases hl2 : decide (len ≤ 17) with
    | false =>
      have hlb : ¬ (len : Int) ≤ 17 := by have := of_decide_eq_false hl2; omega
      go_enter Tryz.func45, Tryz.ntmps45
      go_wp2
      go_ret
      exact ⟨ret_boolE (by first | (simp_all [hasFv]; done) | (simp_all [hasFv, bareB]; omega)), (by repeat (first | with_reducible exact Ext.refl _ | with_reducible exact hE0 | with_reducible exact hE | with_reducible refine Ext.alloc ?_ _ | with_reducible refine Ext.drewN ?_ _ | with_reducible refine Ext.drew ?_ | ((with_reducible refine Ext.setCell ?_ ?side _); (case side => first | exact Nat.le_refl _ | (simp; done) | (simp; omega)))))⟩
    | true =>
      have hlb : (len : Int) ≤ 17 := by have := of_decide_eq_true hl2; omega
      cases hB : bareB nm tx n with
      | false =>
        go_enter Tryz.func45, Tryz.ntmps45
        go_wp2_with fail
        refine (bare_any 15 nm tx n q _ cp _).mono ?_
        rintro e w1 ⟨rfl, hE1⟩
        have hE := Ext.trans (a := w) (by repeat (first | with_reducible exact Ext.refl _ | with_reducible exact hE0 | with_reducible exact hE | with_reducible refine Ext.alloc ?_ _ | with_reducible refine Ext.drewN ?_ _ | with_reducible refine Ext.drew ?_ | ((with_reducible refine Ext.setCell ?_ ?side _); (case side => first | exact Nat.le_refl _ | (simp; done) | (simp; omega))))) hE1
        rw [hB]
        go_wp2
        go_ret
        exact ⟨ret_boolE (by first | (simp_all [hasFv, bareB]; done) | (simp_all [hasFv, bareB]; omega)), (by repeat (first | with_reducible exact Ext.refl _ | with_reducible exact hE0 | with_reducible exact hE | with_reducible refine Ext.alloc ?_ _ | with_reducible refine Ext.drewN ?_ _ | with_reducible refine Ext.drew ?_ | ((with_reducible refine Ext.setCell ?_ ?side _); (case side => first | exact Nat.le_refl _ | (simp; done) | (simp; omega)))))⟩
      | true =>
        go_enter Tryz.func45, Tryz.ntmps45
        go_wp2_with fail
        refine (bare_any 15 nm tx n q _ cp _).mono ?_
        rintro e w1 ⟨rfl, hE1⟩
        have hE := Ext.trans (a := w) (by repeat (first | with_reducible exact Ext.refl _ | with_reducible exact hE0 | with_reducible exact hE | with_reducible refine Ext.alloc ?_ _ | with_reducible refine Ext.drewN ?_ _ | with_reducible refine Ext.drew ?_ | ((with_reducible refine Ext.setCell ?_ ?side _); (case side => first | exact Nat.le_refl _ | (simp; done) | (simp; omega))))) hE1
        rw [hB]
        go_wp2
        go_ret
        exact ⟨ret_boolE (by first | (simp_all [hasFv, bareB]; done) | (simp_all [hasFv, bareB]; omega)), (by repeat (first | with_reducible exact Ext.refl _ | with_reducible exact hE0 | with_reducible exact hE | with_reducible refine Ext.alloc ?_ _ | with_reducible refine Ext.drewN ?_ _ | with_reducible refine Ext.drew ?_ | ((with_reducible refine Ext.setCell ?_ ?side _); (case side => first | exact Nat.le_refl _ | (simp; done) | (simp; omega)))))⟩
set_option maxRecDepth 8000 in
set_option maxHeartbeats 4000000 in
theorem part16 (nm tx : ByteArray) (n : Int) (q : Option Addr) (len cp : Nat) (w : World) (hn0 : nm.size ≤ 140737488355328) (_ht0 : tx.size ≤ 140737488355328) : Calls Tryz.prog 45 #[.agg #[.int .i64 16, .string nm, .string tx, .int .i64 n, .slice q len cp]] w (OneV (.bool (hasFv 16 nm tx n len)) w) := by
  cases hlen : decide (len = 0) with
  | false =>
    have hla : ((len : Int) == 0) = false := by have := of_decide_eq_false hlen; simp; omega
    go_enter Tryz.func45, Tryz.ntmps45
    go_wp2
    go_ret
    exact ⟨ret_boolE (by first | (simp_all [hasFv]; done) | (simp_all [hasFv, bareB]; omega)), (by repeat (first | with_reducible exact Ext.refl _ | with_reducible exact hE0 | with_reducible exact hE | with_reducible refine Ext.alloc ?_ _ | with_reducible refine Ext.drewN ?_ _ | with_reducible refine Ext.drew ?_ | ((with_reducible refine Ext.setCell ?_ ?side _); (case side => first | exact Nat.le_refl _ | (simp; done) | (simp; omega)))))⟩
  | true =>
    have hla : len = 0 := of_decide_eq_true hlen
    subst hla
    cases hN : nameB nm with
    | false =>
      go_enter Tryz.func45, Tryz.ntmps45
      go_wp2_with fail
      refine ((fun w9 => risName_any nm w9 hn0) _).mono ?_
      rintro e w1 ⟨rfl, hE1⟩
      have hE := Ext.trans (a := w) (by repeat (first | with_reducible exact Ext.refl _ | with_reducible exact hE0 | with_reducible exact hE | with_reducible refine Ext.alloc ?_ _ | with_reducible refine Ext.drewN ?_ _ | with_reducible refine Ext.drew ?_ | ((with_reducible refine Ext.setCell ?_ ?side _); (case side => first | exact Nat.le_refl _ | (simp; done) | (simp; omega))))) hE1
      have hb := Blk.ext (Blk.new w _ _) hE1
      have y2 := hb.cell 2
      have y3 := hb.cell 3
      simp at y2 y3
      clear hb hE1
      rw [hN]
      go_wp2
      go_ret
      exact ⟨ret_boolE (by first | (simp_all [hasFv]; done) | (simp_all [hasFv, bareB]; omega)), (by repeat (first | with_reducible exact Ext.refl _ | with_reducible exact hE0 | with_reducible exact hE | with_reducible refine Ext.alloc ?_ _ | with_reducible refine Ext.drewN ?_ _ | with_reducible refine Ext.drew ?_ | ((with_reducible refine Ext.setCell ?_ ?side _); (case side => first | exact Nat.le_refl _ | (simp; done) | (simp; omega)))))⟩
    | true =>
      cases ht : empB tx with
      | false =>
        have hta := empB_f ht
        have htb := empB_f' ht
        go_enter Tryz.func45, Tryz.ntmps45
        go_wp2_with fail
        refine ((fun w9 => risName_any nm w9 hn0) _).mono ?_
        rintro e w1 ⟨rfl, hE1⟩
        have hE := Ext.trans (a := w) (by repeat (first | with_reducible exact Ext.refl _ | with_reducible exact hE0 | with_reducible exact hE | with_reducible refine Ext.alloc ?_ _ | with_reducible refine Ext.drewN ?_ _ | with_reducible refine Ext.drew ?_ | ((with_reducible refine Ext.setCell ?_ ?side _); (case side => first | exact Nat.le_refl _ | (simp; done) | (simp; omega))))) hE1
        have hb := Blk.ext (Blk.new w _ _) hE1
        have y2 := hb.cell 2
        have y3 := hb.cell 3
        simp at y2 y3
        clear hb hE1
        rw [hN]
        go_wp2
        go_ret
        exact ⟨ret_boolE (by first | (simp_all [hasFv]; done) | (simp_all [hasFv, bareB]; omega)), (by repeat (first | with_reducible exact Ext.refl _ | with_reducible exact hE0 | with_reducible exact hE | with_reducible refine Ext.alloc ?_ _ | with_reducible refine Ext.drewN ?_ _ | with_reducible refine Ext.drew ?_ | ((with_reducible refine Ext.setCell ?_ ?side _); (case side => first | exact Nat.le_refl _ | (simp; done) | (simp; omega)))))⟩
      | true =>
        have hta := empB_t ht
        cases hq1 : decide (1 ≤ n) with
        | false =>
          have hq1a : ¬ 1 ≤ n := of_decide_eq_false hq1
          go_enter Tryz.func45, Tryz.ntmps45
          go_wp2_with fail
          refine ((fun w9 => risName_any nm w9 hn0) _).mono ?_
          rintro e w1 ⟨rfl, hE1⟩
          have hE := Ext.trans (a := w) (by repeat (first | with_reducible exact Ext.refl _ | with_reducible exact hE0 | with_reducible exact hE | with_reducible refine Ext.alloc ?_ _ | with_reducible refine Ext.drewN ?_ _ | with_reducible refine Ext.drew ?_ | ((with_reducible refine Ext.setCell ?_ ?side _); (case side => first | exact Nat.le_refl _ | (simp; done) | (simp; omega))))) hE1
          have hb := Blk.ext (Blk.new w _ _) hE1
          have y2 := hb.cell 2
          have y3 := hb.cell 3
          simp at y2 y3
          clear hb hE1
          rw [hN]
          go_wp2
          go_ret
          exact ⟨ret_boolE (by first | (simp_all [hasFv]; done) | (simp_all [hasFv]; omega)), (by repeat (first | with_reducible exact Ext.refl _ | with_reducible exact hE0 | with_reducible exact hE | with_reducible refine Ext.alloc ?_ _ | with_reducible refine Ext.drewN ?_ _ | with_reducible refine Ext.drew ?_ | ((with_reducible refine Ext.setCell ?_ ?side _); (case side => first | exact Nat.le_refl _ | (simp; done) | (simp; omega)))))⟩
        | true =>
          have hq1a : 1 ≤ n := of_decide_eq_true hq1
          cases hq2 : decide (n ≤ 10000000) with
          | false =>
            have hq2a : ¬ n ≤ 10000000 := of_decide_eq_false hq2
            go_enter Tryz.func45, Tryz.ntmps45
            go_wp2_with fail
            refine ((fun w9 => risName_any nm w9 hn0) _).mono ?_
            rintro e w1 ⟨rfl, hE1⟩
            have hE := Ext.trans (a := w) (by repeat (first | with_reducible exact Ext.refl _ | with_reducible exact hE0 | with_reducible exact hE | with_reducible refine Ext.alloc ?_ _ | with_reducible refine Ext.drewN ?_ _ | with_reducible refine Ext.drew ?_ | ((with_reducible refine Ext.setCell ?_ ?side _); (case side => first | exact Nat.le_refl _ | (simp; done) | (simp; omega))))) hE1
            have hb := Blk.ext (Blk.new w _ _) hE1
            have y2 := hb.cell 2
            have y3 := hb.cell 3
            simp at y2 y3
            clear hb hE1
            rw [hN]
            go_wp2
            go_ret
            exact ⟨ret_boolE (by first | (simp_all [hasFv]; done) | (simp_all [hasFv, bareB]; omega)), (by repeat (first | with_reducible exact Ext.refl _ | with_reducible exact hE0 | with_reducible exact hE | with_reducible refine Ext.alloc ?_ _ | with_reducible refine Ext.drewN ?_ _ | with_reducible refine Ext.drew ?_ | ((with_reducible refine Ext.setCell ?_ ?side _); (case side => first | exact Nat.le_refl _ | (simp; done) | (simp; omega)))))⟩
          | true =>
            have hq2a : n ≤ 10000000 := of_decide_eq_true hq2
            go_enter Tryz.func45, Tryz.ntmps45
            go_wp2_with fail
            refine ((fun w9 => risName_any nm w9 hn0) _).mono ?_
            rintro e w1 ⟨rfl, hE1⟩
            have hE := Ext.trans (a := w) (by repeat (first | with_reducible exact Ext.refl _ | with_reducible exact hE0 | with_reducible exact hE | with_reducible refine Ext.alloc ?_ _ | with_reducible refine Ext.drewN ?_ _ | with_reducible refine Ext.drew ?_ | ((with_reducible refine Ext.setCell ?_ ?side _); (case side => first | exact Nat.le_refl _ | (simp; done) | (simp; omega))))) hE1
            have hb := Blk.ext (Blk.new w _ _) hE1
            have y2 := hb.cell 2
            have y3 := hb.cell 3
            simp at y2 y3
            clear hb hE1
            rw [hN]
            go_wp2
            go_ret
            exact ⟨ret_boolE (by first | (simp_all [hasFv]; done) | (simp_all [hasFv, bareB]; omega)), (by repeat (first | with_reducible exact Ext.refl _ | with_reducible exact hE0 | with_reducible exact hE | with_reducible refine Ext.alloc ?_ _ | with_reducible refine Ext.drewN ?_ _ | with_reducible refine Ext.drew ?_ | ((with_reducible refine Ext.setCell ?_ ?side _); (case side => first | exact Nat.le_refl _ | (simp; done) | (simp; omega)))))⟩
set_option maxRecDepth 8000 in
set_option maxHeartbeats 4000000 in
theorem part17 (nm tx : ByteArray) (n : Int) (q : Option Addr) (len cp : Nat) (w : World) (hn0 : nm.size ≤ 140737488355328) (_ht0 : tx.size ≤ 140737488355328) : Calls Tryz.prog 45 #[.agg #[.int .i64 17, .string nm, .string tx, .int .i64 n, .slice q len cp]] w (OneV (.bool (hasFv 17 nm tx n len)) w) := by
  cases hlen : decide (len = 0) with
  | false =>
    have hla : ((len : Int) == 0) = false := by have := of_decide_eq_false hlen; simp; omega
    go_enter Tryz.func45, Tryz.ntmps45
    go_wp2
    go_ret
    exact ⟨ret_boolE (by first | (simp_all [hasFv]; done) | (simp_all [hasFv, bareB]; omega)), (by repeat (first | with_reducible exact Ext.refl _ | with_reducible exact hE0 | with_reducible exact hE | with_reducible refine Ext.alloc ?_ _ | with_reducible refine Ext.drewN ?_ _ | with_reducible refine Ext.drew ?_ | ((with_reducible refine Ext.setCell ?_ ?side _); (case side => first | exact Nat.le_refl _ | (simp; done) | (simp; omega)))))⟩
  | true =>
    have hla : len = 0 := of_decide_eq_true hlen
    subst hla
    cases hN : nameB nm with
    | false =>
      go_enter Tryz.func45, Tryz.ntmps45
      go_wp2_with fail
      refine ((fun w9 => risName_any nm w9 hn0) _).mono ?_
      rintro e w1 ⟨rfl, hE1⟩
      have hE := Ext.trans (a := w) (by repeat (first | with_reducible exact Ext.refl _ | with_reducible exact hE0 | with_reducible exact hE | with_reducible refine Ext.alloc ?_ _ | with_reducible refine Ext.drewN ?_ _ | with_reducible refine Ext.drew ?_ | ((with_reducible refine Ext.setCell ?_ ?side _); (case side => first | exact Nat.le_refl _ | (simp; done) | (simp; omega))))) hE1
      have hb := Blk.ext (Blk.new w _ _) hE1
      have y2 := hb.cell 2
      have y3 := hb.cell 3
      simp at y2 y3
      clear hb hE1
      rw [hN]
      go_wp2
      go_ret
      exact ⟨ret_boolE (by first | (simp_all [hasFv]; done) | (simp_all [hasFv, bareB]; omega)), (by repeat (first | with_reducible exact Ext.refl _ | with_reducible exact hE0 | with_reducible exact hE | with_reducible refine Ext.alloc ?_ _ | with_reducible refine Ext.drewN ?_ _ | with_reducible refine Ext.drew ?_ | ((with_reducible refine Ext.setCell ?_ ?side _); (case side => first | exact Nat.le_refl _ | (simp; done) | (simp; omega)))))⟩
    | true =>
      cases ht : empB tx with
      | false =>
        have hta := empB_f ht
        have htb := empB_f' ht
        go_enter Tryz.func45, Tryz.ntmps45
        go_wp2_with fail
        refine ((fun w9 => risName_any nm w9 hn0) _).mono ?_
        rintro e w1 ⟨rfl, hE1⟩
        have hE := Ext.trans (a := w) (by repeat (first | with_reducible exact Ext.refl _ | with_reducible exact hE0 | with_reducible exact hE | with_reducible refine Ext.alloc ?_ _ | with_reducible refine Ext.drewN ?_ _ | with_reducible refine Ext.drew ?_ | ((with_reducible refine Ext.setCell ?_ ?side _); (case side => first | exact Nat.le_refl _ | (simp; done) | (simp; omega))))) hE1
        have hb := Blk.ext (Blk.new w _ _) hE1
        have y2 := hb.cell 2
        have y3 := hb.cell 3
        simp at y2 y3
        clear hb hE1
        rw [hN]
        go_wp2
        go_ret
        exact ⟨ret_boolE (by first | (simp_all [hasFv]; done) | (simp_all [hasFv, bareB]; omega)), (by repeat (first | with_reducible exact Ext.refl _ | with_reducible exact hE0 | with_reducible exact hE | with_reducible refine Ext.alloc ?_ _ | with_reducible refine Ext.drewN ?_ _ | with_reducible refine Ext.drew ?_ | ((with_reducible refine Ext.setCell ?_ ?side _); (case side => first | exact Nat.le_refl _ | (simp; done) | (simp; omega)))))⟩
      | true =>
        have hta := empB_t ht
        cases hq1 : decide (1 ≤ n) with
        | false =>
          have hq1a : ¬ 1 ≤ n := of_decide_eq_false hq1
          go_enter Tryz.func45, Tryz.ntmps45
          go_wp2_with fail
          refine ((fun w9 => risName_any nm w9 hn0) _).mono ?_
          rintro e w1 ⟨rfl, hE1⟩
          have hE := Ext.trans (a := w) (by repeat (first | with_reducible exact Ext.refl _ | with_reducible exact hE0 | with_reducible exact hE | with_reducible refine Ext.alloc ?_ _ | with_reducible refine Ext.drewN ?_ _ | with_reducible refine Ext.drew ?_ | ((with_reducible refine Ext.setCell ?_ ?side _); (case side => first | exact Nat.le_refl _ | (simp; done) | (simp; omega))))) hE1
          have hb := Blk.ext (Blk.new w _ _) hE1
          have y2 := hb.cell 2
          have y3 := hb.cell 3
          simp at y2 y3
          clear hb hE1
          rw [hN]
          go_wp2
          go_ret
          exact ⟨ret_boolE (by first | (simp_all [hasFv]; done) | (simp_all [hasFv]; omega)), (by repeat (first | with_reducible exact Ext.refl _ | with_reducible exact hE0 | with_reducible exact hE | with_reducible refine Ext.alloc ?_ _ | with_reducible refine Ext.drewN ?_ _ | with_reducible refine Ext.drew ?_ | ((with_reducible refine Ext.setCell ?_ ?side _); (case side => first | exact Nat.le_refl _ | (simp; done) | (simp; omega)))))⟩
        | true =>
          have hq1a : 1 ≤ n := of_decide_eq_true hq1
          cases hq2 : decide (n ≤ 10000000) with
          | false =>
            have hq2a : ¬ n ≤ 10000000 := of_decide_eq_false hq2
            go_enter Tryz.func45, Tryz.ntmps45
            go_wp2_with fail
            refine ((fun w9 => risName_any nm w9 hn0) _).mono ?_
            rintro e w1 ⟨rfl, hE1⟩
            have hE := Ext.trans (a := w) (by repeat (first | with_reducible exact Ext.refl _ | with_reducible exact hE0 | with_reducible exact hE | with_reducible refine Ext.alloc ?_ _ | with_reducible refine Ext.drewN ?_ _ | with_reducible refine Ext.drew ?_ | ((with_reducible refine Ext.setCell ?_ ?side _); (case side => first | exact Nat.le_refl _ | (simp; done) | (simp; omega))))) hE1
            have hb := Blk.ext (Blk.new w _ _) hE1
            have y2 := hb.cell 2
            have y3 := hb.cell 3
            simp at y2 y3
            clear hb hE1
            rw [hN]
            go_wp2
            go_ret
            exact ⟨ret_boolE (by first | (simp_all [hasFv]; done) | (simp_all [hasFv, bareB]; omega)), (by repeat (first | with_reducible exact Ext.refl _ | with_reducible exact hE0 | with_reducible exact hE | with_reducible refine Ext.alloc ?_ _ | with_reducible refine Ext.drewN ?_ _ | with_reducible refine Ext.drew ?_ | ((with_reducible refine Ext.setCell ?_ ?side _); (case side => first | exact Nat.le_refl _ | (simp; done) | (simp; omega)))))⟩
          | true =>
            have hq2a : n ≤ 10000000 := of_decide_eq_true hq2
            go_enter Tryz.func45, Tryz.ntmps45
            go_wp2_with fail
            refine ((fun w9 => risName_any nm w9 hn0) _).mono ?_
            rintro e w1 ⟨rfl, hE1⟩
            have hE := Ext.trans (a := w) (by repeat (first | with_reducible exact Ext.refl _ | with_reducible exact hE0 | with_reducible exact hE | with_reducible refine Ext.alloc ?_ _ | with_reducible refine Ext.drewN ?_ _ | with_reducible refine Ext.drew ?_ | ((with_reducible refine Ext.setCell ?_ ?side _); (case side => first | exact Nat.le_refl _ | (simp; done) | (simp; omega))))) hE1
            have hb := Blk.ext (Blk.new w _ _) hE1
            have y2 := hb.cell 2
            have y3 := hb.cell 3
            simp at y2 y3
            clear hb hE1
            rw [hN]
            go_wp2
            go_ret
            exact ⟨ret_boolE (by first | (simp_all [hasFv]; done) | (simp_all [hasFv, bareB]; omega)), (by repeat (first | with_reducible exact Ext.refl _ | with_reducible exact hE0 | with_reducible exact hE | with_reducible refine Ext.alloc ?_ _ | with_reducible refine Ext.drewN ?_ _ | with_reducible refine Ext.drew ?_ | ((with_reducible refine Ext.setCell ?_ ?side _); (case side => first | exact Nat.le_refl _ | (simp; done) | (simp; omega)))))⟩
set_option maxRecDepth 8000 in
set_option maxHeartbeats 4000000 in
theorem partx (op : Int) (nm tx : ByteArray) (n : Int) (q : Option Addr) (len cp : Nat) (w : World) (hop : op < 1 ∨ 17 < op) : Calls Tryz.prog 45 #[.agg #[.int .i64 op, .string nm, .string tx, .int .i64 n, .slice q len cp]] w (OneV (.bool (hasFv op nm tx n len)) w) := by
  have o1 : (op == 1) = false := by simp; omega
  have o2 : (op == 2) = false := by simp; omega
  have o3 : (op == 3) = false := by simp; omega
  have o4 : (op == 4) = false := by simp; omega
  have o5 : (op == 5) = false := by simp; omega
  have o6 : (op == 6) = false := by simp; omega
  have o7 : (op == 7) = false := by simp; omega
  have o8 : (op == 8) = false := by simp; omega
  have o9 : (op == 9) = false := by simp; omega
  have o10 : (op == 10) = false := by simp; omega
  have o11 : (op == 11) = false := by simp; omega
  have o12 : (op == 12) = false := by simp; omega
  have o13 : (op == 13) = false := by simp; omega
  have o14 : (op == 14) = false := by simp; omega
  have o15 : (op == 15) = false := by simp; omega
  have o16 : (op == 16) = false := by simp; omega
  have o17 : (op == 17) = false := by simp; omega
  have hv : hasFv op nm tx n len = false := by
    unfold hasFv
    rw [if_neg (by omega), if_neg (by omega), if_neg (by omega), if_neg (by omega)]
    split
    · rfl
    · rw [if_neg (by omega), if_neg (by omega), if_neg (by omega)]
  rw [hv]
  clear hv
  by_cases h6 : 6 ≤ op
  · have d6 : decide (6 ≤ op) = true := by simp [h6]
    have d14 : decide (op ≤ 14) = false := by simp; omega
    clear hop h6
    go_enter Tryz.func45, Tryz.ntmps45
    go_wp2
    go_ret
    exact ⟨rfl, (by repeat (first | with_reducible exact Ext.refl _ | with_reducible exact hE0 | with_reducible exact hE | with_reducible refine Ext.alloc ?_ _ | with_reducible refine Ext.drewN ?_ _ | with_reducible refine Ext.drew ?_ | ((with_reducible refine Ext.setCell ?_ ?side _); (case side => first | exact Nat.le_refl _ | (simp; done) | (simp; omega)))))⟩
  · have d6 : decide (6 ≤ op) = false := by simp; omega
    clear hop h6
    go_enter Tryz.func45, Tryz.ntmps45
    go_wp2
    go_ret
    exact ⟨rfl, (by repeat (first | with_reducible exact Ext.refl _ | with_reducible exact hE0 | with_reducible exact hE | with_reducible refine Ext.alloc ?_ _ | with_reducible refine Ext.drewN ?_ _ | with_reducible refine Ext.drew ?_ | ((with_reducible refine Ext.setCell ?_ ?side _); (case side => first | exact Nat.le_refl _ | (simp; done) | (simp; omega)))))⟩
theorem part_any (op : Int) (nm tx : ByteArray) (n : Int) (q : Option Addr) (len cp : Nat) (w : World) (hn0 : nm.size ≤ 140737488355328) (ht0 : tx.size ≤ 140737488355328) : Calls Tryz.prog 45 #[.agg #[.int .i64 op, .string nm, .string tx, .int .i64 n, .slice q len cp]] w (OneV (.bool (hasFv op nm tx n len)) w) := by
  by_cases h : op < 1 ∨ 17 < op
  · exact partx op nm tx n q len cp w h
  · have h' : op = 1 ∨ op = 2 ∨ op = 3 ∨ op = 4 ∨ op = 5 ∨ op = 6 ∨ op = 7 ∨ op = 8 ∨ op = 9 ∨ op = 10 ∨ op = 11 ∨ op = 12 ∨ op = 13 ∨ op = 14 ∨ op = 15 ∨ op = 16 ∨ op = 17 := by omega
    rcases h' with rfl | rfl | rfl | rfl | rfl | rfl | rfl | rfl | rfl | rfl | rfl | rfl | rfl | rfl | rfl | rfl | rfl
    · exact part1 nm tx n q len cp w hn0 ht0
    · exact part2 nm tx n q len cp w hn0 ht0
    · exact part3 nm tx n q len cp w hn0 ht0
    · exact part4 nm tx n q len cp w hn0 ht0
    · exact part5 nm tx n q len cp w hn0 ht0
    · exact part6 nm tx n q len cp w hn0 ht0
    · exact part7 nm tx n q len cp w hn0 ht0
    · exact part8 nm tx n q len cp w hn0 ht0
    · exact part9 nm tx n q len cp w hn0 ht0
    · exact part10 nm tx n q len cp w hn0 ht0
    · exact part11 nm tx n q len cp w hn0 ht0
    · exact part12 nm tx n q len cp w hn0 ht0
    · exact part13 nm tx n q len cp w hn0 ht0
    · exact part14 nm tx n q len cp w hn0 ht0
    · exact part15 nm tx n q len cp w hn0 ht0
    · exact part16 nm tx n q len cp w hn0 ht0
    · exact part17 nm tx n q len cp w hn0 ht0
end Go.Proofs.YtnppbeajemhjeaaGreat
