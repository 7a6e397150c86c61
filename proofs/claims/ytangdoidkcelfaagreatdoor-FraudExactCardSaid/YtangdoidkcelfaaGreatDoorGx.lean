/- Contracts of the reference's bare and part (walks; printed by gen/g2.py). Contracts of the reference's Levels, Well, find, Valid (walks). Contract of the reference's Valid (walk; printed by gen/g4.py). -/
import Derived.Test.YtangdoidkcelfaaGreatDoorG1
import Derived.Test.YtangdoidkcelfaaGreatDoorEb
import Derived.Test.YtangdoidkcelfaaGreatDoorEd
import Derived.Test.YtangdoidkcelfaaGreatDoorEg
import Derived.Deep.RegionHeld3
namespace Go.Proofs.YtangdoidkcelfaaGreatDoor
open Go.RowKit
def bareB (nm tx : ByteArray) (n : Int) : Bool := empB nm && empB tx && decide (n = 0)
set_option maxRecDepth 8000 in
set_option maxHeartbeats 1000000 in
theorem bare_any (op : Int) (nm tx : ByteArray) (n : Int) (q : Option Addr) (len cp : Nat) (w : World) : Calls Tryz.prog 135 #[.agg #[.int .i64 op, .string nm, .string tx, .int .i64 n, .slice q len cp]] w (OneV (.bool (bareB nm tx n)) w) := by
 unfold bareB
 cases hm : empB nm with
 | false =>
  have hma := empB_f hm
  have hmb := empB_f' hm
  go_enter Tryz.func135, Tryz.ntmps135
  go_wp2
  go_ret
  exact ⟨ret_boolE (by first | (simp_all; done) | (simp_all [bareB]; omega)), xt⟩
 | true =>
  have hma := empB_t hm
  cases ht : empB tx with
  | false =>
   have hta := empB_f ht
   have htb := empB_f' ht
   go_enter Tryz.func135, Tryz.ntmps135
   go_wp2
   go_ret
   exact ⟨ret_boolE (by first | (simp_all; done) | (simp_all [bareB]; omega)), xt⟩
  | true =>
   have hta := empB_t ht
   cases hz : decide (n = 0) with
   | false =>
    have hza : (n == 0) = false := by simpa using hz
    have hzb : ¬ n = 0 := of_decide_eq_false hz
    have hzc : (n != 0) = true := by simpa using hz
    go_enter Tryz.func135, Tryz.ntmps135
    go_wp2
    go_ret
    exact ⟨ret_boolE (by first | (simp_all; done) | (simp_all [bareB]; omega)), xt⟩
   | true =>
    have hza : n = 0 := of_decide_eq_true hz
    subst hza
    go_enter Tryz.func135, Tryz.ntmps135
    go_wp2
    go_ret
    exact ⟨ret_boolE (by first | (simp_all; done) | (simp_all [bareB]; omega)), xt⟩
set_option maxRecDepth 8000 in
set_option maxHeartbeats 4000000 in
theorem part1 (nm tx : ByteArray) (n : Int) (q : Option Addr) (len cp : Nat) (w : World) (_hn0 : nm.size ≤ 140737488355328) (_ht0 : tx.size ≤ 140737488355328) : Calls Tryz.prog 112 #[.agg #[.int .i64 1, .string nm, .string tx, .int .i64 n, .slice q len cp]] w (OneV (.bool (hasFv 1 nm tx n len)) w) := by
 cases hlen : decide (len = 0) with
 | false =>
  have hla : ((len : Int) == 0) = false := by have := of_decide_eq_false hlen; simp; omega
  go_enter Tryz.func112, Tryz.ntmps112
  go_wp2
  go_ret
  exact ⟨ret_boolE (by first | (simp_all [hasFv]; done) | (simp_all [hasFv, bareB]; omega)), xt⟩
 | true =>
  have hla : len = 0 := of_decide_eq_true hlen
  subst hla
  cases hm : empB nm with
  | false =>
   have hma := empB_f hm
   have hmb := empB_f' hm
   go_enter Tryz.func112, Tryz.ntmps112
   go_wp2
   go_ret
   exact ⟨ret_boolE (by first | (simp_all [hasFv]; done) | (simp_all [hasFv, bareB]; omega)), xt⟩
  | true =>
   have hma := empB_t hm
   cases ht : empB tx with
   | false =>
    have hta := empB_f ht
    have htb := empB_f' ht
    go_enter Tryz.func112, Tryz.ntmps112
    go_wp2
    go_ret
    exact ⟨ret_boolE (by first | (simp_all [hasFv]; done) | (simp_all [hasFv, bareB]; omega)), xt⟩
   | true =>
    have hta := empB_t ht
    cases hN : nbrB n with
    | false =>
     go_enter Tryz.func112, Tryz.ntmps112
     go_wp2_with fail
     refine (rnumber_any n _).mono ?_
     rintro e w1 ⟨rfl, rfl⟩
     rw [hN]
     go_wp2
     go_ret
     exact ⟨ret_boolE (by first | (simp_all [hasFv]; done) | (simp_all [hasFv, bareB]; omega)), xt⟩
    | true =>
     go_enter Tryz.func112, Tryz.ntmps112
     go_wp2_with fail
     refine (rnumber_any n _).mono ?_
     rintro e w1 ⟨rfl, rfl⟩
     rw [hN]
     go_wp2
     go_ret
     exact ⟨ret_boolE (by first | (simp_all [hasFv]; done) | (simp_all [hasFv, bareB]; omega)), xt⟩
set_option maxRecDepth 8000 in
set_option maxHeartbeats 4000000 in
theorem part2 (nm tx : ByteArray) (n : Int) (q : Option Addr) (len cp : Nat) (w : World) (_hn0 : nm.size ≤ 140737488355328) (ht0 : tx.size ≤ 140737488355328) : Calls Tryz.prog 112 #[.agg #[.int .i64 2, .string nm, .string tx, .int .i64 n, .slice q len cp]] w (OneV (.bool (hasFv 2 nm tx n len)) w) := by
 cases hlen : decide (len = 0) with
 | false =>
  have hla : ((len : Int) == 0) = false := by have := of_decide_eq_false hlen; simp; omega
  go_enter Tryz.func112, Tryz.ntmps112
  go_wp2
  go_ret
  exact ⟨ret_boolE (by first | (simp_all [hasFv]; done) | (simp_all [hasFv, bareB]; omega)), xt⟩
 | true =>
  have hla : len = 0 := of_decide_eq_true hlen
  subst hla
  cases hm : empB nm with
  | false =>
   have hma := empB_f hm
   have hmb := empB_f' hm
   go_enter Tryz.func112, Tryz.ntmps112
   go_wp2
   go_ret
   exact ⟨ret_boolE (by first | (simp_all [hasFv]; done) | (simp_all [hasFv, bareB]; omega)), xt⟩
  | true =>
   have hma := empB_t hm
   cases hz : decide (n = 0) with
   | false =>
    have hza : (n == 0) = false := by simpa using hz
    have hzb : ¬ n = 0 := of_decide_eq_false hz
    have hzc : (n != 0) = true := by simpa using hz
    go_enter Tryz.func112, Tryz.ntmps112
    go_wp2
    go_ret
    exact ⟨ret_boolE (by first | (simp_all [hasFv]; done) | (simp_all [hasFv, bareB]; omega)), xt⟩
   | true =>
    have hza : n = 0 := of_decide_eq_true hz
    subst hza
    cases hN : litB tx with
    | false =>
     go_enter Tryz.func112, Tryz.ntmps112
     go_wp2_with fail
     refine ((fun w9 => printable_any tx w9 ht0) _).mono ?_
     rintro e w1 ⟨rfl, rfl⟩
     rw [hN]
     go_wp2
     go_ret
     exact ⟨ret_boolE (by first | (simp_all [hasFv]; done) | (simp_all [hasFv, bareB]; omega)), xt⟩
    | true =>
     go_enter Tryz.func112, Tryz.ntmps112
     go_wp2_with fail
     refine ((fun w9 => printable_any tx w9 ht0) _).mono ?_
     rintro e w1 ⟨rfl, rfl⟩
     rw [hN]
     go_wp2
     go_ret
     exact ⟨ret_boolE (by first | (simp_all [hasFv]; done) | (simp_all [hasFv, bareB]; omega)), xt⟩
set_option maxRecDepth 8000 in
set_option maxHeartbeats 4000000 in
theorem part3 (nm tx : ByteArray) (n : Int) (q : Option Addr) (len cp : Nat) (w : World) (hn0 : nm.size ≤ 140737488355328) (_ht0 : tx.size ≤ 140737488355328) : Calls Tryz.prog 112 #[.agg #[.int .i64 3, .string nm, .string tx, .int .i64 n, .slice q len cp]] w (OneV (.bool (hasFv 3 nm tx n len)) w) := by
 cases hlen : decide (len = 0) with
 | false =>
  have hla : ((len : Int) == 0) = false := by have := of_decide_eq_false hlen; simp; omega
  go_enter Tryz.func112, Tryz.ntmps112
  go_wp2
  go_ret
  exact ⟨ret_boolE (by first | (simp_all [hasFv]; done) | (simp_all [hasFv, bareB]; omega)), xt⟩
 | true =>
  have hla : len = 0 := of_decide_eq_true hlen
  subst hla
  cases hN : nameB nm with
  | false =>
   go_enter Tryz.func112, Tryz.ntmps112
   go_wp2_with fail
   refine ((fun w9 => risName_any nm w9 hn0) _).mono ?_
   rintro e w1 ⟨rfl, hE1⟩
   have hE := Ext.trans (a := w) xt hE1
   have hb := Blk.ext (Blk.new w _ _) hE1
   have y2 := hb.cell 2
   have y3 := hb.cell 3
   simp at y2 y3
   clear hb hE1
   rw [hN]
   go_wp2
   go_ret
   exact ⟨ret_boolE (by first | (simp_all [hasFv]; done) | (simp_all [hasFv, bareB]; omega)), xt⟩
  | true =>
   cases ht : empB tx with
   | false =>
    have hta := empB_f ht
    have htb := empB_f' ht
    go_enter Tryz.func112, Tryz.ntmps112
    go_wp2_with fail
    refine ((fun w9 => risName_any nm w9 hn0) _).mono ?_
    rintro e w1 ⟨rfl, hE1⟩
    have hE := Ext.trans (a := w) xt hE1
    have hb := Blk.ext (Blk.new w _ _) hE1
    have y2 := hb.cell 2
    have y3 := hb.cell 3
    simp at y2 y3
    clear hb hE1
    rw [hN]
    go_wp2
    go_ret
    exact ⟨ret_boolE (by first | (simp_all [hasFv]; done) | (simp_all [hasFv, bareB]; omega)), xt⟩
   | true =>
    have hta := empB_t ht
    cases hz : decide (n = 0) with
    | false =>
     have hza : (n == 0) = false := by simpa using hz
     have hzb : ¬ n = 0 := of_decide_eq_false hz
     have hzc : (n != 0) = true := by simpa using hz
     go_enter Tryz.func112, Tryz.ntmps112
     go_wp2_with fail
     refine ((fun w9 => risName_any nm w9 hn0) _).mono ?_
     rintro e w1 ⟨rfl, hE1⟩
     have hE := Ext.trans (a := w) xt hE1
     have hb := Blk.ext (Blk.new w _ _) hE1
     have y2 := hb.cell 2
     have y3 := hb.cell 3
     simp at y2 y3
     clear hb hE1
     rw [hN]
     go_wp2
     go_ret
     exact ⟨ret_boolE (by first | (simp_all [hasFv]; done) | (simp_all [hasFv, bareB]; omega)), xt⟩
    | true =>
     have hza : n = 0 := of_decide_eq_true hz
     subst hza
     go_enter Tryz.func112, Tryz.ntmps112
     go_wp2_with fail
     refine ((fun w9 => risName_any nm w9 hn0) _).mono ?_
     rintro e w1 ⟨rfl, hE1⟩
     have hE := Ext.trans (a := w) xt hE1
     have hb := Blk.ext (Blk.new w _ _) hE1
     have y2 := hb.cell 2
     have y3 := hb.cell 3
     simp at y2 y3
     clear hb hE1
     rw [hN]
     go_wp2
     go_ret
     exact ⟨ret_boolE (by first | (simp_all [hasFv]; done) | (simp_all [hasFv, bareB]; omega)), xt⟩
set_option maxRecDepth 8000 in
set_option maxHeartbeats 4000000 in
theorem part4 (nm tx : ByteArray) (n : Int) (q : Option Addr) (len cp : Nat) (w : World) (_hn0 : nm.size ≤ 140737488355328) (_ht0 : tx.size ≤ 140737488355328) : Calls Tryz.prog 112 #[.agg #[.int .i64 4, .string nm, .string tx, .int .i64 n, .slice q len cp]] w (OneV (.bool (hasFv 4 nm tx n len)) w) := by
 cases hlen : decide (len = 1) with
 | false =>
  have hla : ((len : Int) == 1) = false := by have := of_decide_eq_false hlen; simp; omega
  go_enter Tryz.func112, Tryz.ntmps112
  go_wp2
  go_ret
  exact ⟨ret_boolE (by first | (simp_all [hasFv]; done) | (simp_all [hasFv, bareB]; omega)), xt⟩
 | true =>
  have hla : len = 1 := of_decide_eq_true hlen
  subst hla
  cases hB : bareB nm tx n with
  | false =>
   go_enter Tryz.func112, Tryz.ntmps112
   go_wp2_with fail
   refine (bare_any 4 nm tx n q _ cp _).mono ?_
   rintro e w1 ⟨rfl, hE1⟩
   have hE := Ext.trans (a := w) xt hE1
   rw [hB]
   go_wp2
   go_ret
   exact ⟨ret_boolE (by first | (simp_all [hasFv, bareB]; done) | (simp_all [hasFv, bareB]; omega)), xt⟩
  | true =>
   go_enter Tryz.func112, Tryz.ntmps112
   go_wp2_with fail
   refine (bare_any 4 nm tx n q _ cp _).mono ?_
   rintro e w1 ⟨rfl, hE1⟩
   have hE := Ext.trans (a := w) xt hE1
   rw [hB]
   go_wp2
   go_ret
   exact ⟨ret_boolE (by first | (simp_all [hasFv, bareB]; done) | (simp_all [hasFv, bareB]; omega)), xt⟩
set_option maxRecDepth 8000 in
set_option maxHeartbeats 4000000 in
theorem part5 (nm tx : ByteArray) (n : Int) (q : Option Addr) (len cp : Nat) (w : World) (_hn0 : nm.size ≤ 140737488355328) (_ht0 : tx.size ≤ 140737488355328) : Calls Tryz.prog 112 #[.agg #[.int .i64 5, .string nm, .string tx, .int .i64 n, .slice q len cp]] w (OneV (.bool (hasFv 5 nm tx n len)) w) := by
 cases hlen : decide (len = 1) with
 | false =>
  have hla : ((len : Int) == 1) = false := by have := of_decide_eq_false hlen; simp; omega
  go_enter Tryz.func112, Tryz.ntmps112
  go_wp2
  go_ret
  exact ⟨ret_boolE (by first | (simp_all [hasFv]; done) | (simp_all [hasFv, bareB]; omega)), xt⟩
 | true =>
  have hla : len = 1 := of_decide_eq_true hlen
  subst hla
  cases hB : bareB nm tx n with
  | false =>
   go_enter Tryz.func112, Tryz.ntmps112
   go_wp2_with fail
   refine (bare_any 5 nm tx n q _ cp _).mono ?_
   rintro e w1 ⟨rfl, hE1⟩
   have hE := Ext.trans (a := w) xt hE1
   rw [hB]
   go_wp2
   go_ret
   exact ⟨ret_boolE (by first | (simp_all [hasFv, bareB]; done) | (simp_all [hasFv, bareB]; omega)), xt⟩
  | true =>
   go_enter Tryz.func112, Tryz.ntmps112
   go_wp2_with fail
   refine (bare_any 5 nm tx n q _ cp _).mono ?_
   rintro e w1 ⟨rfl, hE1⟩
   have hE := Ext.trans (a := w) xt hE1
   rw [hB]
   go_wp2
   go_ret
   exact ⟨ret_boolE (by first | (simp_all [hasFv, bareB]; done) | (simp_all [hasFv, bareB]; omega)), xt⟩
set_option maxRecDepth 8000 in
set_option maxHeartbeats 4000000 in
theorem part6 (nm tx : ByteArray) (n : Int) (q : Option Addr) (len cp : Nat) (w : World) (_hn0 : nm.size ≤ 140737488355328) (_ht0 : tx.size ≤ 140737488355328) : Calls Tryz.prog 112 #[.agg #[.int .i64 6, .string nm, .string tx, .int .i64 n, .slice q len cp]] w (OneV (.bool (hasFv 6 nm tx n len)) w) := by
 cases hlen : decide (len = 2) with
 | false =>
  have hla : ((len : Int) == 2) = false := by have := of_decide_eq_false hlen; simp; omega
  go_enter Tryz.func112, Tryz.ntmps112
  go_wp2
  go_ret
  exact ⟨ret_boolE (by first | (simp_all [hasFv]; done) | (simp_all [hasFv, bareB]; omega)), xt⟩
 | true =>
  have hla : len = 2 := of_decide_eq_true hlen
  subst hla
  cases hB : bareB nm tx n with
  | false =>
   go_enter Tryz.func112, Tryz.ntmps112
   go_wp2_with fail
   refine (bare_any 6 nm tx n q _ cp _).mono ?_
   rintro e w1 ⟨rfl, hE1⟩
   have hE := Ext.trans (a := w) xt hE1
   rw [hB]
   go_wp2
   go_ret
   exact ⟨ret_boolE (by first | (simp_all [hasFv, bareB]; done) | (simp_all [hasFv, bareB]; omega)), xt⟩
  | true =>
   go_enter Tryz.func112, Tryz.ntmps112
   go_wp2_with fail
   refine (bare_any 6 nm tx n q _ cp _).mono ?_
   rintro e w1 ⟨rfl, hE1⟩
   have hE := Ext.trans (a := w) xt hE1
   rw [hB]
   go_wp2
   go_ret
   exact ⟨ret_boolE (by first | (simp_all [hasFv, bareB]; done) | (simp_all [hasFv, bareB]; omega)), xt⟩
set_option maxRecDepth 8000 in
set_option maxHeartbeats 4000000 in
theorem part7 (nm tx : ByteArray) (n : Int) (q : Option Addr) (len cp : Nat) (w : World) (_hn0 : nm.size ≤ 140737488355328) (_ht0 : tx.size ≤ 140737488355328) : Calls Tryz.prog 112 #[.agg #[.int .i64 7, .string nm, .string tx, .int .i64 n, .slice q len cp]] w (OneV (.bool (hasFv 7 nm tx n len)) w) := by
 cases hlen : decide (len = 2) with
 | false =>
  have hla : ((len : Int) == 2) = false := by have := of_decide_eq_false hlen; simp; omega
  go_enter Tryz.func112, Tryz.ntmps112
  go_wp2
  go_ret
  exact ⟨ret_boolE (by first | (simp_all [hasFv]; done) | (simp_all [hasFv, bareB]; omega)), xt⟩
 | true =>
  have hla : len = 2 := of_decide_eq_true hlen
  subst hla
  cases hB : bareB nm tx n with
  | false =>
   go_enter Tryz.func112, Tryz.ntmps112
   go_wp2_with fail
   refine (bare_any 7 nm tx n q _ cp _).mono ?_
   rintro e w1 ⟨rfl, hE1⟩
   have hE := Ext.trans (a := w) xt hE1
   rw [hB]
   go_wp2
   go_ret
   exact ⟨ret_boolE (by first | (simp_all [hasFv, bareB]; done) | (simp_all [hasFv, bareB]; omega)), xt⟩
  | true =>
   go_enter Tryz.func112, Tryz.ntmps112
   go_wp2_with fail
   refine (bare_any 7 nm tx n q _ cp _).mono ?_
   rintro e w1 ⟨rfl, hE1⟩
   have hE := Ext.trans (a := w) xt hE1
   rw [hB]
   go_wp2
   go_ret
   exact ⟨ret_boolE (by first | (simp_all [hasFv, bareB]; done) | (simp_all [hasFv, bareB]; omega)), xt⟩
set_option maxRecDepth 8000 in
set_option maxHeartbeats 4000000 in
theorem part8 (nm tx : ByteArray) (n : Int) (q : Option Addr) (len cp : Nat) (w : World) (_hn0 : nm.size ≤ 140737488355328) (_ht0 : tx.size ≤ 140737488355328) : Calls Tryz.prog 112 #[.agg #[.int .i64 8, .string nm, .string tx, .int .i64 n, .slice q len cp]] w (OneV (.bool (hasFv 8 nm tx n len)) w) := by
 cases hlen : decide (len = 2) with
 | false =>
  have hla : ((len : Int) == 2) = false := by have := of_decide_eq_false hlen; simp; omega
  go_enter Tryz.func112, Tryz.ntmps112
  go_wp2
  go_ret
  exact ⟨ret_boolE (by first | (simp_all [hasFv]; done) | (simp_all [hasFv, bareB]; omega)), xt⟩
 | true =>
  have hla : len = 2 := of_decide_eq_true hlen
  subst hla
  cases hB : bareB nm tx n with
  | false =>
   go_enter Tryz.func112, Tryz.ntmps112
   go_wp2_with fail
   refine (bare_any 8 nm tx n q _ cp _).mono ?_
   rintro e w1 ⟨rfl, hE1⟩
   have hE := Ext.trans (a := w) xt hE1
   rw [hB]
   go_wp2
   go_ret
   exact ⟨ret_boolE (by first | (simp_all [hasFv, bareB]; done) | (simp_all [hasFv, bareB]; omega)), xt⟩
  | true =>
   go_enter Tryz.func112, Tryz.ntmps112
   go_wp2_with fail
   refine (bare_any 8 nm tx n q _ cp _).mono ?_
   rintro e w1 ⟨rfl, hE1⟩
   have hE := Ext.trans (a := w) xt hE1
   rw [hB]
   go_wp2
   go_ret
   exact ⟨ret_boolE (by first | (simp_all [hasFv, bareB]; done) | (simp_all [hasFv, bareB]; omega)), xt⟩
set_option maxRecDepth 8000 in
set_option maxHeartbeats 4000000 in
theorem part9 (nm tx : ByteArray) (n : Int) (q : Option Addr) (len cp : Nat) (w : World) (_hn0 : nm.size ≤ 140737488355328) (_ht0 : tx.size ≤ 140737488355328) : Calls Tryz.prog 112 #[.agg #[.int .i64 9, .string nm, .string tx, .int .i64 n, .slice q len cp]] w (OneV (.bool (hasFv 9 nm tx n len)) w) := by
 cases hlen : decide (len = 2) with
 | false =>
  have hla : ((len : Int) == 2) = false := by have := of_decide_eq_false hlen; simp; omega
  go_enter Tryz.func112, Tryz.ntmps112
  go_wp2
  go_ret
  exact ⟨ret_boolE (by first | (simp_all [hasFv]; done) | (simp_all [hasFv, bareB]; omega)), xt⟩
 | true =>
  have hla : len = 2 := of_decide_eq_true hlen
  subst hla
  cases hB : bareB nm tx n with
  | false =>
   go_enter Tryz.func112, Tryz.ntmps112
   go_wp2_with fail
   refine (bare_any 9 nm tx n q _ cp _).mono ?_
   rintro e w1 ⟨rfl, hE1⟩
   have hE := Ext.trans (a := w) xt hE1
   rw [hB]
   go_wp2
   go_ret
   exact ⟨ret_boolE (by first | (simp_all [hasFv, bareB]; done) | (simp_all [hasFv, bareB]; omega)), xt⟩
  | true =>
   go_enter Tryz.func112, Tryz.ntmps112
   go_wp2_with fail
   refine (bare_any 9 nm tx n q _ cp _).mono ?_
   rintro e w1 ⟨rfl, hE1⟩
   have hE := Ext.trans (a := w) xt hE1
   rw [hB]
   go_wp2
   go_ret
   exact ⟨ret_boolE (by first | (simp_all [hasFv, bareB]; done) | (simp_all [hasFv, bareB]; omega)), xt⟩
set_option maxRecDepth 8000 in
set_option maxHeartbeats 4000000 in
theorem part10 (nm tx : ByteArray) (n : Int) (q : Option Addr) (len cp : Nat) (w : World) (_hn0 : nm.size ≤ 140737488355328) (_ht0 : tx.size ≤ 140737488355328) : Calls Tryz.prog 112 #[.agg #[.int .i64 10, .string nm, .string tx, .int .i64 n, .slice q len cp]] w (OneV (.bool (hasFv 10 nm tx n len)) w) := by
 cases hlen : decide (len = 2) with
 | false =>
  have hla : ((len : Int) == 2) = false := by have := of_decide_eq_false hlen; simp; omega
  go_enter Tryz.func112, Tryz.ntmps112
  go_wp2
  go_ret
  exact ⟨ret_boolE (by first | (simp_all [hasFv]; done) | (simp_all [hasFv, bareB]; omega)), xt⟩
 | true =>
  have hla : len = 2 := of_decide_eq_true hlen
  subst hla
  cases hB : bareB nm tx n with
  | false =>
   go_enter Tryz.func112, Tryz.ntmps112
   go_wp2_with fail
   refine (bare_any 10 nm tx n q _ cp _).mono ?_
   rintro e w1 ⟨rfl, hE1⟩
   have hE := Ext.trans (a := w) xt hE1
   rw [hB]
   go_wp2
   go_ret
   exact ⟨ret_boolE (by first | (simp_all [hasFv, bareB]; done) | (simp_all [hasFv, bareB]; omega)), xt⟩
  | true =>
   go_enter Tryz.func112, Tryz.ntmps112
   go_wp2_with fail
   refine (bare_any 10 nm tx n q _ cp _).mono ?_
   rintro e w1 ⟨rfl, hE1⟩
   have hE := Ext.trans (a := w) xt hE1
   rw [hB]
   go_wp2
   go_ret
   exact ⟨ret_boolE (by first | (simp_all [hasFv, bareB]; done) | (simp_all [hasFv, bareB]; omega)), xt⟩
set_option maxRecDepth 8000 in
set_option maxHeartbeats 4000000 in
theorem part11 (nm tx : ByteArray) (n : Int) (q : Option Addr) (len cp : Nat) (w : World) (_hn0 : nm.size ≤ 140737488355328) (_ht0 : tx.size ≤ 140737488355328) : Calls Tryz.prog 112 #[.agg #[.int .i64 11, .string nm, .string tx, .int .i64 n, .slice q len cp]] w (OneV (.bool (hasFv 11 nm tx n len)) w) := by
 cases hlen : decide (len = 2) with
 | false =>
  have hla : ((len : Int) == 2) = false := by have := of_decide_eq_false hlen; simp; omega
  go_enter Tryz.func112, Tryz.ntmps112
  go_wp2
  go_ret
  exact ⟨ret_boolE (by first | (simp_all [hasFv]; done) | (simp_all [hasFv, bareB]; omega)), xt⟩
 | true =>
  have hla : len = 2 := of_decide_eq_true hlen
  subst hla
  cases hB : bareB nm tx n with
  | false =>
   go_enter Tryz.func112, Tryz.ntmps112
   go_wp2_with fail
   refine (bare_any 11 nm tx n q _ cp _).mono ?_
   rintro e w1 ⟨rfl, hE1⟩
   have hE := Ext.trans (a := w) xt hE1
   rw [hB]
   go_wp2
   go_ret
   exact ⟨ret_boolE (by first | (simp_all [hasFv, bareB]; done) | (simp_all [hasFv, bareB]; omega)), xt⟩
  | true =>
   go_enter Tryz.func112, Tryz.ntmps112
   go_wp2_with fail
   refine (bare_any 11 nm tx n q _ cp _).mono ?_
   rintro e w1 ⟨rfl, hE1⟩
   have hE := Ext.trans (a := w) xt hE1
   rw [hB]
   go_wp2
   go_ret
   exact ⟨ret_boolE (by first | (simp_all [hasFv, bareB]; done) | (simp_all [hasFv, bareB]; omega)), xt⟩
set_option maxRecDepth 8000 in
set_option maxHeartbeats 4000000 in
theorem part12 (nm tx : ByteArray) (n : Int) (q : Option Addr) (len cp : Nat) (w : World) (_hn0 : nm.size ≤ 140737488355328) (_ht0 : tx.size ≤ 140737488355328) : Calls Tryz.prog 112 #[.agg #[.int .i64 12, .string nm, .string tx, .int .i64 n, .slice q len cp]] w (OneV (.bool (hasFv 12 nm tx n len)) w) := by
 cases hlen : decide (len = 2) with
 | false =>
  have hla : ((len : Int) == 2) = false := by have := of_decide_eq_false hlen; simp; omega
  go_enter Tryz.func112, Tryz.ntmps112
  go_wp2
  go_ret
  exact ⟨ret_boolE (by first | (simp_all [hasFv]; done) | (simp_all [hasFv, bareB]; omega)), xt⟩
 | true =>
  have hla : len = 2 := of_decide_eq_true hlen
  subst hla
  cases hB : bareB nm tx n with
  | false =>
   go_enter Tryz.func112, Tryz.ntmps112
   go_wp2_with fail
   refine (bare_any 12 nm tx n q _ cp _).mono ?_
   rintro e w1 ⟨rfl, hE1⟩
   have hE := Ext.trans (a := w) xt hE1
   rw [hB]
   go_wp2
   go_ret
   exact ⟨ret_boolE (by first | (simp_all [hasFv, bareB]; done) | (simp_all [hasFv, bareB]; omega)), xt⟩
  | true =>
   go_enter Tryz.func112, Tryz.ntmps112
   go_wp2_with fail
   refine (bare_any 12 nm tx n q _ cp _).mono ?_
   rintro e w1 ⟨rfl, hE1⟩
   have hE := Ext.trans (a := w) xt hE1
   rw [hB]
   go_wp2
   go_ret
   exact ⟨ret_boolE (by first | (simp_all [hasFv, bareB]; done) | (simp_all [hasFv, bareB]; omega)), xt⟩
set_option maxRecDepth 8000 in
set_option maxHeartbeats 4000000 in
theorem part13 (nm tx : ByteArray) (n : Int) (q : Option Addr) (len cp : Nat) (w : World) (_hn0 : nm.size ≤ 140737488355328) (_ht0 : tx.size ≤ 140737488355328) : Calls Tryz.prog 112 #[.agg #[.int .i64 13, .string nm, .string tx, .int .i64 n, .slice q len cp]] w (OneV (.bool (hasFv 13 nm tx n len)) w) := by
 cases hlen : decide (len = 2) with
 | false =>
  have hla : ((len : Int) == 2) = false := by have := of_decide_eq_false hlen; simp; omega
  go_enter Tryz.func112, Tryz.ntmps112
  go_wp2
  go_ret
  exact ⟨ret_boolE (by first | (simp_all [hasFv]; done) | (simp_all [hasFv, bareB]; omega)), xt⟩
 | true =>
  have hla : len = 2 := of_decide_eq_true hlen
  subst hla
  cases hB : bareB nm tx n with
  | false =>
   go_enter Tryz.func112, Tryz.ntmps112
   go_wp2_with fail
   refine (bare_any 13 nm tx n q _ cp _).mono ?_
   rintro e w1 ⟨rfl, hE1⟩
   have hE := Ext.trans (a := w) xt hE1
   rw [hB]
   go_wp2
   go_ret
   exact ⟨ret_boolE (by first | (simp_all [hasFv, bareB]; done) | (simp_all [hasFv, bareB]; omega)), xt⟩
  | true =>
   go_enter Tryz.func112, Tryz.ntmps112
   go_wp2_with fail
   refine (bare_any 13 nm tx n q _ cp _).mono ?_
   rintro e w1 ⟨rfl, hE1⟩
   have hE := Ext.trans (a := w) xt hE1
   rw [hB]
   go_wp2
   go_ret
   exact ⟨ret_boolE (by first | (simp_all [hasFv, bareB]; done) | (simp_all [hasFv, bareB]; omega)), xt⟩
set_option maxRecDepth 8000 in
set_option maxHeartbeats 4000000 in
theorem part14 (nm tx : ByteArray) (n : Int) (q : Option Addr) (len cp : Nat) (w : World) (_hn0 : nm.size ≤ 140737488355328) (_ht0 : tx.size ≤ 140737488355328) : Calls Tryz.prog 112 #[.agg #[.int .i64 14, .string nm, .string tx, .int .i64 n, .slice q len cp]] w (OneV (.bool (hasFv 14 nm tx n len)) w) := by
 cases hlen : decide (len = 2) with
 | false =>
  have hla : ((len : Int) == 2) = false := by have := of_decide_eq_false hlen; simp; omega
  go_enter Tryz.func112, Tryz.ntmps112
  go_wp2
  go_ret
  exact ⟨ret_boolE (by first | (simp_all [hasFv]; done) | (simp_all [hasFv, bareB]; omega)), xt⟩
 | true =>
  have hla : len = 2 := of_decide_eq_true hlen
  subst hla
  cases hB : bareB nm tx n with
  | false =>
   go_enter Tryz.func112, Tryz.ntmps112
   go_wp2_with fail
   refine (bare_any 14 nm tx n q _ cp _).mono ?_
   rintro e w1 ⟨rfl, hE1⟩
   have hE := Ext.trans (a := w) xt hE1
   rw [hB]
   go_wp2
   go_ret
   exact ⟨ret_boolE (by first | (simp_all [hasFv, bareB]; done) | (simp_all [hasFv, bareB]; omega)), xt⟩
  | true =>
   go_enter Tryz.func112, Tryz.ntmps112
   go_wp2_with fail
   refine (bare_any 14 nm tx n q _ cp _).mono ?_
   rintro e w1 ⟨rfl, hE1⟩
   have hE := Ext.trans (a := w) xt hE1
   rw [hB]
   go_wp2
   go_ret
   exact ⟨ret_boolE (by first | (simp_all [hasFv, bareB]; done) | (simp_all [hasFv, bareB]; omega)), xt⟩
set_option maxRecDepth 8000 in
set_option maxHeartbeats 4000000 in
theorem part15 (nm tx : ByteArray) (n : Int) (q : Option Addr) (len cp : Nat) (w : World) (_hn0 : nm.size ≤ 140737488355328) (_ht0 : tx.size ≤ 140737488355328) : Calls Tryz.prog 112 #[.agg #[.int .i64 15, .string nm, .string tx, .int .i64 n, .slice q len cp]] w (OneV (.bool (hasFv 15 nm tx n len)) w) := by
 cases hl1 : decide (2 ≤ len) with
 | false =>
  have hla : ¬ (2 : Int) ≤ len := by have := of_decide_eq_false hl1; omega
  go_enter Tryz.func112, Tryz.ntmps112
  go_wp2
  go_ret
  exact ⟨ret_boolE (by first | (simp_all [hasFv]; done) | (simp_all [hasFv]; omega)), xt⟩
 | true =>
  have hla : (2 : Int) ≤ len := by have := of_decide_eq_true hl1; omega
  cases hl2 : decide (len ≤ 17) with
  | false =>
   have hlb : ¬ (len : Int) ≤ 17 := by have := of_decide_eq_false hl2; omega
   go_enter Tryz.func112, Tryz.ntmps112
   go_wp2
   go_ret
   exact ⟨ret_boolE (by first | (simp_all [hasFv]; done) | (simp_all [hasFv, bareB]; omega)), xt⟩
  | true =>
   have hlb : (len : Int) ≤ 17 := by have := of_decide_eq_true hl2; omega
   cases hB : bareB nm tx n with
   | false =>
    go_enter Tryz.func112, Tryz.ntmps112
    go_wp2_with fail
    refine (bare_any 15 nm tx n q _ cp _).mono ?_
    rintro e w1 ⟨rfl, hE1⟩
    have hE := Ext.trans (a := w) xt hE1
    rw [hB]
    go_wp2
    go_ret
    exact ⟨ret_boolE (by first | (simp_all [hasFv, bareB]; done) | (simp_all [hasFv, bareB]; omega)), xt⟩
   | true =>
    go_enter Tryz.func112, Tryz.ntmps112
    go_wp2_with fail
    refine (bare_any 15 nm tx n q _ cp _).mono ?_
    rintro e w1 ⟨rfl, hE1⟩
    have hE := Ext.trans (a := w) xt hE1
    rw [hB]
    go_wp2
    go_ret
    exact ⟨ret_boolE (by first | (simp_all [hasFv, bareB]; done) | (simp_all [hasFv, bareB]; omega)), xt⟩
set_option maxRecDepth 8000 in
set_option maxHeartbeats 4000000 in
theorem part16 (nm tx : ByteArray) (n : Int) (q : Option Addr) (len cp : Nat) (w : World) (hn0 : nm.size ≤ 140737488355328) (_ht0 : tx.size ≤ 140737488355328) : Calls Tryz.prog 112 #[.agg #[.int .i64 16, .string nm, .string tx, .int .i64 n, .slice q len cp]] w (OneV (.bool (hasFv 16 nm tx n len)) w) := by
 cases hlen : decide (len = 0) with
 | false =>
  have hla : ((len : Int) == 0) = false := by have := of_decide_eq_false hlen; simp; omega
  go_enter Tryz.func112, Tryz.ntmps112
  go_wp2
  go_ret
  exact ⟨ret_boolE (by first | (simp_all [hasFv]; done) | (simp_all [hasFv, bareB]; omega)), xt⟩
 | true =>
  have hla : len = 0 := of_decide_eq_true hlen
  subst hla
  cases hN : nameB nm with
  | false =>
   go_enter Tryz.func112, Tryz.ntmps112
   go_wp2_with fail
   refine ((fun w9 => risName_any nm w9 hn0) _).mono ?_
   rintro e w1 ⟨rfl, hE1⟩
   have hE := Ext.trans (a := w) xt hE1
   have hb := Blk.ext (Blk.new w _ _) hE1
   have y2 := hb.cell 2
   have y3 := hb.cell 3
   simp at y2 y3
   clear hb hE1
   rw [hN]
   go_wp2
   go_ret
   exact ⟨ret_boolE (by first | (simp_all [hasFv]; done) | (simp_all [hasFv, bareB]; omega)), xt⟩
  | true =>
   cases ht : empB tx with
   | false =>
    have hta := empB_f ht
    have htb := empB_f' ht
    go_enter Tryz.func112, Tryz.ntmps112
    go_wp2_with fail
    refine ((fun w9 => risName_any nm w9 hn0) _).mono ?_
    rintro e w1 ⟨rfl, hE1⟩
    have hE := Ext.trans (a := w) xt hE1
    have hb := Blk.ext (Blk.new w _ _) hE1
    have y2 := hb.cell 2
    have y3 := hb.cell 3
    simp at y2 y3
    clear hb hE1
    rw [hN]
    go_wp2
    go_ret
    exact ⟨ret_boolE (by first | (simp_all [hasFv]; done) | (simp_all [hasFv, bareB]; omega)), xt⟩
   | true =>
    have hta := empB_t ht
    cases hq1 : decide (1 ≤ n) with
    | false =>
     have hq1a : ¬ 1 ≤ n := of_decide_eq_false hq1
     go_enter Tryz.func112, Tryz.ntmps112
     go_wp2_with fail
     refine ((fun w9 => risName_any nm w9 hn0) _).mono ?_
     rintro e w1 ⟨rfl, hE1⟩
     have hE := Ext.trans (a := w) xt hE1
     have hb := Blk.ext (Blk.new w _ _) hE1
     have y2 := hb.cell 2
     have y3 := hb.cell 3
     simp at y2 y3
     clear hb hE1
     rw [hN]
     go_wp2
     go_ret
     exact ⟨ret_boolE (by first | (simp_all [hasFv]; done) | (simp_all [hasFv]; omega)), xt⟩
    | true =>
     have hq1a : 1 ≤ n := of_decide_eq_true hq1
     cases hq2 : decide (n ≤ 10000000) with
     | false =>
      have hq2a : ¬ n ≤ 10000000 := of_decide_eq_false hq2
      go_enter Tryz.func112, Tryz.ntmps112
      go_wp2_with fail
      refine ((fun w9 => risName_any nm w9 hn0) _).mono ?_
      rintro e w1 ⟨rfl, hE1⟩
      have hE := Ext.trans (a := w) xt hE1
      have hb := Blk.ext (Blk.new w _ _) hE1
      have y2 := hb.cell 2
      have y3 := hb.cell 3
      simp at y2 y3
      clear hb hE1
      rw [hN]
      go_wp2
      go_ret
      exact ⟨ret_boolE (by first | (simp_all [hasFv]; done) | (simp_all [hasFv, bareB]; omega)), xt⟩
     | true =>
      have hq2a : n ≤ 10000000 := of_decide_eq_true hq2
      go_enter Tryz.func112, Tryz.ntmps112
      go_wp2_with fail
      refine ((fun w9 => risName_any nm w9 hn0) _).mono ?_
      rintro e w1 ⟨rfl, hE1⟩
      have hE := Ext.trans (a := w) xt hE1
      have hb := Blk.ext (Blk.new w _ _) hE1
      have y2 := hb.cell 2
      have y3 := hb.cell 3
      simp at y2 y3
      clear hb hE1
      rw [hN]
      go_wp2
      go_ret
      exact ⟨ret_boolE (by first | (simp_all [hasFv]; done) | (simp_all [hasFv, bareB]; omega)), xt⟩
set_option maxRecDepth 8000 in
set_option maxHeartbeats 4000000 in
theorem part17 (nm tx : ByteArray) (n : Int) (q : Option Addr) (len cp : Nat) (w : World) (hn0 : nm.size ≤ 140737488355328) (_ht0 : tx.size ≤ 140737488355328) : Calls Tryz.prog 112 #[.agg #[.int .i64 17, .string nm, .string tx, .int .i64 n, .slice q len cp]] w (OneV (.bool (hasFv 17 nm tx n len)) w) := by
 cases hlen : decide (len = 0) with
 | false =>
  have hla : ((len : Int) == 0) = false := by have := of_decide_eq_false hlen; simp; omega
  go_enter Tryz.func112, Tryz.ntmps112
  go_wp2
  go_ret
  exact ⟨ret_boolE (by first | (simp_all [hasFv]; done) | (simp_all [hasFv, bareB]; omega)), xt⟩
 | true =>
  have hla : len = 0 := of_decide_eq_true hlen
  subst hla
  cases hN : nameB nm with
  | false =>
   go_enter Tryz.func112, Tryz.ntmps112
   go_wp2_with fail
   refine ((fun w9 => risName_any nm w9 hn0) _).mono ?_
   rintro e w1 ⟨rfl, hE1⟩
   have hE := Ext.trans (a := w) xt hE1
   have hb := Blk.ext (Blk.new w _ _) hE1
   have y2 := hb.cell 2
   have y3 := hb.cell 3
   simp at y2 y3
   clear hb hE1
   rw [hN]
   go_wp2
   go_ret
   exact ⟨ret_boolE (by first | (simp_all [hasFv]; done) | (simp_all [hasFv, bareB]; omega)), xt⟩
  | true =>
   cases ht : empB tx with
   | false =>
    have hta := empB_f ht
    have htb := empB_f' ht
    go_enter Tryz.func112, Tryz.ntmps112
    go_wp2_with fail
    refine ((fun w9 => risName_any nm w9 hn0) _).mono ?_
    rintro e w1 ⟨rfl, hE1⟩
    have hE := Ext.trans (a := w) xt hE1
    have hb := Blk.ext (Blk.new w _ _) hE1
    have y2 := hb.cell 2
    have y3 := hb.cell 3
    simp at y2 y3
    clear hb hE1
    rw [hN]
    go_wp2
    go_ret
    exact ⟨ret_boolE (by first | (simp_all [hasFv]; done) | (simp_all [hasFv, bareB]; omega)), xt⟩
   | true =>
    have hta := empB_t ht
    cases hq1 : decide (1 ≤ n) with
    | false =>
     have hq1a : ¬ 1 ≤ n := of_decide_eq_false hq1
     go_enter Tryz.func112, Tryz.ntmps112
     go_wp2_with fail
     refine ((fun w9 => risName_any nm w9 hn0) _).mono ?_
     rintro e w1 ⟨rfl, hE1⟩
     have hE := Ext.trans (a := w) xt hE1
     have hb := Blk.ext (Blk.new w _ _) hE1
     have y2 := hb.cell 2
     have y3 := hb.cell 3
     simp at y2 y3
     clear hb hE1
     rw [hN]
     go_wp2
     go_ret
     exact ⟨ret_boolE (by first | (simp_all [hasFv]; done) | (simp_all [hasFv]; omega)), xt⟩
    | true =>
     have hq1a : 1 ≤ n := of_decide_eq_true hq1
     cases hq2 : decide (n ≤ 10000000) with
     | false =>
      have hq2a : ¬ n ≤ 10000000 := of_decide_eq_false hq2
      go_enter Tryz.func112, Tryz.ntmps112
      go_wp2_with fail
      refine ((fun w9 => risName_any nm w9 hn0) _).mono ?_
      rintro e w1 ⟨rfl, hE1⟩
      have hE := Ext.trans (a := w) xt hE1
      have hb := Blk.ext (Blk.new w _ _) hE1
      have y2 := hb.cell 2
      have y3 := hb.cell 3
      simp at y2 y3
      clear hb hE1
      rw [hN]
      go_wp2
      go_ret
      exact ⟨ret_boolE (by first | (simp_all [hasFv]; done) | (simp_all [hasFv, bareB]; omega)), xt⟩
     | true =>
      have hq2a : n ≤ 10000000 := of_decide_eq_true hq2
      go_enter Tryz.func112, Tryz.ntmps112
      go_wp2_with fail
      refine ((fun w9 => risName_any nm w9 hn0) _).mono ?_
      rintro e w1 ⟨rfl, hE1⟩
      have hE := Ext.trans (a := w) xt hE1
      have hb := Blk.ext (Blk.new w _ _) hE1
      have y2 := hb.cell 2
      have y3 := hb.cell 3
      simp at y2 y3
      clear hb hE1
      rw [hN]
      go_wp2
      go_ret
      exact ⟨ret_boolE (by first | (simp_all [hasFv]; done) | (simp_all [hasFv, bareB]; omega)), xt⟩
set_option maxRecDepth 8000 in
set_option maxHeartbeats 4000000 in
theorem partx (op : Int) (nm tx : ByteArray) (n : Int) (q : Option Addr) (len cp : Nat) (w : World) (hop : op < 1 ∨ 17 < op) : Calls Tryz.prog 112 #[.agg #[.int .i64 op, .string nm, .string tx, .int .i64 n, .slice q len cp]] w (OneV (.bool (hasFv op nm tx n len)) w) := by
 have o1 : (op == 1) = false := by simp; omega
 have o2 : (op == 2) = false := by simp; omega
 have o3 : (op == 3) = false := by simp; omega
 have o4 : (op == 4) = false := by simp; omega
 have o5 : (op == 5) = false := by simp; omega
 have o6 : (op == 6) = false := by simp; omega
 have o7 : (op == 7) = false := by simp; omega
 have o8 : (op == 8) = false := by simp; omega
 have o9 : (op == 9) = false := by simp; omega
 have o10 : (op == 10) = false := by simp; omega
 have o11 : (op == 11) = false := by simp; omega
 have o12 : (op == 12) = false := by simp; omega
 have o13 : (op == 13) = false := by simp; omega
 have o14 : (op == 14) = false := by simp; omega
 have o15 : (op == 15) = false := by simp; omega
 have o16 : (op == 16) = false := by simp; omega
 have o17 : (op == 17) = false := by simp; omega
 have hv : hasFv op nm tx n len = false := by
  unfold hasFv
  rw [if_neg (by omega), if_neg (by omega), if_neg (by omega), if_neg (by omega)]
  split
  · rfl
  · rw [if_neg (by omega), if_neg (by omega), if_neg (by omega)]
 rw [hv]
 clear hv
 by_cases h6 : 6 ≤ op
 · have d6 : decide (6 ≤ op) = true := by simp [h6]
   have d14 : decide (op ≤ 14) = false := by simp; omega
   clear hop h6
   go_enter Tryz.func112, Tryz.ntmps112
   go_wp2
   go_ret
   exact ⟨rfl, xt⟩
 · have d6 : decide (6 ≤ op) = false := by simp; omega
   clear hop h6
   go_enter Tryz.func112, Tryz.ntmps112
   go_wp2
   go_ret
   exact ⟨rfl, xt⟩
theorem part_any (op : Int) (nm tx : ByteArray) (n : Int) (q : Option Addr) (len cp : Nat) (w : World) (hn0 : nm.size ≤ 140737488355328) (ht0 : tx.size ≤ 140737488355328) : Calls Tryz.prog 112 #[.agg #[.int .i64 op, .string nm, .string tx, .int .i64 n, .slice q len cp]] w (OneV (.bool (hasFv op nm tx n len)) w) := by
 by_cases h : op < 1 ∨ 17 < op
 · exact partx op nm tx n q len cp w h
 · have h' : op = 1 ∨ op = 2 ∨ op = 3 ∨ op = 4 ∨ op = 5 ∨ op = 6 ∨ op = 7 ∨ op = 8 ∨ op = 9 ∨ op = 10 ∨ op = 11 ∨ op = 12 ∨ op = 13 ∨ op = 14 ∨ op = 15 ∨ op = 16 ∨ op = 17 := by omega
   rcases h' with rfl | rfl | rfl | rfl | rfl | rfl | rfl | rfl | rfl | rfl | rfl | rfl | rfl | rfl | rfl | rfl | rfl
   · exact part1 nm tx n q len cp w hn0 ht0
   · exact part2 nm tx n q len cp w hn0 ht0
   · exact part3 nm tx n q len cp w hn0 ht0
   · exact part4 nm tx n q len cp w hn0 ht0
   · exact part5 nm tx n q len cp w hn0 ht0
   · exact part6 nm tx n q len cp w hn0 ht0
   · exact part7 nm tx n q len cp w hn0 ht0
   · exact part8 nm tx n q len cp w hn0 ht0
   · exact part9 nm tx n q len cp w hn0 ht0
   · exact part10 nm tx n q len cp w hn0 ht0
   · exact part11 nm tx n q len cp w hn0 ht0
   · exact part12 nm tx n q len cp w hn0 ht0
   · exact part13 nm tx n q len cp w hn0 ht0
   · exact part14 nm tx n q len cp w hn0 ht0
   · exact part15 nm tx n q len cp w hn0 ht0
   · exact part16 nm tx n q len cp w hn0 ht0
   · exact part17 nm tx n q len cp w hn0 ht0
end Go.Proofs.YtangdoidkcelfaaGreatDoor
namespace Go.Proofs.YtangdoidkcelfaaGreatDoor
open Go.RowKit
set_option maxRecDepth 8000 in
set_option maxHeartbeats 2000000 in
theorem rlevels_any {w : World} {v : Value} {l : List Ex} (h : ExS w v l) : ∀ (x : Ex), x.args = l → ∀ w', Ext w w' → x.levels ≤ 1000000 → Calls Tryz.prog 68 #[exAgg x v] w' (OneV (.int .i64 x.levels) w') := by
 refine ExS.ind (P := fun x v => ∀ w', Ext w w' → x.levels ≤ 1000000 → Calls Tryz.prog 68 #[exAgg x v] w' (OneV (.int .i64 x.levels) w')) ?_ h
 clear h
 intro x v hS hK w' hE hl
 obtain ⟨op, nm, tx, n, args⟩ := x
 obtain ⟨q, cp, rfl⟩ := hS.form
 have hlen := hS.len
 replace hK := Lib.hid hK
 simp only [Ex.args] at hK hlen ⊢
 rw [levels_eq] at hl ⊢
 simp only [Ex.args] at hl ⊢
 rw [exAgg_mk]
 clear hS
 go_enter Tryz.func68, Tryz.ntmps68
 go_wp2_with fail
 have hb0 := Blk.new w' #[.int .i64 op, .string nm, .string tx, .int .i64 n, .slice q args.length cp] 40
 have hE0 : Ext w' (w'.alloc (.cells #[.int .i64 op, .string nm, .string tx, .int .i64 n, .slice q args.length cp] 40)) := xt
 generalize w'.alloc (.cells #[.int .i64 op, .string nm, .string tx, .int .i64 n, .slice q args.length cp] 40) = w0 at *
 replace hb0 := Lib.hid hb0
 go_loopw [3, 4] (fun d i wr => ∃ k : Nat, k ≤ args.length ∧ i = .int .i64 k ∧ d = .int .i64 (Ex.levels.levelsL (args.take k)) ∧ Ext w0 wr) (fun _ i _ => args.length - (intOf i).toNat)
 case atStart => exact ⟨0, Nat.zero_le _, rfl, rfl, Ext.refl _⟩
 case round =>
  obtain ⟨k, hk, rfl, rfl, hEr⟩ := hrel
  have x4 : wr.cell? ⟨w'.heap.size, 4, none⟩ = some (.slice q args.length cp) := ((hb0.out.ext hEr).cell 4).trans rfl
  by_cases hlt : k < args.length
  · obtain ⟨b, off, rfl, sv, hkid⟩ := hK.out _ _ rfl (by omega)
    obtain ⟨hc, hsu, hP⟩ := hkid k hlt
    have hform := hsu.form
    have hEw := hE.trans (hE0.trans hEr)
    obtain ⟨c0, c1, c2, c3, c4⟩ := (hc.ext hEw).five
    have hle := levels_le args k hlt
    have hsn := Lib.hid (levelsL_snoc args k hlt)
    have hb1 : Ex.levels.levelsL (args.take k) ≤ Ex.levels.levelsL args := by
     have h2 : Ex.levels.levelsL args = max (Ex.levels.levelsL (args.take k)) (Ex.levels.levelsL (args.drop k)) := by rw [← levelsL_append, List.take_append_drop]
     omega
    replace hP := Lib.hid hP
    clear hc hkid hsu
    generalize args.getD k exD = y at *
    generalize Ex.levels.levelsL (args.take k) = d at *
    generalize sv k = u at *
    obtain ⟨uq, uc, rfl⟩ := hform
    go_wp2_with fail
    refine (hP.out _ hEw (by omega)).mono ?_
    rintro e w1 ⟨rfl, hE1⟩
    have hE2 := hEr.trans hE1
    clear hE1 c0 c1 c2 c3 c4 x4 hEw hEr
    generalize y.levels = yl at *
    by_cases hc : d < yl
    · have dd : decide ((d : Int) < (yl : Int)) = true := by simp; omega
      have dd' : decide (d < yl) = true := by simp [hc]
      go_wp2
      go_roundw
      case rel => exact ⟨k + 1, by omega, by go_num, by rw [hsn.out, Nat.max_eq_right (Nat.le_of_lt hc)], hE2⟩
      case measure => simp [intOf]; omega
    · have dd : decide ((d : Int) < (yl : Int)) = false := by simp; omega
      have dd' : decide (d < yl) = false := by simp; omega
      go_wp2
      go_roundw
      case rel => exact ⟨k + 1, by omega, by go_num, by rw [hsn.out, Nat.max_eq_left (Nat.le_of_not_lt hc)], hE2⟩
      case measure => simp [intOf]; omega
  · have hkk : args.take k = args := List.take_of_length_le (by omega)
    rw [hkk]
    clear hkk
    go_wp2
    go_ret
    exact ⟨by go_num, hE0.trans hEr⟩
set_option maxRecDepth 8000 in
set_option maxHeartbeats 2000000 in
theorem rwell_any {w : World} {v : Value} {l : List Ex} (h : ExS w v l) : ∀ (x : Ex), x.args = l → StrOk [x] → ∀ w', Ext w w' → Calls Tryz.prog 69 #[exAgg x v] w' (OneV (.bool x.formed) w') := by
 refine ExS.ind (P := fun x v => StrOk [x] → ∀ w', Ext w w' → Calls Tryz.prog 69 #[exAgg x v] w' (OneV (.bool x.formed) w')) ?_ h
 clear h
 intro x v hS hK hok w' hE
 obtain ⟨op, nm, tx, n, args⟩ := x
 obtain ⟨q, cp, rfl⟩ := hS.form
 have hlen := hS.len
 replace hK := Lib.hid hK
 obtain ⟨hz1, hz2⟩ := strOk_self hok
 have hkk := Lib.hid (fun k (hk : k < args.length) => strOk_kid hok hk)
 clear hok
 have hfe := Lib.hid (formed_eq op nm tx n args)
 simp only [Ex.args] at hK hlen ⊢
 generalize (Ex.mk op nm tx n args).formed = F at *
 rw [exAgg_mk]
 clear hS
 cases hf : hasFv op nm tx n args.length with
 | false =>
  have hF : F = false := by rw [hfe.out, hf]; rfl
  subst hF
  clear hfe hK
  go_enter Tryz.func69, Tryz.ntmps69
  go_wp2_with fail
  refine (part_any op nm tx n q args.length cp _ hz1 hz2).mono ?_
  rintro e w1 ⟨rfl, hE1⟩
  rw [hf]
  clear hf
  have hE : Ext w' w1 := Ext.trans xt hE1
  clear hE1
  go_wp2
  go_ret
  exact ⟨rfl, hE⟩
 | true =>
  have hF : F = args.all Ex.formed := by rw [hfe.out, hf]; rfl
  replace hF := Lib.hid hF
  clear hfe
  go_enter Tryz.func69, Tryz.ntmps69
  go_wp2_with fail
  have hb0 := (Blk.new w' #[.int .i64 op, .string nm, .string tx, .int .i64 n, .slice q args.length cp] 40)
  refine (part_any op nm tx n q args.length cp _ hz1 hz2).mono ?_
  rintro e w1 ⟨rfl, hE1⟩
  rw [hf]
  clear hf
  replace hb0 := Lib.hid (hb0.ext hE1)
  have hE0 : Ext w' w1 := Ext.trans xt hE1
  clear hE1
  go_wp2_with fail
  go_loopw [3] (fun i wr => ∃ k : Nat, k ≤ args.length ∧ i = .int .i64 k ∧ (args.take k).all Ex.formed = true ∧ Ext w1 wr) (fun i _ => args.length - (intOf i).toNat)
  case atStart => exact ⟨0, Nat.zero_le _, rfl, rfl, Ext.refl _⟩
  case round =>
   obtain ⟨k, hk, rfl, hd, hEr⟩ := hrel
   have x4 : wr.cell? ⟨w'.heap.size, 4, none⟩ = some (.slice q args.length cp) := ((hb0.out.ext hEr).cell 4).trans rfl
   by_cases hlt : k < args.length
   · obtain ⟨b, off, rfl, sv, hkid⟩ := hK.out _ _ rfl (by omega)
     obtain ⟨hc, hsu, hP⟩ := hkid k hlt
     have hform := hsu.form
     have hEw := hE.trans (hE0.trans hEr)
     obtain ⟨c0, c1, c2, c3, c4⟩ := (hc.ext hEw).five
     have hsn := Lib.hid (all_snocD Ex.formed args exD k hlt)
     have hbd := Lib.hid (all_badD Ex.formed args exD k hlt)
     replace hP := Lib.hid (hP (hkk.out k hlt))
     replace hd := Lib.hid hd
     clear hc hkid hsu
     generalize args.getD k exD = y at *
     generalize sv k = u at *
     obtain ⟨uq, uc, rfl⟩ := hform
     go_wp2_with fail
     refine (hP.out _ hEw).mono ?_
     rintro e w2 ⟨rfl, hE1⟩
     have hE2 := hEr.trans hE1
     clear hE1 c0 c1 c2 c3 c4 x4 hEr hEw
     cases hy : y.formed with
     | false =>
      have hR := Lib.hid (show F = false by rw [hF.out, hbd.out hy])
      clear hy hbd hsn
      go_wp2
      go_ret
      exact ⟨ret_boolE hR.out.symm, hE0.trans hE2⟩
     | true =>
      have hR := Lib.hid (show (args.take (k + 1)).all Ex.formed = true by rw [hsn.out, hd.out, hy]; rfl)
      clear hy hbd hsn
      go_wp2
      go_roundw
      case rel => exact ⟨k + 1, by omega, by go_num, hR.out, hE2⟩
      case measure => simp [intOf]; omega
   · have hk2 : args.take k = args := List.take_of_length_le (by omega)
     rw [hk2] at hd
     have hR := Lib.hid (show F = true by rw [hF.out, hd])
     clear hk2 hd
     go_wp2
     go_ret
     exact ⟨ret_boolE hR.out.symm, hE0.trans hEr⟩
/-- The levels are at most the parts. -/
theorem levels_parts : ∀ x : Ex, x.levels ≤ x.parts.length
 | .mk op nm tx n args => by
  have key : ∀ l : List Ex, (∀ y ∈ l, y.levels ≤ y.parts.length) → Ex.levels.levelsL l ≤ (Ex.parts.partsL l).length := by
   intro l
   induction l with
   | nil => intro _; simp [Ex.levels.levelsL]
   | cons y r ih =>
    intro h
    have h1 := h y List.mem_cons_self
    have h2 := ih fun z hz => h z (List.mem_cons_of_mem _ hz)
    simp only [Ex.levels.levelsL, Ex.parts.partsL, List.length_append]
    omega
  rw [levels_eq, parts_mk, List.length_cons]
  have := key args fun y hy => levels_parts y
  simp only [Ex.args]
  omega
theorem find_at {l : List Feat} {nm : ByteArray} : ∀ {k : Nat}, (∀ j, j < k → (l.getD j fD).name ≠ nm) → k < l.length → (l.getD k fD).name = nm → findN l nm = some (l.getD k fD) := by
 induction l with
 | nil => intro k _ h; simp at h
 | cons f r ih =>
  intro k h hk he
  unfold findN
  rw [List.find?_cons]
  cases k with
  | zero =>
   have : f.name = nm := by simpa using he
   simp [this]
  | succ k =>
   have h0 : f.name ≠ nm := by simpa using h 0 (by omega)
   rw [decide_eq_false h0]
   have := ih (k := k) (fun j hj => by simpa using h (j + 1) (by omega)) (by simpa using hk) (by simpa using he)
   unfold findN at this
   simpa using this
theorem find_no {l : List Feat} {nm : ByteArray} (h : ∀ j, j < l.length → (l.getD j fD).name ≠ nm) : findN l nm = none := by
 unfold findN
 rw [List.find?_eq_none]
 intro f hf
 obtain ⟨i, hi, rfl⟩ := List.getElem_of_mem hf
 have := h i hi
 rw [List.getD_eq_getElem?_getD, List.getElem?_eq_getElem hi, Option.getD_some] at this
 simpa using this
/-- What find leaves: its result, and the cell that held it. -/
def FindP (o : Option Feat) (w : World) (e : Ending) (w' : World) : Prop := e = .returned (.tuple #[.agg #[.string (o.getD fD).name, .int .i64 (o.getD fD).kind, .int .i64 (o.getD fD).n, .string (o.getD fD).text], .bool o.isSome]) ∧ w' = w.alloc (.cells #[.string (o.getD fD).name, .int .i64 (o.getD fD).kind, .int .i64 (o.getD fD).n, .string (o.getD fD).text] 62)
theorem findP_s {R : Option Feat} {f : Feat} (hR : R = some f) {w w' : World} {e : Ending} (he : e = .returned (.tuple #[.agg #[.string f.name, .int .i64 f.kind, .int .i64 f.n, .string f.text], .bool true])) (hw : w' = w.alloc (.cells #[.string f.name, .int .i64 f.kind, .int .i64 f.n, .string f.text] 62)) : FindP R w e w' := by subst hR; exact ⟨he, hw⟩
theorem findP_n {R : Option Feat} (hR : R = none) {w w' : World} {e : Ending} (he : e = .returned (.tuple #[.agg #[.string ⟨#[]⟩, .int .i64 0, .int .i64 0, .string ⟨#[]⟩], .bool false])) (hw : w' = w.alloc (.cells #[.string ⟨#[]⟩, .int .i64 0, .int .i64 0, .string ⟨#[]⟩] 62)) : FindP R w e w' := by subst hR; exact ⟨he, hw⟩
set_option maxRecDepth 8000 in
set_option maxHeartbeats 2000000 in
theorem rfind_ex (w : World) (v : Value) (l : List Feat) (nm : ByteArray) (hF : Feats w v l) : Calls Tryz.prog 111 #[v, .string nm] w (FindP (findN l nm) w) := by
 obtain ⟨p, c, rfl⟩ := hF.form
 have hlen := hF.1
 obtain ⟨R, hR⟩ : ∃ R, R = findN l nm := ⟨_, rfl⟩
 rw [← hR]
 have hat := Lib.hid (fun k a b c => hR.trans (find_at (l := l) (nm := nm) (k := k) a b c))
 have hno := Lib.hid (fun h => hR.trans (find_no (l := l) (nm := nm) h))
 clear hR
 replace hF := Lib.hid hF
 go_enter Tryz.func111, Tryz.ntmps111
 go_wp2
 go_loop [6] (fun i => ∃ k : Nat, k ≤ l.length ∧ i = .int .i64 k ∧ ∀ j, j < k → (l.getD j fD).name ≠ nm) (fun i => l.length - (intOf i).toNat)
 case atStart => exact ⟨0, Nat.zero_le _, rfl, fun j hj => absurd hj (by omega)⟩
 case round =>
  obtain ⟨k, hk, rfl, hall⟩ := hrel
  replace hall := Lib.hid hall
  by_cases hlt : k < l.length
  · obtain ⟨b, off, rfl, hc⟩ := hF.out.at (by omega)
    obtain ⟨c0, c1, c2, c3⟩ := hc k hlt
    have bl : b < w.heap.size := cell_lt c0
    have hgood := Lib.hid (fun e => hat.out k hall.out hlt e)
    have hnext : (l.getD k fD).name ≠ nm → ∀ j, j < k + 1 → (l.getD j fD).name ≠ nm := fun e j hj => by
     by_cases ej : j = k
     · subst ej; exact e
     · exact hall.out j (by omega)
    replace hnext := Lib.hid hnext
    clear hc
    generalize l.getD k fD = f at *
    by_cases he : f.name = nm
    · have d := strEq he
      have hR := Lib.hid (hgood.out he)
      clear he hgood hnext hat hno
      go_wp2
      exact bodyPost_ret (v := .tuple #[.agg #[.string f.name, .int .i64 f.kind, .int .i64 f.n, .string f.text], .bool true]) (by simp [results, Tryz.results111, go_sem]) rfl (findP_s hR.out rfl rfl)
    · have d := strNe he
      have hn := Lib.hid (hnext.out he)
      clear he hgood hnext hat hno
      go_wp2
      go_round
      case rel => exact ⟨k + 1, by omega, by go_num, hn.out⟩
      case measure => simp [intOf]; omega
  · have hR := Lib.hid (hno.out (fun j hj => hall.out j (by omega)))
    clear hat hno
    go_wp2
    exact bodyPost_ret (v := .tuple #[.agg #[.string ⟨#[]⟩, .int .i64 0, .int .i64 0, .string ⟨#[]⟩], .bool false]) (by simp [results, Tryz.results111, go_sem]) rfl (findP_n hR.out rfl rfl)
theorem rfind_any (w : World) (v : Value) (l : List Feat) (nm : ByteArray) (hF : Feats w v l) : Calls Tryz.prog 111 #[v, .string nm] w (OptF (findN l nm) w) := (rfind_ex w v l nm hF).mono fun e w' ⟨he, hw⟩ => ⟨he, by rw [hw]; exact (Ext.refl _).alloc _⟩
end Go.Proofs.YtangdoidkcelfaaGreatDoor
namespace Go.Proofs.YtangdoidkcelfaaGreatDoor
open Go.RowKit
theorem Feats.take {w : World} {p : Option Addr} {c : Nat} {l : List Feat} (h : Feats w (.slice p l.length c) l) {k : Nat} (hk : k ≤ l.length) : Feats w (.slice p k c) (l.take k) := by
 have hl : (l.take k).length = k := by rw [List.length_take]; omega
 by_cases h0 : k = 0
 · subst h0
   exact ⟨by simp, Or.inl ⟨p, c, rfl, by simp⟩⟩
 · obtain ⟨b, off, rfl, hat⟩ := h.at (by omega)
   refine ⟨by rw [hl]; have := h.1; omega, Or.inr ⟨b, off, c, by rw [hl], fun i hi => ?_⟩⟩
   rw [hl] at hi
   have e : (l.take k).getD i fD = l.getD i fD := by
    simp only [List.getD_eq_getElem?_getD]
    rw [List.getElem?_take_of_lt hi]
   rw [e]
   exact hat i (by omega)
set_option maxRecDepth 8000 in
set_option maxHeartbeats 8000000 in
theorem rvalid_any (w : World) (p : Option Addr) (c : Nat) (l : List Feat) (hF : Feats w (.slice p l.length c) l) (hcap : l.length ≤ c) (hs : ∀ i, i < l.length → (l.getD i fD).name.size ≤ 140737488355328) : Calls Tryz.prog 67 #[.slice p l.length c] w (OneV (.int .i64 (namesE [] l)) w) := by
 have hlen := hF.1
 obtain ⟨R, hR⟩ : ∃ R, R = namesE [] l := ⟨_, rfl⟩
 rw [← hR]
 replace hF := Lib.hid hF
 replace hs := Lib.hid hs
 go_enter Tryz.func67, Tryz.ntmps67
 go_wp2_with fail
 go_loopw [3] (fun i wr => ∃ k : Nat, k ≤ l.length ∧ i = .int .i64 k ∧ R = namesE (l.take k) (l.drop k) ∧ Ext w wr) (fun i _ => l.length - (intOf i).toNat)
 case atStart => exact ⟨0, Nat.zero_le _, rfl, hR, Ext.refl _⟩
 case round =>
  clear hR
  obtain ⟨k, hk, rfl, hR, hEr⟩ := hrel
  by_cases hlt : k < l.length
  · have hkc : k ≤ c := by omega
    rw [names_step l k hlt] at hR
    have kf := Lib.hid (fun w2 (h : Ext w w2) => rfind_ex w2 (.slice p k c) (l.take k) (l.getD k fD).name ((hF.out.take hk).ext h))
    obtain ⟨b, off, rfl, hat⟩ := hF.out.at (by omega)
    obtain ⟨c0, c1, c2, c3⟩ := hat k hlt
    replace c0 := hEr.get c0
    replace c1 := hEr.get c1
    replace c2 := hEr.get c2
    replace c3 := hEr.get c3
    have kN := Lib.hid (fun w2 => risName_any (l.getD k fD).name w2 (hs.out k hlt))
    have hnx := Lib.hid (show l.take (k + 1) = l.take (k + 1) from rfl)
    clear hat hnx
    generalize l.getD k fD = f at *
    generalize findN (l.take k) f.name = D at *
    unfold FindP at kf
    generalize D.getD fD = g at *
    generalize D.isSome = fb at *
    replace hR := Lib.hid hR
    have bl : b < wr.heap.size := cell_lt c0
    go_wp2_with fail
    refine (kN.out _).mono ?_
    rintro e w1 ⟨rfl, hE1⟩
    have hB := (Blk.new wr #[.string f.name, .int .i64 f.kind, .int .i64 f.n, .string f.text] 62).ext hE1
    have hE : Ext w w1 := hEr.trans (Ext.trans ((Ext.refl _).alloc _) hE1)
    have x0 : w1.cell? ⟨wr.heap.size, 0, none⟩ = some (.string f.name) := (hB.cell 0).trans rfl
    have x1 : w1.cell? ⟨wr.heap.size, 1, none⟩ = some (.int .i64 f.kind) := (hB.cell 1).trans rfl
    have x2 : w1.cell? ⟨wr.heap.size, 2, none⟩ = some (.int .i64 f.n) := (hB.cell 2).trans rfl
    clear c0 c1 c2 c3 hE1 kN bl hB hEr
    cases hn : nameB f.name with
    | false =>
     have hR5 := Lib.hid (show R = 5 by rw [hR.out, if_pos (by unfold featE; rw [if_pos hn]; decide)]; unfold featE; rw [if_pos hn])
     clear hn hR kf
     go_wp2
     go_ret
     exact ⟨by rw [hR5.out]; rfl, hE⟩
    | true =>
     have hfe := Lib.hid (show featE f = if f.kind = 2 ∨ (f.kind = 1 ∧ nbrB f.n = true) ∨ (f.kind = 3 ∧ (f.n = 0 ∨ f.n = 1)) then 0 else 4 by unfold featE; rw [if_neg (by rw [hn]; simp)])
     have hbad : featE f = 4 → R = 4 := fun h => by rw [hR.out, if_pos (by rw [h]; decide), h]
     have hgood : featE f = 0 → R = if fb then 7 else namesE (l.take (k + 1)) (l.drop (k + 1)) := fun h => by rw [hR.out, if_neg (by rw [h]; simp)]
     replace hbad := Lib.hid hbad
     replace hgood := Lib.hid hgood
     clear hn hR
     by_cases q1 : f.kind < 1
     · skip
       have d1 : decide (f.kind < 1) = true := decide_eq_true q1
       have hR4 := Lib.hid (hbad.out (by rw [hfe.out, if_neg (by omega)]))
       clear hfe hbad hgood kf
       go_wp2
       go_ret
       exact ⟨by rw [hR4.out]; rfl, hE⟩
     · have d1 : decide (f.kind < 1) = false := decide_eq_false q1
       by_cases q2 : 3 < f.kind
       · skip
         have d2 : decide (3 < f.kind) = true := decide_eq_true q2
         have hR4 := Lib.hid (hbad.out (by rw [hfe.out, if_neg (by omega)]))
         clear hfe hbad hgood kf
         go_wp2
         go_ret
         exact ⟨by rw [hR4.out]; rfl, hE⟩
       · have d2 : decide (3 < f.kind) = false := decide_eq_false q2
         by_cases q3 : f.kind = 3
         · have d3 : (f.kind == 3) = true := by simpa using q3
           have d4 : (f.kind == 1) = false := by simp; omega
           by_cases n0 : f.n = 0
           · skip
             have e0 : (f.n != 0) = false := by simpa using n0
             clear q1 q2
             have hR0 := Lib.hid (hgood.out (by rw [hfe.out, if_pos (by omega)]))
             clear hfe hbad hgood
             go_wp2_with fail
             have hE0 := hE
             clear hE x1 x2
             have hwl : wr.heap.size < w1.heap.size := cell_lt x0
             have hw1 : w.heap.size ≤ w1.heap.size := hE0.size
             go_region_with (go_at_call 111; refine (kf.out _ (by repeat (first | with_reducible exact hE0 | with_reducible refine Ext.alloc ?_ _ | with_reducible refine Ext.drew ?_))).mono ?_; rintro e w6 ⟨rfl, rfl⟩)
             all_goals cases fb
             all_goals go_wp2
             all_goals first
              | (go_ret; exact ⟨by rw [hR0.out]; rfl, xt⟩)
              | (go_roundw; all_goals first | exact ⟨k + 1, by omega, by go_num, hR0.out.trans (if_neg (by simp)), xt⟩ | (simp [intOf]; omega))
           · have e0 : (f.n != 0) = true := by simpa using n0
             by_cases n1 : f.n = 1
             · skip
               have e1 : (f.n != 1) = false := by simpa using n1
               clear q1 q2
               have hR0 := Lib.hid (hgood.out (by rw [hfe.out, if_pos (by omega)]))
               clear hfe hbad hgood
               go_wp2_with fail
               have hE0 := hE
               clear hE x1 x2
               have hwl : wr.heap.size < w1.heap.size := cell_lt x0
               have hw1 : w.heap.size ≤ w1.heap.size := hE0.size
               go_region_with (go_at_call 111; refine (kf.out _ (by repeat (first | with_reducible exact hE0 | with_reducible refine Ext.alloc ?_ _ | with_reducible refine Ext.drew ?_))).mono ?_; rintro e w6 ⟨rfl, rfl⟩)
               all_goals cases fb
               all_goals go_wp2
               all_goals first
                | (go_ret; exact ⟨by rw [hR0.out]; rfl, xt⟩)
                | (go_roundw; all_goals first | exact ⟨k + 1, by omega, by go_num, hR0.out.trans (if_neg (by simp)), xt⟩ | (simp [intOf]; omega))
             · skip
               have e1 : (f.n != 1) = true := by simpa using n1
               clear q1 q2
               have hR4 := Lib.hid (hbad.out (by rw [hfe.out, if_neg (by omega)]))
               clear hfe hbad hgood kf
               go_wp2
               go_ret
               exact ⟨by rw [hR4.out]; rfl, hE⟩
         · have d3 : (f.kind == 3) = false := by simpa using q3
           by_cases q4 : f.kind = 1
           · have d4 : (f.kind == 1) = true := by simpa using q4
             clear q1 q2
             cases hnb : nbrB f.n with
             | false =>
              have hR4 := Lib.hid (hbad.out (by rw [hfe.out, if_neg (by rw [hnb]; simp; omega)]))
              clear hfe hbad hgood kf
              go_wp2_with fail
              refine (rnumber_any f.n _).mono ?_
              rintro e w2 ⟨rfl, rfl⟩
              rw [hnb]
              go_wp2
              go_ret
              exact ⟨by rw [hR4.out]; rfl, hE⟩
             | true =>
              skip
              have hR0 := Lib.hid (hgood.out (by rw [hfe.out, if_pos (by exact Or.inr (Or.inl ⟨q4, hnb⟩))]))
              clear hfe hbad hgood
              go_wp2_with fail
              refine (rnumber_any f.n _).mono ?_
              rintro e w2 ⟨rfl, rfl⟩
              rw [hnb]
              clear hnb
              go_wp2_with fail
              have hE0 := hE
              clear hE x1 x2
              have hwl : wr.heap.size < w1.heap.size := cell_lt x0
              have hw1 : w.heap.size ≤ w1.heap.size := hE0.size
              go_region_with (go_at_call 111; refine (kf.out _ (by repeat (first | with_reducible exact hE0 | with_reducible refine Ext.alloc ?_ _ | with_reducible refine Ext.drew ?_))).mono ?_; rintro e w6 ⟨rfl, rfl⟩)
              all_goals cases fb
              all_goals go_wp2
              all_goals first
               | (go_ret; exact ⟨by rw [hR0.out]; rfl, xt⟩)
               | (go_roundw; all_goals first | exact ⟨k + 1, by omega, by go_num, hR0.out.trans (if_neg (by simp)), xt⟩ | (simp [intOf]; omega))
           · have d4 : (f.kind == 1) = false := by simpa using q4
             have q5 : f.kind = 2 := by omega
             clear q1 q2 q3 q4
             have hR0 := Lib.hid (hgood.out (by rw [hfe.out, if_pos (by exact Or.inl q5)]))
             clear hfe hbad hgood
             go_wp2_with fail
             have hE0 := hE
             clear hE x1 x2
             have hwl : wr.heap.size < w1.heap.size := cell_lt x0
             have hw1 : w.heap.size ≤ w1.heap.size := hE0.size
             go_region_with (go_at_call 111; refine (kf.out _ (by repeat (first | with_reducible exact hE0 | with_reducible refine Ext.alloc ?_ _ | with_reducible refine Ext.drew ?_))).mono ?_; rintro e w6 ⟨rfl, rfl⟩)
             all_goals cases fb
             all_goals go_wp2
             all_goals first
              | (go_ret; exact ⟨by rw [hR0.out]; rfl, xt⟩)
              | (go_roundw; all_goals first | exact ⟨k + 1, by omega, by go_num, hR0.out.trans (if_neg (by simp)), xt⟩ | (simp [intOf]; omega))
  · have hk2 : k = l.length := by omega
    have hd : l.drop k = [] := by rw [hk2]; exact List.drop_length
    rw [hd] at hR
    have hR0 := Lib.hid (show R = 0 by rw [hR]; rfl)
    clear hR hd hk2
    go_wp2
    go_ret
    exact ⟨by rw [hR0.out]; rfl, hEr⟩
end Go.Proofs.YtangdoidkcelfaaGreatDoor
