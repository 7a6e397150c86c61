/- Contracts of the package bitmap: place, clean, Set, Count (walks). -/
import Derived.Test.YthokhncdpfaifaaGreatDoorBase
import Derived.Test.YthokhncdpfaifaaGreatDoorBits
import Derived.Outline
import Derived.BigQuiet
import Derived.Deep.QuietTactic
import Derived.Deep.RegionWith
namespace Go.Proofs.YthokhncdpfaifaaGreatDoor
open Go.RowKit

theorem tup2 {a b c d : Value} (h1 : a = c) (h2 : b = d) : Ending.returned (.tuple #[a, b]) = .returned (.tuple #[c, d]) := by rw [h1, h2]
theorem u64_eq {a b : Int} (h : a = b) : Value.int .u64 a = .int .u64 b := by rw [h]
theorem i64_eq {a b : Int} (h : a = b) : Value.int .i64 a = .int .i64 b := by rw [h]

set_option maxHeartbeats 400000 in
theorem place_lo (n : Nat) (w : World) (h1 : 2 ≤ n) (h2 : n ≤ 64) :
    Calls Tryz.prog 87 #[.int .i64 n] w fun e w' => e = .returned (.tuple #[.int .i64 0, .int .u64 (pw (64 - n))]) ∧ ∃ k, w' = w.drewN k := by
  go_enter Tryz.func87, Tryz.ntmps87
  go_wp2
  go_quiet (fail)
  go_wp2
  go_ret2
  refine ⟨tup2 (i64_eq (by omega)) (u64_eq ?_), _, rfl⟩
  rw [wrap_pw _ (by omega)]
  congr 2; omega
set_option maxHeartbeats 400000 in
theorem place_hi (n : Nat) (w : World) (h1 : 65 ≤ n) (h2 : n ≤ 128) :
    Calls Tryz.prog 87 #[.int .i64 n] w fun e w' => e = .returned (.tuple #[.int .i64 1, .int .u64 (pw (128 - n))]) ∧ ∃ k, w' = w.drewN k := by
  go_enter Tryz.func87, Tryz.ntmps87
  go_wp2
  go_quiet (fail)
  go_wp2
  go_ret2
  refine ⟨tup2 (i64_eq (by omega)) (u64_eq ?_), _, rfl⟩
  rw [wrap_pw _ (by omega)]
  congr 2; omega

set_option maxHeartbeats 400000 in
theorem isNumber_yes (n : Int) (w : World) (h0 : 2 ≤ n) (h1 : n ≤ 128) :
    Calls Tryz.prog 103 #[.int .i64 n] w fun e w' => e = .returned (.bool true) ∧ w = w' := by
  go_enter Tryz.func103, Tryz.ntmps103
  go_wp2
  go_ret
  exact ⟨by simp, rfl⟩
set_option maxHeartbeats 400000 in
theorem isNumber_no (n : Int) (w : World) (h : n < 2 ∨ 128 < n) :
    Calls Tryz.prog 103 #[.int .i64 n] w fun e w' => e = .returned (.bool false) ∧ w = w' := by
  by_cases a : n < 2
  · go_enter Tryz.func103, Tryz.ntmps103
    go_wp2
    go_ret
    exact ⟨rfl, rfl⟩
  · have b : 128 < n := by omega
    go_enter Tryz.func103, Tryz.ntmps103
    go_wp2
    go_ret
    exact ⟨by simp; omega, rfl⟩

def AggPost (a b : Nat) (w : World) (e : Ending) (w' : World) : Prop := e = .returned (.agg #[.int .u64 a, .int .u64 b]) ∧ ∃ o1 o2, w' = (w.alloc (.cells o1 61)).alloc (.cells o2 61)
set_option maxHeartbeats 400000 in
theorem clean_any (a b : Nat) (w : World) (ha : Wd a) (_hb : Wd b) :
    Calls Tryz.prog 77 #[.agg #[.int .u64 a, .int .u64 b]] w (AggPost (clr a) b w) := by
  have hc := bits_clr a ha
  go_enter Tryz.func77, Tryz.ntmps77
  go_wp2
  exact bodyPost_ret (v := .agg #[.int .u64 (clr a), .int .u64 b]) (by simp [results, Tryz.results77, go_sem]) rfl ⟨rfl, _, _, rfl⟩

theorem ones_key (x : Int) : ∃ c : Nat, c ≤ 127 ∧ Ending.returned (.int .i64 (bits .and .i64 x 127)) = .returned (.int .i64 c) := by
  obtain ⟨c, h, e⟩ := and_i64 x
  exact ⟨c, h, by rw [e]⟩
set_option maxHeartbeats 400000 in
theorem onesCount_any (x : Int) (w : World) :
    Calls Tryz.prog 111 #[.int .u64 x] w fun e w' => (∃ c : Nat, c ≤ 127 ∧ e = .returned (.int .i64 c)) ∧ w = w' := by
  go_enter Tryz.func111, Tryz.ntmps111
  go_wp2
  go_ret
  exact ⟨ones_key _, rfl⟩

def bset (a b n : Nat) : Nat × Nat := if n ≤ 64 then (clr a ||| pw (64 - n), b) else (clr a, b ||| pw (128 - n))
theorem Wd_bset (a b n : Nat) (hb : Wd b) (h1 : 2 ≤ n) (h2 : n ≤ 128) : Wd (bset a b n).1 ∧ Wd (bset a b n).2 := by
  unfold bset
  split
  · exact ⟨Wd_or (Wd_clr a) (Wd_pw _ (by omega)), hb⟩
  · exact ⟨Wd_clr a, Wd_or hb (Wd_pw _ (by omega))⟩
def SetPost (a b : Nat) (w : World) (e : Ending) (w' : World) : Prop := e = .returned (.tuple #[.agg #[.int .u64 a, .int .u64 b], .int .i64 0]) ∧ Ext w w'
set_option maxHeartbeats 400000 in
theorem set_lo (a b n : Nat) (w : World) (ha : Wd a) (hb : Wd b) (h1 : 2 ≤ n) (h2 : n ≤ 64) :
    Calls Tryz.prog 72 #[.agg #[.int .u64 a, .int .u64 b], .int .i64 n] w (SetPost (bset a b n).1 (bset a b n).2 w) := by
  have ho := Lib.hid (bits_or (clr a) (pw (64 - n)) (Wd_clr a) (Wd_pw _ (by omega)))
  go_enter Tryz.func72, Tryz.ntmps72
  go_wp2_with (first | (go_at_call 103; refine (isNumber_yes _ _ (by omega) (by omega)).mono ?_; rintro e w1 ⟨rfl, rfl⟩) | (go_at_call 87; refine (place_lo n _ h1 h2).mono ?_; rintro e w1 ⟨rfl, k1, rfl⟩; simp only [alloc_drewN]; generalize hw0 : w.drewN k1 = w0; obtain ⟨hz, hE0⟩ := draw_eq hw0; rw [hz]; clear hw0 hz))
  refine (clean_any a b _ ha hb).mono ?_
  rintro e w1 ⟨rfl, o1, o2, rfl⟩
  have ho := ho.out
  go_wp2
  exact bodyPost_ret (v := .tuple #[.agg #[.int .u64 (bset a b n).1, .int .u64 (bset a b n).2], .int .i64 0]) (by simp [results, Tryz.results72, go_sem, bset, h2]) rfl ⟨rfl, (by repeat (first | with_reducible exact Ext.refl _ | with_reducible exact hE0 | with_reducible exact hE | with_reducible refine Ext.alloc ?_ _ | with_reducible refine Ext.drewN ?_ _ | with_reducible refine Ext.drew ?_ | ((with_reducible refine Ext.setCell ?_ ?side _); (case side => first | exact Nat.le_refl _ | (simp; done) | (simp; omega)))))⟩
set_option maxHeartbeats 400000 in
theorem set_hi (a b n : Nat) (w : World) (ha : Wd a) (hb : Wd b) (h1 : 65 ≤ n) (h2 : n ≤ 128) :
    Calls Tryz.prog 72 #[.agg #[.int .u64 a, .int .u64 b], .int .i64 n] w (SetPost (bset a b n).1 (bset a b n).2 w) := by
  have ho := Lib.hid (bits_or b (pw (128 - n)) hb (Wd_pw _ (by omega)))
  go_enter Tryz.func72, Tryz.ntmps72
  go_wp2_with (first | (go_at_call 103; refine (isNumber_yes _ _ (by omega) (by omega)).mono ?_; rintro e w1 ⟨rfl, rfl⟩) | (go_at_call 87; refine (place_hi n _ h1 h2).mono ?_; rintro e w1 ⟨rfl, k1, rfl⟩; simp only [alloc_drewN]; generalize hw0 : w.drewN k1 = w0; obtain ⟨hz, hE0⟩ := draw_eq hw0; rw [hz]; clear hw0 hz))
  refine (clean_any a b _ ha hb).mono ?_
  rintro e w1 ⟨rfl, o1, o2, rfl⟩
  have ho := ho.out
  go_wp2
  exact bodyPost_ret (v := .tuple #[.agg #[.int .u64 (bset a b n).1, .int .u64 (bset a b n).2], .int .i64 0]) (by simp [results, Tryz.results72, go_sem, bset, show ¬ n ≤ 64 by omega]) rfl ⟨rfl, (by repeat (first | with_reducible exact Ext.refl _ | with_reducible exact hE0 | with_reducible exact hE | with_reducible refine Ext.alloc ?_ _ | with_reducible refine Ext.drewN ?_ _ | with_reducible refine Ext.drew ?_ | ((with_reducible refine Ext.setCell ?_ ?side _); (case side => first | exact Nat.le_refl _ | (simp; done) | (simp; omega)))))⟩

theorem set_any (a b n : Nat) (w : World) (ha : Wd a) (hb : Wd b) (h1 : 2 ≤ n) (h2 : n ≤ 128) :
    Calls Tryz.prog 72 #[.agg #[.int .u64 a, .int .u64 b], .int .i64 n] w (SetPost (bset a b n).1 (bset a b n).2 w) := by
  by_cases h : n ≤ 64
  · exact set_lo a b n w ha hb h1 h
  · exact set_hi a b n w ha hb (by omega) h2
set_option maxHeartbeats 400000 in
theorem set_bad (a b : Nat) (n : Int) (w : World) (h : n < 2 ∨ 128 < n) :
    Calls Tryz.prog 72 #[.agg #[.int .u64 a, .int .u64 b], .int .i64 n] w fun e w' => e = .returned (.tuple #[.agg #[.int .u64 0, .int .u64 0], .int .i64 4]) ∧ Ext w w' := by
  go_enter Tryz.func72, Tryz.ntmps72
  go_wp2_with (go_at_call 103; refine (isNumber_no _ _ h).mono ?_; rintro e w1 ⟨rfl, rfl⟩)
  exact bodyPost_ret (v := .tuple #[.agg #[.int .u64 0, .int .u64 0], .int .i64 4]) (by simp [results, Tryz.results72, go_sem]) rfl ⟨rfl, ((Ext.refl w).alloc _).alloc _⟩
def CountPost (w : World) (e : Ending) (w' : World) : Prop := ∃ c : Nat, c ≤ 254 ∧ e = .returned (.int .i64 c) ∧ Ext w w'
set_option maxHeartbeats 400000 in
theorem count_any (a b : Nat) (w : World) (ha : Wd a) (hb : Wd b) :
    Calls Tryz.prog 86 #[.agg #[.int .u64 a, .int .u64 b]] w (CountPost w) := by
  go_enter Tryz.func86, Tryz.ntmps86
  go_wp2_with fail
  refine (clean_any a b _ ha hb).mono ?_
  rintro e w1 ⟨rfl, o1, o2, rfl⟩
  go_wp2_with (go_at_call 111; refine (onesCount_any _ _).mono ?_; rintro e w2 ⟨⟨c, hc, rfl⟩, rfl⟩)
  go_region_with (go_at_call 111; refine (onesCount_any _ _).mono ?_; rintro e w2 ⟨⟨c, hc, rfl⟩, rfl⟩)
  all_goals (go_wp2; go_ret)
  all_goals (rename_i c1 hc1; refine ⟨c1 + c, by omega, ?_, (by repeat (first | with_reducible exact Ext.refl _ | with_reducible exact hE0 | with_reducible exact hE | with_reducible refine Ext.alloc ?_ _ | with_reducible refine Ext.drewN ?_ _ | with_reducible refine Ext.drew ?_ | ((with_reducible refine Ext.setCell ?_ ?side _); (case side => first | exact Nat.le_refl _ | (simp; done) | (simp; omega)))))⟩; simp [Act.put, go_sem]; rw [IntKind.wrap_i64] <;> omega)
end Go.Proofs.YthokhncdpfaifaaGreatDoor
