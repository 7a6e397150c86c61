/- Contracts of the package wire's small functions (walks). -/
import Derived.Test.YthokhncdpfaifaaGreatDoorBase
import Derived.WalkKit
import Derived.WalkSpells
import Derived.WalkLawsBesides
import Derived.LoopTactic
import Derived.Outline
import Derived.BigQuiet
import Derived.Deep.QuietTactic
import Derived.Lib.Hide
namespace Go.Proofs.YthokhncdpfaifaaGreatDoor
open Go.RowKit

def digB (c : UInt8) : Bool := decide (48 ≤ c.toNat) && decide (c.toNat ≤ 57)
def numL (l : List UInt8) : Int := l.foldl (fun n c => 10 * n + ((c.toNat : Int) - 48)) 0

theorem numL_snoc (l : List UInt8) (c : UInt8) : numL (l ++ [c]) = 10 * numL l + ((c.toNat : Int) - 48) := by
  simp [numL, List.foldl_append]
theorem take_snoc (s : ByteArray) (k : Nat) (h : k < s.size) : s.data.toList.take (k + 1) = s.data.toList.take k ++ [s[k]] := by
  rw [List.take_succ_eq_append_getElem (by simpa using h)]; rfl

theorem numL_bd (l : List UInt8) (h : l.all digB = true) : 0 ≤ numL l ∧ numL l < 10 ^ l.length := by
  have key : ∀ (n : Nat) (l : List UInt8), l.length = n → l.all digB = true → 0 ≤ numL l ∧ numL l < 10 ^ n := by
    intro n
    induction n with
    | zero => intro l hl _; rw [List.length_eq_zero_iff.1 hl]; simp [numL]
    | succ n ih =>
      intro l hl h
      obtain ⟨i, c, rfl⟩ : ∃ i c, l = i ++ [c] := ⟨l.dropLast, l.getLast (by intro e; simp [e] at hl), (List.dropLast_concat_getLast _).symm⟩
      simp only [List.all_append, List.all_cons, List.all_nil, Bool.and_true, Bool.and_eq_true] at h
      have := ih i (by simpa using hl) h.1
      have hc : 48 ≤ c.toNat ∧ c.toNat ≤ 57 := by simpa [digB] using h.2
      rw [numL_snoc, Int.pow_succ]
      omega
  exact key _ l rfl h
theorem numL_bd15 (l : List UInt8) (h : l.all digB = true) (hl : l.length ≤ 15) : 0 ≤ numL l ∧ numL l ≤ 1000000000000000 := by
  have := numL_bd l h
  have h2 : (10 : Int) ^ l.length ≤ 10 ^ 15 := by
    have : (10 : Nat) ^ l.length ≤ 10 ^ 15 := Nat.pow_le_pow_right (by omega) hl
    exact_mod_cast this
  omega

def NumP (s : ByteArray) (n : Int) (ok : Bool) : Prop := ok = s.data.toList.all digB ∧ n = if ok then numL s.data.toList else 0
def NumPost (s : ByteArray) (w : World) (e : Ending) (w' : World) : Prop := ∃ n ok, e = .returned (.tuple #[.int .i64 n, .bool ok]) ∧ NumP s n ok ∧ w = w'

theorem all_take_snoc (s : ByteArray) (k : Nat) (h : k < s.size) : (s.data.toList.take (k + 1)).all digB = ((s.data.toList.take k).all digB && digB s[k]) := by
  rw [take_snoc s k h]; simp
theorem all_of_bad (s : ByteArray) (k : Nat) (h : k < s.size) (hc : digB s[k] = false) : s.data.toList.all digB = false := by
  rw [List.all_eq_false]
  exact ⟨s[k], by simp [ByteArray.getElem_eq_getElem_data], by simp [hc]⟩

set_option maxHeartbeats 400000 in
theorem numberOf_any (s : ByteArray) (w : World) (hs : s.size ≤ 15) :
    Calls Tryz.prog 114 #[.string s] w (NumPost s w) := by
  go_enter Tryz.func114, Tryz.ntmps114
  go_wp2
  go_loop [4, 8] (fun n i => ∃ k : Nat, k ≤ s.size ∧ i = .int .i64 k ∧ n = .int .i64 (numL (s.data.toList.take k)) ∧ (s.data.toList.take k).all digB = true) (fun _ i => s.size - (intOf i).toNat)
  case atStart => exact ⟨0, Nat.zero_le _, rfl, rfl, rfl⟩
  case round =>
    obtain ⟨k, hk, rfl, rfl, hall⟩ := hrel
    have hl : (s.data.toList.take k).length ≤ k := List.length_take_le _ _
    have hb := numL_bd15 _ hall (by omega)
    have hH := Lib.hid hall
    clear hall
    by_cases hlt : k < s.size
    · go_wp2
      · go_ret2
        exact ⟨0, false, rfl, ⟨(all_of_bad s k hlt (by simp [digB]; omega)).symm, rfl⟩, rfl⟩
      · go_round
        case rel => exact ⟨k + 1, by omega, by go_num, by rw [take_snoc s k hlt, numL_snoc], by rw [all_take_snoc s k hlt, hH.out]; simp [digB]; omega⟩
        case measure => simp [intOf]; omega
      · go_ret2
        exact ⟨0, false, rfl, ⟨(all_of_bad s k hlt (by simp [digB]; omega)).symm, rfl⟩, rfl⟩
    · go_wp2
      go_ret2
      have hk' : s.data.toList.take k = s.data.toList := List.take_of_length_le (by simp; omega)
      have hA := hH.out; rw [hk'] at hA ⊢
      exact ⟨_, true, rfl, ⟨hA.symm, rfl⟩, rfl⟩

def prB (c : UInt8) : Bool := decide (32 ≤ c.toNat) && decide (c.toNat ≤ 126)
theorem all_take_snocP (p : UInt8 → Bool) (s : ByteArray) (k : Nat) (h : k < s.size) : (s.data.toList.take (k + 1)).all p = ((s.data.toList.take k).all p && p s[k]) := by
  rw [take_snoc s k h]; simp
theorem all_of_badP (p : UInt8 → Bool) (s : ByteArray) (k : Nat) (h : k < s.size) (hc : p s[k] = false) : s.data.toList.all p = false := by
  rw [List.all_eq_false]
  exact ⟨s[k], by simp [ByteArray.getElem_eq_getElem_data], by simp [hc]⟩
def allS (p : UInt8 → Bool) (s : ByteArray) : Bool := s.data.toList.all p
theorem ret_bool {a b : Bool} (h : a = b) : Ending.returned (.bool a) = .returned (.bool b) := by rw [h]

set_option maxHeartbeats 400000 in
theorem isPrintable_any (s : ByteArray) (w : World) (hs : s.size ≤ 1000000) :
    Calls Tryz.prog 99 #[.string s] w fun e w' => e = .returned (.bool (allS prB s)) ∧ w = w' := by
  go_enter Tryz.func99, Tryz.ntmps99
  go_wp2
  go_loop [6] (fun i => ∃ k : Nat, k ≤ s.size ∧ i = .int .i64 k ∧ (s.data.toList.take k).all prB = true) (fun i => s.size - (intOf i).toNat)
  case atStart => exact ⟨0, Nat.zero_le _, rfl, rfl⟩
  case round =>
    obtain ⟨k, hk, rfl, hall⟩ := hrel
    have hH := Lib.hid hall
    clear hall
    by_cases hlt : k < s.size
    · go_wp2
      · go_ret
        exact ⟨ret_bool (all_of_badP prB s k hlt (by simp [prB]; omega)).symm, rfl⟩
      · go_round
        case rel => exact ⟨k + 1, by omega, by go_num, by rw [all_take_snocP prB s k hlt, hH.out]; simp [prB]; omega⟩
        case measure => simp [intOf]; omega
      · go_ret
        exact ⟨ret_bool (all_of_badP prB s k hlt (by simp [prB]; omega)).symm, rfl⟩
    · go_wp2
      go_ret
      have hk' : s.data.toList.take k = s.data.toList := List.take_of_length_le (by simp; omega)
      have hA := hH.out; rw [hk'] at hA
      exact ⟨ret_bool hA.symm, rfl⟩

theorem repeatL_one (c : UInt8) (n : Nat) : Lib.repeatL [c] n = List.replicate n c := by
  induction n with
  | zero => rfl
  | succ n ih => simp [Lib.repeatL, ih, List.replicate_succ]

def PadPost (n : Int) (width : Int) (w : World) (e : Ending) (w' : World) : Prop :=
  (width < (Lib.itoa n).length ∧ e = .returned (.tuple #[.string ⟨#[]⟩, .bool false]) ∧ Ext w w') ∨
  ((Lib.itoa n).length ≤ width ∧ ∃ r : ByteArray, r.data.toList = List.replicate (width - (Lib.itoa n).length).toNat 48 ++ Lib.itoa n ∧ e = .returned (.tuple #[.string r, .bool true]) ∧ Ext w w')

set_option maxHeartbeats 400000 in
theorem padded_any (n width : Int) (w : World) (g : Gl w) (h0 : 0 ≤ n) (h1 : n ≤ 1000000000000000000) (hw0 : 0 ≤ width) (hw1 : width ≤ 1000) :
    Calls Tryz.prog 98 #[.int .i64 n, .int .i64 width] w (PadPost n width w) := by
  have hp := Lib.hid g.pow
  go_enter Tryz.func98, Tryz.ntmps98
  go_wp2_with (go_at_call 124; refine (Tryz.strconv_FormatInt_10 _ (by omega) (by omega) _ hp.out).mono ?_; rintro e w1 ⟨rfl, k, os, rfl⟩)
  · go_ret2
    exact Or.inl ⟨by assumption, rfl, ((Ext.refl w).drewN _).grow _⟩
  · obtain ⟨c, hc⟩ := Int.eq_ofNat_of_zero_le (show 0 ≤ width - (Lib.itoa n).length by omega)
    have hC := Lib.hid hc
    rw [hc]
    clear hc
    refine (Tryz.strings_Repeat _ c _ (by have := hC.out; omega) (by have := hC.out; simp [ByteArray.size]; omega)).mono ?_
    rintro e w1 ⟨rfl, hb⟩
    have hE : Ext w w1 := (((Ext.refl w).drewN _).grow _).trans hb
    clear hb
    have hl : (Lib.repeatL [48] c).length ≤ 1000 := by have := hC.out; rw [repeatL_one, List.length_replicate]; omega
    go_wp2
    go_ret2
    have hc := hC.out
    refine Or.inr ⟨by assumption, _, ?_, rfl, hE⟩
    rw [hc, repeatL_one]
    simp
end Go.Proofs.YthokhncdpfaifaaGreatDoor
