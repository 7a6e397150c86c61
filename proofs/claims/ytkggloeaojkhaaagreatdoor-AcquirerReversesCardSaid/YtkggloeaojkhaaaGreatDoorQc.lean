/- Contracts of the package wire's small functions (walks). Contracts of wire.Var and wire.Alpha. Contracts of element.isOfKind and of the reference's digit and kind (walks). Written by gen/kind.py. Contracts of element.Find and element.ByName (walks). Contract of the reference's Dictionary (the kernel's own run). Contract of the reference's Find (walk). -/
import Derived.Test.YtkggloeaojkhaaaGreatDoorQa
import Derived.WalkKit
import Derived.WalkSpells
import Derived.WalkLawsBesides
import Derived.LoopTactic
import Derived.Outline
import Derived.BigQuiet
import Derived.Deep.QuietTactic
import Derived.Lib.Hide
import Derived.Lib.TrimByte
import Derived.Laws.Rows
namespace Go.Proofs.YtkggloeaojkhaaaGreatDoor
open Go.RowKit

def digB (c : UInt8) : Bool := decide (48 ≤ c.toNat) && decide (c.toNat ≤ 57)
def numL (l : List UInt8) : Int := l.foldl (fun n c => 10 * n + ((c.toNat : Int) - 48)) 0

theorem numL_snoc (l : List UInt8) (c : UInt8) : numL (l ++ [c]) = 10 * numL l + ((c.toNat : Int) - 48) := by
 simp [numL, List.foldl_append]
theorem take_snoc (s : ByteArray) (k : Nat) (h : k < s.size) : s.data.toList.take (k + 1) = s.data.toList.take k ++ [s[k]] := by
 rw [List.take_succ_eq_append_getElem (by simpa using h)]; rfl

theorem numL_bd (l : List UInt8) (h : l.all digB = true) : 0 ≤ numL l ∧ numL l < 10 ^ l.length := by
 have key : ∀ (n : Nat) (l : List UInt8), l.length = n → l.all digB = true → 0 ≤ numL l ∧ numL l < 10 ^ n := by
  intro n
  induction n with
  | zero => intro l hl _; rw [List.length_eq_zero_iff.1 hl]; simp [numL]
  | succ n ih =>
   intro l hl h
   obtain ⟨i, c, rfl⟩ : ∃ i c, l = i ++ [c] := ⟨l.dropLast, l.getLast (by intro e; simp [e] at hl), (List.dropLast_concat_getLast _).symm⟩
   simp only [List.all_append, List.all_cons, List.all_nil, Bool.and_true, Bool.and_eq_true] at h
   have := ih i (by simpa using hl) h.1
   have hc : 48 ≤ c.toNat ∧ c.toNat ≤ 57 := by simpa [digB] using h.2
   rw [numL_snoc, Int.pow_succ]
   omega
 exact key _ l rfl h
theorem numL_bd15 (l : List UInt8) (h : l.all digB = true) (hl : l.length ≤ 15) : 0 ≤ numL l ∧ numL l ≤ 1000000000000000 := by
 have := numL_bd l h
 have h2 : (10 : Int) ^ l.length ≤ 10 ^ 15 := by
  have : (10 : Nat) ^ l.length ≤ 10 ^ 15 := Nat.pow_le_pow_right (by omega) hl
  exact_mod_cast this
 omega

def NumP (s : ByteArray) (n : Int) (ok : Bool) : Prop := ok = s.data.toList.all digB ∧ n = if ok then numL s.data.toList else 0
def NumPost (s : ByteArray) (w : World) (e : Ending) (w' : World) : Prop := ∃ n ok, e = .returned (.tuple #[.int .i64 n, .bool ok]) ∧ NumP s n ok ∧ w = w'

theorem all_take_snoc (s : ByteArray) (k : Nat) (h : k < s.size) : (s.data.toList.take (k + 1)).all digB = ((s.data.toList.take k).all digB && digB s[k]) := by
 rw [take_snoc s k h]; simp
theorem all_of_bad (s : ByteArray) (k : Nat) (h : k < s.size) (hc : digB s[k] = false) : s.data.toList.all digB = false := by
 rw [List.all_eq_false]
 exact ⟨s[k], by simp [ByteArray.getElem_eq_getElem_data], by simp [hc]⟩

set_option maxHeartbeats 400000 in
theorem numberOf_any (s : ByteArray) (w : World) (hs : s.size ≤ 15) :
 Calls Tryz.prog 152 #[.string s] w (NumPost s w) := by
 go_enter Tryz.func152, Tryz.ntmps152
 go_wp2
 go_loop [4, 8] (fun n i => ∃ k : Nat, k ≤ s.size ∧ i = .int .i64 k ∧ n = .int .i64 (numL (s.data.toList.take k)) ∧ (s.data.toList.take k).all digB = true) (fun _ i => s.size - (intOf i).toNat)
 case atStart => exact ⟨0, Nat.zero_le _, rfl, rfl, rfl⟩
 case round =>
  obtain ⟨k, hk, rfl, rfl, hall⟩ := hrel
  have hl : (s.data.toList.take k).length ≤ k := List.length_take_le _ _
  have hb := numL_bd15 _ hall (by omega)
  have hH := Lib.hid hall
  clear hall
  by_cases hlt : k < s.size
  · go_wp2
    · go_ret2
      exact ⟨0, false, rfl, ⟨(all_of_bad s k hlt (by simp [digB]; omega)).symm, rfl⟩, rfl⟩
    · go_round
      case rel => exact ⟨k + 1, by omega, by go_num, by rw [take_snoc s k hlt, numL_snoc], by rw [all_take_snoc s k hlt, hH.out]; simp [digB]; omega⟩
      case measure => simp [intOf]; omega
    · go_ret2
      exact ⟨0, false, rfl, ⟨(all_of_bad s k hlt (by simp [digB]; omega)).symm, rfl⟩, rfl⟩
  · go_wp2
    go_ret2
    have hk' : s.data.toList.take k = s.data.toList := List.take_of_length_le (by simp; omega)
    have hA := hH.out; rw [hk'] at hA ⊢
    exact ⟨_, true, rfl, ⟨hA.symm, rfl⟩, rfl⟩

def prB (c : UInt8) : Bool := decide (32 ≤ c.toNat) && decide (c.toNat ≤ 126)
theorem all_take_snocP (p : UInt8 → Bool) (s : ByteArray) (k : Nat) (h : k < s.size) : (s.data.toList.take (k + 1)).all p = ((s.data.toList.take k).all p && p s[k]) := by
 rw [take_snoc s k h]; simp
theorem all_of_badP (p : UInt8 → Bool) (s : ByteArray) (k : Nat) (h : k < s.size) (hc : p s[k] = false) : s.data.toList.all p = false := by
 rw [List.all_eq_false]
 exact ⟨s[k], by simp [ByteArray.getElem_eq_getElem_data], by simp [hc]⟩
def allS (p : UInt8 → Bool) (s : ByteArray) : Bool := s.data.toList.all p
theorem ret_bool {a b : Bool} (h : a = b) : Ending.returned (.bool a) = .returned (.bool b) := by rw [h]

set_option maxHeartbeats 400000 in
theorem isPrintable_any (s : ByteArray) (w : World) (hs : s.size ≤ 1000000) :
 Calls Tryz.prog 179 #[.string s] w fun e w' => e = .returned (.bool (allS prB s)) ∧ w = w' := by
 go_enter Tryz.func179, Tryz.ntmps179
 go_wp2
 go_loop [6] (fun i => ∃ k : Nat, k ≤ s.size ∧ i = .int .i64 k ∧ (s.data.toList.take k).all prB = true) (fun i => s.size - (intOf i).toNat)
 case atStart => exact ⟨0, Nat.zero_le _, rfl, rfl⟩
 case round =>
  obtain ⟨k, hk, rfl, hall⟩ := hrel
  have hH := Lib.hid hall
  clear hall
  by_cases hlt : k < s.size
  · go_wp2
    · go_ret
      exact ⟨ret_bool (all_of_badP prB s k hlt (by simp [prB]; omega)).symm, rfl⟩
    · go_round
      case rel => exact ⟨k + 1, by omega, by go_num, by rw [all_take_snocP prB s k hlt, hH.out]; simp [prB]; omega⟩
      case measure => simp [intOf]; omega
    · go_ret
      exact ⟨ret_bool (all_of_badP prB s k hlt (by simp [prB]; omega)).symm, rfl⟩
  · go_wp2
    go_ret
    have hk' : s.data.toList.take k = s.data.toList := List.take_of_length_le (by simp; omega)
    have hA := hH.out; rw [hk'] at hA
    exact ⟨ret_bool hA.symm, rfl⟩

theorem repeatL_one (c : UInt8) (n : Nat) : Lib.repeatL [c] n = List.replicate n c := by
 induction n with
 | zero => rfl
 | succ n ih => simp [Lib.repeatL, ih, List.replicate_succ]

def PadPost (n : Int) (width : Int) (w : World) (e : Ending) (w' : World) : Prop :=
 (width < (Lib.itoa n).length ∧ e = .returned (.tuple #[.string ⟨#[]⟩, .bool false]) ∧ Ext w w') ∨
 ((Lib.itoa n).length ≤ width ∧ ∃ r : ByteArray, r.data.toList = List.replicate (width - (Lib.itoa n).length).toNat 48 ++ Lib.itoa n ∧ e = .returned (.tuple #[.string r, .bool true]) ∧ Ext w w')

set_option maxHeartbeats 400000 in
theorem padded_any (n width : Int) (w : World) (g : Gl w) (h0 : 0 ≤ n) (h1 : n ≤ 1000000000000000000) (hw0 : 0 ≤ width) (hw1 : width ≤ 1000) :
 Calls Tryz.prog 178 #[.int .i64 n, .int .i64 width] w (PadPost n width w) := by
 have hp := Lib.hid g.pow
 go_enter Tryz.func178, Tryz.ntmps178
 go_wp2_with (go_at_call 102; refine (Tryz.strconv_FormatInt_10 _ (by omega) (by omega) _ hp.out).mono ?_; rintro e w1 ⟨rfl, k, os, rfl⟩)
 · go_ret2
   exact Or.inl ⟨by assumption, rfl, ((Ext.refl w).drewN _).grow _⟩
 · obtain ⟨c, hc⟩ := Int.eq_ofNat_of_zero_le (show 0 ≤ width - (Lib.itoa n).length by omega)
   have hC := Lib.hid hc
   rw [hc]
   clear hc
   refine (Tryz.strings_Repeat _ c _ (by have := hC.out; omega) (by have := hC.out; simp [ByteArray.size]; omega)).mono ?_
   rintro e w1 ⟨rfl, hb⟩
   have hE : Ext w w1 := (((Ext.refl w).drewN _).grow _).trans hb
   clear hb
   have hl : (Lib.repeatL [48] c).length ≤ 1000 := by have := hC.out; rw [repeatL_one, List.length_replicate]; omega
   go_wp2
   go_ret2
   have hc := hC.out
   refine Or.inr ⟨by assumption, _, ?_, rfl, hE⟩
   rw [hc, repeatL_one]
   simp
end Go.Proofs.YtkggloeaojkhaaaGreatDoor
namespace Go.Proofs.YtkggloeaojkhaaaGreatDoor
open Go.RowKit


theorem itoa_1 (n : Nat) (h : n < 10) : Lib.itoa n = [UInt8.ofNat (48 + n)] := by
 unfold Lib.itoa; rw [if_neg (by omega), Int.toNat_natCast, Lib.decDigits]; simp [h]
theorem itoa_2 (n : Nat) (h : 10 ≤ n) (h' : n < 100) : Lib.itoa n = [UInt8.ofNat (48 + n / 10), UInt8.ofNat (48 + n % 10)] := by
 unfold Lib.itoa; rw [if_neg (by omega), Int.toNat_natCast, Lib.decDigits, dif_neg (by omega), Lib.decDigits, dif_pos (by omega)]; simp
theorem itoa_3 (n : Nat) (h : 100 ≤ n) (h' : n < 1000) : Lib.itoa n = [UInt8.ofNat (48 + n / 100), UInt8.ofNat (48 + n / 10 % 10), UInt8.ofNat (48 + n % 10)] := by
 unfold Lib.itoa; rw [if_neg (by omega), Int.toNat_natCast, Lib.decDigits, dif_neg (by omega), Lib.decDigits, dif_neg (by omega), Lib.decDigits, dif_pos (by omega)]; simp [Nat.div_div_eq_div_mul]
/-- The digits of a length. -/
def lenDig (d n : Nat) : List UInt8 := if d = 2 then [UInt8.ofNat (48 + n / 10), UInt8.ofNat (48 + n % 10)] else [UInt8.ofNat (48 + n / 100), UInt8.ofNat (48 + n / 10 % 10), UInt8.ofNat (48 + n % 10)]
theorem pad_len (d n : Nat) (hd : d = 2 ∨ d = 3) (h2 : d = 2 → n < 100) (h3 : n < 1000) : (Lib.itoa n).length ≤ d ∧ List.replicate ((d : Int) - (Lib.itoa n).length).toNat 48 ++ Lib.itoa n = lenDig d n := by
 unfold lenDig
 by_cases a : n < 10
 · rw [itoa_1 n a]
   rcases hd with rfl | rfl
   · refine ⟨by simp, ?_⟩
     rw [if_pos rfl, show n / 10 = 0 by omega, show n % 10 = n by omega]; rfl
   · refine ⟨by simp, ?_⟩
     rw [if_neg (by omega), show n / 10 = 0 by omega, show n / 100 = 0 by omega, show n % 10 = n by omega]; rfl
 · by_cases b : n < 100
   · rw [itoa_2 n (by omega) b]
     rcases hd with rfl | rfl
     · exact ⟨by simp, by simp⟩
     · refine ⟨by simp, ?_⟩
       rw [if_neg (by omega), show n / 100 = 0 by omega, show n / 10 % 10 = n / 10 by omega]; rfl
   · rw [itoa_3 n (by omega) h3]
     rcases hd with rfl | rfl
     · exact absurd (h2 rfl) b
     · exact ⟨by simp, by simp⟩

def VarPost (s : ByteArray) (d : Nat) (w : World) (e : Ending) (w' : World) : Prop :=
 (((d = 2 ∧ 99 < s.size) ∨ 255 < s.size) ∧ e = .returned (.tuple #[.string ⟨#[]⟩, .int .i64 3]) ∧ Ext w w') ∨
 (((d = 2 → s.size ≤ 99) ∧ s.size ≤ 255) ∧ ∃ r : ByteArray, r.data.toList = lenDig d s.size ++ s.data.toList ∧ e = .returned (.tuple #[.string r, .int .i64 0]) ∧ Ext w w')

set_option maxHeartbeats 400000 in
theorem var2_any (s : ByteArray) (w : World) (g : Gl w) (hs : s.size ≤ 1000000) :
 Calls Tryz.prog 143 #[.string s, .int .i64 2] w (VarPost s 2 w) := by
 by_cases h : s.size ≤ 99
 · have hpl := Lib.hid (pad_len 2 s.size (Or.inl rfl) (by omega) (by omega))
   go_enter Tryz.func143, Tryz.ntmps143
   go_wp2_with fail
   refine (padded_any _ 2 _ g (by omega) (by omega) (by omega) (by omega)).mono ?_
   rintro e w1 (⟨hx, rfl, hE⟩ | ⟨hx, r, hr, rfl, hE⟩)
   · have := hpl.out.1; omega
   · have hr := Lib.hid hr
     have hrs : r.size = 2 := by
      have := congrArg List.length hr.out
      have h2 := hpl.out.2
      rw [show ((2 : Nat) : Int) = 2 from rfl] at h2
      rw [h2] at this
      simpa [lenDig] using this
     go_wp2
     go_ret2
     refine Or.inr ⟨⟨fun _ => h, by omega⟩, _, ?_, rfl, hE⟩
     have h2 := hpl.out.2
     rw [show ((2 : Nat) : Int) = 2 from rfl] at h2
     rw [← h2, ← hr.out]; simp
 · go_enter Tryz.func143, Tryz.ntmps143
   go_wp2
   go_ret2
   exact Or.inl ⟨Or.inl ⟨rfl, by omega⟩, rfl, Ext.refl _⟩

set_option maxHeartbeats 400000 in
theorem var3_any (s : ByteArray) (w : World) (g : Gl w) (hs : s.size ≤ 1000000) :
 Calls Tryz.prog 143 #[.string s, .int .i64 3] w (VarPost s 3 w) := by
 by_cases h : s.size ≤ 255
 · have hpl := Lib.hid (pad_len 3 s.size (Or.inr rfl) (by omega) (by omega))
   go_enter Tryz.func143, Tryz.ntmps143
   go_wp2_with fail
   refine (padded_any _ 3 _ g (by omega) (by omega) (by omega) (by omega)).mono ?_
   rintro e w1 (⟨hx, rfl, hE⟩ | ⟨hx, r, hr, rfl, hE⟩)
   · have := hpl.out.1; omega
   · have hr := Lib.hid hr
     have hrs : r.size = 3 := by
      have := congrArg List.length hr.out
      have h2 := hpl.out.2
      rw [show ((3 : Nat) : Int) = 3 from rfl] at h2
      rw [h2] at this
      simpa [lenDig] using this
     go_wp2
     go_ret2
     refine Or.inr ⟨⟨fun h => by omega, by omega⟩, _, ?_, rfl, hE⟩
     have h2 := hpl.out.2
     rw [show ((3 : Nat) : Int) = 3 from rfl] at h2
     rw [← h2, ← hr.out]; simp
 · go_enter Tryz.func143, Tryz.ntmps143
   go_wp2
   go_ret2
   exact Or.inl ⟨Or.inr (by omega), rfl, Ext.refl _⟩

/-- wire.Alpha at a value that is printable, not ended by a space and not too long. -/
def AlphaPost (s : ByteArray) (k : Nat) (w : World) (e : Ending) (w' : World) : Prop :=
 ∃ r : ByteArray, r.data.toList = s.data.toList ++ List.replicate (k - s.size) 32 ∧ e = .returned (.tuple #[.string r, .int .i64 0]) ∧ Ext w w'
theorem hasSuffix_any (s p : ByteArray) (w : World) (hs : s.size ≤ 9223372036854775807) : Calls Tryz.prog 180 #[.string s, .string p] w fun e w' => e = .returned (.bool (Lib.hasSuffix s.data.toList p.data.toList)) ∧ w = w' :=
 (Tryz.strings_HasSuffix s p w hs).mono fun _ _ ⟨a, b⟩ => ⟨a, b.symm⟩
set_option maxHeartbeats 400000 in
theorem alpha_any (s : ByteArray) (k : Nat) (w : World) (h1 : 1 ≤ k) (h2 : k ≤ 255) (hs : s.size ≤ k) (hp : allS prB s = true) (hx : Lib.hasSuffix s.data.toList [32] = false) :
 Calls Tryz.prog 144 #[.string s, .int .i64 k] w (AlphaPost s k w) := by
 have hc : (k : Int) - s.size = ((k - s.size : Nat) : Int) := by omega
 have hC := Lib.hid hc
 clear hc
 go_enter Tryz.func144, Tryz.ntmps144
 go_wp2_with (first | (go_at_call 179; refine (isPrintable_any _ _ (by omega)).mono ?_; rintro e w1 ⟨rfl, rfl⟩) | (go_at_call 180; refine (hasSuffix_any _ _ _ (by omega)).mono ?_; rintro e w1 ⟨rfl, rfl⟩))
 rw [hC.out]
 refine (Tryz.strings_Repeat _ _ _ (by omega) (by show 1 * (k - s.size) ≤ _; omega)).mono ?_
 rintro e w1 ⟨rfl, hb⟩
 have hE : Ext w w1 := hb
 clear hb
 have hl : (Lib.repeatL [32] (k - s.size)).length ≤ 255 := by rw [repeatL_one, List.length_replicate]; omega
 go_wp2
 go_ret2
 refine ⟨_, ?_, rfl, hE⟩
 rw [repeatL_one]
 simp
end Go.Proofs.YtkggloeaojkhaaaGreatDoor
namespace Go.Proofs.YtkggloeaojkhaaaGreatDoor
open Go.RowKit
def hexB (c : UInt8) : Bool := digB c || (decide (97 ≤ c.toNat) && decide (c.toNat ≤ 102))
def kOk (k : Int) (c : UInt8) : Bool := if k = 1 then digB c else if k = 2 then prB c else hexB c
/-- The bytes are of the kind, and a text neither begins nor ends with a space. -/
def kindB (k : Int) (s : ByteArray) : Bool := allS (kOk k) s && (decide (k ≠ 2) || decide (Lib.trimB s.data.toList 32 = s.data.toList))
theorem kind_bad (k : Int) (s : ByteArray) (j : Nat) (h : j < s.size) (hc : kOk k s[j] = false) : kindB k s = false := by
 unfold kindB allS; rw [all_of_badP (kOk k) s j h hc]; rfl
theorem kind_end (k : Int) (s : ByteArray) (j : Nat) (hj : ¬ j < s.size) (h : (s.data.toList.take j).all (kOk k) = true) : kindB k s = (decide (k ≠ 2) || decide (Lib.trimB s.data.toList 32 = s.data.toList)) := by
 have hk' : s.data.toList.take j = s.data.toList := List.take_of_length_le (by simp; omega)
 rw [hk'] at h
 unfold kindB allS; rw [h]; rfl
theorem trim_eq (s : ByteArray) : (Lib.trimB s.data.toList 32 == s.toList) = (decide ((2 : Int) ≠ 2) || decide (Lib.trimB s.data.toList 32 = s.data.toList)) := by
 rw [ByteArray.toList_eq, Bool.eq_iff_iff]; simp
def KindPost (b : Bool) (w : World) (e : Ending) (w' : World) : Prop := e = .returned (.bool b) ∧ Ext w w'
theorem ret_b {a b : Bool} {v : Value} (hv : v = .bool a) (h : a = b) : Ending.returned v = .returned (.bool b) := by rw [hv, h]


set_option maxRecDepth 8000 in
set_option maxHeartbeats 1000000 in
theorem isOfKind_1 (s : ByteArray) (w : World) (hs : s.size ≤ 1000000) :
 Calls Tryz.prog 122 #[.int .i64 1, .string s] w (KindPost (kindB 1 s) w) := by
 go_enter Tryz.func122, Tryz.ntmps122
 go_wp2
 go_loop [11] (fun i => ∃ j : Nat, j ≤ s.size ∧ i = .int .i64 j ∧ (s.data.toList.take j).all (kOk 1) = true) (fun i => s.size - (intOf i).toNat)
 case atStart => exact ⟨0, Nat.zero_le _, rfl, rfl⟩
 case round =>
  obtain ⟨j, hj, rfl, hall⟩ := hrel
  have hH := Lib.hid hall
  clear hall
  by_cases hlt : j < s.size
  · skip
    have hc := s[j].toNat_lt
    rcases (show (0 ≤ s[j].toNat ∧ s[j].toNat ≤ 47) ∨ (48 ≤ s[j].toNat ∧ s[j].toNat ≤ 57) ∨ (58 ≤ s[j].toNat ∧ s[j].toNat ≤ 255) by omega) with ⟨q1, q2⟩ | ⟨q1, q2⟩ | ⟨q1, q2⟩
    · skip
      have t0 : decide (48 ≤ (s[j].toNat : Int)) = false := by simp; omega
      have t1 : decide ((s[j].toNat : Int) ≤ 57) = true := by simp; omega
      have hbad := Lib.hid (kind_bad 1 s j hlt (by unfold kOk hexB digB prB; simp; omega))
      go_wp2
      go_ret
      exact ⟨ret_b rfl hbad.out.symm, Ext.refl w⟩
    · skip
      have t0 : decide (48 ≤ (s[j].toNat : Int)) = true := by simp; omega
      have t1 : decide ((s[j].toNat : Int) ≤ 57) = true := by simp; omega
      have hok : kOk 1 s[j] = true := by unfold kOk hexB digB prB; simp; omega
      have hO := Lib.hid hok
      clear hok
      go_wp2
      go_round
      case rel => exact ⟨j + 1, by omega, by go_num, by rw [all_take_snocP (kOk 1) s j hlt, hH.out, hO.out]; rfl⟩
      case measure => simp [intOf]; omega
    · skip
      have t0 : decide (48 ≤ (s[j].toNat : Int)) = true := by simp; omega
      have t1 : decide ((s[j].toNat : Int) ≤ 57) = false := by simp; omega
      have hbad := Lib.hid (kind_bad 1 s j hlt (by unfold kOk hexB digB prB; simp; omega))
      go_wp2
      go_ret
      exact ⟨ret_b rfl hbad.out.symm, Ext.refl w⟩
  · have hend := Lib.hid (kind_end 1 s j hlt hH.out)
    go_wp2
    go_ret
    exact ⟨ret_b rfl (by rw [hend.out]; rfl), Ext.refl w⟩

set_option maxRecDepth 8000 in
set_option maxHeartbeats 1000000 in
theorem isOfKind_2 (s : ByteArray) (w : World) (hs : s.size ≤ 1000000) :
 Calls Tryz.prog 122 #[.int .i64 2, .string s] w (KindPost (kindB 2 s) w) := by
 go_enter Tryz.func122, Tryz.ntmps122
 go_wp2
 go_loop [11] (fun i => ∃ j : Nat, j ≤ s.size ∧ i = .int .i64 j ∧ (s.data.toList.take j).all (kOk 2) = true) (fun i => s.size - (intOf i).toNat)
 case atStart => exact ⟨0, Nat.zero_le _, rfl, rfl⟩
 case round =>
  obtain ⟨j, hj, rfl, hall⟩ := hrel
  have hH := Lib.hid hall
  clear hall
  by_cases hlt : j < s.size
  · skip
    have hc := s[j].toNat_lt
    rcases (show (0 ≤ s[j].toNat ∧ s[j].toNat ≤ 31) ∨ (32 ≤ s[j].toNat ∧ s[j].toNat ≤ 47) ∨ (48 ≤ s[j].toNat ∧ s[j].toNat ≤ 57) ∨ (58 ≤ s[j].toNat ∧ s[j].toNat ≤ 126) ∨ (127 ≤ s[j].toNat ∧ s[j].toNat ≤ 255) by omega) with ⟨q1, q2⟩ | ⟨q1, q2⟩ | ⟨q1, q2⟩ | ⟨q1, q2⟩ | ⟨q1, q2⟩
    · skip
      have t0 : decide (48 ≤ (s[j].toNat : Int)) = false := by simp; omega
      have t1 : decide ((s[j].toNat : Int) ≤ 57) = true := by simp; omega
      have t2 : decide (32 ≤ (s[j].toNat : Int)) = false := by simp; omega
      have t3 : decide ((s[j].toNat : Int) ≤ 126) = true := by simp; omega
      have hbad := Lib.hid (kind_bad 2 s j hlt (by unfold kOk hexB digB prB; simp; omega))
      go_wp2
      go_ret
      exact ⟨ret_b rfl hbad.out.symm, Ext.refl w⟩
    · skip
      have t0 : decide (48 ≤ (s[j].toNat : Int)) = false := by simp; omega
      have t1 : decide ((s[j].toNat : Int) ≤ 57) = true := by simp; omega
      have t2 : decide (32 ≤ (s[j].toNat : Int)) = true := by simp; omega
      have t3 : decide ((s[j].toNat : Int) ≤ 126) = true := by simp; omega
      have hok : kOk 2 s[j] = true := by unfold kOk hexB digB prB; simp; omega
      have hO := Lib.hid hok
      clear hok
      go_wp2
      go_round
      case rel => exact ⟨j + 1, by omega, by go_num, by rw [all_take_snocP (kOk 2) s j hlt, hH.out, hO.out]; rfl⟩
      case measure => simp [intOf]; omega
    · skip
      have t0 : decide (48 ≤ (s[j].toNat : Int)) = true := by simp; omega
      have t1 : decide ((s[j].toNat : Int) ≤ 57) = true := by simp; omega
      have t2 : decide (32 ≤ (s[j].toNat : Int)) = true := by simp; omega
      have t3 : decide ((s[j].toNat : Int) ≤ 126) = true := by simp; omega
      have hok : kOk 2 s[j] = true := by unfold kOk hexB digB prB; simp; omega
      have hO := Lib.hid hok
      clear hok
      go_wp2
      go_round
      case rel => exact ⟨j + 1, by omega, by go_num, by rw [all_take_snocP (kOk 2) s j hlt, hH.out, hO.out]; rfl⟩
      case measure => simp [intOf]; omega
    · skip
      have t0 : decide (48 ≤ (s[j].toNat : Int)) = true := by simp; omega
      have t1 : decide ((s[j].toNat : Int) ≤ 57) = false := by simp; omega
      have t2 : decide (32 ≤ (s[j].toNat : Int)) = true := by simp; omega
      have t3 : decide ((s[j].toNat : Int) ≤ 126) = true := by simp; omega
      have hok : kOk 2 s[j] = true := by unfold kOk hexB digB prB; simp; omega
      have hO := Lib.hid hok
      clear hok
      go_wp2
      go_round
      case rel => exact ⟨j + 1, by omega, by go_num, by rw [all_take_snocP (kOk 2) s j hlt, hH.out, hO.out]; rfl⟩
      case measure => simp [intOf]; omega
    · skip
      have t0 : decide (48 ≤ (s[j].toNat : Int)) = true := by simp; omega
      have t1 : decide ((s[j].toNat : Int) ≤ 57) = false := by simp; omega
      have t2 : decide (32 ≤ (s[j].toNat : Int)) = true := by simp; omega
      have t3 : decide ((s[j].toNat : Int) ≤ 126) = false := by simp; omega
      have hbad := Lib.hid (kind_bad 2 s j hlt (by unfold kOk hexB digB prB; simp; omega))
      go_wp2
      go_ret
      exact ⟨ret_b rfl hbad.out.symm, Ext.refl w⟩
  · have hend := Lib.hid (kind_end 2 s j hlt hH.out)
    go_wp2_with fail
    refine (Tryz.strings_Trim_one s 32 (by decide) w (by omega)).mono ?_
    rintro e w1 ⟨rfl, hw⟩
    have hE : Ext w w1 := by rcases hw with rfl | rfl; exact Ext.refl _; exact (Ext.refl _).drew
    clear hw
    go_wp2
    go_ret
    refine ⟨ret_b rfl ?_, hE⟩
    rw [hend.out]; exact trim_eq s

set_option maxRecDepth 8000 in
set_option maxHeartbeats 1000000 in
theorem isOfKind_3 (s : ByteArray) (w : World) (hs : s.size ≤ 1000000) :
 Calls Tryz.prog 122 #[.int .i64 3, .string s] w (KindPost (kindB 3 s) w) := by
 go_enter Tryz.func122, Tryz.ntmps122
 go_wp2
 go_loop [11] (fun i => ∃ j : Nat, j ≤ s.size ∧ i = .int .i64 j ∧ (s.data.toList.take j).all (kOk 3) = true) (fun i => s.size - (intOf i).toNat)
 case atStart => exact ⟨0, Nat.zero_le _, rfl, rfl⟩
 case round =>
  obtain ⟨j, hj, rfl, hall⟩ := hrel
  have hH := Lib.hid hall
  clear hall
  by_cases hlt : j < s.size
  · skip
    have hc := s[j].toNat_lt
    rcases (show (0 ≤ s[j].toNat ∧ s[j].toNat ≤ 47) ∨ (48 ≤ s[j].toNat ∧ s[j].toNat ≤ 57) ∨ (58 ≤ s[j].toNat ∧ s[j].toNat ≤ 96) ∨ (97 ≤ s[j].toNat ∧ s[j].toNat ≤ 102) ∨ (103 ≤ s[j].toNat ∧ s[j].toNat ≤ 255) by omega) with ⟨q1, q2⟩ | ⟨q1, q2⟩ | ⟨q1, q2⟩ | ⟨q1, q2⟩ | ⟨q1, q2⟩
    · skip
      have t0 : decide (48 ≤ (s[j].toNat : Int)) = false := by simp; omega
      have t1 : decide ((s[j].toNat : Int) ≤ 57) = true := by simp; omega
      have t2 : decide (97 ≤ (s[j].toNat : Int)) = false := by simp; omega
      have t3 : decide ((s[j].toNat : Int) ≤ 102) = true := by simp; omega
      have hbad := Lib.hid (kind_bad 3 s j hlt (by unfold kOk hexB digB prB; simp; omega))
      go_wp2
      go_ret
      exact ⟨ret_b rfl hbad.out.symm, Ext.refl w⟩
    · skip
      have t0 : decide (48 ≤ (s[j].toNat : Int)) = true := by simp; omega
      have t1 : decide ((s[j].toNat : Int) ≤ 57) = true := by simp; omega
      have t2 : decide (97 ≤ (s[j].toNat : Int)) = false := by simp; omega
      have t3 : decide ((s[j].toNat : Int) ≤ 102) = true := by simp; omega
      have hok : kOk 3 s[j] = true := by unfold kOk hexB digB prB; simp; omega
      have hO := Lib.hid hok
      clear hok
      go_wp2
      go_round
      case rel => exact ⟨j + 1, by omega, by go_num, by rw [all_take_snocP (kOk 3) s j hlt, hH.out, hO.out]; rfl⟩
      case measure => simp [intOf]; omega
    · skip
      have t0 : decide (48 ≤ (s[j].toNat : Int)) = true := by simp; omega
      have t1 : decide ((s[j].toNat : Int) ≤ 57) = false := by simp; omega
      have t2 : decide (97 ≤ (s[j].toNat : Int)) = false := by simp; omega
      have t3 : decide ((s[j].toNat : Int) ≤ 102) = true := by simp; omega
      have hbad := Lib.hid (kind_bad 3 s j hlt (by unfold kOk hexB digB prB; simp; omega))
      go_wp2
      go_ret
      exact ⟨ret_b rfl hbad.out.symm, Ext.refl w⟩
    · skip
      have t0 : decide (48 ≤ (s[j].toNat : Int)) = true := by simp; omega
      have t1 : decide ((s[j].toNat : Int) ≤ 57) = false := by simp; omega
      have t2 : decide (97 ≤ (s[j].toNat : Int)) = true := by simp; omega
      have t3 : decide ((s[j].toNat : Int) ≤ 102) = true := by simp; omega
      have hok : kOk 3 s[j] = true := by unfold kOk hexB digB prB; simp; omega
      have hO := Lib.hid hok
      clear hok
      go_wp2
      go_round
      case rel => exact ⟨j + 1, by omega, by go_num, by rw [all_take_snocP (kOk 3) s j hlt, hH.out, hO.out]; rfl⟩
      case measure => simp [intOf]; omega
    · skip
      have t0 : decide (48 ≤ (s[j].toNat : Int)) = true := by simp; omega
      have t1 : decide ((s[j].toNat : Int) ≤ 57) = false := by simp; omega
      have t2 : decide (97 ≤ (s[j].toNat : Int)) = true := by simp; omega
      have t3 : decide ((s[j].toNat : Int) ≤ 102) = false := by simp; omega
      have hbad := Lib.hid (kind_bad 3 s j hlt (by unfold kOk hexB digB prB; simp; omega))
      go_wp2
      go_ret
      exact ⟨ret_b rfl hbad.out.symm, Ext.refl w⟩
  · have hend := Lib.hid (kind_end 3 s j hlt hH.out)
    go_wp2
    go_ret
    exact ⟨ret_b rfl (by rw [hend.out]; rfl), Ext.refl w⟩

theorem dw_self_iff (l : List UInt8) (c : UInt8) (x : UInt8) (t : List UInt8) (h : l = x :: t) : l.dropWhile (· == c) = l ↔ x ≠ c := by
 subst h
 rw [List.dropWhile_cons]
 by_cases e : x = c
 · simp only [e, beq_self_eq_true, if_true, ne_eq, not_true, iff_false]
   intro h
   have := congrArg List.length h
   have h2 := (List.dropWhile_sublist (l := t) (· == c)).length_le
   simp at this; omega
 · simp [e]
theorem trim_self (l : List UInt8) (c : UInt8) (hl : l ≠ []) : Lib.trimB l c = l ↔ l.head hl ≠ c ∧ l.getLast hl ≠ c := by
 have hr : Lib.trimRightB l c = l ↔ l.getLast hl ≠ c := by
  unfold Lib.trimRightB
  rw [List.reverse_eq_iff, dw_self_iff l.reverse c (l.getLast hl) l.reverse.tail ?_]
  rw [← List.head_reverse (by simpa using hl), List.cons_head_tail]
 have hll : ∀ m : List UInt8, (Lib.trimLeftB m c).length ≤ m.length := fun m => (List.dropWhile_sublist _).length_le
 have hrl : (Lib.trimRightB l c).length ≤ l.length := by
  have := (List.dropWhile_sublist (l := l.reverse) (· == c)).length_le; simpa [Lib.trimRightB] using this
 unfold Lib.trimB
 constructor
 · intro h
   have h1 : (Lib.trimRightB l c).length = l.length := by have := congrArg List.length h; have := hll (Lib.trimRightB l c); omega
   have h2 : Lib.trimRightB l c = l := by
    have hs : (l.reverse.dropWhile (· == c)).Sublist l.reverse := List.dropWhile_sublist _
    have := hs.eq_of_length (by have := h1; simp [Lib.trimRightB] at this; simpa using this)
    unfold Lib.trimRightB; rw [this]; simp
   rw [h2] at h
   refine ⟨(dw_self_iff l c (l.head hl) l.tail (List.cons_head_tail hl).symm).1 h, hr.1 h2⟩
 · rintro ⟨h1, h2⟩
   rw [hr.2 h2]
   exact (dw_self_iff l c (l.head hl) l.tail (List.cons_head_tail hl).symm).2 h1
theorem ends_of (s : ByteArray) (h : 0 < s.size) : (Lib.trimB s.data.toList 32 = s.data.toList) ↔ (s[0] ≠ 32 ∧ s[s.size - 1] ≠ 32) := by
 have hne : s.data.toList ≠ [] := by
  intro e
  have h2 : s.data.toList.length = 0 := by rw [e]; rfl
  rw [Array.length_toList] at h2
  have h3 : s.size = s.data.size := rfl
  omega
 rw [trim_self _ _ hne]
 have e1 : s.data.toList.head hne = s[0] := by rw [List.head_eq_getElem]; rfl
 have e2 : s.data.toList.getLast hne = s[s.size - 1] := by rw [List.getLast_eq_getElem]; rfl
 rw [e1, e2]
theorem byte_ne (b c : UInt8) : ((b.toNat : Int) != (c.toNat : Int)) = decide (b ≠ c) := by
 rw [Bool.eq_iff_iff]
 simp
 constructor
 · intro h e; exact h (by rw [e])
 · intro h e; exact h (UInt8.toNat_inj.1 (by omega))

set_option maxRecDepth 8000 in
set_option maxHeartbeats 1000000 in
theorem rKind_1 (s : ByteArray) (w : World) (h0 : 0 < s.size) (hs : s.size ≤ 1000000) :
 Calls Tryz.prog 69 #[.int .i64 1, .string s] w (KindPost (kindB 1 s) w) := by
 go_enter Tryz.func69, Tryz.ntmps69
 go_wp2
 go_loop [5] (fun i => ∃ j : Nat, j ≤ s.size ∧ i = .int .i64 j ∧ (s.data.toList.take j).all (kOk 1) = true) (fun i => s.size - (intOf i).toNat)
 case atStart => exact ⟨0, Nat.zero_le _, rfl, rfl⟩
 case round =>
  obtain ⟨j, hj, rfl, hall⟩ := hrel
  have hH := Lib.hid hall
  clear hall
  by_cases hlt : j < s.size
  · skip
    have hc := s[j].toNat_lt
    rcases (show (0 ≤ s[j].toNat ∧ s[j].toNat ≤ 47) ∨ (48 ≤ s[j].toNat ∧ s[j].toNat ≤ 57) ∨ (58 ≤ s[j].toNat ∧ s[j].toNat ≤ 255) by omega) with ⟨q1, q2⟩ | ⟨q1, q2⟩ | ⟨q1, q2⟩
    · skip
      have t0 : decide (48 ≤ (s[j].toNat : Int)) = false := by simp; omega
      have t1 : decide ((s[j].toNat : Int) ≤ 57) = true := by simp; omega
      have hbad := Lib.hid (kind_bad 1 s j hlt (by unfold kOk hexB digB prB; simp; omega))
      go_wp2
      go_ret
      exact ⟨ret_b rfl hbad.out.symm, Ext.refl w⟩
    · skip
      have t0 : decide (48 ≤ (s[j].toNat : Int)) = true := by simp; omega
      have t1 : decide ((s[j].toNat : Int) ≤ 57) = true := by simp; omega
      have hok : kOk 1 s[j] = true := by unfold kOk hexB digB prB; simp; omega
      have hO := Lib.hid hok
      clear hok
      go_wp2
      go_round
      case rel => exact ⟨j + 1, by omega, by go_num, by rw [all_take_snocP (kOk 1) s j hlt, hH.out, hO.out]; rfl⟩
      case measure => simp [intOf]; omega
    · skip
      have t0 : decide (48 ≤ (s[j].toNat : Int)) = true := by simp; omega
      have t1 : decide ((s[j].toNat : Int) ≤ 57) = false := by simp; omega
      have hbad := Lib.hid (kind_bad 1 s j hlt (by unfold kOk hexB digB prB; simp; omega))
      go_wp2
      go_ret
      exact ⟨ret_b rfl hbad.out.symm, Ext.refl w⟩
  · have hend := Lib.hid (kind_end 1 s j hlt hH.out)
    go_wp2
    go_ret
    exact ⟨ret_b rfl (by rw [hend.out]; rfl), Ext.refl w⟩

set_option maxRecDepth 8000 in
set_option maxHeartbeats 1000000 in
theorem rKind_2 (s : ByteArray) (w : World) (h0 : 0 < s.size) (hs : s.size ≤ 1000000) :
 Calls Tryz.prog 69 #[.int .i64 2, .string s] w (KindPost (kindB 2 s) w) := by
 go_enter Tryz.func69, Tryz.ntmps69
 go_wp2
 go_loop [5] (fun i => ∃ j : Nat, j ≤ s.size ∧ i = .int .i64 j ∧ (s.data.toList.take j).all (kOk 2) = true) (fun i => s.size - (intOf i).toNat)
 case atStart => exact ⟨0, Nat.zero_le _, rfl, rfl⟩
 case round =>
  obtain ⟨j, hj, rfl, hall⟩ := hrel
  have hH := Lib.hid hall
  clear hall
  by_cases hlt : j < s.size
  · skip
    have hc := s[j].toNat_lt
    rcases (show (0 ≤ s[j].toNat ∧ s[j].toNat ≤ 31) ∨ (32 ≤ s[j].toNat ∧ s[j].toNat ≤ 47) ∨ (48 ≤ s[j].toNat ∧ s[j].toNat ≤ 57) ∨ (58 ≤ s[j].toNat ∧ s[j].toNat ≤ 126) ∨ (127 ≤ s[j].toNat ∧ s[j].toNat ≤ 255) by omega) with ⟨q1, q2⟩ | ⟨q1, q2⟩ | ⟨q1, q2⟩ | ⟨q1, q2⟩ | ⟨q1, q2⟩
    · skip
      have t0 : decide ((s[j].toNat : Int) < 32) = true := by simp; omega
      have t1 : decide (126 < (s[j].toNat : Int)) = false := by simp; omega
      have hbad := Lib.hid (kind_bad 2 s j hlt (by unfold kOk hexB digB prB; simp; omega))
      go_wp2
      go_ret
      exact ⟨ret_b rfl hbad.out.symm, Ext.refl w⟩
    · skip
      have t0 : decide ((s[j].toNat : Int) < 32) = false := by simp; omega
      have t1 : decide (126 < (s[j].toNat : Int)) = false := by simp; omega
      have hok : kOk 2 s[j] = true := by unfold kOk hexB digB prB; simp; omega
      have hO := Lib.hid hok
      clear hok
      go_wp2
      go_round
      case rel => exact ⟨j + 1, by omega, by go_num, by rw [all_take_snocP (kOk 2) s j hlt, hH.out, hO.out]; rfl⟩
      case measure => simp [intOf]; omega
    · skip
      have t0 : decide ((s[j].toNat : Int) < 32) = false := by simp; omega
      have t1 : decide (126 < (s[j].toNat : Int)) = false := by simp; omega
      have hok : kOk 2 s[j] = true := by unfold kOk hexB digB prB; simp; omega
      have hO := Lib.hid hok
      clear hok
      go_wp2
      go_round
      case rel => exact ⟨j + 1, by omega, by go_num, by rw [all_take_snocP (kOk 2) s j hlt, hH.out, hO.out]; rfl⟩
      case measure => simp [intOf]; omega
    · skip
      have t0 : decide ((s[j].toNat : Int) < 32) = false := by simp; omega
      have t1 : decide (126 < (s[j].toNat : Int)) = false := by simp; omega
      have hok : kOk 2 s[j] = true := by unfold kOk hexB digB prB; simp; omega
      have hO := Lib.hid hok
      clear hok
      go_wp2
      go_round
      case rel => exact ⟨j + 1, by omega, by go_num, by rw [all_take_snocP (kOk 2) s j hlt, hH.out, hO.out]; rfl⟩
      case measure => simp [intOf]; omega
    · skip
      have t0 : decide ((s[j].toNat : Int) < 32) = false := by simp; omega
      have t1 : decide (126 < (s[j].toNat : Int)) = true := by simp; omega
      have hbad := Lib.hid (kind_bad 2 s j hlt (by unfold kOk hexB digB prB; simp; omega))
      go_wp2
      go_ret
      exact ⟨ret_b rfl hbad.out.symm, Ext.refl w⟩
  · have hend := Lib.hid (kind_end 2 s j hlt hH.out)
    have he := Lib.hid (ends_of s h0)
    have b1 := byte_ne s[0] 32
    have b2 := byte_ne s[s.size - 1] 32
    rw [show (((32 : UInt8).toNat : Nat) : Int) = 32 from rfl] at b1 b2
    by_cases e1 : s[0] = 32
    · have c1 : ((s[0].toNat : Int) != 32) = false := by rw [b1]; simp [e1]
      have hE1 := Lib.hid e1
      clear e1 b1 b2
      go_wp2
      go_ret
      refine ⟨ret_b rfl ?_, Ext.refl w⟩
      rw [hend.out]; symm
      have : ¬ (Lib.trimB s.data.toList 32 = s.data.toList) := fun h => (he.out.1 h).1 hE1.out
      simp [this]
    · have c1 : ((s[0].toNat : Int) != 32) = true := by rw [b1]; simp [e1]
      have hE1 := Lib.hid e1
      have hB2 := Lib.hid b2
      clear e1 b1 b2
      go_wp2
      go_ret
      refine ⟨ret_b rfl ?_, Ext.refl w⟩
      rw [hend.out, hB2.out]
      by_cases e2 : s[s.size - 1] = 32
      · have : ¬ (Lib.trimB s.data.toList 32 = s.data.toList) := fun h => (he.out.1 h).2 e2
        simp [this, e2]
      · have : Lib.trimB s.data.toList 32 = s.data.toList := he.out.2 ⟨hE1.out, e2⟩
        simp [this, e2]

set_option maxRecDepth 8000 in
set_option maxHeartbeats 1000000 in
theorem rKind_3 (s : ByteArray) (w : World) (h0 : 0 < s.size) (hs : s.size ≤ 1000000) :
 Calls Tryz.prog 69 #[.int .i64 3, .string s] w (KindPost (kindB 3 s) w) := by
 go_enter Tryz.func69, Tryz.ntmps69
 go_wp2
 go_loop [5] (fun i => ∃ j : Nat, j ≤ s.size ∧ i = .int .i64 j ∧ (s.data.toList.take j).all (kOk 3) = true) (fun i => s.size - (intOf i).toNat)
 case atStart => exact ⟨0, Nat.zero_le _, rfl, rfl⟩
 case round =>
  obtain ⟨j, hj, rfl, hall⟩ := hrel
  have hH := Lib.hid hall
  clear hall
  by_cases hlt : j < s.size
  · skip
    have hc := s[j].toNat_lt
    rcases (show (0 ≤ s[j].toNat ∧ s[j].toNat ≤ 47) ∨ (48 ≤ s[j].toNat ∧ s[j].toNat ≤ 57) ∨ (58 ≤ s[j].toNat ∧ s[j].toNat ≤ 96) ∨ (97 ≤ s[j].toNat ∧ s[j].toNat ≤ 102) ∨ (103 ≤ s[j].toNat ∧ s[j].toNat ≤ 255) by omega) with ⟨q1, q2⟩ | ⟨q1, q2⟩ | ⟨q1, q2⟩ | ⟨q1, q2⟩ | ⟨q1, q2⟩
    · skip
      have t0 : decide (48 ≤ (s[j].toNat : Int)) = false := by simp; omega
      have t1 : decide ((s[j].toNat : Int) ≤ 57) = true := by simp; omega
      have t2 : decide ((s[j].toNat : Int) < 97) = true := by simp; omega
      have t3 : decide (102 < (s[j].toNat : Int)) = false := by simp; omega
      have hbad := Lib.hid (kind_bad 3 s j hlt (by unfold kOk hexB digB prB; simp; omega))
      go_wp2
      go_ret
      exact ⟨ret_b rfl hbad.out.symm, Ext.refl w⟩
    · skip
      have t0 : decide (48 ≤ (s[j].toNat : Int)) = true := by simp; omega
      have t1 : decide ((s[j].toNat : Int) ≤ 57) = true := by simp; omega
      have t2 : decide ((s[j].toNat : Int) < 97) = true := by simp; omega
      have t3 : decide (102 < (s[j].toNat : Int)) = false := by simp; omega
      have hok : kOk 3 s[j] = true := by unfold kOk hexB digB prB; simp; omega
      have hO := Lib.hid hok
      clear hok
      go_wp2
      go_round
      case rel => exact ⟨j + 1, by omega, by go_num, by rw [all_take_snocP (kOk 3) s j hlt, hH.out, hO.out]; rfl⟩
      case measure => simp [intOf]; omega
    · skip
      have t0 : decide (48 ≤ (s[j].toNat : Int)) = true := by simp; omega
      have t1 : decide ((s[j].toNat : Int) ≤ 57) = false := by simp; omega
      have t2 : decide ((s[j].toNat : Int) < 97) = true := by simp; omega
      have t3 : decide (102 < (s[j].toNat : Int)) = false := by simp; omega
      have hbad := Lib.hid (kind_bad 3 s j hlt (by unfold kOk hexB digB prB; simp; omega))
      go_wp2
      go_ret
      exact ⟨ret_b rfl hbad.out.symm, Ext.refl w⟩
    · skip
      have t0 : decide (48 ≤ (s[j].toNat : Int)) = true := by simp; omega
      have t1 : decide ((s[j].toNat : Int) ≤ 57) = false := by simp; omega
      have t2 : decide ((s[j].toNat : Int) < 97) = false := by simp; omega
      have t3 : decide (102 < (s[j].toNat : Int)) = false := by simp; omega
      have hok : kOk 3 s[j] = true := by unfold kOk hexB digB prB; simp; omega
      have hO := Lib.hid hok
      clear hok
      go_wp2
      go_round
      case rel => exact ⟨j + 1, by omega, by go_num, by rw [all_take_snocP (kOk 3) s j hlt, hH.out, hO.out]; rfl⟩
      case measure => simp [intOf]; omega
    · skip
      have t0 : decide (48 ≤ (s[j].toNat : Int)) = true := by simp; omega
      have t1 : decide ((s[j].toNat : Int) ≤ 57) = false := by simp; omega
      have t2 : decide ((s[j].toNat : Int) < 97) = false := by simp; omega
      have t3 : decide (102 < (s[j].toNat : Int)) = true := by simp; omega
      have hbad := Lib.hid (kind_bad 3 s j hlt (by unfold kOk hexB digB prB; simp; omega))
      go_wp2
      go_ret
      exact ⟨ret_b rfl hbad.out.symm, Ext.refl w⟩
  · have hend := Lib.hid (kind_end 3 s j hlt hH.out)
    go_wp2
    go_ret
    exact ⟨ret_b rfl (by rw [hend.out]; rfl), Ext.refl w⟩
end Go.Proofs.YtkggloeaojkhaaaGreatDoor
namespace Go.Proofs.YtkggloeaojkhaaaGreatDoor
open Go.RowKit

/-- The result of Find: row k of the dictionary, or none. -/
def specAgg (k : Nat) : Value := .agg #[.int .i64 (dNum k), .string (dName k), .int .i64 (dKind k), .int .i64 (dLen k), .int .i64 (dVar k)]
def specZero : Value := .agg #[.int .i64 0, .string ⟨#[]⟩, .int .i64 0, .int .i64 0, .int .i64 0]
def FindPost (n : Int) (w : World) (e : Ending) (w' : World) : Prop :=
 (∃ k, k < 23 ∧ dNum k = n ∧ e = .returned (.tuple #[specAgg k, .bool true]) ∧ Ext w w') ∨ ((∀ k, k < 23 → dNum k ≠ n) ∧ e = .returned (.tuple #[specZero, .bool false]) ∧ Ext w w')

theorem sizeDict : (Tryz.prog.info? 238).map (·.size) = some dCells.size := by rw [dCells_size]; kernel_rfl

set_option maxHeartbeats 1000000 in
theorem find_any (n : Int) (w : World) (g : Gl w) :
 Calls Tryz.prog 113 #[.int .i64 n] w (FindPost n w) := by
 obtain ⟨t, fr, hd⟩ := g.dict
 have hsz : 0 < w.heap.size := (Array.getElem?_eq_some_iff.1 hd).1
 have hD : ∀ o, (w.alloc o).heap[0]? = some (.cells dCells t fr) := fun o => by rw [Below.heap_alloc _ _ _ hsz]; exact hd
 have HD := Lib.hid hD
 clear hD hd
 go_enter Tryz.func113, Tryz.ntmps113
 go_wp2_with (refine wpList_load_row rfl 238 _ rfl 0 rfl t dCells fr _ (HD.out _) Tryz.underlying238 rfl sizeDict ?_)
 go_loopw [7] (fun i wr => ∃ k : Nat, k ≤ 23 ∧ i = .int .i64 k ∧ (∀ j, j < k → dNum j ≠ n) ∧ Ext w wr ∧ Blk wr w.heap.size #[.int .i64 0, .string ⟨#[]⟩, .int .i64 0, .int .i64 0, .int .i64 0] 206) (fun i _ => 23 - (intOf i).toNat)
 case atStart => exact ⟨0, by omega, rfl, fun j hj => absurd hj (by omega), xt, Blk.new _ _ _⟩
 case round =>
  obtain ⟨k, hk, rfl, hno, hE, hB⟩ := hrel
  have hno := Lib.hid hno
  by_cases hlt : k < 23
  · have hidx := index_dict k hlt
    unfold rowVal at hidx
    have z0 := hB.cell 0
    have z1 := hB.cell 1
    have z2 := hB.cell 2
    have z3 := hB.cell 3
    have z4 := hB.cell 4
    have y0 := hB.fz 0
    have y1 := hB.fz 1
    have y2 := hB.fz 2
    have y3 := hB.fz 3
    have y4 := hB.fz 4
    have hl := hB.lt
    simp at z0 z1 z2 z3 z4
    by_cases he : dNum k = n
    · have hb : (dNum k == n) = true := by simpa using he
      have he := Lib.hid he
      go_wp2
      refine bodyPost_ret (v := .tuple #[specAgg k, .bool true]) ?_ rfl (Or.inl ⟨k, hlt, he.out, rfl, ?_⟩)
      · simp [results, Tryz.results113, go_sem, specAgg, he.out, z0, z1, z2, z3, z4, hl]
      · (repeat (first | with_reducible exact Ext.refl _ | with_reducible exact hE0 | with_reducible exact hE | with_reducible refine Ext.alloc ?_ _ | with_reducible refine Ext.drewN ?_ _ | with_reducible refine Ext.drew ?_ | ((with_reducible refine Ext.setCell ?_ ?side _); (case side => first | exact Nat.le_refl _ | (simp; done) | (simp; omega)))))
    · have hb : (dNum k == n) = false := by simpa using he
      have he := Lib.hid he
      go_wp2
      go_roundw
      case rel => exact ⟨k + 1, by omega, by go_num, fun j hj => (by by_cases e : j = k; exact e ▸ he.out; exact hno.out j (by omega)), hE.alloc _, hB.alloc _⟩
      case measure => simp [intOf]; omega
  · have z0 := hB.cell 0
    have z1 := hB.cell 1
    have z2 := hB.cell 2
    have z3 := hB.cell 3
    have z4 := hB.cell 4
    have y0 := hB.fz 0
    have y1 := hB.fz 1
    have y2 := hB.fz 2
    have y3 := hB.fz 3
    have y4 := hB.fz 4
    have hl := hB.lt
    simp at z0 z1 z2 z3 z4
    go_wp2
    refine bodyPost_ret (v := .tuple #[specZero, .bool false]) ?_ rfl (Or.inr ⟨fun j hj => hno.out j (by omega), rfl, ?_⟩)
    · simp [results, Tryz.results113, go_sem, specZero, z0, z1, z2, z3, z4]
    · (repeat (first | with_reducible exact Ext.refl _ | with_reducible exact hE0 | with_reducible exact hE | with_reducible refine Ext.alloc ?_ _ | with_reducible refine Ext.drewN ?_ _ | with_reducible refine Ext.drew ?_ | ((with_reducible refine Ext.setCell ?_ ?side _); (case side => first | exact Nat.le_refl _ | (simp; done) | (simp; omega)))))
end Go.Proofs.YtkggloeaojkhaaaGreatDoor
namespace Go.Proofs.YtkggloeaojkhaaaGreatDoor
open Go.RowKit
theorem rDict_any (w : World) : Calls Tryz.prog 120 #[] w fun e w' => e = .returned (.slice (some ⟨w.heap.size, 0, none⟩) 23 23) ∧ w' = w.alloc (.cells dCells 148) :=
 calls_of_run 33 Tryz.f120 (.slice (some ⟨w.heap.size, 0, none⟩) 23 23) (fun _ => by kernel_rfl) (by kernel_rfl) (by kernel_rfl) (by kernel_rfl) (by kernel_rfl) Tryz.func120 (by kernel_rfl) ⟨rfl, rfl⟩
end Go.Proofs.YtkggloeaojkhaaaGreatDoor
namespace Go.Proofs.YtkggloeaojkhaaaGreatDoor
open Go.RowKit

theorem dcell {w : World} {B : Nat} {T : TypeId} (h : Blk w B dCells T) (k : Nat) (hk : k < 23) :
 w.cell? ⟨B, k * 5, none⟩ = some (.int .i64 (dNum k)) ∧ w.cell? ⟨B, k * 5 + 1, none⟩ = some (.string (dName k)) ∧ w.cell? ⟨B, k * 5 + 2, none⟩ = some (.int .i64 (dKind k)) ∧ w.cell? ⟨B, k * 5 + 3, none⟩ = some (.int .i64 (dLen k)) ∧ w.cell? ⟨B, k * 5 + 4, none⟩ = some (.int .i64 (dVar k)) := by
 have hd := dict_cell k hk
 rw [Nat.mul_comm 5 k] at hd
 exact ⟨(h.cell _).trans hd.1, (h.cell _).trans hd.2.1, (h.cell _).trans hd.2.2.1, (h.cell _).trans hd.2.2.2.1, (h.cell _).trans hd.2.2.2.2⟩

set_option maxHeartbeats 1000000 in
theorem rFind_any (n : Int) (w : World) :
 Calls Tryz.prog 68 #[.int .i64 n] w (FindPost n w) := by
 go_enter Tryz.func68, Tryz.ntmps68
 go_wp2_with (go_at_call 120; refine (rDict_any _).mono ?_; rintro e w1 ⟨rfl, rfl⟩)
 go_loopw [5] (fun i wr => ∃ k : Nat, k ≤ 23 ∧ i = .int .i64 k ∧ (∀ j, j < k → dNum j ≠ n) ∧ Ext w wr ∧ Blk wr w.heap.size #[.int .i64 0, .string ⟨#[]⟩, .int .i64 0, .int .i64 0, .int .i64 0] 148 ∧ Blk wr (w.heap.size + 1) dCells 148) (fun i _ => 23 - (intOf i).toNat)
 case atStart => exact ⟨0, by omega, rfl, fun j hj => absurd hj (by omega), xt, (Blk.new _ _ _).alloc _, Blk.new' _ _ _ _ (by simp)⟩
 case round =>
  obtain ⟨k, hk, rfl, hno, hE, hB, hC⟩ := hrel
  have hno := Lib.hid hno
  have z0 := hB.cell 0
  have z1 := hB.cell 1
  have z2 := hB.cell 2
  have z3 := hB.cell 3
  have z4 := hB.cell 4
  have y0 := hB.fz 0
  have y1 := hB.fz 1
  have y2 := hB.fz 2
  have y3 := hB.fz 3
  have y4 := hB.fz 4
  have hl := hB.lt
  simp at z0 z1 z2 z3 z4
  by_cases hlt : k < 23
  · obtain ⟨d0, d1, d2, d3, d4⟩ := dcell hC k hlt
    by_cases he : dNum k = n
    · have hb : (dNum k == n) = true := by simpa using he
      have he := Lib.hid he
      go_wp2
      refine bodyPost_ret (v := .tuple #[specAgg k, .bool true]) ?_ rfl (Or.inl ⟨k, hlt, he.out, rfl, ?_⟩)
      · simp [results, Tryz.results68, go_sem, specAgg, he.out, z0, z1, z2, z3, z4]
      · (repeat (first | with_reducible exact Ext.refl _ | with_reducible exact hE0 | with_reducible exact hE | with_reducible refine Ext.alloc ?_ _ | with_reducible refine Ext.drewN ?_ _ | with_reducible refine Ext.drew ?_ | ((with_reducible refine Ext.setCell ?_ ?side _); (case side => first | exact Nat.le_refl _ | (simp; done) | (simp; omega)))))
    · have hb : (dNum k == n) = false := by simpa using he
      have he := Lib.hid he
      go_wp2
      go_roundw
      case rel => exact ⟨k + 1, by omega, by go_num, fun j hj => (by by_cases e : j = k; exact e ▸ he.out; exact hno.out j (by omega)), hE, hB, hC⟩
      case measure => simp [intOf]; omega
  · go_wp2
    refine bodyPost_ret (v := .tuple #[specZero, .bool false]) ?_ rfl (Or.inr ⟨fun j hj => hno.out j (by omega), rfl, ?_⟩)
    · simp [results, Tryz.results68, go_sem, specZero, z0, z1, z2, z3, z4]
    · (repeat (first | with_reducible exact Ext.refl _ | with_reducible exact hE0 | with_reducible exact hE | with_reducible refine Ext.alloc ?_ _ | with_reducible refine Ext.drewN ?_ _ | with_reducible refine Ext.drew ?_ | ((with_reducible refine Ext.setCell ?_ ?side _); (case side => first | exact Nat.le_refl _ | (simp; done) | (simp; omega)))))

end Go.Proofs.YtkggloeaojkhaaaGreatDoor
