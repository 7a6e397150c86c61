/- Contracts of wire.Var and wire.Alpha. -/
import Derived.Test.YthokhncdpfaifaaGreatDoorWire
import Derived.WalkKit
import Derived.WalkSpells
import Derived.WalkLawsBesides
import Derived.LoopTactic
import Derived.Outline
import Derived.BigQuiet
import Derived.Deep.QuietTactic
import Derived.Lib.Hide
namespace Go.Proofs.YthokhncdpfaifaaGreatDoor
open Go.RowKit


theorem itoa_1 (n : Nat) (h : n < 10) : Lib.itoa n = [UInt8.ofNat (48 + n)] := by
  unfold Lib.itoa; rw [if_neg (by omega), Int.toNat_natCast, Lib.decDigits]; simp [h]
theorem itoa_2 (n : Nat) (h : 10 ≤ n) (h' : n < 100) : Lib.itoa n = [UInt8.ofNat (48 + n / 10), UInt8.ofNat (48 + n % 10)] := by
  unfold Lib.itoa; rw [if_neg (by omega), Int.toNat_natCast, Lib.decDigits, dif_neg (by omega), Lib.decDigits, dif_pos (by omega)]; simp
theorem itoa_3 (n : Nat) (h : 100 ≤ n) (h' : n < 1000) : Lib.itoa n = [UInt8.ofNat (48 + n / 100), UInt8.ofNat (48 + n / 10 % 10), UInt8.ofNat (48 + n % 10)] := by
  unfold Lib.itoa; rw [if_neg (by omega), Int.toNat_natCast, Lib.decDigits, dif_neg (by omega), Lib.decDigits, dif_neg (by omega), Lib.decDigits, dif_pos (by omega)]; simp [Nat.div_div_eq_div_mul]
/-- The digits of a length. -/
def lenDig (d n : Nat) : List UInt8 := if d = 2 then [UInt8.ofNat (48 + n / 10), UInt8.ofNat (48 + n % 10)] else [UInt8.ofNat (48 + n / 100), UInt8.ofNat (48 + n / 10 % 10), UInt8.ofNat (48 + n % 10)]
theorem pad_len (d n : Nat) (hd : d = 2 ∨ d = 3) (h2 : d = 2 → n < 100) (h3 : n < 1000) : (Lib.itoa n).length ≤ d ∧ List.replicate ((d : Int) - (Lib.itoa n).length).toNat 48 ++ Lib.itoa n = lenDig d n := by
  unfold lenDig
  by_cases a : n < 10
  · rw [itoa_1 n a]
    rcases hd with rfl | rfl
    · refine ⟨by simp, ?_⟩
      rw [if_pos rfl, show n / 10 = 0 by omega, show n % 10 = n by omega]; rfl
    · refine ⟨by simp, ?_⟩
      rw [if_neg (by omega), show n / 10 = 0 by omega, show n / 100 = 0 by omega, show n % 10 = n by omega]; rfl
  · by_cases b : n < 100
    · rw [itoa_2 n (by omega) b]
      rcases hd with rfl | rfl
      · exact ⟨by simp, by simp⟩
      · refine ⟨by simp, ?_⟩
        rw [if_neg (by omega), show n / 100 = 0 by omega, show n / 10 % 10 = n / 10 by omega]; rfl
    · rw [itoa_3 n (by omega) h3]
      rcases hd with rfl | rfl
      · exact absurd (h2 rfl) b
      · exact ⟨by simp, by simp⟩

def VarPost (s : ByteArray) (d : Nat) (w : World) (e : Ending) (w' : World) : Prop :=
  (((d = 2 ∧ 99 < s.size) ∨ 255 < s.size) ∧ e = .returned (.tuple #[.string ⟨#[]⟩, .int .i64 3]) ∧ Ext w w') ∨
  (((d = 2 → s.size ≤ 99) ∧ s.size ≤ 255) ∧ ∃ r : ByteArray, r.data.toList = lenDig d s.size ++ s.data.toList ∧ e = .returned (.tuple #[.string r, .int .i64 0]) ∧ Ext w w')

set_option maxHeartbeats 400000 in
theorem var2_any (s : ByteArray) (w : World) (g : Gl w) (hs : s.size ≤ 1000000) :
    Calls Tryz.prog 68 #[.string s, .int .i64 2] w (VarPost s 2 w) := by
  by_cases h : s.size ≤ 99
  · have hpl := Lib.hid (pad_len 2 s.size (Or.inl rfl) (by omega) (by omega))
    go_enter Tryz.func68, Tryz.ntmps68
    go_wp2_with fail
    refine (padded_any _ 2 _ g (by omega) (by omega) (by omega) (by omega)).mono ?_
    rintro e w1 (⟨hx, rfl, hE⟩ | ⟨hx, r, hr, rfl, hE⟩)
    · have := hpl.out.1; omega
    · have hr := Lib.hid hr
      have hrs : r.size = 2 := by
        have := congrArg List.length hr.out
        have h2 := hpl.out.2
        rw [show ((2 : Nat) : Int) = 2 from rfl] at h2
        rw [h2] at this
        simpa [lenDig] using this
      go_wp2
      go_ret2
      refine Or.inr ⟨⟨fun _ => h, by omega⟩, _, ?_, rfl, hE⟩
      have h2 := hpl.out.2
      rw [show ((2 : Nat) : Int) = 2 from rfl] at h2
      rw [← h2, ← hr.out]; simp
  · go_enter Tryz.func68, Tryz.ntmps68
    go_wp2
    go_ret2
    exact Or.inl ⟨Or.inl ⟨rfl, by omega⟩, rfl, Ext.refl _⟩

set_option maxHeartbeats 400000 in
theorem var3_any (s : ByteArray) (w : World) (g : Gl w) (hs : s.size ≤ 1000000) :
    Calls Tryz.prog 68 #[.string s, .int .i64 3] w (VarPost s 3 w) := by
  by_cases h : s.size ≤ 255
  · have hpl := Lib.hid (pad_len 3 s.size (Or.inr rfl) (by omega) (by omega))
    go_enter Tryz.func68, Tryz.ntmps68
    go_wp2_with fail
    refine (padded_any _ 3 _ g (by omega) (by omega) (by omega) (by omega)).mono ?_
    rintro e w1 (⟨hx, rfl, hE⟩ | ⟨hx, r, hr, rfl, hE⟩)
    · have := hpl.out.1; omega
    · have hr := Lib.hid hr
      have hrs : r.size = 3 := by
        have := congrArg List.length hr.out
        have h2 := hpl.out.2
        rw [show ((3 : Nat) : Int) = 3 from rfl] at h2
        rw [h2] at this
        simpa [lenDig] using this
      go_wp2
      go_ret2
      refine Or.inr ⟨⟨fun h => by omega, by omega⟩, _, ?_, rfl, hE⟩
      have h2 := hpl.out.2
      rw [show ((3 : Nat) : Int) = 3 from rfl] at h2
      rw [← h2, ← hr.out]; simp
  · go_enter Tryz.func68, Tryz.ntmps68
    go_wp2
    go_ret2
    exact Or.inl ⟨Or.inr (by omega), rfl, Ext.refl _⟩

/-- wire.Alpha at a value that is printable, not ended by a space and not too long. -/
def AlphaPost (s : ByteArray) (k : Nat) (w : World) (e : Ending) (w' : World) : Prop :=
  ∃ r : ByteArray, r.data.toList = s.data.toList ++ List.replicate (k - s.size) 32 ∧ e = .returned (.tuple #[.string r, .int .i64 0]) ∧ Ext w w'
theorem hasSuffix_any (s p : ByteArray) (w : World) (hs : s.size ≤ 9223372036854775807) : Calls Tryz.prog 100 #[.string s, .string p] w fun e w' => e = .returned (.bool (Lib.hasSuffix s.data.toList p.data.toList)) ∧ w = w' :=
  (Tryz.strings_HasSuffix s p w hs).mono fun _ _ ⟨a, b⟩ => ⟨a, b.symm⟩
set_option maxHeartbeats 400000 in
theorem alpha_any (s : ByteArray) (k : Nat) (w : World) (h1 : 1 ≤ k) (h2 : k ≤ 255) (hs : s.size ≤ k) (hp : allS prB s = true) (hx : Lib.hasSuffix s.data.toList [32] = false) :
    Calls Tryz.prog 69 #[.string s, .int .i64 k] w (AlphaPost s k w) := by
  have hc : (k : Int) - s.size = ((k - s.size : Nat) : Int) := by omega
  have hC := Lib.hid hc
  clear hc
  go_enter Tryz.func69, Tryz.ntmps69
  go_wp2_with (first | (go_at_call 99; refine (isPrintable_any _ _ (by omega)).mono ?_; rintro e w1 ⟨rfl, rfl⟩) | (go_at_call 100; refine (hasSuffix_any _ _ _ (by omega)).mono ?_; rintro e w1 ⟨rfl, rfl⟩))
  rw [hC.out]
  refine (Tryz.strings_Repeat _ _ _ (by omega) (by show 1 * (k - s.size) ≤ _; omega)).mono ?_
  rintro e w1 ⟨rfl, hb⟩
  have hE : Ext w w1 := hb
  clear hb
  have hl : (Lib.repeatL [32] (k - s.size)).length ≤ 255 := by rw [repeatL_one, List.length_replicate]; omega
  go_wp2
  go_ret2
  refine ⟨_, ?_, rfl, hE⟩
  rw [repeatL_one]
  simp
end Go.Proofs.YthokhncdpfaifaaGreatDoor
