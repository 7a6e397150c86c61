/- Padded numbers (walks; printed by gen/h71.py). -/
import Derived.Test.YtkggloeaojkhaaaGreatDoorPa
import Derived.Test.YtkggloeaojkhaaaGreatDoorShelf
import Derived.Lib.ItoaLen
namespace Go.Proofs.YtkggloeaojkhaaaGreatDoor
open Go.RowKit
/-- The table of the powers of ten lies. -/
def Gw (w : World) : Prop := Lib.TabIs Tryz.prog w "internal/strconv.uint64pow10" .u64 Lib.pow10Tab
def padL (n wd : Nat) : List UInt8 := List.replicate (wd - (Lib.itoa (n : Int)).length) 48 ++ Lib.itoa (n : Int)
theorem plen_list (s : ByteArray) : s.data.toList.length = s.size := by rw [Array.length_toList]; rfl
theorem app_list (a b : ByteArray) : (a ++ b).data.toList = a.data.toList ++ b.data.toList := by simp [ByteArray.data_append]
theorem prepeatL_one (c : UInt8) (n : Nat) : Lib.repeatL [c] n = List.replicate n c := by
 induction n with
 | zero => rfl
 | succ n ih => simp [Lib.repeatL, ih, List.replicate_succ]
theorem Ext.growP {a b : World} (h : Ext a b) (os : Array Obj) : Ext a (Go.«Sort».grow b os) := by
 refine ⟨h.os, h.tape, h.output, ?_, fun k hk => ?_⟩
 · have := h.size; simp [Go.«Sort».grow]; omega
 · have := h.size
   rw [← h.block k hk]
   simp only [Go.«Sort».grow]
   rw [Array.getElem?_append_left (by omega)]
theorem itoaW (n : Nat) (w : World) (g : Gw w) (h1 : n ≤ 9223372036854775807) : Calls Tryz.prog 77 #[.int .i64 n] w fun e w' => ∃ r : ByteArray, e = .returned (.string r) ∧ r.data.toList = Lib.itoa (n : Int) ∧ r.size ≤ 21 ∧ Ext w w' := by
 refine (Tryz.strconv_Itoa n (by omega) (by omega) w g).mono ?_
 rintro e w1 ⟨rfl, k, os, rfl⟩
 exact ⟨_, rfl, rfl, by rw [← plen_list]; exact Lib.itoa_length_le (n : Int) (by omega) (by omega), Ext.growP ((Ext.refl w).drewN _) _⟩
theorem repW (c : Nat) (w : World) (hc : c ≤ 30) : Calls Tryz.prog 103 #[.string ⟨#[48]⟩, .int .i64 c] w fun e w' => ∃ r : ByteArray, e = .returned (.string r) ∧ r.data.toList = List.replicate c 48 ∧ Ext w w' := by
 refine (Tryz.strings_Repeat ⟨#[48]⟩ c w (by omega) (by simp [ByteArray.size]; omega)).mono ?_
 rintro e w1 ⟨rfl, hb⟩
 exact ⟨_, rfl, (prepeatL_one 48 c), hb⟩
set_option maxRecDepth 8000 in
set_option maxHeartbeats 4000000 in
theorem tpadded_any (n wd : Nat) (w : World) (g : Gw w) (h1 : n ≤ 9223372036854775807) (h2 : wd ≤ 30) : Calls Tryz.prog 101 #[.int .i64 n, .int .i64 wd] w fun e w' => ∃ r : ByteArray, e = .returned (.string r) ∧ r.data.toList = padL n wd ∧ Ext w w' := by
 have kI := Lib.hid (itoaW n w g h1)
 have kR := Lib.hid (fun c w1 (hc : c ≤ 30) => repW c w1 hc)
 obtain ⟨L, hL⟩ : ∃ L, L = Lib.itoa (n : Int) := ⟨_, rfl⟩
 have hend := Lib.hid (fun (a r : ByteArray) (w' : World) (h : Ext w w') (hr : r.data.toList = L) (ha : a.data.toList = List.replicate (wd - r.size) 48) => show ∃ z : ByteArray, (Ending.returned (.string (a ++ r))) = .returned (.string z) ∧ z.data.toList = padL n wd ∧ Ext w w' from ⟨a ++ r, rfl, by rw [app_list, ha, hr]; unfold padL; rw [← hL, ← plen_list, hr], h⟩)
 rw [← hL] at kI
 have hll : Hid True := Lib.hid trivial
 clear hL
 go_enter Tryz.func101, Tryz.ntmps101
 go_wp2_with fail
 refine kI.out.mono ?_
 rintro e w1 ⟨r, rfl, hr, hsz, hE⟩
 replace hr := Lib.hid hr
 go_wp2_with fail
 rw [show max (0 : Int) ((wd : Int) - (r.size : Int)) = ((wd - r.size : Nat) : Int) by omega]
 refine (kR.out _ _ (by omega)).mono ?_
 rintro e w2 ⟨a, rfl, ha, hE2⟩
 have has : a.size ≤ 30 := by rw [← plen_list, ha, List.length_replicate]; omega
 replace ha := Lib.hid ha
 go_wp2_with fail
 try go_ret
 exact hend.out a r _ (hE.trans hE2) hr.out ha.out
theorem formatW (n : Nat) (w : World) (g : Gw w) (h1 : n ≤ 9223372036854775807) : Calls Tryz.prog 102 #[.int .i64 n, .int .i64 10] w fun e w' => ∃ r : ByteArray, e = .returned (.string r) ∧ r.data.toList = Lib.itoa (n : Int) ∧ r.size ≤ 21 ∧ Ext w w' := by
 refine (Tryz.strconv_FormatInt_10 n (by omega) (by omega) w g).mono ?_
 rintro e w1 ⟨rfl, k, os, rfl⟩
 exact ⟨_, rfl, rfl, by rw [← plen_list]; exact Lib.itoa_length_le (n : Int) (by omega) (by omega), Ext.growP ((Ext.refl w).drewN _) _⟩
set_option maxRecDepth 8000 in
set_option maxHeartbeats 4000000 in
theorem adigits_any (n wd : Nat) (w : World) (g : Gw w) (h1 : n ≤ 9223372036854775807) (h2 : wd ≤ 30) : Calls Tryz.prog 59 #[.int .i64 n, .int .i64 wd] w fun e w' => ∃ r : ByteArray, e = .returned (.string r) ∧ r.data.toList = padL n wd ∧ Ext w w' := by
 have kI := Lib.hid (formatW n w g h1)
 have kR := Lib.hid (fun c w1 (hc : c ≤ 30) => repW c w1 hc)
 obtain ⟨L, hL⟩ : ∃ L, L = Lib.itoa (n : Int) := ⟨_, rfl⟩
 have hend := Lib.hid (fun (a r : ByteArray) (w' : World) (h : Ext w w') (hr : r.data.toList = L) (ha : a.data.toList = List.replicate (wd - r.size) 48) => show ∃ z : ByteArray, (Ending.returned (.string (a ++ r))) = .returned (.string z) ∧ z.data.toList = padL n wd ∧ Ext w w' from ⟨a ++ r, rfl, by rw [app_list, ha, hr]; unfold padL; rw [← hL, ← plen_list, hr], h⟩)
 rw [← hL] at kI
 have hll : Hid True := Lib.hid trivial
 clear hL
 go_enter Tryz.func59, Tryz.ntmps59
 go_wp2_with fail
 refine kI.out.mono ?_
 rintro e w1 ⟨r, rfl, hr, hsz, hE⟩
 replace hr := Lib.hid hr
 go_wp2_with fail
 rw [show max (0 : Int) ((wd : Int) - (r.size : Int)) = ((wd - r.size : Nat) : Int) by omega]
 refine (kR.out _ _ (by omega)).mono ?_
 rintro e w2 ⟨a, rfl, ha, hE2⟩
 have has : a.size ≤ 30 := by rw [← plen_list, ha, List.length_replicate]; omega
 replace ha := Lib.hid ha
 go_wp2_with fail
 try go_ret
 exact hend.out a r _ (hE.trans hE2) hr.out ha.out
end Go.Proofs.YtkggloeaojkhaaaGreatDoor
