/- Contracts of trace's Reference, NewSource and Source.Next (walks; printed by gen/h72.py). -/
import Derived.Test.YtkggloeaojkhaaaGreatDoorPp
import Derived.Test.YtkggloeaojkhaaaGreatDoorPr
import Derived.OwnWalk
namespace Go.Proofs.YtkggloeaojkhaaaGreatDoor
open Go.RowKit
theorem Gw.ext {a b : World} (g : Gw a) (h : Ext a b) : Gw b := var?_below (B := a.heap.size) h gPow (var?_lt gPow g) g
theorem Gl.gw {w : World} (g : Gl w) : Gw w := g.pow
/-- The parts of a reference, put together. -/
theorem ref_parts {d s n : Nat} (hd : d ≤ 99999) (hs : s ≤ 9) (hn : n ≤ 999999) {a b c : ByteArray} (ha : a.data.toList = padL d 5) (hb : b.data.toList = padL s 1) (hc : c.data.toList = padL n 6) : (a ++ b ++ c).data.toList = refL d s n := by
 rw [app_list, app_list, ha, hb, hc, padL_eq 5 d (by omega) (by omega), padL_eq 1 s (by omega) (by omega), padL_eq 6 n (by omega) (by omega)]
 rfl
theorem pad_size {n wd : Nat} {a : ByteArray} (ha : a.data.toList = padL n wd) (h1 : 1 ≤ wd) (h : n < 10 ^ wd) : a.size = wd := by
 rw [← plen_list, ha, padL_eq wd n h1 h, digW_len]
def RefP (l : List UInt8) (w : World) (e : Ending) (w' : World) : Prop := ∃ r : ByteArray, e = .returned (.tuple #[.string r, .int .i64 0]) ∧ r.data.toList = l ∧ Ext w w'
set_option maxRecDepth 8000 in
set_option maxHeartbeats 4000000 in
theorem reference_any (d s n : Nat) (w : World) (g : Gw w) (hd : d ≤ 99999) (hs : s ≤ 9) (hn : 1 ≤ n ∧ n ≤ 999999) : Calls Tryz.prog 58 #[.int .i64 d, .int .i64 s, .int .i64 n] w (RefP (refL d s n) w) := by
 have kP := Lib.hid (fun (k wd : Nat) w1 (g1 : Gw w1) (h1 : k ≤ 9223372036854775807) (h2 : wd ≤ 30) => tpadded_any k wd w1 g1 h1 h2)
 have hend := Lib.hid (fun (a b c : ByteArray) (ha : a.data.toList = padL d 5) (hb : b.data.toList = padL s 1) (hc : c.data.toList = padL n 6) => ref_parts hd hs hn.2 ha hb hc)
 have hz1 := Lib.hid (fun (a : ByteArray) (ha : a.data.toList = padL d 5) => pad_size ha (by omega) (by omega))
 have hz2 := Lib.hid (fun (a : ByteArray) (ha : a.data.toList = padL s 1) => pad_size ha (by omega) (by omega))
 have hz3 := Lib.hid (fun (a : ByteArray) (ha : a.data.toList = padL n 6) => pad_size ha (by omega) (by omega))
 replace g := Lib.hid g
 generalize hL : refL d s n = L at *
 clear hL
 have q0 : decide ((d : Int) < 0) = false := decide_eq_false (by omega)
 have q1 : decide ((99999 : Int) < (d : Int)) = false := decide_eq_false (by omega)
 have q2 : decide ((s : Int) < 0) = false := decide_eq_false (by omega)
 have q3 : decide ((9 : Int) < (s : Int)) = false := decide_eq_false (by omega)
 have q4 : decide ((n : Int) < 1) = false := decide_eq_false (by omega)
 have q5 : decide ((999999 : Int) < (n : Int)) = false := decide_eq_false (by omega)
 go_enter Tryz.func58, Tryz.ntmps58
 go_wp2_with fail
 refine (kP.out d 5 _ g.out (by omega) (by omega)).mono ?_
 rintro e w1 ⟨a, rfl, ha, hE1⟩
 have za := hz1.out a ha
 replace ha := Lib.hid ha
 go_wp2_with fail
 refine (kP.out s 1 _ (g.out.ext hE1) (by omega) (by omega)).mono ?_
 rintro e w2 ⟨b, rfl, hb, hE2⟩
 have zb := hz2.out b hb
 replace hb := Lib.hid hb
 replace hE2 := hE1.trans hE2
 clear hE1
 go_wp2_with fail
 refine (kP.out n 6 _ (g.out.ext hE2) (by omega) (by omega)).mono ?_
 rintro e w3 ⟨c, rfl, hc, hE3⟩
 have zc := hz3.out c hc
 replace hc := Lib.hid hc
 replace hE3 := hE2.trans hE3
 clear hE2
 go_wp2_with fail
 try go_ret2
 exact ⟨_, rfl, hend.out a b c ha.out hb.out hc.out, hE3⟩
/-- A source of trace numbers. -/
structure SrcM (w : World) (S : Nat) (sender last : Nat) : Prop where
 b : Blk w S #[.int .i64 sender, .int .i64 last] 123
 s : sender ≤ 9
 l : last ≤ 999999
theorem SrcM.ext {w w' : World} {S a b : Nat} (h : SrcM w S a b) (k : Ext w w') : SrcM w' S a b := ⟨h.b.ext k, h.s, h.l⟩
set_option maxHeartbeats 1000000 in
theorem newSource_any (sender : Nat) (w : World) (h : sender ≤ 9) : Calls Tryz.prog 20 #[.int .i64 sender] w fun e w' => ∃ S, e = .returned (.tuple #[.pointer (some ⟨S, 0, none⟩), .int .i64 0]) ∧ w.heap.size ≤ S ∧ SrcM w' S sender 0 ∧ Ext w w' := by
 have q0 : decide ((sender : Int) < 0) = false := decide_eq_false (by omega)
 have q1 : decide ((9 : Int) < (sender : Int)) = false := decide_eq_false (by omega)
 go_enter Tryz.func20, Tryz.ntmps20
 go_wp2_with fail
 try go_ret2
 exact ⟨_, rfl, Nat.le_refl _, ⟨Blk.new' _ _ _ _ rfl, h, by omega⟩, xt⟩
def NextP (S a b : Nat) (at' : Int) (w : World) (e : Ending) (w' : World) : Prop :=
 if (dayV at').1 < 0 then e = .returned (.tuple #[.int .i64 0, .string ⟨#[]⟩, .int .i64 14]) ∧ SrcM w' S a b ∧ Ext w w'
 else ∃ r : ByteArray, e = .returned (.tuple #[.int .i64 ((b % 999999 + 1 : Nat) : Int), .string r, .int .i64 0]) ∧ r.data.toList = refL (dayV at').1.toNat a (b % 999999 + 1) ∧ SrcM w' S a (b % 999999 + 1) ∧ Chg (fun k => k = S) w w'
theorem dayV_bd (n : Int) : (dayV n).1 = -1 ∨ (0 ≤ (dayV n).1 ∧ (dayV n).1 ≤ 99999) := by
 unfold dayV
 split
 · right
   simp only
   omega
 · exact Or.inl rfl
set_option maxRecDepth 8000 in
set_option maxHeartbeats 4000000 in
theorem srcNext_any (S a b : Nat) (at' : Int) (w : World) (g : Gw w) (h : SrcM w S a b) : Calls Tryz.prog 24 #[.pointer (some ⟨S, 0, none⟩), .int .i64 at'] w (NextP S a b at' w) := by
 have kD := Lib.hid (day_any at' w)
 have hbd := dayV_bd at'
 by_cases hn : (dayV at').1 < 0
 · have hend := Lib.hid (fun w' (k : Ext w w') => show NextP S a b at' w (.returned (.tuple #[.int .i64 0, .string ⟨#[]⟩, .int .i64 14])) w' from by unfold NextP; rw [if_pos hn]; exact ⟨rfl, h.ext k, k⟩)
   generalize NextP S a b at' w = PP at *
   generalize hd : (dayV at').1 = d at *
   generalize (dayV at').2 = d2 at *
   have q0 : decide (d < 0) = true := decide_eq_true hn
   clear hbd h hn hd
   go_enter Tryz.func24, Tryz.ntmps24
   go_wp2_with fail
   refine kD.out.mono ?_
   rintro e w1 ⟨rfl, hE⟩
   go_wp2_with fail
   go_ret3
   exact hend.out _ hE
 · obtain ⟨D, hD⟩ : ∃ D : Nat, (dayV at').1 = (D : Int) := ⟨(dayV at').1.toNat, by omega⟩
   have hDt : (dayV at').1.toNat = D := by omega
   have kR := Lib.hid (fun w1 (g1 : Gw w1) => reference_any D a (b % 999999 + 1) w1 g1 (by omega) h.s (by have := Nat.mod_lt b (show 0 < 999999 by decide); omega))
   have hend := Lib.hid (fun (w1 w' : World) (k : Ext w w1) (r : ByteArray) (hr : r.data.toList = refL D a (b % 999999 + 1)) (hw : w' = w1.setCell ⟨S, 1, none⟩ (.int .i64 ((b % 999999 + 1 : Nat) : Int))) => show NextP S a b at' w (.returned (.tuple #[.int .i64 ((b % 999999 + 1 : Nat) : Int), .string r, .int .i64 0])) w' from by
    unfold NextP
    rw [if_neg hn, hDt]
    subst hw
    exact ⟨r, rfl, hr, ⟨(h.b.ext k).set 1 _, h.s, by have := Nat.mod_lt b (show 0 < 999999 by decide); omega⟩, Chg.setCell (F := fun k => k = S) (Chg.ofExt k) (p := ⟨S, 1, none⟩) (Or.inl rfl) _⟩)
   generalize NextP S a b at' w = PP at *
   rw [hD] at kD
   generalize (dayV at').2 = d2 at *
   have q0 : decide ((D : Int) < 0) = false := decide_eq_false (by omega)
   have hm : Int.tmod (b : Int) 999999 = ((b % 999999 : Nat) : Int) := by rw [Int.tmod_eq_emod_of_nonneg (by omega)]; rfl
   have hmb : b % 999999 ≤ 999998 := by have := Nat.mod_lt b (show 0 < 999999 by decide); omega
   have y0 := (h.b.cell 0).trans rfl
   have y1 := (h.b.cell 1).trans rfl
   have z1 := h.b.fz 1
   have hlt := h.b.lt
   generalize b % 999999 = M at *
   clear hbd hn hD hDt
   have hb0 := Lib.hid h
   clear h
   replace g := Lib.hid g
   go_enter Tryz.func24, Tryz.ntmps24
   go_wp2_with fail
   refine kD.out.mono ?_
   rintro e w1 ⟨rfl, hE⟩
   replace y0 := hE.get y0
   replace y1 := hE.get y1
   replace z1 := hE.fz hlt z1
   replace hlt := Nat.lt_of_lt_of_le hlt hE.size
   go_wp2_with fail
   rw [show ((M : Int) + 1) = ((M + 1 : Nat) : Int) by omega]
   refine (kR.out _ (g.out.ext hE)).mono ?_
   rintro e w2 ⟨r, rfl, hr, hE2⟩
   replace y0 := hE2.get y0
   replace y1 := hE2.get y1
   replace z1 := hE2.fz hlt z1
   replace hlt := Nat.lt_of_lt_of_le hlt hE2.size
   replace hr := Lib.hid hr
   go_wp2_with fail
   go_ret3
   exact hend.out _ _ (hE.trans hE2) r hr.out rfl
end Go.Proofs.YtkggloeaojkhaaaGreatDoor
