/- Messages as data; contracts of message.find, of the closure of Get, of Get, and of the reference's Get (walks). Contracts of message.Get and of the reference's Get, areDigits, value, hasReply, asks (walks). Contracts of asks, areDigits, the reference's value, the reference's Same, and the law's small (walks). Contracts of slices.Equal at elements, message.Same and the law's small (walks). Contracts of the law's small and sign (walks). -/
import Derived.Test.YthokhncdpfaifaaGreatDoorBase
import Derived.LoopTactic
import Derived.Outline
import Derived.BigQuiet
import Derived.Deep.QuietTactic
import Derived.Test.YthokhncdpfaifaaGreatDoorWire
namespace Go.Proofs.YthokhncdpfaifaaGreatDoor
open Go.RowKit

/-- An element: its number and its value. -/
abbrev El := Int × ByteArray
def elD : El := (0, ⟨#[]⟩)
def elAgg (x : El) : Value := .agg #[.int .i64 x.1, .string x.2]
/-- v is a slice of elements that reads as es. -/
def Elems (w : World) (v : Value) (es : List El) : Prop :=
  ∃ p c, v = .slice p es.length c ∧ (0 < es.length → ∃ b off, p = some ⟨b, off, none⟩ ∧ ∀ i, i < es.length → w.cell? ⟨b, off + i * 2, none⟩ = some (.int .i64 (es.getD i elD).1) ∧ w.cell? ⟨b, off + i * 2 + 1, none⟩ = some (.string (es.getD i elD).2))
theorem Elems.ext {w w' : World} {v : Value} {es : List El} (h : Elems w v es) (k : Ext w w') : Elems w' v es := by
  obtain ⟨p, c, hv, hp⟩ := h
  refine ⟨p, c, hv, fun h0 => ?_⟩
  obtain ⟨b, off, hb, hc⟩ := hp h0
  exact ⟨b, off, hb, fun i hi => ⟨k.get (hc i hi).1, k.get (hc i hi).2⟩⟩
def msgAgg (ty : Int) (v : Value) : Value := .agg #[.int .i64 ty, v]
/-- The place of the first element for which p holds. -/
def firstP (p : Int → Bool) : List El → Option Nat
  | [] => none
  | x :: l => if p x.1 then some 0 else (firstP p l).map (· + 1)
theorem firstP_found (p : Int → Bool) : ∀ (l : List El) (k : Nat), k < l.length → (∀ j, j < k → p (l.getD j elD).1 = false) → p (l.getD k elD).1 = true → firstP p l = some k
  | [], k, h, _, _ => absurd h (by simp)
  | x :: l, 0, _, _, h => by simp [firstP] at h ⊢; exact h
  | x :: l, k + 1, hk, hj, h => by
    have h0 := hj 0 (by omega)
    have ih := firstP_found p l k (by simpa using hk) (fun j h' => by simpa using hj (j + 1) (by omega)) (by simpa using h)
    simp at h0
    simp [firstP, h0, ih]
theorem firstP_none (p : Int → Bool) : ∀ (l : List El), (∀ j, j < l.length → p (l.getD j elD).1 = false) → firstP p l = none
  | [], _ => rfl
  | x :: l, hj => by
    have h0 := hj 0 (by simp)
    have ih := firstP_none p l (fun j h' => by simpa using hj (j + 1) (by simpa using h'))
    simp at h0
    simp [firstP, h0, ih]
/-- What find returns. -/
def findI (p : Int → Bool) (l : List El) : Int := match firstP p l with | some k => k | none => -1
def OneV (v : Value) (w : World) (e : Ending) (w' : World) : Prop := e = .returned v ∧ Ext w w'

set_option maxRecDepth 8000 in
set_option maxHeartbeats 1000000 in
theorem mfind_any (c : Nat) (cap v : Value) (p : Int → Bool) (es : List El) (w : World) (hv : Elems w v es) (hl : es.length ≤ 1000000)
    (hcf : ∀ (args : Array Value) (w : World), (callFunc c args).run Tryz.prog w = .ok (.enter c args) w)
    (hcl : ∀ wr, Ext w wr → ∀ (n : Int) (s : ByteArray), Calls Tryz.prog c #[.agg #[.int .i64 n, .string s], cap] wr (OneV (.bool (p n)) wr)) :
    Calls Tryz.prog 60 #[v, .func (.func c) #[] #[cap]] w (OneV (.int .i64 (findI p es)) w) := by
  obtain ⟨q, cp, rfl, hp⟩ := hv
  have hP := Lib.hid hp
  have hC := Lib.hid hcl
  clear hp hcl
  go_enter Tryz.func60, Tryz.ntmps60
  go_wp2_with fail
  go_loopw [9] (fun i wr => ∃ k : Nat, k ≤ es.length ∧ i = .int .i64 k ∧ (∀ j, j < k → p (es.getD j elD).1 = false) ∧ Ext w wr) (fun i _ => es.length - (intOf i).toNat)
  case atStart => exact ⟨0, Nat.zero_le _, rfl, fun j hj => absurd hj (by omega), Ext.refl w⟩
  case round =>
    obtain ⟨k, hk, rfl, hno, hE⟩ := hrel
    have hno := Lib.hid hno
    by_cases hlt : k < es.length
    · obtain ⟨b, off, rfl, hcs⟩ := hP.out (by omega)
      have c0 := hE.get (hcs k hlt).1
      have c1 := hE.get (hcs k hlt).2
      clear hcs
      generalize hx : (es.getD k elD).1 = n at *
      generalize hy : (es.getD k elD).2 = s at *
      have hX := Lib.hid hx
      clear hx hy
      go_wp2_with fail
      refine (hC.out _ (hE.alloc _) n s).mono ?_
      rintro e w1 ⟨rfl, hE1⟩
      have hE2 := (hE.alloc _).trans hE1
      clear hE1
      cases hpn : p n with
      | true =>
        go_wp2
        go_ret
        refine ⟨?_, hE2⟩
        unfold findI
        rw [firstP_found p es k hlt hno.out (by rw [hX.out]; exact hpn)]
        rfl
      | false =>
        have hpn := Lib.hid hpn
        go_wp2
        go_roundw
        case rel => exact ⟨k + 1, by omega, by go_num, fun j hj => (by by_cases e : j = k; rw [e, hX.out]; exact hpn.out; exact hno.out j (by omega)), hE2⟩
        case measure => simp [intOf]; omega
    · go_wp2
      go_ret
      refine ⟨?_, hE⟩
      unfold findI
      rw [firstP_none p es (fun j hj => hno.out j (by omega))]
      rfl
end Go.Proofs.YthokhncdpfaifaaGreatDoor
namespace Go.Proofs.YthokhncdpfaifaaGreatDoor
open Go.RowKit
/-- The value of an element. -/
def getE (n : Int) (es : List El) : Option ByteArray := (firstP (fun m => m == n) es).map fun k => (es.getD k elD).2
def getS (n : Int) (es : List El) : ByteArray := (getE n es).getD ⟨#[]⟩
def getB (n : Int) (es : List El) : Bool := (getE n es).isSome
theorem firstP_spec (p : Int → Bool) : ∀ (l : List El) (k : Nat), firstP p l = some k → k < l.length ∧ p (l.getD k elD).1 = true ∧ ∀ j, j < k → p (l.getD j elD).1 = false
  | [], k, h => by cases h
  | x :: l, k, h => by
    unfold firstP at h
    by_cases hx : p x.1 = true
    · rw [if_pos hx] at h
      cases h
      exact ⟨by simp, by simpa using hx, fun j hj => absurd hj (by omega)⟩
    · rw [if_neg hx] at h
      cases hf : firstP p l with
      | none => rw [hf] at h; cases h
      | some j =>
        rw [hf] at h
        cases h
        obtain ⟨h1, h2, h3⟩ := firstP_spec p l j hf
        refine ⟨by simpa using h1, by simpa using h2, fun i hi => ?_⟩
        cases i with
        | zero => simpa using hx
        | succ i => simpa using h3 i (by simp at hi; omega)
theorem get1_any (B : Nat) (n m : Int) (s : ByteArray) (w : World) (hc : w.cell? ⟨B, 0, none⟩ = some (.int .i64 n)) :
    Calls Tryz.prog 61 #[.agg #[.int .i64 m, .string s], .pointer (some ⟨B, 0, none⟩)] w (OneV (.bool (m == n)) w) := by
  have hB : B < w.heap.size := cell_lt hc
  go_enter Tryz.func61, Tryz.ntmps61
  go_wp2
  go_ret
  exact ⟨rfl, (Ext.refl w).alloc _⟩
set_option maxRecDepth 8000 in
set_option maxHeartbeats 1000000 in
theorem get_any (ty n : Int) (v : Value) (es : List El) (w : World) (hv : Elems w v es) (hl : es.length ≤ 1000000) :
    Calls Tryz.prog 23 #[msgAgg ty v, .int .i64 n] w (OneV (.tuple #[.string (getS n es), .bool (getB n es)]) w) := by
  have hv0 := hv
  obtain ⟨q, cp, rfl, hp⟩ := hv
  have hP := Lib.hid hp
  have hV := Lib.hid hv0
  clear hp hv0
  unfold msgAgg
  go_enter Tryz.func23, Tryz.ntmps23
  go_wp2_with fail
  refine (mfind_any 61 _ _ (fun m => m == n) es _ (hV.out.ext (((Ext.refl w).alloc _).alloc _)) hl (fun _ _ => by kernel_rfl) ?_).mono ?_
  · intro wr hE m s
    exact get1_any _ n m s wr (hE.get (by simp [go_sem]))
  rintro e w1 ⟨rfl, hE1⟩
  have hB := ((Blk.new w _ _).alloc _).ext hE1
  have z1 := hB.cell 1
  simp at z1
  have hE2 := (((Ext.refl w).alloc _).alloc _).trans hE1
  clear hE1 hB
  cases hf : firstP (fun m => m == n) es with
  | none =>
    have hg : getE n es = none := by unfold getE; rw [hf]; rfl
    have hI : findI (fun m => m == n) es = -1 := by unfold findI; rw [hf]
    rw [hI]
    have hG := Lib.hid hg
    clear hg hI hf
    go_wp2
    go_ret2
    refine ⟨?_, hE2⟩
    unfold getS getB
    rw [hG.out]; rfl
  | some k =>
    obtain ⟨hk, _, _⟩ := firstP_spec _ es k hf
    have hg : getE n es = some (es.getD k elD).2 := by unfold getE; rw [hf]; rfl
    have hI : findI (fun m => m == n) es = (k : Int) := by unfold findI; rw [hf]
    rw [hI]
    have hG := Lib.hid hg
    clear hg hI hf
    obtain ⟨b, off, rfl, hcs⟩ := hP.out (by omega)
    have c1 := hE2.get (hcs k hk).2
    clear hcs hP hV
    generalize (es.getD k elD).2 = sv at *
    go_wp2
    go_ret2
    refine ⟨?_, hE2⟩
    unfold getS getB
    rw [hG.out]; rfl
set_option maxRecDepth 8000 in
set_option maxHeartbeats 1000000 in
theorem rGet_any (ty n : Int) (v : Value) (es : List El) (w : World) (hv : Elems w v es) (hl : es.length ≤ 1000000) :
    Calls Tryz.prog 25 #[msgAgg ty v, .int .i64 n] w (OneV (.tuple #[.string (getS n es), .bool (getB n es)]) w) := by
  obtain ⟨q, cp, rfl, hp⟩ := hv
  have hP := Lib.hid hp
  clear hp
  unfold msgAgg
  go_enter Tryz.func25, Tryz.ntmps25
  go_wp2
  go_loop [6] (fun i => ∃ k : Nat, k ≤ es.length ∧ i = .int .i64 k ∧ ∀ j, j < k → ((es.getD j elD).1 == n) = false) (fun i => es.length - (intOf i).toNat)
  case atStart => exact ⟨0, Nat.zero_le _, rfl, fun j hj => absurd hj (by omega)⟩
  case round =>
    obtain ⟨k, hk, rfl, hno⟩ := hrel
    have hno := Lib.hid hno
    by_cases hlt : k < es.length
    · obtain ⟨b, off, rfl, hcs⟩ := hP.out (by omega)
      have hE : Ext w (w.alloc (.cells #[.int .i64 ty, .slice (some ⟨b, off, none⟩) es.length cp] 24)) := (Ext.refl w).alloc _
      have c0 := hE.get (hcs k hlt).1
      have c1 := hE.get (hcs k hlt).2
      clear hcs
      generalize hx : (es.getD k elD).1 = m at *
      generalize hy : (es.getD k elD).2 = s at *
      have hX := Lib.hid hx
      have hY := Lib.hid hy
      clear hx hy
      by_cases he : m = n
      · have hb : (m == n) = true := by simpa using he
        have hB := Lib.hid hb
        clear he
        go_wp2
        go_ret2
        refine ⟨?_, (by repeat (first | with_reducible exact Ext.refl _ | with_reducible exact hE0 | with_reducible exact hE | with_reducible refine Ext.alloc ?_ _ | with_reducible refine Ext.drewN ?_ _ | with_reducible refine Ext.drew ?_ | ((with_reducible refine Ext.setCell ?_ ?side _); (case side => first | exact Nat.le_refl _ | (simp; done) | (simp; omega)))))⟩
        have hg : getE n es = some s := by unfold getE; rw [firstP_found _ es k hlt hno.out (by rw [hX.out]; exact hB.out), ← hY.out]; rfl
        unfold getS getB
        rw [hg]; rfl
      · have hb : (m == n) = false := by simpa using he
        have hB := Lib.hid hb
        clear he
        go_wp2
        go_round
        case rel => exact ⟨k + 1, by omega, by go_num, fun j hj => (by by_cases e : j = k; rw [e, hX.out]; exact hB.out; exact hno.out j (by omega))⟩
        case measure => simp [intOf]; omega
    · go_wp2
      go_ret2
      refine ⟨?_, (by repeat (first | with_reducible exact Ext.refl _ | with_reducible exact hE0 | with_reducible exact hE | with_reducible refine Ext.alloc ?_ _ | with_reducible refine Ext.drewN ?_ _ | with_reducible refine Ext.drew ?_ | ((with_reducible refine Ext.setCell ?_ ?side _); (case side => first | exact Nat.le_refl _ | (simp; done) | (simp; omega)))))⟩
      have hg : getE n es = none := by unfold getE; rw [firstP_none _ es (fun j hj => hno.out j (by omega))]; rfl
      unfold getS getB
      rw [hg]; rfl
/-- Whether a type has a reply. -/
def asksB (n : Int) : Bool := decide (1 ≤ n ∧ n ≤ 9989 ∧ (n % 100 = 0 ∨ n % 100 = 20))

set_option maxHeartbeats 1000000 in
theorem hasReply_any (n : Int) (w : World) : Calls Tryz.prog 56 #[.int .i64 n] w fun e w' => e = .returned (.bool (asksB n)) ∧ w = w' := by
  by_cases a : 1 ≤ n ∧ n ≤ 9989
  · obtain ⟨a1, a2⟩ := a
    by_cases b : n % 100 = 0
    · have hb : (n % 100 == 0) = true := by simpa using b
      have hA : asksB n = true := by unfold asksB; simp [a1, a2, b]
      have t1 : decide (n ≤ 9989) = true := by simpa using a2
      rw [hA]; clear hA b
      go_enter Tryz.func56, Tryz.ntmps56
      go_wp2
      go_ret
      exact ⟨rfl, rfl⟩
    · have hb : (n % 100 == 0) = false := by simpa using b
      have t1 : decide (n ≤ 9989) = true := by simpa using a2
      have hA : asksB n = (n % 100 == 20) := by unfold asksB; rw [Bool.eq_iff_iff]; simp [a1, a2, b]
      rw [hA]; clear hA b
      go_enter Tryz.func56, Tryz.ntmps56
      go_wp2
      go_ret
      exact ⟨rfl, rfl⟩
  · have hA : asksB n = false := by unfold asksB; rw [decide_eq_false_iff_not]; omega
    rw [hA]; clear hA
    by_cases a1 : 1 ≤ n
    · have t1 : decide (n ≤ 9989) = false := by simp; omega
      go_enter Tryz.func56, Tryz.ntmps56
      go_wp2
      go_ret
      exact ⟨rfl, rfl⟩
    · go_enter Tryz.func56, Tryz.ntmps56
      go_wp2
      go_ret
      exact ⟨rfl, rfl⟩
end Go.Proofs.YthokhncdpfaifaaGreatDoor
namespace Go.Proofs.YthokhncdpfaifaaGreatDoor
open Go.RowKit
set_option maxHeartbeats 1000000 in
theorem asks_any (n : Int) (w : World) : Calls Tryz.prog 57 #[.int .i64 n] w fun e w' => e = .returned (.bool (asksB n)) ∧ w = w' := by
  by_cases a : 1 ≤ n ∧ n ≤ 9989
  · obtain ⟨a1, a2⟩ := a
    by_cases b : n % 100 = 0
    · have hb : (n % 100 == 0) = true := by simpa using b
      have hA : asksB n = true := by unfold asksB; simp [a1, a2, b]
      have t1 : decide (n ≤ 9989) = true := by simpa using a2
      rw [hA]; clear hA b
      go_enter Tryz.func57, Tryz.ntmps57
      go_wp2
      go_ret
      exact ⟨rfl, rfl⟩
    · have hb : (n % 100 == 0) = false := by simpa using b
      have t1 : decide (n ≤ 9989) = true := by simpa using a2
      have hA : asksB n = (n % 100 == 20) := by unfold asksB; rw [Bool.eq_iff_iff]; simp [a1, a2, b]
      rw [hA]; clear hA b
      go_enter Tryz.func57, Tryz.ntmps57
      go_wp2
      go_ret
      exact ⟨rfl, rfl⟩
  · have hA : asksB n = false := by unfold asksB; rw [decide_eq_false_iff_not]; omega
    rw [hA]; clear hA
    by_cases a1 : 1 ≤ n
    · have t1 : decide (n ≤ 9989) = false := by simp; omega
      go_enter Tryz.func57, Tryz.ntmps57
      go_wp2
      go_ret
      exact ⟨rfl, rfl⟩
    · go_enter Tryz.func57, Tryz.ntmps57
      go_wp2
      go_ret
      exact ⟨rfl, rfl⟩

theorem ne_empty (s : ByteArray) : (!s.toList.isEmpty) = (true && decide (0 < s.size)) := by
  rw [ByteArray.toList_eq, Bool.true_and]
  have hl : s.data.toList.length = s.size := by rw [Array.length_toList]; rfl
  cases h : s.data.toList with
  | nil =>
    rw [h] at hl
    have h0 : s.size = 0 := hl.symm
    rw [h0]; rfl
  | cons a l =>
    rw [h, List.length_cons] at hl
    have h0 : 0 < s.size := by omega
    rw [decide_eq_true h0]; rfl
set_option maxHeartbeats 400000 in
theorem areDigits_any (s : ByteArray) (w : World) (hs : s.size ≤ 1000000) :
    Calls Tryz.prog 48 #[.string s] w fun e w' => e = .returned (.bool (allS digB s && decide (0 < s.size))) ∧ w = w' := by
  go_enter Tryz.func48, Tryz.ntmps48
  go_wp2
  go_loop [6] (fun i => ∃ k : Nat, k ≤ s.size ∧ i = .int .i64 k ∧ (s.data.toList.take k).all digB = true) (fun i => s.size - (intOf i).toNat)
  case atStart => exact ⟨0, Nat.zero_le _, rfl, rfl⟩
  case round =>
    obtain ⟨k, hk, rfl, hall⟩ := hrel
    have hH := Lib.hid hall
    clear hall
    by_cases hlt : k < s.size
    · go_wp2
      · go_ret
        exact ⟨ret_bool (by rw [show allS digB s = false from all_of_badP digB s k hlt (by simp [digB]; omega)]; rfl), rfl⟩
      · go_round
        case rel => exact ⟨k + 1, by omega, by go_num, by rw [all_take_snocP digB s k hlt, hH.out]; simp [digB]; omega⟩
        case measure => simp [intOf]; omega
      · go_ret
        exact ⟨ret_bool (by rw [show allS digB s = false from all_of_badP digB s k hlt (by simp [digB]; omega)]; rfl), rfl⟩
    · have hk' : s.data.toList.take k = s.data.toList := List.take_of_length_le (by simp; omega)
      have hA := hH.out
      rw [hk'] at hA
      have hS : Hid (allS digB s = true) := Lib.hid hA
      clear hA hk'
      go_wp2
      go_ret
      refine ⟨ret_bool ?_, rfl⟩
      rw [hS.out]
      exact ne_empty s
set_option maxHeartbeats 400000 in
theorem rValue_any (s : ByteArray) (w : World) (hs : s.size ≤ 15) :
    Calls Tryz.prog 52 #[.string s] w (NumPost s w) := by
  go_enter Tryz.func52, Tryz.ntmps52
  go_wp2
  go_loop [4, 5] (fun n i => ∃ k : Nat, k ≤ s.size ∧ i = .int .i64 k ∧ n = .int .i64 (numL (s.data.toList.take k)) ∧ (s.data.toList.take k).all digB = true) (fun _ i => s.size - (intOf i).toNat)
  case atStart => exact ⟨0, Nat.zero_le _, rfl, rfl, rfl⟩
  case round =>
    obtain ⟨k, hk, rfl, rfl, hall⟩ := hrel
    have hl : (s.data.toList.take k).length ≤ k := List.length_take_le _ _
    have hb := numL_bd15 _ hall (by omega)
    have hH := Lib.hid hall
    clear hall
    by_cases hlt : k < s.size
    · go_wp2
      · go_ret2
        exact ⟨0, false, rfl, ⟨(all_of_bad s k hlt (by simp [digB]; omega)).symm, rfl⟩, rfl⟩
      · go_round
        case rel => exact ⟨k + 1, by omega, by go_num, by rw [take_snoc s k hlt, numL_snoc], by rw [all_take_snoc s k hlt, hH.out]; simp [digB]; omega⟩
        case measure => simp [intOf]; omega
      · go_ret2
        exact ⟨0, false, rfl, ⟨(all_of_bad s k hlt (by simp [digB]; omega)).symm, rfl⟩, rfl⟩
    · go_wp2
      go_ret2
      have hk' : s.data.toList.take k = s.data.toList := List.take_of_length_le (by simp; omega)
      have hA := hH.out; rw [hk'] at hA ⊢
      exact ⟨_, true, rfl, ⟨hA.symm, rfl⟩, rfl⟩

/-- Equality of lists of elements, as the reference's Same decides it. -/
def sameB (ta tb : Int) (a b : List El) : Bool := decide (ta = tb ∧ a = b)
def SameM (b : Bool) (w : World) (e : Ending) (w' : World) : Prop := e = .returned (.bool b) ∧ Ext w w'
theorem el_step (a b : List El) (k : Nat) (h1 : k < a.length) (h2 : a.length = b.length) (h : a.take k = b.take k) (h3 : (a.getD k elD).1 = (b.getD k elD).1) (h4 : (a.getD k elD).2 = (b.getD k elD).2) : a.take (k + 1) = b.take (k + 1) := by
  rw [List.take_succ_eq_append_getElem h1, List.take_succ_eq_append_getElem (by omega), h]
  congr 1
  have e : a.getD k elD = b.getD k elD := Prod.ext h3 h4
  simpa [List.getD_eq_getElem?_getD, List.getElem?_eq_getElem h1, List.getElem?_eq_getElem (show k < b.length by omega)] using e
set_option maxRecDepth 8000 in
set_option maxHeartbeats 2000000 in
theorem rSame_any (ta tb : Int) (va vb : Value) (a b : List El) (w : World) (ha : Elems w va a) (hb : Elems w vb b) (hla : a.length ≤ 1000000) (hlb : b.length ≤ 1000000) :
    Calls Tryz.prog 17 #[msgAgg ta va, msgAgg tb vb] w (SameM (sameB ta tb a b) w) := by
  obtain ⟨p, c, rfl, hp⟩ := ha
  obtain ⟨q, d, rfl, hq⟩ := hb
  have hP := Lib.hid hp
  have hQ := Lib.hid hq
  clear hp hq
  unfold msgAgg
  by_cases ht : ta = tb
  · have htb : (ta != tb) = false := by simpa using ht
    have hT := Lib.hid ht
    clear ht
    by_cases hl : a.length = b.length
    · have hln : ((a.length : Int) != b.length) = false := by simp [hl]
      have hL := Lib.hid hl
      clear hl
      go_enter Tryz.func17, Tryz.ntmps17
      go_wp2_with fail
      go_loopw [5] (fun i wr => ∃ k : Nat, k ≤ a.length ∧ i = .int .i64 k ∧ a.take k = b.take k ∧ Ext w wr ∧ Blk wr w.heap.size #[.int .i64 ta, .slice p a.length c] 24 ∧ Blk wr (w.heap.size + 1) #[.int .i64 tb, .slice q b.length d] 24) (fun i _ => a.length - (intOf i).toNat)
      case atStart => exact ⟨0, Nat.zero_le _, rfl, rfl, (by repeat (first | with_reducible exact Ext.refl _ | with_reducible exact hE0 | with_reducible exact hE | with_reducible refine Ext.alloc ?_ _ | with_reducible refine Ext.drewN ?_ _ | with_reducible refine Ext.drew ?_ | ((with_reducible refine Ext.setCell ?_ ?side _); (case side => first | exact Nat.le_refl _ | (simp; done) | (simp; omega))))), (Blk.new _ _ _).alloc _, Blk.new' _ _ _ _ (by simp)⟩
      case round =>
        obtain ⟨k, hk, rfl, htk, hE, hB1, hB2⟩ := hrel
        have hTk := Lib.hid htk
        clear htk
        have z1 := hB1.cell 1
        have y1 := hB2.cell 1
        simp at z1 y1
        by_cases hlt : k < a.length
        · obtain ⟨b1, o1, rfl, hc1⟩ := hP.out (by omega)
          obtain ⟨b2, o2, rfl, hc2⟩ := hQ.out (by have := hL.out; omega)
          have hkb : k < b.length := by have := hL.out; omega
          have c0 := hE.get (hc1 k hlt).1
          have c1 := hE.get (hc1 k hlt).2
          have d0 := hE.get (hc2 k hkb).1
          have d1 := hE.get (hc2 k hkb).2
          clear hc1 hc2 hP hQ
          generalize hx : (a.getD k elD).1 = m1 at *
          generalize hy : (a.getD k elD).2 = s1 at *
          generalize hu : (b.getD k elD).1 = m2 at *
          generalize hv : (b.getD k elD).2 = s2 at *
          have HX := Lib.hid (And.intro hx (And.intro hy (And.intro hu hv)))
          clear hx hy hu hv
          by_cases hm : m1 = m2
          · subst hm
            by_cases hs : s1 = s2
            · subst hs
              go_wp2
              go_quiet (fail)
              go_wp2
              go_roundw
              case rel => exact ⟨k + 1, by omega, by go_num, el_step a b k hlt hL.out hTk.out (HX.out.1.trans HX.out.2.2.1.symm) (HX.out.2.1.trans HX.out.2.2.2.symm), hE.drewN _, hB1.drewN _, hB2.drewN _⟩
              case measure => simp [intOf]; omega
            · have hsb := strNe hs
              have hS := Lib.hid hs
              clear hs
              go_wp2
              go_quiet (fail)
              go_wp2
              go_ret
              refine ⟨ret_bool ?_, hE.drewN _⟩
              symm
              unfold sameB
              rw [decide_eq_false_iff_not]
              rintro ⟨_, e⟩
              subst e
              exact hS.out (HX.out.2.1.symm.trans HX.out.2.2.2)
          · have hmb : (m1 == m2) = false := by simpa using hm
            have hM := Lib.hid hm
            clear hm
            go_wp2
            go_quiet (fail)
            go_wp2
            go_ret
            refine ⟨ret_bool ?_, hE.drewN _⟩
            symm
            unfold sameB
            rw [decide_eq_false_iff_not]
            rintro ⟨_, e⟩
            subst e
            exact hM.out (HX.out.1.symm.trans HX.out.2.2.1)
        · go_wp2
          go_ret
          refine ⟨ret_bool ?_, hE⟩
          symm
          unfold sameB
          rw [decide_eq_true_iff]
          have h := hTk.out
          rw [List.take_of_length_le (by omega), List.take_of_length_le (by have := hL.out; omega)] at h
          exact ⟨hT.out, h⟩
    · have hln : ((a.length : Int) != b.length) = true := by simp; omega
      have hL := Lib.hid hl
      clear hl
      go_enter Tryz.func17, Tryz.ntmps17
      go_wp2
      go_ret
      refine ⟨ret_bool ?_, (by repeat (first | with_reducible exact Ext.refl _ | with_reducible exact hE0 | with_reducible exact hE | with_reducible refine Ext.alloc ?_ _ | with_reducible refine Ext.drewN ?_ _ | with_reducible refine Ext.drew ?_ | ((with_reducible refine Ext.setCell ?_ ?side _); (case side => first | exact Nat.le_refl _ | (simp; done) | (simp; omega)))))⟩
      symm
      unfold sameB
      rw [decide_eq_false_iff_not]
      rintro ⟨_, e⟩
      exact hL.out (by rw [e])
  · have htb : (ta != tb) = true := by simpa using ht
    have hT := Lib.hid ht
    clear ht
    go_enter Tryz.func17, Tryz.ntmps17
    go_wp2
    go_ret
    refine ⟨ret_bool ?_, (by repeat (first | with_reducible exact Ext.refl _ | with_reducible exact hE0 | with_reducible exact hE | with_reducible refine Ext.alloc ?_ _ | with_reducible refine Ext.drewN ?_ _ | with_reducible refine Ext.drew ?_ | ((with_reducible refine Ext.setCell ?_ ?side _); (case side => first | exact Nat.le_refl _ | (simp; done) | (simp; omega)))))⟩
    symm
    unfold sameB
    rw [decide_eq_false_iff_not]
    exact fun h => hT.out h.1
end Go.Proofs.YthokhncdpfaifaaGreatDoor
namespace Go.Proofs.YthokhncdpfaifaaGreatDoor
open Go.RowKit
set_option maxRecDepth 8000 in
set_option maxHeartbeats 2000000 in
theorem equal_any (va vb : Value) (a b : List El) (w : World) (ha : Elems w va a) (hb : Elems w vb b) (hla : a.length ≤ 1000000) (hlb : b.length ≤ 1000000) :
    Calls Tryz.prog 59 #[va, vb] w (SameM (decide (a = b)) w) := by
  obtain ⟨p, c, rfl, hp⟩ := ha
  obtain ⟨q, d, rfl, hq⟩ := hb
  have hP := Lib.hid hp
  have hQ := Lib.hid hq
  clear hp hq
  by_cases hl : a.length = b.length
  · have hln : ((a.length : Int) != b.length) = false := by simp [hl]
    have hL := Lib.hid hl
    clear hl
    go_enter Tryz.func59, Tryz.ntmps59
    go_wp2_with fail
    go_loopw [13] (fun i wr => ∃ k : Nat, k ≤ a.length ∧ i = .int .i64 k ∧ a.take k = b.take k ∧ Ext w wr) (fun i _ => a.length - (intOf i).toNat)
    case atStart => exact ⟨0, Nat.zero_le _, rfl, rfl, (by repeat (first | with_reducible exact Ext.refl _ | with_reducible exact hE0 | with_reducible exact hE | with_reducible refine Ext.alloc ?_ _ | with_reducible refine Ext.drewN ?_ _ | with_reducible refine Ext.drew ?_ | ((with_reducible refine Ext.setCell ?_ ?side _); (case side => first | exact Nat.le_refl _ | (simp; done) | (simp; omega)))))⟩
    case round =>
      obtain ⟨k, hk, rfl, htk, hE⟩ := hrel
      have hTk := Lib.hid htk
      clear htk
      by_cases hlt : k < a.length
      · obtain ⟨b1, o1, rfl, hc1⟩ := hP.out (by omega)
        obtain ⟨b2, o2, rfl, hc2⟩ := hQ.out (by have := hL.out; omega)
        have hkb : k < b.length := by have := hL.out; omega
        have c0 := hE.get (hc1 k hlt).1
        have c1 := hE.get (hc1 k hlt).2
        have d0 := hE.get (hc2 k hkb).1
        have d1 := hE.get (hc2 k hkb).2
        clear hc1 hc2 hP hQ
        generalize hx : (a.getD k elD).1 = m1 at *
        generalize hy : (a.getD k elD).2 = s1 at *
        generalize hu : (b.getD k elD).1 = m2 at *
        generalize hv : (b.getD k elD).2 = s2 at *
        have HX := Lib.hid (And.intro hx (And.intro hy (And.intro hu hv)))
        clear hx hy hu hv
        by_cases hm : m1 = m2
        · subst hm
          by_cases hs : s1 = s2
          · subst hs
            go_wp2
            go_quiet (fail)
            go_wp2
            go_roundw
            case rel => exact ⟨k + 1, by omega, by go_num, el_step a b k hlt hL.out hTk.out (HX.out.1.trans HX.out.2.2.1.symm) (HX.out.2.1.trans HX.out.2.2.2.symm), hE.drewN _⟩
            case measure => simp [intOf]; omega
          · have hsb := strNe hs
            have hS := Lib.hid hs
            clear hs
            go_wp2
            go_quiet (fail)
            go_wp2
            go_ret
            refine ⟨ret_bool ?_, hE.drewN _⟩
            symm
            rw [decide_eq_false_iff_not]
            intro e
            subst e
            exact hS.out (HX.out.2.1.symm.trans HX.out.2.2.2)
        · have hmb : (m1 == m2) = false := by simpa using hm
          have hM := Lib.hid hm
          clear hm
          go_wp2
          go_quiet (fail)
          go_wp2
          go_ret
          refine ⟨ret_bool ?_, hE.drewN _⟩
          symm
          rw [decide_eq_false_iff_not]
          intro e
          subst e
          exact hM.out (HX.out.1.symm.trans HX.out.2.2.1)
      · go_wp2
        go_ret
        refine ⟨ret_bool ?_, hE⟩
        symm
        rw [decide_eq_true_iff]
        have h := hTk.out
        rw [List.take_of_length_le (by omega), List.take_of_length_le (by have := hL.out; omega)] at h
        exact h
  · have hln : ((a.length : Int) != b.length) = true := by simp; omega
    have hL := Lib.hid hl
    clear hl
    go_enter Tryz.func59, Tryz.ntmps59
    go_wp2
    go_ret
    refine ⟨ret_bool ?_, (by repeat (first | with_reducible exact Ext.refl _ | with_reducible exact hE0 | with_reducible exact hE | with_reducible refine Ext.alloc ?_ _ | with_reducible refine Ext.drewN ?_ _ | with_reducible refine Ext.drew ?_ | ((with_reducible refine Ext.setCell ?_ ?side _); (case side => first | exact Nat.le_refl _ | (simp; done) | (simp; omega)))))⟩
    symm
    rw [decide_eq_false_iff_not]
    intro e
    exact hL.out (by rw [e])
set_option maxRecDepth 8000 in
set_option maxHeartbeats 2000000 in
theorem mSame_any (ta tb : Int) (va vb : Value) (a b : List El) (w : World) (ha : Elems w va a) (hb : Elems w vb b) (hla : a.length ≤ 1000000) (hlb : b.length ≤ 1000000) :
    Calls Tryz.prog 22 #[msgAgg ta va, msgAgg tb vb] w (SameM (sameB ta tb a b) w) := by
  have ha0 := Lib.hid ha
  have hb0 := Lib.hid hb
  obtain ⟨p, c, rfl, _⟩ := ha
  obtain ⟨q, d, rfl, _⟩ := hb
  unfold msgAgg
  by_cases ht : ta = tb
  · have htb : (ta == tb) = true := by simpa using ht
    have hT := Lib.hid ht
    clear ht
    go_enter Tryz.func22, Tryz.ntmps22
    go_wp2_with fail
    refine (equal_any _ _ a b _ (ha0.out.ext (((Ext.refl w).alloc _).alloc _)) (hb0.out.ext (((Ext.refl w).alloc _).alloc _)) hla hlb).mono ?_
    rintro e w1 ⟨rfl, hE⟩
    have hE1 := (((Ext.refl w).alloc _).alloc _).trans hE
    clear hE
    go_wp2
    go_ret
    refine ⟨ret_bool ?_, hE1⟩
    unfold sameB
    rw [hT.out]; simp
  · have htb : (ta == tb) = false := by simpa using ht
    have hT := Lib.hid ht
    clear ht
    go_enter Tryz.func22, Tryz.ntmps22
    go_wp2
    go_ret
    refine ⟨ret_bool ?_, (by repeat (first | with_reducible exact Ext.refl _ | with_reducible exact hE0 | with_reducible exact hE | with_reducible refine Ext.alloc ?_ _ | with_reducible refine Ext.drewN ?_ _ | with_reducible refine Ext.drew ?_ | ((with_reducible refine Ext.setCell ?_ ?side _); (case side => first | exact Nat.le_refl _ | (simp; done) | (simp; omega)))))⟩
    symm
    unfold sameB
    rw [decide_eq_false_iff_not]
    exact fun h => hT.out h.1
end Go.Proofs.YthokhncdpfaifaaGreatDoor
namespace Go.Proofs.YthokhncdpfaifaaGreatDoor
open Go.RowKit
def smallB (es : List El) : Bool := decide (es.length ≤ 60) && es.all (fun x => decide (x.2.size ≤ 400))
theorem small_big (es : List El) (h : 60 < es.length) : smallB es = false := by unfold smallB; rw [decide_eq_false (by omega)]; rfl
theorem small_bad (es : List El) (k : Nat) (hk : k < es.length) (h : 400 < (es.getD k elD).2.size) : smallB es = false := by
  unfold smallB
  have : es.all (fun x => decide (x.2.size ≤ 400)) = false := by
    rw [List.all_eq_false]
    refine ⟨es[k], List.getElem_mem hk, ?_⟩
    simp only [List.getD_eq_getElem?_getD, List.getElem?_eq_getElem hk, Option.getD_some] at h
    simp; omega
  rw [this, Bool.and_false]
theorem small_ok (es : List El) (h : es.length ≤ 60) (hall : ∀ j, j < es.length → (es.getD j elD).2.size ≤ 400) : smallB es = true := by
  unfold smallB
  rw [decide_eq_true h, Bool.true_and, List.all_eq_true]
  intro x hx
  obtain ⟨k, hk, rfl⟩ := List.getElem_of_mem hx
  have := hall k hk
  simp only [List.getD_eq_getElem?_getD, List.getElem?_eq_getElem hk, Option.getD_some] at this
  simpa using this
set_option maxRecDepth 8000 in
set_option maxHeartbeats 2000000 in
theorem small_any (ty : Int) (v : Value) (es : List El) (w : World) (hv : Elems w v es) (hl : es.length ≤ 9223372036854775807) (hsz : ∀ j, j < es.length → (es.getD j elD).2.size ≤ 9223372036854775807) :
    Calls Tryz.prog 9 #[msgAgg ty v] w (SameM (smallB es) w) := by
  obtain ⟨p, c, rfl, hp⟩ := hv
  have hP := Lib.hid hp
  have hSz := Lib.hid hsz
  clear hp hsz
  unfold msgAgg
  go_enter Tryz.func9, Tryz.ntmps9
  go_wp2
  go_loop [3] (fun i => ∃ k : Nat, k ≤ es.length ∧ k ≤ 60 ∧ i = .int .i64 k ∧ ∀ j, j < k → (es.getD j elD).2.size ≤ 400) (fun i => es.length - (intOf i).toNat)
  case atStart => exact ⟨0, Nat.zero_le _, by omega, rfl, fun j hj => absurd hj (by omega)⟩
  case round =>
    obtain ⟨k, hk, hk60, rfl, hall⟩ := hrel
    have hA := Lib.hid hall
    clear hall
    by_cases hlt : k < es.length
    · obtain ⟨b, off, rfl, hcs⟩ := hP.out (by omega)
      have hE : Ext w (w.alloc (.cells #[.int .i64 ty, .slice (some ⟨b, off, none⟩) es.length c] 24)) := (Ext.refl w).alloc _
      have c1 := hE.get (hcs k hlt).2
      have hs1 := hSz.out k hlt
      clear hcs
      by_cases h60 : k < 60
      · generalize hy : (es.getD k elD).2 = s at *
        have hY := Lib.hid hy
        clear hy
        by_cases hb : s.size ≤ 400
        · have t1 : decide (400 < (s.size : Int)) = false := by simp; omega
          go_wp2
          go_round
          case rel => exact ⟨k + 1, by omega, by omega, by go_num, fun j hj => (by by_cases e : j = k; rw [e, hY.out]; exact hb; exact hA.out j (by omega))⟩
          case measure => simp [intOf]; omega
        · have t1 : decide (400 < (s.size : Int)) = true := by simp; omega
          have hbad := Lib.hid (small_bad es k hlt (by rw [hY.out]; omega))
          go_wp2
          go_ret
          exact ⟨ret_bool hbad.out.symm, (by repeat (first | with_reducible exact Ext.refl _ | with_reducible exact hE0 | with_reducible exact hE | with_reducible refine Ext.alloc ?_ _ | with_reducible refine Ext.drewN ?_ _ | with_reducible refine Ext.drew ?_ | ((with_reducible refine Ext.setCell ?_ ?side _); (case side => first | exact Nat.le_refl _ | (simp; done) | (simp; omega)))))⟩
      · have hbad := Lib.hid (small_big es (by omega))
        go_wp2
        go_ret
        exact ⟨ret_bool hbad.out.symm, (by repeat (first | with_reducible exact Ext.refl _ | with_reducible exact hE0 | with_reducible exact hE | with_reducible refine Ext.alloc ?_ _ | with_reducible refine Ext.drewN ?_ _ | with_reducible refine Ext.drew ?_ | ((with_reducible refine Ext.setCell ?_ ?side _); (case side => first | exact Nat.le_refl _ | (simp; done) | (simp; omega)))))⟩
    · have hok := Lib.hid (small_ok es (by omega) (fun j hj => hA.out j (by omega)))
      go_wp2
      go_ret
      exact ⟨ret_bool hok.out.symm, (by repeat (first | with_reducible exact Ext.refl _ | with_reducible exact hE0 | with_reducible exact hE | with_reducible refine Ext.alloc ?_ _ | with_reducible refine Ext.drewN ?_ _ | with_reducible refine Ext.drew ?_ | ((with_reducible refine Ext.setCell ?_ ?side _); (case side => first | exact Nat.le_refl _ | (simp; done) | (simp; omega)))))⟩
end Go.Proofs.YthokhncdpfaifaaGreatDoor
