/- A message's Get and Number and the reference's (cut out of XWire, XMsg, XMsgb, XMsgc, XMsgnu). -/
import Derived.Test.YtangdoidkcelfaaGreatDoorEa
import Derived.LoopTactic
import Derived.Outline
import Derived.BigQuiet
import Derived.Deep.QuietTactic
namespace Go.Proofs.YtangdoidkcelfaaGreatDoor
open Go.RowKit
def digB (c : UInt8) : Bool := decide (48 ≤ c.toNat) && decide (c.toNat ≤ 57)
def numL (l : List UInt8) : Int := l.foldl (fun n c => 10 * n + ((c.toNat : Int) - 48)) 0

theorem numL_snoc (l : List UInt8) (c : UInt8) : numL (l ++ [c]) = 10 * numL l + ((c.toNat : Int) - 48) := by
 simp [numL, List.foldl_append]
theorem take_snoc (s : ByteArray) (k : Nat) (h : k < s.size) : s.data.toList.take (k + 1) = s.data.toList.take k ++ [s[k]] := by
 rw [List.take_succ_eq_append_getElem (by simpa using h)]; rfl

theorem numL_bd (l : List UInt8) (h : l.all digB = true) : 0 ≤ numL l ∧ numL l < 10 ^ l.length := by
 have key : ∀ (n : Nat) (l : List UInt8), l.length = n → l.all digB = true → 0 ≤ numL l ∧ numL l < 10 ^ n := by
  intro n
  induction n with
  | zero => intro l hl _; rw [List.length_eq_zero_iff.1 hl]; simp [numL]
  | succ n ih =>
   intro l hl h
   obtain ⟨i, c, rfl⟩ : ∃ i c, l = i ++ [c] := ⟨l.dropLast, l.getLast (by intro e; simp [e] at hl), (List.dropLast_concat_getLast _).symm⟩
   simp only [List.all_append, List.all_cons, List.all_nil, Bool.and_true, Bool.and_eq_true] at h
   have := ih i (by simpa using hl) h.1
   have hc : 48 ≤ c.toNat ∧ c.toNat ≤ 57 := by simpa [digB] using h.2
   rw [numL_snoc, Int.pow_succ]
   omega
 exact key _ l rfl h
theorem numL_bd15 (l : List UInt8) (h : l.all digB = true) (hl : l.length ≤ 15) : 0 ≤ numL l ∧ numL l ≤ 1000000000000000 := by
 have := numL_bd l h
 have h2 : (10 : Int) ^ l.length ≤ 10 ^ 15 := by
  have : (10 : Nat) ^ l.length ≤ 10 ^ 15 := Nat.pow_le_pow_right (by omega) hl
  exact_mod_cast this
 omega

def NumP (s : ByteArray) (n : Int) (ok : Bool) : Prop := ok = s.data.toList.all digB ∧ n = if ok then numL s.data.toList else 0
def NumPost (s : ByteArray) (w : World) (e : Ending) (w' : World) : Prop := ∃ n ok, e = .returned (.tuple #[.int .i64 n, .bool ok]) ∧ NumP s n ok ∧ w = w'

theorem all_take_snoc (s : ByteArray) (k : Nat) (h : k < s.size) : (s.data.toList.take (k + 1)).all digB = ((s.data.toList.take k).all digB && digB s[k]) := by
 rw [take_snoc s k h]; simp
theorem all_of_bad (s : ByteArray) (k : Nat) (h : k < s.size) (hc : digB s[k] = false) : s.data.toList.all digB = false := by
 rw [List.all_eq_false]
 exact ⟨s[k], by simp [ByteArray.getElem_eq_getElem_data], by simp [hc]⟩

theorem all_take_snocP (p : UInt8 → Bool) (s : ByteArray) (k : Nat) (h : k < s.size) : (s.data.toList.take (k + 1)).all p = ((s.data.toList.take k).all p && p s[k]) := by
 rw [take_snoc s k h]; simp
theorem all_of_badP (p : UInt8 → Bool) (s : ByteArray) (k : Nat) (h : k < s.size) (hc : p s[k] = false) : s.data.toList.all p = false := by
 rw [List.all_eq_false]
 exact ⟨s[k], by simp [ByteArray.getElem_eq_getElem_data], by simp [hc]⟩
def allS (p : UInt8 → Bool) (s : ByteArray) : Bool := s.data.toList.all p
theorem ret_bool {a b : Bool} (h : a = b) : Ending.returned (.bool a) = .returned (.bool b) := by rw [h]

/-- An element: its number and its value. -/
abbrev El := Int × ByteArray
def elD : El := (0, ⟨#[]⟩)
def elAgg (x : El) : Value := .agg #[.int .i64 x.1, .string x.2]
/-- v is a slice of elements that reads as es. -/
def Elems (w : World) (v : Value) (es : List El) : Prop :=
 ∃ p c, v = .slice p es.length c ∧ (0 < es.length → ∃ b off, p = some ⟨b, off, none⟩ ∧ ∀ i, i < es.length → w.cell? ⟨b, off + i * 2, none⟩ = some (.int .i64 (es.getD i elD).1) ∧ w.cell? ⟨b, off + i * 2 + 1, none⟩ = some (.string (es.getD i elD).2))
theorem Elems.ext {w w' : World} {v : Value} {es : List El} (h : Elems w v es) (k : Ext w w') : Elems w' v es := by
 obtain ⟨p, c, hv, hp⟩ := h
 refine ⟨p, c, hv, fun h0 => ?_⟩
 obtain ⟨b, off, hb, hc⟩ := hp h0
 exact ⟨b, off, hb, fun i hi => ⟨k.get (hc i hi).1, k.get (hc i hi).2⟩⟩
def msgAgg (ty : Int) (v : Value) : Value := .agg #[.int .i64 ty, v]
/-- The place of the first element for which p holds. -/
def firstP (p : Int → Bool) : List El → Option Nat
 | [] => none
 | x :: l => if p x.1 then some 0 else (firstP p l).map (· + 1)
theorem firstP_found (p : Int → Bool) : ∀ (l : List El) (k : Nat), k < l.length → (∀ j, j < k → p (l.getD j elD).1 = false) → p (l.getD k elD).1 = true → firstP p l = some k
 | [], k, h, _, _ => absurd h (by simp)
 | x :: l, 0, _, _, h => by simp [firstP] at h ⊢; exact h
 | x :: l, k + 1, hk, hj, h => by
  have h0 := hj 0 (by omega)
  have ih := firstP_found p l k (by simpa using hk) (fun j h' => by simpa using hj (j + 1) (by omega)) (by simpa using h)
  simp at h0
  simp [firstP, h0, ih]
theorem firstP_none (p : Int → Bool) : ∀ (l : List El), (∀ j, j < l.length → p (l.getD j elD).1 = false) → firstP p l = none
 | [], _ => rfl
 | x :: l, hj => by
  have h0 := hj 0 (by simp)
  have ih := firstP_none p l (fun j h' => by simpa using hj (j + 1) (by simpa using h'))
  simp at h0
  simp [firstP, h0, ih]
/-- What find returns. -/
def findI (p : Int → Bool) (l : List El) : Int := match firstP p l with | some k => k | none => -1
set_option maxRecDepth 8000 in
set_option maxHeartbeats 1000000 in
theorem mfind_any (c : Nat) (cap v : Value) (p : Int → Bool) (es : List El) (w : World) (hv : Elems w v es) (hl : es.length ≤ 1000000)
 (hcf : ∀ (args : Array Value) (w : World), (callFunc c args).run Tryz.prog w = .ok (.enter c args) w)
 (hcl : ∀ wr, Ext w wr → ∀ (n : Int) (s : ByteArray), Calls Tryz.prog c #[.agg #[.int .i64 n, .string s], cap] wr (OneV (.bool (p n)) wr)) :
 Calls Tryz.prog 52 #[v, .func (.func c) #[] #[cap]] w (OneV (.int .i64 (findI p es)) w) := by
 obtain ⟨q, cp, rfl, hp⟩ := hv
 have hP := Lib.hid hp
 have hC := Lib.hid hcl
 clear hp hcl
 go_enter Tryz.func52, Tryz.ntmps52
 go_wp2_with fail
 go_loopw [9] (fun i wr => ∃ k : Nat, k ≤ es.length ∧ i = .int .i64 k ∧ (∀ j, j < k → p (es.getD j elD).1 = false) ∧ Ext w wr) (fun i _ => es.length - (intOf i).toNat)
 case atStart => exact ⟨0, Nat.zero_le _, rfl, fun j hj => absurd hj (by omega), Ext.refl w⟩
 case round =>
  obtain ⟨k, hk, rfl, hno, hE⟩ := hrel
  have hno := Lib.hid hno
  by_cases hlt : k < es.length
  · obtain ⟨b, off, rfl, hcs⟩ := hP.out (by omega)
    have c0 := hE.get (hcs k hlt).1
    have c1 := hE.get (hcs k hlt).2
    clear hcs
    generalize hx : (es.getD k elD).1 = n at *
    generalize hy : (es.getD k elD).2 = s at *
    have hX := Lib.hid hx
    clear hx hy
    go_wp2_with fail
    refine (hC.out _ (hE.alloc _) n s).mono ?_
    rintro e w1 ⟨rfl, hE1⟩
    have hE2 := (hE.alloc _).trans hE1
    clear hE1
    cases hpn : p n with
    | true =>
     go_wp2
     go_ret
     refine ⟨?_, hE2⟩
     unfold findI
     rw [firstP_found p es k hlt hno.out (by rw [hX.out]; exact hpn)]
     rfl
    | false =>
     have hpn := Lib.hid hpn
     go_wp2
     go_roundw
     case rel => exact ⟨k + 1, by omega, by go_num, fun j hj => (by by_cases e : j = k; rw [e, hX.out]; exact hpn.out; exact hno.out j (by omega)), hE2⟩
     case measure => simp [intOf]; omega
  · go_wp2
    go_ret
    refine ⟨?_, hE⟩
    unfold findI
    rw [firstP_none p es (fun j hj => hno.out j (by omega))]
    rfl
/-- The value of an element. -/
def getE (n : Int) (es : List El) : Option ByteArray := (firstP (fun m => m == n) es).map fun k => (es.getD k elD).2
def getS (n : Int) (es : List El) : ByteArray := (getE n es).getD ⟨#[]⟩
def getB (n : Int) (es : List El) : Bool := (getE n es).isSome
theorem firstP_spec (p : Int → Bool) : ∀ (l : List El) (k : Nat), firstP p l = some k → k < l.length ∧ p (l.getD k elD).1 = true ∧ ∀ j, j < k → p (l.getD j elD).1 = false
 | [], k, h => by cases h
 | x :: l, k, h => by
  unfold firstP at h
  by_cases hx : p x.1 = true
  · rw [if_pos hx] at h
    cases h
    exact ⟨by simp, by simpa using hx, fun j hj => absurd hj (by omega)⟩
  · rw [if_neg hx] at h
    cases hf : firstP p l with
    | none => rw [hf] at h; cases h
    | some j =>
     rw [hf] at h
     cases h
     obtain ⟨h1, h2, h3⟩ := firstP_spec p l j hf
     refine ⟨by simpa using h1, by simpa using h2, fun i hi => ?_⟩
     cases i with
     | zero => simpa using hx
     | succ i => simpa using h3 i (by simp at hi; omega)
theorem get1_any (B : Nat) (n m : Int) (s : ByteArray) (w : World) (hc : w.cell? ⟨B, 0, none⟩ = some (.int .i64 n)) :
 Calls Tryz.prog 53 #[.agg #[.int .i64 m, .string s], .pointer (some ⟨B, 0, none⟩)] w (OneV (.bool (m == n)) w) := by
 have hB : B < w.heap.size := cell_lt hc
 go_enter Tryz.func53, Tryz.ntmps53
 go_wp2
 go_ret
 exact ⟨rfl, (Ext.refl w).alloc _⟩
set_option maxRecDepth 8000 in
set_option maxHeartbeats 1000000 in
theorem get_any (ty n : Int) (v : Value) (es : List El) (w : World) (hv : Elems w v es) (hl : es.length ≤ 1000000) :
 Calls Tryz.prog 28 #[msgAgg ty v, .int .i64 n] w (OneV (.tuple #[.string (getS n es), .bool (getB n es)]) w) := by
 have hv0 := hv
 obtain ⟨q, cp, rfl, hp⟩ := hv
 have hP := Lib.hid hp
 have hV := Lib.hid hv0
 clear hp hv0
 unfold msgAgg
 go_enter Tryz.func28, Tryz.ntmps28
 go_wp2_with fail
 refine (mfind_any 53 _ _ (fun m => m == n) es _ (hV.out.ext (((Ext.refl w).alloc _).alloc _)) hl (fun _ _ => by kernel_rfl) ?_).mono ?_
 · intro wr hE m s
   exact get1_any _ n m s wr (hE.get (by simp [go_sem]))
 rintro e w1 ⟨rfl, hE1⟩
 have hB := ((Blk.new w _ _).alloc _).ext hE1
 have z1 := hB.cell 1
 simp at z1
 have hE2 := (((Ext.refl w).alloc _).alloc _).trans hE1
 clear hE1 hB
 cases hf : firstP (fun m => m == n) es with
 | none =>
  have hg : getE n es = none := by unfold getE; rw [hf]; rfl
  have hI : findI (fun m => m == n) es = -1 := by unfold findI; rw [hf]
  rw [hI]
  have hG := Lib.hid hg
  clear hg hI hf
  go_wp2
  go_ret2
  refine ⟨?_, hE2⟩
  unfold getS getB
  rw [hG.out]; rfl
 | some k =>
  obtain ⟨hk, _, _⟩ := firstP_spec _ es k hf
  have hg : getE n es = some (es.getD k elD).2 := by unfold getE; rw [hf]; rfl
  have hI : findI (fun m => m == n) es = (k : Int) := by unfold findI; rw [hf]
  rw [hI]
  have hG := Lib.hid hg
  clear hg hI hf
  obtain ⟨b, off, rfl, hcs⟩ := hP.out (by omega)
  have c1 := hE2.get (hcs k hk).2
  clear hcs hP hV
  generalize (es.getD k elD).2 = sv at *
  go_wp2
  go_ret2
  refine ⟨?_, hE2⟩
  unfold getS getB
  rw [hG.out]; rfl
set_option maxRecDepth 8000 in
set_option maxHeartbeats 1000000 in
theorem rGet_any (ty n : Int) (v : Value) (es : List El) (w : World) (hv : Elems w v es) (hl : es.length ≤ 1000000) :
 Calls Tryz.prog 31 #[msgAgg ty v, .int .i64 n] w (OneV (.tuple #[.string (getS n es), .bool (getB n es)]) w) := by
 obtain ⟨q, cp, rfl, hp⟩ := hv
 have hP := Lib.hid hp
 clear hp
 unfold msgAgg
 go_enter Tryz.func31, Tryz.ntmps31
 go_wp2
 go_loop [6] (fun i => ∃ k : Nat, k ≤ es.length ∧ i = .int .i64 k ∧ ∀ j, j < k → ((es.getD j elD).1 == n) = false) (fun i => es.length - (intOf i).toNat)
 case atStart => exact ⟨0, Nat.zero_le _, rfl, fun j hj => absurd hj (by omega)⟩
 case round =>
  obtain ⟨k, hk, rfl, hno⟩ := hrel
  have hno := Lib.hid hno
  by_cases hlt : k < es.length
  · obtain ⟨b, off, rfl, hcs⟩ := hP.out (by omega)
    have hE : Ext w (w.alloc (.cells #[.int .i64 ty, .slice (some ⟨b, off, none⟩) es.length cp] 27)) := (Ext.refl w).alloc _
    have c0 := hE.get (hcs k hlt).1
    have c1 := hE.get (hcs k hlt).2
    clear hcs
    generalize hx : (es.getD k elD).1 = m at *
    generalize hy : (es.getD k elD).2 = s at *
    have hX := Lib.hid hx
    have hY := Lib.hid hy
    clear hx hy
    by_cases he : m = n
    · have hb : (m == n) = true := by simpa using he
      have hB := Lib.hid hb
      clear he
      go_wp2
      go_ret2
      refine ⟨?_, xt⟩
      have hg : getE n es = some s := by unfold getE; rw [firstP_found _ es k hlt hno.out (by rw [hX.out]; exact hB.out), ← hY.out]; rfl
      unfold getS getB
      rw [hg]; rfl
    · have hb : (m == n) = false := by simpa using he
      have hB := Lib.hid hb
      clear he
      go_wp2
      go_round
      case rel => exact ⟨k + 1, by omega, by go_num, fun j hj => (by by_cases e : j = k; rw [e, hX.out]; exact hB.out; exact hno.out j (by omega))⟩
      case measure => simp [intOf]; omega
  · go_wp2
    go_ret2
    refine ⟨?_, xt⟩
    have hg : getE n es = none := by unfold getE; rw [firstP_none _ es (fun j hj => hno.out j (by omega))]; rfl
    unfold getS getB
    rw [hg]; rfl
theorem ne_empty (s : ByteArray) : (!s.toList.isEmpty) = (true && decide (0 < s.size)) := by
 rw [ByteArray.toList_eq, Bool.true_and]
 have hl : s.data.toList.length = s.size := by rw [Array.length_toList]; rfl
 cases h : s.data.toList with
 | nil =>
  rw [h] at hl
  have h0 : s.size = 0 := hl.symm
  rw [h0]; rfl
 | cons a l =>
  rw [h, List.length_cons] at hl
  have h0 : 0 < s.size := by omega
  rw [decide_eq_true h0]; rfl
set_option maxHeartbeats 400000 in
theorem areDigits_any (s : ByteArray) (w : World) (hs : s.size ≤ 1000000) :
 Calls Tryz.prog 54 #[.string s] w fun e w' => e = .returned (.bool (allS digB s && decide (0 < s.size))) ∧ w = w' := by
 go_enter Tryz.func54, Tryz.ntmps54
 go_wp2
 go_loop [6] (fun i => ∃ k : Nat, k ≤ s.size ∧ i = .int .i64 k ∧ (s.data.toList.take k).all digB = true) (fun i => s.size - (intOf i).toNat)
 case atStart => exact ⟨0, Nat.zero_le _, rfl, rfl⟩
 case round =>
  obtain ⟨k, hk, rfl, hall⟩ := hrel
  have hH := Lib.hid hall
  clear hall
  by_cases hlt : k < s.size
  · go_wp2
    · go_ret
      exact ⟨ret_bool (by rw [show allS digB s = false from all_of_badP digB s k hlt (by simp [digB]; omega)]; rfl), rfl⟩
    · go_round
      case rel => exact ⟨k + 1, by omega, by go_num, by rw [all_take_snocP digB s k hlt, hH.out]; simp [digB]; omega⟩
      case measure => simp [intOf]; omega
    · go_ret
      exact ⟨ret_bool (by rw [show allS digB s = false from all_of_badP digB s k hlt (by simp [digB]; omega)]; rfl), rfl⟩
  · have hk' : s.data.toList.take k = s.data.toList := List.take_of_length_le (by simp; omega)
    have hA := hH.out
    rw [hk'] at hA
    have hS : Hid (allS digB s = true) := Lib.hid hA
    clear hA hk'
    go_wp2
    go_ret
    refine ⟨ret_bool ?_, rfl⟩
    rw [hS.out]
    exact ne_empty s
theorem numL_bd17 (l : List UInt8) (h : l.all digB = true) (hl : l.length ≤ 17) : 0 ≤ numL l ∧ numL l ≤ 100000000000000000 := by
 have h1 := numL_bd l h
 have h2 : (10 : Int) ^ l.length ≤ 10 ^ 17 := by
  have : (10 : Nat) ^ l.length ≤ 10 ^ 17 := Nat.pow_le_pow_right (by decide) hl
  exact_mod_cast this
 have h3 : (10 : Int) ^ 17 = 100000000000000000 := by decide
 omega
/-- Whether the value of an element is a number. -/
def numB (s : ByteArray) : Bool := decide (1 ≤ s.size ∧ s.size ≤ 18) && allS digB s
def numE (n : Int) (es : List El) : Int := if getB n es = false then 6 else if numB (getS n es) = false then 2 else 0
def numV (n : Int) (es : List El) : Int := if numE n es = 0 then numL (getS n es).data.toList else 0
theorem numE_6 {n : Int} {es : List El} (h : getB n es = false) : numV n es = 0 ∧ numE n es = 6 := by
 have e : numE n es = 6 := by unfold numE; rw [if_pos h]
 exact ⟨by unfold numV; rw [e, if_neg (by decide)], e⟩
theorem numE_2 {n : Int} {es : List El} (h : getB n es = true) (h2 : numB (getS n es) = false) : numV n es = 0 ∧ numE n es = 2 := by
 have e : numE n es = 2 := by unfold numE; rw [if_neg (by rw [h]; decide), if_pos h2]
 exact ⟨by unfold numV; rw [e, if_neg (by decide)], e⟩
theorem numE_0 {n : Int} {es : List El} (h : getB n es = true) (h2 : numB (getS n es) = true) : numV n es = numL (getS n es).data.toList ∧ numE n es = 0 := by
 have e : numE n es = 0 := by unfold numE; rw [if_neg (by rw [h]; decide), if_neg (by rw [h2]; decide)]
 exact ⟨by unfold numV; rw [e, if_pos rfl], e⟩
def NumbP (n : Int) (es : List El) (w : World) (e : Ending) (w' : World) : Prop := e = .returned (.tuple #[.int .i64 (numV n es), .int .i64 (numE n es)]) ∧ Ext w w'
set_option maxRecDepth 8000 in
set_option maxHeartbeats 2000000 in
theorem mnumber_any (ty n : Int) (v : Value) (es : List El) (w : World) (hv : Elems w v es) (hl : es.length ≤ 1000000) :
 Calls Tryz.prog 30 #[msgAgg ty v, .int .i64 n] w (NumbP n es w) := by
 have hV := Lib.hid hv
 obtain ⟨q, cp, rfl, _⟩ := hv
 have hG := Lib.hid (fun w hv => get_any ty n (.slice q es.length cp) es w hv hl)
 unfold msgAgg at hG ⊢
 go_enter Tryz.func30, Tryz.ntmps30
 go_wp2_with fail
 refine (hG.out _ (hV.out.ext xt)).mono ?_
 rintro e w1 ⟨rfl, hE1⟩
 have hE : Ext w w1 := (xt : Ext w _).trans hE1
 clear hE1 hG
 cases hb : getB n es with
 | false =>
  have hD := Lib.hid (numE_6 hb)
  go_wp2
  go_ret2
  exact ⟨by rw [hD.out.1, hD.out.2]; rfl, hE⟩
 | true =>
  cases hn : numB (getS n es) with
  | false =>
   have hD := Lib.hid (numE_2 hb hn)
   clear hb
   generalize getS n es = s at *
   by_cases h18 : s.size ≤ 18
   · have t1 : decide ((18 : Int) < s.size) = false := by simp; omega
     have t2 : (allS digB s && decide (0 < s.size)) = false := by
      unfold numB at hn
      cases ha : allS digB s with
      | false => rfl
      | true =>
       rw [ha, Bool.and_true] at hn
       have := of_decide_eq_false hn
       rw [Bool.true_and, decide_eq_false_iff_not]; omega
     clear hn
     go_wp2_with fail
     refine (areDigits_any s _ (by omega)).mono ?_
     rintro e w2 ⟨rfl, rfl⟩
     rw [t2]
     clear t2
     go_wp2
     go_ret2
     exact ⟨by rw [hD.out.1, hD.out.2]; rfl, hE⟩
   · have t1 : decide ((18 : Int) < s.size) = true := by simp; omega
     clear hn
     go_wp2
     go_ret2
     exact ⟨by rw [hD.out.1, hD.out.2]; rfl, hE⟩
  | true =>
   have hD := Lib.hid (numE_0 hb hn)
   clear hb
   generalize getS n es = s at *
   have hsz : 1 ≤ s.size ∧ s.size ≤ 18 ∧ allS digB s = true := by
    unfold numB at hn
    rw [Bool.and_eq_true, decide_eq_true_iff] at hn
    exact ⟨hn.1.1, hn.1.2, hn.2⟩
   obtain ⟨hs1, hs18, hall⟩ := hsz
   have t1 : decide ((18 : Int) < s.size) = false := by simp; omega
   have t2 : (allS digB s && decide (0 < s.size)) = true := by rw [hall]; simp; omega
   have hA := Lib.hid hall
   clear hn hall
   go_wp2_with fail
   refine (areDigits_any s _ (by omega)).mono ?_
   rintro e w2 ⟨rfl, rfl⟩
   rw [t2]
   clear t2 t1
   go_wp2
   go_loop [8, 28] (fun m i => ∃ k : Nat, k ≤ s.size ∧ i = .int .i64 k ∧ m = .int .i64 (numL (s.data.toList.take k))) (fun _ i => s.size - (intOf i).toNat)
   case atStart => exact ⟨0, Nat.zero_le _, rfl, rfl⟩
   case round =>
    obtain ⟨k, hk, rfl, rfl⟩ := hrel
    by_cases hlt : k < s.size
    · have hal : (s.data.toList.take k).all digB = true := List.all_eq_true.2 fun x hx => List.all_eq_true.1 hA.out x (List.mem_of_mem_take hx)
      have hln : (s.data.toList.take k).length ≤ 17 := Nat.le_trans (List.length_take_le _ _) (by omega)
      have hb := numL_bd17 _ hal hln
      have hd : digB s[k] = true := List.all_eq_true.1 hA.out _ (Array.mem_toList_iff.2 (Array.getElem_mem hlt))
      have hc : 48 ≤ s[k].toNat ∧ s[k].toNat ≤ 57 := by unfold digB at hd; simpa using hd
      have hT := Lib.hid (take_snoc s k hlt)
      clear hal hln hd
      go_wp2
      go_round
      case rel => exact ⟨k + 1, by omega, by go_num, by rw [hT.out, numL_snoc]⟩
      case measure => simp [intOf]; omega
    · have hk' : s.data.toList.take k = s.data.toList := List.take_of_length_le (by simp; omega)
      rw [hk']
      clear hk'
      go_wp2
      go_ret2
      exact ⟨by rw [hD.out.1, hD.out.2]; rfl, hE⟩
set_option maxHeartbeats 400000 in
theorem rValue_any18 (s : ByteArray) (w : World) (hs : s.size ≤ 18) :
 Calls Tryz.prog 81 #[.string s] w (NumPost s w) := by
 go_enter Tryz.func81, Tryz.ntmps81
 go_wp2
 go_loop [4, 5] (fun n i => ∃ k : Nat, k ≤ s.size ∧ i = .int .i64 k ∧ n = .int .i64 (numL (s.data.toList.take k)) ∧ (s.data.toList.take k).all digB = true) (fun _ i => s.size - (intOf i).toNat)
 case atStart => exact ⟨0, Nat.zero_le _, rfl, rfl, rfl⟩
 case round =>
  obtain ⟨k, hk, rfl, rfl, hall⟩ := hrel
  by_cases hlt : k < s.size
  · have hl : (s.data.toList.take k).length ≤ 17 := Nat.le_trans (List.length_take_le _ _) (by omega)
    have hb := numL_bd17 _ hall hl
    have hH := Lib.hid hall
    clear hall hl
    go_wp2
    · go_ret2
      exact ⟨0, false, rfl, ⟨(all_of_bad s k hlt (by simp [digB]; omega)).symm, rfl⟩, rfl⟩
    · go_round
      case rel => exact ⟨k + 1, by omega, by go_num, by rw [take_snoc s k hlt, numL_snoc], by rw [all_take_snoc s k hlt, hH.out]; simp [digB]; omega⟩
      case measure => simp [intOf]; omega
    · go_ret2
      exact ⟨0, false, rfl, ⟨(all_of_bad s k hlt (by simp [digB]; omega)).symm, rfl⟩, rfl⟩
  · have hH := Lib.hid hall
    clear hall
    go_wp2
    go_ret2
    have hk' : s.data.toList.take k = s.data.toList := List.take_of_length_le (by simp; omega)
    have hA := hH.out; rw [hk'] at hA ⊢
    exact ⟨_, true, rfl, ⟨hA.symm, rfl⟩, rfl⟩
set_option maxRecDepth 8000 in
set_option maxHeartbeats 2000000 in
theorem rNumber_any (ty n : Int) (v : Value) (es : List El) (w : World) (hv : Elems w v es) (hl : es.length ≤ 1000000) :
 Calls Tryz.prog 55 #[msgAgg ty v, .int .i64 n] w (NumbP n es w) := by
 have hV := Lib.hid hv
 obtain ⟨q, cp, rfl, _⟩ := hv
 have hG := Lib.hid (fun w hv => rGet_any ty n (.slice q es.length cp) es w hv hl)
 unfold msgAgg at hG ⊢
 go_enter Tryz.func55, Tryz.ntmps55
 go_wp2_with fail
 refine (hG.out _ (hV.out.ext xt)).mono ?_
 rintro e w1 ⟨rfl, hE1⟩
 have hE : Ext w w1 := (xt : Ext w _).trans hE1
 clear hE1 hG
 cases hb : getB n es with
 | false =>
  have hD := Lib.hid (numE_6 hb)
  go_wp2
  go_ret2
  exact ⟨by rw [hD.out.1, hD.out.2]; rfl, hE⟩
 | true =>
  have hD0 := Lib.hid (fun h => numE_0 hb h)
  have hD2 := Lib.hid (fun h => numE_2 hb h)
  clear hb
  generalize getS n es = s at *
  by_cases h1 : 1 ≤ s.size
  · by_cases h18 : s.size ≤ 18
    · go_wp2_with fail
      refine (rValue_any18 s _ h18).mono ?_
      rintro e w2 ⟨z, ok, rfl, ⟨hok, hz⟩, rfl⟩
      cases ok with
      | false =>
       have hB : numB s = false := by unfold numB allS; rw [← hok, Bool.and_false]
       have hD := Lib.hid (hD2.out hB)
       clear hok hz hB
       go_wp2
       go_ret2
       exact ⟨by rw [hD.out.1, hD.out.2]; rfl, hE⟩
      | true =>
       have hB : numB s = true := by unfold numB allS; rw [← hok, Bool.and_true, decide_eq_true_iff]; omega
       have hD := Lib.hid (hD0.out hB)
       rw [if_pos rfl] at hz
       have hz := Lib.hid hz
       clear hok hB
       go_wp2
       go_ret2
       exact ⟨by rw [hD.out.1, hD.out.2, ← hz.out]; rfl, hE⟩
    · have hB : numB s = false := by unfold numB; rw [decide_eq_false (by omega)]; rfl
      have hD := Lib.hid (hD2.out hB)
      clear hB
      have t2 : decide ((18 : Int) < s.size) = true := by simp; omega
      go_wp2
      go_ret2
      exact ⟨by rw [hD.out.1, hD.out.2]; rfl, hE⟩
  · have hB : numB s = false := by unfold numB; rw [decide_eq_false (by omega)]; rfl
    have hD := Lib.hid (hD2.out hB)
    clear hB
    go_wp2
    go_ret2
    exact ⟨by rw [hD.out.1, hD.out.2]; rfl, hE⟩
end Go.Proofs.YtangdoidkcelfaaGreatDoor
