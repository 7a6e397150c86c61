/- Expressions as data, and how they lie in memory. Expressions: what Check, Eval and their parts compute, in plain words. Contracts of Levels and deeper (walks). Contracts of lexer.classOf, isWordByte, wordAt, IsName (walks). -/
import Derived.Test.YtkggloeaojkhaaaGreatDoorQa
import Derived.LoopTactic
import Derived.Outline
import Derived.BigQuiet
import Derived.Deep.QuietTactic
import Derived.Test.YtkggloeaojkhaaaGreatDoorShelf
namespace Go.Proofs.YtkggloeaojkhaaaGreatDoor
open Go.RowKit
/-- An expression. -/
inductive Ex where
 | mk (op : Int) (name text : ByteArray) (n : Int) (args : List Ex)
def Ex.op : Ex → Int | .mk o _ _ _ _ => o
def Ex.name : Ex → ByteArray | .mk _ s _ _ _ => s
def Ex.text : Ex → ByteArray | .mk _ _ t _ _ => t
def Ex.n : Ex → Int | .mk _ _ _ n _ => n
def Ex.args : Ex → List Ex | .mk _ _ _ _ l => l
def exD : Ex := .mk 0 ⟨#[]⟩ ⟨#[]⟩ 0 []
def ExCells (w : World) (b o : Nat) (x : Ex) (u : Value) : Prop :=
 w.cell? ⟨b, o, none⟩ = some (.int .i64 x.op) ∧ w.cell? ⟨b, o + 1, none⟩ = some (.string x.name) ∧ w.cell? ⟨b, o + 2, none⟩ = some (.string x.text) ∧ w.cell? ⟨b, o + 3, none⟩ = some (.int .i64 x.n) ∧ w.cell? ⟨b, o + 4, none⟩ = some u
theorem ExCells.ext {w w' : World} {b o : Nat} {x : Ex} {u : Value} (h : ExCells w b o x u) (k : Ext w w') : ExCells w' b o x u :=
 ⟨k.get h.1, k.get h.2.1, k.get h.2.2.1, k.get h.2.2.2.1, k.get h.2.2.2.2⟩
/-- The slice v reads as the list of expressions. -/
inductive ExS (w : World) : Value → List Ex → Prop
 | nil (p : Option Addr) (c : Nat) : ExS w (.slice p 0 c) []
 | row (b off c : Nat) (args : List Ex) (sv : Nat → Value) (hpos : 0 < args.length) (hlen : args.length ≤ 140737488355328) (hcap : args.length ≤ c)
  (hc : ∀ i, i < args.length → ExCells w b (off + i * 5) (args.getD i exD) (sv i))
  (hs : ∀ i, i < args.length → ExS w (sv i) (args.getD i exD).args) : ExS w (.slice (some ⟨b, off, none⟩) args.length c) args
theorem ExS.ext {w w' : World} {v : Value} {l : List Ex} (h : ExS w v l) (k : Ext w w') : ExS w' v l := by
 induction h with
 | nil p c => exact .nil p c
 | row b off c args sv hpos hlen hcap hc hs ih => exact .row b off c args sv hpos hlen hcap (fun i hi => (hc i hi).ext k) ih
theorem ExS.len {w : World} {v : Value} {l : List Ex} (h : ExS w v l) : l.length ≤ 140737488355328 := by
 cases h with
 | nil p c => simp
 | row b off c args sv hpos hlen hcap hc hs => exact hlen
theorem ExS.cap {w : World} {p : Option Addr} {c : Nat} {l : List Ex} (h : ExS w (.slice p l.length c) l) (h0 : 0 < l.length) : l.length ≤ c := by
 generalize hv : (Value.slice p l.length c) = v at h
 cases h with
 | nil p c => cases h0
 | row b off c args sv hpos hlen hcap hc hs => cases hv; exact hcap
/-- What a place of the slice holds. -/
theorem ExS.at {w : World} {p : Option Addr} {c : Nat} {l : List Ex} (h : ExS w (.slice p l.length c) l) (h0 : 0 < l.length) : ∃ b off, p = some ⟨b, off, none⟩ ∧ ∃ sv : Nat → Value, ∀ i, i < l.length → ExCells w b (off + i * 5) (l.getD i exD) (sv i) ∧ ExS w (sv i) (l.getD i exD).args := by
 generalize hv : (Value.slice p l.length c) = v at h
 cases h with
 | nil p c => cases h0
 | row b off c args sv hpos hlen hcap hc hs =>
  cases hv
  exact ⟨b, off, rfl, sv, fun i hi => ⟨hc i hi, hs i hi⟩⟩
end Go.Proofs.YtkggloeaojkhaaaGreatDoor
namespace Go.Proofs.YtkggloeaojkhaaaGreatDoor
open Go.RowKit
def ltrB (c : UInt8) : Bool := (decide (97 ≤ c.toNat) && decide (c.toNat ≤ 122)) || (decide (65 ≤ c.toNat) && decide (c.toNat ≤ 90))
def dgtB (c : UInt8) : Bool := decide (48 ≤ c.toNat) && decide (c.toNat ≤ 57)
def wrdB (c : UInt8) : Bool := ltrB c || dgtB c || decide (c.toNat = 95)
/-- Whether a text is a name. -/
def nameB (s : ByteArray) : Bool := decide (1 ≤ s.size ∧ s.size ≤ 16) && (match s.data.toList with | [] => false | c :: _ => ltrB c) && s.data.toList.all wrdB
/-- A feature. -/
structure Feat where
 name : ByteArray
 kind : Int
 n : Int
 text : ByteArray
deriving DecidableEq
/-- The first feature of a name. -/
def findN (l : List Feat) (nm : ByteArray) : Option Feat := l.find? fun f => decide (f.name = nm)
def allK (ks : List Int) (k : Int) : Bool := ks.all fun j => decide (j = k)
/-- The type of a part by that of its feature and those of its arguments. -/
def byK (op : Int) (fk : Int) (ks : List Int) : Int :=
 if op = 1 then 1
 else if op = 2 then 2
 else if op = 3 then fk
 else if op = 16 ∨ op = 17 then (if fk = 2 then 1 else 0)
 else if op = 4 ∨ op = 6 ∨ op = 7 then (if allK ks 3 then 3 else 0)
 else if op = 5 ∨ op = 12 ∨ op = 13 ∨ op = 14 then (if allK ks 1 then 1 else 0)
 else if op = 10 ∨ op = 11 then (if allK ks 1 then 3 else 0)
 else if op = 8 ∨ op = 9 then (if allK ks (ks.getD 0 0) then 3 else 0)
 else if op = 15 then (if allK ks (ks.getD 0 0) && !decide (ks.getD 0 0 = 3) then 3 else 0)
 else 0
/-- The type of an expression, and the error. -/
def Ex.ty (l : List Feat) : Ex → Int × Int
 | .mk op nm _ _ args => match tyL args with
  | .error c => (0, c)
  | .ok ks =>
   if op = 3 ∨ op = 16 ∨ op = 17 then
    match findN l nm with
    | none => (0, 6)
    | some f => if byK op f.kind ks = 0 then (0, 28) else (byK op f.kind ks, 0)
   else if byK op 0 ks = 0 then (0, 28) else (byK op 0 ks, 0)
where tyL : List Ex → Except Int (List Int)
 | [] => .ok []
 | x :: r => if (x.ty l).2 ≠ 0 then .error (x.ty l).2 else match tyL r with
  | .error c => .error c
  | .ok ks => .ok ((x.ty l).1 :: ks)
end Go.Proofs.YtkggloeaojkhaaaGreatDoor
namespace Go.Proofs.YtkggloeaojkhaaaGreatDoor
open Go.RowKit
theorem ExCells.five {w : World} {b o : Nat} {x : Ex} {u : Value} (h : ExCells w b o x u) : w.cell? ⟨b, o, none⟩ = some (.int .i64 x.op) ∧ w.cell? ⟨b, o + 1, none⟩ = some (.string x.name) ∧ w.cell? ⟨b, o + 1 + 1, none⟩ = some (.string x.text) ∧ w.cell? ⟨b, o + 1 + 1 + 1, none⟩ = some (.int .i64 x.n) ∧ w.cell? ⟨b, o + 1 + 1 + 1 + 1, none⟩ = some u := h
end Go.Proofs.YtkggloeaojkhaaaGreatDoor
namespace Go.Proofs.YtkggloeaojkhaaaGreatDoor
open Go.RowKit
/-- What the class of a byte tells. -/
def ClsP (c : UInt8) (k : Int) : Prop := (k == 2) = ltrB c ∧ (k == 3) = dgtB c ∧ (k == 4) = decide (c.toNat = 95)
def ClsPost (c : UInt8) (w : World) (e : Ending) (w' : World) : Prop := ∃ k, e = .returned (.int .i64 k) ∧ ClsP c k ∧ w = w'
theorem containsRune_any (s : ByteArray) (r : Int) (w : World) (h0 : 0 ≤ r) (h1 : r < 128) : Calls Tryz.prog 98 #[.string s, .int .i32 r] w fun e w' => ∃ b, e = .returned (.bool b) ∧ w = w' :=
 (Tryz.strings_ContainsRune_ascii s r w h0 h1).mono fun _ _ h => ⟨_, h.1, h.2.symm⟩
set_option maxRecDepth 8000 in
set_option maxHeartbeats 4000000 in
theorem classOf_any (c : UInt8) (w : World) : Calls Tryz.prog 51 #[.int .i32 c.toNat] w (ClsPost c w) := by
 have hc : c.toNat < 256 := c.toNat_lt
 obtain ⟨m, hm⟩ : ∃ m, m = c.toNat := ⟨_, rfl⟩
 have hM := Lib.hid hm
 rw [← hm] at hc ⊢
 clear hm
 by_cases hb : m = 32 ∨ m = 9 ∨ m = 10
 · have hP : ClsP c 1 := by unfold ClsP ltrB dgtB; rw [← hM.out]; rcases hb with h | h | h <;> subst h <;> decide
   have hP := Lib.hid hP
   rcases hb with h | h | h <;> subst h <;>
   · go_enter Tryz.func51, Tryz.ntmps51
     go_wp2
     go_ret
     exact ⟨1, rfl, hP.out, rfl⟩
 · by_cases hl : (97 ≤ m ∧ m ≤ 122) ∨ (65 ≤ m ∧ m ≤ 90)
   · have hP : ClsP c 2 := by
      unfold ClsP ltrB dgtB; rw [← hM.out]
      refine ⟨?_, ?_, ?_⟩
      · rcases hl with h | h <;> simp [h.1, h.2]
      · symm; simp; omega
      · symm; simp; omega
     have hP := Lib.hid hP
     have d1 : ((m : Int) == 32) = false := by simp; omega
     have d2 : ((m : Int) == 9) = false := by simp; omega
     have d3 : ((m : Int) == 10) = false := by simp; omega
     rcases hl with ⟨h1, h2⟩ | ⟨h1, h2⟩
     · have e1 : decide ((97 : Int) ≤ m) = true := by simp; omega
       have e2 : decide ((m : Int) ≤ 122) = true := by simp; omega
       clear hb
       go_enter Tryz.func51, Tryz.ntmps51
       go_wp2
       go_ret
       exact ⟨2, rfl, hP.out, rfl⟩
     · have e1 : decide ((97 : Int) ≤ m) = false := by simp; omega
       have e2 : decide ((65 : Int) ≤ m) = true := by simp; omega
       have e3 : decide ((m : Int) ≤ 90) = true := by simp; omega
       clear hb
       go_enter Tryz.func51, Tryz.ntmps51
       go_wp2
       go_ret
       exact ⟨2, rfl, hP.out, rfl⟩
   · have d1 : ((m : Int) == 32) = false := by simp; omega
     have d2 : ((m : Int) == 9) = false := by simp; omega
     have d3 : ((m : Int) == 10) = false := by simp; omega
     have e1 : (decide ((97 : Int) ≤ m) = true ∧ decide ((m : Int) ≤ 122) = false) ∨ (decide ((97 : Int) ≤ m) = false) := by
      by_cases h : 97 ≤ m
      · left; exact ⟨by simp; omega, by simp; omega⟩
      · right; simp; omega
     have e2 : (decide ((65 : Int) ≤ m) = true ∧ decide ((m : Int) ≤ 90) = false) ∨ (decide ((65 : Int) ≤ m) = false) := by
      by_cases h : 65 ≤ m
      · left; exact ⟨by simp; omega, by simp; omega⟩
      · right; simp; omega
     by_cases hd : 48 ≤ m ∧ m ≤ 57
     · have hP : ClsP c 3 := by
        unfold ClsP ltrB dgtB; rw [← hM.out]
        refine ⟨?_, ?_, ?_⟩
        · symm; simp; omega
        · simp [hd.1, hd.2]
        · symm; simp; omega
       have hP := Lib.hid hP
       have f1 : decide ((48 : Int) ≤ m) = true := by simp; omega
       have f2 : decide ((m : Int) ≤ 57) = true := by simp; omega
       have e1' : decide ((97 : Int) ≤ m) = false := by simp; omega
       have e2' : decide ((65 : Int) ≤ m) = false := by simp; omega
       clear hb hl e1 e2
       go_enter Tryz.func51, Tryz.ntmps51
       go_wp2
       go_ret
       exact ⟨3, rfl, hP.out, rfl⟩
     · by_cases hu : m = 95
       · have hP : ClsP c 4 := by unfold ClsP ltrB dgtB; rw [← hM.out, hu]; decide
         have hP := Lib.hid hP
         subst hu
         clear hb hl e1 e2
         go_enter Tryz.func51, Tryz.ntmps51
         go_wp2
         go_ret
         exact ⟨4, rfl, hP.out, rfl⟩
       · have hP : ∀ k : Int, k ≠ 2 → k ≠ 3 → k ≠ 4 → ClsP c k := by
          intro k h2 h3 h4
          unfold ClsP ltrB dgtB; rw [← hM.out]
          refine ⟨?_, ?_, ?_⟩
          · rw [beq_eq_false_iff_ne.2 h2]; symm; simp; omega
          · rw [beq_eq_false_iff_ne.2 h3]; symm; simp; omega
          · rw [beq_eq_false_iff_ne.2 h4]; symm; simp; omega
         have hP := Lib.hid hP
         have f1 : (decide ((48 : Int) ≤ m) = true ∧ decide ((m : Int) ≤ 57) = false) ∨ (decide ((48 : Int) ≤ m) = false) := by
          by_cases h : 48 ≤ m
          · left; exact ⟨by simp; omega, by simp; omega⟩
          · right; simp; omega
         have f3 : ((m : Int) == 95) = false := by simp; omega
         by_cases h34 : m = 34
         · subst h34
           clear hb hl e1 e2 f1
           go_enter Tryz.func51, Tryz.ntmps51
           go_wp2
           go_ret
           exact ⟨5, rfl, hP.out 5 (by decide) (by decide) (by decide), rfl⟩
         · by_cases h35 : m = 35
           · subst h35
             clear hb hl e1 e2 f1
             go_enter Tryz.func51, Tryz.ntmps51
             go_wp2
             go_ret
             exact ⟨6, rfl, hP.out 6 (by decide) (by decide) (by decide), rfl⟩
           · have g1 : ((m : Int) == 34) = false := by simp; omega
             have g2 : ((m : Int) == 35) = false := by simp; omega
             by_cases h126 : m ≤ 126
             · have g3 : decide ((m : Int) ≤ 126) = true := by simp; omega
               clear hb hl hd hu h34 h35
               rcases e1 with ⟨e1, e1'⟩ | e1 <;> rcases e2 with ⟨e2, e2'⟩ | e2 <;> rcases f1 with ⟨f1, f1'⟩ | f1 <;>
               · go_enter Tryz.func51, Tryz.ntmps51
                 go_wp2_with fail
                 refine (containsRune_any _ _ _ (by omega) (by omega)).mono ?_
                 rintro e w1 ⟨b, rfl, rfl⟩
                 cases b with
                 | true =>
                  go_wp2
                  go_ret
                  exact ⟨7, rfl, hP.out 7 (by decide) (by decide) (by decide), rfl⟩
                 | false =>
                  go_wp2
                  go_ret
                  exact ⟨0, rfl, hP.out 0 (by decide) (by decide) (by decide), rfl⟩
             · have g3 : decide ((m : Int) ≤ 126) = false := by simp; omega
               have e1' : decide ((97 : Int) ≤ m) = true := by simp; omega
               have e1'' : decide ((m : Int) ≤ 122) = false := by simp; omega
               have e2' : decide ((65 : Int) ≤ m) = true := by simp; omega
               have e2'' : decide ((m : Int) ≤ 90) = false := by simp; omega
               have f1' : decide ((48 : Int) ≤ m) = true := by simp; omega
               have f1'' : decide ((m : Int) ≤ 57) = false := by simp; omega
               clear hb hl hd hu h34 h35 e1 e2 f1
               go_enter Tryz.func51, Tryz.ntmps51
               go_wp2
               go_ret
               exact ⟨0, rfl, hP.out 0 (by decide) (by decide) (by decide), rfl⟩
theorem wrap32_u8 (c : UInt8) : wrap32 (c.toNat : Int) = c.toNat := by
 have := c.toNat_lt
 unfold wrap32
 omega
set_option maxHeartbeats 1000000 in
theorem isWordByte_any (c : UInt8) (w : World) : Calls Tryz.prog 99 #[.int .u8 c.toNat] w fun e w' => e = .returned (.bool (wrdB c)) ∧ w = w' := by
 have hw := wrap32_u8 c
 go_enter Tryz.func99, Tryz.ntmps99
 go_wp2_with fail
 rw [hw]
 refine (classOf_any c _).mono ?_
 rintro e w1 ⟨k, rfl, hP, rfl⟩
 have hP := Lib.hid hP
 clear hw
 cases a2 : (k == 2) with
 | true => go_wp2; go_ret; exact ⟨by unfold wrdB; rw [← hP.out.1, a2]; rfl, rfl⟩
 | false =>
  cases a3 : (k == 3) with
  | true => go_wp2; go_ret; exact ⟨by unfold wrdB; rw [← hP.out.1, ← hP.out.2.1, a2, a3]; rfl, rfl⟩
  | false => go_wp2; go_ret; exact ⟨by unfold wrdB; rw [← hP.out.1, ← hP.out.2.1, ← hP.out.2.2, a2, a3]; rfl, rfl⟩
theorem take_snocB (s : ByteArray) (k : Nat) (h : k < s.size) : s.data.toList.take (k + 1) = s.data.toList.take k ++ [s[k]] := by
 have hk : k < s.data.toList.length := by rw [Array.length_toList]; exact h
 rw [List.take_succ_eq_append_getElem hk]
 simp [ByteArray.getElem_eq_getElem_data]
theorem all_takeB (p : UInt8 → Bool) (s : ByteArray) (k : Nat) (h : k < s.size) : (s.data.toList.take (k + 1)).all p = ((s.data.toList.take k).all p && p s[k]) := by
 rw [take_snocB s k h]; simp
theorem all_badB (p : UInt8 → Bool) (s : ByteArray) (k : Nat) (h : k < s.size) (hc : p s[k] = false) : s.data.toList.all p = false := by
 rw [List.all_eq_false]
 exact ⟨s[k], by simp [ByteArray.getElem_eq_getElem_data], by simp [hc]⟩
theorem ret_boolE {a b : Bool} (h : a = b) : Ending.returned (.bool a) = .returned (.bool b) := by rw [h]
def WordPost (s : ByteArray) (w : World) (e : Ending) (w' : World) : Prop := ∃ t : ByteArray, e = .returned (.string t) ∧ decide ((t.size : Int) = s.size) = s.data.toList.all wrdB ∧ w = w'
set_option maxHeartbeats 1000000 in
theorem wordAt_any (s : ByteArray) (w : World) (hs : s.size ≤ 1000000) : Calls Tryz.prog 52 #[.string s, .int .i64 0] w (WordPost s w) := by
 go_enter Tryz.func52, Tryz.ntmps52
 go_wp2
 go_loop [5] (fun i => ∃ k : Nat, k ≤ s.size ∧ i = .int .i64 k ∧ (s.data.toList.take k).all wrdB = true) (fun i => s.size - (intOf i).toNat)
 case atStart => exact ⟨0, Nat.zero_le _, rfl, rfl⟩
 case round =>
  obtain ⟨k, hk, rfl, hall⟩ := hrel
  have hH := Lib.hid hall
  clear hall
  by_cases hlt : k < s.size
  · go_wp2_with fail
    refine (isWordByte_any s[k] _).mono ?_
    rintro e w1 ⟨rfl, rfl⟩
    cases hc : wrdB s[k] with
    | true =>
     go_wp2
     go_round
     case rel => exact ⟨k + 1, by omega, by go_num, by rw [all_takeB wrdB s k hlt, hH.out, hc]; rfl⟩
     case measure => simp [intOf]; omega
    | false =>
     have hA := Lib.hid (all_badB wrdB s k hlt hc)
     go_wp2
     go_ret
     refine ⟨_, rfl, ?_, rfl⟩
     rw [hA.out]
     simp
     omega
  · have hk' : s.data.toList.take k = s.data.toList := List.take_of_length_le (by simp; omega)
    have hA := hH.out
    rw [hk'] at hA
    have hA := Lib.hid hA
    clear hk'
    go_wp2
    go_ret
    refine ⟨_, rfl, ?_, rfl⟩
    rw [hA.out]
    simp
    omega
theorem nameB_at (s : ByteArray) (h0 : 0 < s.size) (h1 : s.size ≤ 16) : nameB s = (ltrB s[0] && s.data.toList.all wrdB) := by
 unfold nameB
 have hl : s.data.toList.length = s.size := by rw [Array.length_toList]; rfl
 have hd : s.data.toList[0]? = some s[0] := by simp [ByteArray.getElem_eq_getElem_data]
 rw [decide_eq_true (show 1 ≤ s.size ∧ s.size ≤ 16 from ⟨h0, h1⟩), Bool.true_and]
 cases h : s.data.toList with
 | nil => rw [h] at hl; simp at hl; omega
 | cons c l =>
  rw [h] at hd
  simp at hd
  rw [hd]
theorem emp_list {s : ByteArray} (h : s.size = 0) : s.toList = [] := by
 rw [ByteArray.toList_eq]
 have hl : s.data.toList.length = s.size := by rw [Array.length_toList]; rfl
 exact List.length_eq_zero_iff.1 (by omega)
theorem ne_list {s : ByteArray} (h : ¬ s.size = 0) : ¬ s.toList = [] := by
 rw [ByteArray.toList_eq]
 have hl : s.data.toList.length = s.size := by rw [Array.length_toList]; rfl
 intro e
 rw [e] at hl
 exact h hl.symm
theorem ne_isE {s : ByteArray} (h : ¬ s.size = 0) : s.toList.isEmpty = false := by
 cases e : s.toList with
 | nil => exact absurd e (ne_list h)
 | cons a l => rfl
set_option maxHeartbeats 1000000 in
theorem isName_any (s : ByteArray) (w : World) : Calls Tryz.prog 19 #[.string s] w fun e w' => e = .returned (.bool (nameB s)) ∧ w = w' := by
 by_cases h0 : s.size = 0
 · have e0 := emp_list h0
   rw [show nameB s = false by simp [nameB, h0]]
   clear h0
   go_enter Tryz.func19, Tryz.ntmps19
   go_wp2
   go_ret
   exact ⟨rfl, rfl⟩
 · have e0 := ne_list h0
   have e1 := ne_isE h0
   by_cases h16 : s.size ≤ 16
   · have hw := wrap32_u8 s[0]
     have hn := Lib.hid (nameB_at s (by omega) h16)
     have g1 : decide (16 < (s.size : Int)) = false := by simp; omega
     have g2 : ¬ 16 < (s.size : Int) := by omega
     have hlt : 0 < s.size := by omega
     go_enter Tryz.func19, Tryz.ntmps19
     go_wp2_with fail
     refine (classOf_any s[0] _).mono ?_
     rintro e w1 ⟨k, rfl, hP, rfl⟩
     have hP := Lib.hid hP
     clear hw
     cases a2 : (k == 2) with
     | true =>
      have a3 : (k != 2) = false := by simp [bne, a2]
      go_wp2_with fail
      refine (wordAt_any s _ (by omega)).mono ?_
      rintro e w1 ⟨t, rfl, ht, rfl⟩
      have ht := Lib.hid ht
      go_wp2
      go_ret
      refine ⟨ret_boolE ?_, rfl⟩
      rw [hn.out, ← hP.out.1, a2, Bool.true_and, ← ht.out]
      rfl
     | false =>
      have a3 : (k != 2) = true := by simp [bne, a2]
      go_wp2
      go_ret
      exact ⟨ret_boolE (by rw [hn.out, ← hP.out.1, a2]; rfl), rfl⟩
   · have g1 : decide (16 < (s.size : Int)) = true := by simp; omega
     have g2 : 16 < (s.size : Int) := by omega
     rw [show nameB s = false by simp [nameB]; intro h; omega]
     clear h16 h0
     go_enter Tryz.func19, Tryz.ntmps19
     go_wp2
     go_ret
     exact ⟨rfl, rfl⟩
end Go.Proofs.YtkggloeaojkhaaaGreatDoor
