/- Contracts of lexer.classOf, isWordByte, wordAt, IsName (walks). Contracts of isNumber, isLiteral, sum, magnitude, product, number, truth (walks). Small facts for hasFields. Plain facts on formed. Contract of deeper (a walk). Contracts of sum, magnitude, product, number, truth (walks). -/
import Derived.Test.YtangdoidkcelfaaGreatDoorEa
import Derived.Test.YtangdoidkcelfaaGreatDoorShelf
namespace Go.Proofs.YtangdoidkcelfaaGreatDoor
open Go.RowKit
/-- What the class of a byte tells. -/
def ClsP (c : UInt8) (k : Int) : Prop := (k == 2) = ltrB c ∧ (k == 3) = dgtB c ∧ (k == 4) = decide (c.toNat = 95)
def ClsPost (c : UInt8) (w : World) (e : Ending) (w' : World) : Prop := ∃ k, e = .returned (.int .i64 k) ∧ ClsP c k ∧ w = w'
theorem containsRune_any (s : ByteArray) (r : Int) (w : World) (h0 : 0 ≤ r) (h1 : r < 128) : Calls Tryz.prog 120 #[.string s, .int .i32 r] w fun e w' => ∃ b, e = .returned (.bool b) ∧ w = w' :=
 (Tryz.strings_ContainsRune_ascii s r w h0 h1).mono fun _ _ h => ⟨_, h.1, h.2.symm⟩
set_option maxRecDepth 8000 in
set_option maxHeartbeats 4000000 in
theorem classOf_any (c : UInt8) (w : World) : Calls Tryz.prog 82 #[.int .i32 c.toNat] w (ClsPost c w) := by
 have hc : c.toNat < 256 := c.toNat_lt
 obtain ⟨m, hm⟩ : ∃ m, m = c.toNat := ⟨_, rfl⟩
 have hM := Lib.hid hm
 rw [← hm] at hc ⊢
 clear hm
 by_cases hb : m = 32 ∨ m = 9 ∨ m = 10
 · have hP : ClsP c 1 := by unfold ClsP ltrB dgtB; rw [← hM.out]; rcases hb with h | h | h <;> subst h <;> decide
   have hP := Lib.hid hP
   rcases hb with h | h | h <;> subst h <;>
   · go_enter Tryz.func82, Tryz.ntmps82
     go_wp2
     go_ret
     exact ⟨1, rfl, hP.out, rfl⟩
 · by_cases hl : (97 ≤ m ∧ m ≤ 122) ∨ (65 ≤ m ∧ m ≤ 90)
   · have hP : ClsP c 2 := by
      unfold ClsP ltrB dgtB; rw [← hM.out]
      refine ⟨?_, ?_, ?_⟩
      · rcases hl with h | h <;> simp [h.1, h.2]
      · symm; simp; omega
      · symm; simp; omega
     have hP := Lib.hid hP
     have d1 : ((m : Int) == 32) = false := by simp; omega
     have d2 : ((m : Int) == 9) = false := by simp; omega
     have d3 : ((m : Int) == 10) = false := by simp; omega
     rcases hl with ⟨h1, h2⟩ | ⟨h1, h2⟩
     · have e1 : decide ((97 : Int) ≤ m) = true := by simp; omega
       have e2 : decide ((m : Int) ≤ 122) = true := by simp; omega
       clear hb
       go_enter Tryz.func82, Tryz.ntmps82
       go_wp2
       go_ret
       exact ⟨2, rfl, hP.out, rfl⟩
     · have e1 : decide ((97 : Int) ≤ m) = false := by simp; omega
       have e2 : decide ((65 : Int) ≤ m) = true := by simp; omega
       have e3 : decide ((m : Int) ≤ 90) = true := by simp; omega
       clear hb
       go_enter Tryz.func82, Tryz.ntmps82
       go_wp2
       go_ret
       exact ⟨2, rfl, hP.out, rfl⟩
   · have d1 : ((m : Int) == 32) = false := by simp; omega
     have d2 : ((m : Int) == 9) = false := by simp; omega
     have d3 : ((m : Int) == 10) = false := by simp; omega
     have e1 : (decide ((97 : Int) ≤ m) = true ∧ decide ((m : Int) ≤ 122) = false) ∨ (decide ((97 : Int) ≤ m) = false) := by
      by_cases h : 97 ≤ m
      · left; exact ⟨by simp; omega, by simp; omega⟩
      · right; simp; omega
     have e2 : (decide ((65 : Int) ≤ m) = true ∧ decide ((m : Int) ≤ 90) = false) ∨ (decide ((65 : Int) ≤ m) = false) := by
      by_cases h : 65 ≤ m
      · left; exact ⟨by simp; omega, by simp; omega⟩
      · right; simp; omega
     by_cases hd : 48 ≤ m ∧ m ≤ 57
     · have hP : ClsP c 3 := by
        unfold ClsP ltrB dgtB; rw [← hM.out]
        refine ⟨?_, ?_, ?_⟩
        · symm; simp; omega
        · simp [hd.1, hd.2]
        · symm; simp; omega
       have hP := Lib.hid hP
       have f1 : decide ((48 : Int) ≤ m) = true := by simp; omega
       have f2 : decide ((m : Int) ≤ 57) = true := by simp; omega
       have e1' : decide ((97 : Int) ≤ m) = false := by simp; omega
       have e2' : decide ((65 : Int) ≤ m) = false := by simp; omega
       clear hb hl e1 e2
       go_enter Tryz.func82, Tryz.ntmps82
       go_wp2
       go_ret
       exact ⟨3, rfl, hP.out, rfl⟩
     · by_cases hu : m = 95
       · have hP : ClsP c 4 := by unfold ClsP ltrB dgtB; rw [← hM.out, hu]; decide
         have hP := Lib.hid hP
         subst hu
         clear hb hl e1 e2
         go_enter Tryz.func82, Tryz.ntmps82
         go_wp2
         go_ret
         exact ⟨4, rfl, hP.out, rfl⟩
       · have hP : ∀ k : Int, k ≠ 2 → k ≠ 3 → k ≠ 4 → ClsP c k := by
          intro k h2 h3 h4
          unfold ClsP ltrB dgtB; rw [← hM.out]
          refine ⟨?_, ?_, ?_⟩
          · rw [beq_eq_false_iff_ne.2 h2]; symm; simp; omega
          · rw [beq_eq_false_iff_ne.2 h3]; symm; simp; omega
          · rw [beq_eq_false_iff_ne.2 h4]; symm; simp; omega
         have hP := Lib.hid hP
         have f1 : (decide ((48 : Int) ≤ m) = true ∧ decide ((m : Int) ≤ 57) = false) ∨ (decide ((48 : Int) ≤ m) = false) := by
          by_cases h : 48 ≤ m
          · left; exact ⟨by simp; omega, by simp; omega⟩
          · right; simp; omega
         have f3 : ((m : Int) == 95) = false := by simp; omega
         by_cases h34 : m = 34
         · subst h34
           clear hb hl e1 e2 f1
           go_enter Tryz.func82, Tryz.ntmps82
           go_wp2
           go_ret
           exact ⟨5, rfl, hP.out 5 (by decide) (by decide) (by decide), rfl⟩
         · by_cases h35 : m = 35
           · subst h35
             clear hb hl e1 e2 f1
             go_enter Tryz.func82, Tryz.ntmps82
             go_wp2
             go_ret
             exact ⟨6, rfl, hP.out 6 (by decide) (by decide) (by decide), rfl⟩
           · have g1 : ((m : Int) == 34) = false := by simp; omega
             have g2 : ((m : Int) == 35) = false := by simp; omega
             by_cases h126 : m ≤ 126
             · have g3 : decide ((m : Int) ≤ 126) = true := by simp; omega
               clear hb hl hd hu h34 h35
               rcases e1 with ⟨e1, e1'⟩ | e1 <;> rcases e2 with ⟨e2, e2'⟩ | e2 <;> rcases f1 with ⟨f1, f1'⟩ | f1 <;>
               · go_enter Tryz.func82, Tryz.ntmps82
                 go_wp2_with fail
                 refine (containsRune_any _ _ _ (by omega) (by omega)).mono ?_
                 rintro e w1 ⟨b, rfl, rfl⟩
                 cases b with
                 | true =>
                  go_wp2
                  go_ret
                  exact ⟨7, rfl, hP.out 7 (by decide) (by decide) (by decide), rfl⟩
                 | false =>
                  go_wp2
                  go_ret
                  exact ⟨0, rfl, hP.out 0 (by decide) (by decide) (by decide), rfl⟩
             · have g3 : decide ((m : Int) ≤ 126) = false := by simp; omega
               have e1' : decide ((97 : Int) ≤ m) = true := by simp; omega
               have e1'' : decide ((m : Int) ≤ 122) = false := by simp; omega
               have e2' : decide ((65 : Int) ≤ m) = true := by simp; omega
               have e2'' : decide ((m : Int) ≤ 90) = false := by simp; omega
               have f1' : decide ((48 : Int) ≤ m) = true := by simp; omega
               have f1'' : decide ((m : Int) ≤ 57) = false := by simp; omega
               clear hb hl hd hu h34 h35 e1 e2 f1
               go_enter Tryz.func82, Tryz.ntmps82
               go_wp2
               go_ret
               exact ⟨0, rfl, hP.out 0 (by decide) (by decide) (by decide), rfl⟩
theorem wrap32_u8 (c : UInt8) : wrap32 (c.toNat : Int) = c.toNat := by
 have := c.toNat_lt
 unfold wrap32
 omega
set_option maxHeartbeats 1000000 in
theorem isWordByte_any (c : UInt8) (w : World) : Calls Tryz.prog 121 #[.int .u8 c.toNat] w fun e w' => e = .returned (.bool (wrdB c)) ∧ w = w' := by
 have hw := wrap32_u8 c
 go_enter Tryz.func121, Tryz.ntmps121
 go_wp2_with fail
 rw [hw]
 refine (classOf_any c _).mono ?_
 rintro e w1 ⟨k, rfl, hP, rfl⟩
 have hP := Lib.hid hP
 clear hw
 cases a2 : (k == 2) with
 | true => go_wp2; go_ret; exact ⟨by unfold wrdB; rw [← hP.out.1, a2]; rfl, rfl⟩
 | false =>
  cases a3 : (k == 3) with
  | true => go_wp2; go_ret; exact ⟨by unfold wrdB; rw [← hP.out.1, ← hP.out.2.1, a2, a3]; rfl, rfl⟩
  | false => go_wp2; go_ret; exact ⟨by unfold wrdB; rw [← hP.out.1, ← hP.out.2.1, ← hP.out.2.2, a2, a3]; rfl, rfl⟩
theorem take_snocB (s : ByteArray) (k : Nat) (h : k < s.size) : s.data.toList.take (k + 1) = s.data.toList.take k ++ [s[k]] := by
 have hk : k < s.data.toList.length := by rw [Array.length_toList]; exact h
 rw [List.take_succ_eq_append_getElem hk]
 simp [ByteArray.getElem_eq_getElem_data]
theorem all_takeB (p : UInt8 → Bool) (s : ByteArray) (k : Nat) (h : k < s.size) : (s.data.toList.take (k + 1)).all p = ((s.data.toList.take k).all p && p s[k]) := by
 rw [take_snocB s k h]; simp
theorem all_badB (p : UInt8 → Bool) (s : ByteArray) (k : Nat) (h : k < s.size) (hc : p s[k] = false) : s.data.toList.all p = false := by
 rw [List.all_eq_false]
 exact ⟨s[k], by simp [ByteArray.getElem_eq_getElem_data], by simp [hc]⟩
theorem ret_boolE {a b : Bool} (h : a = b) : Ending.returned (.bool a) = .returned (.bool b) := by rw [h]
def WordPost (s : ByteArray) (w : World) (e : Ending) (w' : World) : Prop := ∃ t : ByteArray, e = .returned (.string t) ∧ decide ((t.size : Int) = s.size) = s.data.toList.all wrdB ∧ w = w'
set_option maxHeartbeats 1000000 in
theorem wordAt_any (s : ByteArray) (w : World) (hs : s.size ≤ 1000000) : Calls Tryz.prog 83 #[.string s, .int .i64 0] w (WordPost s w) := by
 go_enter Tryz.func83, Tryz.ntmps83
 go_wp2
 go_loop [5] (fun i => ∃ k : Nat, k ≤ s.size ∧ i = .int .i64 k ∧ (s.data.toList.take k).all wrdB = true) (fun i => s.size - (intOf i).toNat)
 case atStart => exact ⟨0, Nat.zero_le _, rfl, rfl⟩
 case round =>
  obtain ⟨k, hk, rfl, hall⟩ := hrel
  have hH := Lib.hid hall
  clear hall
  by_cases hlt : k < s.size
  · go_wp2_with fail
    refine (isWordByte_any s[k] _).mono ?_
    rintro e w1 ⟨rfl, rfl⟩
    cases hc : wrdB s[k] with
    | true =>
     go_wp2
     go_round
     case rel => exact ⟨k + 1, by omega, by go_num, by rw [all_takeB wrdB s k hlt, hH.out, hc]; rfl⟩
     case measure => simp [intOf]; omega
    | false =>
     have hA := Lib.hid (all_badB wrdB s k hlt hc)
     go_wp2
     go_ret
     refine ⟨_, rfl, ?_, rfl⟩
     rw [hA.out]
     simp
     omega
  · have hk' : s.data.toList.take k = s.data.toList := List.take_of_length_le (by simp; omega)
    have hA := hH.out
    rw [hk'] at hA
    have hA := Lib.hid hA
    clear hk'
    go_wp2
    go_ret
    refine ⟨_, rfl, ?_, rfl⟩
    rw [hA.out]
    simp
    omega
theorem nameB_at (s : ByteArray) (h0 : 0 < s.size) (h1 : s.size ≤ 16) : nameB s = (ltrB s[0] && s.data.toList.all wrdB) := by
 unfold nameB
 have hl : s.data.toList.length = s.size := by rw [Array.length_toList]; rfl
 have hd : s.data.toList[0]? = some s[0] := by simp [ByteArray.getElem_eq_getElem_data]
 rw [decide_eq_true (show 1 ≤ s.size ∧ s.size ≤ 16 from ⟨h0, h1⟩), Bool.true_and]
 cases h : s.data.toList with
 | nil => rw [h] at hl; simp at hl; omega
 | cons c l =>
  rw [h] at hd
  simp at hd
  rw [hd]
theorem emp_list {s : ByteArray} (h : s.size = 0) : s.toList = [] := by
 rw [ByteArray.toList_eq]
 have hl : s.data.toList.length = s.size := by rw [Array.length_toList]; rfl
 exact List.length_eq_zero_iff.1 (by omega)
theorem ne_list {s : ByteArray} (h : ¬ s.size = 0) : ¬ s.toList = [] := by
 rw [ByteArray.toList_eq]
 have hl : s.data.toList.length = s.size := by rw [Array.length_toList]; rfl
 intro e
 rw [e] at hl
 exact h hl.symm
theorem ne_isE {s : ByteArray} (h : ¬ s.size = 0) : s.toList.isEmpty = false := by
 cases e : s.toList with
 | nil => exact absurd e (ne_list h)
 | cons a l => rfl
set_option maxHeartbeats 1000000 in
theorem isName_any (s : ByteArray) (w : World) : Calls Tryz.prog 56 #[.string s] w fun e w' => e = .returned (.bool (nameB s)) ∧ w = w' := by
 by_cases h0 : s.size = 0
 · have e0 := emp_list h0
   rw [show nameB s = false by simp [nameB, h0]]
   clear h0
   go_enter Tryz.func56, Tryz.ntmps56
   go_wp2
   go_ret
   exact ⟨rfl, rfl⟩
 · have e0 := ne_list h0
   have e1 := ne_isE h0
   by_cases h16 : s.size ≤ 16
   · have hw := wrap32_u8 s[0]
     have hn := Lib.hid (nameB_at s (by omega) h16)
     have g1 : decide (16 < (s.size : Int)) = false := by simp; omega
     have g2 : ¬ 16 < (s.size : Int) := by omega
     have hlt : 0 < s.size := by omega
     go_enter Tryz.func56, Tryz.ntmps56
     go_wp2_with fail
     refine (classOf_any s[0] _).mono ?_
     rintro e w1 ⟨k, rfl, hP, rfl⟩
     have hP := Lib.hid hP
     clear hw
     cases a2 : (k == 2) with
     | true =>
      have a3 : (k != 2) = false := by simp [bne, a2]
      go_wp2_with fail
      refine (wordAt_any s _ (by omega)).mono ?_
      rintro e w1 ⟨t, rfl, ht, rfl⟩
      have ht := Lib.hid ht
      go_wp2
      go_ret
      refine ⟨ret_boolE ?_, rfl⟩
      rw [hn.out, ← hP.out.1, a2, Bool.true_and, ← ht.out]
      rfl
     | false =>
      have a3 : (k != 2) = true := by simp [bne, a2]
      go_wp2
      go_ret
      exact ⟨ret_boolE (by rw [hn.out, ← hP.out.1, a2]; rfl), rfl⟩
   · have g1 : decide (16 < (s.size : Int)) = true := by simp; omega
     have g2 : 16 < (s.size : Int) := by omega
     rw [show nameB s = false by simp [nameB]; intro h; omega]
     clear h16 h0
     go_enter Tryz.func56, Tryz.ntmps56
     go_wp2
     go_ret
     exact ⟨rfl, rfl⟩
end Go.Proofs.YtangdoidkcelfaaGreatDoor
namespace Go.Proofs.YtangdoidkcelfaaGreatDoor
open Go.RowKit
set_option maxRecDepth 8000 in
set_option maxHeartbeats 4000000 in
theorem isNumber_any (n : Int) (w : World) : Calls Tryz.prog 98 #[.int .i64 n] w fun e w' => e = .returned (.bool (nbrB n)) ∧ w = w' := by
 unfold nbrB
 by_cases a1 : -4611686018427387904 ≤ n
 · by_cases a2 : n ≤ 4611686018427387904
   · have a1 := decide_eq_true a1
     have a2 := decide_eq_true a2
     rw [a1, a2]
     go_enter Tryz.func98, Tryz.ntmps98
     go_wp2
     go_ret
     exact ⟨rfl, rfl⟩
   · have a1 := decide_eq_true a1
     have a2 := decide_eq_false a2
     rw [a1, a2]
     go_enter Tryz.func98, Tryz.ntmps98
     go_wp2
     go_ret
     exact ⟨rfl, rfl⟩
 · have a1 := decide_eq_false a1
   rw [a1]
   go_enter Tryz.func98, Tryz.ntmps98
   go_wp2
   go_ret
   exact ⟨by simp, rfl⟩
def litA (s : ByteArray) : Bool := s.data.toList.all litC
def BlP (b : Bool) (w : World) (e : Ending) (w' : World) : Prop := e = .returned (.bool b) ∧ w = w'
set_option maxHeartbeats 1000000 in
theorem isLiteral_any (s : ByteArray) (w : World) : Calls Tryz.prog 142 #[.string s] w (BlP (litB s) w) := by
 unfold litB
 by_cases h1 : s.size ≤ 100
 · rw [decide_eq_true h1, Bool.true_and]
   change Calls _ _ _ _ (BlP (litA s) w)
   go_enter Tryz.func142, Tryz.ntmps142
   go_wp2
   go_loop [9] (fun i => ∃ k : Nat, k ≤ s.size ∧ i = .int .i64 k ∧ (s.data.toList.take k).all litC = true) (fun i => s.size - (intOf i).toNat)
   case atStart => exact ⟨0, Nat.zero_le _, rfl, rfl⟩
   case round =>
    obtain ⟨k, hk, rfl, hall⟩ := hrel
    have hH := Lib.hid hall
    clear hall
    by_cases hlt : k < s.size
    · by_cases c1 : s[k].toNat < 32
      · have hB := Lib.hid (all_badB litC s k hlt (by simp [litC]; omega))
        have d1 : decide ((s[k].toNat : Int) < 32) = true := by simp; omega
        go_wp2
        go_ret
        exact ⟨ret_boolE hB.out.symm, rfl⟩
      · have d1 : decide ((s[k].toNat : Int) < 32) = false := by simp; omega
        by_cases c2 : s[k].toNat ≤ 126
        · have d2 : decide (126 < (s[k].toNat : Int)) = false := by simp; omega
          by_cases c3 : s[k].toNat = 34
          · have hB := Lib.hid (all_badB litC s k hlt (by simp [litC]; omega))
            have d3 : ((s[k].toNat : Int) == 34) = true := by simp; omega
            clear c1 c2
            go_wp2
            go_ret
            exact ⟨ret_boolE hB.out.symm, rfl⟩
          · have hB := Lib.hid (show litC s[k] = true by simp [litC]; omega)
            have d3 : ((s[k].toNat : Int) == 34) = false := by simp; omega
            go_wp2
            go_round
            case rel => exact ⟨k + 1, by omega, by go_num, by rw [all_takeB litC s k hlt, hH.out, hB.out]; rfl⟩
            case measure => simp [intOf]; omega
        · have hB := Lib.hid (all_badB litC s k hlt (by simp [litC]; omega))
          have d2 : decide (126 < (s[k].toNat : Int)) = true := by simp; omega
          go_wp2
          go_ret
          exact ⟨ret_boolE hB.out.symm, rfl⟩
    · have hk' : s.data.toList.take k = s.data.toList := List.take_of_length_le (by simp; omega)
      have hA := hH.out
      rw [hk'] at hA
      have hA := Lib.hid hA
      clear hk'
      go_wp2
      go_ret
      exact ⟨ret_boolE hA.out.symm, rfl⟩
 · rw [decide_eq_false h1, Bool.false_and]
   have g2 : 100 < (s.size : Int) := by omega
   have g1 : decide (100 < (s.size : Int)) = true := by simp; omega
   clear h1
   go_enter Tryz.func142, Tryz.ntmps142
   go_wp2
   go_ret
   exact ⟨rfl, rfl⟩
end Go.Proofs.YtangdoidkcelfaaGreatDoor
namespace Go.Proofs.YtangdoidkcelfaaGreatDoor
open Go.RowKit
theorem empB_t {s : ByteArray} (h : empB s = true) : s.toList = [] := emp_list (by simpa [empB] using h)
theorem empB_f {s : ByteArray} (h : empB s = false) : ¬ s.toList = [] := ne_list (by simpa [empB] using h)
theorem empB_f' {s : ByteArray} (h : empB s = false) : s.toList.isEmpty = false := ne_isE (by simpa [empB] using h)

end Go.Proofs.YtangdoidkcelfaaGreatDoor
namespace Go.Proofs.YtangdoidkcelfaaGreatDoor
open Go.RowKit
theorem formedL_all (l : List Ex) : Ex.formed.formedL l = l.all Ex.formed := by
 induction l with
 | nil => rfl
 | cons x l ih => simp [Ex.formed.formedL, ih]
theorem formed_eq (op : Int) (nm tx : ByteArray) (n : Int) (args : List Ex) : (Ex.mk op nm tx n args).formed = (hasFv op nm tx n args.length && args.all Ex.formed) := by
 rw [Ex.formed, formedL_all]
theorem all_snocD {α : Type} (p : α → Bool) (l : List α) (d : α) (k : Nat) (h : k < l.length) : (l.take (k + 1)).all p = ((l.take k).all p && p (l.getD k d)) := by
 rw [take_snocD l d k h]; simp
theorem all_badD {α : Type} (p : α → Bool) (l : List α) (d : α) (k : Nat) (h : k < l.length) (hc : p (l.getD k d) = false) : l.all p = false := by
 rw [List.all_eq_false]
 refine ⟨l.getD k d, ?_, by rw [hc]; exact Bool.false_ne_true⟩
 rw [List.getD_eq_getElem?_getD, List.getElem?_eq_getElem h, Option.getD_some]
 exact List.getElem_mem h
end Go.Proofs.YtangdoidkcelfaaGreatDoor
namespace Go.Proofs.YtangdoidkcelfaaGreatDoor
open Go.RowKit
theorem levels_pos (x : Ex) : 1 ≤ x.levels := by rw [levels_eq]; omega
set_option maxRecDepth 8000 in
set_option maxHeartbeats 2000000 in
theorem deeper_any {w : World} {v : Value} {l : List Ex} (h : ExS w v l) : ∀ (x : Ex), x.args = l → ∀ w', Ext w w' → ∀ lv : Int, -1000 ≤ lv → lv ≤ 1000 → Calls Tryz.prog 84 #[exAgg x v, .int .i64 lv] w' (OneV (.bool (decide (lv < x.levels))) w') := by
 refine ExS.ind (P := fun x v => ∀ w', Ext w w' → ∀ lv : Int, -1000 ≤ lv → lv ≤ 1000 → Calls Tryz.prog 84 #[exAgg x v, .int .i64 lv] w' (OneV (.bool (decide (lv < x.levels))) w')) ?_ h
 clear h
 intro x v hS hK w' hE lv hl1 hl2
 obtain ⟨op, nm, tx, n, args⟩ := x
 obtain ⟨q, cp, rfl⟩ := hS.form
 have hlen := hS.len
 have hK := Lib.hid hK
 have hpos := levels_pos (.mk op nm tx n args)
 have hleq := levels_eq (.mk op nm tx n args)
 simp only [Ex.args] at hK hlen hleq ⊢
 generalize (Ex.mk op nm tx n args).levels = L at *
 replace hleq := Lib.hid hleq
 rw [exAgg_mk]
 clear hS
 by_cases h1 : lv < 1
 · have d1 : decide (lv < 1) = true := by simp [h1]
   rw [show decide (lv < (L : Int)) = true by simp; omega]
   clear hl1 hl2 hpos h1 hleq hK
   go_enter Tryz.func84, Tryz.ntmps84
   go_wp2
   go_ret
   exact ⟨rfl, xt⟩
 · have d1 : decide (lv < 1) = false := by simp; omega
   go_enter Tryz.func84, Tryz.ntmps84
   go_wp2_with fail
   go_loopw [12] (fun i wr => ∃ k : Nat, k ≤ args.length ∧ i = .int .i64 k ∧ (Ex.levels.levelsL (args.take k) : Int) ≤ lv - 1 ∧ Ext w' wr) (fun i _ => args.length - (intOf i).toNat)
   case atStart => exact ⟨0, Nat.zero_le _, rfl, by simp [Ex.levels.levelsL]; omega, xt⟩
   case round =>
    obtain ⟨k, hk, rfl, hd, hEr⟩ := hrel
    by_cases hlt : k < args.length
    · obtain ⟨b, off, rfl, sv, hkid⟩ := hK.out _ _ rfl (by omega)
      obtain ⟨hc, hsu, hP⟩ := hkid k hlt
      have hform := hsu.form
      obtain ⟨c0, c1, c2, c3, c4⟩ := (hc.ext (hE.trans hEr)).five
      have hle := Lib.hid (levels_le args k hlt)
      have hsn := Lib.hid (levelsL_snoc args k hlt)
      have hP := Lib.hid hP
      replace hd := Lib.hid hd
      clear hc hkid hsu
      generalize args.getD k exD = y at *
      generalize sv k = u at *
      obtain ⟨uq, uc, rfl⟩ := hform
      have e1 : wrap64 (lv - 1) = lv - 1 := by unfold wrap64; omega
      go_wp2_with fail
      refine (hP.out _ ((hE.trans hEr).alloc _) (lv - 1) (by omega) (by omega)).mono ?_
      rintro e w1 ⟨rfl, hE1⟩
      have hE2 := (hEr.alloc _).trans hE1
      clear hE1 c0 c1 c2 c3 c4 e1
      by_cases hy : lv - 1 < (y.levels : Int)
      · rw [decide_eq_true hy]
        go_wp2
        go_ret
        have h1 := hle.out
        have h2 := hleq.out
        exact ⟨ret_boolE (decide_eq_true (show lv < (L : Int) by omega)).symm, hE2⟩
      · rw [decide_eq_false hy]
        go_wp2
        go_roundw
        case rel => exact ⟨k + 1, by omega, by go_num, by rw [hsn.out]; have := hd.out; omega, hE2⟩
        case measure => simp [intOf]; omega
    · have hkk : args.take k = args := List.take_of_length_le (by omega)
      rw [hkk] at hd
      replace hd := Lib.hid hd
      clear hkk
      go_wp2
      go_ret
      have h1 := hd.out
      have h2 := hleq.out
      exact ⟨ret_boolE (decide_eq_false (show ¬ lv < (L : Int) by omega)).symm, hEr⟩
end Go.Proofs.YtangdoidkcelfaaGreatDoor
namespace Go.Proofs.YtangdoidkcelfaaGreatDoor
open Go.RowKit
theorem nbr_iff (n : Int) : nbrB n = true ↔ -4611686018427387904 ≤ n ∧ n ≤ 4611686018427387904 := by simp [nbrB]
theorem wrap64_id (n : Int) (h : -9223372036854775808 ≤ n) (h' : n ≤ 9223372036854775807) : wrap64 n = n := by unfold wrap64; omega
theorem u64_id (n : Int) (h : 0 ≤ n) (h' : n ≤ 18446744073709551615) : IntKind.u64.wrap n = n := by simp [IntKind.wrap, IntKind.bits, IntKind.signed]; omega
def OptI (o : Option Int) (w : World) (e : Ending) (w' : World) : Prop := e = .returned (.tuple #[.int .i64 (o.getD 0), .bool o.isSome]) ∧ w = w'
theorem optI_none {o : Option Int} (w : World) (h : o = none) : OptI o w (.returned (.tuple #[.int .i64 0, .bool false])) w := by subst h; exact ⟨rfl, rfl⟩
theorem optI_some {o : Option Int} {n : Int} (w : World) (h : o = some n) : OptI o w (.returned (.tuple #[.int .i64 n, .bool true])) w := by subst h; exact ⟨rfl, rfl⟩
set_option maxRecDepth 8000 in
set_option maxHeartbeats 1000000 in
theorem sum_any (a b : Int) (w : World) (ha : nbrB a = true) (hb : nbrB b = true) : Calls Tryz.prog 131 #[.int .i64 a, .int .i64 b] w (OptI (sumV a b) w) := by
 rw [nbr_iff] at ha hb
 obtain ⟨m1, hm1⟩ : ∃ m, m = 4611686018427387904 - b := ⟨_, rfl⟩
 obtain ⟨m2, hm2⟩ : ∃ m, m = -4611686018427387904 - b := ⟨_, rfl⟩
 by_cases hp : 0 < b
 · have d1 : decide (0 < b) = true := by simp [hp]
   have d2 : decide (b < 0) = false := by simp; omega
   have e1 : wrap64 (4611686018427387904 - b) = m1 := by rw [wrap64_id _ (by omega) (by omega), hm1]
   by_cases hc : m1 < a
   · have hS := Lib.hid (show sumV a b = none by unfold sumV; rw [show nbrB (a + b) = false by simp [nbrB]; omega]; rfl)
     have d3 : decide (m1 < a) = true := by simp [hc]
     clear ha hb hm1 hm2 hp hc
     go_enter Tryz.func131, Tryz.ntmps131
     go_wp2
     go_ret2
     exact optI_none _ hS.out
   · have hS := Lib.hid (show sumV a b = some (a + b) by unfold sumV; rw [show nbrB (a + b) = true by rw [nbr_iff]; omega]; rfl)
     have e3 : wrap64 (a + b) = a + b := wrap64_id _ (by omega) (by omega)
     have d3 : decide (m1 < a) = false := by simp; omega
     clear ha hb hm1 hm2 hp hc
     go_enter Tryz.func131, Tryz.ntmps131
     go_wp2
     go_ret2
     exact optI_some _ (by rw [e3]; exact hS.out)
 · have d1 : decide (0 < b) = false := by simp; omega
   by_cases hn : b < 0
   · have d2 : decide (b < 0) = true := by simp [hn]
     have e2 : wrap64 (-4611686018427387904 - b) = m2 := by rw [wrap64_id _ (by omega) (by omega), hm2]
     by_cases hc : a < m2
     · have hS := Lib.hid (show sumV a b = none by unfold sumV; rw [show nbrB (a + b) = false by simp [nbrB]; omega]; rfl)
       have d3 : decide (a < m2) = true := by simp [hc]
       clear ha hb hm1 hm2 hp hc hn
       go_enter Tryz.func131, Tryz.ntmps131
       go_wp2
       go_ret2
       exact optI_none _ hS.out
     · have hS := Lib.hid (show sumV a b = some (a + b) by unfold sumV; rw [show nbrB (a + b) = true by rw [nbr_iff]; omega]; rfl)
       have e3 : wrap64 (a + b) = a + b := wrap64_id _ (by omega) (by omega)
       have d3 : decide (a < m2) = false := by simp; omega
       clear ha hb hm1 hm2 hp hc hn
       go_enter Tryz.func131, Tryz.ntmps131
       go_wp2
       go_ret2
       exact optI_some _ (by rw [e3]; exact hS.out)
   · have hb0 : b = 0 := by omega
     have hS := Lib.hid (show sumV a b = some (a + b) by unfold sumV; rw [show nbrB (a + b) = true by rw [nbr_iff]; omega]; rfl)
     have e3 : wrap64 (a + b) = a + b := wrap64_id _ (by omega) (by omega)
     have d2 : decide (b < 0) = false := by simp; omega
     clear ha hb hm1 hm2 hp hn hb0
     go_enter Tryz.func131, Tryz.ntmps131
     go_wp2
     go_ret2
     exact optI_some _ (by rw [e3]; exact hS.out)
set_option maxHeartbeats 1000000 in
theorem magnitude_any (a : Int) (w : World) (ha : nbrB a = true) : Calls Tryz.prog 145 #[.int .i64 a] w fun e w' => e = .returned (.int .u64 a.natAbs) ∧ w = w' := by
 rw [nbr_iff] at ha
 by_cases h : a < 0
 · have d1 : decide (a < 0) = true := by simp [h]
   have e1 : wrap64 (-a) = a.natAbs := by rw [wrap64_id _ (by omega) (by omega)]; omega
   have e2 : IntKind.u64.wrap (a.natAbs : Int) = a.natAbs := u64_id _ (by omega) (by omega)
   clear ha h
   go_enter Tryz.func145, Tryz.ntmps145
   go_wp2
   go_ret
   exact ⟨rfl, rfl⟩
 · have d1 : decide (a < 0) = false := by simp; omega
   have e2 : IntKind.u64.wrap a = a.natAbs := by rw [u64_id _ (by omega) (by omega)]; omega
   clear ha h
   go_enter Tryz.func145, Tryz.ntmps145
   go_wp2
   go_ret
   exact ⟨rfl, rfl⟩
theorem mul64_any (x y : Nat) (hx : x < 18446744073709551616) (hy : y < 18446744073709551616) (w : World) : Calls Tryz.prog 144 #[.int .u64 x, .int .u64 y] w fun e w' => ∃ hi lo : Nat, e = .returned (.tuple #[.int .u64 hi, .int .u64 lo]) ∧ (hi * 18446744073709551616 + lo = x * y ∧ lo < 18446744073709551616) ∧ w = w' :=
 (Tryz.bits_Mul64 x y hx hy w).mono fun _ _ h => ⟨_, _, h.1, ⟨by omega, by omega⟩, h.2.symm⟩
theorem natAbs_mul_le {a b : Int} : nbrB (a * b) = true ↔ a.natAbs * b.natAbs ≤ 4611686018427387904 := by
 rw [nbr_iff, ← Int.natAbs_mul]
 omega
set_option maxRecDepth 8000 in
set_option maxHeartbeats 2000000 in
theorem product_any (a b : Int) (w : World) (ha : nbrB a = true) (hb : nbrB b = true) : Calls Tryz.prog 132 #[.int .i64 a, .int .i64 b] w (OptI (mulV a b) w) := by
 have hm1 := Lib.hid (fun w => magnitude_any a w ha)
 have hm2 := Lib.hid (fun w => magnitude_any b w hb)
 rw [nbr_iff] at ha hb
 have hmul := Lib.hid (fun w => mul64_any a.natAbs b.natAbs (by omega) (by omega) w)
 have hV := Lib.hid (show mulV a b = if a.natAbs * b.natAbs ≤ 4611686018427387904 then some (a * b) else none by
  unfold mulV
  by_cases h : a.natAbs * b.natAbs ≤ 4611686018427387904
  · rw [if_pos h, natAbs_mul_le.2 h]; rfl
  · rw [if_neg h, show nbrB (a * b) = false by rw [Bool.eq_false_iff]; intro hc; exact h (natAbs_mul_le.1 hc)]; rfl)
 clear ha hb
 go_enter Tryz.func132, Tryz.ntmps132
 go_wp2_with fail
 refine (hm1.out _).mono ?_
 rintro e w1 ⟨rfl, rfl⟩
 go_wp2_with fail
 refine (hm2.out _).mono ?_
 rintro e w1 ⟨rfl, rfl⟩
 go_wp2_with fail
 refine (hmul.out _).mono ?_
 rintro e w1 ⟨hi, lo, rfl, ⟨hs, hlo⟩, rfl⟩
 by_cases hle : a.natAbs * b.natAbs ≤ 4611686018427387904
 · have h0 : hi = 0 := by omega
   have h1 : lo = a.natAbs * b.natAbs := by omega
   have hV := Lib.hid (hV.out.trans (if_pos hle))
   subst h0
   have d1 : decide (4611686018427387904 < (lo : Int)) = false := by simp; omega
   have e1 : wrap64 (lo : Int) = lo := wrap64_id _ (by omega) (by omega)
   have e2 : wrap64 (-(lo : Int)) = -lo := wrap64_id _ (by omega) (by omega)
   replace h1 := Lib.hid h1
   clear hs hlo hle hm1 hm2 hmul
   by_cases s1 : a < 0
   · have s1' := decide_eq_true s1
     by_cases s2 : b < 0
     · have s2' := decide_eq_true s2
       have hV2 := Lib.hid (show mulV a b = some ((lo : Int)) by rw [hV.out, h1.out, Int.natCast_mul, show (a.natAbs : Int) = -a by omega, show (b.natAbs : Int) = -b by omega, Int.neg_mul_neg])
       clear s1 s2 h1
       go_wp2
       go_ret2
       exact optI_some _ (by first | (rw [e1]; exact hV2.out) | (rw [e2]; exact hV2.out))
     · have s2' := decide_eq_false s2
       have hV2 := Lib.hid (show mulV a b = some (-(lo : Int)) by rw [hV.out, h1.out, Int.natCast_mul, show (a.natAbs : Int) = -a by omega, show (b.natAbs : Int) = b by omega, Int.neg_mul, Int.neg_neg])
       clear s1 s2 h1
       go_wp2
       go_ret2
       exact optI_some _ (by first | (rw [e1]; exact hV2.out) | (rw [e2]; exact hV2.out))
   · have s1' := decide_eq_false s1
     by_cases s2 : b < 0
     · have s2' := decide_eq_true s2
       have hV2 := Lib.hid (show mulV a b = some (-(lo : Int)) by rw [hV.out, h1.out, Int.natCast_mul, show (a.natAbs : Int) = a by omega, show (b.natAbs : Int) = -b by omega, Int.mul_neg, Int.neg_neg])
       clear s1 s2 h1
       go_wp2
       go_ret2
       exact optI_some _ (by first | (rw [e1]; exact hV2.out) | (rw [e2]; exact hV2.out))
     · have s2' := decide_eq_false s2
       have hV2 := Lib.hid (show mulV a b = some ((lo : Int)) by rw [hV.out, h1.out, Int.natCast_mul, show (a.natAbs : Int) = a by omega, show (b.natAbs : Int) = b by omega])
       clear s1 s2 h1
       go_wp2
       go_ret2
       exact optI_some _ (by first | (rw [e1]; exact hV2.out) | (rw [e2]; exact hV2.out))
 · have hV := Lib.hid (hV.out.trans (if_neg hle))
   by_cases h0 : hi = 0
   · subst h0
     have d1 : decide (4611686018427387904 < (lo : Int)) = true := by simp; omega
     clear hs hlo hle hm1 hm2 hmul
     go_wp2
     go_ret2
     exact optI_none _ hV.out
   · have d1 : ((hi : Int) != 0) = true := by simp; omega
     have d2 : ((hi : Int) == 0) = false := by simp; omega
     clear hs hlo hle hm1 hm2 hmul
     go_wp2
     go_ret2
     exact optI_none _ hV.out
set_option maxHeartbeats 400000 in
theorem number_any (n : Int) (w : World) : Calls Tryz.prog 99 #[.int .i64 n] w (OneV (.agg #[.string ⟨#[]⟩, .int .i64 1, .int .i64 n, .string ⟨#[]⟩]) w) := by
 go_enter Tryz.func99, Tryz.ntmps99
 go_wp2
 exact bodyPost_ret (v := .agg #[.string ⟨#[]⟩, .int .i64 1, .int .i64 n, .string ⟨#[]⟩]) (by simp [results, Tryz.results99, go_sem]) rfl ⟨rfl, xt⟩
set_option maxHeartbeats 400000 in
theorem truth_t (w : World) : Calls Tryz.prog 102 #[.bool true] w (OneV (.agg #[.string ⟨#[]⟩, .int .i64 3, .int .i64 1, .string ⟨#[]⟩]) w) := by
 go_enter Tryz.func102, Tryz.ntmps102
 go_wp2
 exact bodyPost_ret (v := .agg #[.string ⟨#[]⟩, .int .i64 3, .int .i64 1, .string ⟨#[]⟩]) (by simp [results, Tryz.results102, go_sem]) rfl ⟨rfl, xt⟩
set_option maxHeartbeats 400000 in
theorem truth_f (w : World) : Calls Tryz.prog 102 #[.bool false] w (OneV (.agg #[.string ⟨#[]⟩, .int .i64 3, .int .i64 0, .string ⟨#[]⟩]) w) := by
 go_enter Tryz.func102, Tryz.ntmps102
 go_wp2
 exact bodyPost_ret (v := .agg #[.string ⟨#[]⟩, .int .i64 3, .int .i64 0, .string ⟨#[]⟩]) (by simp [results, Tryz.results102, go_sem]) rfl ⟨rfl, xt⟩
/-- What a new block of four cells holds later. -/
theorem new4 {w w1 : World} {c0 c1 c2 c3 : Value} {T : TypeId} (B : Nat) (hB : B = w.heap.size) (hE : Ext (w.alloc (.cells #[c0, c1, c2, c3] T)) w1) :
 (w1.cell? ⟨B, 0, none⟩ = some c0 ∧ w1.cell? ⟨B, 1, none⟩ = some c1 ∧ w1.cell? ⟨B, 2, none⟩ = some c2 ∧ w1.cell? ⟨B, 3, none⟩ = some c3) ∧ (w1.frozen? ⟨B, 0, none⟩ = false ∧ w1.frozen? ⟨B, 1, none⟩ = false ∧ w1.frozen? ⟨B, 2, none⟩ = false ∧ w1.frozen? ⟨B, 3, none⟩ = false) := by
 have h := (Blk.new' w #[c0, c1, c2, c3] T B hB).ext hE
 exact ⟨⟨(h.cell 0).trans rfl, (h.cell 1).trans rfl, (h.cell 2).trans rfl, (h.cell 3).trans rfl⟩, h.fz 0, h.fz 1, h.fz 2, h.fz 3⟩
end Go.Proofs.YtangdoidkcelfaaGreatDoor
