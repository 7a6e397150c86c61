/- Contracts of lexer.classOf, isWordByte, wordAt, IsName (walks). -/
import Derived.Test.YtpdpjindmghfpaaGreatDoorElv
import Derived.Test.YtpdpjindmghfpaaGreatDoorShelf
namespace Go.Proofs.YtpdpjindmghfpaaGreatDoor
open Go.RowKit
/-- What the class of a byte tells. -/
def ClsP (c : UInt8) (k : Int) : Prop := (k == 2) = ltrB c ∧ (k == 3) = dgtB c ∧ (k == 4) = decide (c.toNat = 95)
def ClsPost (c : UInt8) (w : World) (e : Ending) (w' : World) : Prop := ∃ k, e = .returned (.int .i64 k) ∧ ClsP c k ∧ w = w'
theorem containsRune_any (s : ByteArray) (r : Int) (w : World) (h0 : 0 ≤ r) (h1 : r < 128) : Calls Tryz.prog 137 #[.string s, .int .i32 r] w fun e w' => ∃ b, e = .returned (.bool b) ∧ w = w' :=
  (Tryz.strings_ContainsRune_ascii s r w h0 h1).mono fun _ _ h => ⟨_, h.1, h.2.symm⟩
set_option maxRecDepth 8000 in
set_option maxHeartbeats 4000000 in
theorem classOf_any (c : UInt8) (w : World) : Calls Tryz.prog 114 #[.int .i32 c.toNat] w (ClsPost c w) := by
  have hc : c.toNat < 256 := c.toNat_lt
  obtain ⟨m, hm⟩ : ∃ m, m = c.toNat := ⟨_, rfl⟩
  have hM := Lib.hid hm
  rw [← hm] at hc ⊢
  clear hm
  by_cases hb : m = 32 ∨ m = 9 ∨ m = 10
  · have hP : ClsP c 1 := by unfold ClsP ltrB dgtB; rw [← hM.out]; rcases hb with h | h | h <;> subst h <;> decide
    have hP := Lib.hid hP
    rcases hb with h | h | h <;> subst h <;>
    · go_enter Tryz.func114, Tryz.ntmps114
      go_wp2
      go_ret
      exact ⟨1, rfl, hP.out, rfl⟩
  · by_cases hl : (97 ≤ m ∧ m ≤ 122) ∨ (65 ≤ m ∧ m ≤ 90)
    · have hP : ClsP c 2 := by
        unfold ClsP ltrB dgtB; rw [← hM.out]
        refine ⟨?_, ?_, ?_⟩
        · rcases hl with h | h <;> simp [h.1, h.2]
        · symm; simp; omega
        · symm; simp; omega
      have hP := Lib.hid hP
      have d1 : ((m : Int) == 32) = false := by simp; omega
      have d2 : ((m : Int) == 9) = false := by simp; omega
      have d3 : ((m : Int) == 10) = false := by simp; omega
      rcases hl with ⟨h1, h2⟩ | ⟨h1, h2⟩
      · have e1 : decide ((97 : Int) ≤ m) = true := by simp; omega
        have e2 : decide ((m : Int) ≤ 122) = true := by simp; omega
        clear hb
        go_enter Tryz.func114, Tryz.ntmps114
        go_wp2
        go_ret
        exact ⟨2, rfl, hP.out, rfl⟩
      · have e1 : decide ((97 : Int) ≤ m) = false := by simp; omega
        have e2 : decide ((65 : Int) ≤ m) = true := by simp; omega
        have e3 : decide ((m : Int) ≤ 90) = true := by simp; omega
        clear hb
        go_enter Tryz.func114, Tryz.ntmps114
        go_wp2
        go_ret
        exact ⟨2, rfl, hP.out, rfl⟩
    · have d1 : ((m : Int) == 32) = false := by simp; omega
      have d2 : ((m : Int) == 9) = false := by simp; omega
      have d3 : ((m : Int) == 10) = false := by simp; omega
      have e1 : (decide ((97 : Int) ≤ m) = true ∧ decide ((m : Int) ≤ 122) = false) ∨ (decide ((97 : Int) ≤ m) = false) := by
        by_cases h : 97 ≤ m
        · left; exact ⟨by simp; omega, by simp; omega⟩
        · right; simp; omega
      have e2 : (decide ((65 : Int) ≤ m) = true ∧ decide ((m : Int) ≤ 90) = false) ∨ (decide ((65 : Int) ≤ m) = false) := by
        by_cases h : 65 ≤ m
        · left; exact ⟨by simp; omega, by simp; omega⟩
        · right; simp; omega
      by_cases hd : 48 ≤ m ∧ m ≤ 57
      · have hP : ClsP c 3 := by
          unfold ClsP ltrB dgtB; rw [← hM.out]
          refine ⟨?_, ?_, ?_⟩
          · symm; simp; omega
          · simp [hd.1, hd.2]
          · symm; simp; omega
        have hP := Lib.hid hP
        have f1 : decide ((48 : Int) ≤ m) = true := by simp; omega
        have f2 : decide ((m : Int) ≤ 57) = true := by simp; omega
        have e1' : decide ((97 : Int) ≤ m) = false := by simp; omega
        have e2' : decide ((65 : Int) ≤ m) = false := by simp; omega
        clear hb hl e1 e2
        go_enter Tryz.func114, Tryz.ntmps114
        go_wp2
        go_ret
        exact ⟨3, rfl, hP.out, rfl⟩
      · by_cases hu : m = 95
        · have hP : ClsP c 4 := by unfold ClsP ltrB dgtB; rw [← hM.out, hu]; decide
          have hP := Lib.hid hP
          subst hu
          clear hb hl e1 e2
          go_enter Tryz.func114, Tryz.ntmps114
          go_wp2
          go_ret
          exact ⟨4, rfl, hP.out, rfl⟩
        · have hP : ∀ k : Int, k ≠ 2 → k ≠ 3 → k ≠ 4 → ClsP c k := by
            intro k h2 h3 h4
            unfold ClsP ltrB dgtB; rw [← hM.out]
            refine ⟨?_, ?_, ?_⟩
            · rw [beq_eq_false_iff_ne.2 h2]; symm; simp; omega
            · rw [beq_eq_false_iff_ne.2 h3]; symm; simp; omega
            · rw [beq_eq_false_iff_ne.2 h4]; symm; simp; omega
          have hP := Lib.hid hP
          have f1 : (decide ((48 : Int) ≤ m) = true ∧ decide ((m : Int) ≤ 57) = false) ∨ (decide ((48 : Int) ≤ m) = false) := by
            by_cases h : 48 ≤ m
            · left; exact ⟨by simp; omega, by simp; omega⟩
            · right; simp; omega
          have f3 : ((m : Int) == 95) = false := by simp; omega
          by_cases h34 : m = 34
          · subst h34
            clear hb hl e1 e2 f1
            go_enter Tryz.func114, Tryz.ntmps114
            go_wp2
            go_ret
            exact ⟨5, rfl, hP.out 5 (by decide) (by decide) (by decide), rfl⟩
          · by_cases h35 : m = 35
            · subst h35
              clear hb hl e1 e2 f1
              go_enter Tryz.func114, Tryz.ntmps114
              go_wp2
              go_ret
              exact ⟨6, rfl, hP.out 6 (by decide) (by decide) (by decide), rfl⟩
            · have g1 : ((m : Int) == 34) = false := by simp; omega
              have g2 : ((m : Int) == 35) = false := by simp; omega
              by_cases h126 : m ≤ 126
              · have g3 : decide ((m : Int) ≤ 126) = true := by simp; omega
                clear hb hl hd hu h34 h35
                rcases e1 with ⟨e1, e1'⟩ | e1 <;> rcases e2 with ⟨e2, e2'⟩ | e2 <;> rcases f1 with ⟨f1, f1'⟩ | f1 <;>
                · go_enter Tryz.func114, Tryz.ntmps114
                  go_wp2_with fail
                  refine (containsRune_any _ _ _ (by omega) (by omega)).mono ?_
                  rintro e w1 ⟨b, rfl, rfl⟩
                  cases b with
                  | true =>
                    go_wp2
                    go_ret
                    exact ⟨7, rfl, hP.out 7 (by decide) (by decide) (by decide), rfl⟩
                  | false =>
                    go_wp2
                    go_ret
                    exact ⟨0, rfl, hP.out 0 (by decide) (by decide) (by decide), rfl⟩
              · have g3 : decide ((m : Int) ≤ 126) = false := by simp; omega
                have e1' : decide ((97 : Int) ≤ m) = true := by simp; omega
                have e1'' : decide ((m : Int) ≤ 122) = false := by simp; omega
                have e2' : decide ((65 : Int) ≤ m) = true := by simp; omega
                have e2'' : decide ((m : Int) ≤ 90) = false := by simp; omega
                have f1' : decide ((48 : Int) ≤ m) = true := by simp; omega
                have f1'' : decide ((m : Int) ≤ 57) = false := by simp; omega
                clear hb hl hd hu h34 h35 e1 e2 f1
                go_enter Tryz.func114, Tryz.ntmps114
                go_wp2
                go_ret
                exact ⟨0, rfl, hP.out 0 (by decide) (by decide) (by decide), rfl⟩
theorem wrap32_u8 (c : UInt8) : wrap32 (c.toNat : Int) = c.toNat := by
  have := c.toNat_lt
  unfold wrap32
  omega
set_option maxHeartbeats 1000000 in
theorem isWordByte_any (c : UInt8) (w : World) : Calls Tryz.prog 138 #[.int .u8 c.toNat] w fun e w' => e = .returned (.bool (wrdB c)) ∧ w = w' := by
  have hw := wrap32_u8 c
  go_enter Tryz.func138, Tryz.ntmps138
  go_wp2_with fail
  rw [hw]
  refine (classOf_any c _).mono ?_
  rintro e w1 ⟨k, rfl, hP, rfl⟩
  have hP := Lib.hid hP
  clear hw
  cases a2 : (k == 2) with
  | true => go_wp2; go_ret; exact ⟨by unfold wrdB; rw [← hP.out.1, a2]; rfl, rfl⟩
  | false =>
    cases a3 : (k == 3) with
    | true => go_wp2; go_ret; exact ⟨by unfold wrdB; rw [← hP.out.1, ← hP.out.2.1, a2, a3]; rfl, rfl⟩
    | false => go_wp2; go_ret; exact ⟨by unfold wrdB; rw [← hP.out.1, ← hP.out.2.1, ← hP.out.2.2, a2, a3]; rfl, rfl⟩
theorem take_snocB (s : ByteArray) (k : Nat) (h : k < s.size) : s.data.toList.take (k + 1) = s.data.toList.take k ++ [s[k]] := by
  have hk : k < s.data.toList.length := by rw [Array.length_toList]; exact h
  rw [List.take_succ_eq_append_getElem hk]
  simp [ByteArray.getElem_eq_getElem_data]
theorem all_takeB (p : UInt8 → Bool) (s : ByteArray) (k : Nat) (h : k < s.size) : (s.data.toList.take (k + 1)).all p = ((s.data.toList.take k).all p && p s[k]) := by
  rw [take_snocB s k h]; simp
theorem all_badB (p : UInt8 → Bool) (s : ByteArray) (k : Nat) (h : k < s.size) (hc : p s[k] = false) : s.data.toList.all p = false := by
  rw [List.all_eq_false]
  exact ⟨s[k], by simp [ByteArray.getElem_eq_getElem_data], by simp [hc]⟩
theorem ret_boolE {a b : Bool} (h : a = b) : Ending.returned (.bool a) = .returned (.bool b) := by rw [h]
def WordPost (s : ByteArray) (w : World) (e : Ending) (w' : World) : Prop := ∃ t : ByteArray, e = .returned (.string t) ∧ decide ((t.size : Int) = s.size) = s.data.toList.all wrdB ∧ w = w'
set_option maxHeartbeats 1000000 in
theorem wordAt_any (s : ByteArray) (w : World) (hs : s.size ≤ 1000000) : Calls Tryz.prog 115 #[.string s, .int .i64 0] w (WordPost s w) := by
  go_enter Tryz.func115, Tryz.ntmps115
  go_wp2
  go_loop [5] (fun i => ∃ k : Nat, k ≤ s.size ∧ i = .int .i64 k ∧ (s.data.toList.take k).all wrdB = true) (fun i => s.size - (intOf i).toNat)
  case atStart => exact ⟨0, Nat.zero_le _, rfl, rfl⟩
  case round =>
    obtain ⟨k, hk, rfl, hall⟩ := hrel
    have hH := Lib.hid hall
    clear hall
    by_cases hlt : k < s.size
    · go_wp2_with fail
      refine (isWordByte_any s[k] _).mono ?_
      rintro e w1 ⟨rfl, rfl⟩
      cases hc : wrdB s[k] with
      | true =>
        go_wp2
        go_round
        case rel => exact ⟨k + 1, by omega, by go_num, by rw [all_takeB wrdB s k hlt, hH.out, hc]; rfl⟩
        case measure => simp [intOf]; omega
      | false =>
        have hA := Lib.hid (all_badB wrdB s k hlt hc)
        go_wp2
        go_ret
        refine ⟨_, rfl, ?_, rfl⟩
        rw [hA.out]
        simp
        omega
    · have hk' : s.data.toList.take k = s.data.toList := List.take_of_length_le (by simp; omega)
      have hA := hH.out
      rw [hk'] at hA
      have hA := Lib.hid hA
      clear hk'
      go_wp2
      go_ret
      refine ⟨_, rfl, ?_, rfl⟩
      rw [hA.out]
      simp
      omega
theorem nameB_at (s : ByteArray) (h0 : 0 < s.size) (h1 : s.size ≤ 16) : nameB s = (ltrB s[0] && s.data.toList.all wrdB) := by
  unfold nameB
  have hl : s.data.toList.length = s.size := by rw [Array.length_toList]; rfl
  have hd : s.data.toList[0]? = some s[0] := by simp [ByteArray.getElem_eq_getElem_data]
  rw [decide_eq_true (show 1 ≤ s.size ∧ s.size ≤ 16 from ⟨h0, h1⟩), Bool.true_and]
  cases h : s.data.toList with
  | nil => rw [h] at hl; simp at hl; omega
  | cons c l =>
    rw [h] at hd
    simp at hd
    rw [hd]
theorem emp_list {s : ByteArray} (h : s.size = 0) : s.toList = [] := by
  rw [ByteArray.toList_eq]
  have hl : s.data.toList.length = s.size := by rw [Array.length_toList]; rfl
  exact List.length_eq_zero_iff.1 (by omega)
theorem ne_list {s : ByteArray} (h : ¬ s.size = 0) : ¬ s.toList = [] := by
  rw [ByteArray.toList_eq]
  have hl : s.data.toList.length = s.size := by rw [Array.length_toList]; rfl
  intro e
  rw [e] at hl
  exact h hl.symm
theorem ne_isE {s : ByteArray} (h : ¬ s.size = 0) : s.toList.isEmpty = false := by
  cases e : s.toList with
  | nil => exact absurd e (ne_list h)
  | cons a l => rfl
set_option maxHeartbeats 1000000 in
theorem isName_any (s : ByteArray) (w : World) : Calls Tryz.prog 90 #[.string s] w fun e w' => e = .returned (.bool (nameB s)) ∧ w = w' := by
  by_cases h0 : s.size = 0
  · have e0 := emp_list h0
    rw [show nameB s = false by simp [nameB, h0]]
    clear h0
    go_enter Tryz.func90, Tryz.ntmps90
    go_wp2
    go_ret
    exact ⟨rfl, rfl⟩
  · have e0 := ne_list h0
    have e1 := ne_isE h0
    by_cases h16 : s.size ≤ 16
    · have hw := wrap32_u8 s[0]
      have hn := Lib.hid (nameB_at s (by omega) h16)
      have g1 : decide (16 < (s.size : Int)) = false := by simp; omega
      have g2 : ¬ 16 < (s.size : Int) := by omega
      have hlt : 0 < s.size := by omega
      go_enter Tryz.func90, Tryz.ntmps90
      go_wp2_with fail
      refine (classOf_any s[0] _).mono ?_
      rintro e w1 ⟨k, rfl, hP, rfl⟩
      have hP := Lib.hid hP
      clear hw
      cases a2 : (k == 2) with
      | true =>
        have a3 : (k != 2) = false := by simp [bne, a2]
        go_wp2_with fail
        refine (wordAt_any s _ (by omega)).mono ?_
        rintro e w1 ⟨t, rfl, ht, rfl⟩
        have ht := Lib.hid ht
        go_wp2
        go_ret
        refine ⟨ret_boolE ?_, rfl⟩
        rw [hn.out, ← hP.out.1, a2, Bool.true_and, ← ht.out]
        rfl
      | false =>
        have a3 : (k != 2) = true := by simp [bne, a2]
        go_wp2
        go_ret
        exact ⟨ret_boolE (by rw [hn.out, ← hP.out.1, a2]; rfl), rfl⟩
    · have g1 : decide (16 < (s.size : Int)) = true := by simp; omega
      have g2 : 16 < (s.size : Int) := by omega
      rw [show nameB s = false by simp [nameB]; intro h; omega]
      clear h16 h0
      go_enter Tryz.func90, Tryz.ntmps90
      go_wp2
      go_ret
      exact ⟨rfl, rfl⟩
end Go.Proofs.YtpdpjindmghfpaaGreatDoor
