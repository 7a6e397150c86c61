/- Contracts of element.Check and of the reference's Check (walks). Written by gen/check.py. -/
import Derived.Test.YthokhncdpfaifaaGreatDoorKind
import Derived.Test.YthokhncdpfaifaaGreatDoorRfind
namespace Go.Proofs.YthokhncdpfaifaaGreatDoor
open Go.RowKit
/-- What Check says of a value for the element of row k. -/
def chkK (k : Nat) (s : ByteArray) : Int :=
  if (s.size : Int) < (if 0 < dVar k ∨ dNum k = 41 then 1 else dLen k) then 1 else if dLen k < s.size then 3 else if kindB (dKind k) s then 0 else 2
def CheckPost (n : Int) (s : ByteArray) (w : World) (e : Ending) (w' : World) : Prop :=
  (∃ k, k < 23 ∧ dNum k = n ∧ e = .returned (.int .i64 (chkK k s)) ∧ Ext w w') ∨ ((∀ k, k < 23 → dNum k ≠ n) ∧ e = .returned (.int .i64 6) ∧ Ext w w')
theorem row_bd (k : Nat) (hk : k < 23) : (2 ≤ dLen k ∧ dLen k ≤ 255) ∧ (0 ≤ dVar k ∧ dVar k ≤ 3) ∧ (dKind k = 1 ∨ dKind k = 2 ∨ dKind k = 3) :=
  below23 (P := fun k => (2 ≤ dLen k ∧ dLen k ≤ 255) ∧ (0 ≤ dVar k ∧ dVar k ≤ 3) ∧ (dKind k = 1 ∨ dKind k = 2 ∨ dKind k = 3)) (by decide) k hk
theorem isOfKind_any (k : Int) (s : ByteArray) (w : World) (hk : k = 1 ∨ k = 2 ∨ k = 3) (hs : s.size ≤ 1000000) :
    Calls Tryz.prog 83 #[.int .i64 k, .string s] w (KindPost (kindB k s) w) := by
  rcases hk with rfl | rfl | rfl
  · exact isOfKind_1 s w hs
  · exact isOfKind_2 s w hs
  · exact isOfKind_3 s w hs
theorem rKind_any (k : Int) (s : ByteArray) (w : World) (hk : k = 1 ∨ k = 2 ∨ k = 3) (h0 : 0 < s.size) (hs : s.size ≤ 1000000) :
    Calls Tryz.prog 84 #[.int .i64 k, .string s] w (KindPost (kindB k s) w) := by
  rcases hk with rfl | rfl | rfl
  · exact rKind_1 s w h0 hs
  · exact rKind_2 s w h0 hs
  · exact rKind_3 s w h0 hs
theorem i64_ret {a b : Int} {v : Value} (hv : v = .int .i64 a) (h : b = a) : Ending.returned v = .returned (.int .i64 b) := by rw [hv, h]
theorem chk_short1 (k : Nat) (s : ByteArray) (a : 0 < dVar k ∨ dNum k = 41) (h : s.size < 1) : chkK k s = 1 := by unfold chkK; rw [if_pos a, if_pos (by omega)]
theorem chk_short2 (k : Nat) (s : ByteArray) (a : ¬ (0 < dVar k ∨ dNum k = 41)) (h : (s.size : Int) < dLen k) : chkK k s = 1 := by unfold chkK; rw [if_neg a, if_pos h]
theorem chk_long (k : Nat) (hk : k < 23) (s : ByteArray) (h : dLen k < s.size) : chkK k s = 3 := by
  have := row_bd k hk
  unfold chkK; rw [if_neg (by split <;> omega), if_pos h]
theorem chk_kind (k : Nat) (s : ByteArray) (h1 : (0 < dVar k ∨ dNum k = 41) → 1 ≤ s.size) (h2 : ¬ (0 < dVar k ∨ dNum k = 41) → dLen k ≤ s.size) (h3 : s.size ≤ dLen k) : chkK k s = if kindB (dKind k) s then 0 else 2 := by
  unfold chkK
  have : ¬ ((s.size : Int) < (if 0 < dVar k ∨ dNum k = 41 then 1 else dLen k)) := by
    split
    · rename_i h; have := h1 h; omega
    · rename_i h; have := h2 h; omega
  rw [if_neg this, if_neg (by omega)]


set_option maxRecDepth 8000 in
set_option maxHeartbeats 2000000 in
theorem check_any (n : Int) (s : ByteArray) (w : World) (g : Gl w) (hs : s.size ≤ 1000000) :
    Calls Tryz.prog 44 #[.int .i64 n, .string s] w (CheckPost n s w) := by
  go_enter Tryz.func44, Tryz.ntmps44
  go_wp2_with fail
  refine (find_any n _ g).mono ?_
  rintro e w1 (⟨k, hk, hn, rfl, hE⟩ | ⟨hno, rfl, hE⟩)
  · obtain ⟨⟨l1, l2⟩, ⟨v1, v2⟩, hkind⟩ := row_bd k hk
    have hn := Lib.hid hn
    unfold specAgg
    by_cases a : 0 < dVar k
    · skip
      by_cases b : s.size < 1
      · have hv := Lib.hid (chk_short1 k s (Or.inl a) b)
        go_wp2
        go_ret
        exact Or.inl ⟨k, hk, hn.out, i64_ret rfl hv.out, (by repeat (first | with_reducible exact Ext.refl _ | with_reducible exact hE0 | with_reducible exact hE | with_reducible refine Ext.alloc ?_ _ | with_reducible refine Ext.drewN ?_ _ | with_reducible refine Ext.drew ?_ | ((with_reducible refine Ext.setCell ?_ ?side _); (case side => first | exact Nat.le_refl _ | (simp; done) | (simp; omega)))))⟩
      · by_cases c : dLen k < s.size
        · have hv := Lib.hid (chk_long k hk s c)
          go_wp2
          go_ret
          exact Or.inl ⟨k, hk, hn.out, i64_ret rfl hv.out, (by repeat (first | with_reducible exact Ext.refl _ | with_reducible exact hE0 | with_reducible exact hE | with_reducible refine Ext.alloc ?_ _ | with_reducible refine Ext.drewN ?_ _ | with_reducible refine Ext.drew ?_ | ((with_reducible refine Ext.setCell ?_ ?side _); (case side => first | exact Nat.le_refl _ | (simp; done) | (simp; omega)))))⟩
        · have hv := Lib.hid (chk_kind k s (fun _ => by omega) (fun h => absurd (Or.inl a) h) (by omega))
          go_wp2_with fail
          refine (isOfKind_any _ _ _ hkind (by omega)).mono ?_
          rintro e w2 ⟨rfl, hE2⟩
          cases hb : kindB (dKind k) s
          · rw [hb] at hv
            go_wp2
            go_ret
            exact Or.inl ⟨k, hk, hn.out, i64_ret rfl hv.out, ((by repeat (first | with_reducible exact Ext.refl _ | with_reducible exact hE0 | with_reducible exact hE | with_reducible refine Ext.alloc ?_ _ | with_reducible refine Ext.drewN ?_ _ | with_reducible refine Ext.drew ?_ | ((with_reducible refine Ext.setCell ?_ ?side _); (case side => first | exact Nat.le_refl _ | (simp; done) | (simp; omega))))) : Ext w _).trans hE2⟩
          · rw [hb] at hv
            go_wp2
            go_ret
            exact Or.inl ⟨k, hk, hn.out, i64_ret rfl hv.out, ((by repeat (first | with_reducible exact Ext.refl _ | with_reducible exact hE0 | with_reducible exact hE | with_reducible refine Ext.alloc ?_ _ | with_reducible refine Ext.drewN ?_ _ | with_reducible refine Ext.drew ?_ | ((with_reducible refine Ext.setCell ?_ ?side _); (case side => first | exact Nat.le_refl _ | (simp; done) | (simp; omega))))) : Ext w _).trans hE2⟩
    · by_cases a2 : n = 41
      · have a3 : (n == 41) = true := by simpa using a2
        have A2 := Lib.hid a2
        clear a2
        by_cases b : s.size < 1
        · have hv := Lib.hid (chk_short1 k s (Or.inr (hn.out.trans A2.out)) b)
          go_wp2
          go_ret
          exact Or.inl ⟨k, hk, hn.out, i64_ret rfl hv.out, (by repeat (first | with_reducible exact Ext.refl _ | with_reducible exact hE0 | with_reducible exact hE | with_reducible refine Ext.alloc ?_ _ | with_reducible refine Ext.drewN ?_ _ | with_reducible refine Ext.drew ?_ | ((with_reducible refine Ext.setCell ?_ ?side _); (case side => first | exact Nat.le_refl _ | (simp; done) | (simp; omega)))))⟩
        · by_cases c : dLen k < s.size
          · have hv := Lib.hid (chk_long k hk s c)
            go_wp2
            go_ret
            exact Or.inl ⟨k, hk, hn.out, i64_ret rfl hv.out, (by repeat (first | with_reducible exact Ext.refl _ | with_reducible exact hE0 | with_reducible exact hE | with_reducible refine Ext.alloc ?_ _ | with_reducible refine Ext.drewN ?_ _ | with_reducible refine Ext.drew ?_ | ((with_reducible refine Ext.setCell ?_ ?side _); (case side => first | exact Nat.le_refl _ | (simp; done) | (simp; omega)))))⟩
          · have hv := Lib.hid (chk_kind k s (fun _ => by omega) (fun h => absurd (Or.inr (hn.out.trans A2.out)) h) (by omega))
            go_wp2_with fail
            refine (isOfKind_any _ _ _ hkind (by omega)).mono ?_
            rintro e w2 ⟨rfl, hE2⟩
            cases hb : kindB (dKind k) s
            · rw [hb] at hv
              go_wp2
              go_ret
              exact Or.inl ⟨k, hk, hn.out, i64_ret rfl hv.out, ((by repeat (first | with_reducible exact Ext.refl _ | with_reducible exact hE0 | with_reducible exact hE | with_reducible refine Ext.alloc ?_ _ | with_reducible refine Ext.drewN ?_ _ | with_reducible refine Ext.drew ?_ | ((with_reducible refine Ext.setCell ?_ ?side _); (case side => first | exact Nat.le_refl _ | (simp; done) | (simp; omega))))) : Ext w _).trans hE2⟩
            · rw [hb] at hv
              go_wp2
              go_ret
              exact Or.inl ⟨k, hk, hn.out, i64_ret rfl hv.out, ((by repeat (first | with_reducible exact Ext.refl _ | with_reducible exact hE0 | with_reducible exact hE | with_reducible refine Ext.alloc ?_ _ | with_reducible refine Ext.drewN ?_ _ | with_reducible refine Ext.drew ?_ | ((with_reducible refine Ext.setCell ?_ ?side _); (case side => first | exact Nat.le_refl _ | (simp; done) | (simp; omega))))) : Ext w _).trans hE2⟩
      · have a3 : (n == 41) = false := by simpa using a2
        have A2 := Lib.hid a2
        clear a2
        by_cases b : (s.size : Int) < dLen k
        · have hv := Lib.hid (chk_short2 k s (fun h => h.elim a (fun h => A2.out (hn.out.symm.trans h))) b)
          go_wp2
          go_ret
          exact Or.inl ⟨k, hk, hn.out, i64_ret rfl hv.out, (by repeat (first | with_reducible exact Ext.refl _ | with_reducible exact hE0 | with_reducible exact hE | with_reducible refine Ext.alloc ?_ _ | with_reducible refine Ext.drewN ?_ _ | with_reducible refine Ext.drew ?_ | ((with_reducible refine Ext.setCell ?_ ?side _); (case side => first | exact Nat.le_refl _ | (simp; done) | (simp; omega)))))⟩
        · by_cases c : dLen k < s.size
          · have hv := Lib.hid (chk_long k hk s c)
            go_wp2
            go_ret
            exact Or.inl ⟨k, hk, hn.out, i64_ret rfl hv.out, (by repeat (first | with_reducible exact Ext.refl _ | with_reducible exact hE0 | with_reducible exact hE | with_reducible refine Ext.alloc ?_ _ | with_reducible refine Ext.drewN ?_ _ | with_reducible refine Ext.drew ?_ | ((with_reducible refine Ext.setCell ?_ ?side _); (case side => first | exact Nat.le_refl _ | (simp; done) | (simp; omega)))))⟩
          · have hv := Lib.hid (chk_kind k s (fun h => absurd h (fun h => h.elim a (fun h => A2.out (hn.out.symm.trans h)))) (fun _ => by omega) (by omega))
            go_wp2_with fail
            refine (isOfKind_any _ _ _ hkind (by omega)).mono ?_
            rintro e w2 ⟨rfl, hE2⟩
            cases hb : kindB (dKind k) s
            · rw [hb] at hv
              go_wp2
              go_ret
              exact Or.inl ⟨k, hk, hn.out, i64_ret rfl hv.out, ((by repeat (first | with_reducible exact Ext.refl _ | with_reducible exact hE0 | with_reducible exact hE | with_reducible refine Ext.alloc ?_ _ | with_reducible refine Ext.drewN ?_ _ | with_reducible refine Ext.drew ?_ | ((with_reducible refine Ext.setCell ?_ ?side _); (case side => first | exact Nat.le_refl _ | (simp; done) | (simp; omega))))) : Ext w _).trans hE2⟩
            · rw [hb] at hv
              go_wp2
              go_ret
              exact Or.inl ⟨k, hk, hn.out, i64_ret rfl hv.out, ((by repeat (first | with_reducible exact Ext.refl _ | with_reducible exact hE0 | with_reducible exact hE | with_reducible refine Ext.alloc ?_ _ | with_reducible refine Ext.drewN ?_ _ | with_reducible refine Ext.drew ?_ | ((with_reducible refine Ext.setCell ?_ ?side _); (case side => first | exact Nat.le_refl _ | (simp; done) | (simp; omega))))) : Ext w _).trans hE2⟩
  · have hno := Lib.hid hno
    unfold specZero
    go_wp2
    all_goals (go_ret; exact Or.inr ⟨hno.out, rfl, (by repeat (first | with_reducible exact Ext.refl _ | with_reducible exact hE0 | with_reducible exact hE | with_reducible refine Ext.alloc ?_ _ | with_reducible refine Ext.drewN ?_ _ | with_reducible refine Ext.drew ?_ | ((with_reducible refine Ext.setCell ?_ ?side _); (case side => first | exact Nat.le_refl _ | (simp; done) | (simp; omega)))))⟩)

set_option maxRecDepth 8000 in
set_option maxHeartbeats 2000000 in
theorem rCheck_any (n : Int) (s : ByteArray) (w : World) (hs : s.size ≤ 1000000) :
    Calls Tryz.prog 46 #[.int .i64 n, .string s] w (CheckPost n s w) := by
  go_enter Tryz.func46, Tryz.ntmps46
  go_wp2_with fail
  refine (rFind_any n _).mono ?_
  rintro e w1 (⟨k, hk, hn, rfl, hE⟩ | ⟨hno, rfl, hE⟩)
  · obtain ⟨⟨l1, l2⟩, ⟨v1, v2⟩, hkind⟩ := row_bd k hk
    have hn := Lib.hid hn
    unfold specAgg
    by_cases a : 0 < dVar k
    · skip
      by_cases b : s.size < 1
      · have hv := Lib.hid (chk_short1 k s (Or.inl a) b)
        go_wp2
        go_ret
        exact Or.inl ⟨k, hk, hn.out, i64_ret rfl hv.out, (by repeat (first | with_reducible exact Ext.refl _ | with_reducible exact hE0 | with_reducible exact hE | with_reducible refine Ext.alloc ?_ _ | with_reducible refine Ext.drewN ?_ _ | with_reducible refine Ext.drew ?_ | ((with_reducible refine Ext.setCell ?_ ?side _); (case side => first | exact Nat.le_refl _ | (simp; done) | (simp; omega)))))⟩
      · by_cases c : dLen k < s.size
        · have hv := Lib.hid (chk_long k hk s c)
          go_wp2
          go_ret
          exact Or.inl ⟨k, hk, hn.out, i64_ret rfl hv.out, (by repeat (first | with_reducible exact Ext.refl _ | with_reducible exact hE0 | with_reducible exact hE | with_reducible refine Ext.alloc ?_ _ | with_reducible refine Ext.drewN ?_ _ | with_reducible refine Ext.drew ?_ | ((with_reducible refine Ext.setCell ?_ ?side _); (case side => first | exact Nat.le_refl _ | (simp; done) | (simp; omega)))))⟩
        · have hv := Lib.hid (chk_kind k s (fun _ => by omega) (fun h => absurd (Or.inl a) h) (by omega))
          go_wp2_with fail
          refine (rKind_any _ _ _ hkind (by omega) (by omega)).mono ?_
          rintro e w2 ⟨rfl, hE2⟩
          cases hb : kindB (dKind k) s
          · rw [hb] at hv
            go_wp2
            go_ret
            exact Or.inl ⟨k, hk, hn.out, i64_ret rfl hv.out, ((by repeat (first | with_reducible exact Ext.refl _ | with_reducible exact hE0 | with_reducible exact hE | with_reducible refine Ext.alloc ?_ _ | with_reducible refine Ext.drewN ?_ _ | with_reducible refine Ext.drew ?_ | ((with_reducible refine Ext.setCell ?_ ?side _); (case side => first | exact Nat.le_refl _ | (simp; done) | (simp; omega))))) : Ext w _).trans hE2⟩
          · rw [hb] at hv
            go_wp2
            go_ret
            exact Or.inl ⟨k, hk, hn.out, i64_ret rfl hv.out, ((by repeat (first | with_reducible exact Ext.refl _ | with_reducible exact hE0 | with_reducible exact hE | with_reducible refine Ext.alloc ?_ _ | with_reducible refine Ext.drewN ?_ _ | with_reducible refine Ext.drew ?_ | ((with_reducible refine Ext.setCell ?_ ?side _); (case side => first | exact Nat.le_refl _ | (simp; done) | (simp; omega))))) : Ext w _).trans hE2⟩
    · by_cases a2 : n = 41
      · have a3 : (n == 41) = true := by simpa using a2
        have A2 := Lib.hid a2
        clear a2
        by_cases b : s.size < 1
        · have hv := Lib.hid (chk_short1 k s (Or.inr (hn.out.trans A2.out)) b)
          go_wp2
          go_ret
          exact Or.inl ⟨k, hk, hn.out, i64_ret rfl hv.out, (by repeat (first | with_reducible exact Ext.refl _ | with_reducible exact hE0 | with_reducible exact hE | with_reducible refine Ext.alloc ?_ _ | with_reducible refine Ext.drewN ?_ _ | with_reducible refine Ext.drew ?_ | ((with_reducible refine Ext.setCell ?_ ?side _); (case side => first | exact Nat.le_refl _ | (simp; done) | (simp; omega)))))⟩
        · by_cases c : dLen k < s.size
          · have hv := Lib.hid (chk_long k hk s c)
            go_wp2
            go_ret
            exact Or.inl ⟨k, hk, hn.out, i64_ret rfl hv.out, (by repeat (first | with_reducible exact Ext.refl _ | with_reducible exact hE0 | with_reducible exact hE | with_reducible refine Ext.alloc ?_ _ | with_reducible refine Ext.drewN ?_ _ | with_reducible refine Ext.drew ?_ | ((with_reducible refine Ext.setCell ?_ ?side _); (case side => first | exact Nat.le_refl _ | (simp; done) | (simp; omega)))))⟩
          · have hv := Lib.hid (chk_kind k s (fun _ => by omega) (fun h => absurd (Or.inr (hn.out.trans A2.out)) h) (by omega))
            go_wp2_with fail
            refine (rKind_any _ _ _ hkind (by omega) (by omega)).mono ?_
            rintro e w2 ⟨rfl, hE2⟩
            cases hb : kindB (dKind k) s
            · rw [hb] at hv
              go_wp2
              go_ret
              exact Or.inl ⟨k, hk, hn.out, i64_ret rfl hv.out, ((by repeat (first | with_reducible exact Ext.refl _ | with_reducible exact hE0 | with_reducible exact hE | with_reducible refine Ext.alloc ?_ _ | with_reducible refine Ext.drewN ?_ _ | with_reducible refine Ext.drew ?_ | ((with_reducible refine Ext.setCell ?_ ?side _); (case side => first | exact Nat.le_refl _ | (simp; done) | (simp; omega))))) : Ext w _).trans hE2⟩
            · rw [hb] at hv
              go_wp2
              go_ret
              exact Or.inl ⟨k, hk, hn.out, i64_ret rfl hv.out, ((by repeat (first | with_reducible exact Ext.refl _ | with_reducible exact hE0 | with_reducible exact hE | with_reducible refine Ext.alloc ?_ _ | with_reducible refine Ext.drewN ?_ _ | with_reducible refine Ext.drew ?_ | ((with_reducible refine Ext.setCell ?_ ?side _); (case side => first | exact Nat.le_refl _ | (simp; done) | (simp; omega))))) : Ext w _).trans hE2⟩
      · have a3 : (n == 41) = false := by simpa using a2
        have A2 := Lib.hid a2
        clear a2
        by_cases b : (s.size : Int) < dLen k
        · have hv := Lib.hid (chk_short2 k s (fun h => h.elim a (fun h => A2.out (hn.out.symm.trans h))) b)
          go_wp2
          go_ret
          exact Or.inl ⟨k, hk, hn.out, i64_ret rfl hv.out, (by repeat (first | with_reducible exact Ext.refl _ | with_reducible exact hE0 | with_reducible exact hE | with_reducible refine Ext.alloc ?_ _ | with_reducible refine Ext.drewN ?_ _ | with_reducible refine Ext.drew ?_ | ((with_reducible refine Ext.setCell ?_ ?side _); (case side => first | exact Nat.le_refl _ | (simp; done) | (simp; omega)))))⟩
        · by_cases c : dLen k < s.size
          · have hv := Lib.hid (chk_long k hk s c)
            go_wp2
            go_ret
            exact Or.inl ⟨k, hk, hn.out, i64_ret rfl hv.out, (by repeat (first | with_reducible exact Ext.refl _ | with_reducible exact hE0 | with_reducible exact hE | with_reducible refine Ext.alloc ?_ _ | with_reducible refine Ext.drewN ?_ _ | with_reducible refine Ext.drew ?_ | ((with_reducible refine Ext.setCell ?_ ?side _); (case side => first | exact Nat.le_refl _ | (simp; done) | (simp; omega)))))⟩
          · have hv := Lib.hid (chk_kind k s (fun h => absurd h (fun h => h.elim a (fun h => A2.out (hn.out.symm.trans h)))) (fun _ => by omega) (by omega))
            go_wp2_with fail
            refine (rKind_any _ _ _ hkind (by omega) (by omega)).mono ?_
            rintro e w2 ⟨rfl, hE2⟩
            cases hb : kindB (dKind k) s
            · rw [hb] at hv
              go_wp2
              go_ret
              exact Or.inl ⟨k, hk, hn.out, i64_ret rfl hv.out, ((by repeat (first | with_reducible exact Ext.refl _ | with_reducible exact hE0 | with_reducible exact hE | with_reducible refine Ext.alloc ?_ _ | with_reducible refine Ext.drewN ?_ _ | with_reducible refine Ext.drew ?_ | ((with_reducible refine Ext.setCell ?_ ?side _); (case side => first | exact Nat.le_refl _ | (simp; done) | (simp; omega))))) : Ext w _).trans hE2⟩
            · rw [hb] at hv
              go_wp2
              go_ret
              exact Or.inl ⟨k, hk, hn.out, i64_ret rfl hv.out, ((by repeat (first | with_reducible exact Ext.refl _ | with_reducible exact hE0 | with_reducible exact hE | with_reducible refine Ext.alloc ?_ _ | with_reducible refine Ext.drewN ?_ _ | with_reducible refine Ext.drew ?_ | ((with_reducible refine Ext.setCell ?_ ?side _); (case side => first | exact Nat.le_refl _ | (simp; done) | (simp; omega))))) : Ext w _).trans hE2⟩
  · have hno := Lib.hid hno
    unfold specZero
    go_wp2
    all_goals (go_ret; exact Or.inr ⟨hno.out, rfl, (by repeat (first | with_reducible exact Ext.refl _ | with_reducible exact hE0 | with_reducible exact hE | with_reducible refine Ext.alloc ?_ _ | with_reducible refine Ext.drewN ?_ _ | with_reducible refine Ext.drew ?_ | ((with_reducible refine Ext.setCell ?_ ?side _); (case side => first | exact Nat.le_refl _ | (simp; done) | (simp; omega)))))⟩)
end Go.Proofs.YthokhncdpfaifaaGreatDoor
