/- Contracts of element.Check and of the reference's Check (walks). Written by gen/check.py. Contract of element.Encode (walk). -/
import Derived.Test.YtkggloeaojkhaaaGreatDoorQc
namespace Go.Proofs.YtkggloeaojkhaaaGreatDoor
open Go.RowKit
/-- What Check says of a value for the element of row k. -/
def chkK (k : Nat) (s : ByteArray) : Int :=
 if (s.size : Int) < (if 0 < dVar k ∨ dNum k = 41 then 1 else dLen k) then 1 else if dLen k < s.size then 3 else if kindB (dKind k) s then 0 else 2
def CheckPost (n : Int) (s : ByteArray) (w : World) (e : Ending) (w' : World) : Prop :=
 (∃ k, k < 23 ∧ dNum k = n ∧ e = .returned (.int .i64 (chkK k s)) ∧ Ext w w') ∨ ((∀ k, k < 23 → dNum k ≠ n) ∧ e = .returned (.int .i64 6) ∧ Ext w w')
theorem row_bd (k : Nat) (hk : k < 23) : (2 ≤ dLen k ∧ dLen k ≤ 255) ∧ (0 ≤ dVar k ∧ dVar k ≤ 3) ∧ (dKind k = 1 ∨ dKind k = 2 ∨ dKind k = 3) :=
 below23 (P := fun k => (2 ≤ dLen k ∧ dLen k ≤ 255) ∧ (0 ≤ dVar k ∧ dVar k ≤ 3) ∧ (dKind k = 1 ∨ dKind k = 2 ∨ dKind k = 3)) (by decide) k hk
theorem isOfKind_any (k : Int) (s : ByteArray) (w : World) (hk : k = 1 ∨ k = 2 ∨ k = 3) (hs : s.size ≤ 1000000) :
 Calls Tryz.prog 122 #[.int .i64 k, .string s] w (KindPost (kindB k s) w) := by
 rcases hk with rfl | rfl | rfl
 · exact isOfKind_1 s w hs
 · exact isOfKind_2 s w hs
 · exact isOfKind_3 s w hs
theorem rKind_any (k : Int) (s : ByteArray) (w : World) (hk : k = 1 ∨ k = 2 ∨ k = 3) (h0 : 0 < s.size) (hs : s.size ≤ 1000000) :
 Calls Tryz.prog 69 #[.int .i64 k, .string s] w (KindPost (kindB k s) w) := by
 rcases hk with rfl | rfl | rfl
 · exact rKind_1 s w h0 hs
 · exact rKind_2 s w h0 hs
 · exact rKind_3 s w h0 hs
theorem i64_ret {a b : Int} {v : Value} (hv : v = .int .i64 a) (h : b = a) : Ending.returned v = .returned (.int .i64 b) := by rw [hv, h]
theorem chk_short1 (k : Nat) (s : ByteArray) (a : 0 < dVar k ∨ dNum k = 41) (h : s.size < 1) : chkK k s = 1 := by unfold chkK; rw [if_pos a, if_pos (by omega)]
theorem chk_short2 (k : Nat) (s : ByteArray) (a : ¬ (0 < dVar k ∨ dNum k = 41)) (h : (s.size : Int) < dLen k) : chkK k s = 1 := by unfold chkK; rw [if_neg a, if_pos h]
theorem chk_long (k : Nat) (hk : k < 23) (s : ByteArray) (h : dLen k < s.size) : chkK k s = 3 := by
 have := row_bd k hk
 unfold chkK; rw [if_neg (by split <;> omega), if_pos h]
theorem chk_kind (k : Nat) (s : ByteArray) (h1 : (0 < dVar k ∨ dNum k = 41) → 1 ≤ s.size) (h2 : ¬ (0 < dVar k ∨ dNum k = 41) → dLen k ≤ s.size) (h3 : s.size ≤ dLen k) : chkK k s = if kindB (dKind k) s then 0 else 2 := by
 unfold chkK
 have : ¬ ((s.size : Int) < (if 0 < dVar k ∨ dNum k = 41 then 1 else dLen k)) := by
  split
  · rename_i h; have := h1 h; omega
  · rename_i h; have := h2 h; omega
 rw [if_neg this, if_neg (by omega)]


set_option maxRecDepth 8000 in
set_option maxHeartbeats 2000000 in
theorem check_any (n : Int) (s : ByteArray) (w : World) (g : Gl w) (hs : s.size ≤ 1000000) :
 Calls Tryz.prog 70 #[.int .i64 n, .string s] w (CheckPost n s w) := by
 go_enter Tryz.func70, Tryz.ntmps70
 go_wp2_with fail
 refine (find_any n _ g).mono ?_
 rintro e w1 (⟨k, hk, hn, rfl, hE⟩ | ⟨hno, rfl, hE⟩)
 · obtain ⟨⟨l1, l2⟩, ⟨v1, v2⟩, hkind⟩ := row_bd k hk
   have hn := Lib.hid hn
   unfold specAgg
   by_cases a : 0 < dVar k
   · skip
     by_cases b : s.size < 1
     · have hv := Lib.hid (chk_short1 k s (Or.inl a) b)
       go_wp2
       go_ret
       exact Or.inl ⟨k, hk, hn.out, i64_ret rfl hv.out, xt⟩
     · by_cases c : dLen k < s.size
       · have hv := Lib.hid (chk_long k hk s c)
         go_wp2
         go_ret
         exact Or.inl ⟨k, hk, hn.out, i64_ret rfl hv.out, xt⟩
       · have hv := Lib.hid (chk_kind k s (fun _ => by omega) (fun h => absurd (Or.inl a) h) (by omega))
         go_wp2_with fail
         refine (isOfKind_any _ _ _ hkind (by omega)).mono ?_
         rintro e w2 ⟨rfl, hE2⟩
         cases hb : kindB (dKind k) s
         · rw [hb] at hv
           go_wp2
           go_ret
           exact Or.inl ⟨k, hk, hn.out, i64_ret rfl hv.out, (xt : Ext w _).trans hE2⟩
         · rw [hb] at hv
           go_wp2
           go_ret
           exact Or.inl ⟨k, hk, hn.out, i64_ret rfl hv.out, (xt : Ext w _).trans hE2⟩
   · by_cases a2 : n = 41
     · have a3 : (n == 41) = true := by simpa using a2
       have A2 := Lib.hid a2
       clear a2
       by_cases b : s.size < 1
       · have hv := Lib.hid (chk_short1 k s (Or.inr (hn.out.trans A2.out)) b)
         go_wp2
         go_ret
         exact Or.inl ⟨k, hk, hn.out, i64_ret rfl hv.out, xt⟩
       · by_cases c : dLen k < s.size
         · have hv := Lib.hid (chk_long k hk s c)
           go_wp2
           go_ret
           exact Or.inl ⟨k, hk, hn.out, i64_ret rfl hv.out, xt⟩
         · have hv := Lib.hid (chk_kind k s (fun _ => by omega) (fun h => absurd (Or.inr (hn.out.trans A2.out)) h) (by omega))
           go_wp2_with fail
           refine (isOfKind_any _ _ _ hkind (by omega)).mono ?_
           rintro e w2 ⟨rfl, hE2⟩
           cases hb : kindB (dKind k) s
           · rw [hb] at hv
             go_wp2
             go_ret
             exact Or.inl ⟨k, hk, hn.out, i64_ret rfl hv.out, (xt : Ext w _).trans hE2⟩
           · rw [hb] at hv
             go_wp2
             go_ret
             exact Or.inl ⟨k, hk, hn.out, i64_ret rfl hv.out, (xt : Ext w _).trans hE2⟩
     · have a3 : (n == 41) = false := by simpa using a2
       have A2 := Lib.hid a2
       clear a2
       by_cases b : (s.size : Int) < dLen k
       · have hv := Lib.hid (chk_short2 k s (fun h => h.elim a (fun h => A2.out (hn.out.symm.trans h))) b)
         go_wp2
         go_ret
         exact Or.inl ⟨k, hk, hn.out, i64_ret rfl hv.out, xt⟩
       · by_cases c : dLen k < s.size
         · have hv := Lib.hid (chk_long k hk s c)
           go_wp2
           go_ret
           exact Or.inl ⟨k, hk, hn.out, i64_ret rfl hv.out, xt⟩
         · have hv := Lib.hid (chk_kind k s (fun h => absurd h (fun h => h.elim a (fun h => A2.out (hn.out.symm.trans h)))) (fun _ => by omega) (by omega))
           go_wp2_with fail
           refine (isOfKind_any _ _ _ hkind (by omega)).mono ?_
           rintro e w2 ⟨rfl, hE2⟩
           cases hb : kindB (dKind k) s
           · rw [hb] at hv
             go_wp2
             go_ret
             exact Or.inl ⟨k, hk, hn.out, i64_ret rfl hv.out, (xt : Ext w _).trans hE2⟩
           · rw [hb] at hv
             go_wp2
             go_ret
             exact Or.inl ⟨k, hk, hn.out, i64_ret rfl hv.out, (xt : Ext w _).trans hE2⟩
 · have hno := Lib.hid hno
   unfold specZero
   go_wp2
   all_goals (go_ret; exact Or.inr ⟨hno.out, rfl, xt⟩)

set_option maxRecDepth 8000 in
set_option maxHeartbeats 2000000 in
theorem rCheck_any (n : Int) (s : ByteArray) (w : World) (hs : s.size ≤ 1000000) :
 Calls Tryz.prog 31 #[.int .i64 n, .string s] w (CheckPost n s w) := by
 go_enter Tryz.func31, Tryz.ntmps31
 go_wp2_with fail
 refine (rFind_any n _).mono ?_
 rintro e w1 (⟨k, hk, hn, rfl, hE⟩ | ⟨hno, rfl, hE⟩)
 · obtain ⟨⟨l1, l2⟩, ⟨v1, v2⟩, hkind⟩ := row_bd k hk
   have hn := Lib.hid hn
   unfold specAgg
   by_cases a : 0 < dVar k
   · skip
     by_cases b : s.size < 1
     · have hv := Lib.hid (chk_short1 k s (Or.inl a) b)
       go_wp2
       go_ret
       exact Or.inl ⟨k, hk, hn.out, i64_ret rfl hv.out, xt⟩
     · by_cases c : dLen k < s.size
       · have hv := Lib.hid (chk_long k hk s c)
         go_wp2
         go_ret
         exact Or.inl ⟨k, hk, hn.out, i64_ret rfl hv.out, xt⟩
       · have hv := Lib.hid (chk_kind k s (fun _ => by omega) (fun h => absurd (Or.inl a) h) (by omega))
         go_wp2_with fail
         refine (rKind_any _ _ _ hkind (by omega) (by omega)).mono ?_
         rintro e w2 ⟨rfl, hE2⟩
         cases hb : kindB (dKind k) s
         · rw [hb] at hv
           go_wp2
           go_ret
           exact Or.inl ⟨k, hk, hn.out, i64_ret rfl hv.out, (xt : Ext w _).trans hE2⟩
         · rw [hb] at hv
           go_wp2
           go_ret
           exact Or.inl ⟨k, hk, hn.out, i64_ret rfl hv.out, (xt : Ext w _).trans hE2⟩
   · by_cases a2 : n = 41
     · have a3 : (n == 41) = true := by simpa using a2
       have A2 := Lib.hid a2
       clear a2
       by_cases b : s.size < 1
       · have hv := Lib.hid (chk_short1 k s (Or.inr (hn.out.trans A2.out)) b)
         go_wp2
         go_ret
         exact Or.inl ⟨k, hk, hn.out, i64_ret rfl hv.out, xt⟩
       · by_cases c : dLen k < s.size
         · have hv := Lib.hid (chk_long k hk s c)
           go_wp2
           go_ret
           exact Or.inl ⟨k, hk, hn.out, i64_ret rfl hv.out, xt⟩
         · have hv := Lib.hid (chk_kind k s (fun _ => by omega) (fun h => absurd (Or.inr (hn.out.trans A2.out)) h) (by omega))
           go_wp2_with fail
           refine (rKind_any _ _ _ hkind (by omega) (by omega)).mono ?_
           rintro e w2 ⟨rfl, hE2⟩
           cases hb : kindB (dKind k) s
           · rw [hb] at hv
             go_wp2
             go_ret
             exact Or.inl ⟨k, hk, hn.out, i64_ret rfl hv.out, (xt : Ext w _).trans hE2⟩
           · rw [hb] at hv
             go_wp2
             go_ret
             exact Or.inl ⟨k, hk, hn.out, i64_ret rfl hv.out, (xt : Ext w _).trans hE2⟩
     · have a3 : (n == 41) = false := by simpa using a2
       have A2 := Lib.hid a2
       clear a2
       by_cases b : (s.size : Int) < dLen k
       · have hv := Lib.hid (chk_short2 k s (fun h => h.elim a (fun h => A2.out (hn.out.symm.trans h))) b)
         go_wp2
         go_ret
         exact Or.inl ⟨k, hk, hn.out, i64_ret rfl hv.out, xt⟩
       · by_cases c : dLen k < s.size
         · have hv := Lib.hid (chk_long k hk s c)
           go_wp2
           go_ret
           exact Or.inl ⟨k, hk, hn.out, i64_ret rfl hv.out, xt⟩
         · have hv := Lib.hid (chk_kind k s (fun h => absurd h (fun h => h.elim a (fun h => A2.out (hn.out.symm.trans h)))) (fun _ => by omega) (by omega))
           go_wp2_with fail
           refine (rKind_any _ _ _ hkind (by omega) (by omega)).mono ?_
           rintro e w2 ⟨rfl, hE2⟩
           cases hb : kindB (dKind k) s
           · rw [hb] at hv
             go_wp2
             go_ret
             exact Or.inl ⟨k, hk, hn.out, i64_ret rfl hv.out, (xt : Ext w _).trans hE2⟩
           · rw [hb] at hv
             go_wp2
             go_ret
             exact Or.inl ⟨k, hk, hn.out, i64_ret rfl hv.out, (xt : Ext w _).trans hE2⟩
 · have hno := Lib.hid hno
   unfold specZero
   go_wp2
   all_goals (go_ret; exact Or.inr ⟨hno.out, rfl, xt⟩)
end Go.Proofs.YtkggloeaojkhaaaGreatDoor
namespace Go.Proofs.YtkggloeaojkhaaaGreatDoor
open Go.RowKit
/-- The encoding of a value of the element of row k. -/
def encL (k : Nat) (s : ByteArray) : List UInt8 :=
 if 0 < dVar k then lenDig (dVar k).toNat s.size ++ s.data.toList else if dNum k = 41 then s.data.toList ++ List.replicate (8 - s.size) 32 else s.data.toList
def EncPost (n : Int) (s : ByteArray) (w : World) (e : Ending) (w' : World) : Prop :=
 (∃ k, k < 23 ∧ dNum k = n ∧ chkK k s ≠ 0 ∧ e = .returned (.tuple #[.string ⟨#[]⟩, .int .i64 (chkK k s)]) ∧ Ext w w') ∨
 (∃ k, k < 23 ∧ dNum k = n ∧ chkK k s = 0 ∧ ∃ r : ByteArray, r.data.toList = encL k s ∧ e = .returned (.tuple #[.string r, .int .i64 0]) ∧ Ext w w') ∨
 ((∀ k, k < 23 → dNum k ≠ n) ∧ e = .returned (.tuple #[.string ⟨#[]⟩, .int .i64 6]) ∧ Ext w w')
theorem dNum_inj (j k : Nat) (hj : j < 23) (hk : k < 23) (h : dNum j = dNum k) : j = k := by
 have key : ∀ j k : Fin 23, dNum j.val = dNum k.val → j.val = k.val := by decide
 exact key ⟨j, hj⟩ ⟨k, hk⟩ h
theorem var_cases (k : Nat) (hk : k < 23) : (dVar k = 0 ∨ (dVar k = 2 ∧ dLen k ≤ 99) ∨ dVar k = 3) ∧ (dNum k = 41 → dVar k = 0 ∧ dLen k = 8 ∧ dKind k = 2) :=
 below23 (P := fun k => (dVar k = 0 ∨ (dVar k = 2 ∧ dLen k ≤ 99) ∨ dVar k = 3) ∧ (dNum k = 41 → dVar k = 0 ∧ dLen k = 8 ∧ dKind k = 2)) (by decide) k hk
/-- What chkK = 0 gives. -/
theorem chk_zero (k : Nat) (s : ByteArray) (h : chkK k s = 0) : (s.size : Int) ≤ dLen k ∧ kindB (dKind k) s = true ∧ ((0 < dVar k ∨ dNum k = 41) → 1 ≤ s.size) ∧ (¬ (0 < dVar k ∨ dNum k = 41) → dLen k = s.size) := by
 unfold chkK at h
 generalize hL : (if 0 < dVar k ∨ dNum k = 41 then 1 else dLen k) = least at h
 by_cases h1 : (s.size : Int) < least
 · rw [if_pos h1] at h; cases h
 · rw [if_neg h1] at h
   by_cases h2 : dLen k < s.size
   · rw [if_pos h2] at h; cases h
   · rw [if_neg h2] at h
     by_cases h3 : kindB (dKind k) s = true
     · refine ⟨by omega, h3, fun a => ?_, fun a => ?_⟩
       · rw [if_pos a] at hL; omega
       · rw [if_neg a] at hL; omega
     · rw [if_neg h3] at h; cases h
theorem kind2 (s : ByteArray) (h0 : 1 ≤ s.size) (h : kindB 2 s = true) : allS prB s = true ∧ Lib.hasSuffix s.data.toList [32] = false ∧ Lib.trimB s.data.toList 32 = s.data.toList := by
 unfold kindB at h
 simp only [Bool.and_eq_true, Bool.or_eq_true, decide_eq_true_eq, ne_eq, not_true, false_or] at h
 refine ⟨h.1, ?_, h.2⟩
 have he := (ends_of s (by omega)).1 h.2
 unfold Lib.hasSuffix
 rw [← Bool.not_eq_true, List.isSuffixOf_iff_suffix]
 rintro ⟨t, ht⟩
 apply he.2
 have hne : s.data.toList ≠ [] := by intro e; rw [e] at ht; simp at ht
 have e2 : s.data.toList.getLast hne = s[s.size - 1] := by rw [List.getLast_eq_getElem]; rfl
 rw [← e2]
 have : ∀ (l : List UInt8) (hl : l ≠ []), t ++ [32] = l → l.getLast hl = 32 := by intro l hl e; subst e; simp
 exact this _ hne ht
theorem clone_any (s : ByteArray) (w : World) (hs : s.size ≤ 1000000) :
 Calls Tryz.prog 145 #[.string s] w fun e w' => e = .returned (.string s) ∧ Ext w w' := by
 go_enter Tryz.func145, Tryz.ntmps145
 go_wp2_with fail
 refine (Tryz.stringslite_Clone s _ (by omega)).mono ?_
 rintro e w1 ⟨rfl, hb⟩
 have hE : Ext w w1 := hb
 clear hb
 go_wp2
 go_ret
 exact ⟨rfl, hE⟩
set_option maxRecDepth 8000 in
set_option maxHeartbeats 2000000 in
theorem encode_any (n : Int) (s : ByteArray) (w : World) (g : Gl w) (hs : s.size ≤ 1000000) :
 Calls Tryz.prog 104 #[.int .i64 n, .string s] w (EncPost n s w) := by
 go_enter Tryz.func104, Tryz.ntmps104
 go_wp2_with fail
 refine (check_any n s _ g hs).mono ?_
 rintro e w1 (⟨k, hk, hn, rfl, hE⟩ | ⟨hno, rfl, hE⟩)
 · by_cases hz : chkK k s = 0
   · have hZ := Lib.hid hz
     have hq := chk_zero k s hz
     have hV := var_cases k hk
     have hQ := Lib.hid hq
     have hVc := Lib.hid hV
     have hN := Lib.hid hn
     clear hq hV hn
     rw [hz]
     clear hz
     go_wp2_with fail
     refine (find_any n _ (g.ext hE)).mono ?_
     rintro e w2 (⟨k', hk', hn', rfl, hE2⟩ | ⟨hno, rfl, hE2⟩)
     · obtain rfl : k' = k := dNum_inj k' k hk' hk (hn'.trans hN.out.symm)
       clear hn'
       have hE0 : Ext w w2 := hE.trans hE2
       clear hE hE2
       have g2 := g.ext hE0
       unfold specAgg
       have hl : (s.size : Int) ≤ dLen k' := hQ.out.1
       rcases hVc.out.1 with hv | ⟨hv, hlen⟩ | hv
       · by_cases h41 : n = 41
         · subst h41
           obtain ⟨_, hl8, hk2⟩ := hVc.out.2 hN.out
           obtain ⟨p1, p2, p3⟩ := kind2 s (hQ.out.2.2.1 (Or.inr hN.out)) (by rw [← hk2]; exact hQ.out.2.1)
           have hv0 : ¬ 0 < dVar k' := by omega
           rw [hl8] at hl ⊢
           go_wp2_with fail
           refine (alpha_any s 8 _ (by omega) (by omega) (by omega) p1 p2).mono ?_
           rintro e w3 ⟨r, hr, rfl, hE3⟩
           have hR := Lib.hid hr
           clear hr
           go_wp2
           go_ret2
           refine Or.inr (Or.inl ⟨k', hk, hN.out, hZ.out, r, ?_, rfl, (xt : Ext w _).trans hE3⟩)
           rw [hR.out]; unfold encL; rw [if_neg (by omega), if_pos hN.out]
         · have h41b : (n == 41) = false := by simpa using h41
           have hne := Lib.hid h41
           clear h41
           have hv0 : ¬ 0 < dVar k' := by omega
           go_wp2_with fail
           refine (clone_any s _ hs).mono ?_
           rintro e w3 ⟨rfl, hE3⟩
           go_wp2
           go_ret2
           refine Or.inr (Or.inl ⟨k', hk, hN.out, hZ.out, s, ?_, rfl, (xt : Ext w _).trans hE3⟩)
           unfold encL; rw [if_neg (by omega), if_neg (fun h => hne.out (hN.out.symm.trans h))]
       · rw [hv]
         go_wp2_with fail
         refine (var2_any s _ (g2.ext ((Ext.refl w2).alloc _)) hs).mono ?_
         rintro e w3 (⟨hbad, rfl, hE3⟩ | ⟨_, r, hr, rfl, hE3⟩)
         · omega
         · have hR := Lib.hid hr
           clear hr
           go_wp2
           go_ret2
           refine Or.inr (Or.inl ⟨k', hk, hN.out, hZ.out, r, ?_, rfl, (xt : Ext w _).trans hE3⟩)
           rw [hR.out]; unfold encL; rw [if_pos (by omega), hv]; rfl
       · have hl255 := (row_bd k' hk).1.2
         rw [hv]
         go_wp2_with fail
         refine (var3_any s _ (g2.ext ((Ext.refl w2).alloc _)) hs).mono ?_
         rintro e w3 (⟨hbad, rfl, hE3⟩ | ⟨_, r, hr, rfl, hE3⟩)
         · omega
         · have hR := Lib.hid hr
           clear hr
           go_wp2
           go_ret2
           refine Or.inr (Or.inl ⟨k', hk, hN.out, hZ.out, r, ?_, rfl, (xt : Ext w _).trans hE3⟩)
           rw [hR.out]; unfold encL; rw [if_pos (by omega), hv]; rfl
     · exact absurd hN.out (hno k hk)
   · have hb : (chkK k s != 0) = true := by simpa using hz
     have hZ := Lib.hid hz
     clear hz
     go_wp2
     go_ret2
     exact Or.inl ⟨k, hk, hn, hZ.out, rfl, hE⟩
 · have hno := Lib.hid hno
   go_wp2
   go_ret2
   exact Or.inr (Or.inr ⟨hno.out, rfl, hE⟩)
end Go.Proofs.YtkggloeaojkhaaaGreatDoor
