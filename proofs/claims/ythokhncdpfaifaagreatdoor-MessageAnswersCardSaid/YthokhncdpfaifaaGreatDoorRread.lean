/- Contract of the reference's read (walk). -/
import Derived.Test.YthokhncdpfaifaaGreatDoorDecode
namespace Go.Proofs.YthokhncdpfaifaaGreatDoor
open Go.RowKit
def ReadPost (k : Nat) (s : ByteArray) (w : World) (e : Ending) (w' : World) : Prop :=
  (rawE k s ≠ 0 ∧ e = .returned (.tuple #[.string ⟨#[]⟩, .string ⟨#[]⟩, .int .i64 (rawE k s)]) ∧ Ext w w') ∨
  (rawE k s = 0 ∧ ∃ v r : ByteArray, v.data.toList = rawV k s ∧ r.data.toList = s.data.toList.drop (rawA k + rawN k s) ∧ e = .returned (.tuple #[.string v, .string r, .int .i64 0]) ∧ Ext w w')
theorem digit_yes (c : Nat) (w : World) (h1 : 48 ≤ c) (h2 : c ≤ 57) : Calls Tryz.prog 110 #[.int .u8 c] w fun e w' => e = .returned (.bool true) ∧ w = w' := by
  have t1 : decide ((c : Int) ≤ 57) = true := by simp; omega
  go_enter Tryz.func110, Tryz.ntmps110
  go_wp2
  go_ret
  exact ⟨rfl, rfl⟩
theorem digit_no (c : Nat) (w : World) (h : c < 48 ∨ 57 < c) : Calls Tryz.prog 110 #[.int .u8 c] w fun e w' => e = .returned (.bool false) ∧ w = w' := by
  by_cases a : c < 48
  · go_enter Tryz.func110, Tryz.ntmps110
    go_wp2
    go_ret
    exact ⟨rfl, rfl⟩
  · have b : 57 < c := by omega
    have t1 : decide ((c : Int) ≤ 57) = false := by simp; omega
    go_enter Tryz.func110, Tryz.ntmps110
    go_wp2
    go_ret
    exact ⟨rfl, rfl⟩
theorem numL_bd3 (l : List UInt8) (h : l.all digB = true) (hl : l.length ≤ 3) : 0 ≤ numL l ∧ numL l ≤ 1000 := by
  have := numL_bd l h
  have h2 : (10 : Int) ^ l.length ≤ 10 ^ 3 := by
    have : (10 : Nat) ^ l.length ≤ 10 ^ 3 := Nat.pow_le_pow_right (by omega) hl
    exact_mod_cast this
  omega
theorem all_of_badT (s : ByteArray) (d k : Nat) (h : k < s.size) (hd : k < d) (hc : digB s[k] = false) : (s.data.toList.take d).all digB = false := by
  rw [List.all_eq_false]
  refine ⟨s[k], ?_, by simp [hc]⟩
  rw [List.mem_take_iff_getElem]
  exact ⟨k, by simp; omega, rfl⟩

set_option maxRecDepth 8000 in
set_option maxHeartbeats 4000000 in
theorem rRead_any (k : Nat) (hk : k < 23) (s : ByteArray) (w : World) (hs : s.size ≤ 1000000) :
    Calls Tryz.prog 96 #[specAgg k, .string s] w (ReadPost k s w) := by
  obtain ⟨⟨l1, l2⟩, ⟨v1, v2⟩, _⟩ := row_bd k hk
  obtain ⟨ln, hln⟩ := Int.eq_ofNat_of_zero_le (show 0 ≤ dLen k by omega)
  obtain ⟨vn, hvn⟩ := Int.eq_ofNat_of_zero_le v1
  have hLn := Lib.hid hln
  have hVn := Lib.hid hvn
  unfold specAgg
  rw [hln] at l1 l2 ⊢
  rw [hvn] at v1 v2 ⊢
  have hA := Lib.hid (show rawA k = vn by unfold rawA; rw [hvn]; simp)
  clear hln hvn
  by_cases hsh : s.size < vn
  · have hE := Lib.hid (raw_short (k := k) (s := s) (by rw [hA.out]; exact hsh))
    go_enter Tryz.func96, Tryz.ntmps96
    go_wp2
    go_ret3
    exact Or.inl ⟨by rw [hE.out]; decide, by rw [hE.out]; rfl, (by repeat (first | with_reducible exact Ext.refl _ | with_reducible exact hE0 | with_reducible exact hE | with_reducible refine Ext.alloc ?_ _ | with_reducible refine Ext.drewN ?_ _ | with_reducible refine Ext.drew ?_ | ((with_reducible refine Ext.setCell ?_ ?side _); (case side => first | exact Nat.le_refl _ | (simp; done) | (simp; omega)))))⟩
  · go_enter Tryz.func96, Tryz.ntmps96
    go_wp2
    go_loop [7, 8] (fun m i => ∃ j : Nat, j ≤ vn ∧ i = .int .i64 j ∧ m = .int .i64 (numL (s.data.toList.take j)) ∧ (s.data.toList.take j).all digB = true) (fun _ i => vn - (intOf i).toNat)
    case atStart => exact ⟨0, by omega, rfl, rfl, rfl⟩
    case round =>
      obtain ⟨j, hj, rfl, rfl, hall⟩ := hrel
      have hl : (s.data.toList.take j).length ≤ j := List.length_take_le _ _
      have hb := numL_bd3 _ hall (by omega)
      have hH := Lib.hid hall
      clear hall
      by_cases hlt : j < vn
      · have hjs : j < s.size := by omega
        by_cases hdg : 48 ≤ s[j].toNat ∧ s[j].toNat ≤ 57
        · go_wp2_with (go_at_call 110; refine (digit_yes _ _ hdg.1 hdg.2).mono ?_; rintro e w1 ⟨rfl, rfl⟩)
          go_round
          case rel => exact ⟨j + 1, by omega, by go_num, by rw [take_snoc s j hjs, numL_snoc], by rw [all_take_snoc s j hjs, hH.out]; simp [digB]; omega⟩
          case measure => simp [intOf]; omega
        · have hE := Lib.hid (raw_form (k := k) (s := s) (by rw [hA.out]; omega) (by rw [hA.out]; exact all_of_badT s vn j hjs hlt (by simp [digB]; omega)))
          go_wp2_with (go_at_call 110; refine (digit_no _ _ (by omega)).mono ?_; rintro e w1 ⟨rfl, rfl⟩)
          go_ret3
          exact Or.inl ⟨by rw [hE.out]; decide, by rw [hE.out]; rfl, (by repeat (first | with_reducible exact Ext.refl _ | with_reducible exact hE0 | with_reducible exact hE | with_reducible refine Ext.alloc ?_ _ | with_reducible refine Ext.drewN ?_ _ | with_reducible refine Ext.drew ?_ | ((with_reducible refine Ext.setCell ?_ ?side _); (case side => first | exact Nat.le_refl _ | (simp; done) | (simp; omega)))))⟩
      · obtain rfl : j = vn := by omega
        by_cases hv0 : j = 0
        · subst hv0
          have hN := Lib.hid (show rawN k s = ln by unfold rawN; rw [if_neg (by rw [hVn.out]; decide), hLn.out]; simp)
          by_cases hsz : s.size < ln
          · have hE := Lib.hid (raw_short2 (k := k) (s := s) (by rw [hA.out]; omega) (by rw [hA.out]; rfl) (by rw [hN.out, hLn.out]; omega) (by rw [hA.out, hN.out]; omega))
            go_wp2
            go_ret3
            exact Or.inl ⟨by rw [hE.out]; decide, by rw [hE.out]; rfl, (by repeat (first | with_reducible exact Ext.refl _ | with_reducible exact hE0 | with_reducible exact hE | with_reducible refine Ext.alloc ?_ _ | with_reducible refine Ext.drewN ?_ _ | with_reducible refine Ext.drew ?_ | ((with_reducible refine Ext.setCell ?_ ?side _); (case side => first | exact Nat.le_refl _ | (simp; done) | (simp; omega)))))⟩
          · have hE := Lib.hid (raw_ok (k := k) (s := s) (by rw [hA.out]; rfl) (by rw [hN.out, hLn.out]; omega) (by rw [hA.out, hN.out]; omega))
            go_wp2
            go_quiet (fail)
            go_wp2
            go_ret3
            refine Or.inr ⟨hE.out, _, _, ?_, ?_, rfl, (by repeat (first | with_reducible exact Ext.refl _ | with_reducible exact hE0 | with_reducible exact hE | with_reducible refine Ext.alloc ?_ _ | with_reducible refine Ext.drewN ?_ _ | with_reducible refine Ext.drew ?_ | ((with_reducible refine Ext.setCell ?_ ?side _); (case side => first | exact Nat.le_refl _ | (simp; done) | (simp; omega)))))⟩
            · rw [extract_list]; unfold rawV; rw [hA.out, hN.out]; simp
            · rw [extract_list, hA.out, hN.out, List.take_of_length_le (by rw [size_list]; omega)]; simp
        · have hv0b : ((j : Int) == 0) = false := by simp; omega
          obtain ⟨m, hm⟩ := Int.eq_ofNat_of_zero_le hb.1
          have hN := Lib.hid (show rawN k s = m by unfold rawN; rw [if_pos (by rw [hVn.out]; omega), hA.out, hm]; simp)
          rw [hm] at hb ⊢
          clear hm
          by_cases hlong : ln < m
          · have hE := Lib.hid (raw_long (k := k) (s := s) (by rw [hA.out]; omega) (by rw [hA.out]; exact hH.out) (by rw [hN.out, hLn.out]; omega))
            go_wp2
            go_ret3
            exact Or.inl ⟨by rw [hE.out]; decide, by rw [hE.out]; rfl, (by repeat (first | with_reducible exact Ext.refl _ | with_reducible exact hE0 | with_reducible exact hE | with_reducible refine Ext.alloc ?_ _ | with_reducible refine Ext.drewN ?_ _ | with_reducible refine Ext.drew ?_ | ((with_reducible refine Ext.setCell ?_ ?side _); (case side => first | exact Nat.le_refl _ | (simp; done) | (simp; omega)))))⟩
          · by_cases hsz : s.size < j + m
            · have hE := Lib.hid (raw_short2 (k := k) (s := s) (by rw [hA.out]; omega) (by rw [hA.out]; exact hH.out) (by rw [hN.out, hLn.out]; omega) (by rw [hA.out, hN.out]; omega))
              have hsz2 : s.size - j < m := by omega
              go_wp2
              go_ret3
              exact Or.inl ⟨by rw [hE.out]; decide, by rw [hE.out]; rfl, (by repeat (first | with_reducible exact Ext.refl _ | with_reducible exact hE0 | with_reducible exact hE | with_reducible refine Ext.alloc ?_ _ | with_reducible refine Ext.drewN ?_ _ | with_reducible refine Ext.drew ?_ | ((with_reducible refine Ext.setCell ?_ ?side _); (case side => first | exact Nat.le_refl _ | (simp; done) | (simp; omega)))))⟩
            · have hE := Lib.hid (raw_ok (k := k) (s := s) (by rw [hA.out]; exact hH.out) (by rw [hN.out, hLn.out]; omega) (by rw [hA.out, hN.out]; omega))
              have hsz2 : m ≤ s.size - j := by omega
              generalize hx : s.extract j s.size = x
              have hxs : x.size = s.size - j := by rw [← hx]; simp
              have hxl : x.data.toList = s.data.toList.drop j := by rw [← hx, extract_list, List.take_of_length_le (by rw [size_list]; omega)]
              have hXs := Lib.hid hxs
              have hXl := Lib.hid hxl
              have hxm : m ≤ x.size := by omega
              have hX := Lib.hid hx
              clear hx hxs hxl
              go_wp2
              try rw [hX.out]
              go_quiet (fail)
              go_wp2
              go_ret3
              refine Or.inr ⟨hE.out, _, _, ?_, ?_, rfl, (by repeat (first | with_reducible exact Ext.refl _ | with_reducible exact hE0 | with_reducible exact hE | with_reducible refine Ext.alloc ?_ _ | with_reducible refine Ext.drewN ?_ _ | with_reducible refine Ext.drew ?_ | ((with_reducible refine Ext.setCell ?_ ?side _); (case side => first | exact Nat.le_refl _ | (simp; done) | (simp; omega)))))⟩
              · rw [extract_list, hXl.out]; unfold rawV; rw [hA.out, hN.out, List.drop_zero, List.drop_take]
                congr 1; omega
              · rw [extract_list, List.take_of_length_le (by rw [size_list]; omega), hXl.out, hA.out, hN.out, List.drop_drop]
end Go.Proofs.YthokhncdpfaifaaGreatDoor
