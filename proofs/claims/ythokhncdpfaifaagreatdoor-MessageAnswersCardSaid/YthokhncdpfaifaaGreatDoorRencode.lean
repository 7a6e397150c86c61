/- Contract of the reference's Encode (walk). -/
import Derived.Test.YthokhncdpfaifaaGreatDoorEncode
namespace Go.Proofs.YthokhncdpfaifaaGreatDoor
open Go.RowKit
theorem app_data (a b : ByteArray) : (a ++ b).data.toList = a.data.toList ++ b.data.toList := by simp
/-- The i least digits of n. -/
def digL (n : Nat) : Nat → List UInt8
  | 0 => []
  | i + 1 => UInt8.ofNat (48 + n / 10 ^ i % 10) :: digL n i
theorem digL_len (n i : Nat) : (digL n i).length = i := by
  induction i with
  | zero => rfl
  | succ i ih => simp [digL, ih]
theorem digL_2 (n : Nat) (h : n < 100) : digL n 2 = lenDig 2 n := by
  simp only [digL, lenDig, if_true]
  rw [show 10 ^ 1 = 10 from rfl, show 10 ^ 0 = 1 from rfl, Nat.div_one, show n / 10 % 10 = n / 10 by omega]
theorem digL_3 (n : Nat) (h : n < 1000) : digL n 3 = lenDig 3 n := by
  simp only [digL, lenDig]
  rw [if_neg (by omega), show 10 ^ 2 = 100 from rfl, show 10 ^ 1 = 10 from rfl, show 10 ^ 0 = 1 from rfl, Nat.div_one, show n / 100 % 10 = n / 100 by omega]
theorem digit_of (m : Nat) (h : m < 10) : ((⟨#[48, 49, 50, 51, 52, 53, 54, 55, 56, 57]⟩ : ByteArray).extract m (m + 1)).data.toList = [UInt8.ofNat (48 + m)] := by
  have key : ∀ m : Fin 10, ((⟨#[48, 49, 50, 51, 52, 53, 54, 55, 56, 57]⟩ : ByteArray).extract m.val (m.val + 1)).data.toList = [UInt8.ofNat (48 + m.val)] := by decide
  exact key ⟨m, h⟩
theorem size_of_list' {r : ByteArray} {l : List UInt8} (h : r.data.toList = l) : r.size = l.length := by subst h; show r.data.size = _; rw [Array.length_toList]
theorem div_step (n i : Nat) : n / 10 ^ i / 10 = n / 10 ^ (i + 1) := by rw [Nat.div_div_eq_div_mul, Nat.pow_succ]

set_option maxRecDepth 8000 in
set_option maxHeartbeats 2000000 in
theorem rEncode_any (n : Int) (s : ByteArray) (w : World) (hs : s.size ≤ 1000000) :
    Calls Tryz.prog 43 #[.int .i64 n, .string s] w (EncPost n s w) := by
  go_enter Tryz.func43, Tryz.ntmps43
  go_wp2_with fail
  refine (rCheck_any n s _ hs).mono ?_
  rintro e w1 (⟨k, hk, hn, rfl, hE⟩ | ⟨hno, rfl, hE⟩)
  · by_cases hz : chkK k s = 0
    · have hZ := Lib.hid hz
      have hq := chk_zero k s hz
      have hV := var_cases k hk
      have hQ := Lib.hid hq
      have hVc := Lib.hid hV
      have hN := Lib.hid hn
      clear hq hV hn
      rw [hz]
      clear hz
      go_wp2_with fail
      refine (rFind_any n _).mono ?_
      rintro e w2 (⟨k', hk', hn', rfl, hE2⟩ | ⟨hno, rfl, hE2⟩)
      · obtain rfl : k' = k := dNum_inj k' k hk' hk (hn'.trans hN.out.symm)
        clear hn'
        have hE0 : Ext w w2 := hE.trans hE2
        clear hE hE2
        unfold specAgg
        have hl : (s.size : Int) ≤ dLen k' := hQ.out.1
        have hl2 := (row_bd k' hk).1.2
        have hv1 := (row_bd k' hk).2.1
        obtain ⟨vn, hvn⟩ := Int.eq_ofNat_of_zero_le hv1.1
        have hvN := Lib.hid hvn
        rw [hvn] at hv1 ⊢
        go_wp2_with fail
        go_loop [9, 10] (fun t m => ∃ (i : Nat) (r : ByteArray), i ≤ vn ∧ t = .string r ∧ r.data.toList = digL s.size i ∧ m = .int .i64 (s.size / 10 ^ i : Nat)) (fun t _ => match t with | .string r => vn - r.size | _ => 0)
        case atStart => exact ⟨0, ⟨#[]⟩, by omega, rfl, rfl, by simp⟩
        case round =>
          obtain ⟨i, r, hi, rfl, hr, rfl⟩ := hrel
          have hrs : r.size = i := by rw [size_of_list' hr, digL_len]
          have hR := Lib.hid hr
          have hS := Lib.hid hrs
          have hrs1 : r.size ≤ 3 := by omega
          have hrs2 : r.size ≤ vn := by omega
          clear hr hrs
          by_cases hlt : r.size < vn
          · generalize hq : s.size / 10 ^ i = q
            have hqb : q ≤ 1000000 := by rw [← hq]; exact Nat.le_trans (Nat.div_le_self _ _) hs
            have hQd := Lib.hid hq
            clear hq
            have hdig := Lib.hid (digit_of (q % 10) (by omega))
            go_wp2
            go_round
            case rel =>
              refine ⟨i + 1, _, by have := hS.out; omega, rfl, ?_, ?_⟩
              · rw [app_data, hdig.out, hR.out]
                simp only [digL, hQd.out]
                rfl
              · rw [← div_step, hQd.out]; simp
            case measure =>
              have hsz : ((⟨#[48, 49, 50, 51, 52, 53, 54, 55, 56, 57]⟩ : ByteArray).extract (q % 10) (q % 10 + 1) ++ r).size = 1 + r.size := by
                rw [size_of_list' (app_data _ _), List.length_append, hdig.out, ← size_of_list' rfl]; rfl
              show vn - _ < vn - r.size
              rw [hsz]; omega
          · have hrv : r.size = vn := by omega
            have hrl : r.data.toList = digL s.size vn := by have h1 := hR.out; have h2 := hS.out; rw [← hrv, h2]; exact h1
            have hRL := Lib.hid hrl
            have hRV := Lib.hid hrv
            clear hrl hrv
            have hfin : digL s.size vn ++ s.data.toList = encL k' s ∨ n = 41 := by
              rcases hVc.out.1 with hv | ⟨hv, hlen⟩ | hv
              · by_cases h41 : n = 41
                · exact Or.inr h41
                · left
                  have hvz : vn = 0 := by omega
                  unfold encL
                  rw [if_neg (by omega), if_neg (fun h => h41 (hN.out.symm.trans h)), hvz]; rfl
              · left
                have hvz : vn = 2 := by omega
                unfold encL
                rw [if_pos (by omega), hv, hvz, digL_2 _ (by omega)]; rfl
              · left
                have hvz : vn = 3 := by omega
                unfold encL
                rw [if_pos (by omega), hv, hvz, digL_3 _ (by omega)]; rfl
            have hF := Lib.hid hfin
            clear hfin
            by_cases h41 : n = 41
            · subst h41
              obtain ⟨hv0, hl8, hk2⟩ := hVc.out.2 hN.out
              have hvz : vn = 0 := by omega
              have hr0 : r.size = 0 := by have := hRV.out; omega
              have hl8' : s.size ≤ 8 := by omega
              have hSum : (r ++ s).data.toList = s.data.toList := by rw [app_data, hRL.out, hvz]; rfl
              have hSumH := Lib.hid hSum
              have hL8 := Lib.hid hl8
              clear hSum hl8 hk2
              go_wp2
              go_loop [9] (fun t => ∃ (j : Nat) (q : ByteArray), s.size + j ≤ 8 ∧ t = .string q ∧ q.data.toList = s.data.toList ++ List.replicate j 32) (fun t => match t with | .string q => 8 - q.size | _ => 0)
              case atStart => exact ⟨0, _, by omega, rfl, by rw [hSumH.out]; simp⟩
              case round =>
                obtain ⟨j, q, hj, rfl, hq⟩ := hrel
                have hqs : q.size = s.size + j := by rw [size_of_list' hq, List.length_append, List.length_replicate, ← size_of_list' rfl]
                have hQq := Lib.hid hq
                have hQs := Lib.hid hqs
                have hq8 : q.size ≤ 8 := by omega
                clear hq hqs
                by_cases hlt2 : q.size < 8
                · go_wp2
                  go_round
                  case rel =>
                    refine ⟨j + 1, _, by have := hQs.out; omega, rfl, ?_⟩
                    rw [app_data, hQq.out, List.append_assoc]
                    congr 1
                    rw [List.replicate_succ']
                  case measure =>
                    have hsz : (q ++ (⟨#[32]⟩ : ByteArray)).size = q.size + 1 := by
                      rw [size_of_list' (app_data _ _), List.length_append, ← size_of_list' rfl]; rfl
                    show 8 - _ < 8 - q.size
                    rw [hsz]; omega
                · go_wp2
                  go_ret2
                  refine Or.inr (Or.inl ⟨k', hk, hN.out, hZ.out, q, ?_, rfl, (by repeat (first | with_reducible exact Ext.refl _ | with_reducible exact hE0 | with_reducible exact hE | with_reducible refine Ext.alloc ?_ _ | with_reducible refine Ext.drewN ?_ _ | with_reducible refine Ext.drew ?_ | ((with_reducible refine Ext.setCell ?_ ?side _); (case side => first | exact Nat.le_refl _ | (simp; done) | (simp; omega)))))⟩)
                  have hjj : j = 8 - s.size := by have := hQs.out; omega
                  rw [hQq.out, hjj]
                  unfold encL
                  rw [if_neg (by omega), if_pos hN.out]
            · have h41b : (n == 41) = false := by simpa using h41
              have hne := Lib.hid h41
              clear h41
              have hSum : (r ++ s).data.toList = encL k' s := by rw [app_data, hRL.out]; exact hF.out.resolve_right hne.out
              have hSumH := Lib.hid hSum
              clear hSum
              go_wp2
              go_loop [9] (fun t => t = .string (r ++ s)) (fun _ => 0)
              case atStart => rfl
              case round =>
                subst hrel
                go_wp2
                go_ret2
                exact Or.inr (Or.inl ⟨k', hk, hN.out, hZ.out, _, hSumH.out, rfl, (by repeat (first | with_reducible exact Ext.refl _ | with_reducible exact hE0 | with_reducible exact hE | with_reducible refine Ext.alloc ?_ _ | with_reducible refine Ext.drewN ?_ _ | with_reducible refine Ext.drew ?_ | ((with_reducible refine Ext.setCell ?_ ?side _); (case side => first | exact Nat.le_refl _ | (simp; done) | (simp; omega)))))⟩)
      · exact absurd hN.out (hno k hk)
    · have hb : (chkK k s != 0) = true := by simpa using hz
      have hZ := Lib.hid hz
      clear hz
      go_wp2
      go_ret2
      exact Or.inl ⟨k, hk, hn, hZ.out, rfl, hE⟩
  · have hno := Lib.hid hno
    go_wp2
    go_ret2
    exact Or.inr (Or.inr ⟨hno.out, rfl, hE⟩)
end Go.Proofs.YthokhncdpfaifaaGreatDoor
