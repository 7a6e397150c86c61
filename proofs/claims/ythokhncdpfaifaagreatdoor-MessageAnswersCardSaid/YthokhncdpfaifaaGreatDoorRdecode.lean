/- Contract of the reference's Decode (walk). Written by gen/rdecode.py. -/
import Derived.Test.YthokhncdpfaifaaGreatDoorRread
namespace Go.Proofs.YthokhncdpfaifaaGreatDoor
open Go.RowKit
theorem trimR_nil (c : UInt8) : Lib.trimRightB [] c = [] := rfl
theorem trimR_snoc_eq (l : List UInt8) (c : UInt8) : Lib.trimRightB (l ++ [c]) c = Lib.trimRightB l c := by simp [Lib.trimRightB]
theorem trimR_snoc_ne (l : List UInt8) (x c : UInt8) (h : x ≠ c) : Lib.trimRightB (l ++ [x]) c = l ++ [x] := by simp [Lib.trimRightB, h]
theorem snoc_of (q : ByteArray) (h : 0 < q.size) : q.data.toList = q.data.toList.take (q.size - 1) ++ [q[q.size - 1]] := by
  have := take_snoc q (q.size - 1) (by omega)
  rw [show q.size - 1 + 1 = q.size by omega, List.take_of_length_le (by rw [size_list]; exact Nat.le_refl _)] at this
  exact this
theorem byte_eq32 (b : UInt8) : ((b.toNat : Int) == 32) = decide (b = 32) := by
  rw [Bool.eq_iff_iff]
  simp
  constructor
  · intro h; exact UInt8.toNat_inj.1 (by show b.toNat = 32; omega)
  · intro h; rw [h]; rfl
set_option maxRecDepth 8000 in
set_option maxHeartbeats 4000000 in
theorem rDecode_any (n : Int) (s : ByteArray) (w : World) (hs : s.size ≤ 1000000) :
    Calls Tryz.prog 55 #[.int .i64 n, .string s] w (DecPost n s w) := by
  go_enter Tryz.func55, Tryz.ntmps55
  go_wp2_with fail
  refine (rFind_any n _).mono ?_
  rintro e w1 (⟨k, hk, hn, rfl, hE⟩ | ⟨hno, rfl, hE⟩)
  · have hN := Lib.hid hn
    clear hn
    unfold specAgg
    go_wp2_with fail
    refine (rRead_any k hk s _ hs).mono ?_
    rintro e w2 (⟨hbad, rfl, hE2⟩ | ⟨hraw, v0, r, hv0, hr, rfl, hE2⟩)
    · have hE0 : Ext w w2 := (hE.alloc _).trans hE2
      clear hE2
      have hbb : (rawE k s != 0) = true := by simpa using hbad
      have hbe : (rawE k s == 0) = false := by simpa using hbad
      have hB := Lib.hid hbad
      have hdb := Lib.hid (dec_bad (k := k) (s := s) rfl hbad)
      clear hbad
      generalize hge : rawE k s = er at *
      clear hge
      go_wp2
      go_loop [9] (fun t => t = .string ⟨#[]⟩) (fun _ => 0)
      case atStart => rfl
      case round =>
        subst hrel
        by_cases h41 : n = 41
        · subst h41
          go_wp2
          go_ret3
          exact Or.inl ⟨k, hk, hN.out, by rw [hdb.out]; exact hB.out, by rw [hdb.out]; rfl, (by repeat (first | with_reducible exact Ext.refl _ | with_reducible exact hE0 | with_reducible exact hE | with_reducible refine Ext.alloc ?_ _ | with_reducible refine Ext.drewN ?_ _ | with_reducible refine Ext.drew ?_ | ((with_reducible refine Ext.setCell ?_ ?side _); (case side => first | exact Nat.le_refl _ | (simp; done) | (simp; omega)))))⟩
        · have h41b : (n == 41) = false := by simpa using h41
          clear h41
          go_wp2
          go_ret3
          exact Or.inl ⟨k, hk, hN.out, by rw [hdb.out]; exact hB.out, by rw [hdb.out]; rfl, (by repeat (first | with_reducible exact Ext.refl _ | with_reducible exact hE0 | with_reducible exact hE | with_reducible refine Ext.alloc ?_ _ | with_reducible refine Ext.drewN ?_ _ | with_reducible refine Ext.drew ?_ | ((with_reducible refine Ext.setCell ?_ ?side _); (case side => first | exact Nat.le_refl _ | (simp; done) | (simp; omega)))))⟩
    · have hE0 : Ext w w2 := (hE.alloc _).trans hE2
      clear hE2
      have hraw := Lib.hid hraw
      have hrr := Lib.hid hr
      have hrv := Lib.hid hv0
      have hvs0 : v0.size ≤ 1000000 := by
        rw [← size_list, hv0]; unfold rawV
        rw [List.length_drop, List.length_take, size_list]; omega
      clear hr hv0
      by_cases h41 : n = 41
      · subst h41
        go_wp2
        go_loop [9] (fun t => ∃ q : ByteArray, t = .string q ∧ q.size ≤ v0.size ∧ Lib.trimRightB q.data.toList 32 = Lib.trimRightB v0.data.toList 32) (fun t => match t with | .string q => q.size | _ => 0)
        case atStart => exact ⟨v0, rfl, Nat.le_refl _, rfl⟩
        case round =>
          obtain ⟨v, rfl, hvs, hq⟩ := hrel
          have hq := Lib.hid hq
          have hvs : v.size ≤ 1000000 := by omega
          by_cases h0 : 0 < v.size
          · have hsn := Lib.hid (snoc_of v h0)
            by_cases hsp : v[v.size - 1] = 32
            · have hb32 : ((v[v.size - 1].toNat : Int) == 32) = true := by rw [byte_eq32]; simp [hsp]
              have hSp := Lib.hid hsp
              clear hsp
              go_wp2
              go_round
              case rel =>
                refine ⟨_, rfl, by simp; omega, ?_⟩
                rw [← hq.out, hsn.out, hSp.out, trimR_snoc_eq, extract_list]; simp
              case measure => simp; omega
            · have hb32 : ((v[v.size - 1].toNat : Int) == 32) = false := by rw [byte_eq32]; simp [hsp]
              have hSp := Lib.hid hsp
              clear hsp
              have hvl : v.data.toList = valD k s := by
                unfold valD; rw [if_pos hN.out, ← hrv.out, ← hq.out, hsn.out, trimR_snoc_ne _ _ _ hSp.out]
              have hdg := Lib.hid (dec_good hraw.out hvl)
              have hVl := Lib.hid hvl
              clear hvl
              go_wp2_with fail
              refine (rCheck_any 41 v _ hvs).mono ?_
              rintro e w5 (⟨k', hk', hn', rfl, hE5⟩ | ⟨hno, rfl, hE5⟩)
              · obtain rfl : k' = k := dNum_inj k' k hk' hk (hn'.trans hN.out.symm)
                clear hn'
                by_cases hz : chkK k' v = 0
                · rw [hz]
                  have hZ := Lib.hid hz
                  clear hz
                  go_wp2
                  go_ret3
                  exact Or.inr (Or.inl ⟨k', hk, hN.out, by rw [hdg.out, hZ.out], hraw.out, v, r, hVl.out, hrr.out, rfl, ((by repeat (first | with_reducible exact Ext.refl _ | with_reducible exact hE0 | with_reducible exact hE | with_reducible refine Ext.alloc ?_ _ | with_reducible refine Ext.drewN ?_ _ | with_reducible refine Ext.drew ?_ | ((with_reducible refine Ext.setCell ?_ ?side _); (case side => first | exact Nat.le_refl _ | (simp; done) | (simp; omega))))) : Ext w _).trans hE5⟩)
                · have hb : (chkK k' v != 0) = true := by simpa using hz
                  have hZ := Lib.hid hz
                  clear hz
                  go_wp2
                  go_ret3
                  exact Or.inl ⟨k', hk, hN.out, by rw [hdg.out]; exact hZ.out, by rw [hdg.out]; rfl, ((by repeat (first | with_reducible exact Ext.refl _ | with_reducible exact hE0 | with_reducible exact hE | with_reducible refine Ext.alloc ?_ _ | with_reducible refine Ext.drewN ?_ _ | with_reducible refine Ext.drew ?_ | ((with_reducible refine Ext.setCell ?_ ?side _); (case side => first | exact Nat.le_refl _ | (simp; done) | (simp; omega))))) : Ext w _).trans hE5⟩
              · exact absurd hN.out (hno k hk)
          · have hvl : v.data.toList = valD k s := by
              have hnil : v.data.toList = [] := List.length_eq_zero_iff.1 (by rw [size_list]; omega)
              unfold valD; rw [if_pos hN.out, ← hrv.out, ← hq.out, hnil]; rfl
            have hdg := Lib.hid (dec_good hraw.out hvl)
            have hVl := Lib.hid hvl
            clear hvl
            go_wp2_with fail
            refine (rCheck_any 41 v _ hvs).mono ?_
            rintro e w5 (⟨k', hk', hn', rfl, hE5⟩ | ⟨hno, rfl, hE5⟩)
            · obtain rfl : k' = k := dNum_inj k' k hk' hk (hn'.trans hN.out.symm)
              clear hn'
              by_cases hz : chkK k' v = 0
              · rw [hz]
                have hZ := Lib.hid hz
                clear hz
                go_wp2
                go_ret3
                exact Or.inr (Or.inl ⟨k', hk, hN.out, by rw [hdg.out, hZ.out], hraw.out, v, r, hVl.out, hrr.out, rfl, ((by repeat (first | with_reducible exact Ext.refl _ | with_reducible exact hE0 | with_reducible exact hE | with_reducible refine Ext.alloc ?_ _ | with_reducible refine Ext.drewN ?_ _ | with_reducible refine Ext.drew ?_ | ((with_reducible refine Ext.setCell ?_ ?side _); (case side => first | exact Nat.le_refl _ | (simp; done) | (simp; omega))))) : Ext w _).trans hE5⟩)
              · have hb : (chkK k' v != 0) = true := by simpa using hz
                have hZ := Lib.hid hz
                clear hz
                go_wp2
                go_ret3
                exact Or.inl ⟨k', hk, hN.out, by rw [hdg.out]; exact hZ.out, by rw [hdg.out]; rfl, ((by repeat (first | with_reducible exact Ext.refl _ | with_reducible exact hE0 | with_reducible exact hE | with_reducible refine Ext.alloc ?_ _ | with_reducible refine Ext.drewN ?_ _ | with_reducible refine Ext.drew ?_ | ((with_reducible refine Ext.setCell ?_ ?side _); (case side => first | exact Nat.le_refl _ | (simp; done) | (simp; omega))))) : Ext w _).trans hE5⟩
            · exact absurd hN.out (hno k hk)
      · have hne41 : Hid (¬ dNum k = 41) := Lib.hid (fun h => h41 (hN.out.symm.trans h))
        have h41b : (n == 41) = false := by simpa using h41
        clear h41
        go_wp2
        go_loop [9] (fun t => t = .string v0) (fun _ => 0)
        case atStart => rfl
        case round =>
          subst hrel
          generalize hvv : v0 = v at *
          clear hvv
          have hvs : v.size ≤ 1000000 := hvs0
          have hvl : v.data.toList = valD k s := by unfold valD; rw [if_neg hne41.out, hrv.out]
          have hdg := Lib.hid (dec_good hraw.out hvl)
          have hVl := Lib.hid hvl
          clear hvl
          go_wp2_with fail
          refine (rCheck_any n v _ hvs).mono ?_
          rintro e w5 (⟨k', hk', hn', rfl, hE5⟩ | ⟨hno, rfl, hE5⟩)
          · obtain rfl : k' = k := dNum_inj k' k hk' hk (hn'.trans hN.out.symm)
            clear hn'
            by_cases hz : chkK k' v = 0
            · rw [hz]
              have hZ := Lib.hid hz
              clear hz
              go_wp2
              go_ret3
              exact Or.inr (Or.inl ⟨k', hk, hN.out, by rw [hdg.out, hZ.out], hraw.out, v, r, hVl.out, hrr.out, rfl, ((by repeat (first | with_reducible exact Ext.refl _ | with_reducible exact hE0 | with_reducible exact hE | with_reducible refine Ext.alloc ?_ _ | with_reducible refine Ext.drewN ?_ _ | with_reducible refine Ext.drew ?_ | ((with_reducible refine Ext.setCell ?_ ?side _); (case side => first | exact Nat.le_refl _ | (simp; done) | (simp; omega))))) : Ext w _).trans hE5⟩)
            · have hb : (chkK k' v != 0) = true := by simpa using hz
              have hZ := Lib.hid hz
              clear hz
              go_wp2
              go_ret3
              exact Or.inl ⟨k', hk, hN.out, by rw [hdg.out]; exact hZ.out, by rw [hdg.out]; rfl, ((by repeat (first | with_reducible exact Ext.refl _ | with_reducible exact hE0 | with_reducible exact hE | with_reducible refine Ext.alloc ?_ _ | with_reducible refine Ext.drewN ?_ _ | with_reducible refine Ext.drew ?_ | ((with_reducible refine Ext.setCell ?_ ?side _); (case side => first | exact Nat.le_refl _ | (simp; done) | (simp; omega))))) : Ext w _).trans hE5⟩
          · exact absurd hN.out (hno k hk)
  · have hno := Lib.hid hno
    unfold specZero
    go_wp2
    go_ret3
    exact Or.inr (Or.inr ⟨hno.out, rfl, (by repeat (first | with_reducible exact Ext.refl _ | with_reducible exact hE0 | with_reducible exact hE | with_reducible refine Ext.alloc ?_ _ | with_reducible refine Ext.drewN ?_ _ | with_reducible refine Ext.drew ?_ | ((with_reducible refine Ext.setCell ?_ ?side _); (case side => first | exact Nat.le_refl _ | (simp; done) | (simp; omega)))))⟩)
end Go.Proofs.YthokhncdpfaifaaGreatDoor
