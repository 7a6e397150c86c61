/- Contract of the reference's Decode of bitmaps (walk). -/
import Derived.Test.YthokhncdpfaifaaGreatDoorBmx
namespace Go.Proofs.YthokhncdpfaifaaGreatDoor
open Go.RowKit
theorem wrap_top (x : Nat) (h : ¬ x < 2 ^ 63) (hx : Wd x) : IntKind.u64.wrap ((x : Int) - 9223372036854775808) = (clr x : Int) := by rw [IntKind.wrap_u64]; unfold clr; unfold Wd at hx; omega
theorem rd_bv (s : ByteArray) (k : Nat) (h : k + 16 ≤ s.size) : bvE (s.data.toList.drop k) = (if rdB (s.extract k (k + 16)) = true then 0 else 2) ∧ bvN (s.data.toList.drop k) = rdN (s.extract k (k + 16)) := by
  have e : (s.extract k (k + 16)).data.toList = (s.data.toList.drop k).take 16 := by
    rw [Lib.extract_data, show k + 16 - k = 16 by omega]
  have hE : bvE (s.data.toList.drop k) = (if rdB (s.extract k (k + 16)) = true then 0 else 2) := by
    unfold bvE rdB
    rw [e, if_neg (by rw [List.length_drop, len_list]; omega)]
    cases ((s.data.toList.drop k).take 16).all hxB <;> rfl
  refine ⟨hE, ?_⟩
  unfold bvN rdN
  rw [hE, e]
  cases rdB (s.extract k (k + 16)) <;> rfl
theorem ex16 (s : ByteArray) (a b : Nat) (h : b ≤ s.size) (hab : a + 16 = b) : (s.extract a b).size = 16 := by
  rw [ByteArray.size_extract]; omega
set_option maxRecDepth 4000 in
set_option maxHeartbeats 6000000 in
theorem rbdec_any (s : ByteArray) (w : World) (hs : s.size ≤ 1000000) :
    Calls Tryz.prog 53 #[.string s] w (OneV (bdV s.data.toList) w) := by
  by_cases h16 : s.size < 16
  · have hE : bvE s.data.toList = 1 := by unfold bvE; rw [if_pos (by rw [len_list]; omega)]
    have H := Lib.hid (bm_err1 _ (show bvE s.data.toList ≠ 0 by rw [hE]; decide))
    rw [hE] at H
    clear hE
    go_enter Tryz.func53, Tryz.ntmps53
    go_wp2
    refine bodyPost_ret (v := bdV s.data.toList) ?_ rfl ⟨rfl, (by repeat (first | with_reducible exact Ext.refl _ | with_reducible exact hE0 | with_reducible exact hE | with_reducible refine Ext.alloc ?_ _ | with_reducible refine Ext.drewN ?_ _ | with_reducible refine Ext.drew ?_ | ((with_reducible refine Ext.setCell ?_ ?side _); (case side => first | exact Nat.le_refl _ | (simp; done) | (simp; omega)))))⟩
    obtain ⟨e1, e2, e3, e4⟩ := H.out
    simp [results, Tryz.results53, go_sem, bdV, e1, e2, e3, e4]
  · have hx1 := ex16 s 0 16 (by omega) rfl
    obtain ⟨r1, r2⟩ := rd_bv s 0 (by omega)
    rw [List.drop_zero, Nat.zero_add] at r1 r2
    have hwd : Wd (rdN (s.extract 0 16)) := by rw [← r2]; exact bvN_wd _
    cases hb1 : rdB (s.extract 0 16) with
    | false =>
      rw [hb1] at r1
      have H := Lib.hid (bm_err1 _ (show bvE s.data.toList ≠ 0 by rw [r1]; decide))
      rw [r1] at H
      clear r1 r2
      go_enter Tryz.func53, Tryz.ntmps53
      go_wp2_with fail
      refine (rread_any (s.extract 0 16) _ hx1).mono ?_
      rintro e w1 ⟨rfl, hE1⟩
      rw [hb1]
      have hB := (Blk.new w _ _).ext hE1
      have z0 := hB.cell 0
      have z1 := hB.cell 1
      have f0 := hB.fz 0
      have f1 := hB.fz 1
      have hlt := hB.lt
      simp at z0 z1
      have hE2 := ((by repeat (first | with_reducible exact Ext.refl _ | with_reducible exact hE0 | with_reducible exact hE | with_reducible refine Ext.alloc ?_ _ | with_reducible refine Ext.drewN ?_ _ | with_reducible refine Ext.drew ?_ | ((with_reducible refine Ext.setCell ?_ ?side _); (case side => first | exact Nat.le_refl _ | (simp; done) | (simp; omega))))) : Ext w _).trans hE1
      clear hE1 hb1 hB
      go_wp2
      refine bodyPost_ret (v := bdV s.data.toList) ?_ rfl ⟨rfl, ?_⟩
      · obtain ⟨e1, e2, e3, e4⟩ := H.out
        simp [results, Tryz.results53, go_sem, bdV, e1, e2, e3, e4, z0, z1]
      · exact (hE2.setCell (by simp) _).setCell (by simp) _
    | true =>
      rw [hb1] at r1
      rw [if_pos rfl] at r1
      by_cases h1 : rdN (s.extract 0 16) < 2 ^ 63
      · have H := Lib.hid (bm_one _ r1 (by rw [r2]; exact h1))
        rw [r2] at H
        have hand := (and_top _ hwd).2 h1
        clear r1 r2
        go_enter Tryz.func53, Tryz.ntmps53
        go_wp2_with fail
        refine (rread_any (s.extract 0 16) _ hx1).mono ?_
        rintro e w1 ⟨rfl, hE1⟩
        rw [hb1]
        have hB := (Blk.new w _ _).ext hE1
        have z0 := hB.cell 0
        have z1 := hB.cell 1
        have f0 := hB.fz 0
        have f1 := hB.fz 1
        have hlt := hB.lt
        simp at z0 z1
        have hE2 := ((by repeat (first | with_reducible exact Ext.refl _ | with_reducible exact hE0 | with_reducible exact hE | with_reducible refine Ext.alloc ?_ _ | with_reducible refine Ext.drewN ?_ _ | with_reducible refine Ext.drew ?_ | ((with_reducible refine Ext.setCell ?_ ?side _); (case side => first | exact Nat.le_refl _ | (simp; done) | (simp; omega))))) : Ext w _).trans hE1
        clear hE1 hb1 hB
        generalize rdN (s.extract 0 16) = x at *
        go_wp2_with (go_at_call 79; refine (rbit_one _).mono ?_; rintro e w2 ⟨rfl, rfl⟩)
        refine bodyPost_ret (v := bdV s.data.toList) ?_ rfl ⟨rfl, ?_⟩
        · obtain ⟨e1, e2, e3, e4⟩ := H.out
          simp [results, Tryz.results53, go_sem, bdV, e1, e2, e3, e4, z0, z1]
        · exact (hE2.setCell (by simp) _).setCell (by simp) _
      · have T := Lib.hid (bm_two _ r1 (by rw [r2]; exact h1))
        rw [r2] at T
        have hwr := Lib.hid (wrap_top _ h1 hwd)
        have hand : (bits .and .u64 ((rdN (s.extract 0 16) : Nat) : Int) 9223372036854775808 == 0) = false := by
          rw [beq_eq_false_iff_ne]; intro h; exact h1 ((and_top _ hwd).1 h)
        clear r1 r2 h1
        by_cases h32 : s.size < 32
        · have hE2 : bvE (s.data.toList.drop 16) = 1 := by unfold bvE; rw [if_pos (by rw [List.length_drop, len_list]; omega)]
          have hC : bmE s.data.toList = 1 := by have := T.out.1; rw [hE2] at this; simpa using this
          have H := Lib.hid (And.intro hC (T.out.2.1 (by rw [hC]; decide)))
          clear hE2 hC T
          go_enter Tryz.func53, Tryz.ntmps53
          go_wp2_with fail
          refine (rread_any (s.extract 0 16) _ hx1).mono ?_
          rintro e w1 ⟨rfl, hE1⟩
          rw [hb1]
          have hB := (Blk.new w _ _).ext hE1
          have z0 := hB.cell 0
          have z1 := hB.cell 1
          have f0 := hB.fz 0
          have f1 := hB.fz 1
          have hlt := hB.lt
          simp at z0 z1
          have hE2 := ((by repeat (first | with_reducible exact Ext.refl _ | with_reducible exact hE0 | with_reducible exact hE | with_reducible refine Ext.alloc ?_ _ | with_reducible refine Ext.drewN ?_ _ | with_reducible refine Ext.drew ?_ | ((with_reducible refine Ext.setCell ?_ ?side _); (case side => first | exact Nat.le_refl _ | (simp; done) | (simp; omega))))) : Ext w _).trans hE1
          clear hE1 hb1
          generalize rdN (s.extract 0 16) = x at *
          go_wp2_with (go_at_call 79; refine (rbit_one _).mono ?_; rintro e w2 ⟨rfl, rfl⟩)
          refine bodyPost_ret (v := bdV s.data.toList) ?_ rfl ⟨rfl, ?_⟩
          · obtain ⟨e1, e2, e3, e4⟩ := H.out
            simp [results, Tryz.results53, go_sem, bdV, e1, e2, e3, e4, z0, z1]
          · exact (hE2.setCell (by simp) _).setCell (by simp) _
        · have hx2 := ex16 s 16 32 (by omega) rfl
          obtain ⟨q1, q2⟩ := rd_bv s 16 (by omega)
          rw [show 16 + 16 = 32 from rfl] at q1 q2
          have hw2 : Wd (rdN (s.extract 16 32)) := by rw [← q2]; exact bvN_wd _
          cases hb2 : rdB (s.extract 16 32) with
          | false =>
            rw [hb2] at q1
            have hC : bmE s.data.toList = 2 := by have := T.out.1; rw [q1] at this; simpa using this
            have H := Lib.hid (And.intro hC (T.out.2.1 (by rw [hC]; decide)))
            clear hC T q1 q2
            go_enter Tryz.func53, Tryz.ntmps53
            go_wp2_with fail
            refine (rread_any (s.extract 0 16) _ hx1).mono ?_
            rintro e w1 ⟨rfl, hE1⟩
            rw [hb1]
            have hB := (Blk.new w _ _).ext hE1
            have z0 := hB.cell 0
            have z1 := hB.cell 1
            have f0 := hB.fz 0
            have f1 := hB.fz 1
            have hlt := hB.lt
            simp at z0 z1
            have hE2 := ((by repeat (first | with_reducible exact Ext.refl _ | with_reducible exact hE0 | with_reducible exact hE | with_reducible refine Ext.alloc ?_ _ | with_reducible refine Ext.drewN ?_ _ | with_reducible refine Ext.drew ?_ | ((with_reducible refine Ext.setCell ?_ ?side _); (case side => first | exact Nat.le_refl _ | (simp; done) | (simp; omega))))) : Ext w _).trans hE1
            clear hE1 hb1
            generalize rdN (s.extract 0 16) = x at *
            go_wp2_with (go_at_call 79; refine (rbit_one _).mono ?_; rintro e w2 ⟨rfl, rfl⟩)
            refine (rread_any (s.extract 16 32) _ hx2).mono ?_
            rintro e w3 ⟨rfl, hE3⟩
            rw [hb2]
            have hB2 := hB.ext hE3
            have y0 := hB2.cell 0
            have y1 := hB2.cell 1
            have g0 := hB2.fz 0
            have g1 := hB2.fz 1
            have hlt2 := hB2.lt
            simp at y0 y1
            have hE4 := hE2.trans hE3
            clear hE3 hb2 hB2 hB z0 z1 f0 f1 hlt
            go_wp2
            refine bodyPost_ret (v := bdV s.data.toList) ?_ rfl ⟨rfl, ?_⟩
            · obtain ⟨e1, e2, e3, e4⟩ := H.out
              simp [results, Tryz.results53, go_sem, bdV, e1, e2, e3, e4, y0, y1]
            · exact (hE4.setCell (by simp) _).setCell (by simp) _
          | true =>
            rw [hb2, if_pos rfl] at q1
            rw [q1, q2] at T
            by_cases h3 : rdN (s.extract 16 32) = 0
            · have hC : bmE s.data.toList = 2 := by have := T.out.1; simpa [h3] using this
              have H := Lib.hid (And.intro hC (T.out.2.1 (by rw [hC]; decide)))
              clear hC T q1 q2
              go_enter Tryz.func53, Tryz.ntmps53
              go_wp2_with fail
              refine (rread_any (s.extract 0 16) _ hx1).mono ?_
              rintro e w1 ⟨rfl, hE1⟩
              rw [hb1]
              have hB := (Blk.new w _ _).ext hE1
              have z0 := hB.cell 0
              have z1 := hB.cell 1
              have f0 := hB.fz 0
              have f1 := hB.fz 1
              have hlt := hB.lt
              simp at z0 z1
              have hE2 := ((by repeat (first | with_reducible exact Ext.refl _ | with_reducible exact hE0 | with_reducible exact hE | with_reducible refine Ext.alloc ?_ _ | with_reducible refine Ext.drewN ?_ _ | with_reducible refine Ext.drew ?_ | ((with_reducible refine Ext.setCell ?_ ?side _); (case side => first | exact Nat.le_refl _ | (simp; done) | (simp; omega))))) : Ext w _).trans hE1
              clear hE1 hb1
              generalize rdN (s.extract 0 16) = x at *
              go_wp2_with (go_at_call 79; refine (rbit_one _).mono ?_; rintro e w2 ⟨rfl, rfl⟩)
              refine (rread_any (s.extract 16 32) _ hx2).mono ?_
              rintro e w3 ⟨rfl, hE3⟩
              rw [hb2]
              have hB2 := hB.ext hE3
              have y0 := hB2.cell 0
              have y1 := hB2.cell 1
              have g0 := hB2.fz 0
              have g1 := hB2.fz 1
              have hlt2 := hB2.lt
              simp at y0 y1
              have hE4 := hE2.trans hE3
              clear hE3 hb2 hB2 hB z0 z1 f0 f1 hlt
              rw [h3]
              clear h3
              go_wp2
              refine bodyPost_ret (v := bdV s.data.toList) ?_ rfl ⟨rfl, ?_⟩
              · obtain ⟨e1, e2, e3, e4⟩ := H.out
                simp [results, Tryz.results53, go_sem, bdV, e1, e2, e3, e4, y0, y1]
              · exact (hE4.setCell (by simp) _).setCell (by simp) _
            · have hC : bmE s.data.toList = 0 := by have := T.out.1; simpa [h3] using this
              have H := Lib.hid (And.intro hC (T.out.2.2 hC))
              have h3b : (((rdN (s.extract 16 32) : Nat) : Int) == 0) = false := by rw [beq_eq_false_iff_ne]; omega
              clear hC T q1 q2 h3
              go_enter Tryz.func53, Tryz.ntmps53
              go_wp2_with fail
              refine (rread_any (s.extract 0 16) _ hx1).mono ?_
              rintro e w1 ⟨rfl, hE1⟩
              rw [hb1]
              have hB := (Blk.new w _ _).ext hE1
              have z0 := hB.cell 0
              have z1 := hB.cell 1
              have f0 := hB.fz 0
              have f1 := hB.fz 1
              have hlt := hB.lt
              simp at z0 z1
              have hE2 := ((by repeat (first | with_reducible exact Ext.refl _ | with_reducible exact hE0 | with_reducible exact hE | with_reducible refine Ext.alloc ?_ _ | with_reducible refine Ext.drewN ?_ _ | with_reducible refine Ext.drew ?_ | ((with_reducible refine Ext.setCell ?_ ?side _); (case side => first | exact Nat.le_refl _ | (simp; done) | (simp; omega))))) : Ext w _).trans hE1
              clear hE1 hb1
              generalize rdN (s.extract 0 16) = x at *
              go_wp2_with (go_at_call 79; refine (rbit_one _).mono ?_; rintro e w2 ⟨rfl, rfl⟩)
              refine (rread_any (s.extract 16 32) _ hx2).mono ?_
              rintro e w3 ⟨rfl, hE3⟩
              rw [hb2]
              have hB2 := hB.ext hE3
              have y0 := hB2.cell 0
              have y1 := hB2.cell 1
              have g0 := hB2.fz 0
              have g1 := hB2.fz 1
              have hlt2 := hB2.lt
              simp at y0 y1
              have hE4 := hE2.trans hE3
              clear hE3 hb2 hB2 hB z0 z1 f0 f1 hlt
              generalize rdN (s.extract 16 32) = y at *
              go_wp2_with (go_at_call 79; refine (rbit_one _).mono ?_; rintro e w2 ⟨rfl, rfl⟩)
              refine bodyPost_ret (v := bdV s.data.toList) ?_ rfl ⟨rfl, ?_⟩
              · obtain ⟨e1, e2, e3, e4⟩ := H.out
                simp [results, Tryz.results53, go_sem, bdV, e1, e2, e3, e4, y0, y1]
                exact hwr.out
              · exact (hE4.setCell (by simp) _).setCell (by simp) _
end Go.Proofs.YthokhncdpfaifaaGreatDoor
