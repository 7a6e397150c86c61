/- Contracts of the reference's amount, possible, Fee, and the walk of the law FeeruleFees (printed by gen/fe.py). -/
import Derived.Test.YtmoadonepkccbaaGreatDoorFz
import Derived.Test.YtmoadonepkccbaaGreatDoorEl
namespace Go.Proofs.YtmoadonepkccbaaGreatDoor
open Go.RowKit
def amtB (n : Int) : Bool := decide (0 ≤ n ∧ n ≤ 999999999999)
set_option maxHeartbeats 400000 in
theorem amount_any (n : Int) (w : World) : Calls Tryz.prog 93 #[.int .i64 n] w (OneV (.bool (amtB n)) w) := by
  obtain ⟨R, hR⟩ : ∃ R, R = amtB n := ⟨_, rfl⟩
  rw [← hR]
  by_cases c0 : 0 ≤ n
  · have d0 : decide (0 ≤ n) = true := by simp [c0]
    by_cases c1 : n ≤ 999999999999
    · have d1 : decide (n ≤ 999999999999) = true := by simp [c1]
      obtain rfl : R = true := by rw [hR]; unfold amtB; simp [c0, c1]
      clear hR
      go_enter Tryz.func93, Tryz.ntmps93
      go_wp2
      go_ret
      exact ⟨rfl, (by repeat (first | with_reducible exact Ext.refl _ | with_reducible exact hE0 | with_reducible exact hE | with_reducible refine Ext.alloc ?_ _ | with_reducible refine Ext.drewN ?_ _ | with_reducible refine Ext.drew ?_ | ((with_reducible refine Ext.setCell ?_ ?side _); (case side => first | exact Nat.le_refl _ | (simp; done) | (simp; omega)))))⟩
    · have d1 : decide (n ≤ 999999999999) = false := by simp; omega
      obtain rfl : R = false := by rw [hR]; unfold amtB; simp [c1]
      clear hR
      go_enter Tryz.func93, Tryz.ntmps93
      go_wp2
      go_ret
      exact ⟨rfl, (by repeat (first | with_reducible exact Ext.refl _ | with_reducible exact hE0 | with_reducible exact hE | with_reducible refine Ext.alloc ?_ _ | with_reducible refine Ext.drewN ?_ _ | with_reducible refine Ext.drew ?_ | ((with_reducible refine Ext.setCell ?_ ?side _); (case side => first | exact Nat.le_refl _ | (simp; done) | (simp; omega)))))⟩
  · have d0 : decide (0 ≤ n) = false := by simp; omega
    obtain rfl : R = false := by rw [hR]; unfold amtB; simp [c0]
    clear hR
    go_enter Tryz.func93, Tryz.ntmps93
    go_wp2
    go_ret
    exact ⟨rfl, (by repeat (first | with_reducible exact Ext.refl _ | with_reducible exact hE0 | with_reducible exact hE | with_reducible refine Ext.alloc ?_ _ | with_reducible refine Ext.drewN ?_ _ | with_reducible refine Ext.drew ?_ | ((with_reducible refine Ext.setCell ?_ ?side _); (case side => first | exact Nat.le_refl _ | (simp; done) | (simp; omega)))))⟩
theorem amt_iff (n : Int) : amtB n = true ↔ 0 ≤ n ∧ n ≤ 999999999999 := by unfold amtB; rw [decide_eq_true_eq]
set_option maxRecDepth 8000 in
set_option maxHeartbeats 4000000 in
theorem rpossible_any (r : RuleD) (q : Option Addr) (len cp : Nat) (w : World) : Calls Tryz.prog 94 #[ruleAgg r (.slice q len cp)] w (OneV (.bool (possB r)) w) := by
  obtain ⟨R, hR⟩ : ∃ R, R = possB r := ⟨_, rfl⟩
  rw [← hR]
  have hF := possB_f (r := r)
  have hT := (poss_iff r).2
  rw [← hR] at hF hT
  replace hF := Lib.hid hF
  replace hT := Lib.hid hT
  clear hR
  unfold ruleAgg
  obtain ⟨nm, wn, bps, fx, mn, mx⟩ := r
  simp only at hF hT ⊢
  have k1 := Lib.hid (fun w => amount_any fx w)
  have k2 := Lib.hid (fun w => amount_any mn w)
  have k3 := Lib.hid (fun w => amount_any mx w)
  have i1 := amt_iff fx
  have i2 := amt_iff mn
  have i3 := amt_iff mx
  generalize amtB fx = b1 at *
  generalize amtB mn = b2 at *
  generalize amtB mx = b3 at *
  by_cases c0 : 0 ≤ bps
  · have d0 : decide (0 ≤ bps) = true := by simp [c0]
    by_cases c1 : bps ≤ 10000
    · have d1 : decide (bps ≤ 10000) = true := by simp [c1]
      skip
      replace i1 := Lib.hid i1
      replace i2 := Lib.hid i2
      replace i3 := Lib.hid i3
      go_enter Tryz.func94, Tryz.ntmps94
      go_wp2_with fail
      refine (k1.out _).mono ?_
      rintro e w1 ⟨rfl, hE1⟩
      have hb := Lib.hid ((Blk.new w #[.string nm, .int .i64 wn.op, .string wn.name, .string wn.text, .int .i64 wn.n, .slice q len cp, .int .i64 bps, .int .i64 fx, .int .i64 mn, .int .i64 mx] 42).ext hE1)
      have hE : Ext w w1 := Ext.trans (by repeat (first | with_reducible exact Ext.refl _ | with_reducible exact hE0 | with_reducible exact hE | with_reducible refine Ext.alloc ?_ _ | with_reducible refine Ext.drewN ?_ _ | with_reducible refine Ext.drew ?_ | ((with_reducible refine Ext.setCell ?_ ?side _); (case side => first | exact Nat.le_refl _ | (simp; done) | (simp; omega))))) hE1
      clear hE1 k1
      have x6 := hb.out.cell 6
      have x7 := hb.out.cell 7
      have x8 := hb.out.cell 8
      have x9 := hb.out.cell 9
      simp at x6 x7 x8 x9
      cases b1 with
      | false =>
        have j := i1.out
        have hn : ¬ (0 ≤ fx ∧ fx ≤ 999999999999) := fun h => by have := j.2 h; cases this
        obtain rfl : R = false := hF.out (by first | omega | (have a1 := i1.out.1 (by first | trivial | rfl); omega) | (have a1 := i1.out.1 (by first | trivial | rfl); have a2 := i2.out.1 (by first | trivial | rfl); omega))
        clear hF hT j hn
        go_wp2
        go_ret
        exact ⟨rfl, (by repeat (first | with_reducible exact Ext.refl _ | with_reducible exact hE0 | with_reducible exact hE | with_reducible refine Ext.alloc ?_ _ | with_reducible refine Ext.drewN ?_ _ | with_reducible refine Ext.drew ?_ | ((with_reducible refine Ext.setCell ?_ ?side _); (case side => first | exact Nat.le_refl _ | (simp; done) | (simp; omega)))))⟩
      | true =>
        skip
        go_wp2_with fail
        refine (k2.out _).mono ?_
        rintro e w2 ⟨rfl, hE2⟩
        clear x6 x7 x8 x9
        replace hb := Lib.hid (hb.out.ext hE2)
        replace hE := hE.trans hE2
        clear hE2 k2
        have x6 := hb.out.cell 6
        have x7 := hb.out.cell 7
        have x8 := hb.out.cell 8
        have x9 := hb.out.cell 9
        simp at x6 x7 x8 x9
        cases b2 with
        | false =>
          have j := i2.out
          have hn : ¬ (0 ≤ mn ∧ mn ≤ 999999999999) := fun h => by have := j.2 h; cases this
          obtain rfl : R = false := hF.out (by first | omega | (have a1 := i1.out.1 (by first | trivial | rfl); omega) | (have a1 := i1.out.1 (by first | trivial | rfl); have a2 := i2.out.1 (by first | trivial | rfl); omega))
          clear hF hT j hn
          go_wp2
          go_ret
          exact ⟨rfl, (by repeat (first | with_reducible exact Ext.refl _ | with_reducible exact hE0 | with_reducible exact hE | with_reducible refine Ext.alloc ?_ _ | with_reducible refine Ext.drewN ?_ _ | with_reducible refine Ext.drew ?_ | ((with_reducible refine Ext.setCell ?_ ?side _); (case side => first | exact Nat.le_refl _ | (simp; done) | (simp; omega)))))⟩
        | true =>
          skip
          go_wp2_with fail
          refine (k3.out _).mono ?_
          rintro e w3 ⟨rfl, hE3⟩
          clear x6 x7 x8 x9
          replace hb := Lib.hid (hb.out.ext hE3)
          replace hE := hE.trans hE3
          clear hE3 k3
          have x6 := hb.out.cell 6
          have x7 := hb.out.cell 7
          have x8 := hb.out.cell 8
          have x9 := hb.out.cell 9
          simp at x6 x7 x8 x9
          cases b3 with
          | false =>
            have j := i3.out
            have hn : ¬ (0 ≤ mx ∧ mx ≤ 999999999999) := fun h => by have := j.2 h; cases this
            obtain rfl : R = false := hF.out (by first | omega | (have a1 := i1.out.1 (by first | trivial | rfl); omega) | (have a1 := i1.out.1 (by first | trivial | rfl); have a2 := i2.out.1 (by first | trivial | rfl); omega))
            clear hF hT j hn
            go_wp2
            go_ret
            exact ⟨rfl, (by repeat (first | with_reducible exact Ext.refl _ | with_reducible exact hE0 | with_reducible exact hE | with_reducible refine Ext.alloc ?_ _ | with_reducible refine Ext.drewN ?_ _ | with_reducible refine Ext.drew ?_ | ((with_reducible refine Ext.setCell ?_ ?side _); (case side => first | exact Nat.le_refl _ | (simp; done) | (simp; omega)))))⟩
          | true =>
            have a1 := i1.out.1 (by first | trivial | rfl)
            have a2 := i2.out.1 (by first | trivial | rfl)
            have a3 := i3.out.1 (by first | trivial | rfl)
            by_cases c6 : mx = 0
            · have d6 : (mx == 0) = true := by simp [c6]
              obtain rfl : R = true := hT.out (by omega)
              clear hF hT c6
              go_wp2
              go_ret
              exact ⟨rfl, (by repeat (first | with_reducible exact Ext.refl _ | with_reducible exact hE0 | with_reducible exact hE | with_reducible refine Ext.alloc ?_ _ | with_reducible refine Ext.drewN ?_ _ | with_reducible refine Ext.drew ?_ | ((with_reducible refine Ext.setCell ?_ ?side _); (case side => first | exact Nat.le_refl _ | (simp; done) | (simp; omega)))))⟩
            · have d6 : (mx == 0) = false := by simp [c6]
              by_cases c7 : mn ≤ mx
              · have d7 : decide (mn ≤ mx) = true := by simp [c7]
                obtain rfl : R = true := hT.out (by omega)
                clear hF hT
                go_wp2
                go_ret
                exact ⟨rfl, (by repeat (first | with_reducible exact Ext.refl _ | with_reducible exact hE0 | with_reducible exact hE | with_reducible refine Ext.alloc ?_ _ | with_reducible refine Ext.drewN ?_ _ | with_reducible refine Ext.drew ?_ | ((with_reducible refine Ext.setCell ?_ ?side _); (case side => first | exact Nat.le_refl _ | (simp; done) | (simp; omega)))))⟩
              · have d7 : decide (mn ≤ mx) = false := by simp; omega
                obtain rfl : R = false := hF.out (by omega)
                clear hF hT
                go_wp2
                go_ret
                exact ⟨rfl, (by repeat (first | with_reducible exact Ext.refl _ | with_reducible exact hE0 | with_reducible exact hE | with_reducible refine Ext.alloc ?_ _ | with_reducible refine Ext.drewN ?_ _ | with_reducible refine Ext.drew ?_ | ((with_reducible refine Ext.setCell ?_ ?side _); (case side => first | exact Nat.le_refl _ | (simp; done) | (simp; omega)))))⟩
    · have d1 : decide (bps ≤ 10000) = false := by simp; omega
      obtain rfl : R = false := hF.out (by omega)
      clear hF hT i1 i2 i3
      go_enter Tryz.func94, Tryz.ntmps94
      go_wp2
      go_ret
      exact ⟨rfl, (by repeat (first | with_reducible exact Ext.refl _ | with_reducible exact hE0 | with_reducible exact hE | with_reducible refine Ext.alloc ?_ _ | with_reducible refine Ext.drewN ?_ _ | with_reducible refine Ext.drew ?_ | ((with_reducible refine Ext.setCell ?_ ?side _); (case side => first | exact Nat.le_refl _ | (simp; done) | (simp; omega)))))⟩
  · have d0 : decide (0 ≤ bps) = false := by simp; omega
    obtain rfl : R = false := hF.out (by omega)
    clear hF hT i1 i2 i3
    go_enter Tryz.func94, Tryz.ntmps94
    go_wp2
    go_ret
    exact ⟨rfl, (by repeat (first | with_reducible exact Ext.refl _ | with_reducible exact hE0 | with_reducible exact hE | with_reducible refine Ext.alloc ?_ _ | with_reducible refine Ext.drewN ?_ _ | with_reducible refine Ext.drew ?_ | ((with_reducible refine Ext.setCell ?_ ?side _); (case side => first | exact Nat.le_refl _ | (simp; done) | (simp; omega)))))⟩
set_option maxRecDepth 8000 in
set_option maxHeartbeats 4000000 in
theorem rfee_any (r : RuleD) (q : Option Addr) (len cp : Nat) (n : Int) (w : World) : Calls Tryz.prog 50 #[ruleAgg r (.slice q len cp), .int .i64 n] w (FeePost (feeV r n) w) := by
  obtain ⟨R, hR⟩ : ∃ R, R = feeV r n := ⟨_, rfl⟩
  rw [← hR]
  unfold FeePost
  have hF := feeV_f (r := r) (n := n)
  rw [← hR] at hF
  replace hF := Lib.hid hF
  have ka := Lib.hid (fun w => amount_any n w)
  have ia := amt_iff n
  cases ha : amtB n with
  | false =>
    rw [ha] at ka ia
    obtain rfl := hF.out (by
      by_cases h0 : n < 0
      · exact Or.inl h0
      · refine Or.inr (Or.inl ?_)
        by_cases h1 : 999999999999 < n
        · exact h1
        · have := ia.2 (by omega); cases this)
    clear hF hR ia ha
    unfold ruleAgg
    go_enter Tryz.func50, Tryz.ntmps50
    go_wp2_with fail
    refine (ka.out _).mono ?_
    rintro e w1 ⟨rfl, hE1⟩
    have hE : Ext w w1 := Ext.trans (by repeat (first | with_reducible exact Ext.refl _ | with_reducible exact hE0 | with_reducible exact hE | with_reducible refine Ext.alloc ?_ _ | with_reducible refine Ext.drewN ?_ _ | with_reducible refine Ext.drew ?_ | ((with_reducible refine Ext.setCell ?_ ?side _); (case side => first | exact Nat.le_refl _ | (simp; done) | (simp; omega))))) hE1
    clear hE1 ka
    go_wp2
    exact bodyPost_ret (v := .tuple #[.int .i64 0, .int .i64 4]) (by simp [results, Tryz.results50, go_sem]) rfl ⟨rfl, (by repeat (first | with_reducible exact Ext.refl _ | with_reducible exact hE0 | with_reducible exact hE | with_reducible refine Ext.alloc ?_ _ | with_reducible refine Ext.drewN ?_ _ | with_reducible refine Ext.drew ?_ | ((with_reducible refine Ext.setCell ?_ ?side _); (case side => first | exact Nat.le_refl _ | (simp; done) | (simp; omega)))))⟩
  | true =>
    rw [ha] at ka
    obtain ⟨n0, n1⟩ := ia.1 ha
    clear ia ha
    have kp := Lib.hid (fun w => rpossible_any r q len cp w)
    cases hp : possB r with
    | false =>
      rw [hp] at kp
      obtain rfl := hF.out (by simp [hp])
      clear hF hR hp n0 n1
      unfold ruleAgg at kp ⊢
      go_enter Tryz.func50, Tryz.ntmps50
      go_wp2_with fail
      refine (ka.out _).mono ?_
      rintro e w1 ⟨rfl, hE1⟩
      have hb := Blk.ext (Blk.new w #[.string r.name, .int .i64 r.when.op, .string r.when.name, .string r.when.text, .int .i64 r.when.n, .slice q len cp, .int .i64 r.bps, .int .i64 r.fixed, .int .i64 r.mn, .int .i64 r.mx] 42) hE1
      have hE : Ext w w1 := Ext.trans (by repeat (first | with_reducible exact Ext.refl _ | with_reducible exact hE0 | with_reducible exact hE | with_reducible refine Ext.alloc ?_ _ | with_reducible refine Ext.drewN ?_ _ | with_reducible refine Ext.drew ?_ | ((with_reducible refine Ext.setCell ?_ ?side _); (case side => first | exact Nat.le_refl _ | (simp; done) | (simp; omega))))) hE1
      clear hE1 ka
      have x0 := hb.cell 0
      have x1 := hb.cell 1
      have x2 := hb.cell 2
      have x3 := hb.cell 3
      have x4 := hb.cell 4
      have x5 := hb.cell 5
      have x6 := hb.cell 6
      have x7 := hb.cell 7
      have x8 := hb.cell 8
      have x9 := hb.cell 9
      simp at x0 x1 x2 x3 x4 x5 x6 x7 x8 x9
      go_wp2_with fail
      refine (kp.out _).mono ?_
      rintro e w2 ⟨rfl, hE2⟩
      replace hE := hE.trans hE2
      clear hE2 kp hb x0 x1 x2 x3 x4 x5 x6 x7 x8 x9
      go_wp2
      exact bodyPost_ret (v := .tuple #[.int .i64 0, .int .i64 4]) (by simp [results, Tryz.results50, go_sem]) rfl ⟨rfl, (by repeat (first | with_reducible exact Ext.refl _ | with_reducible exact hE0 | with_reducible exact hE | with_reducible refine Ext.alloc ?_ _ | with_reducible refine Ext.drewN ?_ _ | with_reducible refine Ext.drew ?_ | ((with_reducible refine Ext.setCell ?_ ?side _); (case side => first | exact Nat.le_refl _ | (simp; done) | (simp; omega)))))⟩
    | true =>
      rw [hp] at kp
      rw [feeV_t n0 n1 hp] at hR
      obtain ⟨p1, p2, p3, p4, p5, p6, p7⟩ := (poss_iff r).1 hp
      have hm1 : 0 ≤ n * r.bps := Int.mul_nonneg n0 p1
      have hm2 : n * r.bps ≤ 999999999999 * 10000 := Int.mul_le_mul n1 p2 p1 (by omega)
      have e1 : wrap64 (n * r.bps) = n * r.bps := wrap64_id _ (by omega) (by omega)
      have e2 : wrap64 (n * r.bps + 5000) = n * r.bps + 5000 := wrap64_id _ (by omega) (by omega)
      have e3 : (n * r.bps + 5000).tdiv 10000 = (n * r.bps + 5000) / 10000 := quo_nn (by omega)
      have e4 : wrap64 ((n * r.bps + 5000) / 10000) = (n * r.bps + 5000) / 10000 := wrap64_id _ (by omega) (by omega)
      have e5 : wrap64 ((n * r.bps + 5000) / 10000 + r.fixed) = (n * r.bps + 5000) / 10000 + r.fixed := wrap64_id _ (by omega) (by omega)
      unfold feeLow at hR
      generalize hQ : (n * r.bps + 5000) / 10000 = Q at *
      generalize hM : n * r.bps = M at *
      unfold ruleAgg at kp ⊢
      clear hF hp
      go_enter Tryz.func50, Tryz.ntmps50
      go_wp2_with fail
      refine (ka.out _).mono ?_
      rintro e w1 ⟨rfl, hE1⟩
      have hb := Blk.ext (Blk.new w #[.string r.name, .int .i64 r.when.op, .string r.when.name, .string r.when.text, .int .i64 r.when.n, .slice q len cp, .int .i64 r.bps, .int .i64 r.fixed, .int .i64 r.mn, .int .i64 r.mx] 42) hE1
      have hE : Ext w w1 := Ext.trans (by repeat (first | with_reducible exact Ext.refl _ | with_reducible exact hE0 | with_reducible exact hE | with_reducible refine Ext.alloc ?_ _ | with_reducible refine Ext.drewN ?_ _ | with_reducible refine Ext.drew ?_ | ((with_reducible refine Ext.setCell ?_ ?side _); (case side => first | exact Nat.le_refl _ | (simp; done) | (simp; omega))))) hE1
      clear hE1 ka
      have x0 := hb.cell 0
      have x1 := hb.cell 1
      have x2 := hb.cell 2
      have x3 := hb.cell 3
      have x4 := hb.cell 4
      have x5 := hb.cell 5
      have x6 := hb.cell 6
      have x7 := hb.cell 7
      have x8 := hb.cell 8
      have x9 := hb.cell 9
      simp at x0 x1 x2 x3 x4 x5 x6 x7 x8 x9
      go_wp2_with fail
      refine (kp.out _).mono ?_
      rintro e w2 ⟨rfl, hE2⟩
      clear x0 x1 x2 x3 x4 x5 x6 x7 x8 x9
      replace hb := hb.ext hE2
      replace hE := hE.trans hE2
      have x0 := hb.cell 0
      have x1 := hb.cell 1
      have x2 := hb.cell 2
      have x3 := hb.cell 3
      have x4 := hb.cell 4
      have x5 := hb.cell 5
      have x6 := hb.cell 6
      have x7 := hb.cell 7
      have x8 := hb.cell 8
      have x9 := hb.cell 9
      simp at x0 x1 x2 x3 x4 x5 x6 x7 x8 x9
      clear hE2 kp hb
      by_cases hx : r.mx = 0
      · rw [if_pos hx] at hR
        have dx : decide (0 < r.mx) = false := by simp [hx]
        subst hR
        go_wp2
        exact bodyPost_ret (v := .tuple #[.int .i64 (max (Q + r.fixed) r.mn), .int .i64 0]) (by simp [results, Tryz.results50, go_sem]) rfl ⟨rfl, (by repeat (first | with_reducible exact Ext.refl _ | with_reducible exact hE0 | with_reducible exact hE | with_reducible refine Ext.alloc ?_ _ | with_reducible refine Ext.drewN ?_ _ | with_reducible refine Ext.drew ?_ | ((with_reducible refine Ext.setCell ?_ ?side _); (case side => first | exact Nat.le_refl _ | (simp; done) | (simp; omega)))))⟩
      · rw [if_neg hx] at hR
        have dx : decide (0 < r.mx) = true := by simp; omega
        subst hR
        go_wp2
        exact bodyPost_ret (v := .tuple #[.int .i64 (min (max (Q + r.fixed) r.mn) r.mx), .int .i64 0]) (by simp [results, Tryz.results50, go_sem]) rfl ⟨rfl, (by repeat (first | with_reducible exact Ext.refl _ | with_reducible exact hE0 | with_reducible exact hE | with_reducible refine Ext.alloc ?_ _ | with_reducible refine Ext.drewN ?_ _ | with_reducible refine Ext.drew ?_ | ((with_reducible refine Ext.setCell ?_ ?side _); (case side => first | exact Nat.le_refl _ | (simp; done) | (simp; omega)))))⟩
end Go.Proofs.YtmoadonepkccbaaGreatDoor
