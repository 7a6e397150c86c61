/- The walk of the law FeeruleBounds. -/
import Derived.Test.YtpdpjindmghfpaaGreatDoorFz
import Derived.Test.YtpdpjindmghfpaaGreatDoorEopn
namespace Go.Proofs.YtpdpjindmghfpaaGreatDoor
open Go.RowKit
set_option maxRecDepth 8000 in
set_option maxHeartbeats 4000000 in
theorem law_bounds (r : RuleD) (u : Value) (a b : Int) (w : World) (g : Gw w) (hX : ExS w u r.when.args) (_ : StrOk [r.when]) (_ : (Lit.int .i64 a).wf = true) (_ : (Lit.int .i64 b).wf = true) : Calls Tryz.prog 6 #[ruleAgg r u, .int .i64 a, .int .i64 b] w (OneV (.bool true) w) := by
  obtain ⟨q, cp, rfl⟩ := hX.form
  clear hX
  have kA := Lib.hid (fun w1 => fee_any r q r.when.args.length cp a w1)
  have kB := Lib.hid (fun w1 => fee_any r q r.when.args.length cp b w1)
  unfold FeePost at kA kB
  have bA := Lib.hid (fee_bounds (r := r) (n := a))
  have eA := Lib.hid (fee_err (r := r) (n := a))
  have eB := Lib.hid (fee_err (r := r) (n := b))
  have mAB := Lib.hid (fee_mono (r := r) (a := a) (b := b))
  have mBA := Lib.hid (fee_mono (r := r) (a := b) (b := a))
  generalize feeOk r a = oka at *
  generalize feeV r a = VA at *
  generalize feeV r b = VB at *
  obtain ⟨xa, ca⟩ := VA
  obtain ⟨xb, cb⟩ := VB
  simp only at kA kB
  replace g := Lib.hid g
  unfold ruleAgg at kA kB ⊢
  go_enter Tryz.func6, Tryz.ntmps6
  go_wp2_with fail
  refine (kA.out _).mono ?_
  rintro e w1 ⟨rfl, hE1⟩
  have hb := Lib.hid ((Blk.new w #[.string r.name, .int .i64 r.when.op, .string r.when.name, .string r.when.text, .int .i64 r.when.n, .slice q r.when.args.length cp, .int .i64 r.bps, .int .i64 r.fixed, .int .i64 r.mn, .int .i64 r.mx] 26).ext hE1)
  have hE : Ext w w1 := Ext.trans (by repeat (first | with_reducible exact Ext.refl _ | with_reducible exact hE0 | with_reducible exact hE | with_reducible refine Ext.alloc ?_ _ | with_reducible refine Ext.drewN ?_ _ | with_reducible refine Ext.drew ?_ | ((with_reducible refine Ext.setCell ?_ ?side _); (case side => first | exact Nat.le_refl _ | (simp; done) | (simp; omega))))) hE1
  clear hE1 kA
  have x0 := hb.out.cell 0
  have x1 := hb.out.cell 1
  have x2 := hb.out.cell 2
  have x3 := hb.out.cell 3
  have x4 := hb.out.cell 4
  have x5 := hb.out.cell 5
  have x6 := hb.out.cell 6
  have x7 := hb.out.cell 7
  have x8 := hb.out.cell 8
  have x9 := hb.out.cell 9
  simp at x0 x1 x2 x3 x4 x5 x6 x7 x8 x9
  go_wp2_with fail
  refine (kB.out _).mono ?_
  rintro e w2 ⟨rfl, hE2⟩
  clear x0 x1 x2 x3 x4 x5 x6 x7 x8 x9 kB
  replace hb := Lib.hid (hb.out.ext hE2)
  replace hE := hE.trans hE2
  clear hE2
  have x7 := hb.out.cell 7
  have x8 := hb.out.cell 8
  have x9 := hb.out.cell 9
  simp at x7 x8 x9
  have kW := Lib.hid (awake_any w2 (g.out.ext hE))
  clear hb
  by_cases ha : ca = 0
  · subst ha
    by_cases hc : cb = 0
    · subst hc
      obtain ⟨b1, b2, b3, -⟩ := bA.out rfl
      have m1 := mAB.out rfl rfl
      have m2 := mBA.out rfl rfl
      try simp only at b1 b2 b3 m1 m2
      clear eA eB bA mAB mBA
      have d1 : decide (xa < r.mn) = false := by simp; omega
      by_cases hx : 0 < r.mx
      · have d2 : decide (0 < r.mx) = true := by simp [hx]
        have d3 : decide (r.mx < xa) = false := by have := b2 hx; simp; omega
        have d4 : (r.mx == 0) = false := by simp; omega
        by_cases hab : b < a
        · have d5 : decide (b < a) = true := by simp [hab]
          have d6 : decide (a < b) = false := by simp; omega
          have d7 : decide (xb ≤ xa) = true := by have := m2 (by omega); simp [this]
          clear b1 b2 b3 m1 m2
          go_wp2_with fail
          refine kW.out.mono ?_
          rintro e w3 ⟨rfl, hE3⟩
          replace hE := hE.trans hE3
          go_wp2
          go_ret
          exact ⟨rfl, hE⟩
        · have d5 : decide (b < a) = false := by simp; omega
          have d6 : decide (xa ≤ xb) = true := by have := m1 (by omega); simp [this]
          by_cases hba : a < b
          · have d7 : decide (a < b) = true := by simp [hba]
            clear b1 b2 b3 m1 m2
            go_wp2_with fail
            refine kW.out.mono ?_
            rintro e w3 ⟨rfl, hE3⟩
            replace hE := hE.trans hE3
            go_wp2
            go_ret
            exact ⟨rfl, hE⟩
          · have d7 : decide (a < b) = false := by simp; omega
            have d8 : decide (xb ≤ xa) = true := by have := m2 (by omega); simp [this]
            clear b1 b2 b3 m1 m2
            go_wp2_with fail
            refine kW.out.mono ?_
            rintro e w3 ⟨rfl, hE3⟩
            replace hE := hE.trans hE3
            go_wp2
            go_ret
            exact ⟨rfl, hE⟩
      · have d2 : decide (0 < r.mx) = false := by simp; omega
        have d4 : r.mx = 0 → decide (xa < r.fixed) = false := fun h => by have := b3 h; simp; omega
        by_cases hz : r.mx = 0
        · have d9 : (r.mx == 0) = true := by simp [hz]
          have d10 := d4 hz
          clear d4 hz
          by_cases hab : b < a
          · have d5 : decide (b < a) = true := by simp [hab]
            have d6 : decide (a < b) = false := by simp; omega
            have d7 : decide (xb ≤ xa) = true := by have := m2 (by omega); simp [this]
            clear b1 b2 b3 m1 m2
            go_wp2_with fail
            refine kW.out.mono ?_
            rintro e w3 ⟨rfl, hE3⟩
            replace hE := hE.trans hE3
            go_wp2
            go_ret
            exact ⟨rfl, hE⟩
          · have d5 : decide (b < a) = false := by simp; omega
            have d6 : decide (xa ≤ xb) = true := by have := m1 (by omega); simp [this]
            by_cases hba : a < b
            · have d7 : decide (a < b) = true := by simp [hba]
              clear b1 b2 b3 m1 m2
              go_wp2_with fail
              refine kW.out.mono ?_
              rintro e w3 ⟨rfl, hE3⟩
              replace hE := hE.trans hE3
              go_wp2
              go_ret
              exact ⟨rfl, hE⟩
            · have d7 : decide (a < b) = false := by simp; omega
              have d8 : decide (xb ≤ xa) = true := by have := m2 (by omega); simp [this]
              clear b1 b2 b3 m1 m2
              go_wp2_with fail
              refine kW.out.mono ?_
              rintro e w3 ⟨rfl, hE3⟩
              replace hE := hE.trans hE3
              go_wp2
              go_ret
              exact ⟨rfl, hE⟩
        · have d9 : (r.mx == 0) = false := by simp [hz]
          clear d4
          by_cases hab : b < a
          · have d5 : decide (b < a) = true := by simp [hab]
            have d6 : decide (a < b) = false := by simp; omega
            have d7 : decide (xb ≤ xa) = true := by have := m2 (by omega); simp [this]
            clear b1 b2 b3 m1 m2
            go_wp2_with fail
            refine kW.out.mono ?_
            rintro e w3 ⟨rfl, hE3⟩
            replace hE := hE.trans hE3
            go_wp2
            go_ret
            exact ⟨rfl, hE⟩
          · have d5 : decide (b < a) = false := by simp; omega
            have d6 : decide (xa ≤ xb) = true := by have := m1 (by omega); simp [this]
            by_cases hba : a < b
            · have d7 : decide (a < b) = true := by simp [hba]
              clear b1 b2 b3 m1 m2
              go_wp2_with fail
              refine kW.out.mono ?_
              rintro e w3 ⟨rfl, hE3⟩
              replace hE := hE.trans hE3
              go_wp2
              go_ret
              exact ⟨rfl, hE⟩
            · have d7 : decide (a < b) = false := by simp; omega
              have d8 : decide (xb ≤ xa) = true := by have := m2 (by omega); simp [this]
              clear b1 b2 b3 m1 m2
              go_wp2_with fail
              refine kW.out.mono ?_
              rintro e w3 ⟨rfl, hE3⟩
              replace hE := hE.trans hE3
              go_wp2
              go_ret
              exact ⟨rfl, hE⟩
    · have d2 : (cb != 0) = true := by simpa using hc
      have d3 : (cb == 0) = false := by simpa using hc
      have hz : xb = 0 := eB.out hc
      subst hz
      clear eA eB bA mAB mBA
      go_wp2_with fail
      refine kW.out.mono ?_
      rintro e w3 ⟨rfl, hE3⟩
      replace hE := hE.trans hE3
      go_wp2
      go_ret
      exact ⟨rfl, hE⟩
  · have d1 : (ca != 0) = true := by simpa using ha
    have d2 : (ca == 0) = false := by simpa using ha
    have hz : xa = 0 := eA.out ha
    subst hz
    by_cases hc : cb = 0
    · subst hc
      clear eA eB bA mAB mBA
      go_wp2_with fail
      refine kW.out.mono ?_
      rintro e w3 ⟨rfl, hE3⟩
      replace hE := hE.trans hE3
      go_wp2
      go_ret
      exact ⟨rfl, hE⟩
    · have d3 : (cb == 0) = false := by simpa using hc
      have hz : xb = 0 := eB.out hc
      subst hz
      clear eA eB bA mAB mBA
      go_wp2_with fail
      refine kW.out.mono ?_
      rintro e w3 ⟨rfl, hE3⟩
      replace hE := hE.trans hE3
      go_wp2
      go_ret
      exact ⟨rfl, hE⟩
end Go.Proofs.YtpdpjindmghfpaaGreatDoor
