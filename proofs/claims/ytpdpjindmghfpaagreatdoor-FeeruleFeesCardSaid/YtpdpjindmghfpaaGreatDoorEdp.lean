/- Contract of deeper (a walk). -/
import Derived.Test.YtpdpjindmghfpaaGreatDoorEnm
namespace Go.Proofs.YtpdpjindmghfpaaGreatDoor
open Go.RowKit
theorem levels_pos (x : Ex) : 1 ≤ x.levels := by rw [levels_eq]; omega
set_option maxRecDepth 8000 in
set_option maxHeartbeats 2000000 in
theorem deeper_any {w : World} {v : Value} {l : List Ex} (h : ExS w v l) : ∀ (x : Ex), x.args = l → ∀ w', Ext w w' → ∀ lv : Int, -1000 ≤ lv → lv ≤ 1000 → Calls Tryz.prog 84 #[exAgg x v, .int .i64 lv] w' (OneV (.bool (decide (lv < x.levels))) w') := by
  refine ExS.ind (P := fun x v => ∀ w', Ext w w' → ∀ lv : Int, -1000 ≤ lv → lv ≤ 1000 → Calls Tryz.prog 84 #[exAgg x v, .int .i64 lv] w' (OneV (.bool (decide (lv < x.levels))) w')) ?_ h
  clear h
  intro x v hS hK w' hE lv hl1 hl2
  obtain ⟨op, nm, tx, n, args⟩ := x
  obtain ⟨q, cp, rfl⟩ := hS.form
  have hlen := hS.len
  have hK := Lib.hid hK
  have hpos := levels_pos (.mk op nm tx n args)
  have hleq := levels_eq (.mk op nm tx n args)
  simp only [Ex.args] at hK hlen hleq ⊢
  generalize (Ex.mk op nm tx n args).levels = L at *
  replace hleq := Lib.hid hleq
  rw [exAgg_mk]
  clear hS
  by_cases h1 : lv < 1
  · have d1 : decide (lv < 1) = true := by simp [h1]
    rw [show decide (lv < (L : Int)) = true by simp; omega]
    clear hl1 hl2 hpos h1 hleq hK
    go_enter Tryz.func84, Tryz.ntmps84
    go_wp2
    go_ret
    exact ⟨rfl, (by repeat (first | with_reducible exact Ext.refl _ | with_reducible exact hE0 | with_reducible exact hE | with_reducible refine Ext.alloc ?_ _ | with_reducible refine Ext.drewN ?_ _ | with_reducible refine Ext.drew ?_ | ((with_reducible refine Ext.setCell ?_ ?side _); (case side => first | exact Nat.le_refl _ | (simp; done) | (simp; omega)))))⟩
  · have d1 : decide (lv < 1) = false := by simp; omega
    go_enter Tryz.func84, Tryz.ntmps84
    go_wp2_with fail
    go_loopw [12] (fun i wr => ∃ k : Nat, k ≤ args.length ∧ i = .int .i64 k ∧ (Ex.levels.levelsL (args.take k) : Int) ≤ lv - 1 ∧ Ext w' wr) (fun i _ => args.length - (intOf i).toNat)
    case atStart => exact ⟨0, Nat.zero_le _, rfl, by simp [Ex.levels.levelsL]; omega, (by repeat (first | with_reducible exact Ext.refl _ | with_reducible exact hE0 | with_reducible exact hE | with_reducible refine Ext.alloc ?_ _ | with_reducible refine Ext.drewN ?_ _ | with_reducible refine Ext.drew ?_ | ((with_reducible refine Ext.setCell ?_ ?side _); (case side => first | exact Nat.le_refl _ | (simp; done) | (simp; omega)))))⟩
    case round =>
      obtain ⟨k, hk, rfl, hd, hEr⟩ := hrel
      by_cases hlt : k < args.length
      · obtain ⟨b, off, rfl, sv, hkid⟩ := hK.out _ _ rfl (by omega)
        obtain ⟨hc, hsu, hP⟩ := hkid k hlt
        have hform := hsu.form
        obtain ⟨c0, c1, c2, c3, c4⟩ := (hc.ext (hE.trans hEr)).five
        have hle := Lib.hid (levels_le args k hlt)
        have hsn := Lib.hid (levelsL_snoc args k hlt)
        have hP := Lib.hid hP
        replace hd := Lib.hid hd
        clear hc hkid hsu
        generalize args.getD k exD = y at *
        generalize sv k = u at *
        obtain ⟨uq, uc, rfl⟩ := hform
        have e1 : wrap64 (lv - 1) = lv - 1 := by unfold wrap64; omega
        go_wp2_with fail
        refine (hP.out _ ((hE.trans hEr).alloc _) (lv - 1) (by omega) (by omega)).mono ?_
        rintro e w1 ⟨rfl, hE1⟩
        have hE2 := (hEr.alloc _).trans hE1
        clear hE1 c0 c1 c2 c3 c4 e1
        by_cases hy : lv - 1 < (y.levels : Int)
        · rw [decide_eq_true hy]
          go_wp2
          go_ret
          have h1 := hle.out
          have h2 := hleq.out
          exact ⟨ret_boolE (decide_eq_true (show lv < (L : Int) by omega)).symm, hE2⟩
        · rw [decide_eq_false hy]
          go_wp2
          go_roundw
          case rel => exact ⟨k + 1, by omega, by go_num, by rw [hsn.out]; have := hd.out; omega, hE2⟩
          case measure => simp [intOf]; omega
      · have hkk : args.take k = args := List.take_of_length_le (by omega)
        rw [hkk] at hd
        replace hd := Lib.hid hd
        clear hkk
        go_wp2
        go_ret
        have h1 := hd.out
        have h2 := hleq.out
        exact ⟨ret_boolE (decide_eq_false (show ¬ lv < (L : Int) by omega)).symm, hEr⟩
end Go.Proofs.YtpdpjindmghfpaaGreatDoor
