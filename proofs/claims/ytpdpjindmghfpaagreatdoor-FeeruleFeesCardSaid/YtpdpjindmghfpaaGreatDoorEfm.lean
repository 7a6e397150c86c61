/- The contract of formed (walk). -/
import Derived.Test.YtpdpjindmghfpaaGreatDoorEhf
import Derived.Test.YtpdpjindmghfpaaGreatDoorEfp
namespace Go.Proofs.YtpdpjindmghfpaaGreatDoor
open Go.RowKit
set_option maxRecDepth 8000 in
set_option maxHeartbeats 2000000 in
theorem formed_any {w : World} {v : Value} {l : List Ex} (h : ExS w v l) : ∀ (x : Ex), x.args = l → ∀ w', Ext w w' → Calls Tryz.prog 85 #[exAgg x v] w' (OneV (.bool x.formed) w') := by
  refine ExS.ind (P := fun x v => ∀ w', Ext w w' → Calls Tryz.prog 85 #[exAgg x v] w' (OneV (.bool x.formed) w')) ?_ h
  clear h
  intro x v hS hK w' hE
  obtain ⟨op, nm, tx, n, args⟩ := x
  obtain ⟨q, cp, rfl⟩ := hS.form
  have hlen := hS.len
  replace hK := Lib.hid hK
  have hfe := Lib.hid (formed_eq op nm tx n args)
  simp only [Ex.args] at hK hlen ⊢
  generalize (Ex.mk op nm tx n args).formed = F at *
  rw [exAgg_mk]
  clear hS
  cases hf : hasFv op nm tx n args.length with
  | false =>
    have hF : F = false := by rw [hfe.out, hf]; rfl
    subst hF
    clear hfe hK
    go_enter Tryz.func85, Tryz.ntmps85
    go_wp2_with fail
    refine (hasFields_any op nm tx n q args.length cp _).mono ?_
    rintro e w1 ⟨rfl, hE1⟩
    rw [hf]
    clear hf
    have hE : Ext w' w1 := Ext.trans (by repeat (first | with_reducible exact Ext.refl _ | with_reducible exact hE0 | with_reducible exact hE | with_reducible refine Ext.alloc ?_ _ | with_reducible refine Ext.drewN ?_ _ | with_reducible refine Ext.drew ?_ | ((with_reducible refine Ext.setCell ?_ ?side _); (case side => first | exact Nat.le_refl _ | (simp; done) | (simp; omega))))) hE1
    clear hE1
    go_wp2
    go_ret
    exact ⟨rfl, hE⟩
  | true =>
    have hF : F = args.all Ex.formed := by rw [hfe.out, hf]; rfl
    replace hF := Lib.hid hF
    clear hfe
    go_enter Tryz.func85, Tryz.ntmps85
    go_wp2_with fail
    have hb0 := (Blk.new w' #[.int .i64 op, .string nm, .string tx, .int .i64 n, .slice q args.length cp] 24)
    refine (hasFields_any op nm tx n q args.length cp _).mono ?_
    rintro e w1 ⟨rfl, hE1⟩
    rw [hf]
    clear hf
    have hb1 := (hb0.ext hE1).cell 4
    have x4 : w1.cell? ⟨w'.heap.size, 4, none⟩ = some (.slice q args.length cp) := hb1.trans rfl
    have hE0 : Ext w' w1 := Ext.trans (by repeat (first | with_reducible exact Ext.refl _ | with_reducible exact hE0 | with_reducible exact hE | with_reducible refine Ext.alloc ?_ _ | with_reducible refine Ext.drewN ?_ _ | with_reducible refine Ext.drew ?_ | ((with_reducible refine Ext.setCell ?_ ?side _); (case side => first | exact Nat.le_refl _ | (simp; done) | (simp; omega))))) hE1
    clear hE1 hb0 hb1
    go_wp2_with fail
    go_loopw [11] (fun i wr => ∃ k : Nat, k ≤ args.length ∧ i = .int .i64 k ∧ (args.take k).all Ex.formed = true ∧ Ext w' wr) (fun i _ => args.length - (intOf i).toNat)
    case atStart => exact ⟨0, Nat.zero_le _, rfl, rfl, hE0⟩
    case round =>
      obtain ⟨k, hk, rfl, hd, hEr⟩ := hrel
      by_cases hlt : k < args.length
      · obtain ⟨b, off, rfl, sv, hkid⟩ := hK.out _ _ rfl (by omega)
        obtain ⟨hc, hsu, hP⟩ := hkid k hlt
        have hform := hsu.form
        obtain ⟨c0, c1, c2, c3, c4⟩ := (hc.ext (hE.trans hEr)).five
        have hsn := Lib.hid (all_snocD Ex.formed args exD k hlt)
        have hbd := Lib.hid (all_badD Ex.formed args exD k hlt)
        replace hP := Lib.hid hP
        replace hd := Lib.hid hd
        clear hc hkid hsu
        generalize args.getD k exD = y at *
        generalize sv k = u at *
        obtain ⟨uq, uc, rfl⟩ := hform
        go_wp2_with fail
        refine (hP.out _ ((hE.trans hEr).alloc _)).mono ?_
        rintro e w2 ⟨rfl, hE1⟩
        have hE2 := (hEr.alloc _).trans hE1
        clear hE1 c0 c1 c2 c3 c4
        cases hy : y.formed with
        | false =>
          go_wp2
          go_ret
          exact ⟨ret_boolE (by rw [hF.out, hbd.out hy]), hE2⟩
        | true =>
          go_wp2
          go_roundw
          case rel => exact ⟨k + 1, by omega, by go_num, by rw [hsn.out, hd.out, hy]; rfl, hE2⟩
          case measure => simp [intOf]; omega
      · have hkk : args.take k = args := List.take_of_length_le (by omega)
        rw [hkk] at hd
        replace hd := Lib.hid hd
        clear hkk
        go_wp2
        go_ret
        exact ⟨ret_boolE (by rw [hF.out, hd.out]), hEr⟩
end Go.Proofs.YtpdpjindmghfpaaGreatDoor
