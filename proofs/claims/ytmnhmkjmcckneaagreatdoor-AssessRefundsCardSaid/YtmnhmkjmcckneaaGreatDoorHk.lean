/- The contract of law38's names (walk). -/
import Derived.Test.YtmnhmkjmcckneaaGreatDoorHq
namespace Go.Proofs.YtmnhmkjmcckneaaGreatDoor
open Go.RowKit
def NoKinL (l : List Ex) : Prop := ∀ p ∈ l, p.name ≠ kinN
theorem NoKinL.append {a b : List Ex} (h : NoKinL a) (k : NoKinL b) : NoKinL (a ++ b) := fun p hp => by
  rcases List.mem_append.1 hp with h1 | h1
  · exact h p h1
  · exact k p h1
def NamP (x : Ex) (w : World) (e : Ending) (w' : World) : Prop := ∃ b : Bool, e = .returned (.bool b) ∧ (b = false → NoKin x) ∧ Ext w w'
theorem nam_yes (x : Ex) {w w' : World} (h : Ext w w') : NamP x w (.returned (.bool true)) w' := ⟨true, rfl, fun h => absurd h (by simp), h⟩
set_option maxRecDepth 8000 in
set_option maxHeartbeats 4000000 in
theorem names38_any {w : World} {v : Value} {l : List Ex} (h : ExS w v l) : ∀ (x : Ex), x.args = l → ∀ w', Ext w w' → Calls Tryz.prog 19 #[exAgg x v] w' (NamP x w') := by
  refine ExS.ind (P := fun x v => ∀ w', Ext w w' → Calls Tryz.prog 19 #[exAgg x v] w' (NamP x w')) ?_ h
  clear h
  intro x v hS hK w' hE
  obtain ⟨op, nm, tx, n, args⟩ := x
  obtain ⟨q, cp, rfl⟩ := hS.form
  have hlen := hS.len
  replace hK := Lib.hid hK
  simp only [Ex.args] at hK hlen ⊢
  have hyes := Lib.hid (fun (w2 : World) (h : Ext w' w2) => nam_yes (Ex.mk op nm tx n args) h)
  have hno := Lib.hid (fun (h1 : nm ≠ kinN) (h2 : NoKinL (Ex.parts.partsL args)) (w2 : World) (h : Ext w' w2) => show NamP (Ex.mk op nm tx n args) w' (.returned (.bool false)) w2 from ⟨false, rfl, fun _ => by
    unfold NoKin
    rw [parts_mk]
    intro p hp
    rcases List.mem_cons.1 hp with rfl | hp
    · exact h1
    · exact h2 p hp, h⟩)
  rw [exAgg_mk]
  generalize Ex.mk op nm tx n args = X at *
  clear hS
  have hkl : kinN.toList = [107, 105, 110, 100] := by rw [ByteArray.toList_eq]; rfl
  by_cases h1 : nm = kinN
  · have d := strEq h1
    rw [hkl] at d
    clear h1 hkl
    go_enter Tryz.func19, Tryz.ntmps19
    go_wp2
    go_ret
    exact hyes.out _ (by repeat (first | with_reducible exact Ext.refl _ | with_reducible exact hE0 | with_reducible exact hE | with_reducible refine Ext.alloc ?_ _ | with_reducible refine Ext.drewN ?_ _ | with_reducible refine Ext.drew ?_ | ((with_reducible refine Ext.setCell ?_ ?side _); (case side => first | exact Nat.le_refl _ | (simp; done) | (simp; omega)))))
  · have d := strNe h1
    rw [hkl] at d
    replace hno := Lib.hid (hno.out h1)
    clear h1 hkl
    go_enter Tryz.func19, Tryz.ntmps19
    go_wp2_with fail
    clear d
    have hb0 := Blk.new w' #[.int .i64 op, .string nm, .string tx, .int .i64 n, .slice q args.length cp] 54
    have hE0 : Ext w' (w'.alloc (.cells #[.int .i64 op, .string nm, .string tx, .int .i64 n, .slice q args.length cp] 54)) := (by repeat (first | with_reducible exact Ext.refl _ | with_reducible exact hE0 | with_reducible exact hE | with_reducible refine Ext.alloc ?_ _ | with_reducible refine Ext.drewN ?_ _ | with_reducible refine Ext.drew ?_ | ((with_reducible refine Ext.setCell ?_ ?side _); (case side => first | exact Nat.le_refl _ | (simp; done) | (simp; omega)))))
    generalize w'.alloc (.cells #[.int .i64 op, .string nm, .string tx, .int .i64 n, .slice q args.length cp] 54) = w0 at *
    replace hb0 := Lib.hid hb0
    go_loopw [3] (fun i wr => ∃ k : Nat, k ≤ args.length ∧ i = .int .i64 k ∧ NoKinL (Ex.parts.partsL (args.take k)) ∧ Ext w0 wr) (fun i _ => args.length - (intOf i).toNat)
    case atStart => exact ⟨0, Nat.zero_le _, rfl, fun p hp => (by cases hp), Ext.refl _⟩
    case round =>
      obtain ⟨k, hk, rfl, hm3, hEr⟩ := hrel
      replace hm3 := Lib.hid hm3
      have x4 : wr.cell? ⟨w'.heap.size, 4, none⟩ = some (.slice q args.length cp) := ((hb0.out.ext hEr).cell 4).trans rfl
      by_cases hlt : k < args.length
      · obtain ⟨b, off, rfl, sv, hkid⟩ := hK.out _ _ rfl (by omega)
        obtain ⟨hc, hsu, hP⟩ := hkid k hlt
        have hform := hsu.form
        have hEw := hE.trans (hE0.trans hEr)
        obtain ⟨c0, c1, c2, c3, c4⟩ := (hc.ext hEw).five
        have hsn := Lib.hid (partsL_snoc args k hlt)
        replace hP := Lib.hid hP
        clear hc hkid hsu
        generalize args.getD k exD = y at *
        generalize sv k = u at *
        obtain ⟨uq, uc, rfl⟩ := hform
        go_wp2_with fail
        refine (hP.out _ hEw).mono ?_
        rintro e w2 ⟨b2, rfl, g3, hE2⟩
        replace hEr := hEr.trans hE2
        replace g3 := Lib.hid g3
        clear c0 c1 c2 c3 c4 hE2 x4 hEw
        cases b2 with
        | true =>
          go_wp2
          go_ret
          exact hyes.out _ (hE0.trans hEr)
        | false =>
          have g4 := Lib.hid (g3.out rfl)
          clear g3
          go_wp2
          go_roundw
          case rel =>
            refine ⟨k + 1, by omega, by go_num, ?_, hEr⟩
            rw [hsn.out]
            exact hm3.out.append g4.out
          case measure => simp [intOf]; omega
      · obtain rfl : k = args.length := by omega
        have h5 := hm3.out
        rw [List.take_length] at h5
        have hR := Lib.hid (fun w2 h => hno.out h5 w2 h)
        clear h5 hm3 hno
        go_wp2
        go_ret
        exact hR.out _ (hE0.trans hEr)
end Go.Proofs.YtmnhmkjmcckneaaGreatDoor
