/- Contracts of the law's size and small (walks). -/
import Derived.Test.YtnppbeajemhjeaaGreatEi
import Derived.Test.YtnppbeajemhjeaaGreatEd
import Derived.IntWalk
namespace Go.Proofs.YtnppbeajemhjeaaGreat
open Go.RowKit
def SzPost (x : Ex) (w : World) (e : Ending) (w' : World) : Prop := ∃ m : Int, e = .returned (.int .i64 m) ∧ 1 ≤ m ∧ m ≤ 1000 ∧ (m < 1000 → m = x.parts.length ∧ m ≤ 300) ∧ Ext w w'
theorem sz1000 (x : Ex) {w w' : World} (h : Ext w w') : SzPost x w (.returned (.int .i64 1000)) w' := ⟨1000, rfl, by omega, by omega, fun h => absurd h (by omega), h⟩
set_option maxRecDepth 8000 in
set_option maxHeartbeats 4000000 in
theorem size_any {w : World} {v : Value} {l : List Ex} (h : ExS w v l) : ∀ (x : Ex), x.args = l → ∀ w', Ext w w' → ∀ d : Int, 0 ≤ d → d ≤ 31 → Calls Tryz.prog 15 #[exAgg x v, .int .i64 d] w' (SzPost x w') := by
  refine ExS.ind (P := fun x v => ∀ w', Ext w w' → ∀ d : Int, 0 ≤ d → d ≤ 31 → Calls Tryz.prog 15 #[exAgg x v, .int .i64 d] w' (SzPost x w')) ?_ h
  clear h
  intro x v hS hK w' hE d hd0 hd1
  obtain ⟨op, nm, tx, n, args⟩ := x
  obtain ⟨q, cp, rfl⟩ := hS.form
  have hlen := hS.len
  replace hK := Lib.hid hK
  simp only [Ex.args] at hK hlen ⊢
  have hpm := parts_mk op nm tx n args
  have hpl : (Ex.mk op nm tx n args).parts.length = (Ex.parts.partsL args).length + 1 := by rw [hpm]; rfl
  replace hpl := Lib.hid hpl
  clear hpm
  rw [exAgg_mk]
  have hz := Lib.hid (fun (w2 : World) => sz1000 (Ex.mk op nm tx n args) (w := w') (w' := w2))
  have hfin := Lib.hid (fun (m : Int) (w2 : World) (h1 : 1 ≤ m) (h2 : m ≤ 300) (h3 : m = (Ex.mk op nm tx n args).parts.length) (h4 : Ext w' w2) => show SzPost (Ex.mk op nm tx n args) w' (.returned (.int .i64 m)) w2 from ⟨m, rfl, h1, by omega, fun _ => ⟨h3, h2⟩, h4⟩)
  generalize (Ex.mk op nm tx n args).parts.length = PL at *
  generalize Ex.mk op nm tx n args = X at *
  clear hS
  by_cases h1 : 30 < d
  · have d1 : decide (30 < d) = true := by simp [h1]
    go_enter Tryz.func15, Tryz.ntmps15
    go_wp2
    go_ret
    exact hz.out _ (by repeat (first | with_reducible exact Ext.refl _ | with_reducible exact hE0 | with_reducible exact hE | with_reducible refine Ext.alloc ?_ _ | with_reducible refine Ext.drewN ?_ _ | with_reducible refine Ext.drew ?_ | ((with_reducible refine Ext.setCell ?_ ?side _); (case side => first | exact Nat.le_refl _ | (simp; done) | (simp; omega)))))
  · have d1 : decide (30 < d) = false := by simp; omega
    by_cases h2 : 300 < args.length
    · have d2 : decide ((300 : Int) < (args.length : Int)) = true := by simp; omega
      have d3 : decide (300 < args.length) = true := by simp [h2]
      go_enter Tryz.func15, Tryz.ntmps15
      go_wp2
      go_ret
      exact hz.out _ (by repeat (first | with_reducible exact Ext.refl _ | with_reducible exact hE0 | with_reducible exact hE | with_reducible refine Ext.alloc ?_ _ | with_reducible refine Ext.drewN ?_ _ | with_reducible refine Ext.drew ?_ | ((with_reducible refine Ext.setCell ?_ ?side _); (case side => first | exact Nat.le_refl _ | (simp; done) | (simp; omega)))))
    · have d2 : decide ((300 : Int) < (args.length : Int)) = false := by simp; omega
      have d3 : decide (300 < args.length) = false := by simp; omega
      by_cases h4 : 300 < wrap64 ((tx.size : Int) + (nm.size : Int))
      · have d4 : decide (300 < wrap64 ((tx.size : Int) + (nm.size : Int))) = true := by simp [h4]
        go_enter Tryz.func15, Tryz.ntmps15
        go_wp2
        go_ret
        exact hz.out _ (by repeat (first | with_reducible exact Ext.refl _ | with_reducible exact hE0 | with_reducible exact hE | with_reducible refine Ext.alloc ?_ _ | with_reducible refine Ext.drewN ?_ _ | with_reducible refine Ext.drew ?_ | ((with_reducible refine Ext.setCell ?_ ?side _); (case side => first | exact Nat.le_refl _ | (simp; done) | (simp; omega)))))
      · have d4 : decide (300 < wrap64 ((tx.size : Int) + (nm.size : Int))) = false := decide_eq_false h4
        clear h4
        go_enter Tryz.func15, Tryz.ntmps15
        go_wp2_with fail
        clear d4 d1 d2 d3
        have hb0 := Blk.new w' #[.int .i64 op, .string nm, .string tx, .int .i64 n, .slice q args.length cp] 24
        have hE0 : Ext w' (w'.alloc (.cells #[.int .i64 op, .string nm, .string tx, .int .i64 n, .slice q args.length cp] 24)) := (by repeat (first | with_reducible exact Ext.refl _ | with_reducible exact hE0 | with_reducible exact hE | with_reducible refine Ext.alloc ?_ _ | with_reducible refine Ext.drewN ?_ _ | with_reducible refine Ext.drew ?_ | ((with_reducible refine Ext.setCell ?_ ?side _); (case side => first | exact Nat.le_refl _ | (simp; done) | (simp; omega)))))
        generalize w'.alloc (.cells #[.int .i64 op, .string nm, .string tx, .int .i64 n, .slice q args.length cp] 24) = w0 at *
        replace hb0 := Lib.hid hb0
        go_loopw [5, 6] (fun c i wr => ∃ k : Nat, ∃ m : Int, k ≤ args.length ∧ i = .int .i64 k ∧ c = .int .i64 m ∧ 1 ≤ m ∧ m ≤ 2000 ∧ (m < 1000 → m = (Ex.parts.partsL (args.take k)).length + 1) ∧ Ext w0 wr) (fun _ i _ => args.length - (intOf i).toNat)
        case atStart => exact ⟨0, 1, Nat.zero_le _, rfl, rfl, by omega, by omega, fun _ => rfl, Ext.refl _⟩
        case round =>
          obtain ⟨k, m, hk, rfl, rfl, hm1, hm2, hm3, hEr⟩ := hrel
          replace hm3 := Lib.hid hm3
          have x4 : wr.cell? ⟨w'.heap.size, 4, none⟩ = some (.slice q args.length cp) := ((hb0.out.ext hEr).cell 4).trans rfl
          by_cases hlt : k < args.length ∧ m < 1000
          · obtain ⟨hlt, hmm⟩ := hlt
            obtain ⟨b, off, rfl, sv, hkid⟩ := hK.out _ _ rfl (by omega)
            obtain ⟨hc, hsu, hP⟩ := hkid k hlt
            have hform := hsu.form
            have hEw := hE.trans (hE0.trans hEr)
            obtain ⟨c0, c1, c2, c3, c4⟩ := (hc.ext hEw).five
            have hsn := Lib.hid (show (Ex.parts.partsL (args.take (k + 1))).length = (Ex.parts.partsL (args.take k)).length + (args.getD k exD).parts.length by rw [partsL_snoc args k hlt, List.length_append])
            replace hP := Lib.hid hP
            clear hc hkid hsu
            generalize args.getD k exD = y at *
            generalize sv k = u at *
            obtain ⟨uq, uc, rfl⟩ := hform
            have e1 : wrap64 (d + 1) = d + 1 := by unfold wrap64; omega
            go_wp2_with fail
            refine (hP.out _ hEw (d + 1) (by omega) (by omega)).mono ?_
            rintro e w2 ⟨m2, rfl, g1, g2, g3, hE2⟩
            replace hEr := hEr.trans hE2
            replace g3 := Lib.hid g3
            clear c0 c1 c2 c3 c4 hE2 x4 hEw e1
            go_wp2
            go_roundw
            case rel => exact ⟨k + 1, m + m2, by omega, by go_num, by go_num, by omega, by omega, fun h => by rw [hsn.out]; have h5 := hm3.out hmm; have h6 := (g3.out (by omega)).1; omega, hEr⟩
            case measure => simp [intOf]; omega
          · have hx : m ≤ 300 → k = args.length := fun h => by omega
            have hf : m ≤ 300 → m = PL := fun h => by
              have h5 := hm3.out (by omega)
              have h6 := hx h
              rw [h6, List.take_length] at h5
              rw [h5, hpl.out]
              simp
            replace hf := Lib.hid hf
            have hE9 := hE0.trans hEr
            by_cases hlk : k < args.length
            · have h7 : ¬ m < 1000 := fun h => hlt ⟨hlk, h⟩
              have d5 : decide (m < 1000) = false := by simp; omega
              clear hlt hx hf
              go_wp2
              go_ret
              exact hz.out _ hE9
            · clear hlt hx
              by_cases h3 : 300 < m
              · have d5 : decide (300 < m) = true := by simp [h3]
                go_wp2
                go_ret
                exact hz.out _ hE9
              · have d5 : decide (300 < m) = false := by simp; omega
                go_wp2
                go_ret
                exact hfin.out m _ hm1 (by omega) (hf.out (by omega)) hE9
def SmPost (x : Ex) (l : List Feat) (w : World) (e : Ending) (w' : World) : Prop := ∃ b : Bool, e = .returned (.bool b) ∧ (b = true → x.parts.length ≤ 300 ∧ l.length ≤ 30) ∧ Ext w w'
theorem sm_no (x : Ex) (l : List Feat) {w w' : World} (h : Ext w w') : SmPost x l w (.returned (.bool false)) w' := ⟨false, rfl, fun h => absurd h (by simp), h⟩
set_option maxRecDepth 8000 in
set_option maxHeartbeats 4000000 in
theorem small_any {w : World} {v : Value} (x : Ex) (hS : ExS w v x.args) (fv : Value) (l : List Feat) (hF : FeatsL w fv l) : Calls Tryz.prog 4 #[exAgg x v, fv] w (SmPost x l w) := by
  obtain ⟨q, cp, rfl⟩ := hS.form
  obtain ⟨p, c, rfl⟩ := hF.form
  have hll := hF.1
  have hZ := Lib.hid (fun w1 (h : Ext w w1) => size_any hS x rfl w1 h 0 (by omega) (by omega))
  have hno := Lib.hid (fun (w2 : World) => sm_no x l (w := w) (w' := w2))
  have hyes := Lib.hid (fun (b : Bool) (w2 : World) (h : b = true → x.parts.length ≤ 300 ∧ l.length ≤ 30) (h4 : Ext w w2) => show SmPost x l w (.returned (.bool b)) w2 from ⟨b, rfl, h, h4⟩)
  unfold SzPost at hZ
  obtain ⟨op, nm, tx, n, args⟩ := x
  simp only [exAgg_mk, Ex.args] at hZ ⊢
  generalize (Ex.mk op nm tx n args).parts.length = PL at *
  generalize Ex.mk op nm tx n args = X at *
  clear hS
  replace hF := Lib.hid hF
  go_enter Tryz.func4, Tryz.ntmps4
  go_wp2_with fail
  have hb0 := Blk.new w #[.int .i64 op, .string nm, .string tx, .int .i64 n, .slice q args.length cp] 24
  have hE0 : Ext w (w.alloc (.cells #[.int .i64 op, .string nm, .string tx, .int .i64 n, .slice q args.length cp] 24)) := (by repeat (first | with_reducible exact Ext.refl _ | with_reducible exact hE0 | with_reducible exact hE | with_reducible refine Ext.alloc ?_ _ | with_reducible refine Ext.drewN ?_ _ | with_reducible refine Ext.drew ?_ | ((with_reducible refine Ext.setCell ?_ ?side _); (case side => first | exact Nat.le_refl _ | (simp; done) | (simp; omega)))))
  generalize w.alloc (.cells #[.int .i64 op, .string nm, .string tx, .int .i64 n, .slice q args.length cp] 24) = w0 at *
  replace hb0 := Lib.hid hb0
  go_loopw [5] (fun i wr => ∃ k : Nat, k ≤ l.length ∧ i = .int .i64 k ∧ Ext w0 wr) (fun i _ => l.length - (intOf i).toNat)
  case atStart => exact ⟨0, Nat.zero_le _, rfl, Ext.refl _⟩
  case round =>
    obtain ⟨k, hk, rfl, hEr⟩ := hrel
    by_cases hlt : k < l.length
    · obtain ⟨b, off, rfl, hat⟩ := hF.out.at (by omega)
      obtain ⟨c0, c1, c2, c3⟩ := hat k hlt
      clear hat
      generalize l.getD k fD = f at *
      have hEw := hE0.trans hEr
      replace c0 := hEw.get c0
      replace c3 := hEw.get c3
      clear c1 c2
      by_cases hz : 300 < wrap64 ((f.name.size : Int) + (f.text.size : Int))
      · have d1 : decide (300 < wrap64 ((f.name.size : Int) + (f.text.size : Int))) = true := by simp [hz]
        go_wp2_with fail
        go_quiet (fail)
        go_wp2
        go_ret
        exact hno.out _ (hEw.drewN _)
      · have d1 : decide (300 < wrap64 ((f.name.size : Int) + (f.text.size : Int))) = false := decide_eq_false hz
        clear hz
        go_wp2_with fail
        go_quiet (fail)
        go_wp2
        go_roundw
        case rel => exact ⟨k + 1, by omega, by go_num, hEr.drewN _⟩
        case measure => simp [intOf]; omega
    · have x0 : wr.cell? ⟨w.heap.size, 0, none⟩ = some (.int .i64 op) := ((hb0.out.ext hEr).cell 0).trans rfl
      have x1 : wr.cell? ⟨w.heap.size, 1, none⟩ = some (.string nm) := ((hb0.out.ext hEr).cell 1).trans rfl
      have x2 : wr.cell? ⟨w.heap.size, 2, none⟩ = some (.string tx) := ((hb0.out.ext hEr).cell 2).trans rfl
      have x3 : wr.cell? ⟨w.heap.size, 3, none⟩ = some (.int .i64 n) := ((hb0.out.ext hEr).cell 3).trans rfl
      have x4 : wr.cell? ⟨w.heap.size, 4, none⟩ = some (.slice q args.length cp) := ((hb0.out.ext hEr).cell 4).trans rfl
      have hEw := hE0.trans hEr
      go_wp2_with fail
      refine (hZ.out _ hEw).mono ?_
      rintro e w2 ⟨m, rfl, g1, g2, g3, hE2⟩
      replace hEw := hEw.trans hE2
      clear x0 x1 x2 x3 x4 hE2 hZ
      by_cases hm : m < 1000
      · have hm3 := g3 hm
        have d1 : decide (m < 1000) = true := by simp [hm]
        clear g3
        by_cases h30 : l.length ≤ 30
        · have d2 : decide ((l.length : Int) ≤ 30) = true := by simp; omega
          have d3 : decide (l.length ≤ 30) = true := by simp [h30]
          replace hm3 := Lib.hid hm3
          go_wp2
          go_ret
          exact hyes.out true _ (fun _ => ⟨by have := hm3.out; omega, h30⟩) hEw
        · have d2 : decide ((l.length : Int) ≤ 30) = false := by simp; omega
          have d3 : decide (l.length ≤ 30) = false := by simp; omega
          clear hm3
          go_wp2
          go_ret
          exact hno.out _ hEw
      · have d1 : decide (m < 1000) = false := by simp; omega
        clear g3 hm
        go_wp2
        go_ret
        exact hno.out _ hEw
end Go.Proofs.YtnppbeajemhjeaaGreat
