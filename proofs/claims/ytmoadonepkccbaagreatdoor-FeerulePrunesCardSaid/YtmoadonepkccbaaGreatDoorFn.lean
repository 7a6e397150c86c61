/- Contracts of the law's node and bounded (walks). -/
import Derived.Test.YtmoadonepkccbaaGreatDoorFz
import Derived.Test.YtmoadonepkccbaaGreatDoorG1
import Derived.IntWalk
namespace Go.Proofs.YtmoadonepkccbaaGreatDoor
open Go.RowKit
/-- The strings of a part and of all parts within are short. -/
def Shrt (m : Int) (l : List Ex) : Prop := ∀ p ∈ l, (p.name.size : Int) + p.text.size < 100 * m
def NdPost (x : Ex) (most : Int) (w : World) (e : Ending) (w' : World) : Prop := ∃ m : Int, e = .returned (.int .i64 m) ∧ 1 ≤ m ∧ m ≤ most + 4398046511104 ∧ (m ≤ most → (x.parts.length : Int) ≤ m ∧ Shrt m x.parts) ∧ Ext w w'
theorem shrt_mono {m n : Int} {l : List Ex} (h : Shrt m l) (hmn : m ≤ n) : Shrt n l := fun p hp => by have := h p hp; omega
theorem shrt_append {m : Int} {a b : List Ex} (h : Shrt m a) (k : Shrt m b) : Shrt m (a ++ b) := fun p hp => by
  rcases List.mem_append.1 hp with hp | hp
  · exact h p hp
  · exact k p hp
set_option maxRecDepth 8000 in
set_option maxHeartbeats 4000000 in
theorem node_any {w : World} {v : Value} {l : List Ex} (h : ExS w v l) : ∀ (x : Ex), x.args = l → StrOk [x] → ∀ w', Ext w w' → ∀ d : Int, 0 ≤ d → d ≤ 400 → Calls Tryz.prog 42 #[exAgg x v, .int .i64 d] w' (NdPost x d w') := by
  refine ExS.ind (P := fun x v => StrOk [x] → ∀ w', Ext w w' → ∀ d : Int, 0 ≤ d → d ≤ 400 → Calls Tryz.prog 42 #[exAgg x v, .int .i64 d] w' (NdPost x d w')) ?_ h
  clear h
  intro x v hS hK hok w' hE d hd0 hd1
  obtain ⟨op, nm, tx, n, args⟩ := x
  obtain ⟨q, cp, rfl⟩ := hS.form
  have hlen := hS.len
  replace hK := Lib.hid hK
  simp only [Ex.args] at hK hlen ⊢
  obtain ⟨hsz1, hsz2⟩ := strOk_self hok
  have hkk := Lib.hid (fun k (hk : k < args.length) => strOk_kid hok hk)
  have hpm := parts_mk op nm tx n args
  have hpl : ((Ex.mk op nm tx n args).parts.length : Int) = (Ex.parts.partsL args).length + 1 := by rw [hpm]; simp
  have hfin := Lib.hid (fun (m : Int) (w2 : World) (h1 : 1 ≤ m) (h2 : m ≤ d + 4398046511104) (h3 : m ≤ d → ((Ex.parts.partsL args).length : Int) + 1 ≤ m ∧ Shrt m (Ex.parts.partsL args) ∧ (nm.size : Int) + tx.size < 100 * m) (h4 : Ext w' w2) => show NdPost (Ex.mk op nm tx n args) d w' (.returned (.int .i64 m)) w2 from ⟨m, rfl, h1, h2, fun h => ⟨by rw [hpl]; exact (h3 h).1, by
    rw [hpm]
    intro p hp
    rcases List.mem_cons.1 hp with rfl | hp
    · exact (h3 h).2.2
    · exact (h3 h).2.1 p hp⟩, h4⟩)
  rw [exAgg_mk]
  generalize Ex.mk op nm tx n args = X at *
  clear hS hpl hpm hok
  have e1 : wrap64 ((nm.size : Int) + (tx.size : Int)) = (nm.size : Int) + (tx.size : Int) := wrap64_id _ (by omega) (by omega)
  have e2 : ((nm.size : Int) + (tx.size : Int)).tdiv 100 = ((nm.size : Int) + (tx.size : Int)) / 100 := Int.tdiv_eq_ediv_of_nonneg (by omega)
  obtain ⟨z, hz⟩ : ∃ z, z = ((nm.size : Int) + (tx.size : Int)) / 100 := ⟨_, rfl⟩
  have hz1 : 0 ≤ z ∧ z ≤ 4000000000000 ∧ (nm.size : Int) + tx.size < 100 * (z + 1) := by omega
  rw [← hz] at e2
  have e3 : wrap64 z = z := wrap64_id _ (by omega) (by omega)
  have e4 : wrap64 (z + 1) = z + 1 := wrap64_id _ (by omega) (by omega)
  have e5 : wrap64 (1 + z) = 1 + z := wrap64_id _ (by omega) (by omega)
  clear hz
  replace hz1 := Lib.hid hz1
  go_enter Tryz.func42, Tryz.ntmps42
  go_wp2_with fail
  replace e5 := Lib.hid e5
  clear e1 e2 e3 e4
  have hb0 := Blk.new w' #[.int .i64 op, .string nm, .string tx, .int .i64 n, .slice q args.length cp] 40
  have hE0 : Ext w' (w'.alloc (.cells #[.int .i64 op, .string nm, .string tx, .int .i64 n, .slice q args.length cp] 40)) := (by repeat (first | with_reducible exact Ext.refl _ | with_reducible exact hE0 | with_reducible exact hE | with_reducible refine Ext.alloc ?_ _ | with_reducible refine Ext.drewN ?_ _ | with_reducible refine Ext.drew ?_ | ((with_reducible refine Ext.setCell ?_ ?side _); (case side => first | exact Nat.le_refl _ | (simp; done) | (simp; omega)))))
  generalize w'.alloc (.cells #[.int .i64 op, .string nm, .string tx, .int .i64 n, .slice q args.length cp] 40) = w0 at *
  replace hb0 := Lib.hid hb0
  go_loopw [5, 6] (fun c i wr => ∃ k : Nat, ∃ m : Int, k ≤ args.length ∧ i = .int .i64 k ∧ c = .int .i64 m ∧ z + 1 ≤ m ∧ m ≤ d + 4398046511104 ∧ (m ≤ d → ((Ex.parts.partsL (args.take k)).length : Int) + 1 ≤ m ∧ Shrt m (Ex.parts.partsL (args.take k))) ∧ Ext w0 wr) (fun _ i _ => args.length - (intOf i).toNat)
  case atStart => exact ⟨0, 1 + z, Nat.zero_le _, rfl, congrArg (Value.int .i64) e5.out, by omega, by have := hz1.out; omega, fun _ => ⟨by have := hz1.out; simp [Ex.parts.partsL]; omega, fun p hp => by simp [Ex.parts.partsL] at hp⟩, Ext.refl _⟩
  case round =>
    obtain ⟨k, m, hk, rfl, rfl, hm1, hm2, hm3, hEr⟩ := hrel
    replace hm3 := Lib.hid hm3
    have x4 : wr.cell? ⟨w'.heap.size, 4, none⟩ = some (.slice q args.length cp) := ((hb0.out.ext hEr).cell 4).trans rfl
    by_cases hlt : k < args.length ∧ m ≤ d
    · obtain ⟨hlt, hmm⟩ := hlt
      obtain ⟨b, off, rfl, sv, hkid⟩ := hK.out _ _ rfl (by omega)
      obtain ⟨hc, hsu, hP⟩ := hkid k hlt
      have hform := hsu.form
      have hEw := hE.trans (hE0.trans hEr)
      obtain ⟨c0, c1, c2, c3, c4⟩ := (hc.ext hEw).five
      have hsn := Lib.hid (show Ex.parts.partsL (args.take (k + 1)) = Ex.parts.partsL (args.take k) ++ (args.getD k exD).parts from partsL_snoc args k hlt)
      replace hP := Lib.hid (hP (hkk.out k hlt))
      clear hc hkid hsu
      generalize args.getD k exD = y at *
      generalize sv k = u at *
      obtain ⟨uq, uc, rfl⟩ := hform
      have f1 : wrap64 (d - m) = d - m := wrap64_id _ (by have := hz1.out; omega) (by have := hz1.out; omega)
      go_wp2_with fail
      refine (hP.out _ hEw (d - m) (by omega) (by have := hz1.out; omega)).mono ?_
      rintro e w2 ⟨m2, rfl, g1, g2, g3, hE2⟩
      replace hEr := hEr.trans hE2
      replace g3 := Lib.hid g3
      clear c0 c1 c2 c3 c4 hE2 x4 hEw f1
      have hzz := hz1.out.1
      have f2 : wrap64 (m + m2) = m + m2 := wrap64_id _ (by omega) (by omega)
      go_wp2
      go_roundw
      case rel => exact ⟨k + 1, m + m2, by omega, by go_num, by go_num, by omega, by omega, fun h => by
        obtain ⟨a1, a2⟩ := hm3.out hmm
        obtain ⟨b1, b2⟩ := g3.out (by omega)
        rw [hsn.out]
        exact ⟨by simp only [List.length_append]; omega, shrt_append (shrt_mono a2 (by omega)) (shrt_mono b2 (by omega))⟩, hEr⟩
      case measure => simp [intOf]; omega
    · have hf : m ≤ d → ((Ex.parts.partsL args).length : Int) + 1 ≤ m ∧ Shrt m (Ex.parts.partsL args) ∧ (nm.size : Int) + tx.size < 100 * m := fun h => by
        have h6 : k = args.length := by omega
        obtain ⟨a1, a2⟩ := hm3.out h
        rw [h6, List.take_length] at a1 a2
        exact ⟨a1, a2, by have := hz1.out; omega⟩
      have hm0 : 1 ≤ m := by have := hz1.out; omega
      replace hf := Lib.hid hf
      have hE9 := hE0.trans hEr
      by_cases hlk : k < args.length
      · have h7 : ¬ m ≤ d := fun h => hlt ⟨hlk, h⟩
        have d5 : decide (m ≤ d) = false := by simp; omega
        clear hlt
        go_wp2
        go_ret
        exact hfin.out m _ hm0 hm2 hf.out hE9
      · clear hlt
        go_wp2
        go_ret
        exact hfin.out m _ hm0 hm2 hf.out hE9
/-- What bounded's true says. -/
structure BdOk (l : List RuleD) (fs : List Feat) : Prop where
  few : l.length ≤ 80
  ffew : fs.length ≤ 30
  name : ∀ i, i < l.length → (l.getD i rD).name.size ≤ 100
  parts : ∀ i, i < l.length → (l.getD i rD).when.parts.length ≤ 400
  shrt : ∀ i, i < l.length → Shrt 400 (l.getD i rD).when.parts
  ft : ∀ i, i < fs.length → (fs.getD i fD).name.size ≤ 100 ∧ (fs.getD i fD).text.size ≤ 200
def BdPost (l : List RuleD) (fs : List Feat) (w : World) (e : Ending) (w' : World) : Prop := ∃ b : Bool, e = .returned (.bool b) ∧ (b = true → BdOk l fs) ∧ Ext w w'
theorem bd_no (l : List RuleD) (fs : List Feat) {w w' : World} (h : Ext w w') : BdPost l fs w (.returned (.bool false)) w' := ⟨false, rfl, fun h => absurd h (by simp), h⟩
set_option maxRecDepth 8000 in
set_option maxHeartbeats 4000000 in
theorem bounded_any (lv fv : Value) (l : List RuleD) (fs : List Feat) (w : World) (hR : RulesM w lv l) (hO : ∀ i, i < l.length → StrOk [(l.getD i rD).when] ∧ (l.getD i rD).name.size ≤ 140737488355328) (hF : FeatsL w fv fs) (hFs : ∀ i, i < fs.length → (fs.getD i fD).name.size ≤ 140737488355328 ∧ (fs.getD i fD).text.size ≤ 140737488355328) : Calls Tryz.prog 12 #[lv, fv] w (BdPost l fs w) := by
  obtain ⟨lp, lc, rfl⟩ := hR.form
  obtain ⟨fp, fc, rfl⟩ := hF.form
  have hl1 := hR.1
  have hl2 := hF.1
  have hno := Lib.hid (fun (w2 : World) => bd_no l fs (w := w) (w' := w2))
  have hyes := Lib.hid (fun (w2 : World) (h : BdOk l fs) (h4 : Ext w w2) => show BdPost l fs w (.returned (.bool true)) w2 from ⟨true, rfl, fun _ => h, h4⟩)
  replace hR := Lib.hid hR
  replace hF := Lib.hid hF
  replace hO := Lib.hid hO
  replace hFs := Lib.hid hFs
  go_enter Tryz.func12, Tryz.ntmps12
  go_wp2_with fail
  go_loopw [5, 6] (fun c i wr => ∃ k : Nat, ∃ m : Int, k ≤ l.length ∧ k ≤ 80 ∧ i = .int .i64 k ∧ c = .int .i64 m ∧ 0 ≤ m ∧ m ≤ 4398046511504 ∧ (m ≤ 400 → ∀ j, j < k → (l.getD j rD).name.size ≤ 100 ∧ (l.getD j rD).when.parts.length ≤ 400 ∧ Shrt 400 (l.getD j rD).when.parts) ∧ Ext w wr) (fun _ i _ => l.length - (intOf i).toNat)
  case atStart => exact ⟨0, 0, Nat.zero_le _, Nat.zero_le _, rfl, rfl, by omega, by omega, fun _ j hj => absurd hj (by omega), Ext.refl _⟩
  case round =>
    obtain ⟨k, m, hk, hk80, rfl, rfl, hm1, hm2, hm3, hEr⟩ := hrel
    replace hm3 := Lib.hid hm3
    by_cases hlt : k < l.length
    · by_cases h80 : 80 ≤ k
      · have d1 : decide ((80 : Int) ≤ (k : Int)) = true := by simp; omega
        have d1' : decide (80 ≤ k) = true := by simp; omega
        clear h80
        go_wp2
        go_ret
        exact hno.out _ hEr
      · have d1 : decide ((80 : Int) ≤ (k : Int)) = false := by simp; omega
        have d1' : decide (80 ≤ k) = false := by simp; omega
        by_cases h400 : 400 < m
        · have d2 : decide (400 < m) = true := by simp [h400]
          go_wp2
          go_ret
          exact hno.out _ hEr
        · have d2 : decide (400 < m) = false := by simp; omega
          obtain ⟨b, off, rfl, sv, hkid⟩ := hR.out.at (by omega)
          obtain ⟨hc, hsu⟩ := hkid k hlt
          obtain ⟨h0, h1, h2, h3, h4, h5, -, -, -, -⟩ := hc.ext hEr
          obtain ⟨uq, uc, huv⟩ := hsu.form
          have hnd := Lib.hid (fun w2 (h : Ext w w2) => node_any (hsu.ext (Ext.refl _)) _ rfl (hO.out k hlt).1 w2 h (400 - m) (by omega) (by omega))
          have hgood : (l.getD k rD).name.size ≤ 100 → ∀ m2 : Int, (m2 ≤ 400 - m → ((l.getD k rD).when.parts.length : Int) ≤ m2 ∧ Shrt m2 (l.getD k rD).when.parts) → 1 ≤ m2 → m + m2 ≤ 400 → ∀ j, j < k + 1 → (l.getD j rD).name.size ≤ 100 ∧ (l.getD j rD).when.parts.length ≤ 400 ∧ Shrt 400 (l.getD j rD).when.parts := fun hn m2 g h1 h2 j hj => by
            by_cases e : j = k
            · subst e
              obtain ⟨a1, a2⟩ := g (by omega)
              exact ⟨hn, by omega, shrt_mono a2 (by omega)⟩
            · exact hm3.out (by omega) j (by omega)
          replace hgood := Lib.hid hgood
          have hns := (hO.out k hlt).2
          unfold NdPost at hnd
          clear hc hkid hsu
          generalize l.getD k rD = r at *
          rw [huv] at h5 hnd
          clear huv
          unfold exAgg at hnd
          have bl : b < wr.heap.size := cell_lt h0
          by_cases hn : 100 < r.name.size
          · have d3 : decide ((100 : Int) < (r.name.size : Int)) = true := by simp; omega
            have d3' : decide (100 < r.name.size) = true := by simp [hn]
            clear hgood hnd hns hn
            go_wp2
            go_ret
            exact hno.out _ hEr
          · have d3 : decide ((100 : Int) < (r.name.size : Int)) = false := by simp; omega
            have d3' : decide (100 < r.name.size) = false := by simp; omega
            have f1 : wrap64 (400 - m) = 400 - m := wrap64_id _ (by omega) (by omega)
            go_wp2_with fail
            refine (hnd.out _ hEr).mono ?_
            rintro e w2 ⟨m2, rfl, g1, g2, g3, hE2⟩
            replace hEr := hEr.trans hE2
            have hg := Lib.hid (hgood.out (by omega) m2 g3 g1)
            clear h0 h1 h2 h3 h4 h5 hE2 f1 hnd hgood g3 bl
            have f2 : wrap64 (m + m2) = m + m2 := wrap64_id _ (by omega) (by omega)
            go_wp2
            go_roundw
            case rel => exact ⟨k + 1, m + m2, by omega, by omega, by go_num, by go_num, by omega, by omega, fun h => hg.out h, hEr⟩
            case measure => simp [intOf]; omega
    · have hkl : k = l.length := by omega
      subst hkl
      clear hlt
      go_wp2_with fail
      go_loopw [7] (fun i wr2 => ∃ j : Nat, j ≤ fs.length ∧ j ≤ 30 ∧ i = .int .i64 j ∧ (∀ t, t < j → (fs.getD t fD).name.size ≤ 100 ∧ (fs.getD t fD).text.size ≤ 200) ∧ Ext w wr2) (fun i _ => fs.length - (intOf i).toNat)
      case atStart => exact ⟨0, Nat.zero_le _, Nat.zero_le _, rfl, fun t ht => absurd ht (by omega), hEr⟩
      case round =>
        obtain ⟨j, hj, hj30, rfl, hft, hEr2⟩ := hrel
        replace hft := Lib.hid hft
        by_cases hlt2 : j < fs.length
        · by_cases h30 : 30 ≤ j
          · have d1 : decide ((30 : Int) ≤ (j : Int)) = true := by simp; omega
            have d1' : decide (30 ≤ j) = true := by simp; omega
            clear h30
            go_wp2
            go_ret
            exact hno.out _ hEr2
          · have d1 : decide ((30 : Int) ≤ (j : Int)) = false := by simp; omega
            have d1' : decide (30 ≤ j) = false := by simp; omega
            obtain ⟨b, off, rfl, hat⟩ := hF.out.at (by omega)
            obtain ⟨c0, -, -, c3⟩ := hat j hlt2
            have hns := (hFs.out j hlt2)
            have hnew : (fs.getD j fD).name.size ≤ 100 → (fs.getD j fD).text.size ≤ 200 → ∀ t, t < j + 1 → (fs.getD t fD).name.size ≤ 100 ∧ (fs.getD t fD).text.size ≤ 200 := fun a1 a2 t ht => by
              by_cases e : t = j
              · subst e; exact ⟨a1, a2⟩
              · exact hft.out t (by omega)
            replace hnew := Lib.hid hnew
            clear hat
            generalize fs.getD j fD = f at *
            replace c0 := hEr2.get c0
            replace c3 := hEr2.get c3
            by_cases hn : 100 < f.name.size
            · have d3 : decide ((100 : Int) < (f.name.size : Int)) = true := by simp; omega
              have d3' : decide (100 < f.name.size) = true := by simp [hn]
              clear hn
              go_wp2
              go_ret
              exact hno.out _ hEr2
            · have d3 : decide ((100 : Int) < (f.name.size : Int)) = false := by simp; omega
              have d3' : decide (100 < f.name.size) = false := by simp; omega
              by_cases ht : 200 < f.text.size
              · have d4 : decide ((200 : Int) < (f.text.size : Int)) = true := by simp; omega
                have d4' : decide (200 < f.text.size) = true := by simp [ht]
                clear ht hn
                go_wp2
                go_ret
                exact hno.out _ hEr2
              · have d4 : decide ((200 : Int) < (f.text.size : Int)) = false := by simp; omega
                have d4' : decide (200 < f.text.size) = false := by simp; omega
                go_wp2
                go_roundw
                case rel => exact ⟨j + 1, by omega, by omega, by go_num, hnew.out (by omega) (by omega), hEr2⟩
                case measure => simp [intOf]; omega
        · have hjl : j = fs.length := by omega
          subst hjl
          by_cases h400 : m ≤ 400
          · have d2 : decide (m ≤ 400) = true := by simp [h400]
            have hB : BdOk l fs := ⟨hk80, hj30, fun i hi => (hm3.out h400 i hi).1, fun i hi => (hm3.out h400 i hi).2.1, fun i hi => (hm3.out h400 i hi).2.2, fun i hi => hft.out i hi⟩
            replace hB := Lib.hid hB
            clear hlt2
            go_wp2
            go_ret
            exact hyes.out _ hB.out hEr2
          · have d2 : decide (m ≤ 400) = false := by simp; omega
            clear hlt2
            go_wp2
            go_ret
            exact hno.out _ hEr2
end Go.Proofs.YtmoadonepkccbaaGreatDoor
