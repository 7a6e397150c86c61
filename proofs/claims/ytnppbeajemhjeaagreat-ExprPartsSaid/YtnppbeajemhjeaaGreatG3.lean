/- Contracts of the reference's Levels, Well, find, Valid (walks). -/
import Derived.Test.YtnppbeajemhjeaaGreatG2
import Derived.Test.YtnppbeajemhjeaaGreatEb
import Derived.Test.YtnppbeajemhjeaaGreatEd
import Derived.Test.YtnppbeajemhjeaaGreatEg
import Derived.Deep.RegionHeld3
namespace Go.Proofs.YtnppbeajemhjeaaGreat
open Go.RowKit
set_option maxRecDepth 8000 in
set_option maxHeartbeats 2000000 in
theorem rlevels_any {w : World} {v : Value} {l : List Ex} (h : ExS w v l) : ∀ (x : Ex), x.args = l → ∀ w', Ext w w' → x.levels ≤ 1000000 → Calls Tryz.prog 33 #[exAgg x v] w' (OneV (.int .i64 x.levels) w') := by
  refine ExS.ind (P := fun x v => ∀ w', Ext w w' → x.levels ≤ 1000000 → Calls Tryz.prog 33 #[exAgg x v] w' (OneV (.int .i64 x.levels) w')) ?_ h
  clear h
  intro x v hS hK w' hE hl
  obtain ⟨op, nm, tx, n, args⟩ := x
  obtain ⟨q, cp, rfl⟩ := hS.form
  have hlen := hS.len
  replace hK := Lib.hid hK
  simp only [Ex.args] at hK hlen ⊢
  rw [levels_eq] at hl ⊢
  simp only [Ex.args] at hl ⊢
  rw [exAgg_mk]
  clear hS
  go_enter Tryz.func33, Tryz.ntmps33
  go_wp2_with fail
  have hb0 := Blk.new w' #[.int .i64 op, .string nm, .string tx, .int .i64 n, .slice q args.length cp] 24
  have hE0 : Ext w' (w'.alloc (.cells #[.int .i64 op, .string nm, .string tx, .int .i64 n, .slice q args.length cp] 24)) := (by repeat (first | with_reducible exact Ext.refl _ | with_reducible exact hE0 | with_reducible exact hE | with_reducible refine Ext.alloc ?_ _ | with_reducible refine Ext.drewN ?_ _ | with_reducible refine Ext.drew ?_ | ((with_reducible refine Ext.setCell ?_ ?side _); (case side => first | exact Nat.le_refl _ | (simp; done) | (simp; omega)))))
  generalize w'.alloc (.cells #[.int .i64 op, .string nm, .string tx, .int .i64 n, .slice q args.length cp] 24) = w0 at *
  replace hb0 := Lib.hid hb0
  go_loopw [3, 4] (fun d i wr => ∃ k : Nat, k ≤ args.length ∧ i = .int .i64 k ∧ d = .int .i64 (Ex.levels.levelsL (args.take k)) ∧ Ext w0 wr) (fun _ i _ => args.length - (intOf i).toNat)
  case atStart => exact ⟨0, Nat.zero_le _, rfl, rfl, Ext.refl _⟩
  case round =>
    obtain ⟨k, hk, rfl, rfl, hEr⟩ := hrel
    have x4 : wr.cell? ⟨w'.heap.size, 4, none⟩ = some (.slice q args.length cp) := ((hb0.out.ext hEr).cell 4).trans rfl
    by_cases hlt : k < args.length
    · obtain ⟨b, off, rfl, sv, hkid⟩ := hK.out _ _ rfl (by omega)
      obtain ⟨hc, hsu, hP⟩ := hkid k hlt
      have hform := hsu.form
      have hEw := hE.trans (hE0.trans hEr)
      obtain ⟨c0, c1, c2, c3, c4⟩ := (hc.ext hEw).five
      have hle := levels_le args k hlt
      have hsn := Lib.hid (levelsL_snoc args k hlt)
      have hb1 : Ex.levels.levelsL (args.take k) ≤ Ex.levels.levelsL args := by
        have h2 : Ex.levels.levelsL args = max (Ex.levels.levelsL (args.take k)) (Ex.levels.levelsL (args.drop k)) := by rw [← levelsL_append, List.take_append_drop]
        omega
      replace hP := Lib.hid hP
      clear hc hkid hsu
      generalize args.getD k exD = y at *
      generalize Ex.levels.levelsL (args.take k) = d at *
      generalize sv k = u at *
      obtain ⟨uq, uc, rfl⟩ := hform
      go_wp2_with fail
      refine (hP.out _ hEw (by omega)).mono ?_
      rintro e w1 ⟨rfl, hE1⟩
      have hE2 := hEr.trans hE1
      clear hE1 c0 c1 c2 c3 c4 x4 hEw hEr
      generalize y.levels = yl at *
      by_cases hc : d < yl
      · have dd : decide ((d : Int) < (yl : Int)) = true := by simp; omega
        have dd' : decide (d < yl) = true := by simp [hc]
        go_wp2
        go_roundw
        case rel => exact ⟨k + 1, by omega, by go_num, by rw [hsn.out, Nat.max_eq_right (Nat.le_of_lt hc)], hE2⟩
        case measure => simp [intOf]; omega
      · have dd : decide ((d : Int) < (yl : Int)) = false := by simp; omega
        have dd' : decide (d < yl) = false := by simp; omega
        go_wp2
        go_roundw
        case rel => exact ⟨k + 1, by omega, by go_num, by rw [hsn.out, Nat.max_eq_left (Nat.le_of_not_lt hc)], hE2⟩
        case measure => simp [intOf]; omega
    · have hkk : args.take k = args := List.take_of_length_le (by omega)
      rw [hkk]
      clear hkk
      go_wp2
      go_ret
      exact ⟨by go_num, hE0.trans hEr⟩
set_option maxRecDepth 8000 in
set_option maxHeartbeats 2000000 in
theorem rwell_any {w : World} {v : Value} {l : List Ex} (h : ExS w v l) : ∀ (x : Ex), x.args = l → StrOk [x] → ∀ w', Ext w w' → Calls Tryz.prog 34 #[exAgg x v] w' (OneV (.bool x.formed) w') := by
  refine ExS.ind (P := fun x v => StrOk [x] → ∀ w', Ext w w' → Calls Tryz.prog 34 #[exAgg x v] w' (OneV (.bool x.formed) w')) ?_ h
  clear h
  intro x v hS hK hok w' hE
  obtain ⟨op, nm, tx, n, args⟩ := x
  obtain ⟨q, cp, rfl⟩ := hS.form
  have hlen := hS.len
  replace hK := Lib.hid hK
  obtain ⟨hz1, hz2⟩ := strOk_self hok
  have hkk := Lib.hid (fun k (hk : k < args.length) => strOk_kid hok hk)
  clear hok
  have hfe := Lib.hid (formed_eq op nm tx n args)
  simp only [Ex.args] at hK hlen ⊢
  generalize (Ex.mk op nm tx n args).formed = F at *
  rw [exAgg_mk]
  clear hS
  cases hf : hasFv op nm tx n args.length with
  | false =>
    have hF : F = false := by rw [hfe.out, hf]; rfl
    subst hF
    clear hfe hK
    go_enter Tryz.func34, Tryz.ntmps34
    go_wp2_with fail
    refine (part_any op nm tx n q args.length cp _ hz1 hz2).mono ?_
    rintro e w1 ⟨rfl, hE1⟩
    rw [hf]
    clear hf
    have hE : Ext w' w1 := Ext.trans (by repeat (first | with_reducible exact Ext.refl _ | with_reducible exact hE0 | with_reducible exact hE | with_reducible refine Ext.alloc ?_ _ | with_reducible refine Ext.drewN ?_ _ | with_reducible refine Ext.drew ?_ | ((with_reducible refine Ext.setCell ?_ ?side _); (case side => first | exact Nat.le_refl _ | (simp; done) | (simp; omega))))) hE1
    clear hE1
    go_wp2
    go_ret
    exact ⟨rfl, hE⟩
  | true =>
    have hF : F = args.all Ex.formed := by rw [hfe.out, hf]; rfl
    replace hF := Lib.hid hF
    clear hfe
    go_enter Tryz.func34, Tryz.ntmps34
    go_wp2_with fail
    have hb0 := (Blk.new w' #[.int .i64 op, .string nm, .string tx, .int .i64 n, .slice q args.length cp] 24)
    refine (part_any op nm tx n q args.length cp _ hz1 hz2).mono ?_
    rintro e w1 ⟨rfl, hE1⟩
    rw [hf]
    clear hf
    replace hb0 := Lib.hid (hb0.ext hE1)
    have hE0 : Ext w' w1 := Ext.trans (by repeat (first | with_reducible exact Ext.refl _ | with_reducible exact hE0 | with_reducible exact hE | with_reducible refine Ext.alloc ?_ _ | with_reducible refine Ext.drewN ?_ _ | with_reducible refine Ext.drew ?_ | ((with_reducible refine Ext.setCell ?_ ?side _); (case side => first | exact Nat.le_refl _ | (simp; done) | (simp; omega))))) hE1
    clear hE1
    go_wp2_with fail
    go_loopw [3] (fun i wr => ∃ k : Nat, k ≤ args.length ∧ i = .int .i64 k ∧ (args.take k).all Ex.formed = true ∧ Ext w1 wr) (fun i _ => args.length - (intOf i).toNat)
    case atStart => exact ⟨0, Nat.zero_le _, rfl, rfl, Ext.refl _⟩
    case round =>
      obtain ⟨k, hk, rfl, hd, hEr⟩ := hrel
      have x4 : wr.cell? ⟨w'.heap.size, 4, none⟩ = some (.slice q args.length cp) := ((hb0.out.ext hEr).cell 4).trans rfl
      by_cases hlt : k < args.length
      · obtain ⟨b, off, rfl, sv, hkid⟩ := hK.out _ _ rfl (by omega)
        obtain ⟨hc, hsu, hP⟩ := hkid k hlt
        have hform := hsu.form
        have hEw := hE.trans (hE0.trans hEr)
        obtain ⟨c0, c1, c2, c3, c4⟩ := (hc.ext hEw).five
        have hsn := Lib.hid (all_snocD Ex.formed args exD k hlt)
        have hbd := Lib.hid (all_badD Ex.formed args exD k hlt)
        replace hP := Lib.hid (hP (hkk.out k hlt))
        replace hd := Lib.hid hd
        clear hc hkid hsu
        generalize args.getD k exD = y at *
        generalize sv k = u at *
        obtain ⟨uq, uc, rfl⟩ := hform
        go_wp2_with fail
        refine (hP.out _ hEw).mono ?_
        rintro e w2 ⟨rfl, hE1⟩
        have hE2 := hEr.trans hE1
        clear hE1 c0 c1 c2 c3 c4 x4 hEr hEw
        cases hy : y.formed with
        | false =>
          have hR := Lib.hid (show F = false by rw [hF.out, hbd.out hy])
          clear hy hbd hsn
          go_wp2
          go_ret
          exact ⟨ret_boolE hR.out.symm, hE0.trans hE2⟩
        | true =>
          have hR := Lib.hid (show (args.take (k + 1)).all Ex.formed = true by rw [hsn.out, hd.out, hy]; rfl)
          clear hy hbd hsn
          go_wp2
          go_roundw
          case rel => exact ⟨k + 1, by omega, by go_num, hR.out, hE2⟩
          case measure => simp [intOf]; omega
      · have hk2 : args.take k = args := List.take_of_length_le (by omega)
        rw [hk2] at hd
        have hR := Lib.hid (show F = true by rw [hF.out, hd])
        clear hk2 hd
        go_wp2
        go_ret
        exact ⟨ret_boolE hR.out.symm, hE0.trans hEr⟩
/-- The levels are at most the parts. -/
theorem levels_parts : ∀ x : Ex, x.levels ≤ x.parts.length
  | .mk op nm tx n args => by
    have key : ∀ l : List Ex, (∀ y ∈ l, y.levels ≤ y.parts.length) → Ex.levels.levelsL l ≤ (Ex.parts.partsL l).length := by
      intro l
      induction l with
      | nil => intro _; simp [Ex.levels.levelsL]
      | cons y r ih =>
        intro h
        have h1 := h y List.mem_cons_self
        have h2 := ih fun z hz => h z (List.mem_cons_of_mem _ hz)
        simp only [Ex.levels.levelsL, Ex.parts.partsL, List.length_append]
        omega
    rw [levels_eq, parts_mk, List.length_cons]
    have := key args fun y hy => levels_parts y
    simp only [Ex.args]
    omega
theorem find_at {l : List Feat} {nm : ByteArray} : ∀ {k : Nat}, (∀ j, j < k → (l.getD j fD).name ≠ nm) → k < l.length → (l.getD k fD).name = nm → findN l nm = some (l.getD k fD) := by
  induction l with
  | nil => intro k _ h; simp at h
  | cons f r ih =>
    intro k h hk he
    unfold findN
    rw [List.find?_cons]
    cases k with
    | zero =>
      have : f.name = nm := by simpa using he
      simp [this]
    | succ k =>
      have h0 : f.name ≠ nm := by simpa using h 0 (by omega)
      rw [decide_eq_false h0]
      have := ih (k := k) (fun j hj => by simpa using h (j + 1) (by omega)) (by simpa using hk) (by simpa using he)
      unfold findN at this
      simpa using this
theorem find_no {l : List Feat} {nm : ByteArray} (h : ∀ j, j < l.length → (l.getD j fD).name ≠ nm) : findN l nm = none := by
  unfold findN
  rw [List.find?_eq_none]
  intro f hf
  obtain ⟨i, hi, rfl⟩ := List.getElem_of_mem hf
  have := h i hi
  rw [List.getD_eq_getElem?_getD, List.getElem?_eq_getElem hi, Option.getD_some] at this
  simpa using this
/-- What find leaves: its result, and the cell that held it. -/
def FindP (o : Option Feat) (w : World) (e : Ending) (w' : World) : Prop := e = .returned (.tuple #[.agg #[.string (o.getD fD).name, .int .i64 (o.getD fD).kind, .int .i64 (o.getD fD).n, .string (o.getD fD).text], .bool o.isSome]) ∧ w' = w.alloc (.cells #[.string (o.getD fD).name, .int .i64 (o.getD fD).kind, .int .i64 (o.getD fD).n, .string (o.getD fD).text] 36)
theorem findP_s {R : Option Feat} {f : Feat} (hR : R = some f) {w w' : World} {e : Ending} (he : e = .returned (.tuple #[.agg #[.string f.name, .int .i64 f.kind, .int .i64 f.n, .string f.text], .bool true])) (hw : w' = w.alloc (.cells #[.string f.name, .int .i64 f.kind, .int .i64 f.n, .string f.text] 36)) : FindP R w e w' := by subst hR; exact ⟨he, hw⟩
theorem findP_n {R : Option Feat} (hR : R = none) {w w' : World} {e : Ending} (he : e = .returned (.tuple #[.agg #[.string ⟨#[]⟩, .int .i64 0, .int .i64 0, .string ⟨#[]⟩], .bool false])) (hw : w' = w.alloc (.cells #[.string ⟨#[]⟩, .int .i64 0, .int .i64 0, .string ⟨#[]⟩] 36)) : FindP R w e w' := by subst hR; exact ⟨he, hw⟩
set_option maxRecDepth 8000 in
set_option maxHeartbeats 2000000 in
theorem rfind_ex (w : World) (v : Value) (l : List Feat) (nm : ByteArray) (hF : Feats w v l) : Calls Tryz.prog 98 #[v, .string nm] w (FindP (findN l nm) w) := by
  obtain ⟨p, c, rfl⟩ := hF.form
  have hlen := hF.1
  obtain ⟨R, hR⟩ : ∃ R, R = findN l nm := ⟨_, rfl⟩
  rw [← hR]
  have hat := Lib.hid (fun k a b c => hR.trans (find_at (l := l) (nm := nm) (k := k) a b c))
  have hno := Lib.hid (fun h => hR.trans (find_no (l := l) (nm := nm) h))
  clear hR
  replace hF := Lib.hid hF
  go_enter Tryz.func98, Tryz.ntmps98
  go_wp2
  go_loop [6] (fun i => ∃ k : Nat, k ≤ l.length ∧ i = .int .i64 k ∧ ∀ j, j < k → (l.getD j fD).name ≠ nm) (fun i => l.length - (intOf i).toNat)
  case atStart => exact ⟨0, Nat.zero_le _, rfl, fun j hj => absurd hj (by omega)⟩
  case round =>
    obtain ⟨k, hk, rfl, hall⟩ := hrel
    replace hall := Lib.hid hall
    by_cases hlt : k < l.length
    · obtain ⟨b, off, rfl, hc⟩ := hF.out.at (by omega)
      obtain ⟨c0, c1, c2, c3⟩ := hc k hlt
      have bl : b < w.heap.size := cell_lt c0
      have hgood := Lib.hid (fun e => hat.out k hall.out hlt e)
      have hnext : (l.getD k fD).name ≠ nm → ∀ j, j < k + 1 → (l.getD j fD).name ≠ nm := fun e j hj => by
        by_cases ej : j = k
        · subst ej; exact e
        · exact hall.out j (by omega)
      replace hnext := Lib.hid hnext
      clear hc
      generalize l.getD k fD = f at *
      by_cases he : f.name = nm
      · have d := strEq he
        have hR := Lib.hid (hgood.out he)
        clear he hgood hnext hat hno
        go_wp2
        exact bodyPost_ret (v := .tuple #[.agg #[.string f.name, .int .i64 f.kind, .int .i64 f.n, .string f.text], .bool true]) (by simp [results, Tryz.results98, go_sem]) rfl (findP_s hR.out rfl rfl)
      · have d := strNe he
        have hn := Lib.hid (hnext.out he)
        clear he hgood hnext hat hno
        go_wp2
        go_round
        case rel => exact ⟨k + 1, by omega, by go_num, hn.out⟩
        case measure => simp [intOf]; omega
    · have hR := Lib.hid (hno.out (fun j hj => hall.out j (by omega)))
      clear hat hno
      go_wp2
      exact bodyPost_ret (v := .tuple #[.agg #[.string ⟨#[]⟩, .int .i64 0, .int .i64 0, .string ⟨#[]⟩], .bool false]) (by simp [results, Tryz.results98, go_sem]) rfl (findP_n hR.out rfl rfl)
theorem rfind_any (w : World) (v : Value) (l : List Feat) (nm : ByteArray) (hF : Feats w v l) : Calls Tryz.prog 98 #[v, .string nm] w (OptF (findN l nm) w) := (rfind_ex w v l nm hF).mono fun e w' ⟨he, hw⟩ => ⟨he, by rw [hw]; exact (Ext.refl _).alloc _⟩
end Go.Proofs.YtnppbeajemhjeaaGreat
