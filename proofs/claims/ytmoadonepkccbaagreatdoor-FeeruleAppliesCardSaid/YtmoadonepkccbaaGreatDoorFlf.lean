/- The walk of the law FeeruleFirst (printed by gen/ffirst.py). -/
import Derived.Test.YtmoadonepkccbaaGreatDoorG7
import Derived.Test.YtmoadonepkccbaaGreatDoorFlp
namespace Go.Proofs.YtmoadonepkccbaaGreatDoor
open Go.RowKit
theorem holds_iff (fs : List Feat) (r : RuleD) : holdsB fs r = true ↔ (evalV r.when fs nilS).2 = 0 ∧ (evalV r.when fs nilS).1.kind = 3 ∧ (evalV r.when fs nilS).1.n = 1 := by
  unfold holdsB
  simp only [Bool.and_eq_true, decide_eq_true_eq, and_assoc]
  exact Iff.rfl
theorem tot_names {l : List RuleD} {fs : List Feat} (ht : totB l = true) (hn : idxF (holdsB fs) 0 l = none) : namesE [] fs ≠ 0 := by
  intro h0
  rw [tot_any, List.any_eq_true] at ht
  obtain ⟨r, hr, ha⟩ := ht
  obtain ⟨j, hj, rfl⟩ := List.getElem_of_mem hr
  have h1 := idx_none (holdsB fs) l 0 hn j hj
  rw [List.getD_eq_getElem?_getD, List.getElem?_eq_getElem hj, Option.getD_some, alw_holds ha, decide_eq_true h0] at h1
  cases h1
theorem FtIn.caps {p : Option Addr} {n c : Nat} {l : List Feat} (h : FtIn (.slice p n c) l) : n ≤ c := h.2 _ _ _ rfl
set_option maxRecDepth 8000 in
set_option maxHeartbeats 8000000 in
theorem law_first (lv : Value) (l : List RuleD) (fv : Value) (fs : List Feat) (w : World) (g : Gw w) (hR : RulesM w lv l) (hO : RuOk lv l) (hF : FeatsL w fv fs) (hFi : FtIn fv fs) : Calls Tryz.prog 4 #[lv, fv] w (OneV (.bool true) w) := by
  have kB := Lib.hid (bounded_any lv fv l fs w hR hO.at hF hFi.at)
  obtain ⟨lp, lc, rfl⟩ := hR.form
  obtain ⟨fp, fc, rfl⟩ := hF.form
  have hcap := hFi.caps
  unfold BdPost at kB
  have hRo := Lib.hid hO.at
  replace hR := Lib.hid hR
  replace hO := Lib.hid hO
  replace hF := Lib.hid hF
  replace hFi := Lib.hid hFi
  replace g := Lib.hid g
  go_enter Tryz.func4, Tryz.ntmps4
  go_wp2_with fail
  refine kB.out.mono ?_
  rintro e w1 ⟨b, rfl, hb, hE⟩
  clear kB
  cases b with
  | false =>
    clear hb
    have kW := Lib.hid (awake_any w1 (g.out.ext hE))
    go_wp2_with fail
    refine kW.out.mono ?_
    rintro e w2 ⟨rfl, hE2⟩
    replace hE := hE.trans hE2
    clear hE2 kW
    go_wp2
    go_ret
    exact ⟨rfl, hE⟩
  | true =>
    have hbd := hb rfl
    have hl80 := hbd.few
    have htab := bd_tab hbd hFi.out
    have hF2 := Lib.hid (hF.out.few (by have := hbd.ffew; omega))
    have hpp := Lib.hid htab.parts
    have kP := Lib.hid (fun w2 (h : Ext w w2) => pick_any (.slice lp l.length lc) (.slice fp fs.length fc) l fs w2 (hR.out.ext h) (hF2.out.ext h))
    have kT := Lib.hid (fun w2 (h : Ext w w2) => total_any (.slice lp l.length lc) l w2 (hR.out.ext h) hpp.out)
    have kV := Lib.hid (fun w2 (h : Ext w w2) => rvalid_any w2 fp fc fs (hF2.out.ext h) hcap (fun i hi => (hFi.out.at i hi).1))
    have kW := Lib.hid (fun w2 (h : Ext w w2) => awake_any w2 (g.out.ext h))
    have hev := fun (k : Nat) (hk : k < l.length) (u : Value) (w2 : World) (h : Ext w w2) (hu : ExS w u (l.getD k rD).when.args) => rEval_any (l.getD k rD).when (hu.ext h) (hRo.out k hk).1 (hpp.out k hk) fp fc fs (hF2.out.ext h) hcap (fun i hi => (hFi.out.at i hi).1)
    replace hev := Lib.hid hev
    unfold pickV at kP
    have hi1 := idx_some (holdsB fs) l 0
    have hi2 := idx_none (holdsB fs) l 0
    have htn := fun ht hn => tot_names (l := l) (fs := fs) ht hn
    generalize idxF (holdsB fs) 0 l = I at *
    clear hb hbd htab
    replace hi1 := Lib.hid hi1
    replace hi2 := Lib.hid hi2
    replace htn := Lib.hid htn
    go_wp2_with fail
    refine (kP.out _ hE).mono ?_
    rintro e w2 ⟨rfl, hE2⟩
    replace hE := hE.trans hE2
    clear hE2 kP
    cases I with
    | none =>
      have hall := Lib.hid (hi2.out rfl)
      have htn2 := Lib.hid (fun ht => htn.out ht rfl)
      clear hi1 hi2 htn
      generalize totB l = tb at *
      generalize namesE [] fs = ne at *
      go_wp2_with fail
      refine (kT.out _ hE).mono ?_
      rintro e w3 ⟨rfl, hE3⟩
      replace hE := hE.trans hE3
      clear hE3 kT
      cases tb with
      | false =>
        go_wp2_with fail
        go_loopw [10] (fun i wr => ∃ k : Nat, k ≤ l.length ∧ i = .int .i64 k ∧ Ext w wr) (fun i _ => l.length - (intOf i).toNat)
        case atStart => exact ⟨0, Nat.zero_le _, rfl, hE⟩
        case round =>
          clear hE
          obtain ⟨k, hk, rfl, hE⟩ := hrel
          by_cases hlt : k < l.length
          · have hkl : k < l.length := hlt
            have hno := hall.out k hlt
            obtain ⟨b, off, hpe, sv, hkid⟩ := hR.out.at (by omega)
            cases hpe
            obtain ⟨hc, hsu⟩ := hkid k hkl
            obtain ⟨-, h1, h2, h3, h4, h5, -, -, -, -⟩ := hc.ext hE
            obtain ⟨uq, uc, huv⟩ := hsu.form
            have kE := hev.out k hkl _ wr hE hsu
            clear hc hkid
            have hiff := holds_iff fs (l.getD k rD)
            rw [hno] at hiff
            generalize l.getD k rD = r at *
            rw [huv] at h5 kE
            unfold exAgg at kE
            unfold EvalPost at kE
            generalize evalV r.when fs nilS = V at *
            obtain ⟨f, c⟩ := V
            simp only at kE hiff
            have hbl := cell_lt h1
            simp only at hbl
            replace kE := Lib.hid kE
            clear huv hsu hno
            go_wp2_with fail
            refine kE.out.mono ?_
            rintro e w3 ⟨rfl, hE3⟩
            replace hE := hE.trans hE3
            clear hE3 kE h1 h2 h3 h4 h5 hbl
            by_cases q1 : c = 0
            · subst q1
              by_cases q2 : f.kind = 3
              · have q3 : ¬ f.n = 1 := fun h => by have := hiff.2 ⟨rfl, q2, h⟩; cases this
                have d2 : (f.kind == 3) = true := by simpa using q2
                have d3 : (f.n == 1) = false := by simpa using q3
                clear q2 q3 hiff
                go_wp2
                go_roundw
                case rel => exact ⟨k + 1, by omega, by go_num, hE.alloc _⟩
                case measure => simp [intOf]; omega
              · have d2 : (f.kind == 3) = false := by simpa using q2
                clear q2 hiff
                go_wp2
                go_roundw
                case rel => exact ⟨k + 1, by omega, by go_num, hE.alloc _⟩
                case measure => simp [intOf]; omega
            · have d1 : (c == 0) = false := by simpa using q1
              clear q1 hiff
              go_wp2
              go_roundw
              case rel => exact ⟨k + 1, by omega, by go_num, hE.alloc _⟩
              case measure => simp [intOf]; omega
          · have hkn : k = l.length := by omega
            subst hkn
            clear hlt
            have kW2 := Lib.hid (kW.out _ hE)
            go_wp2_with fail
            refine kW2.out.mono ?_
            rintro e w4 ⟨rfl, hE4⟩
            replace hE := hE.trans hE4
            clear hE4
            go_wp2
            go_ret
            exact ⟨rfl, hE⟩
      | true =>
        have dn : (ne == 0) = false := by simpa using htn2.out rfl
        go_wp2_with fail
        refine (kV.out _ hE).mono ?_
        rintro e w3 ⟨rfl, hE3⟩
        replace hE := hE.trans hE3
        clear hE3 kV
        go_wp2_with fail
        go_loopw [10] (fun i wr => ∃ k : Nat, k ≤ l.length ∧ i = .int .i64 k ∧ Ext w wr) (fun i _ => l.length - (intOf i).toNat)
        case atStart => exact ⟨0, Nat.zero_le _, rfl, hE⟩
        case round =>
          clear hE
          obtain ⟨k, hk, rfl, hE⟩ := hrel
          by_cases hlt : k < l.length
          · have hkl : k < l.length := hlt
            have hno := hall.out k hlt
            obtain ⟨b, off, hpe, sv, hkid⟩ := hR.out.at (by omega)
            cases hpe
            obtain ⟨hc, hsu⟩ := hkid k hkl
            obtain ⟨-, h1, h2, h3, h4, h5, -, -, -, -⟩ := hc.ext hE
            obtain ⟨uq, uc, huv⟩ := hsu.form
            have kE := hev.out k hkl _ wr hE hsu
            clear hc hkid
            have hiff := holds_iff fs (l.getD k rD)
            rw [hno] at hiff
            generalize l.getD k rD = r at *
            rw [huv] at h5 kE
            unfold exAgg at kE
            unfold EvalPost at kE
            generalize evalV r.when fs nilS = V at *
            obtain ⟨f, c⟩ := V
            simp only at kE hiff
            have hbl := cell_lt h1
            simp only at hbl
            replace kE := Lib.hid kE
            clear huv hsu hno
            go_wp2_with fail
            refine kE.out.mono ?_
            rintro e w3 ⟨rfl, hE3⟩
            replace hE := hE.trans hE3
            clear hE3 kE h1 h2 h3 h4 h5 hbl
            by_cases q1 : c = 0
            · subst q1
              by_cases q2 : f.kind = 3
              · have q3 : ¬ f.n = 1 := fun h => by have := hiff.2 ⟨rfl, q2, h⟩; cases this
                have d2 : (f.kind == 3) = true := by simpa using q2
                have d3 : (f.n == 1) = false := by simpa using q3
                clear q2 q3 hiff
                go_wp2
                go_roundw
                case rel => exact ⟨k + 1, by omega, by go_num, hE.alloc _⟩
                case measure => simp [intOf]; omega
              · have d2 : (f.kind == 3) = false := by simpa using q2
                clear q2 hiff
                go_wp2
                go_roundw
                case rel => exact ⟨k + 1, by omega, by go_num, hE.alloc _⟩
                case measure => simp [intOf]; omega
            · have d1 : (c == 0) = false := by simpa using q1
              clear q1 hiff
              go_wp2
              go_roundw
              case rel => exact ⟨k + 1, by omega, by go_num, hE.alloc _⟩
              case measure => simp [intOf]; omega
          · have hkn : k = l.length := by omega
            subst hkn
            clear hlt
            have kW2 := Lib.hid (kW.out _ hE)
            go_wp2_with fail
            refine kW2.out.mono ?_
            rintro e w4 ⟨rfl, hE4⟩
            replace hE := hE.trans hE4
            clear hE4
            go_wp2
            go_ret
            exact ⟨rfl, hE⟩
    | some j =>
      obtain ⟨-, hj, hjh, hjn⟩ := hi1.out j rfl
      rw [Nat.zero_add] at hj
      rw [Nat.sub_zero] at hjh hjn
      have hjn := Lib.hid hjn
      clear hi1 hi2 htn kT kV
      have dj1 : decide ((j : Int) < 0) = false := decide_eq_false (by omega)
      have dj2 : decide ((l.length : Int) ≤ (j : Int)) = false := decide_eq_false (by omega)
      have dj3 : decide (l.length ≤ j) = false := decide_eq_false (by omega)
      obtain ⟨b, off, hpe, sv, hkid⟩ := hR.out.at (by omega)
      cases hpe
      obtain ⟨hc, hsu⟩ := hkid j hj
      obtain ⟨-, h1, h2, h3, h4, h5, -, -, -, -⟩ := hc.ext hE
      obtain ⟨uq, uc, huv⟩ := hsu.form
      have kE := hev.out j hj _ w2 hE hsu
      clear hc hkid
      have hiff := (holds_iff fs (l.getD j rD)).1 hjh
      clear hjh
      generalize l.getD j rD = r at h1 h2 h3 h4 h5 huv kE hiff hsu
      rw [huv] at h5 kE
      unfold exAgg at kE
      unfold EvalPost at kE
      generalize evalV r.when fs nilS = V at *
      obtain ⟨f, c⟩ := V
      simp only at kE hiff
      obtain ⟨rfl, q2, q3⟩ := hiff
      have d2 : (f.kind != 3) = false := by simpa using q2
      have d3 : (f.n != 1) = false := by simpa using q3
      have hbl := cell_lt h1
      simp only at hbl
      replace kE := Lib.hid kE
      clear huv hsu q2 q3
      go_wp2_with fail
      refine kE.out.mono ?_
      rintro e w3 ⟨rfl, hE3⟩
      replace hE := (hE.trans hE3).alloc (.cells #[.string f.name, .int .i64 f.kind, .int .i64 f.n, .string f.text] 35)
      clear hE3 kE h1 h2 h3 h4 h5 hbl
      go_wp2_with fail
      clear d2 d3 dj1 dj2 dj3
      go_loopw [10] (fun i wr => ∃ k : Nat, k ≤ j ∧ i = .int .i64 k ∧ Ext w wr) (fun i _ => j - (intOf i).toNat)
      case atStart => exact ⟨0, Nat.zero_le _, rfl, hE⟩
      case round =>
        clear hE
        obtain ⟨k, hk, rfl, hE⟩ := hrel
        by_cases hlt : k < j
        · have hkl : k < l.length := (by omega)
          have hno := hjn.out k hlt
          obtain ⟨b, off, hpe, sv, hkid⟩ := hR.out.at (by omega)
          cases hpe
          obtain ⟨hc, hsu⟩ := hkid k hkl
          obtain ⟨-, h1, h2, h3, h4, h5, -, -, -, -⟩ := hc.ext hE
          obtain ⟨uq, uc, huv⟩ := hsu.form
          have kE := hev.out k hkl _ wr hE hsu
          clear hc hkid
          have hiff := holds_iff fs (l.getD k rD)
          rw [hno] at hiff
          generalize l.getD k rD = r at *
          rw [huv] at h5 kE
          unfold exAgg at kE
          unfold EvalPost at kE
          generalize evalV r.when fs nilS = V at *
          obtain ⟨f, c⟩ := V
          simp only at kE hiff
          have hbl := cell_lt h1
          simp only at hbl
          replace kE := Lib.hid kE
          clear huv hsu hno
          go_wp2_with fail
          refine kE.out.mono ?_
          rintro e w3 ⟨rfl, hE3⟩
          replace hE := hE.trans hE3
          clear hE3 kE h1 h2 h3 h4 h5 hbl
          by_cases q1 : c = 0
          · subst q1
            by_cases q2 : f.kind = 3
            · have q3 : ¬ f.n = 1 := fun h => by have := hiff.2 ⟨rfl, q2, h⟩; cases this
              have d2 : (f.kind == 3) = true := by simpa using q2
              have d3 : (f.n == 1) = false := by simpa using q3
              clear q2 q3 hiff
              go_wp2
              go_roundw
              case rel => exact ⟨k + 1, by omega, by go_num, hE.alloc _⟩
              case measure => simp [intOf]; omega
            · have d2 : (f.kind == 3) = false := by simpa using q2
              clear q2 hiff
              go_wp2
              go_roundw
              case rel => exact ⟨k + 1, by omega, by go_num, hE.alloc _⟩
              case measure => simp [intOf]; omega
          · have d1 : (c == 0) = false := by simpa using q1
            clear q1 hiff
            go_wp2
            go_roundw
            case rel => exact ⟨k + 1, by omega, by go_num, hE.alloc _⟩
            case measure => simp [intOf]; omega
        · have hkn : k = j := by omega
          subst hkn
          clear hlt
          have kW2 := Lib.hid (kW.out _ hE)
          go_wp2_with fail
          refine kW2.out.mono ?_
          rintro e w4 ⟨rfl, hE4⟩
          replace hE := hE.trans hE4
          clear hE4
          go_wp2
          go_ret
          exact ⟨rfl, hE⟩
end Go.Proofs.YtmoadonepkccbaaGreatDoor
