/- Contract of law36's reference Same on equal tables; the walk of the law FeerulePrunes (printed by gen/g14.py). -/
import Derived.Test.YtmoadonepkccbaaGreatDoorGe
import Derived.Test.YtmoadonepkccbaaGreatDoorGs
import Derived.Test.YtmoadonepkccbaaGreatDoorFlp
namespace Go.Proofs.YtmoadonepkccbaaGreatDoor
open Go.RowKit
set_option maxRecDepth 8000 in
set_option maxHeartbeats 4000000 in
theorem law_prunes (lv : Value) (l : List RuleD) (w : World) (g : Gw w) (hR : RulesM w lv l) (hO : RuOk lv l) : Calls Tryz.prog 5 #[lv] w (OneV (.bool true) w) := by
  have hFn : FeatsL w (.slice none 0 0) [] := ⟨by simp, Or.inl ⟨none, 0, rfl, rfl⟩⟩
  have kB := Lib.hid (bounded_any lv (.slice none 0 0) l [] w hR hO.at hFn (fun i hi => absurd hi (by simp)))
  obtain ⟨lp, lc, rfl⟩ := hR.form
  unfold BdPost at kB
  have hRo := Lib.hid hO.at
  replace hR := Lib.hid hR
  replace g := Lib.hid g
  clear hFn hO
  go_enter Tryz.func5, Tryz.ntmps5
  go_wp2_with fail
  refine kB.out.mono ?_
  rintro e w1 ⟨b, rfl, hb, hE⟩
  clear kB
  cases b with
  | false =>
    clear hb
    have kW := Lib.hid (awake_any w1 (g.out.ext hE))
    go_wp2_with fail
    refine kW.out.mono ?_
    rintro e w2 ⟨rfl, hE2⟩
    replace hE := hE.trans hE2
    clear hE2 kW
    go_wp2
    go_ret
    exact ⟨rfl, hE⟩
  | true =>
    have hbd := hb rfl
    have hl := hbd.few
    have hI : FoIn l := fun i hi => ⟨(hRo.out i hi).1, by have := hbd.parts i hi; omega⟩
    have hpp : ∀ i, i < l.length → (l.getD i rD).when.parts.length ≤ 1000000 := fun i hi => by have := hbd.parts i hi; omega
    have kT := Lib.hid (fun w2 (h : Ext w w2) => total_any (.slice lp l.length lc) l w2 (hR.out.ext h) hpp)
    have kT2 := Lib.hid (fun w2 (h : Ext w w2) => rtotal_any (.slice lp l.length lc) l w2 (hR.out.ext h) hI (by omega))
    have kP := Lib.hid (fun w2 (h : Ext w w2) => Prune_fn (.slice lp l.length lc) l w2 (hR.out.ext h) (by omega) hpp)
    have kP2 := Lib.hid (fun w2 (h : Ext w w2) => rPrune_fn (.slice lp l.length lc) l w2 (hR.out.ext h) hI (by omega))
    have kW := Lib.hid (fun w2 (h : Ext w w2) => awake_any w2 (g.out.ext h))
    have hpl := prune_len l
    unfold PruneP at kP kP2
    generalize pruneV l = pl at *
    generalize totB l = tb at *
    have ets : (tb == tb) = true := by simp
    have hpl2 := Lib.hid (show pl.length ≤ 1000000 by omega)
    clear hb hbd hI hpp hpl
    go_wp2_with fail
    refine (kT.out _ hE).mono ?_
    rintro e w2 ⟨rfl, hE2⟩
    replace hE := hE.trans hE2
    clear hE2 kT
    go_wp2_with fail
    refine (kT2.out _ hE).mono ?_
    rintro e w3 ⟨rfl, hE3⟩
    replace hE := hE.trans hE3
    clear hE3 kT2
    go_wp2_with fail
    refine (kP.out _ hE).mono ?_
    rintro e w4 ⟨p1, c1, rfl, hr1, hE4⟩
    replace hE := hE.trans hE4
    clear hE4 kP
    replace hr1 := Lib.hid hr1
    go_wp2_with fail
    refine (kP2.out _ hE).mono ?_
    rintro e w5 ⟨p2, c2, rfl, hr2, hE5⟩
    replace hE := hE.trans hE5
    replace hr1 := Lib.hid (hr1.out.ext hE5)
    replace hr2 := Lib.hid hr2
    clear hE5 kP2
    go_wp2_with fail
    refine (rSames_any _ _ pl w5 hr1.out hr2.out hpl2.out).mono ?_
    rintro e w6 ⟨rfl, hE6⟩
    replace hE := hE.trans hE6
    clear hE6 hr1 hr2
    go_wp2_with fail
    refine (kW.out _ hE).mono ?_
    rintro e w7 ⟨rfl, hE7⟩
    replace hE := hE.trans hE7
    clear hE7 kW
    go_wp2
    go_ret
    exact ⟨rfl, hE⟩
end Go.Proofs.YtmoadonepkccbaaGreatDoor
