/- The walk of the law FeerulePruned. -/
import Derived.Test.YtmoadonepkccbaaGreatDoorFu
import Derived.Test.YtmoadonepkccbaaGreatDoorFn
import Derived.Test.YtmoadonepkccbaaGreatDoorFor
import Derived.Test.YtmoadonepkccbaaGreatDoorEk
namespace Go.Proofs.YtmoadonepkccbaaGreatDoor
open Go.RowKit
theorem why_ok {x : Ex} {fs : List Feat} (hp : x.parts.length ≤ 1000000) (hs : Shrt 400 x.parts) (hf : ∀ f ∈ fs, f.text.size ≤ 100000 ∧ -9223372036854775808 ≤ f.n ∧ f.n ≤ 9223372036854775807) : WhyOk fs (uniL x.occ) := by
  refine ⟨Nat.le_trans (uniL_len _) (Nat.le_trans (occ_len _) hp), fun a ha => ?_, hf⟩
  rw [mem_uniL] at ha
  obtain ⟨p, hpm, hpa⟩ := List.mem_flatMap.1 ha
  unfold occ1 at hpa
  split at hpa
  · obtain rfl := List.mem_singleton.1 hpa
    have h1 := hs p hpm
    have h2 : (bts p.name).length = p.name.size := rfl
    omega
  · cases hpa
theorem bd_tab {l : List RuleD} {fs : List Feat} {v : Value} (h : BdOk l fs) (hf : FtIn v fs) : TabOk l fs := by
  refine ⟨fun i hi => by have := h.parts i hi; omega, fun i hi => why_ok (by have := h.parts i hi; omega) (h.shrt i hi) fun f hm => ?_⟩
  obtain ⟨j, hj, rfl⟩ := List.getElem_of_mem hm
  have h1 := h.ft j hj
  rw [List.getD_eq_getElem?_getD, List.getElem?_eq_getElem hj, Option.getD_some] at h1
  have h2 := bounds_i64 (hf.1 _ hm).2
  exact ⟨by omega, h2⟩
theorem FtIn.at {v : Value} {l : List Feat} (h : FtIn v l) : ∀ i, i < l.length → (l.getD i fD).name.size ≤ 140737488355328 ∧ (l.getD i fD).text.size ≤ 140737488355328 := fun i hi => (h.1 _ (by rw [List.getD_eq_getElem?_getD, List.getElem?_eq_getElem hi, Option.getD_some]; exact List.getElem_mem hi)).1
set_option maxRecDepth 8000 in
set_option maxHeartbeats 4000000 in
theorem law_pruned (lv : Value) (l : List RuleD) (fv : Value) (fs : List Feat) (n : Int) (w : World) (g : Gw w) (hR : RulesM w lv l) (hO : RuOk lv l) (hF : FeatsL w fv fs) (hFi : FtIn fv fs) (_ : (Lit.int .i64 n).wf = true) : Calls Tryz.prog 6 #[lv, fv, .int .i64 n] w (OneV (.bool true) w) := by
  have kB := Lib.hid (bounded_any lv fv l fs w hR hO.at hF hFi.at)
  obtain ⟨lp, lc, rfl⟩ := hR.form
  obtain ⟨fp, fc, rfl⟩ := hF.form
  unfold BdPost at kB
  replace hR := Lib.hid hR
  replace hO := Lib.hid hO
  replace hF := Lib.hid hF
  replace hFi := Lib.hid hFi
  replace g := Lib.hid g
  go_enter Tryz.func6, Tryz.ntmps6
  go_wp2_with fail
  refine kB.out.mono ?_
  rintro e w1 ⟨b, rfl, hb, hE1⟩
  clear kB
  cases b with
  | false =>
    clear hb
    have kW := Lib.hid (awake_any w1 (g.out.ext hE1))
    go_wp2_with fail
    refine kW.out.mono ?_
    rintro e w2 ⟨rfl, hE2⟩
    have hE := hE1.trans hE2
    go_wp2
    go_ret
    exact ⟨rfl, hE⟩
  | true =>
    have hbd := hb rfl
    have htab := bd_tab hbd hFi.out
    have hF2 := hF.out.few (by have := hbd.ffew; omega)
    have hl := hbd.few
    have hpp := htab.parts
    have hpt := (prune_ok htab).parts
    have kP := Lib.hid (Prune_fn (.slice lp l.length lc) l w1 (hR.out.ext hE1) (by omega) hpp)
    have kA := Lib.hid (fun w2 (h : Ext w w2) => apply_any (.slice lp l.length lc) (.slice fp fs.length fc) l fs n w2 (g.out.ext h) (hR.out.ext h) (hF2.ext h) htab)
    have kA2 := Lib.hid (fun p c w2 (h : Ext w w2) (hr : RulesM w2 (.slice p (pruneV l).length c) (pruneV l)) => apply_any (.slice p (pruneV l).length c) (.slice fp fs.length fc) (pruneV l) fs n w2 (g.out.ext h) hr (hF2.ext h) (prune_ok htab))
    have kT := Lib.hid (fun w2 (h : Ext w w2) => total_any (.slice lp l.length lc) l w2 (hR.out.ext h) hpp)
    have kT2 := Lib.hid (fun p c w2 (hr : RulesM w2 (.slice p (pruneV l).length c) (pruneV l)) => total_any (.slice p (pruneV l).length c) (pruneV l) w2 hr hpt)
    have kW := Lib.hid (fun w2 (h : Ext w w2) => awake_any w2 (g.out.ext h))
    have hpl := prune_len l
    rw [prune_apply] at kA2
    rw [prune_tot] at kT2
    unfold PruneP at kP
    unfold LineP at kA kA2
    generalize pruneV l = pl at *
    generalize applyV l fs n = AV at *
    obtain ⟨⟨ar, aa, aw⟩, ac⟩ := AV
    simp only at kA kA2
    generalize totB l = tb at *
    have d1 : decide ((pl.length : Int) ≤ (l.length : Int)) = true := decide_eq_true (by omega)
    have d2 : decide (pl.length ≤ l.length) = true := decide_eq_true hpl
    have ets : (tb == tb) = true := by simp
    clear hb hbd htab hpp hpt hpl
    go_wp2_with fail
    refine kP.out.mono ?_
    rintro e w2 ⟨p, c, rfl, hr, hE2⟩
    replace hr := Lib.hid hr
    have hE := hE1.trans hE2
    clear hE1 hE2 kP
    go_wp2_with fail
    refine (kA.out _ hE).mono ?_
    rintro e w3 ⟨rfl, hE3⟩
    replace hr := Lib.hid (hr.out.ext hE3)
    replace hE := hE.trans hE3
    clear hE3 kA
    go_wp2_with fail
    have hB := Blk.new w3 #[.string ar, .int .i64 aa, .string aw] 30
    have hEa : Ext w3 (w3.alloc (.cells #[.string ar, .int .i64 aa, .string aw] 30)) := (Ext.refl _).alloc _
    refine (kA2.out p c _ (hE.trans hEa) (hr.out.ext hEa)).mono ?_
    rintro e w4 ⟨rfl, hE4⟩
    replace hB := hB.ext hE4
    replace hr := Lib.hid (hr.out.ext (hEa.trans hE4))
    replace hE := hE.trans (hEa.trans hE4)
    have x0 := hB.cell 0
    have x1 := hB.cell 1
    have x2 := hB.cell 2
    simp at x0 x1 x2
    have xs : w3.heap.size < w4.heap.size := hB.lt
    clear hE4 hEa kA2 hB
    go_wp2_with fail
    refine (kT2.out p c _ (hr.out.ext ((Ext.refl _).alloc _))).mono ?_
    rintro e w5 ⟨rfl, hE5⟩
    replace hE := hE.trans (Ext.trans ((Ext.refl _).alloc _) hE5)
    clear hE5 x0 x1 x2 xs kT2 hr
    go_wp2_with fail
    refine (kT.out _ hE).mono ?_
    rintro e w6 ⟨rfl, hE6⟩
    replace hE := hE.trans hE6
    clear hE6 kT
    go_wp2_with fail
    refine (kW.out _ hE).mono ?_
    rintro e w7 ⟨rfl, hE7⟩
    replace hE := hE.trans hE7
    clear hE7 kW
    go_wp2
    go_ret
    exact ⟨rfl, hE⟩
end Go.Proofs.YtmoadonepkccbaaGreatDoor
