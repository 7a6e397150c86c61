/- Contract of value at 'in' (a walk; printed by gen/valb.py in). -/
import Derived.Test.YtpdpjindmghfpaaGreatDoorEvm
import Derived.Deep.RegionHeld3
namespace Go.Proofs.YtpdpjindmghfpaaGreatDoor
open Go.RowKit
theorem optF_mkg {w w' : World} {R : Option Feat} {g : Feat} {ob : Bool} (hg : R.getD fD = g) (hob : R.isSome = ob) (h : Ext w w') : OptF R w (.returned (.tuple #[.agg #[.string g.name, .int .i64 g.kind, .int .i64 g.n, .string g.text], .bool ob])) w' := by subst hg; subst hob; exact ⟨rfl, h⟩
set_option maxRecDepth 8000 in
set_option maxHeartbeats 2000000 in
theorem val15 (l : List Feat) (S : Bool → ByteArray → Int → Int) (E : Nat) (nm tx : ByteArray) (n : Int) (bb off cp : Nat) (a : Ex) (r : List Ex) (w : World) (hk : Kid w l S E bb off a) (hr0 : 0 < r.length) (hr : r.length ≤ 100) (hcap : r.length + 1 ≤ cp) (kr : ∀ i, i < r.length → Kid w l S E bb (off + 5 + i * 5) (r.getD i exD)) (R : Option Feat) (hRn : a.ev l S = none → R = none) (hRs : ∀ f, a.ev l S = some f → R = Ex.ev.evIn l S f r) : Calls Tryz.prog 69 #[.pointer (some ⟨E, 0, none⟩), .agg #[.int .i64 15, .string nm, .string tx, .int .i64 n, .slice (some ⟨bb, off, none⟩) (r.length + 1) cp]] w (OptF R w) := by
  replace hRn := Lib.hid hRn
  replace hRs := Lib.hid hRs
  replace kr := Lib.hid kr
  have hE0 : Ext w w := Ext.refl w
  obtain ⟨qa, ca, hc, hP⟩ := hk
  obtain ⟨c0, c1, c2, c3, c4⟩ := hc.five
  have hbb : bb < w.heap.size := cell_lt c0
  have hbb1 : bb < w.heap.size + 1 := by omega
  replace hP := Lib.hid hP
  clear hc hE0
  go_enter Tryz.func69, Tryz.ntmps69
  go_wp2_with fail
  refine (hP.out _ (by repeat (first | with_reducible exact Ext.refl _ | with_reducible exact hE0 | with_reducible exact hE | with_reducible refine Ext.alloc ?_ _ | with_reducible refine Ext.drewN ?_ _ | with_reducible refine Ext.drew ?_ | ((with_reducible refine Ext.setCell ?_ ?side _); (case side => first | exact Nat.le_refl _ | (simp; done) | (simp; omega)))))).mono ?_
  intro e w1 h
  have hbz : Blk ((w.alloc (.cells #[.int .i64 15, .string nm, .string tx, .int .i64 n, .slice (some ⟨bb, off, none⟩) (r.length + 1) cp] 24)).alloc (.cells #[.string ⟨#[]⟩, .int .i64 0, .int .i64 0, .string ⟨#[]⟩] 43)) (w.heap.size + 1) #[.string ⟨#[]⟩, .int .i64 0, .int .i64 0, .string ⟨#[]⟩] 43 := Blk.new' _ _ _ _ (by simp)
  have hbx : Blk ((w.alloc (.cells #[.int .i64 15, .string nm, .string tx, .int .i64 n, .slice (some ⟨bb, off, none⟩) (r.length + 1) cp] 24)).alloc (.cells #[.string ⟨#[]⟩, .int .i64 0, .int .i64 0, .string ⟨#[]⟩] 43)) w.heap.size #[.int .i64 15, .string nm, .string tx, .int .i64 n, .slice (some ⟨bb, off, none⟩) (r.length + 1) cp] 24 := (Blk.new _ _ _).alloc _
  have hE : Ext w w1 := Ext.trans (by repeat (first | with_reducible exact Ext.refl _ | with_reducible exact hE0 | with_reducible exact hE | with_reducible refine Ext.alloc ?_ _ | with_reducible refine Ext.drewN ?_ _ | with_reducible refine Ext.drew ?_ | ((with_reducible refine Ext.setCell ?_ ?side _); (case side => first | exact Nat.le_refl _ | (simp; done) | (simp; omega))))) h.2
  replace hbz := Lib.hid (hbz.ext h.2)
  replace hbx := Lib.hid (hbx.ext h.2)
  obtain ⟨y0, y1, y2, y3⟩ : w1.cell? ⟨w.heap.size + 1, 0, none⟩ = some (.string ⟨#[]⟩) ∧ w1.cell? ⟨w.heap.size + 1, 1, none⟩ = some (.int .i64 0) ∧ w1.cell? ⟨w.heap.size + 1, 2, none⟩ = some (.int .i64 0) ∧ w1.cell? ⟨w.heap.size + 1, 3, none⟩ = some (.string ⟨#[]⟩) := by
    have h := hbz.out
    exact ⟨(h.cell 0).trans rfl, (h.cell 1).trans rfl, (h.cell 2).trans rfl, (h.cell 3).trans rfl⟩
  obtain ⟨f0, f1, f2, f3⟩ : w1.frozen? ⟨w.heap.size + 1, 0, none⟩ = false ∧ w1.frozen? ⟨w.heap.size + 1, 1, none⟩ = false ∧ w1.frozen? ⟨w.heap.size + 1, 2, none⟩ = false ∧ w1.frozen? ⟨w.heap.size + 1, 3, none⟩ = false := by
    have h := hbz.out
    exact ⟨h.fz 0, h.fz 1, h.fz 2, h.fz 3⟩
  obtain ⟨x0, x4⟩ : w1.cell? ⟨w.heap.size, 0, none⟩ = some (.int .i64 15) ∧ w1.cell? ⟨w.heap.size, 4, none⟩ = some (.slice (some ⟨bb, off, none⟩) (r.length + 1) cp) := by
    have h := hbx.out
    exact ⟨(h.cell 0).trans rfl, (h.cell 4).trans rfl⟩
  have hs0 : w.heap.size < w1.heap.size := cell_lt x0
  have hs1 : w.heap.size + 1 < w1.heap.size := cell_lt y0
  clear c0 c1 c2 c3 c4 hbb hbb1
  cases ho : a.ev l S with
  | none =>
    rw [ho] at h
    have hR2 := Lib.hid (hRn.out ho)
    obtain ⟨rfl, -⟩ := optF_none h
    clear h ho
    go_wp2
    exact bodyPost_ret (v := .tuple #[.agg #[.string ⟨#[]⟩, .int .i64 0, .int .i64 0, .string ⟨#[]⟩], .bool false]) (by first | (simp [results, Tryz.results69, go_sem, World.cell?_alloc_past, hs1, y0, y1, y2, y3]; done) | (simp [results, Tryz.results69, go_sem, y0, y1, y2, y3]; done) | simp [results, Tryz.results69, go_sem]) rfl (optF_mkn hR2.out (by repeat (first | with_reducible exact Ext.refl _ | with_reducible exact hE0 | with_reducible exact hE | with_reducible refine Ext.alloc ?_ _ | with_reducible refine Ext.drewN ?_ _ | with_reducible refine Ext.drew ?_ | ((with_reducible refine Ext.setCell ?_ ?side _); (case side => first | exact Nat.le_refl _ | (simp; done) | (simp; omega))))))
  | some f =>
    rw [ho] at h
    obtain ⟨rfl, -⟩ := optF_some h
    clear h
    have hR := Lib.hid (hRs.out f ho)
    have hI := Lib.hid (fun w9 (h9 : Ext w w9) => in_any l S E bb (off + 5) (cp - 1) f r w9 (by omega) (fun i hi => (kr.out i hi).ext h9) R hR.out)
    clear ho hRs hRn
    go_wp2_with fail
    have hF := Lib.hid (Blk.new w1 #[.string f.name, .int .i64 f.kind, .int .i64 f.n, .string f.text] 43)
    have hE9 : Ext w1 (w1.alloc (.cells #[.string f.name, .int .i64 f.kind, .int .i64 f.n, .string f.text] 43)) := (by repeat (first | with_reducible exact Ext.refl _ | with_reducible exact hE0 | with_reducible exact hE | with_reducible refine Ext.alloc ?_ _ | with_reducible refine Ext.drewN ?_ _ | with_reducible refine Ext.drew ?_ | ((with_reducible refine Ext.setCell ?_ ?side _); (case side => first | exact Nat.le_refl _ | (simp; done) | (simp; omega)))))
    generalize w1.alloc (.cells #[.string f.name, .int .i64 f.kind, .int .i64 f.n, .string f.text] 43) = w9 at *
    have t0 : w9.cell? ⟨w1.heap.size, 0, none⟩ = some (.string f.name) := (hF.out.cell 0).trans rfl
    have t1 : w9.cell? ⟨w1.heap.size, 1, none⟩ = some (.int .i64 f.kind) := (hF.out.cell 1).trans rfl
    have t2 : w9.cell? ⟨w1.heap.size, 2, none⟩ = some (.int .i64 f.n) := (hF.out.cell 2).trans rfl
    have t3 : w9.cell? ⟨w1.heap.size, 3, none⟩ = some (.string f.text) := (hF.out.cell 3).trans rfl
    replace x4 := hE9.get x4
    have hne : ¬ w.heap.size + 1 = w1.heap.size := by omega
    have hne2 : ¬ w.heap.size = w1.heap.size := by omega
    clear y0 y1 y2 y3 f0 f1 f2 f3 hs1 x0 hs0
    replace hbz := Lib.hid (hbz.out.ext hE9)
    replace hE := hE.trans hE9
    have k1 : ¬ cp = 1 := by omega
    have k2 : 1 ≤ cp := by omega
    have k3 : r.length + 1 ≤ cp := hcap
    have k4 : (1 : Int) ≤ (r.length : Int) + 1 := by omega
    clear hE9 hF hbx hR hcap
    obtain ⟨g, hg⟩ : ∃ g, R.getD fD = g := ⟨_, rfl⟩
    obtain ⟨ob, hob⟩ : ∃ ob, R.isSome = ob := ⟨_, rfl⟩
    unfold OptF ftAgg at hI
    rw [hg, hob] at hI
    replace hg := Lib.hid hg
    replace hob := Lib.hid hob
    go_region_held3 (fun w' => w'.cell? ⟨w1.heap.size, 0, none⟩ = some (.string f.name) ∧ w'.cell? ⟨w1.heap.size, 1, none⟩ = some (.int .i64 f.kind) ∧ w'.cell? ⟨w1.heap.size, 2, none⟩ = some (.int .i64 f.n) ∧ w'.cell? ⟨w1.heap.size, 3, none⟩ = some (.string f.text) ∧ w'.cell? ⟨w.heap.size, 4, none⟩ = some (.slice (some ⟨bb, off, none⟩) (r.length + 1) cp)) (first | exact ⟨t0, t1, t2, t3, x4⟩ | exact ⟨(World.cell?_setCell_far _ _ _ _ (by first | (simp; done) | (simp; omega))).trans ((World.cell?_setCell_far _ _ _ _ (by first | (simp; done) | (simp; omega))).trans ((World.cell?_setCell_far _ _ _ _ (by first | (simp; done) | (simp; omega))).trans ((World.cell?_setCell_far _ _ _ _ (by first | (simp; done) | (simp; omega))).trans t0))), (World.cell?_setCell_far _ _ _ _ (by first | (simp; done) | (simp; omega))).trans ((World.cell?_setCell_far _ _ _ _ (by first | (simp; done) | (simp; omega))).trans ((World.cell?_setCell_far _ _ _ _ (by first | (simp; done) | (simp; omega))).trans ((World.cell?_setCell_far _ _ _ _ (by first | (simp; done) | (simp; omega))).trans t1))), (World.cell?_setCell_far _ _ _ _ (by first | (simp; done) | (simp; omega))).trans ((World.cell?_setCell_far _ _ _ _ (by first | (simp; done) | (simp; omega))).trans ((World.cell?_setCell_far _ _ _ _ (by first | (simp; done) | (simp; omega))).trans ((World.cell?_setCell_far _ _ _ _ (by first | (simp; done) | (simp; omega))).trans t2))), (World.cell?_setCell_far _ _ _ _ (by first | (simp; done) | (simp; omega))).trans ((World.cell?_setCell_far _ _ _ _ (by first | (simp; done) | (simp; omega))).trans ((World.cell?_setCell_far _ _ _ _ (by first | (simp; done) | (simp; omega))).trans ((World.cell?_setCell_far _ _ _ _ (by first | (simp; done) | (simp; omega))).trans t3))), (World.cell?_setCell_far _ _ _ _ (by first | (simp; done) | (simp; omega))).trans ((World.cell?_setCell_far _ _ _ _ (by first | (simp; done) | (simp; omega))).trans ((World.cell?_setCell_far _ _ _ _ (by first | (simp; done) | (simp; omega))).trans ((World.cell?_setCell_far _ _ _ _ (by first | (simp; done) | (simp; omega))).trans x4)))⟩) ((go_at_call 96; refine (hI.out _ hE.drew).mono ?_; rintro e w3 ⟨rfl, hE3⟩; have hS : Ext w9 w3 := Ext.trans (Ext.refl _).drew hE3; have t0 := hS.get t0; have t1 := hS.get t1; have t2 := hS.get t2; have t3 := hS.get t3; have x4 := hS.get x4; have hbz := Lib.hid (hbz.out.ext hS); have hE := hE.trans hS; have y0 : w3.cell? ⟨w.heap.size + 1, 0, none⟩ = some (.string ⟨#[]⟩) := (hbz.out.cell 0).trans rfl; have y1 : w3.cell? ⟨w.heap.size + 1, 1, none⟩ = some (.int .i64 0) := (hbz.out.cell 1).trans rfl; have y2 : w3.cell? ⟨w.heap.size + 1, 2, none⟩ = some (.int .i64 0) := (hbz.out.cell 2).trans rfl; have y3 : w3.cell? ⟨w.heap.size + 1, 3, none⟩ = some (.string ⟨#[]⟩) := (hbz.out.cell 3).trans rfl; have f0 := hbz.out.fz 0; have f1 := hbz.out.fz 1; have f2 := hbz.out.fz 2; have f3 := hbz.out.fz 3; clear hS hE3))
    all_goals go_wp2
    all_goals exact bodyPost_ret (v := .tuple #[.agg #[.string g.name, .int .i64 g.kind, .int .i64 g.n, .string g.text], .bool ob]) (by first | (simp [results, Tryz.results69, go_sem, y0, y1, y2, y3]; done) | simp [results, Tryz.results69, go_sem]) rfl (optF_mkg hg.out hob.out (by repeat (first | with_reducible exact Ext.refl _ | with_reducible exact hE0 | with_reducible exact hE | with_reducible refine Ext.alloc ?_ _ | with_reducible refine Ext.drewN ?_ _ | with_reducible refine Ext.drew ?_ | ((with_reducible refine Ext.setCell ?_ ?side _); (case side => first | exact Nat.le_refl _ | (simp; done) | (simp; omega))))))
end Go.Proofs.YtpdpjindmghfpaaGreatDoor
