/- Contracts of value at operators with arguments (walks; printed by gen/valb.py). -/
import Derived.Test.YtpdpjindmghfpaaGreatDoorEvl
import Derived.Deep.RegionHeld3
namespace Go.Proofs.YtpdpjindmghfpaaGreatDoor
open Go.RowKit
set_option maxRecDepth 8000 in
set_option maxHeartbeats 2000000 in
theorem val4 (l : List Feat) (S : Bool → ByteArray → Int → Int) (E : Nat) (nm tx : ByteArray) (n : Int) (bb off cp : Nat) (a : Ex) (w : World) (hk : Kid w l S E bb off a) (R : Option Feat) (hRn : a.ev l S = none → R = none) (hRs : ∀ f, a.ev l S = some f → R = some (truthF (decide (f.n = 0)))) : Calls Tryz.prog 69 #[.pointer (some ⟨E, 0, none⟩), .agg #[.int .i64 4, .string nm, .string tx, .int .i64 n, .slice (some ⟨bb, off, none⟩) 1 cp]] w (OptF R w) := by
  replace hRn := Lib.hid hRn
  replace hRs := Lib.hid hRs
  have hE0 : Ext w w := Ext.refl w
  obtain ⟨qa, ca, hc, hP⟩ := hk
  obtain ⟨c0, c1, c2, c3, c4⟩ := hc.five
  have hbb : bb < w.heap.size := cell_lt c0
  have hbb1 : bb < w.heap.size + 1 := by omega
  replace hP := Lib.hid hP
  clear hc hE0
  go_enter Tryz.func69, Tryz.ntmps69
  go_wp2_with fail
  refine (hP.out _ (by repeat (first | with_reducible exact Ext.refl _ | with_reducible exact hE0 | with_reducible exact hE | with_reducible refine Ext.alloc ?_ _ | with_reducible refine Ext.drewN ?_ _ | with_reducible refine Ext.drew ?_ | ((with_reducible refine Ext.setCell ?_ ?side _); (case side => first | exact Nat.le_refl _ | (simp; done) | (simp; omega)))))).mono ?_
  intro e w1 h
  have hbz : Blk ((w.alloc (.cells #[.int .i64 4, .string nm, .string tx, .int .i64 n, .slice (some ⟨bb, off, none⟩) 1 cp] 24)).alloc (.cells #[.string ⟨#[]⟩, .int .i64 0, .int .i64 0, .string ⟨#[]⟩] 43)) (w.heap.size + 1) #[.string ⟨#[]⟩, .int .i64 0, .int .i64 0, .string ⟨#[]⟩] 43 := Blk.new' _ _ _ _ (by simp)
  have hbx : Blk ((w.alloc (.cells #[.int .i64 4, .string nm, .string tx, .int .i64 n, .slice (some ⟨bb, off, none⟩) 1 cp] 24)).alloc (.cells #[.string ⟨#[]⟩, .int .i64 0, .int .i64 0, .string ⟨#[]⟩] 43)) w.heap.size #[.int .i64 4, .string nm, .string tx, .int .i64 n, .slice (some ⟨bb, off, none⟩) 1 cp] 24 := (Blk.new _ _ _).alloc _
  have hE : Ext w w1 := Ext.trans (by repeat (first | with_reducible exact Ext.refl _ | with_reducible exact hE0 | with_reducible exact hE | with_reducible refine Ext.alloc ?_ _ | with_reducible refine Ext.drewN ?_ _ | with_reducible refine Ext.drew ?_ | ((with_reducible refine Ext.setCell ?_ ?side _); (case side => first | exact Nat.le_refl _ | (simp; done) | (simp; omega))))) h.2
  replace hbz := Lib.hid (hbz.ext h.2)
  replace hbx := Lib.hid (hbx.ext h.2)
  obtain ⟨y0, y1, y2, y3⟩ : w1.cell? ⟨w.heap.size + 1, 0, none⟩ = some (.string ⟨#[]⟩) ∧ w1.cell? ⟨w.heap.size + 1, 1, none⟩ = some (.int .i64 0) ∧ w1.cell? ⟨w.heap.size + 1, 2, none⟩ = some (.int .i64 0) ∧ w1.cell? ⟨w.heap.size + 1, 3, none⟩ = some (.string ⟨#[]⟩) := by
    have h := hbz.out
    exact ⟨(h.cell 0).trans rfl, (h.cell 1).trans rfl, (h.cell 2).trans rfl, (h.cell 3).trans rfl⟩
  obtain ⟨f0, f1, f2, f3⟩ : w1.frozen? ⟨w.heap.size + 1, 0, none⟩ = false ∧ w1.frozen? ⟨w.heap.size + 1, 1, none⟩ = false ∧ w1.frozen? ⟨w.heap.size + 1, 2, none⟩ = false ∧ w1.frozen? ⟨w.heap.size + 1, 3, none⟩ = false := by
    have h := hbz.out
    exact ⟨h.fz 0, h.fz 1, h.fz 2, h.fz 3⟩
  obtain ⟨x0, x4⟩ : w1.cell? ⟨w.heap.size, 0, none⟩ = some (.int .i64 4) ∧ w1.cell? ⟨w.heap.size, 4, none⟩ = some (.slice (some ⟨bb, off, none⟩) 1 cp) := by
    have h := hbx.out
    exact ⟨(h.cell 0).trans rfl, (h.cell 4).trans rfl⟩
  have hs0 : w.heap.size < w1.heap.size := cell_lt x0
  have hs1 : w.heap.size + 1 < w1.heap.size := cell_lt y0
  clear c0 c1 c2 c3 c4 hbb hbb1
  cases ho : a.ev l S with
  | none =>
    rw [ho] at h
    have hR2 := Lib.hid (hRn.out ho)
    obtain ⟨rfl, -⟩ := optF_none h
    clear h ho
    go_wp2
    exact bodyPost_ret (v := .tuple #[.agg #[.string ⟨#[]⟩, .int .i64 0, .int .i64 0, .string ⟨#[]⟩], .bool false]) (by first | (simp [results, Tryz.results69, go_sem, World.cell?_alloc_past, hs1, y0, y1, y2, y3]; done) | (simp [results, Tryz.results69, go_sem, y0, y1, y2, y3]; done) | simp [results, Tryz.results69, go_sem]) rfl (optF_mkn hR2.out (by repeat (first | with_reducible exact Ext.refl _ | with_reducible exact hE0 | with_reducible exact hE | with_reducible refine Ext.alloc ?_ _ | with_reducible refine Ext.drewN ?_ _ | with_reducible refine Ext.drew ?_ | ((with_reducible refine Ext.setCell ?_ ?side _); (case side => first | exact Nat.le_refl _ | (simp; done) | (simp; omega))))))
  | some f =>
    rw [ho] at h
    obtain ⟨rfl, -⟩ := optF_some h
    clear h
    have hR := Lib.hid (hRs.out f ho)
    clear ho hRs hRn
    by_cases h0 : f.n = 0
    · have g0 : (f.n == 0) = true := by simp [h0]
      replace hR := Lib.hid (show R = some (truthF true) by rw [hR.out]; simp [h0])
      clear h0
      go_wp2_with fail
      refine (truth_t _).mono ?_
      rintro e w2 ⟨rfl, hE2⟩
      clear y0 y1 y2 y3 f0 f1 f2 f3 hs1 x0 x4 hs0
      obtain ⟨y0, y1, y2, y3⟩ : w2.cell? ⟨w.heap.size + 1, 0, none⟩ = some (.string ⟨#[]⟩) ∧ w2.cell? ⟨w.heap.size + 1, 1, none⟩ = some (.int .i64 0) ∧ w2.cell? ⟨w.heap.size + 1, 2, none⟩ = some (.int .i64 0) ∧ w2.cell? ⟨w.heap.size + 1, 3, none⟩ = some (.string ⟨#[]⟩) := by
        have h := hbz.out.ext (Ext.trans (by repeat (first | with_reducible exact Ext.refl _ | with_reducible exact hE0 | with_reducible exact hE | with_reducible refine Ext.alloc ?_ _ | with_reducible refine Ext.drewN ?_ _ | with_reducible refine Ext.drew ?_ | ((with_reducible refine Ext.setCell ?_ ?side _); (case side => first | exact Nat.le_refl _ | (simp; done) | (simp; omega))))) hE2)
        exact ⟨(h.cell 0).trans rfl, (h.cell 1).trans rfl, (h.cell 2).trans rfl, (h.cell 3).trans rfl⟩
      obtain ⟨f0, f1, f2, f3⟩ : w2.frozen? ⟨w.heap.size + 1, 0, none⟩ = false ∧ w2.frozen? ⟨w.heap.size + 1, 1, none⟩ = false ∧ w2.frozen? ⟨w.heap.size + 1, 2, none⟩ = false ∧ w2.frozen? ⟨w.heap.size + 1, 3, none⟩ = false := by
        have h := hbz.out.ext (Ext.trans (by repeat (first | with_reducible exact Ext.refl _ | with_reducible exact hE0 | with_reducible exact hE | with_reducible refine Ext.alloc ?_ _ | with_reducible refine Ext.drewN ?_ _ | with_reducible refine Ext.drew ?_ | ((with_reducible refine Ext.setCell ?_ ?side _); (case side => first | exact Nat.le_refl _ | (simp; done) | (simp; omega))))) hE2)
        exact ⟨h.fz 0, h.fz 1, h.fz 2, h.fz 3⟩
      replace hE : Ext w w2 := Ext.trans (by repeat (first | with_reducible exact Ext.refl _ | with_reducible exact hE0 | with_reducible exact hE | with_reducible refine Ext.alloc ?_ _ | with_reducible refine Ext.drewN ?_ _ | with_reducible refine Ext.drew ?_ | ((with_reducible refine Ext.setCell ?_ ?side _); (case side => first | exact Nat.le_refl _ | (simp; done) | (simp; omega))))) hE2
      have hs1 : w.heap.size + 1 < w2.heap.size := cell_lt y0
      clear hE2 hbz hbx
      go_wp2
      exact bodyPost_ret (v := .tuple #[.agg #[.string ⟨#[]⟩, .int .i64 3, .int .i64 1, .string ⟨#[]⟩], .bool true]) (by first | (simp [results, Tryz.results69, go_sem, y0, y1, y2, y3]; done) | (simp [results, Tryz.results69, go_sem, y0, y1, y2, y3]; done) | simp [results, Tryz.results69, go_sem]) rfl (optF_mks (f := truthF true) hR.out (by repeat (first | with_reducible exact Ext.refl _ | with_reducible exact hE0 | with_reducible exact hE | with_reducible refine Ext.alloc ?_ _ | with_reducible refine Ext.drewN ?_ _ | with_reducible refine Ext.drew ?_ | ((with_reducible refine Ext.setCell ?_ ?side _); (case side => first | exact Nat.le_refl _ | (simp; done) | (simp; omega))))))
    · have g0 : (f.n == 0) = false := by simp [h0]
      replace hR := Lib.hid (show R = some (truthF false) by rw [hR.out]; simp [h0])
      clear h0
      go_wp2_with fail
      refine (truth_f _).mono ?_
      rintro e w2 ⟨rfl, hE2⟩
      clear y0 y1 y2 y3 f0 f1 f2 f3 hs1 x0 x4 hs0
      obtain ⟨y0, y1, y2, y3⟩ : w2.cell? ⟨w.heap.size + 1, 0, none⟩ = some (.string ⟨#[]⟩) ∧ w2.cell? ⟨w.heap.size + 1, 1, none⟩ = some (.int .i64 0) ∧ w2.cell? ⟨w.heap.size + 1, 2, none⟩ = some (.int .i64 0) ∧ w2.cell? ⟨w.heap.size + 1, 3, none⟩ = some (.string ⟨#[]⟩) := by
        have h := hbz.out.ext (Ext.trans (by repeat (first | with_reducible exact Ext.refl _ | with_reducible exact hE0 | with_reducible exact hE | with_reducible refine Ext.alloc ?_ _ | with_reducible refine Ext.drewN ?_ _ | with_reducible refine Ext.drew ?_ | ((with_reducible refine Ext.setCell ?_ ?side _); (case side => first | exact Nat.le_refl _ | (simp; done) | (simp; omega))))) hE2)
        exact ⟨(h.cell 0).trans rfl, (h.cell 1).trans rfl, (h.cell 2).trans rfl, (h.cell 3).trans rfl⟩
      obtain ⟨f0, f1, f2, f3⟩ : w2.frozen? ⟨w.heap.size + 1, 0, none⟩ = false ∧ w2.frozen? ⟨w.heap.size + 1, 1, none⟩ = false ∧ w2.frozen? ⟨w.heap.size + 1, 2, none⟩ = false ∧ w2.frozen? ⟨w.heap.size + 1, 3, none⟩ = false := by
        have h := hbz.out.ext (Ext.trans (by repeat (first | with_reducible exact Ext.refl _ | with_reducible exact hE0 | with_reducible exact hE | with_reducible refine Ext.alloc ?_ _ | with_reducible refine Ext.drewN ?_ _ | with_reducible refine Ext.drew ?_ | ((with_reducible refine Ext.setCell ?_ ?side _); (case side => first | exact Nat.le_refl _ | (simp; done) | (simp; omega))))) hE2)
        exact ⟨h.fz 0, h.fz 1, h.fz 2, h.fz 3⟩
      replace hE : Ext w w2 := Ext.trans (by repeat (first | with_reducible exact Ext.refl _ | with_reducible exact hE0 | with_reducible exact hE | with_reducible refine Ext.alloc ?_ _ | with_reducible refine Ext.drewN ?_ _ | with_reducible refine Ext.drew ?_ | ((with_reducible refine Ext.setCell ?_ ?side _); (case side => first | exact Nat.le_refl _ | (simp; done) | (simp; omega))))) hE2
      have hs1 : w.heap.size + 1 < w2.heap.size := cell_lt y0
      clear hE2 hbz hbx
      go_wp2
      exact bodyPost_ret (v := .tuple #[.agg #[.string ⟨#[]⟩, .int .i64 3, .int .i64 0, .string ⟨#[]⟩], .bool true]) (by first | (simp [results, Tryz.results69, go_sem, y0, y1, y2, y3]; done) | (simp [results, Tryz.results69, go_sem, y0, y1, y2, y3]; done) | simp [results, Tryz.results69, go_sem]) rfl (optF_mks (f := truthF false) hR.out (by repeat (first | with_reducible exact Ext.refl _ | with_reducible exact hE0 | with_reducible exact hE | with_reducible refine Ext.alloc ?_ _ | with_reducible refine Ext.drewN ?_ _ | with_reducible refine Ext.drew ?_ | ((with_reducible refine Ext.setCell ?_ ?side _); (case side => first | exact Nat.le_refl _ | (simp; done) | (simp; omega))))))
set_option maxRecDepth 8000 in
set_option maxHeartbeats 2000000 in
theorem val5 (l : List Feat) (S : Bool → ByteArray → Int → Int) (E : Nat) (nm tx : ByteArray) (n : Int) (bb off cp : Nat) (a : Ex) (w : World) (hk : Kid w l S E bb off a) (R : Option Feat) (hRn : a.ev l S = none → R = none) (hRs : ∀ f, a.ev l S = some f → R = some (numF (-f.n)) ∧ nbrB f.n = true) : Calls Tryz.prog 69 #[.pointer (some ⟨E, 0, none⟩), .agg #[.int .i64 5, .string nm, .string tx, .int .i64 n, .slice (some ⟨bb, off, none⟩) 1 cp]] w (OptF R w) := by
  replace hRn := Lib.hid hRn
  replace hRs := Lib.hid hRs
  have hE0 : Ext w w := Ext.refl w
  obtain ⟨qa, ca, hc, hP⟩ := hk
  obtain ⟨c0, c1, c2, c3, c4⟩ := hc.five
  have hbb : bb < w.heap.size := cell_lt c0
  have hbb1 : bb < w.heap.size + 1 := by omega
  replace hP := Lib.hid hP
  clear hc hE0
  go_enter Tryz.func69, Tryz.ntmps69
  go_wp2_with fail
  refine (hP.out _ (by repeat (first | with_reducible exact Ext.refl _ | with_reducible exact hE0 | with_reducible exact hE | with_reducible refine Ext.alloc ?_ _ | with_reducible refine Ext.drewN ?_ _ | with_reducible refine Ext.drew ?_ | ((with_reducible refine Ext.setCell ?_ ?side _); (case side => first | exact Nat.le_refl _ | (simp; done) | (simp; omega)))))).mono ?_
  intro e w1 h
  have hbz : Blk ((w.alloc (.cells #[.int .i64 5, .string nm, .string tx, .int .i64 n, .slice (some ⟨bb, off, none⟩) 1 cp] 24)).alloc (.cells #[.string ⟨#[]⟩, .int .i64 0, .int .i64 0, .string ⟨#[]⟩] 43)) (w.heap.size + 1) #[.string ⟨#[]⟩, .int .i64 0, .int .i64 0, .string ⟨#[]⟩] 43 := Blk.new' _ _ _ _ (by simp)
  have hbx : Blk ((w.alloc (.cells #[.int .i64 5, .string nm, .string tx, .int .i64 n, .slice (some ⟨bb, off, none⟩) 1 cp] 24)).alloc (.cells #[.string ⟨#[]⟩, .int .i64 0, .int .i64 0, .string ⟨#[]⟩] 43)) w.heap.size #[.int .i64 5, .string nm, .string tx, .int .i64 n, .slice (some ⟨bb, off, none⟩) 1 cp] 24 := (Blk.new _ _ _).alloc _
  have hE : Ext w w1 := Ext.trans (by repeat (first | with_reducible exact Ext.refl _ | with_reducible exact hE0 | with_reducible exact hE | with_reducible refine Ext.alloc ?_ _ | with_reducible refine Ext.drewN ?_ _ | with_reducible refine Ext.drew ?_ | ((with_reducible refine Ext.setCell ?_ ?side _); (case side => first | exact Nat.le_refl _ | (simp; done) | (simp; omega))))) h.2
  replace hbz := Lib.hid (hbz.ext h.2)
  replace hbx := Lib.hid (hbx.ext h.2)
  obtain ⟨y0, y1, y2, y3⟩ : w1.cell? ⟨w.heap.size + 1, 0, none⟩ = some (.string ⟨#[]⟩) ∧ w1.cell? ⟨w.heap.size + 1, 1, none⟩ = some (.int .i64 0) ∧ w1.cell? ⟨w.heap.size + 1, 2, none⟩ = some (.int .i64 0) ∧ w1.cell? ⟨w.heap.size + 1, 3, none⟩ = some (.string ⟨#[]⟩) := by
    have h := hbz.out
    exact ⟨(h.cell 0).trans rfl, (h.cell 1).trans rfl, (h.cell 2).trans rfl, (h.cell 3).trans rfl⟩
  obtain ⟨f0, f1, f2, f3⟩ : w1.frozen? ⟨w.heap.size + 1, 0, none⟩ = false ∧ w1.frozen? ⟨w.heap.size + 1, 1, none⟩ = false ∧ w1.frozen? ⟨w.heap.size + 1, 2, none⟩ = false ∧ w1.frozen? ⟨w.heap.size + 1, 3, none⟩ = false := by
    have h := hbz.out
    exact ⟨h.fz 0, h.fz 1, h.fz 2, h.fz 3⟩
  obtain ⟨x0, x4⟩ : w1.cell? ⟨w.heap.size, 0, none⟩ = some (.int .i64 5) ∧ w1.cell? ⟨w.heap.size, 4, none⟩ = some (.slice (some ⟨bb, off, none⟩) 1 cp) := by
    have h := hbx.out
    exact ⟨(h.cell 0).trans rfl, (h.cell 4).trans rfl⟩
  have hs0 : w.heap.size < w1.heap.size := cell_lt x0
  have hs1 : w.heap.size + 1 < w1.heap.size := cell_lt y0
  clear c0 c1 c2 c3 c4 hbb hbb1
  cases ho : a.ev l S with
  | none =>
    rw [ho] at h
    have hR2 := Lib.hid (hRn.out ho)
    obtain ⟨rfl, -⟩ := optF_none h
    clear h ho
    go_wp2
    exact bodyPost_ret (v := .tuple #[.agg #[.string ⟨#[]⟩, .int .i64 0, .int .i64 0, .string ⟨#[]⟩], .bool false]) (by first | (simp [results, Tryz.results69, go_sem, World.cell?_alloc_past, hs1, y0, y1, y2, y3]; done) | (simp [results, Tryz.results69, go_sem, y0, y1, y2, y3]; done) | simp [results, Tryz.results69, go_sem]) rfl (optF_mkn hR2.out (by repeat (first | with_reducible exact Ext.refl _ | with_reducible exact hE0 | with_reducible exact hE | with_reducible refine Ext.alloc ?_ _ | with_reducible refine Ext.drewN ?_ _ | with_reducible refine Ext.drew ?_ | ((with_reducible refine Ext.setCell ?_ ?side _); (case side => first | exact Nat.le_refl _ | (simp; done) | (simp; omega))))))
  | some f =>
    rw [ho] at h
    obtain ⟨rfl, -⟩ := optF_some h
    clear h
    have hR := Lib.hid (hRs.out f ho).1
    have hnb := (nbr_iff _).1 (hRs.out f ho).2
    have e1 : wrap64 (-f.n) = -f.n := wrap64_id _ (by omega) (by omega)
    clear ho hRs hRn hnb
    go_wp2_with fail
    refine (number_any (-f.n) _).mono ?_
    rintro e w2 ⟨rfl, hE2⟩
    clear y0 y1 y2 y3 f0 f1 f2 f3 hs1 x0 x4 hs0 e1
    obtain ⟨y0, y1, y2, y3⟩ : w2.cell? ⟨w.heap.size + 1, 0, none⟩ = some (.string ⟨#[]⟩) ∧ w2.cell? ⟨w.heap.size + 1, 1, none⟩ = some (.int .i64 0) ∧ w2.cell? ⟨w.heap.size + 1, 2, none⟩ = some (.int .i64 0) ∧ w2.cell? ⟨w.heap.size + 1, 3, none⟩ = some (.string ⟨#[]⟩) := by
      have h := hbz.out.ext (Ext.trans (by repeat (first | with_reducible exact Ext.refl _ | with_reducible exact hE0 | with_reducible exact hE | with_reducible refine Ext.alloc ?_ _ | with_reducible refine Ext.drewN ?_ _ | with_reducible refine Ext.drew ?_ | ((with_reducible refine Ext.setCell ?_ ?side _); (case side => first | exact Nat.le_refl _ | (simp; done) | (simp; omega))))) hE2)
      exact ⟨(h.cell 0).trans rfl, (h.cell 1).trans rfl, (h.cell 2).trans rfl, (h.cell 3).trans rfl⟩
    obtain ⟨f0, f1, f2, f3⟩ : w2.frozen? ⟨w.heap.size + 1, 0, none⟩ = false ∧ w2.frozen? ⟨w.heap.size + 1, 1, none⟩ = false ∧ w2.frozen? ⟨w.heap.size + 1, 2, none⟩ = false ∧ w2.frozen? ⟨w.heap.size + 1, 3, none⟩ = false := by
      have h := hbz.out.ext (Ext.trans (by repeat (first | with_reducible exact Ext.refl _ | with_reducible exact hE0 | with_reducible exact hE | with_reducible refine Ext.alloc ?_ _ | with_reducible refine Ext.drewN ?_ _ | with_reducible refine Ext.drew ?_ | ((with_reducible refine Ext.setCell ?_ ?side _); (case side => first | exact Nat.le_refl _ | (simp; done) | (simp; omega))))) hE2)
      exact ⟨h.fz 0, h.fz 1, h.fz 2, h.fz 3⟩
    replace hE : Ext w w2 := Ext.trans (by repeat (first | with_reducible exact Ext.refl _ | with_reducible exact hE0 | with_reducible exact hE | with_reducible refine Ext.alloc ?_ _ | with_reducible refine Ext.drewN ?_ _ | with_reducible refine Ext.drew ?_ | ((with_reducible refine Ext.setCell ?_ ?side _); (case side => first | exact Nat.le_refl _ | (simp; done) | (simp; omega))))) hE2
    have hs1 : w.heap.size + 1 < w2.heap.size := cell_lt y0
    clear hE2 hbz hbx
    go_wp2
    exact bodyPost_ret (v := .tuple #[.agg #[.string ⟨#[]⟩, .int .i64 1, .int .i64 (-f.n), .string ⟨#[]⟩], .bool true]) (by first | (simp [results, Tryz.results69, go_sem, y0, y1, y2, y3]; done) | (simp [results, Tryz.results69, go_sem, y0, y1, y2, y3]; done) | simp [results, Tryz.results69, go_sem]) rfl (optF_mks (f := numF (-f.n)) hR.out (by repeat (first | with_reducible exact Ext.refl _ | with_reducible exact hE0 | with_reducible exact hE | with_reducible refine Ext.alloc ?_ _ | with_reducible refine Ext.drewN ?_ _ | with_reducible refine Ext.drew ?_ | ((with_reducible refine Ext.setCell ?_ ?side _); (case side => first | exact Nat.le_refl _ | (simp; done) | (simp; omega))))))
set_option maxRecDepth 8000 in
set_option maxHeartbeats 2000000 in
theorem val6 (l : List Feat) (S : Bool → ByteArray → Int → Int) (E : Nat) (nm tx : ByteArray) (n : Int) (bb off cp : Nat) (a b : Ex) (w : World) (hk : Kid w l S E bb off a) (kb : Kid w l S E bb (off + 5) b) (R : Option Feat) (hRn : a.ev l S = none → R = none) (hRc : ∀ f, a.ev l S = some f → ((6 = (6 : Int) ∧ f.n = 0) ∨ (6 = (7 : Int) ∧ f.n = 1)) → R = some f) (hRm : ∀ f, a.ev l S = some f → ¬ ((6 = (6 : Int) ∧ f.n = 0) ∨ (6 = (7 : Int) ∧ f.n = 1)) → b.ev l S = none → R = none) (hRs : ∀ f g, a.ev l S = some f → ¬ ((6 = (6 : Int) ∧ f.n = 0) ∨ (6 = (7 : Int) ∧ f.n = 1)) → b.ev l S = some g → R = comb 6 f g) (hn : ∀ f g, a.ev l S = some f → b.ev l S = some g → (6 : Int) = 12 ∨ (6 : Int) = 13 ∨ (6 : Int) = 14 → nbrB f.n = true ∧ nbrB g.n = true) : Calls Tryz.prog 69 #[.pointer (some ⟨E, 0, none⟩), .agg #[.int .i64 6, .string nm, .string tx, .int .i64 n, .slice (some ⟨bb, off, none⟩) 2 cp]] w (OptF R w) := by
  replace hRn := Lib.hid hRn
  replace hRs := Lib.hid hRs
  replace hRc := Lib.hid hRc
  replace hRm := Lib.hid hRm
  replace hn := Lib.hid hn
  have hE0 : Ext w w := Ext.refl w
  obtain ⟨qa, ca, hc, hP⟩ := hk
  obtain ⟨c0, c1, c2, c3, c4⟩ := hc.five
  have hbb : bb < w.heap.size := cell_lt c0
  have hbb1 : bb < w.heap.size + 1 := by omega
  replace hP := Lib.hid hP
  clear hc hE0
  go_enter Tryz.func69, Tryz.ntmps69
  go_wp2_with fail
  refine (hP.out _ (by repeat (first | with_reducible exact Ext.refl _ | with_reducible exact hE0 | with_reducible exact hE | with_reducible refine Ext.alloc ?_ _ | with_reducible refine Ext.drewN ?_ _ | with_reducible refine Ext.drew ?_ | ((with_reducible refine Ext.setCell ?_ ?side _); (case side => first | exact Nat.le_refl _ | (simp; done) | (simp; omega)))))).mono ?_
  intro e w1 h
  have hbz : Blk ((w.alloc (.cells #[.int .i64 6, .string nm, .string tx, .int .i64 n, .slice (some ⟨bb, off, none⟩) 2 cp] 24)).alloc (.cells #[.string ⟨#[]⟩, .int .i64 0, .int .i64 0, .string ⟨#[]⟩] 43)) (w.heap.size + 1) #[.string ⟨#[]⟩, .int .i64 0, .int .i64 0, .string ⟨#[]⟩] 43 := Blk.new' _ _ _ _ (by simp)
  have hbx : Blk ((w.alloc (.cells #[.int .i64 6, .string nm, .string tx, .int .i64 n, .slice (some ⟨bb, off, none⟩) 2 cp] 24)).alloc (.cells #[.string ⟨#[]⟩, .int .i64 0, .int .i64 0, .string ⟨#[]⟩] 43)) w.heap.size #[.int .i64 6, .string nm, .string tx, .int .i64 n, .slice (some ⟨bb, off, none⟩) 2 cp] 24 := (Blk.new _ _ _).alloc _
  have hE : Ext w w1 := Ext.trans (by repeat (first | with_reducible exact Ext.refl _ | with_reducible exact hE0 | with_reducible exact hE | with_reducible refine Ext.alloc ?_ _ | with_reducible refine Ext.drewN ?_ _ | with_reducible refine Ext.drew ?_ | ((with_reducible refine Ext.setCell ?_ ?side _); (case side => first | exact Nat.le_refl _ | (simp; done) | (simp; omega))))) h.2
  replace hbz := Lib.hid (hbz.ext h.2)
  replace hbx := Lib.hid (hbx.ext h.2)
  obtain ⟨y0, y1, y2, y3⟩ : w1.cell? ⟨w.heap.size + 1, 0, none⟩ = some (.string ⟨#[]⟩) ∧ w1.cell? ⟨w.heap.size + 1, 1, none⟩ = some (.int .i64 0) ∧ w1.cell? ⟨w.heap.size + 1, 2, none⟩ = some (.int .i64 0) ∧ w1.cell? ⟨w.heap.size + 1, 3, none⟩ = some (.string ⟨#[]⟩) := by
    have h := hbz.out
    exact ⟨(h.cell 0).trans rfl, (h.cell 1).trans rfl, (h.cell 2).trans rfl, (h.cell 3).trans rfl⟩
  obtain ⟨f0, f1, f2, f3⟩ : w1.frozen? ⟨w.heap.size + 1, 0, none⟩ = false ∧ w1.frozen? ⟨w.heap.size + 1, 1, none⟩ = false ∧ w1.frozen? ⟨w.heap.size + 1, 2, none⟩ = false ∧ w1.frozen? ⟨w.heap.size + 1, 3, none⟩ = false := by
    have h := hbz.out
    exact ⟨h.fz 0, h.fz 1, h.fz 2, h.fz 3⟩
  obtain ⟨x0, x4⟩ : w1.cell? ⟨w.heap.size, 0, none⟩ = some (.int .i64 6) ∧ w1.cell? ⟨w.heap.size, 4, none⟩ = some (.slice (some ⟨bb, off, none⟩) 2 cp) := by
    have h := hbx.out
    exact ⟨(h.cell 0).trans rfl, (h.cell 4).trans rfl⟩
  have hs0 : w.heap.size < w1.heap.size := cell_lt x0
  have hs1 : w.heap.size + 1 < w1.heap.size := cell_lt y0
  clear c0 c1 c2 c3 c4 hbb hbb1
  cases ho : a.ev l S with
  | none =>
    rw [ho] at h
    have hR2 := Lib.hid (hRn.out ho)
    obtain ⟨rfl, -⟩ := optF_none h
    clear h ho
    go_wp2
    exact bodyPost_ret (v := .tuple #[.agg #[.string ⟨#[]⟩, .int .i64 0, .int .i64 0, .string ⟨#[]⟩], .bool false]) (by first | (simp [results, Tryz.results69, go_sem, World.cell?_alloc_past, hs1, y0, y1, y2, y3]; done) | (simp [results, Tryz.results69, go_sem, y0, y1, y2, y3]; done) | simp [results, Tryz.results69, go_sem]) rfl (optF_mkn hR2.out (by repeat (first | with_reducible exact Ext.refl _ | with_reducible exact hE0 | with_reducible exact hE | with_reducible refine Ext.alloc ?_ _ | with_reducible refine Ext.drewN ?_ _ | with_reducible refine Ext.drew ?_ | ((with_reducible refine Ext.setCell ?_ ?side _); (case side => first | exact Nat.le_refl _ | (simp; done) | (simp; omega))))))
  | some f =>
    rw [ho] at h
    obtain ⟨rfl, -⟩ := optF_some h
    clear h
    by_cases h0 : f.n = 0
    · have g0 : (f.n == 0) = true := by simp [h0]
      have hR := Lib.hid (hRc.out f ho (by simp [h0]))
      clear ho h0
      go_wp2
      exact bodyPost_ret (v := .tuple #[.agg #[.string f.name, .int .i64 f.kind, .int .i64 f.n, .string f.text], .bool true]) (by first | (simp [results, Tryz.results69, go_sem, World.cell?_alloc_past, hs1, y0, y1, y2, y3]; done) | (simp [results, Tryz.results69, go_sem, y0, y1, y2, y3]; done) | simp [results, Tryz.results69, go_sem]) rfl (optF_mks hR.out (by repeat (first | with_reducible exact Ext.refl _ | with_reducible exact hE0 | with_reducible exact hE | with_reducible refine Ext.alloc ?_ _ | with_reducible refine Ext.drewN ?_ _ | with_reducible refine Ext.drew ?_ | ((with_reducible refine Ext.setCell ?_ ?side _); (case side => first | exact Nat.le_refl _ | (simp; done) | (simp; omega))))))
    · have g0 : (f.n == 0) = false := by simp [h0]
      have hno : ¬ ((6 = (6 : Int) ∧ f.n = 0) ∨ (6 = (7 : Int) ∧ f.n = 1)) := by simp [h0]
      clear h0
      obtain ⟨qb, cb, hc, hQ⟩ := kb.ext hE
      obtain ⟨c0, c1, c2, c3, c4⟩ := hc.five
      have hbb : bb < w1.heap.size := cell_lt c0
      replace hQ := Lib.hid hQ
      clear hc
      go_wp2_with fail
      refine (hQ.out _ ((Ext.refl _).alloc _)).mono ?_
      intro e w2 h
      obtain ⟨⟨t0, t1, t2, t3⟩, -⟩ := new4 w1.heap.size rfl h.2
      have hs2 : w1.heap.size < w2.heap.size := cell_lt t0
      clear y0 y1 y2 y3 f0 f1 f2 f3 hs1 x0 x4 hs0 c0 c1 c2 c3 c4 hbb
      replace hbz := Lib.hid (hbz.out.ext (Ext.trans ((Ext.refl _).alloc _) h.2))
      replace hbx := Lib.hid (hbx.out.ext (Ext.trans ((Ext.refl _).alloc _) h.2))
      replace hE : Ext w w2 := Ext.trans (hE.alloc _) h.2
      obtain ⟨y0, y1, y2, y3⟩ : w2.cell? ⟨w.heap.size + 1, 0, none⟩ = some (.string ⟨#[]⟩) ∧ w2.cell? ⟨w.heap.size + 1, 1, none⟩ = some (.int .i64 0) ∧ w2.cell? ⟨w.heap.size + 1, 2, none⟩ = some (.int .i64 0) ∧ w2.cell? ⟨w.heap.size + 1, 3, none⟩ = some (.string ⟨#[]⟩) := by
        have h := hbz.out
        exact ⟨(h.cell 0).trans rfl, (h.cell 1).trans rfl, (h.cell 2).trans rfl, (h.cell 3).trans rfl⟩
      obtain ⟨f0, f1, f2, f3⟩ : w2.frozen? ⟨w.heap.size + 1, 0, none⟩ = false ∧ w2.frozen? ⟨w.heap.size + 1, 1, none⟩ = false ∧ w2.frozen? ⟨w.heap.size + 1, 2, none⟩ = false ∧ w2.frozen? ⟨w.heap.size + 1, 3, none⟩ = false := by
        have h := hbz.out
        exact ⟨h.fz 0, h.fz 1, h.fz 2, h.fz 3⟩
      obtain ⟨x0, x4⟩ : w2.cell? ⟨w.heap.size, 0, none⟩ = some (.int .i64 6) ∧ w2.cell? ⟨w.heap.size, 4, none⟩ = some (.slice (some ⟨bb, off, none⟩) 2 cp) := by
        have h := hbx.out
        exact ⟨(h.cell 0).trans rfl, (h.cell 4).trans rfl⟩
      have hs0 : w.heap.size < w2.heap.size := cell_lt x0
      have hs1 : w.heap.size + 1 < w2.heap.size := cell_lt y0
      cases hp : b.ev l S with
      | none =>
        rw [hp] at h
        have hR2 := Lib.hid (hRm.out f ho hno hp)
        obtain ⟨rfl, -⟩ := optF_none h
        clear h ho hp hno
        go_wp2
        exact bodyPost_ret (v := .tuple #[.agg #[.string ⟨#[]⟩, .int .i64 0, .int .i64 0, .string ⟨#[]⟩], .bool false]) (by first | (simp [results, Tryz.results69, go_sem, World.cell?_alloc_past, hs1, y0, y1, y2, y3]; done) | (simp [results, Tryz.results69, go_sem, y0, y1, y2, y3]; done) | simp [results, Tryz.results69, go_sem]) rfl (optF_mkn hR2.out (by repeat (first | with_reducible exact Ext.refl _ | with_reducible exact hE0 | with_reducible exact hE | with_reducible refine Ext.alloc ?_ _ | with_reducible refine Ext.drewN ?_ _ | with_reducible refine Ext.drew ?_ | ((with_reducible refine Ext.setCell ?_ ?side _); (case side => first | exact Nat.le_refl _ | (simp; done) | (simp; omega))))))
      | some g =>
        rw [hp] at h
        have hR2 := Lib.hid (hRs.out f g ho hno hp)
        have hC := Lib.hid (fun w9 => combine_any 6 f g w9 (hn.out f g ho hp))
        obtain ⟨rfl, -⟩ := optF_some h
        clear h ho hp hno hRn hRc hRm hRs hn
        generalize comb 6 f g = O at *
        go_wp2_with fail
        refine (hC.out _).mono ?_
        intro e w3 h
        clear y0 y1 y2 y3 f0 f1 f2 f3 hs1 x0 x4 hs0 t0 t1 t2 t3 hs2
        replace hbz := Lib.hid (hbz.out.ext (Ext.trans ((Ext.refl _).alloc _) h.2))
        replace hE : Ext w w3 := Ext.trans (hE.alloc _) h.2
        clear hbx
        obtain ⟨y0, y1, y2, y3⟩ : w3.cell? ⟨w.heap.size + 1, 0, none⟩ = some (.string ⟨#[]⟩) ∧ w3.cell? ⟨w.heap.size + 1, 1, none⟩ = some (.int .i64 0) ∧ w3.cell? ⟨w.heap.size + 1, 2, none⟩ = some (.int .i64 0) ∧ w3.cell? ⟨w.heap.size + 1, 3, none⟩ = some (.string ⟨#[]⟩) := by
          have h := hbz.out
          exact ⟨(h.cell 0).trans rfl, (h.cell 1).trans rfl, (h.cell 2).trans rfl, (h.cell 3).trans rfl⟩
        obtain ⟨f0, f1, f2, f3⟩ : w3.frozen? ⟨w.heap.size + 1, 0, none⟩ = false ∧ w3.frozen? ⟨w.heap.size + 1, 1, none⟩ = false ∧ w3.frozen? ⟨w.heap.size + 1, 2, none⟩ = false ∧ w3.frozen? ⟨w.heap.size + 1, 3, none⟩ = false := by
          have h := hbz.out
          exact ⟨h.fz 0, h.fz 1, h.fz 2, h.fz 3⟩
        have hs1 : w.heap.size + 1 < w3.heap.size := cell_lt y0
        cases O with
        | none =>
          obtain ⟨rfl, -⟩ := optF_none h
          clear h
          go_wp2
          exact bodyPost_ret (v := .tuple #[.agg #[.string ⟨#[]⟩, .int .i64 0, .int .i64 0, .string ⟨#[]⟩], .bool false]) (by first | (simp [results, Tryz.results69, go_sem, y0, y1, y2, y3]; done) | (simp [results, Tryz.results69, go_sem, y0, y1, y2, y3]; done) | simp [results, Tryz.results69, go_sem]) rfl (optF_mkn hR2.out (by repeat (first | with_reducible exact Ext.refl _ | with_reducible exact hE0 | with_reducible exact hE | with_reducible refine Ext.alloc ?_ _ | with_reducible refine Ext.drewN ?_ _ | with_reducible refine Ext.drew ?_ | ((with_reducible refine Ext.setCell ?_ ?side _); (case side => first | exact Nat.le_refl _ | (simp; done) | (simp; omega))))))
        | some k =>
          obtain ⟨rfl, -⟩ := optF_some h
          clear h
          go_wp2
          exact bodyPost_ret (v := .tuple #[.agg #[.string k.name, .int .i64 k.kind, .int .i64 k.n, .string k.text], .bool true]) (by first | (simp [results, Tryz.results69, go_sem, y0, y1, y2, y3]; done) | (simp [results, Tryz.results69, go_sem, y0, y1, y2, y3]; done) | simp [results, Tryz.results69, go_sem]) rfl (optF_mks hR2.out (by repeat (first | with_reducible exact Ext.refl _ | with_reducible exact hE0 | with_reducible exact hE | with_reducible refine Ext.alloc ?_ _ | with_reducible refine Ext.drewN ?_ _ | with_reducible refine Ext.drew ?_ | ((with_reducible refine Ext.setCell ?_ ?side _); (case side => first | exact Nat.le_refl _ | (simp; done) | (simp; omega))))))
set_option maxRecDepth 8000 in
set_option maxHeartbeats 2000000 in
theorem val7 (l : List Feat) (S : Bool → ByteArray → Int → Int) (E : Nat) (nm tx : ByteArray) (n : Int) (bb off cp : Nat) (a b : Ex) (w : World) (hk : Kid w l S E bb off a) (kb : Kid w l S E bb (off + 5) b) (R : Option Feat) (hRn : a.ev l S = none → R = none) (hRc : ∀ f, a.ev l S = some f → ((7 = (6 : Int) ∧ f.n = 0) ∨ (7 = (7 : Int) ∧ f.n = 1)) → R = some f) (hRm : ∀ f, a.ev l S = some f → ¬ ((7 = (6 : Int) ∧ f.n = 0) ∨ (7 = (7 : Int) ∧ f.n = 1)) → b.ev l S = none → R = none) (hRs : ∀ f g, a.ev l S = some f → ¬ ((7 = (6 : Int) ∧ f.n = 0) ∨ (7 = (7 : Int) ∧ f.n = 1)) → b.ev l S = some g → R = comb 7 f g) (hn : ∀ f g, a.ev l S = some f → b.ev l S = some g → (7 : Int) = 12 ∨ (7 : Int) = 13 ∨ (7 : Int) = 14 → nbrB f.n = true ∧ nbrB g.n = true) : Calls Tryz.prog 69 #[.pointer (some ⟨E, 0, none⟩), .agg #[.int .i64 7, .string nm, .string tx, .int .i64 n, .slice (some ⟨bb, off, none⟩) 2 cp]] w (OptF R w) := by
  replace hRn := Lib.hid hRn
  replace hRs := Lib.hid hRs
  replace hRc := Lib.hid hRc
  replace hRm := Lib.hid hRm
  replace hn := Lib.hid hn
  have hE0 : Ext w w := Ext.refl w
  obtain ⟨qa, ca, hc, hP⟩ := hk
  obtain ⟨c0, c1, c2, c3, c4⟩ := hc.five
  have hbb : bb < w.heap.size := cell_lt c0
  have hbb1 : bb < w.heap.size + 1 := by omega
  replace hP := Lib.hid hP
  clear hc hE0
  go_enter Tryz.func69, Tryz.ntmps69
  go_wp2_with fail
  refine (hP.out _ (by repeat (first | with_reducible exact Ext.refl _ | with_reducible exact hE0 | with_reducible exact hE | with_reducible refine Ext.alloc ?_ _ | with_reducible refine Ext.drewN ?_ _ | with_reducible refine Ext.drew ?_ | ((with_reducible refine Ext.setCell ?_ ?side _); (case side => first | exact Nat.le_refl _ | (simp; done) | (simp; omega)))))).mono ?_
  intro e w1 h
  have hbz : Blk ((w.alloc (.cells #[.int .i64 7, .string nm, .string tx, .int .i64 n, .slice (some ⟨bb, off, none⟩) 2 cp] 24)).alloc (.cells #[.string ⟨#[]⟩, .int .i64 0, .int .i64 0, .string ⟨#[]⟩] 43)) (w.heap.size + 1) #[.string ⟨#[]⟩, .int .i64 0, .int .i64 0, .string ⟨#[]⟩] 43 := Blk.new' _ _ _ _ (by simp)
  have hbx : Blk ((w.alloc (.cells #[.int .i64 7, .string nm, .string tx, .int .i64 n, .slice (some ⟨bb, off, none⟩) 2 cp] 24)).alloc (.cells #[.string ⟨#[]⟩, .int .i64 0, .int .i64 0, .string ⟨#[]⟩] 43)) w.heap.size #[.int .i64 7, .string nm, .string tx, .int .i64 n, .slice (some ⟨bb, off, none⟩) 2 cp] 24 := (Blk.new _ _ _).alloc _
  have hE : Ext w w1 := Ext.trans (by repeat (first | with_reducible exact Ext.refl _ | with_reducible exact hE0 | with_reducible exact hE | with_reducible refine Ext.alloc ?_ _ | with_reducible refine Ext.drewN ?_ _ | with_reducible refine Ext.drew ?_ | ((with_reducible refine Ext.setCell ?_ ?side _); (case side => first | exact Nat.le_refl _ | (simp; done) | (simp; omega))))) h.2
  replace hbz := Lib.hid (hbz.ext h.2)
  replace hbx := Lib.hid (hbx.ext h.2)
  obtain ⟨y0, y1, y2, y3⟩ : w1.cell? ⟨w.heap.size + 1, 0, none⟩ = some (.string ⟨#[]⟩) ∧ w1.cell? ⟨w.heap.size + 1, 1, none⟩ = some (.int .i64 0) ∧ w1.cell? ⟨w.heap.size + 1, 2, none⟩ = some (.int .i64 0) ∧ w1.cell? ⟨w.heap.size + 1, 3, none⟩ = some (.string ⟨#[]⟩) := by
    have h := hbz.out
    exact ⟨(h.cell 0).trans rfl, (h.cell 1).trans rfl, (h.cell 2).trans rfl, (h.cell 3).trans rfl⟩
  obtain ⟨f0, f1, f2, f3⟩ : w1.frozen? ⟨w.heap.size + 1, 0, none⟩ = false ∧ w1.frozen? ⟨w.heap.size + 1, 1, none⟩ = false ∧ w1.frozen? ⟨w.heap.size + 1, 2, none⟩ = false ∧ w1.frozen? ⟨w.heap.size + 1, 3, none⟩ = false := by
    have h := hbz.out
    exact ⟨h.fz 0, h.fz 1, h.fz 2, h.fz 3⟩
  obtain ⟨x0, x4⟩ : w1.cell? ⟨w.heap.size, 0, none⟩ = some (.int .i64 7) ∧ w1.cell? ⟨w.heap.size, 4, none⟩ = some (.slice (some ⟨bb, off, none⟩) 2 cp) := by
    have h := hbx.out
    exact ⟨(h.cell 0).trans rfl, (h.cell 4).trans rfl⟩
  have hs0 : w.heap.size < w1.heap.size := cell_lt x0
  have hs1 : w.heap.size + 1 < w1.heap.size := cell_lt y0
  clear c0 c1 c2 c3 c4 hbb hbb1
  cases ho : a.ev l S with
  | none =>
    rw [ho] at h
    have hR2 := Lib.hid (hRn.out ho)
    obtain ⟨rfl, -⟩ := optF_none h
    clear h ho
    go_wp2
    exact bodyPost_ret (v := .tuple #[.agg #[.string ⟨#[]⟩, .int .i64 0, .int .i64 0, .string ⟨#[]⟩], .bool false]) (by first | (simp [results, Tryz.results69, go_sem, World.cell?_alloc_past, hs1, y0, y1, y2, y3]; done) | (simp [results, Tryz.results69, go_sem, y0, y1, y2, y3]; done) | simp [results, Tryz.results69, go_sem]) rfl (optF_mkn hR2.out (by repeat (first | with_reducible exact Ext.refl _ | with_reducible exact hE0 | with_reducible exact hE | with_reducible refine Ext.alloc ?_ _ | with_reducible refine Ext.drewN ?_ _ | with_reducible refine Ext.drew ?_ | ((with_reducible refine Ext.setCell ?_ ?side _); (case side => first | exact Nat.le_refl _ | (simp; done) | (simp; omega))))))
  | some f =>
    rw [ho] at h
    obtain ⟨rfl, -⟩ := optF_some h
    clear h
    by_cases h0 : f.n = 1
    · have g0 : (f.n == 1) = true := by simp [h0]
      have hR := Lib.hid (hRc.out f ho (by simp [h0]))
      clear ho h0
      go_wp2
      exact bodyPost_ret (v := .tuple #[.agg #[.string f.name, .int .i64 f.kind, .int .i64 f.n, .string f.text], .bool true]) (by first | (simp [results, Tryz.results69, go_sem, World.cell?_alloc_past, hs1, y0, y1, y2, y3]; done) | (simp [results, Tryz.results69, go_sem, y0, y1, y2, y3]; done) | simp [results, Tryz.results69, go_sem]) rfl (optF_mks hR.out (by repeat (first | with_reducible exact Ext.refl _ | with_reducible exact hE0 | with_reducible exact hE | with_reducible refine Ext.alloc ?_ _ | with_reducible refine Ext.drewN ?_ _ | with_reducible refine Ext.drew ?_ | ((with_reducible refine Ext.setCell ?_ ?side _); (case side => first | exact Nat.le_refl _ | (simp; done) | (simp; omega))))))
    · have g0 : (f.n == 1) = false := by simp [h0]
      have hno : ¬ ((7 = (6 : Int) ∧ f.n = 0) ∨ (7 = (7 : Int) ∧ f.n = 1)) := by simp [h0]
      clear h0
      obtain ⟨qb, cb, hc, hQ⟩ := kb.ext hE
      obtain ⟨c0, c1, c2, c3, c4⟩ := hc.five
      have hbb : bb < w1.heap.size := cell_lt c0
      replace hQ := Lib.hid hQ
      clear hc
      go_wp2_with fail
      refine (hQ.out _ ((Ext.refl _).alloc _)).mono ?_
      intro e w2 h
      obtain ⟨⟨t0, t1, t2, t3⟩, -⟩ := new4 w1.heap.size rfl h.2
      have hs2 : w1.heap.size < w2.heap.size := cell_lt t0
      clear y0 y1 y2 y3 f0 f1 f2 f3 hs1 x0 x4 hs0 c0 c1 c2 c3 c4 hbb
      replace hbz := Lib.hid (hbz.out.ext (Ext.trans ((Ext.refl _).alloc _) h.2))
      replace hbx := Lib.hid (hbx.out.ext (Ext.trans ((Ext.refl _).alloc _) h.2))
      replace hE : Ext w w2 := Ext.trans (hE.alloc _) h.2
      obtain ⟨y0, y1, y2, y3⟩ : w2.cell? ⟨w.heap.size + 1, 0, none⟩ = some (.string ⟨#[]⟩) ∧ w2.cell? ⟨w.heap.size + 1, 1, none⟩ = some (.int .i64 0) ∧ w2.cell? ⟨w.heap.size + 1, 2, none⟩ = some (.int .i64 0) ∧ w2.cell? ⟨w.heap.size + 1, 3, none⟩ = some (.string ⟨#[]⟩) := by
        have h := hbz.out
        exact ⟨(h.cell 0).trans rfl, (h.cell 1).trans rfl, (h.cell 2).trans rfl, (h.cell 3).trans rfl⟩
      obtain ⟨f0, f1, f2, f3⟩ : w2.frozen? ⟨w.heap.size + 1, 0, none⟩ = false ∧ w2.frozen? ⟨w.heap.size + 1, 1, none⟩ = false ∧ w2.frozen? ⟨w.heap.size + 1, 2, none⟩ = false ∧ w2.frozen? ⟨w.heap.size + 1, 3, none⟩ = false := by
        have h := hbz.out
        exact ⟨h.fz 0, h.fz 1, h.fz 2, h.fz 3⟩
      obtain ⟨x0, x4⟩ : w2.cell? ⟨w.heap.size, 0, none⟩ = some (.int .i64 7) ∧ w2.cell? ⟨w.heap.size, 4, none⟩ = some (.slice (some ⟨bb, off, none⟩) 2 cp) := by
        have h := hbx.out
        exact ⟨(h.cell 0).trans rfl, (h.cell 4).trans rfl⟩
      have hs0 : w.heap.size < w2.heap.size := cell_lt x0
      have hs1 : w.heap.size + 1 < w2.heap.size := cell_lt y0
      cases hp : b.ev l S with
      | none =>
        rw [hp] at h
        have hR2 := Lib.hid (hRm.out f ho hno hp)
        obtain ⟨rfl, -⟩ := optF_none h
        clear h ho hp hno
        go_wp2
        exact bodyPost_ret (v := .tuple #[.agg #[.string ⟨#[]⟩, .int .i64 0, .int .i64 0, .string ⟨#[]⟩], .bool false]) (by first | (simp [results, Tryz.results69, go_sem, World.cell?_alloc_past, hs1, y0, y1, y2, y3]; done) | (simp [results, Tryz.results69, go_sem, y0, y1, y2, y3]; done) | simp [results, Tryz.results69, go_sem]) rfl (optF_mkn hR2.out (by repeat (first | with_reducible exact Ext.refl _ | with_reducible exact hE0 | with_reducible exact hE | with_reducible refine Ext.alloc ?_ _ | with_reducible refine Ext.drewN ?_ _ | with_reducible refine Ext.drew ?_ | ((with_reducible refine Ext.setCell ?_ ?side _); (case side => first | exact Nat.le_refl _ | (simp; done) | (simp; omega))))))
      | some g =>
        rw [hp] at h
        have hR2 := Lib.hid (hRs.out f g ho hno hp)
        have hC := Lib.hid (fun w9 => combine_any 7 f g w9 (hn.out f g ho hp))
        obtain ⟨rfl, -⟩ := optF_some h
        clear h ho hp hno hRn hRc hRm hRs hn
        generalize comb 7 f g = O at *
        go_wp2_with fail
        refine (hC.out _).mono ?_
        intro e w3 h
        clear y0 y1 y2 y3 f0 f1 f2 f3 hs1 x0 x4 hs0 t0 t1 t2 t3 hs2
        replace hbz := Lib.hid (hbz.out.ext (Ext.trans ((Ext.refl _).alloc _) h.2))
        replace hE : Ext w w3 := Ext.trans (hE.alloc _) h.2
        clear hbx
        obtain ⟨y0, y1, y2, y3⟩ : w3.cell? ⟨w.heap.size + 1, 0, none⟩ = some (.string ⟨#[]⟩) ∧ w3.cell? ⟨w.heap.size + 1, 1, none⟩ = some (.int .i64 0) ∧ w3.cell? ⟨w.heap.size + 1, 2, none⟩ = some (.int .i64 0) ∧ w3.cell? ⟨w.heap.size + 1, 3, none⟩ = some (.string ⟨#[]⟩) := by
          have h := hbz.out
          exact ⟨(h.cell 0).trans rfl, (h.cell 1).trans rfl, (h.cell 2).trans rfl, (h.cell 3).trans rfl⟩
        obtain ⟨f0, f1, f2, f3⟩ : w3.frozen? ⟨w.heap.size + 1, 0, none⟩ = false ∧ w3.frozen? ⟨w.heap.size + 1, 1, none⟩ = false ∧ w3.frozen? ⟨w.heap.size + 1, 2, none⟩ = false ∧ w3.frozen? ⟨w.heap.size + 1, 3, none⟩ = false := by
          have h := hbz.out
          exact ⟨h.fz 0, h.fz 1, h.fz 2, h.fz 3⟩
        have hs1 : w.heap.size + 1 < w3.heap.size := cell_lt y0
        cases O with
        | none =>
          obtain ⟨rfl, -⟩ := optF_none h
          clear h
          go_wp2
          exact bodyPost_ret (v := .tuple #[.agg #[.string ⟨#[]⟩, .int .i64 0, .int .i64 0, .string ⟨#[]⟩], .bool false]) (by first | (simp [results, Tryz.results69, go_sem, y0, y1, y2, y3]; done) | (simp [results, Tryz.results69, go_sem, y0, y1, y2, y3]; done) | simp [results, Tryz.results69, go_sem]) rfl (optF_mkn hR2.out (by repeat (first | with_reducible exact Ext.refl _ | with_reducible exact hE0 | with_reducible exact hE | with_reducible refine Ext.alloc ?_ _ | with_reducible refine Ext.drewN ?_ _ | with_reducible refine Ext.drew ?_ | ((with_reducible refine Ext.setCell ?_ ?side _); (case side => first | exact Nat.le_refl _ | (simp; done) | (simp; omega))))))
        | some k =>
          obtain ⟨rfl, -⟩ := optF_some h
          clear h
          go_wp2
          exact bodyPost_ret (v := .tuple #[.agg #[.string k.name, .int .i64 k.kind, .int .i64 k.n, .string k.text], .bool true]) (by first | (simp [results, Tryz.results69, go_sem, y0, y1, y2, y3]; done) | (simp [results, Tryz.results69, go_sem, y0, y1, y2, y3]; done) | simp [results, Tryz.results69, go_sem]) rfl (optF_mks hR2.out (by repeat (first | with_reducible exact Ext.refl _ | with_reducible exact hE0 | with_reducible exact hE | with_reducible refine Ext.alloc ?_ _ | with_reducible refine Ext.drewN ?_ _ | with_reducible refine Ext.drew ?_ | ((with_reducible refine Ext.setCell ?_ ?side _); (case side => first | exact Nat.le_refl _ | (simp; done) | (simp; omega))))))
set_option maxRecDepth 8000 in
set_option maxHeartbeats 2000000 in
theorem valx (l : List Feat) (S : Bool → ByteArray → Int → Int) (E : Nat) (op : Int) (h8 : 8 ≤ op) (h14 : op ≤ 14) (nm tx : ByteArray) (n : Int) (bb off cp : Nat) (a b : Ex) (w : World) (hk : Kid w l S E bb off a) (kb : Kid w l S E bb (off + 5) b) (R : Option Feat) (hRn : a.ev l S = none → R = none) (hRc : ∀ f, a.ev l S = some f → ((op = (6 : Int) ∧ f.n = 0) ∨ (op = (7 : Int) ∧ f.n = 1)) → R = some f) (hRm : ∀ f, a.ev l S = some f → ¬ ((op = (6 : Int) ∧ f.n = 0) ∨ (op = (7 : Int) ∧ f.n = 1)) → b.ev l S = none → R = none) (hRs : ∀ f g, a.ev l S = some f → ¬ ((op = (6 : Int) ∧ f.n = 0) ∨ (op = (7 : Int) ∧ f.n = 1)) → b.ev l S = some g → R = comb op f g) (hn : ∀ f g, a.ev l S = some f → b.ev l S = some g → (op : Int) = 12 ∨ (op : Int) = 13 ∨ (op : Int) = 14 → nbrB f.n = true ∧ nbrB g.n = true) : Calls Tryz.prog 69 #[.pointer (some ⟨E, 0, none⟩), .agg #[.int .i64 op, .string nm, .string tx, .int .i64 n, .slice (some ⟨bb, off, none⟩) 2 cp]] w (OptF R w) := by
  replace hRn := Lib.hid hRn
  replace hRs := Lib.hid hRs
  replace hRc := Lib.hid hRc
  replace hRm := Lib.hid hRm
  replace hn := Lib.hid hn
  have e1 : (op == 1) = false := by simp; omega
  have e2 : (op == 2) = false := by simp; omega
  have e3 : (op == 3) = false := by simp; omega
  have e16 : (op == 16) = false := by simp; omega
  have e17 : (op == 17) = false := by simp; omega
  have e4 : (op == 4) = false := by simp; omega
  have e5 : (op == 5) = false := by simp; omega
  have e15 : (op == 15) = false := by simp; omega
  have e6 : (op == 6) = false := by simp; omega
  have e7 : (op == 7) = false := by simp; omega
  have hno : ∀ f : Feat, ¬ ((op = 6 ∧ f.n = 0) ∨ (op = 7 ∧ f.n = 1)) := by intro f; omega
  replace hno := Lib.hid hno
  clear h8 h14
  have hE0 : Ext w w := Ext.refl w
  obtain ⟨qa, ca, hc, hP⟩ := hk
  obtain ⟨c0, c1, c2, c3, c4⟩ := hc.five
  have hbb : bb < w.heap.size := cell_lt c0
  have hbb1 : bb < w.heap.size + 1 := by omega
  replace hP := Lib.hid hP
  clear hc hE0
  go_enter Tryz.func69, Tryz.ntmps69
  go_wp2_with fail
  refine (hP.out _ (by repeat (first | with_reducible exact Ext.refl _ | with_reducible exact hE0 | with_reducible exact hE | with_reducible refine Ext.alloc ?_ _ | with_reducible refine Ext.drewN ?_ _ | with_reducible refine Ext.drew ?_ | ((with_reducible refine Ext.setCell ?_ ?side _); (case side => first | exact Nat.le_refl _ | (simp; done) | (simp; omega)))))).mono ?_
  intro e w1 h
  have hbz : Blk ((w.alloc (.cells #[.int .i64 op, .string nm, .string tx, .int .i64 n, .slice (some ⟨bb, off, none⟩) 2 cp] 24)).alloc (.cells #[.string ⟨#[]⟩, .int .i64 0, .int .i64 0, .string ⟨#[]⟩] 43)) (w.heap.size + 1) #[.string ⟨#[]⟩, .int .i64 0, .int .i64 0, .string ⟨#[]⟩] 43 := Blk.new' _ _ _ _ (by simp)
  have hbx : Blk ((w.alloc (.cells #[.int .i64 op, .string nm, .string tx, .int .i64 n, .slice (some ⟨bb, off, none⟩) 2 cp] 24)).alloc (.cells #[.string ⟨#[]⟩, .int .i64 0, .int .i64 0, .string ⟨#[]⟩] 43)) w.heap.size #[.int .i64 op, .string nm, .string tx, .int .i64 n, .slice (some ⟨bb, off, none⟩) 2 cp] 24 := (Blk.new _ _ _).alloc _
  have hE : Ext w w1 := Ext.trans (by repeat (first | with_reducible exact Ext.refl _ | with_reducible exact hE0 | with_reducible exact hE | with_reducible refine Ext.alloc ?_ _ | with_reducible refine Ext.drewN ?_ _ | with_reducible refine Ext.drew ?_ | ((with_reducible refine Ext.setCell ?_ ?side _); (case side => first | exact Nat.le_refl _ | (simp; done) | (simp; omega))))) h.2
  replace hbz := Lib.hid (hbz.ext h.2)
  replace hbx := Lib.hid (hbx.ext h.2)
  obtain ⟨y0, y1, y2, y3⟩ : w1.cell? ⟨w.heap.size + 1, 0, none⟩ = some (.string ⟨#[]⟩) ∧ w1.cell? ⟨w.heap.size + 1, 1, none⟩ = some (.int .i64 0) ∧ w1.cell? ⟨w.heap.size + 1, 2, none⟩ = some (.int .i64 0) ∧ w1.cell? ⟨w.heap.size + 1, 3, none⟩ = some (.string ⟨#[]⟩) := by
    have h := hbz.out
    exact ⟨(h.cell 0).trans rfl, (h.cell 1).trans rfl, (h.cell 2).trans rfl, (h.cell 3).trans rfl⟩
  obtain ⟨f0, f1, f2, f3⟩ : w1.frozen? ⟨w.heap.size + 1, 0, none⟩ = false ∧ w1.frozen? ⟨w.heap.size + 1, 1, none⟩ = false ∧ w1.frozen? ⟨w.heap.size + 1, 2, none⟩ = false ∧ w1.frozen? ⟨w.heap.size + 1, 3, none⟩ = false := by
    have h := hbz.out
    exact ⟨h.fz 0, h.fz 1, h.fz 2, h.fz 3⟩
  obtain ⟨x0, x4⟩ : w1.cell? ⟨w.heap.size, 0, none⟩ = some (.int .i64 op) ∧ w1.cell? ⟨w.heap.size, 4, none⟩ = some (.slice (some ⟨bb, off, none⟩) 2 cp) := by
    have h := hbx.out
    exact ⟨(h.cell 0).trans rfl, (h.cell 4).trans rfl⟩
  have hs0 : w.heap.size < w1.heap.size := cell_lt x0
  have hs1 : w.heap.size + 1 < w1.heap.size := cell_lt y0
  clear c0 c1 c2 c3 c4 hbb hbb1
  cases ho : a.ev l S with
  | none =>
    rw [ho] at h
    have hR2 := Lib.hid (hRn.out ho)
    obtain ⟨rfl, -⟩ := optF_none h
    clear h ho
    go_wp2
    exact bodyPost_ret (v := .tuple #[.agg #[.string ⟨#[]⟩, .int .i64 0, .int .i64 0, .string ⟨#[]⟩], .bool false]) (by first | (simp [results, Tryz.results69, go_sem, World.cell?_alloc_past, hs1, y0, y1, y2, y3]; done) | (simp [results, Tryz.results69, go_sem, y0, y1, y2, y3]; done) | simp [results, Tryz.results69, go_sem]) rfl (optF_mkn hR2.out (by repeat (first | with_reducible exact Ext.refl _ | with_reducible exact hE0 | with_reducible exact hE | with_reducible refine Ext.alloc ?_ _ | with_reducible refine Ext.drewN ?_ _ | with_reducible refine Ext.drew ?_ | ((with_reducible refine Ext.setCell ?_ ?side _); (case side => first | exact Nat.le_refl _ | (simp; done) | (simp; omega))))))
  | some f =>
    rw [ho] at h
    obtain ⟨rfl, -⟩ := optF_some h
    clear h
    replace hno := hno.out f
    replace ho := ho
    obtain ⟨qb, cb, hc, hQ⟩ := kb.ext hE
    obtain ⟨c0, c1, c2, c3, c4⟩ := hc.five
    have hbb : bb < w1.heap.size := cell_lt c0
    replace hQ := Lib.hid hQ
    clear hc
    go_wp2_with fail
    refine (hQ.out _ ((Ext.refl _).alloc _)).mono ?_
    intro e w2 h
    obtain ⟨⟨t0, t1, t2, t3⟩, -⟩ := new4 w1.heap.size rfl h.2
    have hs2 : w1.heap.size < w2.heap.size := cell_lt t0
    clear y0 y1 y2 y3 f0 f1 f2 f3 hs1 x0 x4 hs0 c0 c1 c2 c3 c4 hbb
    replace hbz := Lib.hid (hbz.out.ext (Ext.trans ((Ext.refl _).alloc _) h.2))
    replace hbx := Lib.hid (hbx.out.ext (Ext.trans ((Ext.refl _).alloc _) h.2))
    replace hE : Ext w w2 := Ext.trans (hE.alloc _) h.2
    obtain ⟨y0, y1, y2, y3⟩ : w2.cell? ⟨w.heap.size + 1, 0, none⟩ = some (.string ⟨#[]⟩) ∧ w2.cell? ⟨w.heap.size + 1, 1, none⟩ = some (.int .i64 0) ∧ w2.cell? ⟨w.heap.size + 1, 2, none⟩ = some (.int .i64 0) ∧ w2.cell? ⟨w.heap.size + 1, 3, none⟩ = some (.string ⟨#[]⟩) := by
      have h := hbz.out
      exact ⟨(h.cell 0).trans rfl, (h.cell 1).trans rfl, (h.cell 2).trans rfl, (h.cell 3).trans rfl⟩
    obtain ⟨f0, f1, f2, f3⟩ : w2.frozen? ⟨w.heap.size + 1, 0, none⟩ = false ∧ w2.frozen? ⟨w.heap.size + 1, 1, none⟩ = false ∧ w2.frozen? ⟨w.heap.size + 1, 2, none⟩ = false ∧ w2.frozen? ⟨w.heap.size + 1, 3, none⟩ = false := by
      have h := hbz.out
      exact ⟨h.fz 0, h.fz 1, h.fz 2, h.fz 3⟩
    obtain ⟨x0, x4⟩ : w2.cell? ⟨w.heap.size, 0, none⟩ = some (.int .i64 op) ∧ w2.cell? ⟨w.heap.size, 4, none⟩ = some (.slice (some ⟨bb, off, none⟩) 2 cp) := by
      have h := hbx.out
      exact ⟨(h.cell 0).trans rfl, (h.cell 4).trans rfl⟩
    have hs0 : w.heap.size < w2.heap.size := cell_lt x0
    have hs1 : w.heap.size + 1 < w2.heap.size := cell_lt y0
    cases hp : b.ev l S with
    | none =>
      rw [hp] at h
      have hR2 := Lib.hid (hRm.out f ho hno hp)
      obtain ⟨rfl, -⟩ := optF_none h
      clear h ho hp hno
      go_wp2
      exact bodyPost_ret (v := .tuple #[.agg #[.string ⟨#[]⟩, .int .i64 0, .int .i64 0, .string ⟨#[]⟩], .bool false]) (by first | (simp [results, Tryz.results69, go_sem, World.cell?_alloc_past, hs1, y0, y1, y2, y3]; done) | (simp [results, Tryz.results69, go_sem, y0, y1, y2, y3]; done) | simp [results, Tryz.results69, go_sem]) rfl (optF_mkn hR2.out (by repeat (first | with_reducible exact Ext.refl _ | with_reducible exact hE0 | with_reducible exact hE | with_reducible refine Ext.alloc ?_ _ | with_reducible refine Ext.drewN ?_ _ | with_reducible refine Ext.drew ?_ | ((with_reducible refine Ext.setCell ?_ ?side _); (case side => first | exact Nat.le_refl _ | (simp; done) | (simp; omega))))))
    | some g =>
      rw [hp] at h
      have hR2 := Lib.hid (hRs.out f g ho hno hp)
      have hC := Lib.hid (fun w9 => combine_any op f g w9 (hn.out f g ho hp))
      obtain ⟨rfl, -⟩ := optF_some h
      clear h ho hp hno hRn hRc hRm hRs hn
      generalize comb op f g = O at *
      go_wp2_with fail
      refine (hC.out _).mono ?_
      intro e w3 h
      clear y0 y1 y2 y3 f0 f1 f2 f3 hs1 x0 x4 hs0 t0 t1 t2 t3 hs2
      replace hbz := Lib.hid (hbz.out.ext (Ext.trans ((Ext.refl _).alloc _) h.2))
      replace hE : Ext w w3 := Ext.trans (hE.alloc _) h.2
      clear hbx
      obtain ⟨y0, y1, y2, y3⟩ : w3.cell? ⟨w.heap.size + 1, 0, none⟩ = some (.string ⟨#[]⟩) ∧ w3.cell? ⟨w.heap.size + 1, 1, none⟩ = some (.int .i64 0) ∧ w3.cell? ⟨w.heap.size + 1, 2, none⟩ = some (.int .i64 0) ∧ w3.cell? ⟨w.heap.size + 1, 3, none⟩ = some (.string ⟨#[]⟩) := by
        have h := hbz.out
        exact ⟨(h.cell 0).trans rfl, (h.cell 1).trans rfl, (h.cell 2).trans rfl, (h.cell 3).trans rfl⟩
      obtain ⟨f0, f1, f2, f3⟩ : w3.frozen? ⟨w.heap.size + 1, 0, none⟩ = false ∧ w3.frozen? ⟨w.heap.size + 1, 1, none⟩ = false ∧ w3.frozen? ⟨w.heap.size + 1, 2, none⟩ = false ∧ w3.frozen? ⟨w.heap.size + 1, 3, none⟩ = false := by
        have h := hbz.out
        exact ⟨h.fz 0, h.fz 1, h.fz 2, h.fz 3⟩
      have hs1 : w.heap.size + 1 < w3.heap.size := cell_lt y0
      cases O with
      | none =>
        obtain ⟨rfl, -⟩ := optF_none h
        clear h
        go_wp2
        exact bodyPost_ret (v := .tuple #[.agg #[.string ⟨#[]⟩, .int .i64 0, .int .i64 0, .string ⟨#[]⟩], .bool false]) (by first | (simp [results, Tryz.results69, go_sem, y0, y1, y2, y3]; done) | (simp [results, Tryz.results69, go_sem, y0, y1, y2, y3]; done) | simp [results, Tryz.results69, go_sem]) rfl (optF_mkn hR2.out (by repeat (first | with_reducible exact Ext.refl _ | with_reducible exact hE0 | with_reducible exact hE | with_reducible refine Ext.alloc ?_ _ | with_reducible refine Ext.drewN ?_ _ | with_reducible refine Ext.drew ?_ | ((with_reducible refine Ext.setCell ?_ ?side _); (case side => first | exact Nat.le_refl _ | (simp; done) | (simp; omega))))))
      | some k =>
        obtain ⟨rfl, -⟩ := optF_some h
        clear h
        go_wp2
        exact bodyPost_ret (v := .tuple #[.agg #[.string k.name, .int .i64 k.kind, .int .i64 k.n, .string k.text], .bool true]) (by first | (simp [results, Tryz.results69, go_sem, y0, y1, y2, y3]; done) | (simp [results, Tryz.results69, go_sem, y0, y1, y2, y3]; done) | simp [results, Tryz.results69, go_sem]) rfl (optF_mks hR2.out (by repeat (first | with_reducible exact Ext.refl _ | with_reducible exact hE0 | with_reducible exact hE | with_reducible refine Ext.alloc ?_ _ | with_reducible refine Ext.drewN ?_ _ | with_reducible refine Ext.drew ?_ | ((with_reducible refine Ext.setCell ?_ ?side _); (case side => first | exact Nat.le_refl _ | (simp; done) | (simp; omega))))))
end Go.Proofs.YtpdpjindmghfpaaGreatDoor
