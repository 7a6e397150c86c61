/- Contract of law36's reference Same on equal tables (a walk; printed by gen/g15.py). -/
import Derived.Test.YtmoadonepkccbaaGreatDoorFx
import Derived.Test.YtmoadonepkccbaaGreatDoorEe
namespace Go.Proofs.YtmoadonepkccbaaGreatDoor
open Go.RowKit
set_option maxRecDepth 8000 in
set_option maxHeartbeats 8000000 in
theorem rSames_any (v1 v2 : Value) (l : List RuleD) (w : World) (h1 : RulesM w v1 l) (h2 : RulesM w v2 l) (hl : l.length ≤ 1000000) : Calls Tryz.prog 22 #[v1, v2] w (OneV (.bool true) w) := by
  obtain ⟨p1, c1, rfl⟩ := h1.form
  obtain ⟨p2, c2, rfl⟩ := h2.form
  have d1 : ((l.length : Int) == (l.length : Int)) = true := by simp
  replace h1 := Lib.hid h1
  replace h2 := Lib.hid h2
  go_enter Tryz.func22, Tryz.ntmps22
  go_wp2_with fail
  go_loopw [5] (fun i wr => ∃ k : Nat, k ≤ l.length ∧ i = .int .i64 k ∧ Ext w wr) (fun i _ => l.length - (intOf i).toNat)
  case atStart => exact ⟨0, Nat.zero_le _, rfl, Ext.refl _⟩
  case round =>
    obtain ⟨k, hk, rfl, hEr⟩ := hrel
    by_cases hlt : k < l.length
    · obtain ⟨b1, o1, rfl, s1, hk1⟩ := h1.out.at (by omega)
      obtain ⟨b2, o2, rfl, s2, hk2⟩ := h2.out.at (by omega)
      obtain ⟨hc1, hs1⟩ := hk1 k hlt
      obtain ⟨hc2, hs2⟩ := hk2 k hlt
      obtain ⟨q1, e1, hv1⟩ := hs1.form
      obtain ⟨q2, e2, hv2⟩ := hs2.form
      have kS := Lib.hid (fun w1 (h : Ext w w1) => rsame_any (w := w) (v := s1 k) hs1 (l.getD k rD).when rfl (l.getD k rD).when (s2 k) hs2 w1 h)
      rw [same_refl] at kS
      rw [hv1] at hc1 kS
      rw [hv2] at hc2 kS
      clear hk1 hk2 hs1 hs2 hv1 hv2
      generalize l.getD k rD = r at *
      unfold exAgg at kS
      obtain ⟨g0, g1, g2, g3, g4, g5, g6, g7, g8, g9⟩ := hc1.ext hEr
      obtain ⟨i0, i1, i2, i3, i4, i5, i6, i7, i8, i9⟩ := hc2.ext hEr
      clear hc1 hc2
      have hb1 : b1 < wr.heap.size := cell_lt g0
      have hb2 : b2 < wr.heap.size := cell_lt i0
      have hb11 : b1 < wr.heap.size + 1 := by omega
      have hb22 : b2 < wr.heap.size + 1 := by omega
      go_wp2_with fail
      go_region
      all_goals go_wp2_with fail
      · have hA := (Blk.new wr #[.string r.name, .int .i64 r.when.op, .string r.when.name, .string r.when.text, .int .i64 r.when.n, .slice q1 r.when.args.length e1, .int .i64 r.bps, .int .i64 r.fixed, .int .i64 r.mn, .int .i64 r.mx] 42).alloc (.cells #[.string r.name, .int .i64 r.when.op, .string r.when.name, .string r.when.text, .int .i64 r.when.n, .slice q2 r.when.args.length e2, .int .i64 r.bps, .int .i64 r.fixed, .int .i64 r.mn, .int .i64 r.mx] 42)
        have hB : Blk ((wr.alloc (.cells #[.string r.name, .int .i64 r.when.op, .string r.when.name, .string r.when.text, .int .i64 r.when.n, .slice q1 r.when.args.length e1, .int .i64 r.bps, .int .i64 r.fixed, .int .i64 r.mn, .int .i64 r.mx] 42)).alloc (.cells #[.string r.name, .int .i64 r.when.op, .string r.when.name, .string r.when.text, .int .i64 r.when.n, .slice q2 r.when.args.length e2, .int .i64 r.bps, .int .i64 r.fixed, .int .i64 r.mn, .int .i64 r.mx] 42)) (wr.heap.size + 1) #[.string r.name, .int .i64 r.when.op, .string r.when.name, .string r.when.text, .int .i64 r.when.n, .slice q2 r.when.args.length e2, .int .i64 r.bps, .int .i64 r.fixed, .int .i64 r.mn, .int .i64 r.mx] 42 := Blk.new' _ _ _ _ (by simp)
        have hE : Ext w ((wr.alloc (.cells #[.string r.name, .int .i64 r.when.op, .string r.when.name, .string r.when.text, .int .i64 r.when.n, .slice q1 r.when.args.length e1, .int .i64 r.bps, .int .i64 r.fixed, .int .i64 r.mn, .int .i64 r.mx] 42)).alloc (.cells #[.string r.name, .int .i64 r.when.op, .string r.when.name, .string r.when.text, .int .i64 r.when.n, .slice q2 r.when.args.length e2, .int .i64 r.bps, .int .i64 r.fixed, .int .i64 r.mn, .int .i64 r.mx] 42)) := (hEr.alloc _).alloc _
        refine (kS.out _ hE.drew).mono ?_
        rintro e w1 ⟨rfl, hE1⟩
        replace hE1 := Ext.trans (Ext.refl _).drew hE1
        replace hA := hA.ext hE1
        replace hB := hB.ext hE1
        replace hE := hE.trans hE1
        clear hE1 kS hEr
        have a6 : w1.cell? ⟨wr.heap.size, 6, none⟩ = some (.int .i64 r.bps) := (hA.cell 6).trans rfl
        have b6 : w1.cell? ⟨wr.heap.size + 1, 6, none⟩ = some (.int .i64 r.bps) := (hB.cell 6).trans rfl
        have a7 : w1.cell? ⟨wr.heap.size, 7, none⟩ = some (.int .i64 r.fixed) := (hA.cell 7).trans rfl
        have b7 : w1.cell? ⟨wr.heap.size + 1, 7, none⟩ = some (.int .i64 r.fixed) := (hB.cell 7).trans rfl
        have a8 : w1.cell? ⟨wr.heap.size, 8, none⟩ = some (.int .i64 r.mn) := (hA.cell 8).trans rfl
        have b8 : w1.cell? ⟨wr.heap.size + 1, 8, none⟩ = some (.int .i64 r.mn) := (hB.cell 8).trans rfl
        have a9 : w1.cell? ⟨wr.heap.size, 9, none⟩ = some (.int .i64 r.mx) := (hA.cell 9).trans rfl
        have b9 : w1.cell? ⟨wr.heap.size + 1, 9, none⟩ = some (.int .i64 r.mx) := (hB.cell 9).trans rfl
        clear hA hB
        go_wp2
        go_roundw
        case rel => exact ⟨k + 1, by omega, by go_num, hE⟩
        case measure => simp [intOf]; omega
      · have hA := (Blk.new wr #[.string r.name, .int .i64 r.when.op, .string r.when.name, .string r.when.text, .int .i64 r.when.n, .slice q2 r.when.args.length e2, .int .i64 r.bps, .int .i64 r.fixed, .int .i64 r.mn, .int .i64 r.mx] 42).alloc (.cells #[.string r.name, .int .i64 r.when.op, .string r.when.name, .string r.when.text, .int .i64 r.when.n, .slice q1 r.when.args.length e1, .int .i64 r.bps, .int .i64 r.fixed, .int .i64 r.mn, .int .i64 r.mx] 42)
        have hB : Blk ((wr.alloc (.cells #[.string r.name, .int .i64 r.when.op, .string r.when.name, .string r.when.text, .int .i64 r.when.n, .slice q2 r.when.args.length e2, .int .i64 r.bps, .int .i64 r.fixed, .int .i64 r.mn, .int .i64 r.mx] 42)).alloc (.cells #[.string r.name, .int .i64 r.when.op, .string r.when.name, .string r.when.text, .int .i64 r.when.n, .slice q1 r.when.args.length e1, .int .i64 r.bps, .int .i64 r.fixed, .int .i64 r.mn, .int .i64 r.mx] 42)) (wr.heap.size + 1) #[.string r.name, .int .i64 r.when.op, .string r.when.name, .string r.when.text, .int .i64 r.when.n, .slice q1 r.when.args.length e1, .int .i64 r.bps, .int .i64 r.fixed, .int .i64 r.mn, .int .i64 r.mx] 42 := Blk.new' _ _ _ _ (by simp)
        have hE : Ext w ((wr.alloc (.cells #[.string r.name, .int .i64 r.when.op, .string r.when.name, .string r.when.text, .int .i64 r.when.n, .slice q2 r.when.args.length e2, .int .i64 r.bps, .int .i64 r.fixed, .int .i64 r.mn, .int .i64 r.mx] 42)).alloc (.cells #[.string r.name, .int .i64 r.when.op, .string r.when.name, .string r.when.text, .int .i64 r.when.n, .slice q1 r.when.args.length e1, .int .i64 r.bps, .int .i64 r.fixed, .int .i64 r.mn, .int .i64 r.mx] 42)) := (hEr.alloc _).alloc _
        refine (kS.out _ hE.drew).mono ?_
        rintro e w1 ⟨rfl, hE1⟩
        replace hE1 := Ext.trans (Ext.refl _).drew hE1
        replace hA := hA.ext hE1
        replace hB := hB.ext hE1
        replace hE := hE.trans hE1
        clear hE1 kS hEr
        have a6 : w1.cell? ⟨wr.heap.size, 6, none⟩ = some (.int .i64 r.bps) := (hA.cell 6).trans rfl
        have b6 : w1.cell? ⟨wr.heap.size + 1, 6, none⟩ = some (.int .i64 r.bps) := (hB.cell 6).trans rfl
        have a7 : w1.cell? ⟨wr.heap.size, 7, none⟩ = some (.int .i64 r.fixed) := (hA.cell 7).trans rfl
        have b7 : w1.cell? ⟨wr.heap.size + 1, 7, none⟩ = some (.int .i64 r.fixed) := (hB.cell 7).trans rfl
        have a8 : w1.cell? ⟨wr.heap.size, 8, none⟩ = some (.int .i64 r.mn) := (hA.cell 8).trans rfl
        have b8 : w1.cell? ⟨wr.heap.size + 1, 8, none⟩ = some (.int .i64 r.mn) := (hB.cell 8).trans rfl
        have a9 : w1.cell? ⟨wr.heap.size, 9, none⟩ = some (.int .i64 r.mx) := (hA.cell 9).trans rfl
        have b9 : w1.cell? ⟨wr.heap.size + 1, 9, none⟩ = some (.int .i64 r.mx) := (hB.cell 9).trans rfl
        clear hA hB
        go_wp2
        go_roundw
        case rel => exact ⟨k + 1, by omega, by go_num, hE⟩
        case measure => simp [intOf]; omega
    · go_wp2
      go_ret
      exact ⟨rfl, hEr⟩
end Go.Proofs.YtmoadonepkccbaaGreatDoor
