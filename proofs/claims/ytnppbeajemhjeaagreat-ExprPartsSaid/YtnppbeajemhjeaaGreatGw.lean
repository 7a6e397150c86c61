/- Contracts of the reference's longest, Windows (walks; printed by gen/g16.py). -/
import Derived.Test.YtnppbeajemhjeaaGreatG9
import Derived.Test.YtnppbeajemhjeaaGreatEh
import Derived.Deep.RegionHeld3
namespace Go.Proofs.YtnppbeajemhjeaaGreat
open Go.RowKit
theorem unDrW {a b : World} (h : Ext a.drew b) : Ext a b := Ext.trans (Ext.refl _).drew h
theorem exAtW {w z u : World} (_ : Ext w z) (h : Ext z u) : Ext z u := h
theorem strsM_mk {w : World} {l : List (List UInt8)} (p : Option Addr) (c : Nat) (h2 : l.length ≤ 1000000) (h3 : 0 < l.length → ∃ b off, p = some ⟨b, off, none⟩ ∧ ∀ i, i < l.length → w.cell? ⟨b, off + i, none⟩ = some (encStr (l.getD i []))) : StrsM w (.slice p l.length c) l := ⟨p, c, rfl, h2, h3⟩
theorem long1_max (m : Int) (x : Ex) (h : 0 ≤ m) : long1 m x = max m (long1 0 x) := by
  unfold long1
  split <;> omega
theorem foldl_long_max : ∀ (l : List Ex) (m : Int), 0 ≤ m → l.foldl long1 m = max m (l.foldl long1 0) ∧ 0 ≤ l.foldl long1 0
  | [], m, h => ⟨by simp; omega, by simp⟩
  | a :: l, m, h => by
    have e := long1_max m a h
    have e0 : 0 ≤ long1 0 a := by unfold long1; split <;> omega
    obtain ⟨h1, h2⟩ := foldl_long_max l (long1 m a) (by omega)
    obtain ⟨h3, h4⟩ := foldl_long_max l (long1 0 a) e0
    rw [List.foldl_cons, List.foldl_cons]
    omega
theorem longF_max (m : Int) (x : Ex) (h : 0 ≤ m) : longF m x = max m x.long ∧ 0 ≤ x.long := foldl_long_max x.parts m h
theorem long_take (args : List Ex) (k : Nat) (h : k < args.length) (m : Int) : (args.take (k + 1)).foldl longF m = longF ((args.take k).foldl longF m) (args.getD k exD) := by
  rw [take_snocD args exD k h, List.foldl_append]
  rfl
set_option maxRecDepth 8000 in
set_option maxHeartbeats 2000000 in
theorem rlongest_any {w : World} {v : Value} {l : List Ex} (h : ExS w v l) : ∀ (x : Ex), x.args = l → ∀ w', Ext w w' → Calls Tryz.prog 27 #[exAgg x v] w' (OneV (.int .i64 x.long) w') := by
  refine ExS.ind (P := fun x v => ∀ w', Ext w w' → Calls Tryz.prog 27 #[exAgg x v] w' (OneV (.int .i64 x.long) w')) ?_ h
  clear h
  intro x v hS hK w' hE
  obtain ⟨op, nm, tx, n, args⟩ := x
  obtain ⟨q, cp, rfl⟩ := hS.form
  have hlen := hS.len
  replace hK := Lib.hid hK
  simp only [Ex.args] at hK hlen ⊢
  have hR := Lib.hid (show (Ex.mk op nm tx n args).long = args.foldl longF (long1 0 (.mk op nm tx n args)) from long_mk op nm tx n args 0)
  have hst := Lib.hid (long_take args)
  have h10 : long1 0 (.mk op nm tx n args) = if op = 16 ∨ op = 17 then max 0 n else 0 := rfl
  have h1n : 0 ≤ long1 0 (.mk op nm tx n args) := by rw [h10]; split <;> omega
  generalize (Ex.mk op nm tx n args).long = R at *
  rw [exAgg_mk]
  generalize long1 0 (.mk op nm tx n args) = m0 at *
  clear hS
  go_enter Tryz.func27, Tryz.ntmps27
  have g1 : (op == 16) = decide (op = 16) := by by_cases h : op = 16 <;> simp [h]
  have hm : ∃ b1 b2 b3 : Bool, (op == 16) = b1 ∧ (op == 17) = b2 ∧ decide (0 < n) = b3 ∧ m0 = if (b1 || b2) && b3 then n else 0 := by
    refine ⟨_, _, _, rfl, rfl, rfl, ?_⟩
    rw [h10]
    by_cases h1 : op = 16
    · by_cases h3 : 0 < n
      · simp [h1, h3]; omega
      · simp [h1, h3]; omega
    · by_cases h2 : op = 17
      · by_cases h3 : 0 < n
        · simp [h2, h3]; omega
        · simp [h2, h3]; omega
      · simp [h1, h2]
  clear g1 h10
  obtain ⟨b1, b2, b3, e1, e2, e3, hm⟩ := hm
  replace h1n := Lib.hid h1n
  cases b1 <;> cases b2 <;> cases b3
  · have hmv := Lib.hid (show m0 = 0 by simpa using hm)
    clear hm
    go_wp2_with fail
    have hb0 := Blk.new w' #[.int .i64 op, .string nm, .string tx, .int .i64 n, .slice q args.length cp] 24
    have hE0 : Ext w' (w'.alloc (.cells #[.int .i64 op, .string nm, .string tx, .int .i64 n, .slice q args.length cp] 24)) := (by repeat (first | with_reducible exact Ext.refl _ | with_reducible exact hE0 | with_reducible exact hE | with_reducible refine Ext.alloc ?_ _ | with_reducible refine Ext.drewN ?_ _ | with_reducible refine Ext.drew ?_ | ((with_reducible refine Ext.setCell ?_ ?side _); (case side => first | exact Nat.le_refl _ | (simp; done) | (simp; omega)))))
    generalize w'.alloc (.cells #[.int .i64 op, .string nm, .string tx, .int .i64 n, .slice q args.length cp] 24) = w0 at *
    replace hb0 := Lib.hid hb0
    go_loopw [3, 4] (fun d i wr => ∃ k : Nat, ∃ m : Int, k ≤ args.length ∧ i = .int .i64 k ∧ d = .int .i64 m ∧ 0 ≤ m ∧ m = (args.take k).foldl longF m0 ∧ Ext w0 wr) (fun _ i _ => args.length - (intOf i).toNat)
    case atStart => exact ⟨0, 0, Nat.zero_le _, rfl, rfl, by have h1 := h1n.out; have h2 := hmv.out; omega, hmv.out.symm, Ext.refl _⟩
    case round =>
      obtain ⟨k, m, hk, rfl, rfl, hm0, hmk, hEr⟩ := hrel
      have x4 : wr.cell? ⟨w'.heap.size, 4, none⟩ = some (.slice q args.length cp) := ((hb0.out.ext hEr).cell 4).trans rfl
      replace hmk := Lib.hid hmk
      by_cases hlt : k < args.length
      · obtain ⟨b, off, rfl, sv, hkid⟩ := hK.out _ _ rfl (by omega)
        obtain ⟨hc, hsu, hP⟩ := hkid k hlt
        have hform := hsu.form
        have hEw := hE.trans (hE0.trans hEr)
        obtain ⟨c0, c1, c2, c3, c4⟩ := (hc.ext hEw).five
        have hsn := Lib.hid (show (args.take (k + 1)).foldl longF m0 = max m (args.getD k exD).long by rw [hst.out k hlt, ← hmk.out]; exact (longF_max m _ hm0).1)
        have hy0 := (longF_max 0 (args.getD k exD) (by omega)).2
        replace hP := Lib.hid hP
        clear hc hkid hsu
        generalize args.getD k exD = y at *
        generalize sv k = u at *
        obtain ⟨uq, uc, rfl⟩ := hform
        go_wp2_with fail
        refine (hP.out _ hEw).mono ?_
        rintro e w1 ⟨rfl, hE1⟩
        have hE2 := hEr.trans hE1
        clear hE1 c0 c1 c2 c3 c4 x4 hEw hEr hP
        generalize y.long = yl at *
        by_cases hc : m < yl
        · have dd : decide (m < yl) = true := by simp [hc]
          have hmx := Lib.hid (Int.max_eq_right (Int.le_of_lt hc))
          clear hmk hc
          go_wp2
          go_roundw
          case rel => exact ⟨k + 1, yl, by omega, by go_num, rfl, hy0, by rw [hsn.out, hmx.out], hE2⟩
          case measure => simp [intOf]; omega
        · have dd : decide (m < yl) = false := by simp; omega
          have hmx := Lib.hid (Int.max_eq_left (Int.not_lt.1 hc))
          clear hmk hc
          go_wp2
          go_roundw
          case rel => exact ⟨k + 1, m, by omega, by go_num, rfl, hm0, by rw [hsn.out, hmx.out], hE2⟩
          case measure => simp [intOf]; omega
      · have hkk : args.take k = args := List.take_of_length_le (by omega)
        have hmR := Lib.hid (show m = R by rw [hR.out, hmk.out, hkk])
        clear hkk hmk
        go_wp2
        go_ret
        rw [← hmR.out]
        exact ⟨rfl, hE0.trans hEr⟩
  · have hmv := Lib.hid (show m0 = 0 by simpa using hm)
    clear hm
    go_wp2_with fail
    have hb0 := Blk.new w' #[.int .i64 op, .string nm, .string tx, .int .i64 n, .slice q args.length cp] 24
    have hE0 : Ext w' (w'.alloc (.cells #[.int .i64 op, .string nm, .string tx, .int .i64 n, .slice q args.length cp] 24)) := (by repeat (first | with_reducible exact Ext.refl _ | with_reducible exact hE0 | with_reducible exact hE | with_reducible refine Ext.alloc ?_ _ | with_reducible refine Ext.drewN ?_ _ | with_reducible refine Ext.drew ?_ | ((with_reducible refine Ext.setCell ?_ ?side _); (case side => first | exact Nat.le_refl _ | (simp; done) | (simp; omega)))))
    generalize w'.alloc (.cells #[.int .i64 op, .string nm, .string tx, .int .i64 n, .slice q args.length cp] 24) = w0 at *
    replace hb0 := Lib.hid hb0
    go_loopw [3, 4] (fun d i wr => ∃ k : Nat, ∃ m : Int, k ≤ args.length ∧ i = .int .i64 k ∧ d = .int .i64 m ∧ 0 ≤ m ∧ m = (args.take k).foldl longF m0 ∧ Ext w0 wr) (fun _ i _ => args.length - (intOf i).toNat)
    case atStart => exact ⟨0, 0, Nat.zero_le _, rfl, rfl, by have h1 := h1n.out; have h2 := hmv.out; omega, hmv.out.symm, Ext.refl _⟩
    case round =>
      obtain ⟨k, m, hk, rfl, rfl, hm0, hmk, hEr⟩ := hrel
      have x4 : wr.cell? ⟨w'.heap.size, 4, none⟩ = some (.slice q args.length cp) := ((hb0.out.ext hEr).cell 4).trans rfl
      replace hmk := Lib.hid hmk
      by_cases hlt : k < args.length
      · obtain ⟨b, off, rfl, sv, hkid⟩ := hK.out _ _ rfl (by omega)
        obtain ⟨hc, hsu, hP⟩ := hkid k hlt
        have hform := hsu.form
        have hEw := hE.trans (hE0.trans hEr)
        obtain ⟨c0, c1, c2, c3, c4⟩ := (hc.ext hEw).five
        have hsn := Lib.hid (show (args.take (k + 1)).foldl longF m0 = max m (args.getD k exD).long by rw [hst.out k hlt, ← hmk.out]; exact (longF_max m _ hm0).1)
        have hy0 := (longF_max 0 (args.getD k exD) (by omega)).2
        replace hP := Lib.hid hP
        clear hc hkid hsu
        generalize args.getD k exD = y at *
        generalize sv k = u at *
        obtain ⟨uq, uc, rfl⟩ := hform
        go_wp2_with fail
        refine (hP.out _ hEw).mono ?_
        rintro e w1 ⟨rfl, hE1⟩
        have hE2 := hEr.trans hE1
        clear hE1 c0 c1 c2 c3 c4 x4 hEw hEr hP
        generalize y.long = yl at *
        by_cases hc : m < yl
        · have dd : decide (m < yl) = true := by simp [hc]
          have hmx := Lib.hid (Int.max_eq_right (Int.le_of_lt hc))
          clear hmk hc
          go_wp2
          go_roundw
          case rel => exact ⟨k + 1, yl, by omega, by go_num, rfl, hy0, by rw [hsn.out, hmx.out], hE2⟩
          case measure => simp [intOf]; omega
        · have dd : decide (m < yl) = false := by simp; omega
          have hmx := Lib.hid (Int.max_eq_left (Int.not_lt.1 hc))
          clear hmk hc
          go_wp2
          go_roundw
          case rel => exact ⟨k + 1, m, by omega, by go_num, rfl, hm0, by rw [hsn.out, hmx.out], hE2⟩
          case measure => simp [intOf]; omega
      · have hkk : args.take k = args := List.take_of_length_le (by omega)
        have hmR := Lib.hid (show m = R by rw [hR.out, hmk.out, hkk])
        clear hkk hmk
        go_wp2
        go_ret
        rw [← hmR.out]
        exact ⟨rfl, hE0.trans hEr⟩
  · have hmv := Lib.hid (show m0 = 0 by simpa using hm)
    clear hm
    go_wp2_with fail
    have hb0 := Blk.new w' #[.int .i64 op, .string nm, .string tx, .int .i64 n, .slice q args.length cp] 24
    have hE0 : Ext w' (w'.alloc (.cells #[.int .i64 op, .string nm, .string tx, .int .i64 n, .slice q args.length cp] 24)) := (by repeat (first | with_reducible exact Ext.refl _ | with_reducible exact hE0 | with_reducible exact hE | with_reducible refine Ext.alloc ?_ _ | with_reducible refine Ext.drewN ?_ _ | with_reducible refine Ext.drew ?_ | ((with_reducible refine Ext.setCell ?_ ?side _); (case side => first | exact Nat.le_refl _ | (simp; done) | (simp; omega)))))
    generalize w'.alloc (.cells #[.int .i64 op, .string nm, .string tx, .int .i64 n, .slice q args.length cp] 24) = w0 at *
    replace hb0 := Lib.hid hb0
    go_loopw [3, 4] (fun d i wr => ∃ k : Nat, ∃ m : Int, k ≤ args.length ∧ i = .int .i64 k ∧ d = .int .i64 m ∧ 0 ≤ m ∧ m = (args.take k).foldl longF m0 ∧ Ext w0 wr) (fun _ i _ => args.length - (intOf i).toNat)
    case atStart => exact ⟨0, 0, Nat.zero_le _, rfl, rfl, by have h1 := h1n.out; have h2 := hmv.out; omega, hmv.out.symm, Ext.refl _⟩
    case round =>
      obtain ⟨k, m, hk, rfl, rfl, hm0, hmk, hEr⟩ := hrel
      have x4 : wr.cell? ⟨w'.heap.size, 4, none⟩ = some (.slice q args.length cp) := ((hb0.out.ext hEr).cell 4).trans rfl
      replace hmk := Lib.hid hmk
      by_cases hlt : k < args.length
      · obtain ⟨b, off, rfl, sv, hkid⟩ := hK.out _ _ rfl (by omega)
        obtain ⟨hc, hsu, hP⟩ := hkid k hlt
        have hform := hsu.form
        have hEw := hE.trans (hE0.trans hEr)
        obtain ⟨c0, c1, c2, c3, c4⟩ := (hc.ext hEw).five
        have hsn := Lib.hid (show (args.take (k + 1)).foldl longF m0 = max m (args.getD k exD).long by rw [hst.out k hlt, ← hmk.out]; exact (longF_max m _ hm0).1)
        have hy0 := (longF_max 0 (args.getD k exD) (by omega)).2
        replace hP := Lib.hid hP
        clear hc hkid hsu
        generalize args.getD k exD = y at *
        generalize sv k = u at *
        obtain ⟨uq, uc, rfl⟩ := hform
        go_wp2_with fail
        refine (hP.out _ hEw).mono ?_
        rintro e w1 ⟨rfl, hE1⟩
        have hE2 := hEr.trans hE1
        clear hE1 c0 c1 c2 c3 c4 x4 hEw hEr hP
        generalize y.long = yl at *
        by_cases hc : m < yl
        · have dd : decide (m < yl) = true := by simp [hc]
          have hmx := Lib.hid (Int.max_eq_right (Int.le_of_lt hc))
          clear hmk hc
          go_wp2
          go_roundw
          case rel => exact ⟨k + 1, yl, by omega, by go_num, rfl, hy0, by rw [hsn.out, hmx.out], hE2⟩
          case measure => simp [intOf]; omega
        · have dd : decide (m < yl) = false := by simp; omega
          have hmx := Lib.hid (Int.max_eq_left (Int.not_lt.1 hc))
          clear hmk hc
          go_wp2
          go_roundw
          case rel => exact ⟨k + 1, m, by omega, by go_num, rfl, hm0, by rw [hsn.out, hmx.out], hE2⟩
          case measure => simp [intOf]; omega
      · have hkk : args.take k = args := List.take_of_length_le (by omega)
        have hmR := Lib.hid (show m = R by rw [hR.out, hmk.out, hkk])
        clear hkk hmk
        go_wp2
        go_ret
        rw [← hmR.out]
        exact ⟨rfl, hE0.trans hEr⟩
  · have hmv := Lib.hid (show m0 = n by simpa using hm)
    clear hm
    go_wp2_with fail
    have hb0 := Blk.new w' #[.int .i64 op, .string nm, .string tx, .int .i64 n, .slice q args.length cp] 24
    have hE0 : Ext w' (w'.alloc (.cells #[.int .i64 op, .string nm, .string tx, .int .i64 n, .slice q args.length cp] 24)) := (by repeat (first | with_reducible exact Ext.refl _ | with_reducible exact hE0 | with_reducible exact hE | with_reducible refine Ext.alloc ?_ _ | with_reducible refine Ext.drewN ?_ _ | with_reducible refine Ext.drew ?_ | ((with_reducible refine Ext.setCell ?_ ?side _); (case side => first | exact Nat.le_refl _ | (simp; done) | (simp; omega)))))
    generalize w'.alloc (.cells #[.int .i64 op, .string nm, .string tx, .int .i64 n, .slice q args.length cp] 24) = w0 at *
    replace hb0 := Lib.hid hb0
    go_loopw [3, 4] (fun d i wr => ∃ k : Nat, ∃ m : Int, k ≤ args.length ∧ i = .int .i64 k ∧ d = .int .i64 m ∧ 0 ≤ m ∧ m = (args.take k).foldl longF m0 ∧ Ext w0 wr) (fun _ i _ => args.length - (intOf i).toNat)
    case atStart => exact ⟨0, n, Nat.zero_le _, rfl, rfl, by have h1 := h1n.out; have h2 := hmv.out; omega, hmv.out.symm, Ext.refl _⟩
    case round =>
      obtain ⟨k, m, hk, rfl, rfl, hm0, hmk, hEr⟩ := hrel
      have x4 : wr.cell? ⟨w'.heap.size, 4, none⟩ = some (.slice q args.length cp) := ((hb0.out.ext hEr).cell 4).trans rfl
      replace hmk := Lib.hid hmk
      by_cases hlt : k < args.length
      · obtain ⟨b, off, rfl, sv, hkid⟩ := hK.out _ _ rfl (by omega)
        obtain ⟨hc, hsu, hP⟩ := hkid k hlt
        have hform := hsu.form
        have hEw := hE.trans (hE0.trans hEr)
        obtain ⟨c0, c1, c2, c3, c4⟩ := (hc.ext hEw).five
        have hsn := Lib.hid (show (args.take (k + 1)).foldl longF m0 = max m (args.getD k exD).long by rw [hst.out k hlt, ← hmk.out]; exact (longF_max m _ hm0).1)
        have hy0 := (longF_max 0 (args.getD k exD) (by omega)).2
        replace hP := Lib.hid hP
        clear hc hkid hsu
        generalize args.getD k exD = y at *
        generalize sv k = u at *
        obtain ⟨uq, uc, rfl⟩ := hform
        go_wp2_with fail
        refine (hP.out _ hEw).mono ?_
        rintro e w1 ⟨rfl, hE1⟩
        have hE2 := hEr.trans hE1
        clear hE1 c0 c1 c2 c3 c4 x4 hEw hEr hP
        generalize y.long = yl at *
        by_cases hc : m < yl
        · have dd : decide (m < yl) = true := by simp [hc]
          have hmx := Lib.hid (Int.max_eq_right (Int.le_of_lt hc))
          clear hmk hc
          go_wp2
          go_roundw
          case rel => exact ⟨k + 1, yl, by omega, by go_num, rfl, hy0, by rw [hsn.out, hmx.out], hE2⟩
          case measure => simp [intOf]; omega
        · have dd : decide (m < yl) = false := by simp; omega
          have hmx := Lib.hid (Int.max_eq_left (Int.not_lt.1 hc))
          clear hmk hc
          go_wp2
          go_roundw
          case rel => exact ⟨k + 1, m, by omega, by go_num, rfl, hm0, by rw [hsn.out, hmx.out], hE2⟩
          case measure => simp [intOf]; omega
      · have hkk : args.take k = args := List.take_of_length_le (by omega)
        have hmR := Lib.hid (show m = R by rw [hR.out, hmk.out, hkk])
        clear hkk hmk
        go_wp2
        go_ret
        rw [← hmR.out]
        exact ⟨rfl, hE0.trans hEr⟩
  · have hmv := Lib.hid (show m0 = 0 by simpa using hm)
    clear hm
    go_wp2_with fail
    have hb0 := Blk.new w' #[.int .i64 op, .string nm, .string tx, .int .i64 n, .slice q args.length cp] 24
    have hE0 : Ext w' (w'.alloc (.cells #[.int .i64 op, .string nm, .string tx, .int .i64 n, .slice q args.length cp] 24)) := (by repeat (first | with_reducible exact Ext.refl _ | with_reducible exact hE0 | with_reducible exact hE | with_reducible refine Ext.alloc ?_ _ | with_reducible refine Ext.drewN ?_ _ | with_reducible refine Ext.drew ?_ | ((with_reducible refine Ext.setCell ?_ ?side _); (case side => first | exact Nat.le_refl _ | (simp; done) | (simp; omega)))))
    generalize w'.alloc (.cells #[.int .i64 op, .string nm, .string tx, .int .i64 n, .slice q args.length cp] 24) = w0 at *
    replace hb0 := Lib.hid hb0
    go_loopw [3, 4] (fun d i wr => ∃ k : Nat, ∃ m : Int, k ≤ args.length ∧ i = .int .i64 k ∧ d = .int .i64 m ∧ 0 ≤ m ∧ m = (args.take k).foldl longF m0 ∧ Ext w0 wr) (fun _ i _ => args.length - (intOf i).toNat)
    case atStart => exact ⟨0, 0, Nat.zero_le _, rfl, rfl, by have h1 := h1n.out; have h2 := hmv.out; omega, hmv.out.symm, Ext.refl _⟩
    case round =>
      obtain ⟨k, m, hk, rfl, rfl, hm0, hmk, hEr⟩ := hrel
      have x4 : wr.cell? ⟨w'.heap.size, 4, none⟩ = some (.slice q args.length cp) := ((hb0.out.ext hEr).cell 4).trans rfl
      replace hmk := Lib.hid hmk
      by_cases hlt : k < args.length
      · obtain ⟨b, off, rfl, sv, hkid⟩ := hK.out _ _ rfl (by omega)
        obtain ⟨hc, hsu, hP⟩ := hkid k hlt
        have hform := hsu.form
        have hEw := hE.trans (hE0.trans hEr)
        obtain ⟨c0, c1, c2, c3, c4⟩ := (hc.ext hEw).five
        have hsn := Lib.hid (show (args.take (k + 1)).foldl longF m0 = max m (args.getD k exD).long by rw [hst.out k hlt, ← hmk.out]; exact (longF_max m _ hm0).1)
        have hy0 := (longF_max 0 (args.getD k exD) (by omega)).2
        replace hP := Lib.hid hP
        clear hc hkid hsu
        generalize args.getD k exD = y at *
        generalize sv k = u at *
        obtain ⟨uq, uc, rfl⟩ := hform
        go_wp2_with fail
        refine (hP.out _ hEw).mono ?_
        rintro e w1 ⟨rfl, hE1⟩
        have hE2 := hEr.trans hE1
        clear hE1 c0 c1 c2 c3 c4 x4 hEw hEr hP
        generalize y.long = yl at *
        by_cases hc : m < yl
        · have dd : decide (m < yl) = true := by simp [hc]
          have hmx := Lib.hid (Int.max_eq_right (Int.le_of_lt hc))
          clear hmk hc
          go_wp2
          go_roundw
          case rel => exact ⟨k + 1, yl, by omega, by go_num, rfl, hy0, by rw [hsn.out, hmx.out], hE2⟩
          case measure => simp [intOf]; omega
        · have dd : decide (m < yl) = false := by simp; omega
          have hmx := Lib.hid (Int.max_eq_left (Int.not_lt.1 hc))
          clear hmk hc
          go_wp2
          go_roundw
          case rel => exact ⟨k + 1, m, by omega, by go_num, rfl, hm0, by rw [hsn.out, hmx.out], hE2⟩
          case measure => simp [intOf]; omega
      · have hkk : args.take k = args := List.take_of_length_le (by omega)
        have hmR := Lib.hid (show m = R by rw [hR.out, hmk.out, hkk])
        clear hkk hmk
        go_wp2
        go_ret
        rw [← hmR.out]
        exact ⟨rfl, hE0.trans hEr⟩
  · have hmv := Lib.hid (show m0 = n by simpa using hm)
    clear hm
    go_wp2_with fail
    have hb0 := Blk.new w' #[.int .i64 op, .string nm, .string tx, .int .i64 n, .slice q args.length cp] 24
    have hE0 : Ext w' (w'.alloc (.cells #[.int .i64 op, .string nm, .string tx, .int .i64 n, .slice q args.length cp] 24)) := (by repeat (first | with_reducible exact Ext.refl _ | with_reducible exact hE0 | with_reducible exact hE | with_reducible refine Ext.alloc ?_ _ | with_reducible refine Ext.drewN ?_ _ | with_reducible refine Ext.drew ?_ | ((with_reducible refine Ext.setCell ?_ ?side _); (case side => first | exact Nat.le_refl _ | (simp; done) | (simp; omega)))))
    generalize w'.alloc (.cells #[.int .i64 op, .string nm, .string tx, .int .i64 n, .slice q args.length cp] 24) = w0 at *
    replace hb0 := Lib.hid hb0
    go_loopw [3, 4] (fun d i wr => ∃ k : Nat, ∃ m : Int, k ≤ args.length ∧ i = .int .i64 k ∧ d = .int .i64 m ∧ 0 ≤ m ∧ m = (args.take k).foldl longF m0 ∧ Ext w0 wr) (fun _ i _ => args.length - (intOf i).toNat)
    case atStart => exact ⟨0, n, Nat.zero_le _, rfl, rfl, by have h1 := h1n.out; have h2 := hmv.out; omega, hmv.out.symm, Ext.refl _⟩
    case round =>
      obtain ⟨k, m, hk, rfl, rfl, hm0, hmk, hEr⟩ := hrel
      have x4 : wr.cell? ⟨w'.heap.size, 4, none⟩ = some (.slice q args.length cp) := ((hb0.out.ext hEr).cell 4).trans rfl
      replace hmk := Lib.hid hmk
      by_cases hlt : k < args.length
      · obtain ⟨b, off, rfl, sv, hkid⟩ := hK.out _ _ rfl (by omega)
        obtain ⟨hc, hsu, hP⟩ := hkid k hlt
        have hform := hsu.form
        have hEw := hE.trans (hE0.trans hEr)
        obtain ⟨c0, c1, c2, c3, c4⟩ := (hc.ext hEw).five
        have hsn := Lib.hid (show (args.take (k + 1)).foldl longF m0 = max m (args.getD k exD).long by rw [hst.out k hlt, ← hmk.out]; exact (longF_max m _ hm0).1)
        have hy0 := (longF_max 0 (args.getD k exD) (by omega)).2
        replace hP := Lib.hid hP
        clear hc hkid hsu
        generalize args.getD k exD = y at *
        generalize sv k = u at *
        obtain ⟨uq, uc, rfl⟩ := hform
        go_wp2_with fail
        refine (hP.out _ hEw).mono ?_
        rintro e w1 ⟨rfl, hE1⟩
        have hE2 := hEr.trans hE1
        clear hE1 c0 c1 c2 c3 c4 x4 hEw hEr hP
        generalize y.long = yl at *
        by_cases hc : m < yl
        · have dd : decide (m < yl) = true := by simp [hc]
          have hmx := Lib.hid (Int.max_eq_right (Int.le_of_lt hc))
          clear hmk hc
          go_wp2
          go_roundw
          case rel => exact ⟨k + 1, yl, by omega, by go_num, rfl, hy0, by rw [hsn.out, hmx.out], hE2⟩
          case measure => simp [intOf]; omega
        · have dd : decide (m < yl) = false := by simp; omega
          have hmx := Lib.hid (Int.max_eq_left (Int.not_lt.1 hc))
          clear hmk hc
          go_wp2
          go_roundw
          case rel => exact ⟨k + 1, m, by omega, by go_num, rfl, hm0, by rw [hsn.out, hmx.out], hE2⟩
          case measure => simp [intOf]; omega
      · have hkk : args.take k = args := List.take_of_length_le (by omega)
        have hmR := Lib.hid (show m = R by rw [hR.out, hmk.out, hkk])
        clear hkk hmk
        go_wp2
        go_ret
        rw [← hmR.out]
        exact ⟨rfl, hE0.trans hEr⟩
  · have hmv := Lib.hid (show m0 = 0 by simpa using hm)
    clear hm
    go_wp2_with fail
    have hb0 := Blk.new w' #[.int .i64 op, .string nm, .string tx, .int .i64 n, .slice q args.length cp] 24
    have hE0 : Ext w' (w'.alloc (.cells #[.int .i64 op, .string nm, .string tx, .int .i64 n, .slice q args.length cp] 24)) := (by repeat (first | with_reducible exact Ext.refl _ | with_reducible exact hE0 | with_reducible exact hE | with_reducible refine Ext.alloc ?_ _ | with_reducible refine Ext.drewN ?_ _ | with_reducible refine Ext.drew ?_ | ((with_reducible refine Ext.setCell ?_ ?side _); (case side => first | exact Nat.le_refl _ | (simp; done) | (simp; omega)))))
    generalize w'.alloc (.cells #[.int .i64 op, .string nm, .string tx, .int .i64 n, .slice q args.length cp] 24) = w0 at *
    replace hb0 := Lib.hid hb0
    go_loopw [3, 4] (fun d i wr => ∃ k : Nat, ∃ m : Int, k ≤ args.length ∧ i = .int .i64 k ∧ d = .int .i64 m ∧ 0 ≤ m ∧ m = (args.take k).foldl longF m0 ∧ Ext w0 wr) (fun _ i _ => args.length - (intOf i).toNat)
    case atStart => exact ⟨0, 0, Nat.zero_le _, rfl, rfl, by have h1 := h1n.out; have h2 := hmv.out; omega, hmv.out.symm, Ext.refl _⟩
    case round =>
      obtain ⟨k, m, hk, rfl, rfl, hm0, hmk, hEr⟩ := hrel
      have x4 : wr.cell? ⟨w'.heap.size, 4, none⟩ = some (.slice q args.length cp) := ((hb0.out.ext hEr).cell 4).trans rfl
      replace hmk := Lib.hid hmk
      by_cases hlt : k < args.length
      · obtain ⟨b, off, rfl, sv, hkid⟩ := hK.out _ _ rfl (by omega)
        obtain ⟨hc, hsu, hP⟩ := hkid k hlt
        have hform := hsu.form
        have hEw := hE.trans (hE0.trans hEr)
        obtain ⟨c0, c1, c2, c3, c4⟩ := (hc.ext hEw).five
        have hsn := Lib.hid (show (args.take (k + 1)).foldl longF m0 = max m (args.getD k exD).long by rw [hst.out k hlt, ← hmk.out]; exact (longF_max m _ hm0).1)
        have hy0 := (longF_max 0 (args.getD k exD) (by omega)).2
        replace hP := Lib.hid hP
        clear hc hkid hsu
        generalize args.getD k exD = y at *
        generalize sv k = u at *
        obtain ⟨uq, uc, rfl⟩ := hform
        go_wp2_with fail
        refine (hP.out _ hEw).mono ?_
        rintro e w1 ⟨rfl, hE1⟩
        have hE2 := hEr.trans hE1
        clear hE1 c0 c1 c2 c3 c4 x4 hEw hEr hP
        generalize y.long = yl at *
        by_cases hc : m < yl
        · have dd : decide (m < yl) = true := by simp [hc]
          have hmx := Lib.hid (Int.max_eq_right (Int.le_of_lt hc))
          clear hmk hc
          go_wp2
          go_roundw
          case rel => exact ⟨k + 1, yl, by omega, by go_num, rfl, hy0, by rw [hsn.out, hmx.out], hE2⟩
          case measure => simp [intOf]; omega
        · have dd : decide (m < yl) = false := by simp; omega
          have hmx := Lib.hid (Int.max_eq_left (Int.not_lt.1 hc))
          clear hmk hc
          go_wp2
          go_roundw
          case rel => exact ⟨k + 1, m, by omega, by go_num, rfl, hm0, by rw [hsn.out, hmx.out], hE2⟩
          case measure => simp [intOf]; omega
      · have hkk : args.take k = args := List.take_of_length_le (by omega)
        have hmR := Lib.hid (show m = R by rw [hR.out, hmk.out, hkk])
        clear hkk hmk
        go_wp2
        go_ret
        rw [← hmR.out]
        exact ⟨rfl, hE0.trans hEr⟩
  · have hmv := Lib.hid (show m0 = n by simpa using hm)
    clear hm
    go_wp2_with fail
    have hb0 := Blk.new w' #[.int .i64 op, .string nm, .string tx, .int .i64 n, .slice q args.length cp] 24
    have hE0 : Ext w' (w'.alloc (.cells #[.int .i64 op, .string nm, .string tx, .int .i64 n, .slice q args.length cp] 24)) := (by repeat (first | with_reducible exact Ext.refl _ | with_reducible exact hE0 | with_reducible exact hE | with_reducible refine Ext.alloc ?_ _ | with_reducible refine Ext.drewN ?_ _ | with_reducible refine Ext.drew ?_ | ((with_reducible refine Ext.setCell ?_ ?side _); (case side => first | exact Nat.le_refl _ | (simp; done) | (simp; omega)))))
    generalize w'.alloc (.cells #[.int .i64 op, .string nm, .string tx, .int .i64 n, .slice q args.length cp] 24) = w0 at *
    replace hb0 := Lib.hid hb0
    go_loopw [3, 4] (fun d i wr => ∃ k : Nat, ∃ m : Int, k ≤ args.length ∧ i = .int .i64 k ∧ d = .int .i64 m ∧ 0 ≤ m ∧ m = (args.take k).foldl longF m0 ∧ Ext w0 wr) (fun _ i _ => args.length - (intOf i).toNat)
    case atStart => exact ⟨0, n, Nat.zero_le _, rfl, rfl, by have h1 := h1n.out; have h2 := hmv.out; omega, hmv.out.symm, Ext.refl _⟩
    case round =>
      obtain ⟨k, m, hk, rfl, rfl, hm0, hmk, hEr⟩ := hrel
      have x4 : wr.cell? ⟨w'.heap.size, 4, none⟩ = some (.slice q args.length cp) := ((hb0.out.ext hEr).cell 4).trans rfl
      replace hmk := Lib.hid hmk
      by_cases hlt : k < args.length
      · obtain ⟨b, off, rfl, sv, hkid⟩ := hK.out _ _ rfl (by omega)
        obtain ⟨hc, hsu, hP⟩ := hkid k hlt
        have hform := hsu.form
        have hEw := hE.trans (hE0.trans hEr)
        obtain ⟨c0, c1, c2, c3, c4⟩ := (hc.ext hEw).five
        have hsn := Lib.hid (show (args.take (k + 1)).foldl longF m0 = max m (args.getD k exD).long by rw [hst.out k hlt, ← hmk.out]; exact (longF_max m _ hm0).1)
        have hy0 := (longF_max 0 (args.getD k exD) (by omega)).2
        replace hP := Lib.hid hP
        clear hc hkid hsu
        generalize args.getD k exD = y at *
        generalize sv k = u at *
        obtain ⟨uq, uc, rfl⟩ := hform
        go_wp2_with fail
        refine (hP.out _ hEw).mono ?_
        rintro e w1 ⟨rfl, hE1⟩
        have hE2 := hEr.trans hE1
        clear hE1 c0 c1 c2 c3 c4 x4 hEw hEr hP
        generalize y.long = yl at *
        by_cases hc : m < yl
        · have dd : decide (m < yl) = true := by simp [hc]
          have hmx := Lib.hid (Int.max_eq_right (Int.le_of_lt hc))
          clear hmk hc
          go_wp2
          go_roundw
          case rel => exact ⟨k + 1, yl, by omega, by go_num, rfl, hy0, by rw [hsn.out, hmx.out], hE2⟩
          case measure => simp [intOf]; omega
        · have dd : decide (m < yl) = false := by simp; omega
          have hmx := Lib.hid (Int.max_eq_left (Int.not_lt.1 hc))
          clear hmk hc
          go_wp2
          go_roundw
          case rel => exact ⟨k + 1, m, by omega, by go_num, rfl, hm0, by rw [hsn.out, hmx.out], hE2⟩
          case measure => simp [intOf]; omega
      · have hkk : args.take k = args := List.take_of_length_le (by omega)
        have hmR := Lib.hid (show m = R by rw [hR.out, hmk.out, hkk])
        clear hkk hmk
        go_wp2
        go_ret
        rw [← hmR.out]
        exact ⟨rfl, hE0.trans hEr⟩
set_option maxRecDepth 8000 in
theorem rWindows_any {w : World} {v : Value} (x : Ex) (hS : ExS w v x.args) (hp : x.parts.length ≤ 999999) : Calls Tryz.prog 7 #[exAgg x v] w (WinsP (uniL x.wins) x.long w) := by
  have kC := Lib.hid (fun w1 (h : Ext w w1) => rcollect_any true hS x rfl w1 h (.slice none 0 0) [] (strs_nil _) (by simpa using hp))
  have kL := Lib.hid (fun w1 (h : Ext w w1) => rlongest_any hS x rfl w1 h)
  rw [show colV true x = x.wins from rfl, fold_addV] at kC
  unfold NamesP at kC
  obtain ⟨q, cp, rfl⟩ := hS.form
  generalize uniL x.wins = U at *
  generalize x.long = M at *
  obtain ⟨op, nm, tx, n, args⟩ := x
  simp only [exAgg_mk, Ex.args] at kC kL ⊢
  clear hS
  go_enter Tryz.func7, Tryz.ntmps7
  go_wp2_with fail
  have hb0 := Blk.new w #[.int .i64 op, .string nm, .string tx, .int .i64 n, .slice q args.length cp] 24
  have hE : Ext w (w.alloc (.cells #[.int .i64 op, .string nm, .string tx, .int .i64 n, .slice q args.length cp] 24)) := (Ext.refl _).alloc _
  generalize (w.alloc (.cells #[.int .i64 op, .string nm, .string tx, .int .i64 n, .slice q args.length cp] 24)) = w9 at *
  have x0 : w9.cell? ⟨w.heap.size, 0, none⟩ = some (.int .i64 op) := (hb0.cell 0).trans rfl
  have x1 : w9.cell? ⟨w.heap.size, 1, none⟩ = some (.string nm) := (hb0.cell 1).trans rfl
  have x2 : w9.cell? ⟨w.heap.size, 2, none⟩ = some (.string tx) := (hb0.cell 2).trans rfl
  have x3 : w9.cell? ⟨w.heap.size, 3, none⟩ = some (.int .i64 n) := (hb0.cell 3).trans rfl
  have x4 : w9.cell? ⟨w.heap.size, 4, none⟩ = some (.slice q args.length cp) := (hb0.cell 4).trans rfl
  clear hb0
  go_region_held3 (fun w' => w'.cell? ⟨w.heap.size, 0, none⟩ = some (.int .i64 op) ∧ w'.cell? ⟨w.heap.size, 1, none⟩ = some (.string nm) ∧ w'.cell? ⟨w.heap.size, 2, none⟩ = some (.string tx) ∧ w'.cell? ⟨w.heap.size, 3, none⟩ = some (.int .i64 n) ∧ w'.cell? ⟨w.heap.size, 4, none⟩ = some (.slice q args.length cp)) (first | exact ⟨x0, x1, x2, x3, x4⟩ | exact ⟨by assumption, by assumption, by assumption, by assumption, by assumption⟩) (first | (go_at_call 26; refine (kC.out _ (by first | exact hE | exact hE.drew)).mono ?_; rintro e w6 ⟨nv, rfl, ⟨p1, e1, rfl, h1, h2⟩, hE6⟩; have hS := exAtW hE (by first | exact hE6 | exact unDrW hE6); have hE := hE.trans hS; have x0 := hS.get x0; have x1 := hS.get x1; have x2 := hS.get x2; have x3 := hS.get x3; have x4 := hS.get x4; have hnv := Lib.hid (strsM_mk p1 e1 h1 h2); clear hE6 hS h1 h2) | (go_at_call 27; refine (kL.out _ (by first | exact hE | exact hE.drew)).mono ?_; rintro e w6 ⟨rfl, hE6⟩; have hS := exAtW hE (by first | exact hE6 | exact unDrW hE6); have hE := hE.trans hS; have x0 := hS.get x0; have x1 := hS.get x1; have x2 := hS.get x2; have x3 := hS.get x3; have x4 := hS.get x4; have hnv := Lib.hid (hnv.out.ext hS); clear hE6 hS))
  all_goals go_wp2
  all_goals go_ret2
  all_goals exact ⟨_, rfl, hnv.out, hE⟩
end Go.Proofs.YtnppbeajemhjeaaGreat
