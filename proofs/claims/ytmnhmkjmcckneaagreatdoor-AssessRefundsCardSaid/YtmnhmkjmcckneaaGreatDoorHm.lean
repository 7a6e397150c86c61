/- The walk of the law AssessRefunds (printed by gen/h14.py). -/
import Derived.Test.YtmnhmkjmcckneaaGreatDoorHw
import Derived.Test.YtmnhmkjmcckneaaGreatDoorHk
namespace Go.Proofs.YtmnhmkjmcckneaaGreatDoor
open Go.RowKit
theorem ShOk.k {r : RecD} (h : ShOk r) (n : Int) : ShOk (r.k n) := ⟨h.id, h.auth, h.acq, h.iss, h.mer, h.card, h.cur⟩
theorem RecI.k {r : RecD} (h : RecI r) {n : Int} (hn : I64 n) : RecI (r.k n) := ⟨hn, h.amt, h.date, h.cat⟩
/-- The first n rules mention no feature kind. -/
def NoKinN (l : List RuleD) (n : Nat) : Prop := ∀ j, j < n → NoKin (l.getD j rD).when
theorem noKinN_all {l : List RuleD} (h : NoKinN l l.length) : NoKins l := fun r hr => by
  obtain ⟨j, hj, rfl⟩ := List.mem_iff_getElem.1 hr
  have := h j hj
  rw [List.getD_eq_getElem?_getD, List.getElem?_eq_getElem hj, Option.getD_some] at this
  exact this
theorem noKinN_snoc {l : List RuleD} {k : Nat} (h : NoKinN l k) (hk : NoKin (l.getD k rD).when) : NoKinN l (k + 1) := fun j hj => by
  by_cases e : j = k
  · rw [e]; exact hk
  · exact h j (by omega)
set_option maxRecDepth 8000 in
set_option maxHeartbeats 8000000 in
theorem law_refunds (tv : Value) (t : TabsD) (r : RecD) (w : World) (g : Gw w) (hT : TabsM w tv t) (hI : RecI r) : Calls Tryz.prog 5 #[tv, recAgg r] w (OneV (.bool true) w) := by
  have kS := Lib.hid (fun w1 (h : Ext w w1) => small38_any tv t w1 (hT.ext h))
  have kH := Lib.hid (fun w1 => short_any r w1)
  have kA1 := Lib.hid (fun w1 (h : Ext w w1) (a : SmaOk t) (b : ShOk r) => assess_any tv t (r.k 1) w1 (g.ext h) (hT.ext h) (few_tab a.i (b.k 1) (hI.k (n := 1) ⟨by decide, by decide⟩)) (few_tab a.s (b.k 1) (hI.k (n := 1) ⟨by decide, by decide⟩)) (few_tab a.m (b.k 1) (hI.k (n := 1) ⟨by decide, by decide⟩)))
  have kA2 := Lib.hid (fun w1 (h : Ext w w1) (a : SmaOk t) (b : ShOk r) => assess_any tv t (r.k 2) w1 (g.ext h) (hT.ext h) (few_tab a.i (b.k 2) (hI.k (n := 2) ⟨by decide, by decide⟩)) (few_tab a.s (b.k 2) (hI.k (n := 2) ⟨by decide, by decide⟩)) (few_tab a.m (b.k 2) (hI.k (n := 2) ⟨by decide, by decide⟩)))
  have kW := Lib.hid (fun w1 (h : Ext w w1) => awake38_any w1 (g.ext h))
  have hcs := Lib.hid (fun h => assess_k (t := t) h r)
  obtain ⟨v1, v2, v3, rfl, h1, h2, h3⟩ := hT
  obtain ⟨p1, c1, rfl⟩ := h1.form
  obtain ⟨p2, c2, rfl⟩ := h2.form
  obtain ⟨p3, c3, rfl⟩ := h3.form
  clear hI g
  have hl0 := h1.1
  have hl1 := h2.1
  have hl2 := h3.1
  replace h1 := Lib.hid h1
  replace h2 := Lib.hid h2
  replace h3 := Lib.hid h3
  have hNT := Lib.hid (fun a b c => NoKinT.mk (t := t) (noKinN_all a) (noKinN_all b) (noKinN_all c))
  unfold SmaP at kS
  unfold ShP at kH
  unfold AssP at kA1 kA2
  generalize assessV t (r.k 1) = A1 at *
  generalize assessV t (r.k 2) = A2 at *
  obtain ⟨kind, id, auth, acq, iss, mer, card, amt, cur, date, cat, fin⟩ := r
  simp only [recAgg, RecD.k] at kH kA1 kA2 hcs ⊢
  generalize RecD.mk kind id auth acq iss mer card amt cur date cat fin = r at *
  have hSm := Lib.hid (fun (a : SmaOk t) => a)
  obtain ⟨li, ls, lm⟩ := t
  simp only at h1 h2 h3 hl0 hl1 hl2 hNT kA1 kA2 kS ⊢
  go_enter Tryz.func5, Tryz.ntmps5
  go_wp2_with fail
  refine (kS.out _ (by repeat (first | with_reducible exact Ext.refl _ | with_reducible exact hE0 | with_reducible exact hE | with_reducible refine Ext.alloc ?_ _ | with_reducible refine Ext.drewN ?_ _ | with_reducible refine Ext.drew ?_ | ((with_reducible refine Ext.setCell ?_ ?side _); (case side => first | exact Nat.le_refl _ | (simp; done) | (simp; omega)))))).mono ?_
  rintro e w1 ⟨b1, rfl, a1, hE1⟩
  have bT := Lib.hid (((Blk.new w #[.slice p1 li.length c1, .slice p2 ls.length c2, .slice p3 lm.length c3] 24).alloc (.cells #[.int .i64 kind, .string id, .string auth, .string acq, .string iss, .string mer, .string card, .int .i64 amt, .string cur, .int .i64 date, .int .i64 cat, .bool fin] 28)).ext hE1)
  have bR0 : Blk ((w.alloc (.cells #[.slice p1 li.length c1, .slice p2 ls.length c2, .slice p3 lm.length c3] 24)).alloc (.cells #[.int .i64 kind, .string id, .string auth, .string acq, .string iss, .string mer, .string card, .int .i64 amt, .string cur, .int .i64 date, .int .i64 cat, .bool fin] 28)) (w.heap.size + 1) #[.int .i64 kind, .string id, .string auth, .string acq, .string iss, .string mer, .string card, .int .i64 amt, .string cur, .int .i64 date, .int .i64 cat, .bool fin] 28 := Blk.new' _ _ _ _ (by simp)
  have bR := Lib.hid (bR0.ext hE1)
  have hE : Ext w w1 := Ext.trans (by repeat (first | with_reducible exact Ext.refl _ | with_reducible exact hE0 | with_reducible exact hE | with_reducible refine Ext.alloc ?_ _ | with_reducible refine Ext.drewN ?_ _ | with_reducible refine Ext.drew ?_ | ((with_reducible refine Ext.setCell ?_ ?side _); (case side => first | exact Nat.le_refl _ | (simp; done) | (simp; omega))))) hE1
  clear hE1 kS bR0
  cases b1 with
  | false =>
    clear a1
    go_wp2_with fail
    have hE8 := hE
    refine (kW.out _ hE8).mono ?_
    rintro e w9 ⟨rfl, hE9⟩
    replace hE := hE8.trans hE9
    clear hE9
    go_wp2
    go_ret
    exact ⟨rfl, hE⟩
  | true =>
    replace a1 := Lib.hid (a1 rfl)
    have x0 : w1.cell? ⟨w.heap.size + 1, 0, none⟩ = some (.int .i64 kind) := (bR.out.cell 0).trans rfl
    have x1 : w1.cell? ⟨w.heap.size + 1, 1, none⟩ = some (.string id) := (bR.out.cell 1).trans rfl
    have x2 : w1.cell? ⟨w.heap.size + 1, 2, none⟩ = some (.string auth) := (bR.out.cell 2).trans rfl
    have x3 : w1.cell? ⟨w.heap.size + 1, 3, none⟩ = some (.string acq) := (bR.out.cell 3).trans rfl
    have x4 : w1.cell? ⟨w.heap.size + 1, 4, none⟩ = some (.string iss) := (bR.out.cell 4).trans rfl
    have x5 : w1.cell? ⟨w.heap.size + 1, 5, none⟩ = some (.string mer) := (bR.out.cell 5).trans rfl
    have x6 : w1.cell? ⟨w.heap.size + 1, 6, none⟩ = some (.string card) := (bR.out.cell 6).trans rfl
    have x7 : w1.cell? ⟨w.heap.size + 1, 7, none⟩ = some (.int .i64 amt) := (bR.out.cell 7).trans rfl
    have x8 : w1.cell? ⟨w.heap.size + 1, 8, none⟩ = some (.string cur) := (bR.out.cell 8).trans rfl
    have x9 : w1.cell? ⟨w.heap.size + 1, 9, none⟩ = some (.int .i64 date) := (bR.out.cell 9).trans rfl
    have x10 : w1.cell? ⟨w.heap.size + 1, 10, none⟩ = some (.int .i64 cat) := (bR.out.cell 10).trans rfl
    have x11 : w1.cell? ⟨w.heap.size + 1, 11, none⟩ = some (.bool fin) := (bR.out.cell 11).trans rfl
    go_wp2_with fail
    refine (kH.out _).mono ?_
    rintro e w2 ⟨b2, rfl, a2, hE2⟩
    clear x0 x1 x2 x3 x4 x5 x6 x7 x8 x9 x10 x11 kH
    replace bT := Lib.hid (bT.out.ext hE2)
    replace bR := Lib.hid (bR.out.ext hE2)
    replace hE := hE.trans hE2
    clear hE2
    cases b2 with
    | false =>
      clear a2
      go_wp2_with fail
      have hE8 := hE
      refine (kW.out _ hE8).mono ?_
      rintro e w9 ⟨rfl, hE9⟩
      replace hE := hE8.trans hE9
      clear hE9
      go_wp2
      go_ret
      exact ⟨rfl, hE⟩
    | true =>
      replace a2 := Lib.hid (a2 rfl)
      have z0 : w2.cell? ⟨w.heap.size, 0, none⟩ = some (.slice p1 li.length c1) := (bT.out.cell 0).trans rfl
      have z1 : w2.cell? ⟨w.heap.size, 1, none⟩ = some (.slice p2 ls.length c2) := (bT.out.cell 1).trans rfl
      have z2 : w2.cell? ⟨w.heap.size, 2, none⟩ = some (.slice p3 lm.length c3) := (bT.out.cell 2).trans rfl
      go_wp2_with fail
      have bS := Lib.hid (Blk.new w2 #[.slice p1 li.length c1, .slice p2 ls.length c2, .slice p3 lm.length c3] 22)
      have hN : Ext w2 (w2.alloc (.cells #[.slice p1 li.length c1, .slice p2 ls.length c2, .slice p3 lm.length c3] 22)) := (Ext.refl _).alloc _
      replace bT := Lib.hid (bT.out.ext hN)
      replace bR := Lib.hid (bR.out.ext hN)
      replace hE := hE.trans hN
      clear hN
      obtain ⟨S, hS⟩ : ∃ S, S = w2.heap.size := ⟨_, rfl⟩
      generalize w2.alloc (.cells #[.slice p1 li.length c1, .slice p2 ls.length c2, .slice p3 lm.length c3] 22) = w3 at *
      rw [← hS] at bS ⊢
      clear z0 z1 z2 hS
      go_loopw [6] (fun i wr => Ext w3 wr ∧ ((i = .int .i64 0) ∨ (i = .int .i64 1 ∧ NoKinN li li.length) ∨ (i = .int .i64 2 ∧ NoKinN li li.length ∧ NoKinN ls ls.length) ∨ (i = .int .i64 3 ∧ NoKinN li li.length ∧ NoKinN ls ls.length ∧ NoKinN lm lm.length))) (fun i _ => 3 - (intOf i).toNat)
      case atStart => exact ⟨Ext.refl _, Or.inl rfl⟩
      case round =>
        obtain ⟨hEr, hrel⟩ := hrel
        rcases hrel with rfl | ⟨rfl, m0⟩ | ⟨rfl, m0, m1⟩ | ⟨rfl, m0, m1, m2⟩
        · go_wp2_with fail
          rename World => wo
          go_loopw [7] (fun i wq => ∃ k : Nat, k ≤ li.length ∧ i = .int .i64 k ∧ NoKinN li k ∧ Ext wo wq) (fun i _ => li.length - (intOf i).toNat)
          case atStart => exact ⟨0, Nat.zero_le _, rfl, fun j hj => absurd hj (by omega), Ext.refl _⟩
          case round =>
            obtain ⟨k, hk, rfl, hm, hEq⟩ := hrel
            replace hm := Lib.hid hm
            have y : wr.cell? ⟨S, 0, none⟩ = some (.slice p1 li.length c1) := ((bS.out.ext (hEr.trans hEq)).cell 0).trans rfl
            by_cases hlt : k < li.length
            · obtain ⟨b, off, rfl, sv, hkid⟩ := h1.out.at (by omega)
              obtain ⟨hc, hsu⟩ := hkid k hlt
              have hEw := hE.trans (hEr.trans hEq)
              replace hsu := hsu.ext hEw
              obtain ⟨d0, d1, d2, d3, d4, d5, d6, d7, d8, d9⟩ := hc.ext hEw
              have hsn := Lib.hid (fun h => noKinN_snoc (l := li) (k := k) hm.out h)
              clear hc hkid d0 d6 d7 d8 d9
              obtain ⟨uq, uc, huv⟩ := hsu.form
              generalize li.getD k rD = q at *
              rw [huv] at hsu d5
              clear huv
              have kN := Lib.hid (names38_any hsu q.when rfl wr (Ext.refl _))
              unfold NamP exAgg at kN
              clear hsu
              go_wp2_with fail
              refine kN.out.mono ?_
              rintro e w4 ⟨b3, rfl, a3, hE4⟩
              clear kN d1 d2 d3 d4 d5 y
              replace hEq := hEq.trans hE4
              clear hE4
              cases b3 with
              | true =>
                clear a3 hm hsn
                have hEe := hE.trans (hEr.trans hEq)
                go_wp2_with fail
                have hE8 := hEe
                refine (kW.out _ hE8).mono ?_
                rintro e w9 ⟨rfl, hE9⟩
                replace hE := hE8.trans hE9
                clear hE9
                go_wp2
                go_ret
                exact ⟨rfl, hE⟩
              | false =>
                have a4 := Lib.hid (hsn.out (a3 rfl))
                clear a3 hm hsn
                go_wp2
                go_roundw
                case rel => exact ⟨k + 1, by omega, by go_num, a4.out, hEq⟩
                case measure => simp [intOf]; omega
            · obtain rfl : k = li.length := by omega
              go_wp2
              go_roundw
              case rel => exact ⟨hEr.trans hEq, Or.inr (Or.inl ⟨by go_num, hm.out⟩)⟩
              case measure => simp [intOf]
        · replace m0 := Lib.hid m0
          go_wp2_with fail
          rename World => wo
          go_loopw [7] (fun i wq => ∃ k : Nat, k ≤ ls.length ∧ i = .int .i64 k ∧ NoKinN ls k ∧ Ext wo wq) (fun i _ => ls.length - (intOf i).toNat)
          case atStart => exact ⟨0, Nat.zero_le _, rfl, fun j hj => absurd hj (by omega), Ext.refl _⟩
          case round =>
            obtain ⟨k, hk, rfl, hm, hEq⟩ := hrel
            replace hm := Lib.hid hm
            have y : wr.cell? ⟨S, 1, none⟩ = some (.slice p2 ls.length c2) := ((bS.out.ext (hEr.trans hEq)).cell 1).trans rfl
            by_cases hlt : k < ls.length
            · obtain ⟨b, off, rfl, sv, hkid⟩ := h2.out.at (by omega)
              obtain ⟨hc, hsu⟩ := hkid k hlt
              have hEw := hE.trans (hEr.trans hEq)
              replace hsu := hsu.ext hEw
              obtain ⟨d0, d1, d2, d3, d4, d5, d6, d7, d8, d9⟩ := hc.ext hEw
              have hsn := Lib.hid (fun h => noKinN_snoc (l := ls) (k := k) hm.out h)
              clear hc hkid d0 d6 d7 d8 d9
              obtain ⟨uq, uc, huv⟩ := hsu.form
              generalize ls.getD k rD = q at *
              rw [huv] at hsu d5
              clear huv
              have kN := Lib.hid (names38_any hsu q.when rfl wr (Ext.refl _))
              unfold NamP exAgg at kN
              clear hsu
              go_wp2_with fail
              refine kN.out.mono ?_
              rintro e w4 ⟨b3, rfl, a3, hE4⟩
              clear kN d1 d2 d3 d4 d5 y
              replace hEq := hEq.trans hE4
              clear hE4
              cases b3 with
              | true =>
                clear a3 hm hsn
                have hEe := hE.trans (hEr.trans hEq)
                go_wp2_with fail
                have hE8 := hEe
                refine (kW.out _ hE8).mono ?_
                rintro e w9 ⟨rfl, hE9⟩
                replace hE := hE8.trans hE9
                clear hE9
                go_wp2
                go_ret
                exact ⟨rfl, hE⟩
              | false =>
                have a4 := Lib.hid (hsn.out (a3 rfl))
                clear a3 hm hsn
                go_wp2
                go_roundw
                case rel => exact ⟨k + 1, by omega, by go_num, a4.out, hEq⟩
                case measure => simp [intOf]; omega
            · obtain rfl : k = ls.length := by omega
              go_wp2
              go_roundw
              case rel => exact ⟨hEr.trans hEq, Or.inr (Or.inr (Or.inl ⟨by go_num, m0.out, hm.out⟩))⟩
              case measure => simp [intOf]
        · replace m0 := Lib.hid m0
          replace m1 := Lib.hid m1
          go_wp2_with fail
          rename World => wo
          go_loopw [7] (fun i wq => ∃ k : Nat, k ≤ lm.length ∧ i = .int .i64 k ∧ NoKinN lm k ∧ Ext wo wq) (fun i _ => lm.length - (intOf i).toNat)
          case atStart => exact ⟨0, Nat.zero_le _, rfl, fun j hj => absurd hj (by omega), Ext.refl _⟩
          case round =>
            obtain ⟨k, hk, rfl, hm, hEq⟩ := hrel
            replace hm := Lib.hid hm
            have y : wr.cell? ⟨S, 2, none⟩ = some (.slice p3 lm.length c3) := ((bS.out.ext (hEr.trans hEq)).cell 2).trans rfl
            by_cases hlt : k < lm.length
            · obtain ⟨b, off, rfl, sv, hkid⟩ := h3.out.at (by omega)
              obtain ⟨hc, hsu⟩ := hkid k hlt
              have hEw := hE.trans (hEr.trans hEq)
              replace hsu := hsu.ext hEw
              obtain ⟨d0, d1, d2, d3, d4, d5, d6, d7, d8, d9⟩ := hc.ext hEw
              have hsn := Lib.hid (fun h => noKinN_snoc (l := lm) (k := k) hm.out h)
              clear hc hkid d0 d6 d7 d8 d9
              obtain ⟨uq, uc, huv⟩ := hsu.form
              generalize lm.getD k rD = q at *
              rw [huv] at hsu d5
              clear huv
              have kN := Lib.hid (names38_any hsu q.when rfl wr (Ext.refl _))
              unfold NamP exAgg at kN
              clear hsu
              go_wp2_with fail
              refine kN.out.mono ?_
              rintro e w4 ⟨b3, rfl, a3, hE4⟩
              clear kN d1 d2 d3 d4 d5 y
              replace hEq := hEq.trans hE4
              clear hE4
              cases b3 with
              | true =>
                clear a3 hm hsn
                have hEe := hE.trans (hEr.trans hEq)
                go_wp2_with fail
                have hE8 := hEe
                refine (kW.out _ hE8).mono ?_
                rintro e w9 ⟨rfl, hE9⟩
                replace hE := hE8.trans hE9
                clear hE9
                go_wp2
                go_ret
                exact ⟨rfl, hE⟩
              | false =>
                have a4 := Lib.hid (hsn.out (a3 rfl))
                clear a3 hm hsn
                go_wp2
                go_roundw
                case rel => exact ⟨k + 1, by omega, by go_num, a4.out, hEq⟩
                case measure => simp [intOf]; omega
            · obtain rfl : k = lm.length := by omega
              go_wp2
              go_roundw
              case rel => exact ⟨hEr.trans hEq, Or.inr (Or.inr (Or.inr (⟨by go_num, m0.out, m1.out, hm.out⟩)))⟩
              case measure => simp [intOf]
        · have hnk := hcs.out (hNT.out m0 m1 m2)
          have hEe := hE.trans hEr
          replace bT := Lib.hid (bT.out.ext hEr)
          replace bR := Lib.hid (bR.out.ext hEr)
          clear hE hEr bS h1 h2 h3 hl0 hl1 hl2 m0 m1 m2 hNT hcs
          replace hnk := Lib.hid hnk
          have x0 : wr.cell? ⟨w.heap.size + 1, 0, none⟩ = some (.int .i64 kind) := (bR.out.cell 0).trans rfl
          have x1 : wr.cell? ⟨w.heap.size + 1, 1, none⟩ = some (.string id) := (bR.out.cell 1).trans rfl
          have x2 : wr.cell? ⟨w.heap.size + 1, 2, none⟩ = some (.string auth) := (bR.out.cell 2).trans rfl
          have x3 : wr.cell? ⟨w.heap.size + 1, 3, none⟩ = some (.string acq) := (bR.out.cell 3).trans rfl
          have x4 : wr.cell? ⟨w.heap.size + 1, 4, none⟩ = some (.string iss) := (bR.out.cell 4).trans rfl
          have x5 : wr.cell? ⟨w.heap.size + 1, 5, none⟩ = some (.string mer) := (bR.out.cell 5).trans rfl
          have x6 : wr.cell? ⟨w.heap.size + 1, 6, none⟩ = some (.string card) := (bR.out.cell 6).trans rfl
          have x7 : wr.cell? ⟨w.heap.size + 1, 7, none⟩ = some (.int .i64 amt) := (bR.out.cell 7).trans rfl
          have x8 : wr.cell? ⟨w.heap.size + 1, 8, none⟩ = some (.string cur) := (bR.out.cell 8).trans rfl
          have x9 : wr.cell? ⟨w.heap.size + 1, 9, none⟩ = some (.int .i64 date) := (bR.out.cell 9).trans rfl
          have x10 : wr.cell? ⟨w.heap.size + 1, 10, none⟩ = some (.int .i64 cat) := (bR.out.cell 10).trans rfl
          have x11 : wr.cell? ⟨w.heap.size + 1, 11, none⟩ = some (.bool fin) := (bR.out.cell 11).trans rfl
          have z0 : wr.cell? ⟨w.heap.size, 0, none⟩ = some (.slice p1 li.length c1) := (bT.out.cell 0).trans rfl
          have z1 : wr.cell? ⟨w.heap.size, 1, none⟩ = some (.slice p2 ls.length c2) := (bT.out.cell 1).trans rfl
          have z2 : wr.cell? ⟨w.heap.size, 2, none⟩ = some (.slice p3 lm.length c3) := (bT.out.cell 2).trans rfl
          have f0 : wr.frozen? ⟨w.heap.size + 1, 0, none⟩ = false := bR.out.fz 0
          go_wp2_with fail
          have bT5 := Lib.hid (bT.out.other (C := w.heap.size + 1) 0 (.int .i64 1) (by omega))
          have bR5 := Lib.hid (show Blk (wr.setCell ⟨w.heap.size + 1, 0, none⟩ (.int .i64 1)) (w.heap.size + 1) #[.int .i64 1, .string id, .string auth, .string acq, .string iss, .string mer, .string card, .int .i64 amt, .string cur, .int .i64 date, .int .i64 cat, .bool fin] 28 from bR.out.set 0 (.int .i64 1))
          have hE5 : Ext w (wr.setCell ⟨w.heap.size + 1, 0, none⟩ (.int .i64 1)) := hEe.setCell (by simp) _
          refine (kA1.out _ hE5 a1.out a2.out).mono ?_
          rintro e w6 ⟨rfl, hE6⟩
          have hE := hE5.trans hE6
          replace bT := Lib.hid (bT5.out.ext hE6)
          replace bR := Lib.hid (bR5.out.ext hE6)
          clear x0 x1 x2 x3 x4 x5 x6 x7 x8 x9 x10 x11 z0 z1 z2 f0 hE5 hE6 hEe bT5 bR5 kA1
          obtain ⟨X1, E1⟩ := A1
          obtain ⟨X2, E2⟩ := A2
          obtain ⟨hee, hx⟩ := hnk.out
          simp only at hee hx
          subst hee
          clear hnk
          rcases hx with ⟨rfl, rfl⟩ | ⟨⟨ha1, ha2⟩, ⟨ir, ia, iy⟩, ⟨sr, sa, sy⟩, ⟨mr, ma, my⟩, rfl, rfl, ⟨i1, i2⟩, ⟨sn1, sn2⟩, ⟨m1, m2⟩⟩
          · unfold resAgg resD lineD at kA2
            unfold resAgg resD lineD
            have hN : Ext w6 (w6.alloc (.cells #[.string ⟨#[]⟩, .int .i64 0, .string ⟨#[]⟩, .string ⟨#[]⟩, .int .i64 0, .string ⟨#[]⟩, .string ⟨#[]⟩, .int .i64 0, .string ⟨#[]⟩, .int .i64 0, .int .i64 0, .int .i64 0, .int .i64 0, .int .i64 0] 35)) := (Ext.refl _).alloc _
            have x0 : w6.cell? ⟨w.heap.size + 1, 0, none⟩ = some (.int .i64 1) := (bR.out.cell 0).trans rfl
            have x1 : w6.cell? ⟨w.heap.size + 1, 1, none⟩ = some (.string id) := (bR.out.cell 1).trans rfl
            have x2 : w6.cell? ⟨w.heap.size + 1, 2, none⟩ = some (.string auth) := (bR.out.cell 2).trans rfl
            have x3 : w6.cell? ⟨w.heap.size + 1, 3, none⟩ = some (.string acq) := (bR.out.cell 3).trans rfl
            have x4 : w6.cell? ⟨w.heap.size + 1, 4, none⟩ = some (.string iss) := (bR.out.cell 4).trans rfl
            have x5 : w6.cell? ⟨w.heap.size + 1, 5, none⟩ = some (.string mer) := (bR.out.cell 5).trans rfl
            have x6 : w6.cell? ⟨w.heap.size + 1, 6, none⟩ = some (.string card) := (bR.out.cell 6).trans rfl
            have x7 : w6.cell? ⟨w.heap.size + 1, 7, none⟩ = some (.int .i64 amt) := (bR.out.cell 7).trans rfl
            have x8 : w6.cell? ⟨w.heap.size + 1, 8, none⟩ = some (.string cur) := (bR.out.cell 8).trans rfl
            have x9 : w6.cell? ⟨w.heap.size + 1, 9, none⟩ = some (.int .i64 date) := (bR.out.cell 9).trans rfl
            have x10 : w6.cell? ⟨w.heap.size + 1, 10, none⟩ = some (.int .i64 cat) := (bR.out.cell 10).trans rfl
            have x11 : w6.cell? ⟨w.heap.size + 1, 11, none⟩ = some (.bool fin) := (bR.out.cell 11).trans rfl
            have z0 : w6.cell? ⟨w.heap.size, 0, none⟩ = some (.slice p1 li.length c1) := (bT.out.cell 0).trans rfl
            have z1 : w6.cell? ⟨w.heap.size, 1, none⟩ = some (.slice p2 ls.length c2) := (bT.out.cell 1).trans rfl
            have z2 : w6.cell? ⟨w.heap.size, 2, none⟩ = some (.slice p3 lm.length c3) := (bT.out.cell 2).trans rfl
            have g0 : w6.frozen? ⟨w.heap.size + 1, 0, none⟩ = false := bR.out.fz 0
            have zs : w.heap.size < w6.heap.size := bT.out.lt
            have xs : w.heap.size + 1 < w6.heap.size := bR.out.lt
            go_wp2_with fail
            have bT7 := Lib.hid ((bT.out.other (C := w.heap.size + 1) 0 (.int .i64 2) (by omega)).alloc (.cells #[.string ⟨#[]⟩, .int .i64 0, .string ⟨#[]⟩, .string ⟨#[]⟩, .int .i64 0, .string ⟨#[]⟩, .string ⟨#[]⟩, .int .i64 0, .string ⟨#[]⟩, .int .i64 0, .int .i64 0, .int .i64 0, .int .i64 0, .int .i64 0] 35))
            have bX7 := Lib.hid (Blk.new' (w6.setCell ⟨w.heap.size + 1, 0, none⟩ (.int .i64 2)) #[.string ⟨#[]⟩, .int .i64 0, .string ⟨#[]⟩, .string ⟨#[]⟩, .int .i64 0, .string ⟨#[]⟩, .string ⟨#[]⟩, .int .i64 0, .string ⟨#[]⟩, .int .i64 0, .int .i64 0, .int .i64 0, .int .i64 0, .int .i64 0] 35 w6.heap.size (by simp))
            have hE7 : Ext w ((w6.setCell ⟨w.heap.size + 1, 0, none⟩ (.int .i64 2)).alloc (.cells #[.string ⟨#[]⟩, .int .i64 0, .string ⟨#[]⟩, .string ⟨#[]⟩, .int .i64 0, .string ⟨#[]⟩, .string ⟨#[]⟩, .int .i64 0, .string ⟨#[]⟩, .int .i64 0, .int .i64 0, .int .i64 0, .int .i64 0, .int .i64 0] 35)) := (hE.setCell (by simp) _).alloc _
            refine (kA2.out _ hE7 a1.out a2.out).mono ?_
            rintro e w7 ⟨rfl, hE8⟩
            replace hE := hE7.trans hE8
            have bX := Lib.hid (bX7.out.ext hE8)
            clear x0 x1 x2 x3 x4 x5 x6 x7 x8 x9 x10 x11 z0 z1 z2 g0 zs xs hE7 hE8 bT7 bX7 kA2 bT bR hN
            obtain ⟨BX, hBX⟩ : ∃ BX, BX = w6.heap.size := ⟨_, rfl⟩
            rw [← hBX] at bX ⊢
            clear hBX
            have f0 : wrap64 0 = 0 := by unfold wrap64; omega
            have x0 : w7.cell? ⟨BX, 0, none⟩ = some (.string ⟨#[]⟩) := (bX.out.cell 0).trans rfl
            have x1 : w7.cell? ⟨BX, 1, none⟩ = some (.int .i64 0) := (bX.out.cell 1).trans rfl
            have x2 : w7.cell? ⟨BX, 2, none⟩ = some (.string ⟨#[]⟩) := (bX.out.cell 2).trans rfl
            have x3 : w7.cell? ⟨BX, 3, none⟩ = some (.string ⟨#[]⟩) := (bX.out.cell 3).trans rfl
            have x4 : w7.cell? ⟨BX, 4, none⟩ = some (.int .i64 0) := (bX.out.cell 4).trans rfl
            have x5 : w7.cell? ⟨BX, 5, none⟩ = some (.string ⟨#[]⟩) := (bX.out.cell 5).trans rfl
            have x6 : w7.cell? ⟨BX, 6, none⟩ = some (.string ⟨#[]⟩) := (bX.out.cell 6).trans rfl
            have x7 : w7.cell? ⟨BX, 7, none⟩ = some (.int .i64 0) := (bX.out.cell 7).trans rfl
            have x8 : w7.cell? ⟨BX, 8, none⟩ = some (.string ⟨#[]⟩) := (bX.out.cell 8).trans rfl
            have x9 : w7.cell? ⟨BX, 9, none⟩ = some (.int .i64 0) := (bX.out.cell 9).trans rfl
            have x10 : w7.cell? ⟨BX, 10, none⟩ = some (.int .i64 0) := (bX.out.cell 10).trans rfl
            have x11 : w7.cell? ⟨BX, 11, none⟩ = some (.int .i64 0) := (bX.out.cell 11).trans rfl
            have x12 : w7.cell? ⟨BX, 12, none⟩ = some (.int .i64 0) := (bX.out.cell 12).trans rfl
            have x13 : w7.cell? ⟨BX, 13, none⟩ = some (.int .i64 0) := (bX.out.cell 13).trans rfl
            have xs := bX.out.lt
            go_wp2_with fail
            have hE8 := hE.alloc (.cells #[.string ⟨#[]⟩, .int .i64 0, .string ⟨#[]⟩, .string ⟨#[]⟩, .int .i64 0, .string ⟨#[]⟩, .string ⟨#[]⟩, .int .i64 0, .string ⟨#[]⟩, .int .i64 0, .int .i64 0, .int .i64 0, .int .i64 0, .int .i64 0] 35)
            refine (kW.out _ hE8).mono ?_
            rintro e w9 ⟨rfl, hE9⟩
            replace hE := hE8.trans hE9
            clear hE9
            go_wp2
            go_ret
            exact ⟨rfl, hE⟩
          · rw [share_yes (k := 1) (by decide)]
            rw [share_no (k := 2) (by decide)] at kA2
            simp only [resAgg] at kA2 i1 i2 sn1 sn2 m1 m2 ha1 ha2 ⊢
            have hN : Ext w6 (w6.alloc (.cells #[.string ir, .int .i64 ia, .string iy, .string sr, .int .i64 sa, .string sy, .string mr, .int .i64 ma, .string my, .int .i64 (-amt), .int .i64 ia, .int .i64 (ma - ia - sa), .int .i64 (amt - ma), .int .i64 sa] 35)) := (Ext.refl _).alloc _
            have x0 : w6.cell? ⟨w.heap.size + 1, 0, none⟩ = some (.int .i64 1) := (bR.out.cell 0).trans rfl
            have x1 : w6.cell? ⟨w.heap.size + 1, 1, none⟩ = some (.string id) := (bR.out.cell 1).trans rfl
            have x2 : w6.cell? ⟨w.heap.size + 1, 2, none⟩ = some (.string auth) := (bR.out.cell 2).trans rfl
            have x3 : w6.cell? ⟨w.heap.size + 1, 3, none⟩ = some (.string acq) := (bR.out.cell 3).trans rfl
            have x4 : w6.cell? ⟨w.heap.size + 1, 4, none⟩ = some (.string iss) := (bR.out.cell 4).trans rfl
            have x5 : w6.cell? ⟨w.heap.size + 1, 5, none⟩ = some (.string mer) := (bR.out.cell 5).trans rfl
            have x6 : w6.cell? ⟨w.heap.size + 1, 6, none⟩ = some (.string card) := (bR.out.cell 6).trans rfl
            have x7 : w6.cell? ⟨w.heap.size + 1, 7, none⟩ = some (.int .i64 amt) := (bR.out.cell 7).trans rfl
            have x8 : w6.cell? ⟨w.heap.size + 1, 8, none⟩ = some (.string cur) := (bR.out.cell 8).trans rfl
            have x9 : w6.cell? ⟨w.heap.size + 1, 9, none⟩ = some (.int .i64 date) := (bR.out.cell 9).trans rfl
            have x10 : w6.cell? ⟨w.heap.size + 1, 10, none⟩ = some (.int .i64 cat) := (bR.out.cell 10).trans rfl
            have x11 : w6.cell? ⟨w.heap.size + 1, 11, none⟩ = some (.bool fin) := (bR.out.cell 11).trans rfl
            have z0 : w6.cell? ⟨w.heap.size, 0, none⟩ = some (.slice p1 li.length c1) := (bT.out.cell 0).trans rfl
            have z1 : w6.cell? ⟨w.heap.size, 1, none⟩ = some (.slice p2 ls.length c2) := (bT.out.cell 1).trans rfl
            have z2 : w6.cell? ⟨w.heap.size, 2, none⟩ = some (.slice p3 lm.length c3) := (bT.out.cell 2).trans rfl
            have g0 : w6.frozen? ⟨w.heap.size + 1, 0, none⟩ = false := bR.out.fz 0
            have zs : w.heap.size < w6.heap.size := bT.out.lt
            have xs : w.heap.size + 1 < w6.heap.size := bR.out.lt
            go_wp2_with fail
            have bT7 := Lib.hid ((bT.out.other (C := w.heap.size + 1) 0 (.int .i64 2) (by omega)).alloc (.cells #[.string ir, .int .i64 ia, .string iy, .string sr, .int .i64 sa, .string sy, .string mr, .int .i64 ma, .string my, .int .i64 (-amt), .int .i64 ia, .int .i64 (ma - ia - sa), .int .i64 (amt - ma), .int .i64 sa] 35))
            have bX7 := Lib.hid (Blk.new' (w6.setCell ⟨w.heap.size + 1, 0, none⟩ (.int .i64 2)) #[.string ir, .int .i64 ia, .string iy, .string sr, .int .i64 sa, .string sy, .string mr, .int .i64 ma, .string my, .int .i64 (-amt), .int .i64 ia, .int .i64 (ma - ia - sa), .int .i64 (amt - ma), .int .i64 sa] 35 w6.heap.size (by simp))
            have hE7 : Ext w ((w6.setCell ⟨w.heap.size + 1, 0, none⟩ (.int .i64 2)).alloc (.cells #[.string ir, .int .i64 ia, .string iy, .string sr, .int .i64 sa, .string sy, .string mr, .int .i64 ma, .string my, .int .i64 (-amt), .int .i64 ia, .int .i64 (ma - ia - sa), .int .i64 (amt - ma), .int .i64 sa] 35)) := (hE.setCell (by simp) _).alloc _
            refine (kA2.out _ hE7 a1.out a2.out).mono ?_
            rintro e w7 ⟨rfl, hE8⟩
            replace hE := hE7.trans hE8
            have bX := Lib.hid (bX7.out.ext hE8)
            clear x0 x1 x2 x3 x4 x5 x6 x7 x8 x9 x10 x11 z0 z1 z2 g0 zs xs hE7 hE8 bT7 bX7 kA2 bT bR hN
            obtain ⟨BX, hBX⟩ : ∃ BX, BX = w6.heap.size := ⟨_, rfl⟩
            rw [← hBX] at bX ⊢
            clear hBX
            have f1 : wrap64 (-amt) = -amt := by unfold wrap64; omega
            have f2 : wrap64 (amt - ma) = amt - ma := by unfold wrap64; omega
            have f3 : wrap64 ia = ia := by unfold wrap64; omega
            have f4 : wrap64 (ma - ia - sa + sa) = ma - ia := by unfold wrap64; omega
            have f5 : wrap64 (ma - ia) = ma - ia := by unfold wrap64; omega
            have f6 : wrap64 (-(ma - amt)) = amt - ma := by unfold wrap64; omega
            have f7 : wrap64 (-(ia - ma - sa)) = sa - (ia - ma) := by unfold wrap64; omega
            have f8 : wrap64 (sa - (ia - ma)) = sa - (ia - ma) := by unfold wrap64; omega
            have f9 : wrap64 (sa - (ia - ma) - sa) = ma - ia := by unfold wrap64; omega
            clear i1 i2 sn1 sn2 m1 m2 ha1 ha2
            have x0 : w7.cell? ⟨BX, 0, none⟩ = some (.string ir) := (bX.out.cell 0).trans rfl
            have x1 : w7.cell? ⟨BX, 1, none⟩ = some (.int .i64 ia) := (bX.out.cell 1).trans rfl
            have x2 : w7.cell? ⟨BX, 2, none⟩ = some (.string iy) := (bX.out.cell 2).trans rfl
            have x3 : w7.cell? ⟨BX, 3, none⟩ = some (.string sr) := (bX.out.cell 3).trans rfl
            have x4 : w7.cell? ⟨BX, 4, none⟩ = some (.int .i64 sa) := (bX.out.cell 4).trans rfl
            have x5 : w7.cell? ⟨BX, 5, none⟩ = some (.string sy) := (bX.out.cell 5).trans rfl
            have x6 : w7.cell? ⟨BX, 6, none⟩ = some (.string mr) := (bX.out.cell 6).trans rfl
            have x7 : w7.cell? ⟨BX, 7, none⟩ = some (.int .i64 ma) := (bX.out.cell 7).trans rfl
            have x8 : w7.cell? ⟨BX, 8, none⟩ = some (.string my) := (bX.out.cell 8).trans rfl
            have x9 : w7.cell? ⟨BX, 9, none⟩ = some (.int .i64 (-amt)) := (bX.out.cell 9).trans rfl
            have x10 : w7.cell? ⟨BX, 10, none⟩ = some (.int .i64 ia) := (bX.out.cell 10).trans rfl
            have x11 : w7.cell? ⟨BX, 11, none⟩ = some (.int .i64 (ma - ia - sa)) := (bX.out.cell 11).trans rfl
            have x12 : w7.cell? ⟨BX, 12, none⟩ = some (.int .i64 (amt - ma)) := (bX.out.cell 12).trans rfl
            have x13 : w7.cell? ⟨BX, 13, none⟩ = some (.int .i64 sa) := (bX.out.cell 13).trans rfl
            have xs := bX.out.lt
            go_wp2_with fail
            have hE8 := hE.alloc (.cells #[.string ir, .int .i64 ia, .string iy, .string sr, .int .i64 sa, .string sy, .string mr, .int .i64 ma, .string my, .int .i64 amt, .int .i64 (-ia), .int .i64 (ia - ma - sa), .int .i64 (ma - amt), .int .i64 sa] 35)
            refine (kW.out _ hE8).mono ?_
            rintro e w9 ⟨rfl, hE9⟩
            replace hE := hE8.trans hE9
            clear hE9
            go_wp2
            go_ret
            exact ⟨rfl, hE⟩
end Go.Proofs.YtmnhmkjmcckneaaGreatDoor
