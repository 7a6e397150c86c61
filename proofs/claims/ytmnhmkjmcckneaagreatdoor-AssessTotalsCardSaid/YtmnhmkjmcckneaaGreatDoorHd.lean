/- Contracts of assess.Features and assess.Check (walks; printed by gen/h6.py). -/
import Derived.Test.YtmnhmkjmcckneaaGreatDoorHc
import Derived.Test.YtmnhmkjmcckneaaGreatDoorHs
namespace Go.Proofs.YtmnhmkjmcckneaaGreatDoor
open Go.RowKit
theorem feats_nine {w : World} {B : Nat} {r : RecD} {a : Int} {T : TypeId} (ha : a = if r.auth.size = 0 then 0 else 1) (h : Blk w B #[.string kinN, .int .i64 1, .int .i64 r.kind, .string ⟨#[]⟩, .string catN, .int .i64 1, .int .i64 r.cat, .string ⟨#[]⟩, .string amoN, .int .i64 1, .int .i64 r.amt, .string ⟨#[]⟩, .string datN, .int .i64 1, .int .i64 r.date, .string ⟨#[]⟩, .string merN, .int .i64 2, .int .i64 0, .string r.mer, .string issN, .int .i64 2, .int .i64 0, .string r.iss, .string acqN, .int .i64 2, .int .i64 0, .string r.acq, .string curN, .int .i64 2, .int .i64 0, .string r.cur, .string autN, .int .i64 3, .int .i64 a, .string ⟨#[]⟩] T) : Feats w (.slice (some ⟨B, 0, none⟩) 9 9) (recF r) := by
 subst ha
 refine ⟨by simp [recF], Or.inr ⟨B, 0, 9, rfl, fun i hi => ?_⟩⟩
 have hi : i < 9 := hi
 match i, hi with
 | 0, _ => exact ⟨(h.cell 0).trans rfl, (h.cell 1).trans rfl, (h.cell 2).trans rfl, (h.cell 3).trans rfl⟩
 | 1, _ => exact ⟨(h.cell 4).trans rfl, (h.cell 5).trans rfl, (h.cell 6).trans rfl, (h.cell 7).trans rfl⟩
 | 2, _ => exact ⟨(h.cell 8).trans rfl, (h.cell 9).trans rfl, (h.cell 10).trans rfl, (h.cell 11).trans rfl⟩
 | 3, _ => exact ⟨(h.cell 12).trans rfl, (h.cell 13).trans rfl, (h.cell 14).trans rfl, (h.cell 15).trans rfl⟩
 | 4, _ => exact ⟨(h.cell 16).trans rfl, (h.cell 17).trans rfl, (h.cell 18).trans rfl, (h.cell 19).trans rfl⟩
 | 5, _ => exact ⟨(h.cell 20).trans rfl, (h.cell 21).trans rfl, (h.cell 22).trans rfl, (h.cell 23).trans rfl⟩
 | 6, _ => exact ⟨(h.cell 24).trans rfl, (h.cell 25).trans rfl, (h.cell 26).trans rfl, (h.cell 27).trans rfl⟩
 | 7, _ => exact ⟨(h.cell 28).trans rfl, (h.cell 29).trans rfl, (h.cell 30).trans rfl, (h.cell 31).trans rfl⟩
 | 8, _ => exact ⟨(h.cell 32).trans rfl, (h.cell 33).trans rfl, (h.cell 34).trans rfl, (h.cell 35).trans rfl⟩
def FeaRP (r : RecD) (w : World) (e : Ending) (w' : World) : Prop := ∃ B, e = .returned (.slice (some ⟨B, 0, none⟩) 9 9) ∧ Feats w' (.slice (some ⟨B, 0, none⟩) 9 9) (recF r) ∧ Ext w w'
set_option maxRecDepth 8000 in
set_option maxHeartbeats 4000000 in
theorem feaR_any (r : RecD) (w : World) : Calls Tryz.prog 14 #[recAgg r] w (FeaRP r w) := by
 have hfin := Lib.hid (fun (a : Int) (B : Nat) (w' : World) (ha : a = if r.auth.size = 0 then 0 else 1) (h : Blk w' B #[.string kinN, .int .i64 1, .int .i64 r.kind, .string ⟨#[]⟩, .string catN, .int .i64 1, .int .i64 r.cat, .string ⟨#[]⟩, .string amoN, .int .i64 1, .int .i64 r.amt, .string ⟨#[]⟩, .string datN, .int .i64 1, .int .i64 r.date, .string ⟨#[]⟩, .string merN, .int .i64 2, .int .i64 0, .string r.mer, .string issN, .int .i64 2, .int .i64 0, .string r.iss, .string acqN, .int .i64 2, .int .i64 0, .string r.acq, .string curN, .int .i64 2, .int .i64 0, .string r.cur, .string autN, .int .i64 3, .int .i64 a, .string ⟨#[]⟩] 76) (hE : Ext w w') => show FeaRP r w (.returned (.slice (some ⟨B, 0, none⟩) 9 9)) w' from ⟨B, rfl, feats_nine ha h, hE⟩)
 obtain ⟨kind, id, auth, acq, iss, mer, card, amt, cur, date, cat, fin⟩ := r
 simp only [recAgg, kinN, catN, amoN, datN, merN, issN, acqN, curN, autN] at hfin ⊢
 by_cases hz : auth.size = 0
 · have e0 := emp_list hz
   have ha : (0 : Int) = if auth.size = 0 then 0 else 1 := by rw [if_pos hz]
   replace ha := Lib.hid ha
   go_enter Tryz.func14, Tryz.ntmps14
   go_wp2
   exact bodyPost_ret (v := .slice (some ⟨w.heap.size + 1, 0, none⟩) 9 9) (by simp [results, Tryz.results14, go_sem]) rfl (hfin.out 0 _ _ ha.out (Blk.new' _ _ _ _ (by simp)) xt)
 · have e0 := ne_list hz
   have e1 := ne_isE hz
   have ha : (1 : Int) = if auth.size = 0 then 0 else 1 := by rw [if_neg hz]
   replace ha := Lib.hid ha
   go_enter Tryz.func14, Tryz.ntmps14
   go_wp2
   exact bodyPost_ret (v := .slice (some ⟨w.heap.size + 1, 0, none⟩) 9 9) (by simp [results, Tryz.results14, go_sem]) rfl (hfin.out 1 _ _ ha.out (Blk.new' _ _ _ _ (by simp)) xt)
/-- The tables of tables. -/
def TabsD.at (t : TabsD) : Nat → List RuleD
 | 0 => t.i
 | 1 => t.s
 | _ => t.m
theorem tabsE_at {t : TabsD} : ∀ {k : Nat}, k < 3 → (∀ j, j < k → oneE (t.at j) = 0) → oneE (t.at k) ≠ 0 → tabsE t = oneE (t.at k)
 | 0, _, _, h => by unfold tabsE; rw [if_pos (show oneE t.i ≠ 0 from h)]; rfl
 | 1, _, a, h => by unfold tabsE; rw [if_neg (by have := a 0 (by omega); simpa [TabsD.at] using this), if_pos (show oneE t.s ≠ 0 from h)]; rfl
 | 2, _, a, _ => by unfold tabsE; rw [if_neg (by have := a 0 (by omega); simpa [TabsD.at] using this), if_neg (by have := a 1 (by omega); simpa [TabsD.at] using this)]; rfl
 | k + 3, h, _, _ => by omega
theorem tabsE_ok {t : TabsD} (h : ∀ j, j < 3 → oneE (t.at j) = 0) : tabsE t = 0 := by
 unfold tabsE
 rw [if_neg (by have := h 0 (by omega); simpa [TabsD.at] using this), if_neg (by have := h 1 (by omega); simpa [TabsD.at] using this)]
 exact h 2 (by omega)
theorem oneE_tot {l : List RuleD} (h : tabE l (recF recD) = 0) : oneE l = if totB l = false then 6 else 0 := by
 unfold oneE
 rw [if_neg (by rw [h]; decide)]
set_option maxRecDepth 8000 in
set_option maxHeartbeats 4000000 in
theorem acheck_any (tv : Value) (t : TabsD) (w : World) (hT : TabsM w tv t) (hp : ∀ j, j < 3 → ∀ i, i < (t.at j).length → ((t.at j).getD i rD).when.parts.length ≤ 1000000) : Calls Tryz.prog 16 #[tv] w (OneW (.int .i64 (tabsE t)) w) := by
 obtain ⟨v1, v2, v3, rfl, h1, h2, h3⟩ := hT
 obtain ⟨p1, c1, rfl⟩ := h1.form
 obtain ⟨p2, c2, rfl⟩ := h2.form
 obtain ⟨p3, c3, rfl⟩ := h3.form
 have hat := Lib.hid (fun k a b c => tabsE_at (t := t) (k := k) a b c)
 have hok := Lib.hid (fun a => tabsE_ok (t := t) a)
 have q0 := Lib.hid (hp 0 (by omega))
 have q1 := Lib.hid (hp 1 (by omega))
 have q2 := Lib.hid (hp 2 (by omega))
 have hO0 : oneE (t.at 0) = if tabE t.i (recF recD) ≠ 0 then tabE t.i (recF recD) else if totB t.i = false then 6 else 0 := rfl
 have hO1 : oneE (t.at 1) = if tabE t.s (recF recD) ≠ 0 then tabE t.s (recF recD) else if totB t.s = false then 6 else 0 := rfl
 have hO2 : oneE (t.at 2) = if tabE t.m (recF recD) ≠ 0 then tabE t.m (recF recD) else if totB t.m = false then 6 else 0 := rfl
 have kF := Lib.hid (show ∀ w1, Calls Tryz.prog 14 #[.agg #[.int .i64 0, .string ⟨#[]⟩, .string ⟨#[]⟩, .string ⟨#[]⟩, .string ⟨#[]⟩, .string ⟨#[]⟩, .string ⟨#[]⟩, .int .i64 0, .string ⟨#[]⟩, .int .i64 0, .int .i64 0, .bool false]] w1 (FeaRP recD w1) from fun w1 => feaR_any recD w1)
 generalize tabsE t = R at *
 obtain ⟨O, hOe⟩ : ∃ O : Nat → Int, O = fun j => oneE (t.at j) := ⟨_, rfl⟩
 have hOj : ∀ j, oneE (t.at j) = O j := fun j => by rw [hOe]
 simp only [hOj] at hat hok hO0 hO1 hO2
 clear hOe hOj
 obtain ⟨li, ls, lm⟩ := t
 simp only [TabsD.at] at q0 q1 q2
 simp only at h1 h2 h3 hO0 hO1 hO2 ⊢
 have hl0 := h1.1
 have hl1 := h2.1
 have hl2 := h3.1
 replace h1 := Lib.hid h1
 replace h2 := Lib.hid h2
 replace h3 := Lib.hid h3
 replace hO0 := Lib.hid hO0
 replace hO1 := Lib.hid hO1
 replace hO2 := Lib.hid hO2
 clear hp
 unfold FeaRP at kF
 generalize recF recD = fs at *
 go_enter Tryz.func16, Tryz.ntmps16
 go_wp2_with fail
 refine (kF.out _).mono ?_
 rintro e w1 ⟨BF, rfl, hF, hE1⟩
 have hb := Lib.hid ((Blk.new w #[.slice p1 li.length c1, .slice p2 ls.length c2, .slice p3 lm.length c3] 24).ext hE1)
 replace hF := Lib.hid hF
 have hE : Ext w w1 := Ext.trans xt hE1
 clear hE1 kF
 have x0 : w1.cell? ⟨w.heap.size, 0, none⟩ = some (.slice p1 li.length c1) := (hb.out.cell 0).trans rfl
 have x1 : w1.cell? ⟨w.heap.size, 1, none⟩ = some (.slice p2 ls.length c2) := (hb.out.cell 1).trans rfl
 have x2 : w1.cell? ⟨w.heap.size, 2, none⟩ = some (.slice p3 lm.length c3) := (hb.out.cell 2).trans rfl
 go_wp2_with fail
 have hf := Lib.hid (Blk.new w1 #[.slice p1 li.length c1, .slice p2 ls.length c2, .slice p3 lm.length c3] 22)
 replace hE := hE.alloc (.cells #[.slice p1 li.length c1, .slice p2 ls.length c2, .slice p3 lm.length c3] 22)
 replace hF := Lib.hid (hF.out.ext ((Ext.refl w1).alloc (.cells #[.slice p1 li.length c1, .slice p2 ls.length c2, .slice p3 lm.length c3] 22)))
 obtain ⟨L, hL⟩ : ∃ L, L = w1.heap.size := ⟨_, rfl⟩
 rw [← hL] at hf ⊢
 generalize w1.alloc (.cells #[.slice p1 li.length c1, .slice p2 ls.length c2, .slice p3 lm.length c3] 22) = w2 at *
 clear hL x0 x1 x2 hb
 go_loopw [17] (fun i wr => ∃ k : Nat, k ≤ 3 ∧ i = .int .i64 k ∧ (∀ j, j < k → O j = 0) ∧ Ext w2 wr) (fun i _ => 3 - (intOf i).toNat)
 case atStart => exact ⟨0, by omega, rfl, fun j hj => absurd hj (by omega), Ext.refl _⟩
 case round =>
  obtain ⟨k, hk, rfl, hall, hEr⟩ := hrel
  by_cases hlt : k < 3
  · have hat1 := fun h => hat.out k hlt hall h
    have hnext : O k = 0 → ∀ j, j < k + 1 → O j = 0 := fun h j hj => by
     by_cases e : j = k
     · subst e; exact h
     · exact hall j (by omega)
    replace hf := Lib.hid (hf.out.ext hEr)
    replace hF := Lib.hid (hF.out.ext hEr)
    have hEw := hE.trans hEr
    clear hall
    have hcase : k = 0 ∨ k = 1 ∨ k = 2 := by omega
    rcases hcase with rfl | rfl | rfl
    · have y : wr.cell? ⟨L, 0, none⟩ = some (.slice p1 li.length c1) := (hf.out.cell 0).trans rfl
      have kC := Lib.hid (fcheck_any _ _ li fs wr (h1.out.ext hEw) hF.out)
      have kT := Lib.hid (fun w3 (hE3 : Ext w w3) => total_any _ li w3 (h1.out.ext hE3) q0.out)
      generalize tabE li fs = TE at *
      generalize totB li = TB at *
      generalize O 0 = P at *
      replace hat1 := Lib.hid hat1
      replace hnext := Lib.hid hnext
      clear hlt hk
      go_wp2_with fail
      refine kC.out.mono ?_
      rintro e w3 ⟨rfl, hE3⟩
      replace hEw := hEw.trans hE3
      replace hEr := hEr.trans hE3
      clear hE3 y kC
      by_cases hz : TE = 0
      · have hP := hO0.out
        rw [if_neg (by simp [hz])] at hP
        subst hz
        go_wp2_with fail
        refine (kT.out _ hEw).mono ?_
        rintro e w4 ⟨rfl, hE4⟩
        replace hEw := hEw.trans hE4
        replace hEr := hEr.trans hE4
        clear hE4 kT
        cases TB with
        | false =>
         rw [if_pos rfl] at hP
         have hR := Lib.hid (hat1.out (by rw [hP]; decide))
         rw [hP] at hR
         clear hat1 hnext hP hO0
         go_wp2
         go_ret
         exact ⟨by rw [hR.out]; rfl, hEw⟩
        | true =>
         rw [if_neg (by decide)] at hP
         have hn := Lib.hid (hnext.out hP)
         clear hat1 hnext hP hO0
         go_wp2
         go_roundw
         case rel => exact ⟨1, by omega, by go_num, hn.out, hEr⟩
         case measure => simp [intOf]
      · have d : (TE != 0) = true := by simp [hz]
        have hP := hO0.out
        rw [if_pos hz] at hP
        have hR := Lib.hid (hat1.out (by rw [hP]; exact hz))
        rw [hP] at hR
        clear hat1 hnext hP hO0
        go_wp2
        go_ret
        exact ⟨by rw [hR.out]; rfl, hEw⟩
    · have y : wr.cell? ⟨L, 1, none⟩ = some (.slice p2 ls.length c2) := (hf.out.cell 1).trans rfl
      have kC := Lib.hid (fcheck_any _ _ ls fs wr (h2.out.ext hEw) hF.out)
      have kT := Lib.hid (fun w3 (hE3 : Ext w w3) => total_any _ ls w3 (h2.out.ext hE3) q1.out)
      generalize tabE ls fs = TE at *
      generalize totB ls = TB at *
      generalize O 1 = P at *
      replace hat1 := Lib.hid hat1
      replace hnext := Lib.hid hnext
      clear hlt hk
      go_wp2_with fail
      refine kC.out.mono ?_
      rintro e w3 ⟨rfl, hE3⟩
      replace hEw := hEw.trans hE3
      replace hEr := hEr.trans hE3
      clear hE3 y kC
      by_cases hz : TE = 0
      · have hP := hO1.out
        rw [if_neg (by simp [hz])] at hP
        subst hz
        go_wp2_with fail
        refine (kT.out _ hEw).mono ?_
        rintro e w4 ⟨rfl, hE4⟩
        replace hEw := hEw.trans hE4
        replace hEr := hEr.trans hE4
        clear hE4 kT
        cases TB with
        | false =>
         rw [if_pos rfl] at hP
         have hR := Lib.hid (hat1.out (by rw [hP]; decide))
         rw [hP] at hR
         clear hat1 hnext hP hO1
         go_wp2
         go_ret
         exact ⟨by rw [hR.out]; rfl, hEw⟩
        | true =>
         rw [if_neg (by decide)] at hP
         have hn := Lib.hid (hnext.out hP)
         clear hat1 hnext hP hO1
         go_wp2
         go_roundw
         case rel => exact ⟨2, by omega, by go_num, hn.out, hEr⟩
         case measure => simp [intOf]
      · have d : (TE != 0) = true := by simp [hz]
        have hP := hO1.out
        rw [if_pos hz] at hP
        have hR := Lib.hid (hat1.out (by rw [hP]; exact hz))
        rw [hP] at hR
        clear hat1 hnext hP hO1
        go_wp2
        go_ret
        exact ⟨by rw [hR.out]; rfl, hEw⟩
    · have y : wr.cell? ⟨L, 2, none⟩ = some (.slice p3 lm.length c3) := (hf.out.cell 2).trans rfl
      have kC := Lib.hid (fcheck_any _ _ lm fs wr (h3.out.ext hEw) hF.out)
      have kT := Lib.hid (fun w3 (hE3 : Ext w w3) => total_any _ lm w3 (h3.out.ext hE3) q2.out)
      generalize tabE lm fs = TE at *
      generalize totB lm = TB at *
      generalize O 2 = P at *
      replace hat1 := Lib.hid hat1
      replace hnext := Lib.hid hnext
      clear hlt hk
      go_wp2_with fail
      refine kC.out.mono ?_
      rintro e w3 ⟨rfl, hE3⟩
      replace hEw := hEw.trans hE3
      replace hEr := hEr.trans hE3
      clear hE3 y kC
      by_cases hz : TE = 0
      · have hP := hO2.out
        rw [if_neg (by simp [hz])] at hP
        subst hz
        go_wp2_with fail
        refine (kT.out _ hEw).mono ?_
        rintro e w4 ⟨rfl, hE4⟩
        replace hEw := hEw.trans hE4
        replace hEr := hEr.trans hE4
        clear hE4 kT
        cases TB with
        | false =>
         rw [if_pos rfl] at hP
         have hR := Lib.hid (hat1.out (by rw [hP]; decide))
         rw [hP] at hR
         clear hat1 hnext hP hO2
         go_wp2
         go_ret
         exact ⟨by rw [hR.out]; rfl, hEw⟩
        | true =>
         rw [if_neg (by decide)] at hP
         have hn := Lib.hid (hnext.out hP)
         clear hat1 hnext hP hO2
         go_wp2
         go_roundw
         case rel => exact ⟨3, by omega, by go_num, hn.out, hEr⟩
         case measure => simp [intOf]
      · have d : (TE != 0) = true := by simp [hz]
        have hP := hO2.out
        rw [if_pos hz] at hP
        have hR := Lib.hid (hat1.out (by rw [hP]; exact hz))
        rw [hP] at hR
        clear hat1 hnext hP hO2
        go_wp2
        go_ret
        exact ⟨by rw [hR.out]; rfl, hEw⟩
  · have hR := Lib.hid (hok.out (fun j hj => hall j (by omega)))
    have hke : k = 3 := by omega
    subst hke
    clear hall hat
    go_wp2
    go_ret
    exact ⟨by rw [hR.out]; rfl, hE.trans hEr⟩
end Go.Proofs.YtmnhmkjmcckneaaGreatDoor
