/- The contract of the reference's Check of layer 38 (walk; printed by gen/h26.py). -/
import Derived.Test.YtmnhmkjmcckneaaGreatDoorJe
import Derived.Test.YtmnhmkjmcckneaaGreatDoorJd
import Derived.Test.YtmnhmkjmcckneaaGreatDoorGv
import Derived.Deep.RegionHeld3
namespace Go.Proofs.YtmnhmkjmcckneaaGreatDoor
open Go.RowKit
/-- What is known of a table, for the reference. -/
def RefIn (l : List RuleD) : Prop := l.length ≤ 1000000 ∧ ∀ i, i < l.length → StrOk [(l.getD i rD).when] ∧ (l.getD i rD).when.parts.length ≤ 999999 ∧ (l.getD i rD).name.size ≤ 1000
theorem RefIn.ch {l : List RuleD} (h : RefIn l) : ChIn l := fun i hi => ⟨(h.2 i hi).1, by have := (h.2 i hi).2.1; omega, (h.2 i hi).2.2⟩
theorem RefIn.fo {l : List RuleD} (h : RefIn l) : FoIn l := fun i hi => ⟨(h.2 i hi).1, (h.2 i hi).2.1⟩
theorem recF_len (r : RecD) : (recF r).length = 9 := rfl
theorem recF_nm (r : RecD) : ∀ i, i < (recF r).length → ((recF r).getD i fD).name.size ≤ 140737488355328 := by
 intro i hi
 rw [recF_len] at hi
 match i, hi with
 | 0, _ => exact show kinN.size ≤ 140737488355328 by decide
 | 1, _ => exact show catN.size ≤ 140737488355328 by decide
 | 2, _ => exact show amoN.size ≤ 140737488355328 by decide
 | 3, _ => exact show datN.size ≤ 140737488355328 by decide
 | 4, _ => exact show merN.size ≤ 140737488355328 by decide
 | 5, _ => exact show issN.size ≤ 140737488355328 by decide
 | 6, _ => exact show acqN.size ≤ 140737488355328 by decide
 | 7, _ => exact show curN.size ≤ 140737488355328 by decide
 | 8, _ => exact show autN.size ≤ 140737488355328 by decide
theorem rtab9 (lv : Value) (l : List RuleD) (fs : List Feat) (w : World) (hn : fs.length = 9) (hs : ∀ i, i < fs.length → (fs.getD i fD).name.size ≤ 140737488355328) (B : Nat) (hR : RulesM w lv l) (hI : RefIn l) (hF : Feats w (.slice (some ⟨B, 0, none⟩) 9 9) fs) : Calls Tryz.prog 36 #[lv, .slice (some ⟨B, 0, none⟩) 9 9] w (OneW (.int .i64 (tabE l fs)) w) := by
 have h := rtab_any lv (some ⟨B, 0, none⟩) 9 l fs w hR hI.ch (by rw [hn]; exact hF) (by omega) hs
 rw [hn] at h
 exact h
set_option maxRecDepth 8000 in
set_option maxHeartbeats 8000000 in
theorem r38check_any (tv : Value) (t : TabsD) (w : World) (hT : TabsM w tv t) (hp : ∀ j, j < 3 → RefIn (t.at j)) : Calls Tryz.prog 17 #[tv] w (OneW (.int .i64 (tabsE t)) w) := by
 obtain ⟨v1, v2, v3, rfl, h1, h2, h3⟩ := hT
 obtain ⟨p1, c1, rfl⟩ := h1.form
 obtain ⟨p2, c2, rfl⟩ := h2.form
 obtain ⟨p3, c3, rfl⟩ := h3.form
 have hat := Lib.hid (fun k a b c => tabsE_at (t := t) (k := k) a b c)
 have hok := Lib.hid (fun a => tabsE_ok (t := t) a)
 have q0 := Lib.hid (hp 0 (by omega))
 have q1 := Lib.hid (hp 1 (by omega))
 have q2 := Lib.hid (hp 2 (by omega))
 have hO0 : oneE (t.at 0) = if tabE t.i (recF recD) ≠ 0 then tabE t.i (recF recD) else if totB t.i = false then 6 else 0 := rfl
 have hO1 : oneE (t.at 1) = if tabE t.s (recF recD) ≠ 0 then tabE t.s (recF recD) else if totB t.s = false then 6 else 0 := rfl
 have hO2 : oneE (t.at 2) = if tabE t.m (recF recD) ≠ 0 then tabE t.m (recF recD) else if totB t.m = false then 6 else 0 := rfl
 have kF := Lib.hid (show ∀ w1, Calls Tryz.prog 15 #[.agg #[.int .i64 0, .string ⟨#[]⟩, .string ⟨#[]⟩, .string ⟨#[]⟩, .string ⟨#[]⟩, .string ⟨#[]⟩, .string ⟨#[]⟩, .int .i64 0, .string ⟨#[]⟩, .int .i64 0, .int .i64 0, .bool false]] w1 (FeaRP recD w1) from fun w1 => rfeaR_any recD w1)
 have hn := Lib.hid (recF_len recD)
 have hsz := Lib.hid (recF_nm recD)
 generalize tabsE t = R at *
 obtain ⟨O, hOe⟩ : ∃ O : Nat → Int, O = fun j => oneE (t.at j) := ⟨_, rfl⟩
 have hOj : ∀ j, oneE (t.at j) = O j := fun j => by rw [hOe]
 simp only [hOj] at hat hok hO0 hO1 hO2
 clear hOe hOj
 obtain ⟨li, ls, lm⟩ := t
 simp only [TabsD.at] at q0 q1 q2
 simp only at h1 h2 h3 hO0 hO1 hO2 ⊢
 have hl0 := h1.1
 have hl1 := h2.1
 have hl2 := h3.1
 replace h1 := Lib.hid h1
 replace h2 := Lib.hid h2
 replace h3 := Lib.hid h3
 replace hO0 := Lib.hid hO0
 replace hO1 := Lib.hid hO1
 replace hO2 := Lib.hid hO2
 clear hp
 unfold FeaRP at kF
 generalize recF recD = fs at *
 go_enter Tryz.func17, Tryz.ntmps17
 go_wp2_with fail
 have hf : Blk ((w.alloc (.cells #[.slice p1 li.length c1, .slice p2 ls.length c2, .slice p3 lm.length c3] 42)).alloc (.cells #[.slice p1 li.length c1, .slice p2 ls.length c2, .slice p3 lm.length c3] 22)) (w.heap.size + 1) #[.slice p1 li.length c1, .slice p2 ls.length c2, .slice p3 lm.length c3] 22 := Blk.new' _ _ _ _ (by simp)
 have hE : Ext w ((w.alloc (.cells #[.slice p1 li.length c1, .slice p2 ls.length c2, .slice p3 lm.length c3] 42)).alloc (.cells #[.slice p1 li.length c1, .slice p2 ls.length c2, .slice p3 lm.length c3] 22)) := xt
 obtain ⟨L, hL⟩ : ∃ L, L = w.heap.size + 1 := ⟨_, rfl⟩
 rw [← hL] at hf ⊢
 generalize (w.alloc (.cells #[.slice p1 li.length c1, .slice p2 ls.length c2, .slice p3 lm.length c3] 42)).alloc (.cells #[.slice p1 li.length c1, .slice p2 ls.length c2, .slice p3 lm.length c3] 22) = w2 at *
 replace hf := Lib.hid hf
 clear hL
 go_loopw [4] (fun i wr => ∃ k : Nat, k ≤ 3 ∧ i = .int .i64 k ∧ (∀ j, j < k → O j = 0) ∧ Ext w2 wr) (fun i _ => 3 - (intOf i).toNat)
 case atStart => exact ⟨0, by omega, rfl, fun j hj => absurd hj (by omega), Ext.refl _⟩
 case round =>
  obtain ⟨k, hk, rfl, hall, hEr⟩ := hrel
  by_cases hlt : k < 3
  · have hat1 := fun h => hat.out k hlt hall h
    have hnext : O k = 0 → ∀ j, j < k + 1 → O j = 0 := fun h j hj => by
     by_cases e : j = k
     · subst e; exact h
     · exact hall j (by omega)
    replace hf := Lib.hid (hf.out.ext hEr)
    clear hall
    have hcase : k = 0 ∨ k = 1 ∨ k = 2 := by omega
    rcases hcase with rfl | rfl | rfl
    · have y : wr.cell? ⟨L, 0, none⟩ = some (.slice p1 li.length c1) := (hf.out.cell 0).trans rfl
      have kC := Lib.hid (fun B w3 (hE3 : Ext w w3) hF => rtab9 (.slice p1 li.length c1) li fs w3 hn.out hsz.out B (h1.out.ext hE3) q0.out hF)
      have kT := Lib.hid (fun w3 (hE3 : Ext w w3) => rtotal_any (.slice p1 li.length c1) li w3 (h1.out.ext hE3) q0.out.fo q0.out.1)
      have hO := Lib.hid hO0.out
      generalize tabE li fs = TE at *
      generalize totB li = TB at *
      generalize O 0 = PO at *
      replace hat1 := Lib.hid hat1
      replace hnext := Lib.hid hnext
      clear hlt hk hO0 hO1 hO2
      have hEq := hE.trans hEr
      go_wp2_with fail
      go_region_held3 (fun w' => w'.cell? ⟨L, 0, none⟩ = some (.slice p1 li.length c1)) (first | exact y) (first | (go_at_call 15; refine (kF.out _).mono ?_; rintro e w6 ⟨BF, rfl, hF, hE6⟩; have hS := ext_at hEq (by first | exact hE6 | exact Ext.undrew hE6); replace hEq := hEq.trans hS; replace hEr := hEr.trans hS; replace y := hS.get y; clear hE6 hS) | (go_at_call 36; refine (kC.out _ _ hEq hF).mono ?_; rintro e w7 ⟨rfl, hE7⟩; replace hEq := hEq.trans hE7; replace hEr := hEr.trans hE7; replace y := hE7.get y; clear hE7))
      by_cases ht : TE ≠ 0
      · have dd : (TE != 0) = true := by simpa using ht
        have hv := hO.out
        rw [if_pos ht] at hv
        have hR := hat1.out (by rw [hv]; exact ht)
        rw [hv] at hR
        replace hR := Lib.hid hR
        clear hO hat1 hnext hv kC kT hat hok
        go_wp2
        go_ret
        exact ⟨by rw [hR.out]; rfl, hEq⟩
      · have dd : (TE != 0) = false := by simpa using ht
        have hv := hO.out
        rw [if_neg ht] at hv
        clear hO kC
        go_wp2_with fail
        refine (kT.out _ hEq).mono ?_
        rintro e w8 ⟨rfl, hE8⟩
        replace hEq := hEq.trans hE8
        replace hEr := hEr.trans hE8
        clear hE8 kT y
        cases TB with
        | false =>
         rw [if_pos rfl] at hv
         have hR := hat1.out (by rw [hv]; decide)
         rw [hv] at hR
         replace hR := Lib.hid hR
         clear hat1 hnext hv hat hok
         go_wp2
         go_ret
         exact ⟨by rw [hR.out]; rfl, hEq⟩
        | true =>
         rw [if_neg (by decide)] at hv
         have hN := Lib.hid (hnext.out hv)
         clear hat1 hnext hv
         go_wp2
         go_roundw
         case rel => exact ⟨1, by omega, by go_num, hN.out, hEr⟩
         case measure => simp [intOf]
    · have y : wr.cell? ⟨L, 1, none⟩ = some (.slice p2 ls.length c2) := (hf.out.cell 1).trans rfl
      have kC := Lib.hid (fun B w3 (hE3 : Ext w w3) hF => rtab9 (.slice p2 ls.length c2) ls fs w3 hn.out hsz.out B (h2.out.ext hE3) q1.out hF)
      have kT := Lib.hid (fun w3 (hE3 : Ext w w3) => rtotal_any (.slice p2 ls.length c2) ls w3 (h2.out.ext hE3) q1.out.fo q1.out.1)
      have hO := Lib.hid hO1.out
      generalize tabE ls fs = TE at *
      generalize totB ls = TB at *
      generalize O 1 = PO at *
      replace hat1 := Lib.hid hat1
      replace hnext := Lib.hid hnext
      clear hlt hk hO0 hO1 hO2
      have hEq := hE.trans hEr
      go_wp2_with fail
      go_region_held3 (fun w' => w'.cell? ⟨L, 1, none⟩ = some (.slice p2 ls.length c2)) (first | exact y) (first | (go_at_call 15; refine (kF.out _).mono ?_; rintro e w6 ⟨BF, rfl, hF, hE6⟩; have hS := ext_at hEq (by first | exact hE6 | exact Ext.undrew hE6); replace hEq := hEq.trans hS; replace hEr := hEr.trans hS; replace y := hS.get y; clear hE6 hS) | (go_at_call 36; refine (kC.out _ _ hEq hF).mono ?_; rintro e w7 ⟨rfl, hE7⟩; replace hEq := hEq.trans hE7; replace hEr := hEr.trans hE7; replace y := hE7.get y; clear hE7))
      by_cases ht : TE ≠ 0
      · have dd : (TE != 0) = true := by simpa using ht
        have hv := hO.out
        rw [if_pos ht] at hv
        have hR := hat1.out (by rw [hv]; exact ht)
        rw [hv] at hR
        replace hR := Lib.hid hR
        clear hO hat1 hnext hv kC kT hat hok
        go_wp2
        go_ret
        exact ⟨by rw [hR.out]; rfl, hEq⟩
      · have dd : (TE != 0) = false := by simpa using ht
        have hv := hO.out
        rw [if_neg ht] at hv
        clear hO kC
        go_wp2_with fail
        refine (kT.out _ hEq).mono ?_
        rintro e w8 ⟨rfl, hE8⟩
        replace hEq := hEq.trans hE8
        replace hEr := hEr.trans hE8
        clear hE8 kT y
        cases TB with
        | false =>
         rw [if_pos rfl] at hv
         have hR := hat1.out (by rw [hv]; decide)
         rw [hv] at hR
         replace hR := Lib.hid hR
         clear hat1 hnext hv hat hok
         go_wp2
         go_ret
         exact ⟨by rw [hR.out]; rfl, hEq⟩
        | true =>
         rw [if_neg (by decide)] at hv
         have hN := Lib.hid (hnext.out hv)
         clear hat1 hnext hv
         go_wp2
         go_roundw
         case rel => exact ⟨2, by omega, by go_num, hN.out, hEr⟩
         case measure => simp [intOf]
    · have y : wr.cell? ⟨L, 2, none⟩ = some (.slice p3 lm.length c3) := (hf.out.cell 2).trans rfl
      have kC := Lib.hid (fun B w3 (hE3 : Ext w w3) hF => rtab9 (.slice p3 lm.length c3) lm fs w3 hn.out hsz.out B (h3.out.ext hE3) q2.out hF)
      have kT := Lib.hid (fun w3 (hE3 : Ext w w3) => rtotal_any (.slice p3 lm.length c3) lm w3 (h3.out.ext hE3) q2.out.fo q2.out.1)
      have hO := Lib.hid hO2.out
      generalize tabE lm fs = TE at *
      generalize totB lm = TB at *
      generalize O 2 = PO at *
      replace hat1 := Lib.hid hat1
      replace hnext := Lib.hid hnext
      clear hlt hk hO0 hO1 hO2
      have hEq := hE.trans hEr
      go_wp2_with fail
      go_region_held3 (fun w' => w'.cell? ⟨L, 2, none⟩ = some (.slice p3 lm.length c3)) (first | exact y) (first | (go_at_call 15; refine (kF.out _).mono ?_; rintro e w6 ⟨BF, rfl, hF, hE6⟩; have hS := ext_at hEq (by first | exact hE6 | exact Ext.undrew hE6); replace hEq := hEq.trans hS; replace hEr := hEr.trans hS; replace y := hS.get y; clear hE6 hS) | (go_at_call 36; refine (kC.out _ _ hEq hF).mono ?_; rintro e w7 ⟨rfl, hE7⟩; replace hEq := hEq.trans hE7; replace hEr := hEr.trans hE7; replace y := hE7.get y; clear hE7))
      by_cases ht : TE ≠ 0
      · have dd : (TE != 0) = true := by simpa using ht
        have hv := hO.out
        rw [if_pos ht] at hv
        have hR := hat1.out (by rw [hv]; exact ht)
        rw [hv] at hR
        replace hR := Lib.hid hR
        clear hO hat1 hnext hv kC kT hat hok
        go_wp2
        go_ret
        exact ⟨by rw [hR.out]; rfl, hEq⟩
      · have dd : (TE != 0) = false := by simpa using ht
        have hv := hO.out
        rw [if_neg ht] at hv
        clear hO kC
        go_wp2_with fail
        refine (kT.out _ hEq).mono ?_
        rintro e w8 ⟨rfl, hE8⟩
        replace hEq := hEq.trans hE8
        replace hEr := hEr.trans hE8
        clear hE8 kT y
        cases TB with
        | false =>
         rw [if_pos rfl] at hv
         have hR := hat1.out (by rw [hv]; decide)
         rw [hv] at hR
         replace hR := Lib.hid hR
         clear hat1 hnext hv hat hok
         go_wp2
         go_ret
         exact ⟨by rw [hR.out]; rfl, hEq⟩
        | true =>
         rw [if_neg (by decide)] at hv
         have hN := Lib.hid (hnext.out hv)
         clear hat1 hnext hv
         go_wp2
         go_roundw
         case rel => exact ⟨3, by omega, by go_num, hN.out, hEr⟩
         case measure => simp [intOf]
  · obtain rfl : k = 3 := by omega
    have hR := hok.out hall
    clear hall hat hok hO0 hO1 hO2
    go_wp2
    go_ret
    exact ⟨by rw [hR]; rfl, hE.trans hEr⟩
end Go.Proofs.YtmnhmkjmcckneaaGreatDoor
