/- Contract of the reference's Valid (walk; printed by gen/g4.py). -/
import Derived.Test.YtnppbeajemhjeaaGreatG3
import Derived.Deep.RegionHeld3
namespace Go.Proofs.YtnppbeajemhjeaaGreat
open Go.RowKit
theorem Feats.take {w : World} {p : Option Addr} {c : Nat} {l : List Feat} (h : Feats w (.slice p l.length c) l) {k : Nat} (hk : k ≤ l.length) : Feats w (.slice p k c) (l.take k) := by
  have hl : (l.take k).length = k := by rw [List.length_take]; omega
  by_cases h0 : k = 0
  · subst h0
    exact ⟨by simp, Or.inl ⟨p, c, rfl, by simp⟩⟩
  · obtain ⟨b, off, rfl, hat⟩ := h.at (by omega)
    refine ⟨by rw [hl]; have := h.1; omega, Or.inr ⟨b, off, c, by rw [hl], fun i hi => ?_⟩⟩
    rw [hl] at hi
    have e : (l.take k).getD i fD = l.getD i fD := by
      simp only [List.getD_eq_getElem?_getD]
      rw [List.getElem?_take_of_lt hi]
    rw [e]
    exact hat i (by omega)
set_option maxRecDepth 8000 in
set_option maxHeartbeats 8000000 in
theorem rvalid_any (w : World) (p : Option Addr) (c : Nat) (l : List Feat) (hF : Feats w (.slice p l.length c) l) (hcap : l.length ≤ c) (hs : ∀ i, i < l.length → (l.getD i fD).name.size ≤ 140737488355328) : Calls Tryz.prog 87 #[.slice p l.length c] w (OneV (.int .i64 (namesE [] l)) w) := by
  have hlen := hF.1
  obtain ⟨R, hR⟩ : ∃ R, R = namesE [] l := ⟨_, rfl⟩
  rw [← hR]
  replace hF := Lib.hid hF
  replace hs := Lib.hid hs
  go_enter Tryz.func87, Tryz.ntmps87
  go_wp2_with fail
  go_loopw [3] (fun i wr => ∃ k : Nat, k ≤ l.length ∧ i = .int .i64 k ∧ R = namesE (l.take k) (l.drop k) ∧ Ext w wr) (fun i _ => l.length - (intOf i).toNat)
  case atStart => exact ⟨0, Nat.zero_le _, rfl, hR, Ext.refl _⟩
  case round =>
    clear hR
    obtain ⟨k, hk, rfl, hR, hEr⟩ := hrel
    by_cases hlt : k < l.length
    · have hkc : k ≤ c := by omega
      rw [names_step l k hlt] at hR
      have kf := Lib.hid (fun w2 (h : Ext w w2) => rfind_ex w2 (.slice p k c) (l.take k) (l.getD k fD).name ((hF.out.take hk).ext h))
      obtain ⟨b, off, rfl, hat⟩ := hF.out.at (by omega)
      obtain ⟨c0, c1, c2, c3⟩ := hat k hlt
      replace c0 := hEr.get c0
      replace c1 := hEr.get c1
      replace c2 := hEr.get c2
      replace c3 := hEr.get c3
      have kN := Lib.hid (fun w2 => risName_any (l.getD k fD).name w2 (hs.out k hlt))
      have hnx := Lib.hid (show l.take (k + 1) = l.take (k + 1) from rfl)
      clear hat hnx
      generalize l.getD k fD = f at *
      generalize findN (l.take k) f.name = D at *
      unfold FindP at kf
      generalize D.getD fD = g at *
      generalize D.isSome = fb at *
      replace hR := Lib.hid hR
      have bl : b < wr.heap.size := cell_lt c0
      go_wp2_with fail
      refine (kN.out _).mono ?_
      rintro e w1 ⟨rfl, hE1⟩
      have hB := (Blk.new wr #[.string f.name, .int .i64 f.kind, .int .i64 f.n, .string f.text] 36).ext hE1
      have hE : Ext w w1 := hEr.trans (Ext.trans ((Ext.refl _).alloc _) hE1)
      have x0 : w1.cell? ⟨wr.heap.size, 0, none⟩ = some (.string f.name) := (hB.cell 0).trans rfl
      have x1 : w1.cell? ⟨wr.heap.size, 1, none⟩ = some (.int .i64 f.kind) := (hB.cell 1).trans rfl
      have x2 : w1.cell? ⟨wr.heap.size, 2, none⟩ = some (.int .i64 f.n) := (hB.cell 2).trans rfl
      clear c0 c1 c2 c3 hE1 kN bl hB hEr
      cases hn : nameB f.name with
      | false =>
        have hR5 := Lib.hid (show R = 5 by rw [hR.out, if_pos (by unfold featE; rw [if_pos hn]; decide)]; unfold featE; rw [if_pos hn])
        clear hn hR kf
        go_wp2
        go_ret
        exact ⟨by rw [hR5.out]; rfl, hE⟩
      | true =>
        have hfe := Lib.hid (show featE f = if f.kind = 2 ∨ (f.kind = 1 ∧ nbrB f.n = true) ∨ (f.kind = 3 ∧ (f.n = 0 ∨ f.n = 1)) then 0 else 4 by unfold featE; rw [if_neg (by rw [hn]; simp)])
        have hbad : featE f = 4 → R = 4 := fun h => by rw [hR.out, if_pos (by rw [h]; decide), h]
        have hgood : featE f = 0 → R = if fb then 7 else namesE (l.take (k + 1)) (l.drop (k + 1)) := fun h => by rw [hR.out, if_neg (by rw [h]; simp)]
        replace hbad := Lib.hid hbad
        replace hgood := Lib.hid hgood
        clear hn hR
        by_cases q1 : f.kind < 1
        · skip
          have d1 : decide (f.kind < 1) = true := decide_eq_true q1
          have hR4 := Lib.hid (hbad.out (by rw [hfe.out, if_neg (by omega)]))
          clear hfe hbad hgood kf
          go_wp2
          go_ret
          exact ⟨by rw [hR4.out]; rfl, hE⟩
        · have d1 : decide (f.kind < 1) = false := decide_eq_false q1
          by_cases q2 : 3 < f.kind
          · skip
            have d2 : decide (3 < f.kind) = true := decide_eq_true q2
            have hR4 := Lib.hid (hbad.out (by rw [hfe.out, if_neg (by omega)]))
            clear hfe hbad hgood kf
            go_wp2
            go_ret
            exact ⟨by rw [hR4.out]; rfl, hE⟩
          · have d2 : decide (3 < f.kind) = false := decide_eq_false q2
            by_cases q3 : f.kind = 3
            · have d3 : (f.kind == 3) = true := by simpa using q3
              have d4 : (f.kind == 1) = false := by simp; omega
              by_cases n0 : f.n = 0
              · skip
                have e0 : (f.n != 0) = false := by simpa using n0
                clear q1 q2
                have hR0 := Lib.hid (hgood.out (by rw [hfe.out, if_pos (by omega)]))
                clear hfe hbad hgood
                go_wp2_with fail
                have hE0 := hE
                clear hE x1 x2
                have hwl : wr.heap.size < w1.heap.size := cell_lt x0
                have hw1 : w.heap.size ≤ w1.heap.size := hE0.size
                go_region_with (go_at_call 98; refine (kf.out _ (by repeat (first | with_reducible exact hE0 | with_reducible refine Ext.alloc ?_ _ | with_reducible refine Ext.drew ?_))).mono ?_; rintro e w6 ⟨rfl, rfl⟩)
                all_goals cases fb
                all_goals go_wp2
                all_goals first
                  | (go_ret; exact ⟨by rw [hR0.out]; rfl, (by repeat (first | with_reducible exact Ext.refl _ | with_reducible exact hE0 | with_reducible exact hE | with_reducible refine Ext.alloc ?_ _ | with_reducible refine Ext.drewN ?_ _ | with_reducible refine Ext.drew ?_ | ((with_reducible refine Ext.setCell ?_ ?side _); (case side => first | exact Nat.le_refl _ | (simp; done) | (simp; omega)))))⟩)
                  | (go_roundw; all_goals first | exact ⟨k + 1, by omega, by go_num, hR0.out.trans (if_neg (by simp)), (by repeat (first | with_reducible exact Ext.refl _ | with_reducible exact hE0 | with_reducible exact hE | with_reducible refine Ext.alloc ?_ _ | with_reducible refine Ext.drewN ?_ _ | with_reducible refine Ext.drew ?_ | ((with_reducible refine Ext.setCell ?_ ?side _); (case side => first | exact Nat.le_refl _ | (simp; done) | (simp; omega)))))⟩ | (simp [intOf]; omega))
              · have e0 : (f.n != 0) = true := by simpa using n0
                by_cases n1 : f.n = 1
                · skip
                  have e1 : (f.n != 1) = false := by simpa using n1
                  clear q1 q2
                  have hR0 := Lib.hid (hgood.out (by rw [hfe.out, if_pos (by omega)]))
                  clear hfe hbad hgood
                  go_wp2_with fail
                  have hE0 := hE
                  clear hE x1 x2
                  have hwl : wr.heap.size < w1.heap.size := cell_lt x0
                  have hw1 : w.heap.size ≤ w1.heap.size := hE0.size
                  go_region_with (go_at_call 98; refine (kf.out _ (by repeat (first | with_reducible exact hE0 | with_reducible refine Ext.alloc ?_ _ | with_reducible refine Ext.drew ?_))).mono ?_; rintro e w6 ⟨rfl, rfl⟩)
                  all_goals cases fb
                  all_goals go_wp2
                  all_goals first
                    | (go_ret; exact ⟨by rw [hR0.out]; rfl, (by repeat (first | with_reducible exact Ext.refl _ | with_reducible exact hE0 | with_reducible exact hE | with_reducible refine Ext.alloc ?_ _ | with_reducible refine Ext.drewN ?_ _ | with_reducible refine Ext.drew ?_ | ((with_reducible refine Ext.setCell ?_ ?side _); (case side => first | exact Nat.le_refl _ | (simp; done) | (simp; omega)))))⟩)
                    | (go_roundw; all_goals first | exact ⟨k + 1, by omega, by go_num, hR0.out.trans (if_neg (by simp)), (by repeat (first | with_reducible exact Ext.refl _ | with_reducible exact hE0 | with_reducible exact hE | with_reducible refine Ext.alloc ?_ _ | with_reducible refine Ext.drewN ?_ _ | with_reducible refine Ext.drew ?_ | ((with_reducible refine Ext.setCell ?_ ?side _); (case side => first | exact Nat.le_refl _ | (simp; done) | (simp; omega)))))⟩ | (simp [intOf]; omega))
                · skip
                  have e1 : (f.n != 1) = true := by simpa using n1
                  clear q1 q2
                  have hR4 := Lib.hid (hbad.out (by rw [hfe.out, if_neg (by omega)]))
                  clear hfe hbad hgood kf
                  go_wp2
                  go_ret
                  exact ⟨by rw [hR4.out]; rfl, hE⟩
            · have d3 : (f.kind == 3) = false := by simpa using q3
              by_cases q4 : f.kind = 1
              · have d4 : (f.kind == 1) = true := by simpa using q4
                clear q1 q2
                cases hnb : nbrB f.n with
                | false =>
                  have hR4 := Lib.hid (hbad.out (by rw [hfe.out, if_neg (by rw [hnb]; simp; omega)]))
                  clear hfe hbad hgood kf
                  go_wp2_with fail
                  refine (rnumber_any f.n _).mono ?_
                  rintro e w2 ⟨rfl, rfl⟩
                  rw [hnb]
                  go_wp2
                  go_ret
                  exact ⟨by rw [hR4.out]; rfl, hE⟩
                | true =>
                  skip
                  have hR0 := Lib.hid (hgood.out (by rw [hfe.out, if_pos (by exact Or.inr (Or.inl ⟨q4, hnb⟩))]))
                  clear hfe hbad hgood
                  go_wp2_with fail
                  refine (rnumber_any f.n _).mono ?_
                  rintro e w2 ⟨rfl, rfl⟩
                  rw [hnb]
                  clear hnb
                  go_wp2_with fail
                  have hE0 := hE
                  clear hE x1 x2
                  have hwl : wr.heap.size < w1.heap.size := cell_lt x0
                  have hw1 : w.heap.size ≤ w1.heap.size := hE0.size
                  go_region_with (go_at_call 98; refine (kf.out _ (by repeat (first | with_reducible exact hE0 | with_reducible refine Ext.alloc ?_ _ | with_reducible refine Ext.drew ?_))).mono ?_; rintro e w6 ⟨rfl, rfl⟩)
                  all_goals cases fb
                  all_goals go_wp2
                  all_goals first
                    | (go_ret; exact ⟨by rw [hR0.out]; rfl, (by repeat (first | with_reducible exact Ext.refl _ | with_reducible exact hE0 | with_reducible exact hE | with_reducible refine Ext.alloc ?_ _ | with_reducible refine Ext.drewN ?_ _ | with_reducible refine Ext.drew ?_ | ((with_reducible refine Ext.setCell ?_ ?side _); (case side => first | exact Nat.le_refl _ | (simp; done) | (simp; omega)))))⟩)
                    | (go_roundw; all_goals first | exact ⟨k + 1, by omega, by go_num, hR0.out.trans (if_neg (by simp)), (by repeat (first | with_reducible exact Ext.refl _ | with_reducible exact hE0 | with_reducible exact hE | with_reducible refine Ext.alloc ?_ _ | with_reducible refine Ext.drewN ?_ _ | with_reducible refine Ext.drew ?_ | ((with_reducible refine Ext.setCell ?_ ?side _); (case side => first | exact Nat.le_refl _ | (simp; done) | (simp; omega)))))⟩ | (simp [intOf]; omega))
              · have d4 : (f.kind == 1) = false := by simpa using q4
                have q5 : f.kind = 2 := by omega
                clear q1 q2 q3 q4
                have hR0 := Lib.hid (hgood.out (by rw [hfe.out, if_pos (by exact Or.inl q5)]))
                clear hfe hbad hgood
                go_wp2_with fail
                have hE0 := hE
                clear hE x1 x2
                have hwl : wr.heap.size < w1.heap.size := cell_lt x0
                have hw1 : w.heap.size ≤ w1.heap.size := hE0.size
                go_region_with (go_at_call 98; refine (kf.out _ (by repeat (first | with_reducible exact hE0 | with_reducible refine Ext.alloc ?_ _ | with_reducible refine Ext.drew ?_))).mono ?_; rintro e w6 ⟨rfl, rfl⟩)
                all_goals cases fb
                all_goals go_wp2
                all_goals first
                  | (go_ret; exact ⟨by rw [hR0.out]; rfl, (by repeat (first | with_reducible exact Ext.refl _ | with_reducible exact hE0 | with_reducible exact hE | with_reducible refine Ext.alloc ?_ _ | with_reducible refine Ext.drewN ?_ _ | with_reducible refine Ext.drew ?_ | ((with_reducible refine Ext.setCell ?_ ?side _); (case side => first | exact Nat.le_refl _ | (simp; done) | (simp; omega)))))⟩)
                  | (go_roundw; all_goals first | exact ⟨k + 1, by omega, by go_num, hR0.out.trans (if_neg (by simp)), (by repeat (first | with_reducible exact Ext.refl _ | with_reducible exact hE0 | with_reducible exact hE | with_reducible refine Ext.alloc ?_ _ | with_reducible refine Ext.drewN ?_ _ | with_reducible refine Ext.drew ?_ | ((with_reducible refine Ext.setCell ?_ ?side _); (case side => first | exact Nat.le_refl _ | (simp; done) | (simp; omega)))))⟩ | (simp [intOf]; omega))
    · have hk2 : k = l.length := by omega
      have hd : l.drop k = [] := by rw [hk2]; exact List.drop_length
      rw [hd] at hR
      have hR0 := Lib.hid (show R = 0 by rw [hR]; rfl)
      clear hR hd hk2
      go_wp2
      go_ret
      exact ⟨by rw [hR0.out]; rfl, hEr⟩
end Go.Proofs.YtnppbeajemhjeaaGreat
