/- Contracts of the reference's amount, possible, Fee, and the walk of the law FeeruleFees (printed by gen/fe.py). Contracts of the reference's Holds, Pick, why, Apply (walks; printed by gen/g10.py). -/
import Derived.Test.YtmnhmkjmcckneaaGreatDoorFz
import Derived.Test.YtmnhmkjmcckneaaGreatDoorFx
import Derived.Test.YtmnhmkjmcckneaaGreatDoorEl
import Derived.Test.YtmnhmkjmcckneaaGreatDoorGz
import Derived.Test.YtmnhmkjmcckneaaGreatDoorGy
import Derived.Deep.QuietTactic
namespace Go.Proofs.YtmnhmkjmcckneaaGreatDoor
open Go.RowKit
def amtB (n : Int) : Bool := decide (0 ≤ n ∧ n ≤ 999999999999)
set_option maxHeartbeats 400000 in
theorem amount_any (n : Int) (w : World) : Calls Tryz.prog 96 #[.int .i64 n] w (OneV (.bool (amtB n)) w) := by
 obtain ⟨R, hR⟩ : ∃ R, R = amtB n := ⟨_, rfl⟩
 rw [← hR]
 by_cases c0 : 0 ≤ n
 · have d0 : decide (0 ≤ n) = true := by simp [c0]
   by_cases c1 : n ≤ 999999999999
   · have d1 : decide (n ≤ 999999999999) = true := by simp [c1]
     obtain rfl : R = true := by rw [hR]; unfold amtB; simp [c0, c1]
     clear hR
     go_enter Tryz.func96, Tryz.ntmps96
     go_wp2
     go_ret
     exact ⟨rfl, xt⟩
   · have d1 : decide (n ≤ 999999999999) = false := by simp; omega
     obtain rfl : R = false := by rw [hR]; unfold amtB; simp [c1]
     clear hR
     go_enter Tryz.func96, Tryz.ntmps96
     go_wp2
     go_ret
     exact ⟨rfl, xt⟩
 · have d0 : decide (0 ≤ n) = false := by simp; omega
   obtain rfl : R = false := by rw [hR]; unfold amtB; simp [c0]
   clear hR
   go_enter Tryz.func96, Tryz.ntmps96
   go_wp2
   go_ret
   exact ⟨rfl, xt⟩
theorem amt_iff (n : Int) : amtB n = true ↔ 0 ≤ n ∧ n ≤ 999999999999 := by unfold amtB; rw [decide_eq_true_eq]
set_option maxRecDepth 8000 in
set_option maxHeartbeats 4000000 in
theorem rpossible_any (r : RuleD) (q : Option Addr) (len cp : Nat) (w : World) : Calls Tryz.prog 75 #[ruleAgg r (.slice q len cp)] w (OneV (.bool (possB r)) w) := by
 obtain ⟨R, hR⟩ : ∃ R, R = possB r := ⟨_, rfl⟩
 rw [← hR]
 have hF := possB_f (r := r)
 have hT := (poss_iff r).2
 rw [← hR] at hF hT
 replace hF := Lib.hid hF
 replace hT := Lib.hid hT
 clear hR
 unfold ruleAgg
 obtain ⟨nm, wn, bps, fx, mn, mx⟩ := r
 simp only at hF hT ⊢
 have k1 := Lib.hid (fun w => amount_any fx w)
 have k2 := Lib.hid (fun w => amount_any mn w)
 have k3 := Lib.hid (fun w => amount_any mx w)
 have i1 := amt_iff fx
 have i2 := amt_iff mn
 have i3 := amt_iff mx
 generalize amtB fx = b1 at *
 generalize amtB mn = b2 at *
 generalize amtB mx = b3 at *
 by_cases c0 : 0 ≤ bps
 · have d0 : decide (0 ≤ bps) = true := by simp [c0]
   by_cases c1 : bps ≤ 10000
   · have d1 : decide (bps ≤ 10000) = true := by simp [c1]
     skip
     replace i1 := Lib.hid i1
     replace i2 := Lib.hid i2
     replace i3 := Lib.hid i3
     go_enter Tryz.func75, Tryz.ntmps75
     go_wp2_with fail
     refine (k1.out _).mono ?_
     rintro e w1 ⟨rfl, hE1⟩
     have hb := Lib.hid ((Blk.new w #[.string nm, .int .i64 wn.op, .string wn.name, .string wn.text, .int .i64 wn.n, .slice q len cp, .int .i64 bps, .int .i64 fx, .int .i64 mn, .int .i64 mx] 56).ext hE1)
     have hE : Ext w w1 := Ext.trans xt hE1
     clear hE1 k1
     have x6 := hb.out.cell 6
     have x7 := hb.out.cell 7
     have x8 := hb.out.cell 8
     have x9 := hb.out.cell 9
     simp at x6 x7 x8 x9
     cases b1 with
     | false =>
      have j := i1.out
      have hn : ¬ (0 ≤ fx ∧ fx ≤ 999999999999) := fun h => by have := j.2 h; cases this
      obtain rfl : R = false := hF.out (by first | omega | (have a1 := i1.out.1 (by first | trivial | rfl); omega) | (have a1 := i1.out.1 (by first | trivial | rfl); have a2 := i2.out.1 (by first | trivial | rfl); omega))
      clear hF hT j hn
      go_wp2
      go_ret
      exact ⟨rfl, xt⟩
     | true =>
      skip
      go_wp2_with fail
      refine (k2.out _).mono ?_
      rintro e w2 ⟨rfl, hE2⟩
      clear x6 x7 x8 x9
      replace hb := Lib.hid (hb.out.ext hE2)
      replace hE := hE.trans hE2
      clear hE2 k2
      have x6 := hb.out.cell 6
      have x7 := hb.out.cell 7
      have x8 := hb.out.cell 8
      have x9 := hb.out.cell 9
      simp at x6 x7 x8 x9
      cases b2 with
      | false =>
       have j := i2.out
       have hn : ¬ (0 ≤ mn ∧ mn ≤ 999999999999) := fun h => by have := j.2 h; cases this
       obtain rfl : R = false := hF.out (by first | omega | (have a1 := i1.out.1 (by first | trivial | rfl); omega) | (have a1 := i1.out.1 (by first | trivial | rfl); have a2 := i2.out.1 (by first | trivial | rfl); omega))
       clear hF hT j hn
       go_wp2
       go_ret
       exact ⟨rfl, xt⟩
      | true =>
       skip
       go_wp2_with fail
       refine (k3.out _).mono ?_
       rintro e w3 ⟨rfl, hE3⟩
       clear x6 x7 x8 x9
       replace hb := Lib.hid (hb.out.ext hE3)
       replace hE := hE.trans hE3
       clear hE3 k3
       have x6 := hb.out.cell 6
       have x7 := hb.out.cell 7
       have x8 := hb.out.cell 8
       have x9 := hb.out.cell 9
       simp at x6 x7 x8 x9
       cases b3 with
       | false =>
        have j := i3.out
        have hn : ¬ (0 ≤ mx ∧ mx ≤ 999999999999) := fun h => by have := j.2 h; cases this
        obtain rfl : R = false := hF.out (by first | omega | (have a1 := i1.out.1 (by first | trivial | rfl); omega) | (have a1 := i1.out.1 (by first | trivial | rfl); have a2 := i2.out.1 (by first | trivial | rfl); omega))
        clear hF hT j hn
        go_wp2
        go_ret
        exact ⟨rfl, xt⟩
       | true =>
        have a1 := i1.out.1 (by first | trivial | rfl)
        have a2 := i2.out.1 (by first | trivial | rfl)
        have a3 := i3.out.1 (by first | trivial | rfl)
        by_cases c6 : mx = 0
        · have d6 : (mx == 0) = true := by simp [c6]
          obtain rfl : R = true := hT.out (by omega)
          clear hF hT c6
          go_wp2
          go_ret
          exact ⟨rfl, xt⟩
        · have d6 : (mx == 0) = false := by simp [c6]
          by_cases c7 : mn ≤ mx
          · have d7 : decide (mn ≤ mx) = true := by simp [c7]
            obtain rfl : R = true := hT.out (by omega)
            clear hF hT
            go_wp2
            go_ret
            exact ⟨rfl, xt⟩
          · have d7 : decide (mn ≤ mx) = false := by simp; omega
            obtain rfl : R = false := hF.out (by omega)
            clear hF hT
            go_wp2
            go_ret
            exact ⟨rfl, xt⟩
   · have d1 : decide (bps ≤ 10000) = false := by simp; omega
     obtain rfl : R = false := hF.out (by omega)
     clear hF hT i1 i2 i3
     go_enter Tryz.func75, Tryz.ntmps75
     go_wp2
     go_ret
     exact ⟨rfl, xt⟩
 · have d0 : decide (0 ≤ bps) = false := by simp; omega
   obtain rfl : R = false := hF.out (by omega)
   clear hF hT i1 i2 i3
   go_enter Tryz.func75, Tryz.ntmps75
   go_wp2
   go_ret
   exact ⟨rfl, xt⟩
set_option maxRecDepth 8000 in
set_option maxHeartbeats 4000000 in
theorem rfee_any (r : RuleD) (q : Option Addr) (len cp : Nat) (n : Int) (w : World) : Calls Tryz.prog 67 #[ruleAgg r (.slice q len cp), .int .i64 n] w (FeePost (feeV r n) w) := by
 obtain ⟨R, hR⟩ : ∃ R, R = feeV r n := ⟨_, rfl⟩
 rw [← hR]
 unfold FeePost
 have hF := feeV_f (r := r) (n := n)
 rw [← hR] at hF
 replace hF := Lib.hid hF
 have ka := Lib.hid (fun w => amount_any n w)
 have ia := amt_iff n
 cases ha : amtB n with
 | false =>
  rw [ha] at ka ia
  obtain rfl := hF.out (by
   by_cases h0 : n < 0
   · exact Or.inl h0
   · refine Or.inr (Or.inl ?_)
     by_cases h1 : 999999999999 < n
     · exact h1
     · have := ia.2 (by omega); cases this)
  clear hF hR ia ha
  unfold ruleAgg
  go_enter Tryz.func67, Tryz.ntmps67
  go_wp2_with fail
  refine (ka.out _).mono ?_
  rintro e w1 ⟨rfl, hE1⟩
  have hE : Ext w w1 := Ext.trans xt hE1
  clear hE1 ka
  go_wp2
  exact bodyPost_ret (v := .tuple #[.int .i64 0, .int .i64 4]) (by simp [results, Tryz.results67, go_sem]) rfl ⟨rfl, xt⟩
 | true =>
  rw [ha] at ka
  obtain ⟨n0, n1⟩ := ia.1 ha
  clear ia ha
  have kp := Lib.hid (fun w => rpossible_any r q len cp w)
  cases hp : possB r with
  | false =>
   rw [hp] at kp
   obtain rfl := hF.out (by simp [hp])
   clear hF hR hp n0 n1
   unfold ruleAgg at kp ⊢
   go_enter Tryz.func67, Tryz.ntmps67
   go_wp2_with fail
   refine (ka.out _).mono ?_
   rintro e w1 ⟨rfl, hE1⟩
   have hb := Blk.ext (Blk.new w #[.string r.name, .int .i64 r.when.op, .string r.when.name, .string r.when.text, .int .i64 r.when.n, .slice q len cp, .int .i64 r.bps, .int .i64 r.fixed, .int .i64 r.mn, .int .i64 r.mx] 56) hE1
   have hE : Ext w w1 := Ext.trans xt hE1
   clear hE1 ka
   have x0 := hb.cell 0
   have x1 := hb.cell 1
   have x2 := hb.cell 2
   have x3 := hb.cell 3
   have x4 := hb.cell 4
   have x5 := hb.cell 5
   have x6 := hb.cell 6
   have x7 := hb.cell 7
   have x8 := hb.cell 8
   have x9 := hb.cell 9
   simp at x0 x1 x2 x3 x4 x5 x6 x7 x8 x9
   go_wp2_with fail
   refine (kp.out _).mono ?_
   rintro e w2 ⟨rfl, hE2⟩
   replace hE := hE.trans hE2
   clear hE2 kp hb x0 x1 x2 x3 x4 x5 x6 x7 x8 x9
   go_wp2
   exact bodyPost_ret (v := .tuple #[.int .i64 0, .int .i64 4]) (by simp [results, Tryz.results67, go_sem]) rfl ⟨rfl, xt⟩
  | true =>
   rw [hp] at kp
   rw [feeV_t n0 n1 hp] at hR
   obtain ⟨p1, p2, p3, p4, p5, p6, p7⟩ := (poss_iff r).1 hp
   have hm1 : 0 ≤ n * r.bps := Int.mul_nonneg n0 p1
   have hm2 : n * r.bps ≤ 999999999999 * 10000 := Int.mul_le_mul n1 p2 p1 (by omega)
   have e1 : wrap64 (n * r.bps) = n * r.bps := wrap64_id _ (by omega) (by omega)
   have e2 : wrap64 (n * r.bps + 5000) = n * r.bps + 5000 := wrap64_id _ (by omega) (by omega)
   have e3 : (n * r.bps + 5000).tdiv 10000 = (n * r.bps + 5000) / 10000 := quo_nn (by omega)
   have e4 : wrap64 ((n * r.bps + 5000) / 10000) = (n * r.bps + 5000) / 10000 := wrap64_id _ (by omega) (by omega)
   have e5 : wrap64 ((n * r.bps + 5000) / 10000 + r.fixed) = (n * r.bps + 5000) / 10000 + r.fixed := wrap64_id _ (by omega) (by omega)
   unfold feeLow at hR
   generalize hQ : (n * r.bps + 5000) / 10000 = Q at *
   generalize hM : n * r.bps = M at *
   unfold ruleAgg at kp ⊢
   clear hF hp
   go_enter Tryz.func67, Tryz.ntmps67
   go_wp2_with fail
   refine (ka.out _).mono ?_
   rintro e w1 ⟨rfl, hE1⟩
   have hb := Blk.ext (Blk.new w #[.string r.name, .int .i64 r.when.op, .string r.when.name, .string r.when.text, .int .i64 r.when.n, .slice q len cp, .int .i64 r.bps, .int .i64 r.fixed, .int .i64 r.mn, .int .i64 r.mx] 56) hE1
   have hE : Ext w w1 := Ext.trans xt hE1
   clear hE1 ka
   have x0 := hb.cell 0
   have x1 := hb.cell 1
   have x2 := hb.cell 2
   have x3 := hb.cell 3
   have x4 := hb.cell 4
   have x5 := hb.cell 5
   have x6 := hb.cell 6
   have x7 := hb.cell 7
   have x8 := hb.cell 8
   have x9 := hb.cell 9
   simp at x0 x1 x2 x3 x4 x5 x6 x7 x8 x9
   go_wp2_with fail
   refine (kp.out _).mono ?_
   rintro e w2 ⟨rfl, hE2⟩
   clear x0 x1 x2 x3 x4 x5 x6 x7 x8 x9
   replace hb := hb.ext hE2
   replace hE := hE.trans hE2
   have x0 := hb.cell 0
   have x1 := hb.cell 1
   have x2 := hb.cell 2
   have x3 := hb.cell 3
   have x4 := hb.cell 4
   have x5 := hb.cell 5
   have x6 := hb.cell 6
   have x7 := hb.cell 7
   have x8 := hb.cell 8
   have x9 := hb.cell 9
   simp at x0 x1 x2 x3 x4 x5 x6 x7 x8 x9
   clear hE2 kp hb
   by_cases hx : r.mx = 0
   · rw [if_pos hx] at hR
     have dx : decide (0 < r.mx) = false := by simp [hx]
     subst hR
     go_wp2
     exact bodyPost_ret (v := .tuple #[.int .i64 (max (Q + r.fixed) r.mn), .int .i64 0]) (by simp [results, Tryz.results67, go_sem]) rfl ⟨rfl, xt⟩
   · rw [if_neg hx] at hR
     have dx : decide (0 < r.mx) = true := by simp; omega
     subst hR
     go_wp2
     exact bodyPost_ret (v := .tuple #[.int .i64 (min (max (Q + r.fixed) r.mn) r.mx), .int .i64 0]) (by simp [results, Tryz.results67, go_sem]) rfl ⟨rfl, xt⟩
end Go.Proofs.YtmnhmkjmcckneaaGreatDoor
namespace Go.Proofs.YtmnhmkjmcckneaaGreatDoor
open Go.RowKit
theorem holds_iff (fs : List Feat) (r : RuleD) : holdsB fs r = true ↔ (evalV r.when fs nilS).2 = 0 ∧ (evalV r.when fs nilS).1.kind = 3 ∧ (evalV r.when fs nilS).1.n = 1 := by
 unfold holdsB
 simp only [Bool.and_eq_true, decide_eq_true_eq, and_assoc]
 exact Iff.rfl
/-- What is known of a table and features, for the reference's evaluation. -/
structure EvIn (l : List RuleD) (fs : List Feat) (fc : Nat) : Prop where
 ru : ∀ i, i < l.length → StrOk [(l.getD i rD).when] ∧ (l.getD i rD).when.parts.length ≤ 999999
 cap : fs.length ≤ fc
 nm : ∀ i, i < fs.length → (fs.getD i fD).name.size ≤ 140737488355328
set_option maxRecDepth 8000 in
set_option maxHeartbeats 2000000 in
theorem rholds_any (r : RuleD) (q : Option Addr) (cp : Nat) (fp : Option Addr) (fc : Nat) (fs : List Feat) (w : World) (hX : ExS w (.slice q r.when.args.length cp) r.when.args) (h1 : StrOk [r.when]) (h2 : r.when.parts.length ≤ 999999) (hF : Feats w (.slice fp fs.length fc) fs) (hcap : fs.length ≤ fc) (hs : ∀ i, i < fs.length → (fs.getD i fD).name.size ≤ 140737488355328) : Calls Tryz.prog 95 #[exAgg r.when (.slice q r.when.args.length cp), .slice fp fs.length fc, .slice none 0 0] w (OneV (.bool (holdsB fs r)) w) := by
 have kE := Lib.hid (fun w1 (h : Ext w w1) => rEval_any r.when (hX.ext h) h1 (by omega) fp fc fs (hF.ext h) hcap hs)
 have hiff := holds_iff fs r
 unfold EvalPost at kE
 generalize holdsB fs r = B at *
 generalize evalV r.when fs nilS = V at *
 obtain ⟨f, c⟩ := V
 simp only at kE hiff
 unfold exAgg at kE ⊢
 clear hX hF h1 h2 hs
 go_enter Tryz.func95, Tryz.ntmps95
 go_wp2_with fail
 refine (kE.out _ ((Ext.refl _).alloc _)).mono ?_
 rintro e w1 ⟨rfl, hE1⟩
 have hE : Ext w w1 := Ext.trans ((Ext.refl _).alloc _) hE1
 clear hE1 kE
 by_cases q1 : c = 0
 · subst q1
   by_cases q2 : f.kind = 3
   · by_cases q3 : f.n = 1
     · have hB : B = true := hiff.2 ⟨rfl, q2, q3⟩
       subst hB
       have d2 : (f.kind == 3) = true := by simpa using q2
       have d3 : (f.n == 1) = true := by simpa using q3
       clear q2 q3 hiff
       go_wp2
       go_ret
       exact ⟨rfl, xt⟩
     · have hB : B = false := by cases B with | false => rfl | true => exact absurd (hiff.1 rfl).2.2 q3
       subst hB
       have d2 : (f.kind == 3) = true := by simpa using q2
       have d3 : (f.n == 1) = false := by simpa using q3
       clear q2 q3 hiff
       go_wp2
       go_ret
       exact ⟨rfl, xt⟩
   · have hB : B = false := by cases B with | false => rfl | true => exact absurd (hiff.1 rfl).2.1 q2
     subst hB
     have d2 : (f.kind == 3) = false := by simpa using q2
     clear q2 hiff
     go_wp2
     go_ret
     exact ⟨rfl, xt⟩
 · have hB : B = false := by cases B with | false => rfl | true => exact absurd (hiff.1 rfl).1 q1
   subst hB
   have d1 : (c == 0) = false := by simpa using q1
   clear q1 hiff
   go_wp2
   go_ret
   exact ⟨rfl, xt⟩
theorem pairP {R : Int × Int} {a b : Int} {w w' : World} (h : R = (a, b)) (hE : Ext w w') : PairP R w (.returned (.tuple #[.int .i64 a, .int .i64 b])) w' := by subst h; exact ⟨rfl, hE⟩
set_option maxRecDepth 8000 in
set_option maxHeartbeats 2000000 in
theorem rpick_any (lv : Value) (fp : Option Addr) (fc : Nat) (l : List RuleD) (fs : List Feat) (w : World) (hR : RulesM w lv l) (hI : EvIn l fs fc) (hF : Feats w (.slice fp fs.length fc) fs) (hl : l.length ≤ 1000000) : Calls Tryz.prog 66 #[lv, .slice fp fs.length fc] w (PairP (pickV l fs) w) := by
 obtain ⟨lp, lc, rfl⟩ := hR.form
 obtain ⟨R, hRR⟩ : ∃ R, R = pickV l fs := ⟨_, rfl⟩
 rw [← hRR]
 have hs : R = match idxF (holdsB fs) 0 l with | some i => ((i : Int), 0) | none => (0, 6) := hRR
 clear hRR
 replace hR := Lib.hid hR
 replace hF := Lib.hid hF
 go_enter Tryz.func66, Tryz.ntmps66
 go_wp2_with fail
 go_loopw [6] (fun i wr => ∃ k : Nat, k ≤ l.length ∧ i = .int .i64 k ∧ idxF (holdsB fs) 0 l = idxF (holdsB fs) k (l.drop k) ∧ Ext w wr) (fun i _ => l.length - (intOf i).toNat)
 case atStart => exact ⟨0, Nat.zero_le _, rfl, rfl, Ext.refl _⟩
 case round =>
  obtain ⟨k, hk, rfl, hidx, hE⟩ := hrel
  by_cases hlt : k < l.length
  · rw [idx_step (holdsB fs) l k hlt] at hidx
    obtain ⟨b, off, rfl, sv, hkid⟩ := hR.out.at (by omega)
    obtain ⟨hc, hsu⟩ := hkid k hlt
    obtain ⟨-, h1, h2, h3, h4, h5, -, -, -, -⟩ := hc.ext hE
    replace hsu := hsu.ext hE
    obtain ⟨uq, uc, huv⟩ := hsu.form
    obtain ⟨i1, i2⟩ := hI.ru k hlt
    clear hc hkid
    generalize l.getD k rD = r at *
    rw [huv] at h5 hsu
    clear huv
    have kH := Lib.hid (rholds_any r uq uc fp fc fs wr hsu i1 i2 (hF.out.ext hE) hI.cap hI.nm)
    unfold exAgg at kH
    have hbl : b < wr.heap.size := cell_lt h1
    clear hsu i1 i2
    cases hb : holdsB fs r with
    | true =>
     rw [hb] at kH
     have hR2 := Lib.hid (show R = ((k : Int), 0) by rw [hs, hidx, if_pos hb])
     clear hidx hb hs
     go_wp2_with fail
     refine kH.out.mono ?_
     rintro e w1 ⟨rfl, hE1⟩
     replace hE := hE.trans hE1
     clear hE1 kH h1 h2 h3 h4 h5 hbl
     go_wp2
     go_ret2
     exact pairP hR2.out hE
    | false =>
     rw [hb] at kH
     have hn := Lib.hid (show idxF (holdsB fs) 0 l = idxF (holdsB fs) (k + 1) (l.drop (k + 1)) by rw [hidx, if_neg (by rw [hb]; simp)])
     clear hidx hb
     go_wp2_with fail
     refine kH.out.mono ?_
     rintro e w1 ⟨rfl, hE1⟩
     replace hE := hE.trans hE1
     clear hE1 kH h1 h2 h3 h4 h5 hbl
     go_wp2
     go_roundw
     case rel => exact ⟨k + 1, by omega, by go_num, hn.out, hE⟩
     case measure => simp [intOf]; omega
  · have hk2 : k = l.length := by omega
    have hd : l.drop k = [] := by rw [hk2]; exact List.drop_length
    rw [hd] at hidx
    have hR2 := Lib.hid (show R = (0, 6) by rw [hs, hidx]; rfl)
    clear hd hk2 hidx hs
    go_wp2
    go_ret2
    exact pairP hR2.out hE
set_option maxRecDepth 8000 in
set_option maxHeartbeats 4000000 in
theorem rapply_any (lv : Value) (fp : Option Addr) (fc : Nat) (l : List RuleD) (fs : List Feat) (n : Int) (w : World) (g : Gw w) (hR : RulesM w lv l) (hF : Feats w (.slice fp fs.length fc) fs) (hok : TabOk l fs) (hI : EvIn l fs fc) (hl : l.length ≤ 1000000) : Calls Tryz.prog 31 #[lv, .slice fp fs.length fc, .int .i64 n] w (LineP (applyV l fs n) w) := by
 have kP := Lib.hid (fun w1 (h : Ext w w1) => rpick_any lv fp fc l fs w1 (hR.ext h) hI (hF.ext h) hl)
 obtain ⟨lp, lc, rfl⟩ := hR.form
 unfold pickV at kP
 have hidx := idx_some (holdsB fs) l 0
 obtain ⟨R, hRR⟩ : ∃ R, R = applyV l fs n := ⟨_, rfl⟩
 rw [← hRR]
 unfold applyV at hRR
 generalize idxF (holdsB fs) 0 l = I at *
 replace hRR := Lib.hid hRR
 replace hidx := Lib.hid hidx
 replace hR := Lib.hid hR
 replace hF := Lib.hid hF
 replace g := Lib.hid g
 go_enter Tryz.func31, Tryz.ntmps31
 go_wp2_with fail
 refine (kP.out _ xt).mono ?_
 rintro e w1 ⟨rfl, hE1⟩
 have hb := Blk.ext (Blk.new w #[.string ⟨#[]⟩, .int .i64 0, .string ⟨#[]⟩] 33) hE1
 have hE : Ext w w1 := Ext.trans xt hE1
 clear hE1 kP
 replace hb := Lib.hid hb
 cases I with
 | none =>
  replace hRR : Hid (R = (lineD, 6)) := Lib.hid hRR.out
  have x0 := hb.out.cell 0
  have x1 := hb.out.cell 1
  have x2 := hb.out.cell 2
  have f0 := hb.out.fz 0
  have f1 := hb.out.fz 1
  have f2 := hb.out.fz 2
  simp at x0 x1 x2
  go_wp2
  exact bodyPost_ret (v := .tuple #[.agg #[.string ⟨#[]⟩, .int .i64 0, .string ⟨#[]⟩], .int .i64 6]) (by first | (simp [results, Tryz.results31, go_sem, x0, x1, x2]; done) | simp [results, Tryz.results31, go_sem]) rfl (lineP (a := ⟨#[]⟩) (b := 0) (c := ⟨#[]⟩) hRR.out xt)
 | some i =>
  have hRR2 := hRR.out
  clear hRR
  simp only at hRR2
  obtain ⟨-, hi, -, -⟩ := hidx.out i rfl
  have hil : i < l.length := by omega
  obtain ⟨b, off, rfl, sv, hkid⟩ := hR.out.at (by omega)
  obtain ⟨hc, hsu⟩ := hkid i hil
  have bw : b < w.heap.size := cell_lt hc.1
  replace hsu := hsu.ext hE
  obtain ⟨h0, h1, h2, h3, h4, h5, h6, h7, h8, h9⟩ := hc.ext hE
  have hpl := (hI.ru i hil).2
  have hwo := hok.why i hil
  obtain ⟨uq, uc, huv⟩ := hsu.form
  clear hc hkid hidx
  generalize l.getD i rD = r at *
  rw [huv] at hsu h5
  clear huv
  have kF := Lib.hid (fun w2 => rfee_any r uq r.when.args.length uc n w2)
  unfold FeePost at kF
  replace hsu := Lib.hid hsu
  generalize hfv : feeV r n = V at *
  obtain ⟨fee, fe⟩ := V
  simp only at kF hRR2
  replace hRR2 := Lib.hid hRR2
  unfold ruleAgg at kF
  have bl : b < w1.heap.size := cell_lt h0
  go_wp2_with fail
  refine (kF.out _).mono ?_
  rintro e w2 ⟨rfl, hE2⟩
  replace hsu := Lib.hid (hsu.out.ext hE2)
  replace hb := Lib.hid (hb.out.ext hE2)
  replace hE := hE.trans hE2
  replace h0 := hE2.get h0
  replace h1 := hE2.get h1
  replace h2 := hE2.get h2
  replace h3 := hE2.get h3
  replace h4 := hE2.get h4
  replace h5 := hE2.get h5
  clear hE2 kF h6 h7 h8 h9 bl
  have x0 := hb.out.cell 0
  have x1 := hb.out.cell 1
  have x2 := hb.out.cell 2
  have f0 := hb.out.fz 0
  have f1 := hb.out.fz 1
  have f2 := hb.out.fz 2
  simp at x0 x1 x2
  by_cases hfe : fe ≠ 0
  · have d : (fe != 0) = true := by simpa using hfe
    have hRR := Lib.hid (hRR2.out.trans (if_pos hfe))
    clear hRR2
    go_wp2
    exact bodyPost_ret (v := .tuple #[.agg #[.string ⟨#[]⟩, .int .i64 0, .string ⟨#[]⟩], .int .i64 fe]) (by first | (simp [results, Tryz.results31, go_sem, x0, x1, x2]; done) | simp [results, Tryz.results31, go_sem]) rfl (lineP (a := ⟨#[]⟩) (b := 0) (c := ⟨#[]⟩) hRR.out xt)
  · obtain rfl : fe = 0 := by omega
    have hRR := Lib.hid (hRR2.out.trans (if_neg hfe))
    clear hRR2
    have kW := Lib.hid (fun w3 g3 h3 h4 => rwhy_any r.when uq uc (.slice fp fs.length fc) fs w3 g3 h3 h4 hpl hwo)
    generalize whyV fs (uniL r.when.occ) = ws at *
    unfold exAgg at kW
    go_wp2_with fail
    have g2 := Lib.hid (g.out.ext hE)
    have hF2 := Lib.hid (hF.out.ext hE)
    have hE0 := hE
    have xs : w.heap.size < w2.heap.size := cell_lt x0
    clear hE
    go_region_held3 (fun w' => w'.cell? ⟨b, off + i * 10, none⟩ = some (.string r.name) ∧ w'.cell? ⟨b, off + i * 10 + 1, none⟩ = some (.int .i64 r.when.op) ∧ w'.cell? ⟨b, off + i * 10 + 1 + 1, none⟩ = some (.string r.when.name) ∧ w'.cell? ⟨b, off + i * 10 + 1 + 1 + 1, none⟩ = some (.string r.when.text) ∧ w'.cell? ⟨b, off + i * 10 + 1 + 1 + 1 + 1, none⟩ = some (.int .i64 r.when.n) ∧ w'.cell? ⟨b, off + i * 10 + 1 + 1 + 1 + 1 + 1, none⟩ = some (.slice uq r.when.args.length uc)) (first | exact ⟨h0, h1, h2, h3, h4, h5⟩ | exact ⟨(World.cell?_setCell_far _ _ _ _ (by first | (simp; done) | (simp; omega))).trans ((World.cell?_setCell_far _ _ _ _ (by first | (simp; done) | (simp; omega))).trans ((World.cell?_setCell_far _ _ _ _ (by first | (simp; done) | (simp; omega))).trans h0)), (World.cell?_setCell_far _ _ _ _ (by first | (simp; done) | (simp; omega))).trans ((World.cell?_setCell_far _ _ _ _ (by first | (simp; done) | (simp; omega))).trans ((World.cell?_setCell_far _ _ _ _ (by first | (simp; done) | (simp; omega))).trans h1)), (World.cell?_setCell_far _ _ _ _ (by first | (simp; done) | (simp; omega))).trans ((World.cell?_setCell_far _ _ _ _ (by first | (simp; done) | (simp; omega))).trans ((World.cell?_setCell_far _ _ _ _ (by first | (simp; done) | (simp; omega))).trans h2)), (World.cell?_setCell_far _ _ _ _ (by first | (simp; done) | (simp; omega))).trans ((World.cell?_setCell_far _ _ _ _ (by first | (simp; done) | (simp; omega))).trans ((World.cell?_setCell_far _ _ _ _ (by first | (simp; done) | (simp; omega))).trans h3)), (World.cell?_setCell_far _ _ _ _ (by first | (simp; done) | (simp; omega))).trans ((World.cell?_setCell_far _ _ _ _ (by first | (simp; done) | (simp; omega))).trans ((World.cell?_setCell_far _ _ _ _ (by first | (simp; done) | (simp; omega))).trans h4)), (World.cell?_setCell_far _ _ _ _ (by first | (simp; done) | (simp; omega))).trans ((World.cell?_setCell_far _ _ _ _ (by first | (simp; done) | (simp; omega))).trans ((World.cell?_setCell_far _ _ _ _ (by first | (simp; done) | (simp; omega))).trans h5))⟩) ((go_at_call 68; ((refine (kW.out _ (by first | exact g2.out | exact g2.out.ext (Ext.refl _).drew) (by first | exact hF2.out | exact hF2.out.ext (Ext.refl _).drew) (by first | exact hsu.out | exact hsu.out.ext (Ext.refl _).drew)).mono ?_); rintro e w6 ⟨rfl, hE6⟩; have hS := ext_at hE0 (by first | exact hE6 | exact Ext.undrew hE6); have hE0 := hE0.trans hS; have h0 := hS.get h0; have h1 := hS.get h1; have h2 := hS.get h2; have h3 := hS.get h3; have h4 := hS.get h4; have h5 := hS.get h5; have f0 := hS.fz xs f0; have f1 := hS.fz xs f1; have f2 := hS.fz xs f2; have x0 := hS.get x0; have x1 := hS.get x1; have x2 := hS.get x2; have xs := cell_lt x0; clear hE6 hS)))
    all_goals go_wp2
    all_goals exact bodyPost_ret (v := .tuple #[.agg #[.string r.name, .int .i64 fee, .string ws], .int .i64 0]) (by first | (simp [results, Tryz.results31, go_sem, x0, x1, x2]; done) | simp [results, Tryz.results31, go_sem]) rfl (lineP hRR.out xt)
end Go.Proofs.YtmnhmkjmcckneaaGreatDoor
