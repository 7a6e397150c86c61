/- Fee rules as data, and how they lie in memory; what Fee, Pick, Total compute, in plain words. Contracts of feerule's possible and Fee (walks; printed by gen/ff.py). Contracts of slices.IndexFunc and ContainsFunc as feerule calls them (walks; printed by gen/fi.py). Contracts of feerule's holds and Pick (walks). Contracts of feerule's equation, always, never, Total (walks). -/
import Derived.Test.YtmnhmkjmcckneaaGreatDoorEa
import Derived.Test.YtmnhmkjmcckneaaGreatDoorEb
import Derived.Test.YtmnhmkjmcckneaaGreatDoorEd
import Derived.Test.YtmnhmkjmcckneaaGreatDoorEg
import Derived.Test.YtmnhmkjmcckneaaGreatDoorEe
import Derived.Test.YtmnhmkjmcckneaaGreatDoorEi
namespace Go.Proofs.YtmnhmkjmcckneaaGreatDoor
open Go.RowKit
structure RuleD where
 name : ByteArray
 when : Ex
 bps : Int
 fixed : Int
 mn : Int
 mx : Int
def rD : RuleD := ⟨⟨#[]⟩, exD, 0, 0, 0, 0⟩
def ruleAgg (r : RuleD) (u : Value) : Value := .agg #[.string r.name, .int .i64 r.when.op, .string r.when.name, .string r.when.text, .int .i64 r.when.n, u, .int .i64 r.bps, .int .i64 r.fixed, .int .i64 r.mn, .int .i64 r.mx]
def RuleCells (w : World) (b o : Nat) (r : RuleD) (u : Value) : Prop :=
 w.cell? ⟨b, o, none⟩ = some (.string r.name) ∧ w.cell? ⟨b, o + 1, none⟩ = some (.int .i64 r.when.op) ∧ w.cell? ⟨b, o + 1 + 1, none⟩ = some (.string r.when.name) ∧ w.cell? ⟨b, o + 1 + 1 + 1, none⟩ = some (.string r.when.text) ∧ w.cell? ⟨b, o + 1 + 1 + 1 + 1, none⟩ = some (.int .i64 r.when.n) ∧ w.cell? ⟨b, o + 1 + 1 + 1 + 1 + 1, none⟩ = some u ∧ w.cell? ⟨b, o + 1 + 1 + 1 + 1 + 1 + 1, none⟩ = some (.int .i64 r.bps) ∧ w.cell? ⟨b, o + 1 + 1 + 1 + 1 + 1 + 1 + 1, none⟩ = some (.int .i64 r.fixed) ∧ w.cell? ⟨b, o + 1 + 1 + 1 + 1 + 1 + 1 + 1 + 1, none⟩ = some (.int .i64 r.mn) ∧ w.cell? ⟨b, o + 1 + 1 + 1 + 1 + 1 + 1 + 1 + 1 + 1, none⟩ = some (.int .i64 r.mx)
theorem RuleCells.ext {w w' : World} {b o : Nat} {r : RuleD} {u : Value} (h : RuleCells w b o r u) (k : Ext w w') : RuleCells w' b o r u := by
 obtain ⟨h0, h1, h2, h3, h4, h5, h6, h7, h8, h9⟩ := h
 exact ⟨k.get h0, k.get h1, k.get h2, k.get h3, k.get h4, k.get h5, k.get h6, k.get h7, k.get h8, k.get h9⟩
/-- The slice v reads as the rules. -/
def RulesM (w : World) (v : Value) (l : List RuleD) : Prop :=
 l.length ≤ 140737488355328 ∧ ((∃ p c, v = .slice p 0 c ∧ l = []) ∨ ∃ b off c, ∃ sv : Nat → Value, v = .slice (some ⟨b, off, none⟩) l.length c ∧ l.length ≤ c ∧ ∀ i, i < l.length → RuleCells w b (off + i * 10) (l.getD i rD) (sv i) ∧ ExS w (sv i) (l.getD i rD).when.args)
theorem RulesM.ext {w w' : World} {v : Value} {l : List RuleD} (h : RulesM w v l) (k : Ext w w') : RulesM w' v l := by
 refine ⟨h.1, ?_⟩
 rcases h.2 with h | ⟨b, off, c, sv, hv, hk, hc⟩
 · exact Or.inl h
 · exact Or.inr ⟨b, off, c, sv, hv, hk, fun i hi => ⟨(hc i hi).1.ext k, (hc i hi).2.ext k⟩⟩
theorem RulesM.form {w : World} {v : Value} {l : List RuleD} (h : RulesM w v l) : ∃ p c, v = .slice p l.length c := by
 rcases h.2 with ⟨p, c, hv, hl⟩ | ⟨b, off, c, sv, hv, -, -⟩
 · exact ⟨p, c, by rw [hv, hl]; rfl⟩
 · exact ⟨_, _, hv⟩
theorem RulesM.cap {w : World} {p : Option Addr} {c : Nat} {l : List RuleD} (h : RulesM w (.slice p l.length c) l) : l.length ≤ c := by
 rcases h.2 with ⟨p', c', hv, hl⟩ | ⟨b, off, c', sv, hv, hk, -⟩
 · rw [hl]; exact Nat.zero_le _
 · injection hv with h1 h2 h3
   omega
theorem RulesM.at {w : World} {p : Option Addr} {c : Nat} {l : List RuleD} (h : RulesM w (.slice p l.length c) l) (h0 : 0 < l.length) : ∃ b off, p = some ⟨b, off, none⟩ ∧ ∃ sv : Nat → Value, ∀ i, i < l.length → RuleCells w b (off + i * 10) (l.getD i rD) (sv i) ∧ ExS w (sv i) (l.getD i rD).when.args := by
 rcases h.2 with ⟨p', c', hv, hl⟩ | ⟨b, off, c', sv, hv, -, hc⟩
 · rw [hl] at h0; cases h0
 · injection hv with h1 h2 h3
   exact ⟨b, off, h1, sv, hc⟩
/-- Whether the numbers of a rule are possible. -/
def possB (r : RuleD) : Bool := decide (0 ≤ r.bps ∧ r.bps ≤ 10000 ∧ 0 ≤ r.fixed ∧ r.fixed ≤ 999999999999 ∧ 0 ≤ r.mn ∧ r.mn ≤ 999999999999 ∧ (r.mx = 0 ∨ (r.mn ≤ r.mx ∧ r.mx ≤ 999999999999)))
/-- The fee before the upper bound. -/
def feeLow (r : RuleD) (n : Int) : Int := max ((n * r.bps + 5000) / 10000 + r.fixed) r.mn
def feeOk (r : RuleD) (n : Int) : Bool := decide (0 ≤ n ∧ n ≤ 999999999999) && possB r
def feeV (r : RuleD) (n : Int) : Int × Int := if feeOk r n then (if r.mx = 0 then feeLow r n else min (feeLow r n) r.mx, 0) else (0, 4)
theorem poss_iff (r : RuleD) : possB r = true ↔ 0 ≤ r.bps ∧ r.bps ≤ 10000 ∧ 0 ≤ r.fixed ∧ r.fixed ≤ 999999999999 ∧ 0 ≤ r.mn ∧ r.mn ≤ 999999999999 ∧ (r.mx = 0 ∨ (r.mn ≤ r.mx ∧ r.mx ≤ 999999999999)) := by
 unfold possB; rw [decide_eq_true_eq]
theorem feeOk_iff (r : RuleD) (n : Int) : feeOk r n = true ↔ (0 ≤ n ∧ n ≤ 999999999999) ∧ possB r = true := by
 unfold feeOk; rw [Bool.and_eq_true, decide_eq_true_eq]
/-- A fee is within its bounds. -/
theorem fee_bounds {r : RuleD} {n : Int} (h : (feeV r n).2 = 0) : r.mn ≤ (feeV r n).1 ∧ (0 < r.mx → (feeV r n).1 ≤ r.mx) ∧ (r.mx = 0 → r.fixed ≤ (feeV r n).1) ∧ (feeOk r n = true) := by
 unfold feeV at h ⊢
 by_cases ho : feeOk r n = true
 · rw [if_pos ho]
   obtain ⟨⟨h1, h2⟩, h3⟩ := (feeOk_iff r n).1 ho
   obtain ⟨p1, p2, p3, p4, p5, p6, p7⟩ := (poss_iff r).1 h3
   have hnn : 0 ≤ (n * r.bps + 5000) / 10000 := by
    have := Int.mul_nonneg h1 p1
    omega
   refine ⟨?_, ?_, ?_, ho⟩
   · by_cases hm : r.mx = 0
     · simp only [hm, if_true, feeLow]; omega
     · simp only [hm, if_false, feeLow]; omega
   · intro hp
     simp only [show ¬ r.mx = 0 by omega, if_false]; omega
   · intro hm
     simp only [hm, if_true, feeLow]; omega
 · rw [if_neg ho] at h; cases h
theorem fee_mono {r : RuleD} {a b : Int} (ha : (feeV r a).2 = 0) (hb : (feeV r b).2 = 0) (h : a ≤ b) : (feeV r a).1 ≤ (feeV r b).1 := by
 obtain ⟨-, -, -, oa⟩ := fee_bounds ha
 obtain ⟨-, -, -, ob⟩ := fee_bounds hb
 unfold feeV
 rw [if_pos oa, if_pos ob]
 obtain ⟨-, h3⟩ := (feeOk_iff r a).1 oa
 obtain ⟨p1, -⟩ := (poss_iff r).1 h3
 have hm : a * r.bps ≤ b * r.bps := Int.mul_le_mul_of_nonneg_right h p1
 have hl : feeLow r a ≤ feeLow r b := by unfold feeLow; omega
 by_cases hx : r.mx = 0
 · simp only [hx, if_true]; exact hl
 · simp only [hx, if_false]; omega
theorem fee_err {r : RuleD} {n : Int} (h : (feeV r n).2 ≠ 0) : (feeV r n).1 = 0 := by
 unfold feeV at h ⊢
 by_cases ho : feeOk r n = true
 · rw [if_pos ho] at h; exact absurd rfl h
 · rw [if_neg ho]
/-- Whether a rule holds. -/
def holdsB (fs : List Feat) (r : RuleD) : Bool := decide ((evalV r.when fs fun _ _ _ => 0).2 = 0) && decide ((evalV r.when fs fun _ _ _ => 0).1.kind = 3) && decide ((evalV r.when fs fun _ _ _ => 0).1.n = 1)
/-- The index of the first rule for which p holds, from k on. -/
def idxF (p : RuleD → Bool) : Nat → List RuleD → Option Nat
 | _, [] => none
 | k, r :: l => if p r then some k else idxF p (k + 1) l
theorem idx_step (p : RuleD → Bool) (l : List RuleD) (k : Nat) (h : k < l.length) : idxF p k (l.drop k) = if p (l.getD k rD) then some k else idxF p (k + 1) (l.drop (k + 1)) := by
 rw [List.drop_eq_getElem_cons h, idxF]
 simp [List.getD_eq_getElem?_getD, h]
theorem idx_some (p : RuleD → Bool) : ∀ (l : List RuleD) (k i : Nat), idxF p k l = some i → k ≤ i ∧ i < k + l.length ∧ p (l.getD (i - k) rD) = true ∧ ∀ j, j < i - k → p (l.getD j rD) = false
 | [], k, i, h => by cases h
 | r :: l, k, i, h => by
  rw [idxF] at h
  by_cases hp : p r = true
  · rw [if_pos hp] at h
    injection h with h; subst h
    refine ⟨Nat.le_refl _, by simp, by simpa using hp, fun j hj => absurd hj (by omega)⟩
  · rw [if_neg hp] at h
    obtain ⟨h1, h2, h3, h4⟩ := idx_some p l (k + 1) i h
    have e : i - k = (i - (k + 1)) + 1 := by omega
    refine ⟨by omega, by simp only [List.length_cons]; omega, by rw [e]; simpa using h3, fun j hj => ?_⟩
    cases j with
    | zero => simpa using hp
    | succ j => have := h4 j (by omega); simpa using this
theorem idx_none (p : RuleD → Bool) : ∀ (l : List RuleD) (k : Nat), idxF p k l = none → ∀ j, j < l.length → p (l.getD j rD) = false
 | [], k, _, j, hj => by simp at hj
 | r :: l, k, h, j, hj => by
  rw [idxF] at h
  by_cases hp : p r = true
  · rw [if_pos hp] at h; cases h
  · rw [if_neg hp] at h
    cases j with
    | zero => simpa using hp
    | succ j => have := idx_none p l (k + 1) h j (by simpa using hj); simpa using this
end Go.Proofs.YtmnhmkjmcckneaaGreatDoor
namespace Go.Proofs.YtmnhmkjmcckneaaGreatDoor
open Go.RowKit
theorem possB_f {r : RuleD} (h : r.bps < 0 ∨ 10000 < r.bps ∨ r.fixed < 0 ∨ 999999999999 < r.fixed ∨ r.mn < 0 ∨ 999999999999 < r.mn ∨ (r.mx ≠ 0 ∧ (r.mx < r.mn ∨ 999999999999 < r.mx))) : possB r = false := by
 cases hp : possB r
 · rfl
 · have := (poss_iff r).1 hp; omega
set_option maxHeartbeats 2000000 in
theorem possible_any (r : RuleD) (q : Option Addr) (len cp : Nat) (w : World) : Calls Tryz.prog 72 #[ruleAgg r (.slice q len cp)] w (OneV (.bool (possB r)) w) := by
 obtain ⟨R, hR⟩ : ∃ R, R = possB r := ⟨_, rfl⟩
 rw [← hR]
 have hF := possB_f (r := r)
 have hT := (poss_iff r).2
 rw [← hR] at hF hT
 replace hF := Lib.hid hF
 replace hT := Lib.hid hT
 clear hR
 unfold ruleAgg
 obtain ⟨nm, wn, bps, fx, mn, mx⟩ := r
 simp only at hF hT ⊢
 by_cases c0 : bps < 0
 · have d0 : decide (bps < 0) = true := by simp [c0]
   obtain rfl : R = false := hF.out (by omega)
   clear hF hT
   go_enter Tryz.func72, Tryz.ntmps72
   go_wp2
   go_ret
   exact ⟨rfl, xt⟩
 · have d0 : decide (bps < 0) = false := by simp; omega
   by_cases c1 : 10000 < bps
   · have d1 : decide (10000 < bps) = true := by simp [c1]
     obtain rfl : R = false := hF.out (by omega)
     clear hF hT
     go_enter Tryz.func72, Tryz.ntmps72
     go_wp2
     go_ret
     exact ⟨rfl, xt⟩
   · have d1 : decide (10000 < bps) = false := by simp; omega
     by_cases c2 : fx < 0
     · have d2 : decide (fx < 0) = true := by simp [c2]
       obtain rfl : R = false := hF.out (by omega)
       clear hF hT
       go_enter Tryz.func72, Tryz.ntmps72
       go_wp2
       go_ret
       exact ⟨rfl, xt⟩
     · have d2 : decide (fx < 0) = false := by simp; omega
       by_cases c3 : 999999999999 < fx
       · have d3 : decide (999999999999 < fx) = true := by simp [c3]
         obtain rfl : R = false := hF.out (by omega)
         clear hF hT
         go_enter Tryz.func72, Tryz.ntmps72
         go_wp2
         go_ret
         exact ⟨rfl, xt⟩
       · have d3 : decide (999999999999 < fx) = false := by simp; omega
         by_cases c4 : mn < 0
         · have d4 : decide (mn < 0) = true := by simp [c4]
           obtain rfl : R = false := hF.out (by omega)
           clear hF hT
           go_enter Tryz.func72, Tryz.ntmps72
           go_wp2
           go_ret
           exact ⟨rfl, xt⟩
         · have d4 : decide (mn < 0) = false := by simp; omega
           by_cases c5 : 999999999999 < mn
           · have d5 : decide (999999999999 < mn) = true := by simp [c5]
             obtain rfl : R = false := hF.out (by omega)
             clear hF hT
             go_enter Tryz.func72, Tryz.ntmps72
             go_wp2
             go_ret
             exact ⟨rfl, xt⟩
           · have d5 : decide (999999999999 < mn) = false := by simp; omega
             by_cases c6 : mx = 0
             · have d6 : (mx == 0) = true := by simp [c6]
               obtain rfl : R = true := hT.out (by omega)
               clear hF hT
               go_enter Tryz.func72, Tryz.ntmps72
               go_wp2
               go_ret
               exact ⟨rfl, xt⟩
             · have d6 : (mx == 0) = false := by simp [c6]
               by_cases c7 : mn ≤ mx
               · have d7 : decide (mn ≤ mx) = true := by simp [c7]
                 by_cases c8 : mx ≤ 999999999999
                 · have d8 : decide (mx ≤ 999999999999) = true := by simp [c8]
                   obtain rfl : R = true := hT.out (by omega)
                   clear hF hT
                   go_enter Tryz.func72, Tryz.ntmps72
                   go_wp2
                   go_ret
                   exact ⟨rfl, xt⟩
                 · have d8 : decide (mx ≤ 999999999999) = false := by simp; omega
                   obtain rfl : R = false := hF.out (by omega)
                   clear hF hT
                   go_enter Tryz.func72, Tryz.ntmps72
                   go_wp2
                   go_ret
                   exact ⟨rfl, xt⟩
               · have d7 : decide (mn ≤ mx) = false := by simp; omega
                 obtain rfl : R = false := hF.out (by omega)
                 clear hF hT
                 go_enter Tryz.func72, Tryz.ntmps72
                 go_wp2
                 go_ret
                 exact ⟨rfl, xt⟩
def FeePost (r : Int × Int) (w : World) (e : Ending) (w' : World) : Prop := e = .returned (.tuple #[.int .i64 r.1, .int .i64 r.2]) ∧ Ext w w'
theorem feeV_f {r : RuleD} {n : Int} (h : n < 0 ∨ 999999999999 < n ∨ possB r = false) : feeV r n = (0, 4) := by
 unfold feeV
 rw [if_neg]
 intro ho
 obtain ⟨⟨h1, h2⟩, h3⟩ := (feeOk_iff r n).1 ho
 rcases h with h | h | h
 · omega
 · omega
 · rw [h3] at h; cases h
theorem feeV_t {r : RuleD} {n : Int} (h0 : 0 ≤ n) (h1 : n ≤ 999999999999) (h : possB r = true) : feeV r n = (if r.mx = 0 then feeLow r n else min (feeLow r n) r.mx, 0) := by
 unfold feeV
 rw [if_pos ((feeOk_iff r n).2 ⟨⟨h0, h1⟩, h⟩)]
theorem quo_nn {a : Int} (h : 0 ≤ a) : a.tdiv 10000 = a / 10000 := by
 rw [Int.tdiv_eq_ediv_of_nonneg h]
set_option maxHeartbeats 2000000 in
theorem fee_any (r : RuleD) (q : Option Addr) (len cp : Nat) (n : Int) (w : World) : Calls Tryz.prog 60 #[ruleAgg r (.slice q len cp), .int .i64 n] w (FeePost (feeV r n) w) := by
 obtain ⟨R, hR⟩ : ∃ R, R = feeV r n := ⟨_, rfl⟩
 rw [← hR]
 unfold FeePost
 have hF := feeV_f (r := r) (n := n)
 rw [← hR] at hF
 replace hF := Lib.hid hF
 by_cases c0 : n < 0
 · have d0 : decide (n < 0) = true := by simp [c0]
   obtain rfl := hF.out (by omega)
   clear hF hR
   unfold ruleAgg
   go_enter Tryz.func60, Tryz.ntmps60
   go_wp2
   exact bodyPost_ret (v := .tuple #[.int .i64 0, .int .i64 4]) (by simp [results, Tryz.results60, go_sem]) rfl ⟨rfl, xt⟩
 · have d0 : decide (n < 0) = false := by simp; omega
   by_cases c1 : 999999999999 < n
   · have d1 : decide (999999999999 < n) = true := by simp [c1]
     obtain rfl := hF.out (by omega)
     clear hF hR
     unfold ruleAgg
     go_enter Tryz.func60, Tryz.ntmps60
     go_wp2
     exact bodyPost_ret (v := .tuple #[.int .i64 0, .int .i64 4]) (by simp [results, Tryz.results60, go_sem]) rfl ⟨rfl, xt⟩
   · have d1 : decide (999999999999 < n) = false := by simp; omega
     have kp := Lib.hid (fun w => possible_any r q len cp w)
     cases hp : possB r with
     | false =>
      rw [hp] at kp
      obtain rfl := hF.out (by simp [hp])
      clear hF hR hp
      unfold ruleAgg at kp ⊢
      go_enter Tryz.func60, Tryz.ntmps60
      go_wp2_with fail
      refine (kp.out _).mono ?_
      rintro e w1 ⟨rfl, hE1⟩
      have hE : Ext w w1 := Ext.trans xt hE1
      clear hE1 kp
      go_wp2
      exact bodyPost_ret (v := .tuple #[.int .i64 0, .int .i64 4]) (by simp [results, Tryz.results60, go_sem]) rfl ⟨rfl, xt⟩
     | true =>
      rw [hp] at kp
      rw [feeV_t (by omega) (by omega) hp] at hR
      obtain ⟨p1, p2, p3, p4, p5, p6, p7⟩ := (poss_iff r).1 hp
      have hm1 : 0 ≤ n * r.bps := Int.mul_nonneg (by omega) p1
      have hm2 : n * r.bps ≤ 999999999999 * 10000 := Int.mul_le_mul (by omega) p2 p1 (by omega)
      have e1 : wrap64 (n * r.bps) = n * r.bps := wrap64_id _ (by omega) (by omega)
      have e2 : wrap64 (n * r.bps + 5000) = n * r.bps + 5000 := wrap64_id _ (by omega) (by omega)
      have e3 : (n * r.bps + 5000).tdiv 10000 = (n * r.bps + 5000) / 10000 := quo_nn (by omega)
      have e4 : wrap64 ((n * r.bps + 5000) / 10000) = (n * r.bps + 5000) / 10000 := wrap64_id _ (by omega) (by omega)
      have e5 : wrap64 ((n * r.bps + 5000) / 10000 + r.fixed) = (n * r.bps + 5000) / 10000 + r.fixed := wrap64_id _ (by omega) (by omega)
      unfold feeLow at hR
      generalize hQ : (n * r.bps + 5000) / 10000 = Q at *
      generalize hM : n * r.bps = M at *
      unfold ruleAgg at kp ⊢
      clear hF hp
      go_enter Tryz.func60, Tryz.ntmps60
      go_wp2_with fail
      refine (kp.out _).mono ?_
      rintro e w1 ⟨rfl, hE1⟩
      have hb := Blk.ext (Blk.new w #[.string r.name, .int .i64 r.when.op, .string r.when.name, .string r.when.text, .int .i64 r.when.n, .slice q len cp, .int .i64 r.bps, .int .i64 r.fixed, .int .i64 r.mn, .int .i64 r.mx] 56) hE1
      have hE : Ext w w1 := Ext.trans xt hE1
      have x6 := hb.cell 6
      have x7 := hb.cell 7
      have x8 := hb.cell 8
      have x9 := hb.cell 9
      simp at x6 x7 x8 x9
      clear hE1 kp hb
      by_cases hx : r.mx = 0
      · rw [if_pos hx] at hR
        have dx : (r.mx != 0) = false := by simp [hx]
        subst hR
        go_wp2
        exact bodyPost_ret (v := .tuple #[.int .i64 (max (Q + r.fixed) r.mn), .int .i64 0]) (by simp [results, Tryz.results60, go_sem]) rfl ⟨rfl, xt⟩
      · rw [if_neg hx] at hR
        have dx : (r.mx != 0) = true := by simp [hx]
        subst hR
        go_wp2
        exact bodyPost_ret (v := .tuple #[.int .i64 (min (max (Q + r.fixed) r.mn) r.mx), .int .i64 0]) (by simp [results, Tryz.results60, go_sem]) rfl ⟨rfl, xt⟩
end Go.Proofs.YtmnhmkjmcckneaaGreatDoor
namespace Go.Proofs.YtmnhmkjmcckneaaGreatDoor
open Go.RowKit
def idxI : Option Nat → Int
 | some i => i
 | none => -1
def IdxP (o : Option Nat) (w : World) (e : Ending) (w' : World) : Prop := e = .returned (.int .i64 (idxI o)) ∧ Ext w w'
theorem idxP {o : Option Nat} {n : Int} {w w' : World} (h : o.elim (-1) (fun i => (i : Int)) = n) (hE : Ext w w') : IdxP o w (.returned (.int .i64 n)) w' := by
 refine ⟨?_, hE⟩
 cases o <;> (simp at h; subst h; rfl)
set_option maxRecDepth 8000 in
set_option maxHeartbeats 2000000 in
theorem index_holds (fsv : Value) (lv : Value) (l : List RuleD) (w : World) (p : RuleD → Bool) (hR : RulesM w lv l) (hf : ∀ i, i < l.length → ∀ w1 q cp, Ext w w1 → ExS w1 (.slice q (l.getD i rD).when.args.length cp) (l.getD i rD).when.args → Calls Tryz.prog 83 #[fsv, ruleAgg (l.getD i rD) (.slice q (l.getD i rD).when.args.length cp)] w1 (OneV (.bool (p (l.getD i rD))) w1)) : Calls Tryz.prog 84 #[lv, .func (Fn.func 83) #[fsv] #[]] w (IdxP (idxF p 0 l) w) := by
 obtain ⟨lp, lc, rfl⟩ := hR.form
 have hll := hR.1
 replace hR := Lib.hid hR
 replace hf := Lib.hid hf
 obtain ⟨R, hRR⟩ : ∃ R, R = idxF p 0 l := ⟨_, rfl⟩
 rw [← hRR]
 have hR0 : R = idxF p 0 (l.drop 0) := hRR
 clear hRR
 go_enter Tryz.func84, Tryz.ntmps84
 go_wp2_with fail
 go_loopw [8] (fun i wr => ∃ k : Nat, k ≤ l.length ∧ i = .int .i64 k ∧ R = idxF p k (l.drop k) ∧ Ext w wr) (fun i _ => l.length - (intOf i).toNat)
 case atStart => exact ⟨0, Nat.zero_le _, rfl, hR0, Ext.refl _⟩
 case round =>
  clear hR0
  obtain ⟨k, hk, rfl, hRk, hE⟩ := hrel
  by_cases hlt : k < l.length
  · obtain ⟨b, off, rfl, sv, hkid⟩ := hR.out.at (by omega)
    obtain ⟨hc, hsu⟩ := hkid k hlt
    rw [idx_step p l k hlt] at hRk
    replace hsu := hsu.ext hE
    obtain ⟨h0, h1, h2, h3, h4, h5, h6, h7, h8, h9⟩ := hc.ext hE
    have kf := hf.out k hlt
    clear hc hkid
    replace hRk := Lib.hid hRk
    obtain ⟨uq, uc, huv⟩ := hsu.form
    generalize l.getD k rD = r at *
    rw [huv] at hsu h5
    clear huv
    replace kf := Lib.hid (kf wr uq uc hE hsu)
    unfold ruleAgg at kf
    go_wp2_with fail
    refine kf.out.mono ?_
    rintro e w2 ⟨rfl, hE2⟩
    replace hE := hE.trans hE2
    clear hE2 kf h0 h1 h2 h3 h4 h5 h6 h7 h8 h9 hsu
    cases hp : p r with
    | true =>
     have hRk := hRk.out
     rw [hp, if_pos rfl] at hRk
     go_wp2
     go_ret
     exact idxP (by rw [hRk]; rfl) hE
    | false =>
     have hRk := hRk.out
     rw [hp] at hRk
     simp only [Bool.false_eq_true, if_false] at hRk
     go_wp2
     go_roundw
     case rel => exact ⟨k + 1, by omega, by go_num, hRk, hE⟩
     case measure => simp [intOf]; omega
  · have hz : l.drop k = [] := List.drop_eq_nil_of_le (by omega)
    rw [hz] at hRk
    go_wp2
    go_ret
    exact idxP (by rw [hRk]; rfl) hE
set_option maxRecDepth 8000 in
set_option maxHeartbeats 2000000 in
theorem index_always (lv : Value) (l : List RuleD) (w : World) (p : RuleD → Bool) (hR : RulesM w lv l) (hf : ∀ i, i < l.length → ∀ w1 q cp, Ext w w1 → ExS w1 (.slice q (l.getD i rD).when.args.length cp) (l.getD i rD).when.args → Calls Tryz.prog 74 #[ruleAgg (l.getD i rD) (.slice q (l.getD i rD).when.args.length cp)] w1 (OneV (.bool (p (l.getD i rD))) w1)) : Calls Tryz.prog 84 #[lv, .func (Fn.func 74) #[] #[]] w (IdxP (idxF p 0 l) w) := by
 obtain ⟨lp, lc, rfl⟩ := hR.form
 have hll := hR.1
 replace hR := Lib.hid hR
 replace hf := Lib.hid hf
 obtain ⟨R, hRR⟩ : ∃ R, R = idxF p 0 l := ⟨_, rfl⟩
 rw [← hRR]
 have hR0 : R = idxF p 0 (l.drop 0) := hRR
 clear hRR
 go_enter Tryz.func84, Tryz.ntmps84
 go_wp2_with fail
 go_loopw [8] (fun i wr => ∃ k : Nat, k ≤ l.length ∧ i = .int .i64 k ∧ R = idxF p k (l.drop k) ∧ Ext w wr) (fun i _ => l.length - (intOf i).toNat)
 case atStart => exact ⟨0, Nat.zero_le _, rfl, hR0, Ext.refl _⟩
 case round =>
  clear hR0
  obtain ⟨k, hk, rfl, hRk, hE⟩ := hrel
  by_cases hlt : k < l.length
  · obtain ⟨b, off, rfl, sv, hkid⟩ := hR.out.at (by omega)
    obtain ⟨hc, hsu⟩ := hkid k hlt
    rw [idx_step p l k hlt] at hRk
    replace hsu := hsu.ext hE
    obtain ⟨h0, h1, h2, h3, h4, h5, h6, h7, h8, h9⟩ := hc.ext hE
    have kf := hf.out k hlt
    clear hc hkid
    replace hRk := Lib.hid hRk
    obtain ⟨uq, uc, huv⟩ := hsu.form
    generalize l.getD k rD = r at *
    rw [huv] at hsu h5
    clear huv
    replace kf := Lib.hid (kf wr uq uc hE hsu)
    unfold ruleAgg at kf
    go_wp2_with fail
    refine kf.out.mono ?_
    rintro e w2 ⟨rfl, hE2⟩
    replace hE := hE.trans hE2
    clear hE2 kf h0 h1 h2 h3 h4 h5 h6 h7 h8 h9 hsu
    cases hp : p r with
    | true =>
     have hRk := hRk.out
     rw [hp, if_pos rfl] at hRk
     go_wp2
     go_ret
     exact idxP (by rw [hRk]; rfl) hE
    | false =>
     have hRk := hRk.out
     rw [hp] at hRk
     simp only [Bool.false_eq_true, if_false] at hRk
     go_wp2
     go_roundw
     case rel => exact ⟨k + 1, by omega, by go_num, hRk, hE⟩
     case measure => simp [intOf]; omega
  · have hz : l.drop k = [] := List.drop_eq_nil_of_le (by omega)
    rw [hz] at hRk
    go_wp2
    go_ret
    exact idxP (by rw [hRk]; rfl) hE
set_option maxHeartbeats 1000000 in
theorem contains_always (lv : Value) (l : List RuleD) (w : World) (p : RuleD → Bool) (hR : RulesM w lv l) (hf : ∀ i, i < l.length → ∀ w1 q cp, Ext w w1 → ExS w1 (.slice q (l.getD i rD).when.args.length cp) (l.getD i rD).when.args → Calls Tryz.prog 74 #[ruleAgg (l.getD i rD) (.slice q (l.getD i rD).when.args.length cp)] w1 (OneV (.bool (p (l.getD i rD))) w1)) : Calls Tryz.prog 70 #[lv, .func (Fn.func 74) #[] #[]] w (OneV (.bool (idxF p 0 l).isSome) w) := by
 have k := Lib.hid (index_always lv l w p hR hf)
 obtain ⟨lp, lc, rfl⟩ := hR.form
 clear hR hf
 generalize idxF p 0 l = R at *
 go_enter Tryz.func70, Tryz.ntmps70
 go_wp2_with fail
 refine k.out.mono ?_
 rintro e w1 ⟨rfl, hE⟩
 clear k
 cases R with
 | none =>
  have d : decide ((0 : Int) ≤ idxI none) = false := by decide
  simp only [idxI] at d ⊢
  go_wp2
  go_ret
  exact ⟨rfl, hE⟩
 | some i =>
  have d : decide ((0 : Int) ≤ (i : Int)) = true := by simp
  simp only [idxI]
  go_wp2
  go_ret
  exact ⟨rfl, hE⟩
/-- The index of the first feature of a name. -/
def idxN (nm : ByteArray) : Nat → List Feat → Option Nat
 | _, [] => none
 | k, f :: l => if f.name = nm then some k else idxN nm (k + 1) l
theorem idxN_step (nm : ByteArray) (l : List Feat) (k : Nat) (h : k < l.length) : idxN nm k (l.drop k) = if (l.getD k fD).name = nm then some k else idxN nm (k + 1) (l.drop (k + 1)) := by
 rw [List.drop_eq_getElem_cons h, idxN]
 simp [List.getD_eq_getElem?_getD, h]
set_option maxHeartbeats 1000000 in
theorem why1_any (f : Feat) (L : Nat) (nm : ByteArray) (w : World) (hL : w.cell? ⟨L, 0, none⟩ = some (.string nm)) : Calls Tryz.prog 87 #[.agg #[.string f.name, .int .i64 f.kind, .int .i64 f.n, .string f.text], .pointer (some ⟨L, 0, none⟩)] w (OneV (.bool (f.name.toList == nm.toList)) w) := by
 have hs := cell_lt hL
 go_enter Tryz.func87, Tryz.ntmps87
 go_wp2
 go_ret
 exact ⟨rfl, xt⟩
set_option maxRecDepth 8000 in
set_option maxHeartbeats 2000000 in
theorem index_name (L : Nat) (nm : ByteArray) (lv : Value) (l : List Feat) (w : World) (hF : Feats w lv l) (hL : w.cell? ⟨L, 0, none⟩ = some (.string nm)) : Calls Tryz.prog 86 #[lv, .func (Fn.func 87) #[] #[.pointer (some ⟨L, 0, none⟩)]] w (IdxP (idxN nm 0 l) w) := by
 obtain ⟨lp, lc, rfl⟩ := hF.form
 have hll := hF.1
 replace hF := Lib.hid hF
 obtain ⟨R, hRR⟩ : ∃ R, R = idxN nm 0 l := ⟨_, rfl⟩
 rw [← hRR]
 have hR0 : R = idxN nm 0 (l.drop 0) := hRR
 clear hRR
 replace hL := Lib.hid hL
 go_enter Tryz.func86, Tryz.ntmps86
 go_wp2_with fail
 go_loopw [8] (fun i wr => ∃ k : Nat, k ≤ l.length ∧ i = .int .i64 k ∧ R = idxN nm k (l.drop k) ∧ Ext w wr) (fun i _ => l.length - (intOf i).toNat)
 case atStart => exact ⟨0, Nat.zero_le _, rfl, hR0, Ext.refl _⟩
 case round =>
  clear hR0
  obtain ⟨k, hk, rfl, hRk, hE⟩ := hrel
  by_cases hlt : k < l.length
  · obtain ⟨b, off, rfl, hat⟩ := hF.out.at (by omega)
    obtain ⟨h0, h1, h2, h3⟩ := hat k hlt
    rw [idxN_step nm l k hlt] at hRk
    replace h0 := hE.get h0
    replace h1 := hE.get h1
    replace h2 := hE.get h2
    replace h3 := hE.get h3
    clear hat
    replace hRk := Lib.hid hRk
    generalize l.getD k fD = f at *
    have kf := Lib.hid (why1_any f L nm wr (hE.get hL.out))
    go_wp2_with fail
    refine kf.out.mono ?_
    rintro e w2 ⟨rfl, hE2⟩
    replace hE := hE.trans hE2
    clear hE2 kf h0 h1 h2 h3
    by_cases hp : f.name = nm
    · have hRk := hRk.out
      rw [if_pos hp] at hRk
      rw [strEq hp]
      go_wp2
      go_ret
      exact idxP (by rw [hRk]; rfl) hE
    · have hRk := hRk.out
      rw [if_neg hp] at hRk
      rw [strNe hp]
      go_wp2
      go_roundw
      case rel => exact ⟨k + 1, by omega, by go_num, hRk, hE⟩
      case measure => simp [intOf]; omega
  · have hz : l.drop k = [] := List.drop_eq_nil_of_le (by omega)
    rw [hz] at hRk
    go_wp2
    go_ret
    exact idxP (by rw [hRk]; rfl) hE
end Go.Proofs.YtmnhmkjmcckneaaGreatDoor
namespace Go.Proofs.YtmnhmkjmcckneaaGreatDoor
open Go.RowKit
set_option maxRecDepth 8000 in
set_option maxHeartbeats 2000000 in
theorem holds_any (r : RuleD) (q : Option Addr) (cp : Nat) (fsv : Value) (fs : List Feat) (w : World) (hF : Feats w fsv fs) (hS : ExS w (.slice q r.when.args.length cp) r.when.args) : Calls Tryz.prog 83 #[fsv, ruleAgg r (.slice q r.when.args.length cp)] w (OneV (.bool (holdsB fs r)) w) := by
 have hE := Lib.hid (fun w1 (h : Ext w w1) => eval_nil r.when (hS.ext h) _ fs (hF.ext h) nilS (fun w2 E _ hc => asker_nil hc))
 unfold EvalPost at hE
 obtain ⟨R, hR⟩ : ∃ R, R = holdsB fs r := ⟨_, rfl⟩
 rw [← hR]
 replace hR : R = (decide ((evalV r.when fs nilS).2 = 0) && decide ((evalV r.when fs nilS).1.kind = 3) && decide ((evalV r.when fs nilS).1.n = 1)) := hR
 generalize evalV r.when fs nilS = V at *
 obtain ⟨f, c⟩ := V
 simp only at hR hE
 unfold ruleAgg
 clear hS hF
 go_enter Tryz.func83, Tryz.ntmps83
 go_wp2_with fail
 refine (hE.out _ xt).mono ?_
 rintro e w1 ⟨rfl, hE1⟩
 have hE0 : Ext w w1 := Ext.trans xt hE1
 clear hE1 hE
 by_cases h0 : c = 0
 · subst h0
   by_cases h1 : f.kind = 3
   · have d1 : (f.kind == 3) = true := by simp [h1]
     by_cases h2 : f.n = 1
     · have d2 : (f.n == 1) = true := by simp [h2]
       obtain rfl : R = true := by rw [hR]; simp [h1, h2]
       clear hR
       go_wp2
       go_ret
       exact ⟨rfl, xt⟩
     · have d2 : (f.n == 1) = false := by simp [h2]
       obtain rfl : R = false := by rw [hR]; simp [h2]
       clear hR
       go_wp2
       go_ret
       exact ⟨rfl, xt⟩
   · have d1 : (f.kind == 3) = false := by simp [h1]
     obtain rfl : R = false := by rw [hR]; simp [h1]
     clear hR
     go_wp2
     go_ret
     exact ⟨rfl, xt⟩
 · have d1 : (c == 0) = false := by simp [h0]
   obtain rfl : R = false := by rw [hR]; simp [h0]
   clear hR
   go_wp2
   go_ret
   exact ⟨rfl, xt⟩
/-- What Pick returns. -/
def pickV (l : List RuleD) (fs : List Feat) : Int × Int := match idxF (holdsB fs) 0 l with
 | some i => ((i : Int), 0)
 | none => (0, 6)
def PairP (r : Int × Int) (w : World) (e : Ending) (w' : World) : Prop := e = .returned (.tuple #[.int .i64 r.1, .int .i64 r.2]) ∧ Ext w w'
set_option maxHeartbeats 1000000 in
theorem pick_any (lv fsv : Value) (l : List RuleD) (fs : List Feat) (w : World) (hR : RulesM w lv l) (hF : Feats w fsv fs) : Calls Tryz.prog 59 #[lv, fsv] w (PairP (pickV l fs) w) := by
 have k := Lib.hid (index_holds fsv lv l w (holdsB fs) hR (fun i _ w1 q cp h1 h2 => holds_any (l.getD i rD) q cp fsv fs w1 (hF.ext h1) h2))
 obtain ⟨lp, lc, rfl⟩ := hR.form
 obtain ⟨fp, fc, rfl⟩ := hF.form
 clear hR hF
 unfold pickV
 generalize idxF (holdsB fs) 0 l = R at *
 go_enter Tryz.func59, Tryz.ntmps59
 go_wp2_with fail
 refine k.out.mono ?_
 rintro e w1 ⟨rfl, hE⟩
 clear k
 cases R with
 | none =>
  have d : decide (idxI none < (0 : Int)) = true := by decide
  simp only [idxI] at d ⊢
  go_wp2
  exact bodyPost_ret (v := .tuple #[.int .i64 0, .int .i64 6]) (by simp [results, Tryz.results59, go_sem]) rfl ⟨rfl, hE⟩
 | some i =>
  have d : decide ((i : Int) < (0 : Int)) = false := by simp
  simp only [idxI]
  go_wp2
  exact bodyPost_ret (v := .tuple #[.int .i64 i, .int .i64 0]) (by simp [results, Tryz.results59, go_sem]) rfl ⟨rfl, hE⟩
end Go.Proofs.YtmnhmkjmcckneaaGreatDoor
namespace Go.Proofs.YtmnhmkjmcckneaaGreatDoor
open Go.RowKit
def eqE (n : Int) : Ex := .mk 8 emS emS 0 [leafN 1, leafN n]
def alwB (r : RuleD) : Bool := (foldTop r.when).same (eqE 1)
def nevB (r : RuleD) : Bool := (foldTop r.when).same (eqE 2)
def EqP (n : Int) (w : World) (e : Ending) (w' : World) : Prop := ∃ p c, e = .returned (.agg #[.int .i64 8, .string ⟨#[]⟩, .string ⟨#[]⟩, .int .i64 0, .slice p 2 c]) ∧ ExS w' (.slice p 2 c) (eqE n).args ∧ Ext w w'
set_option maxRecDepth 8000 in
set_option maxHeartbeats 1000000 in
theorem equation_any (n : Int) (w : World) : Calls Tryz.prog 106 #[.int .i64 n] w (EqP n w) := by
 have hK : ∀ (W : World) (B : Nat), Blk W B #[.int .i64 1, .string ⟨#[]⟩, .string ⟨#[]⟩, .int .i64 1, .slice none 0 0, .int .i64 1, .string ⟨#[]⟩, .string ⟨#[]⟩, .int .i64 n, .slice none 0 0] 54 → ExS W (.slice (some ⟨B, 0, none⟩) 2 2) (eqE n).args := fun W B h => (exb_two (ok := fun _ => True) (x := leafN 1) (y := leafN n) (c := 2) h trivial (.nil none 0) (.nil none 0) (by omega)).toS
 replace hK := Lib.hid hK
 go_enter Tryz.func106, Tryz.ntmps106
 go_wp2
 first
  | exact bodyPost_ret (v := .agg #[.int .i64 8, .string ⟨#[]⟩, .string ⟨#[]⟩, .int .i64 0, .slice (some ⟨w.heap.size + 1, 0, none⟩) 2 2]) (by simp [results, Tryz.results106, go_sem]) rfl ⟨_, 2, rfl, hK.out _ _ (by first | exact Blk.new' _ _ _ _ (by simp) | exact (Blk.new' _ _ _ _ (by simp)).other 0 _ (by simp) | exact (((((Blk.new' _ _ _ _ (by simp)).other 0 _ (by simp)).other 1 _ (by simp)).other 2 _ (by simp)).other 3 _ (by simp)).other 4 _ (by simp)), xt⟩
set_option maxRecDepth 8000 in
set_option maxHeartbeats 2000000 in
theorem always_any (r : RuleD) (q : Option Addr) (cp : Nat) (w : World) (hX : ExS w (.slice q r.when.args.length cp) r.when.args) (hp : r.when.parts.length ≤ 1000000) : Calls Tryz.prog 74 #[ruleAgg r (.slice q r.when.args.length cp)] w (OneV (.bool (alwB r)) w) := by
 have kF := Lib.hid (fun w1 (h : Ext w w1) => Fold_fn (w := w1) (v := .slice q r.when.args.length cp) r.when (hX.ext h) hp)
 unfold alwB ruleAgg
 generalize foldTop r.when = y at *
 clear hX
 go_enter Tryz.func74, Tryz.ntmps74
 go_wp2_with fail
 refine (kF.out _ xt).mono ?_
 rintro e w1 ⟨p1, c1, rfl, hY, hE1⟩
 have hE : Ext w w1 := Ext.trans xt hE1
 replace hY := Lib.hid hY.toS
 clear kF hE1
 go_wp2_with fail
 refine (equation_any 1 _).mono ?_
 rintro e w2 ⟨p2, c2, rfl, hQ, hE2⟩
 replace hY := Lib.hid (hY.out.ext hE2)
 replace hE := hE.trans hE2
 clear hE2
 go_wp2_with fail
 refine ((esame_any hY.out y rfl) (eqE 1) (.slice p2 2 c2) hQ w2 (Ext.refl _)).mono ?_
 rintro e w3 ⟨rfl, hE3⟩
 replace hE := hE.trans hE3
 clear hE3
 go_wp2
 go_ret
 exact ⟨rfl, hE⟩
def totB (l : List RuleD) : Bool := (idxF alwB 0 l).isSome
set_option maxHeartbeats 1000000 in
theorem total_any (lv : Value) (l : List RuleD) (w : World) (hR : RulesM w lv l) (hp : ∀ i, i < l.length → (l.getD i rD).when.parts.length ≤ 1000000) : Calls Tryz.prog 35 #[lv] w (OneV (.bool (totB l)) w) := by
 have k := Lib.hid (contains_always lv l w alwB hR (fun i hi w1 q cp _ h2 => always_any (l.getD i rD) q cp w1 h2 (hp i hi)))
 obtain ⟨lp, lc, rfl⟩ := hR.form
 unfold totB
 generalize (idxF alwB 0 l).isSome = R at *
 clear hR hp
 go_enter Tryz.func35, Tryz.ntmps35
 go_wp2_with fail
 refine k.out.mono ?_
 rintro e w1 ⟨rfl, hE⟩
 clear k
 go_wp2
 go_ret
 exact ⟨rfl, hE⟩
end Go.Proofs.YtmnhmkjmcckneaaGreatDoor
