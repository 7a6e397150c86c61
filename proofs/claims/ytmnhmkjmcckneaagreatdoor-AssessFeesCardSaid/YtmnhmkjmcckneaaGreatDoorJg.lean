/- Under total tables a good record has fees: what Assess returns (plain facts). -/
import Derived.Test.YtmnhmkjmcckneaaGreatDoorFqa
import Derived.Test.YtmnhmkjmcckneaaGreatDoorHq
import Derived.Test.YtmnhmkjmcckneaaGreatDoorHc
namespace Go.Proofs.YtmnhmkjmcckneaaGreatDoor
open Go.RowKit
theorem rec_date {r : RecD} (h : recE r = 0) : 0 ≤ r.date ∧ r.date ≤ 99999 := by
 have h5 := recE_inv h 5 (by omega)
 simp only [pointE] at h5
 split at h5
 · assumption
 · cases h5
theorem nbr_of {n : Int} (h0 : 0 ≤ n) (h1 : n ≤ 999999999999) : nbrB n = true := by
 unfold nbrB
 simp only [Bool.and_eq_true, decide_eq_true_eq]
 omega
theorem featE_num {nm : ByteArray} {n : Int} (hn : nameB nm = true) (h : nbrB n = true) : featE ⟨nm, 1, n, emS⟩ = 0 := by
 unfold featE
 rw [if_neg (by rw [hn]; decide), if_pos (Or.inr (Or.inl ⟨rfl, h⟩))]
theorem featE_text {nm s : ByteArray} (hn : nameB nm = true) : featE ⟨nm, 2, 0, s⟩ = 0 := by
 unfold featE
 rw [if_neg (by rw [hn]; decide), if_pos (Or.inl rfl)]
theorem featE_bool {nm : ByteArray} {n : Int} (hn : nameB nm = true) (h : n = 0 ∨ n = 1) : featE ⟨nm, 3, n, emS⟩ = 0 := by
 unfold featE
 rw [if_neg (by rw [hn]; decide), if_pos (Or.inr (Or.inr ⟨rfl, h⟩))]
theorem namesE_step {before : List Feat} {f : Feat} {l : List Feat} (h : featE f = 0) (h2 : (before.any fun g => decide (g.name = f.name)) = false) : namesE before (f :: l) = namesE (before ++ [f]) l := by
 rw [namesE, if_neg (by rw [h]; decide), if_neg ?_]
 unfold findN
 rw [List.find?_isSome]
 rintro ⟨g, hg, hq⟩
 rw [List.any_eq_false] at h2
 exact h2 g hg hq
theorem names_ok {r : RecD} (h : recE r = 0) : namesE [] (recF r) = 0 := by
 have hk := rec_kind h
 have ha := rec_amt h
 have hd := rec_date h
 have e0 : featE ⟨kinN, 1, r.kind, emS⟩ = 0 := featE_num (by decide +kernel) (nbr_of (by omega) (by omega))
 have e1 : featE ⟨catN, 1, r.cat, emS⟩ = 0 := featE_num (by decide +kernel) (nbr_of (by omega) (by omega))
 have e2 : featE ⟨amoN, 1, r.amt, emS⟩ = 0 := featE_num (by decide +kernel) (nbr_of (by omega) (by omega))
 have e3 : featE ⟨datN, 1, r.date, emS⟩ = 0 := featE_num (by decide +kernel) (nbr_of (by omega) (by omega))
 have e4 : featE ⟨merN, 2, 0, r.mer⟩ = 0 := featE_text (by decide +kernel)
 have e5 : featE ⟨issN, 2, 0, r.iss⟩ = 0 := featE_text (by decide +kernel)
 have e6 : featE ⟨acqN, 2, 0, r.acq⟩ = 0 := featE_text (by decide +kernel)
 have e7 : featE ⟨curN, 2, 0, r.cur⟩ = 0 := featE_text (by decide +kernel)
 have e8 : featE ⟨autN, 3, if r.auth.size = 0 then 0 else 1, emS⟩ = 0 := featE_bool (by decide +kernel) (by split; exact Or.inl rfl; exact Or.inr rfl)
 unfold recF
 rw [namesE_step e0 (by kernel_rfl)]
 simp only [List.nil_append, List.cons_append]
 rw [namesE_step e1 (by kernel_rfl)]
 simp only [List.nil_append, List.cons_append]
 rw [namesE_step e2 (by kernel_rfl)]
 simp only [List.nil_append, List.cons_append]
 rw [namesE_step e3 (by kernel_rfl)]
 simp only [List.nil_append, List.cons_append]
 rw [namesE_step e4 (by kernel_rfl)]
 simp only [List.nil_append, List.cons_append]
 rw [namesE_step e5 (by kernel_rfl)]
 simp only [List.nil_append, List.cons_append]
 rw [namesE_step e6 (by kernel_rfl)]
 simp only [List.nil_append, List.cons_append]
 rw [namesE_step e7 (by kernel_rfl)]
 simp only [List.nil_append, List.cons_append]
 rw [namesE_step e8 (by kernel_rfl)]
 simp only [List.nil_append, List.cons_append]
 rfl
theorem tabFrom_ok {l : List RuleD} {fs : List Feat} : ∀ {m k : Nat}, tabFrom l fs k m = 0 → ∀ j, k ≤ j → j < k + m → ruleE (l.take j) (l.getD j rD) fs = 0
 | 0, _, _, j, h1, h2 => by omega
 | m + 1, k, h, j, h1, h2 => by
  rw [tabFrom] at h
  by_cases hz : ruleE (l.take k) (l.getD k rD) fs ≠ 0
  · rw [if_pos hz] at h
    exact absurd h hz
  · rw [if_neg hz] at h
    by_cases e : j = k
    · rw [e]; exact Decidable.not_not.1 hz
    · exact tabFrom_ok h j (by omega) (by omega)
theorem ruleE_poss {bf : List RuleD} {r : RuleD} {fs : List Feat} (h : ruleE bf r fs = 0) : possB r = true := by
 cases hp : possB r with
 | true => rfl
 | false =>
  exfalso
  unfold ruleE at h
  rw [hp] at h
  split at h
  · cases h
  · split at h
    · cases h
    · rw [if_pos rfl] at h
      cases h
theorem one_parts {l : List RuleD} (h : oneE l = 0) : (∀ i, i < l.length → possB (l.getD i rD) = true) ∧ totB l = true := by
 unfold oneE at h
 by_cases ht : tabE l (recF recD) ≠ 0
 · rw [if_pos ht] at h
   exact absurd h ht
 · rw [if_neg ht] at h
   have ht := Decidable.not_not.1 ht
   refine ⟨fun i hi => ?_, ?_⟩
   · unfold tabE at ht
     by_cases h64 : 64 < l.length
     · rw [if_pos h64] at ht; cases ht
     · rw [if_neg h64] at ht
       exact ruleE_poss (tabFrom_ok ht i (by omega) (by omega))
   · cases hb : totB l with
     | true => rfl
     | false => rw [hb, if_pos rfl] at h; cases h
theorem idxF_at {p : RuleD → Bool} : ∀ {l : List RuleD} {k i : Nat}, idxF p k l = some i → k ≤ i ∧ i - k < l.length
 | [], _, _, h => by cases h
 | r :: l, k, i, h => by
  rw [idxF] at h
  cases hp : p r with
  | true => rw [hp, if_pos rfl] at h; cases h; simp
  | false =>
   rw [hp, if_neg (by decide)] at h
   have := idxF_at h
   simp only [List.length_cons]
   omega
theorem apply_ok {l : List RuleD} {r : RecD} (h : recE r = 0) (ho : oneE l = 0) : (applyV l (recF r) r.amt).2 = 0 := by
 obtain ⟨hp, ht⟩ := one_parts ho
 rw [show totB l = l.any alwB from idx_any alwB l 0, List.any_eq_true] at ht
 obtain ⟨r0, hr0, ha⟩ := ht
 have hh := alw_holds ha (recF r)
 rw [decide_eq_true (names_ok h)] at hh
 have hany : l.any (holdsB (recF r)) = true := List.any_eq_true.2 ⟨r0, hr0, hh⟩
 rw [← idx_any _ l 0] at hany
 cases hi : idxF (holdsB (recF r)) 0 l with
 | none => rw [hi] at hany; cases hany
 | some i =>
  have hlt := (idxF_at hi).2
  have hamt := rec_amt h
  have hf : (feeV (l.getD i rD) r.amt).2 = 0 := by
   unfold feeV
   rw [if_pos ((feeOk_iff _ _).2 ⟨⟨by omega, by omega⟩, hp i (by omega)⟩)]
   try (split <;> rfl)
  unfold applyV
  rw [hi]
  simp only
  rw [if_neg (by rw [hf]; decide)]
theorem tabs_one {t : TabsD} (h2 : tabsE t = 0) : oneE t.i = 0 ∧ oneE t.s = 0 ∧ oneE t.m = 0 := by
 unfold tabsE at h2
 by_cases h0 : oneE t.i ≠ 0
 · rw [if_pos h0] at h2; exact absurd h2 h0
 · rw [if_neg h0] at h2
   by_cases h1 : oneE t.s ≠ 0
   · rw [if_pos h1] at h2; exact absurd h2 h1
   · rw [if_neg h1] at h2
     exact ⟨Decidable.not_not.1 h0, Decidable.not_not.1 h1, h2⟩
theorem assess_full {t : TabsD} {r : RecD} (h : recE r = 0) (h2 : tabsE t = 0) : assessV t r = (shareV r.kind r.amt (applyV t.i (recF r) r.amt).1 (applyV t.s (recF r) r.amt).1 (applyV t.m (recF r) r.amt).1, 0) := by
 have hp := tabs_one h2
 unfold assessV
 rw [if_neg (by rw [h]; decide), if_neg (by rw [h2]; decide), if_neg (by rw [apply_ok h hp.1]; decide), if_neg (by rw [apply_ok h hp.2.1]; decide), if_neg (by rw [apply_ok h hp.2.2]; decide)]
end Go.Proofs.YtmnhmkjmcckneaaGreatDoor
