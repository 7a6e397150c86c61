/- Plain facts on assess: what bounds tables, what Assess's results are, records that differ in their kind alone. -/
import Derived.Test.YtmnhmkjmcckneaaGreatDoorHs
import Derived.Test.YtmnhmkjmcckneaaGreatDoorEk
namespace Go.Proofs.YtmnhmkjmcckneaaGreatDoor
open Go.RowKit
/-- A record's numbers are numbers of 64 bits. -/
structure RecI (r : RecD) : Prop where
 kind : I64 r.kind
 amt : I64 r.amt
 date : I64 r.date
 cat : I64 r.cat
theorem recF_ok {r : RecD} (hs : ShOk r) (hi : RecI r) : ∀ f ∈ recF r, f.text.size ≤ 100000 ∧ -9223372036854775808 ≤ f.n ∧ f.n ≤ 9223372036854775807 := by
 intro f hf
 obtain ⟨k1, k2⟩ := hi.kind
 obtain ⟨a1, a2⟩ := hi.amt
 obtain ⟨d1, d2⟩ := hi.date
 obtain ⟨c1, c2⟩ := hi.cat
 have e0 : emS.size ≤ 100000 := by decide
 have z1 := hs.mer
 have z2 := hs.iss
 have z3 := hs.acq
 have z4 := hs.cur
 simp only [recF, List.mem_cons, List.not_mem_nil, or_false] at hf
 rcases hf with rfl | rfl | rfl | rfl | rfl | rfl | rfl | rfl | rfl
 · exact ⟨e0, k1, k2⟩
 · exact ⟨e0, c1, c2⟩
 · exact ⟨e0, a1, a2⟩
 · exact ⟨e0, d1, d2⟩
 · exact ⟨show r.mer.size ≤ 100000 by omega, show (-9223372036854775808 : Int) ≤ 0 by omega, show (0 : Int) ≤ 9223372036854775807 by omega⟩
 · exact ⟨show r.iss.size ≤ 100000 by omega, show (-9223372036854775808 : Int) ≤ 0 by omega, show (0 : Int) ≤ 9223372036854775807 by omega⟩
 · exact ⟨show r.acq.size ≤ 100000 by omega, show (-9223372036854775808 : Int) ≤ 0 by omega, show (0 : Int) ≤ 9223372036854775807 by omega⟩
 · exact ⟨show r.cur.size ≤ 100000 by omega, show (-9223372036854775808 : Int) ≤ 0 by omega, show (0 : Int) ≤ 9223372036854775807 by omega⟩
 · refine ⟨e0, ?_⟩
   show -9223372036854775808 ≤ (if r.auth.size = 0 then (0 : Int) else 1) ∧ (if r.auth.size = 0 then (0 : Int) else 1) ≤ 9223372036854775807
   split <;> omega
theorem few_tab {l : List RuleD} {r : RecD} (h : FewOk l) (hs : ShOk r) (hi : RecI r) : TabOk l (recF r) := by
 refine ⟨fun i h' => by have := (h.parts i h').1; omega, fun i h' => ⟨?_, fun a ha => ?_, recF_ok hs hi⟩⟩
 · have := (h.parts i h').1
   exact Nat.le_trans (uniL_len _) (Nat.le_trans (occ_len _) (by omega))
 · rw [mem_uniL] at ha
   obtain ⟨p, hpm, hpa⟩ := List.mem_flatMap.1 ha
   unfold occ1 at hpa
   split at hpa
   · obtain rfl := List.mem_singleton.1 hpa
     have h1 := ((h.parts i h').2.1 p hpm).1
     have h2 : (bts p.name).length = p.name.size := rfl
     omega
   · cases hpa
/-- A line's amount is that of a fee. -/
def LinI (a : LineD) : Prop := 0 ≤ a.amt ∧ a.amt ≤ 2000000000000
/-- What Assess returns: an error and nothing, or shares. -/
theorem assess_cases (t : TabsD) (r : RecD) : ((assessV t r).2 ≠ 0 ∧ (assessV t r).1 = resD) ∨ (recE r = 0 ∧ tabsE t = 0 ∧ ∃ i s m : LineD, assessV t r = (shareV r.kind r.amt i s m, 0) ∧ LinI i ∧ LinI s ∧ LinI m) := by
 unfold assessV
 by_cases h0 : recE r ≠ 0
 · rw [if_pos h0]; exact Or.inl ⟨h0, rfl⟩
 rw [if_neg h0]
 by_cases h1 : tabsE t ≠ 0
 · rw [if_pos h1]; exact Or.inl ⟨h1, rfl⟩
 rw [if_neg h1]
 by_cases h2 : (applyV t.i (recF r) r.amt).2 ≠ 0
 · rw [if_pos h2]; exact Or.inl ⟨h2, rfl⟩
 rw [if_neg h2]
 by_cases h3 : (applyV t.s (recF r) r.amt).2 ≠ 0
 · rw [if_pos h3]; exact Or.inl ⟨h3, rfl⟩
 rw [if_neg h3]
 by_cases h4 : (applyV t.m (recF r) r.amt).2 ≠ 0
 · rw [if_pos h4]; exact Or.inl ⟨h4, rfl⟩
 rw [if_neg h4]
 exact Or.inr ⟨Decidable.not_not.1 h0, Decidable.not_not.1 h1, _, _, _, rfl, apply_top (Decidable.not_not.1 h2), apply_top (Decidable.not_not.1 h3), apply_top (Decidable.not_not.1 h4)⟩
theorem rec_kind {r : RecD} (h : recE r = 0) : 1 ≤ r.kind ∧ r.kind ≤ 4 := by
 have h0 := recE_inv h 0 (by omega)
 simp only [pointE] at h0
 split at h0
 · assumption
 · cases h0
/-- A record with another kind. -/
def RecD.k (r : RecD) (n : Int) : RecD := { r with kind := n }
/-- An expression that mentions no feature kind. -/
def NoKin (x : Ex) : Prop := ∀ p ∈ x.parts, p.name ≠ kinN
theorem recF_k (r : RecD) (n : Int) : recF (r.k n) = ⟨kinN, 1, n, emS⟩ :: (recF r).tail := rfl
theorem find_k {nm : ByteArray} (h : nm ≠ kinN) (r : RecD) (a b : Int) : findN (recF (r.k a)) nm = findN (recF (r.k b)) nm := by
 rw [recF_k, recF_k]
 unfold findN
 rw [List.find?_cons_of_neg (by simpa using fun e => h e.symm), List.find?_cons_of_neg (by simpa using fun e => h e.symm)]
theorem noKin_occ {x : Ex} (h : NoKin x) {nm : ByteArray} (hm : bts nm ∈ x.occ) : nm ≠ kinN := by
 obtain ⟨p, hpm, hpa⟩ := List.mem_flatMap.1 hm
 unfold occ1 at hpa
 split at hpa
 · have e := bts_inj (List.mem_singleton.1 hpa)
   rw [e]
   exact h p hpm
 · cases hpa
theorem agree_k {x : Ex} (h : NoKin x) (r : RecD) (a b : Int) : Agree x (recF (r.k a)) (recF (r.k b)) := fun _ hm => find_k (noKin_occ h hm) r b a
theorem featE_kin {n : Int} (h : nbrB n = true) : featE ⟨kinN, 1, n, emS⟩ = 0 := by
 unfold featE
 rw [if_neg (by show ¬ nameB kinN = false; decide +kernel), if_pos (Or.inr (Or.inl ⟨rfl, h⟩))]
theorem namesE_k {a b : Int} (ha : nbrB a = true) (hb : nbrB b = true) : ∀ (l before : List Feat), namesE (⟨kinN, 1, a, emS⟩ :: before) l = namesE (⟨kinN, 1, b, emS⟩ :: before) l
 | [], _ => rfl
 | f :: l, before => by
  rw [namesE, namesE, List.cons_append, List.cons_append, namesE_k ha hb l (before ++ [f])]
  have e : (findN (⟨kinN, 1, a, emS⟩ :: before) f.name).isSome = (findN (⟨kinN, 1, b, emS⟩ :: before) f.name).isSome := by
   unfold findN
   rw [List.find?_cons, List.find?_cons]
   by_cases h : kinN = f.name
   · simp [h]
   · simp [h]
  rw [e]
theorem namesE_rec {a b : Int} (ha : nbrB a = true) (hb : nbrB b = true) (r : RecD) : namesE [] (recF (r.k a)) = namesE [] (recF (r.k b)) := by
 rw [recF_k, recF_k, namesE, namesE, featE_kin ha, featE_kin hb]
 simp only [ne_eq, not_true, if_false, findN, List.find?_nil, Option.isSome_none, Bool.false_eq_true, List.nil_append]
 exact namesE_k ha hb _ []
theorem evalV_k {x : Ex} (h : NoKin x) (r : RecD) {a b : Int} (ha : nbrB a = true) (hb : nbrB b = true) (S : Bool → ByteArray → Int → Int) : evalV x (recF (r.k a)) S = evalV x (recF (r.k b)) S := by
 have hA := agree_k h r b a
 have hc : checkV x (recF (r.k a)) = checkV x (recF (r.k b)) := by
  unfold checkV
  rw [namesE_rec ha hb r, ty_agree x hA]
 unfold evalV
 rw [hc, ev_agree S x hA]
theorem idxF_congr {p q : RuleD → Bool} : ∀ (l : List RuleD) (k : Nat), (∀ r ∈ l, p r = q r) → idxF p k l = idxF q k l
 | [], _, _ => rfl
 | r :: l, k, h => by
  rw [idxF, idxF, h r (List.mem_cons_self ..), idxF_congr l (k + 1) fun x hx => h x (List.mem_cons_of_mem _ hx)]
theorem whyW_k {nm : List UInt8} (h : nm ≠ bts kinN) (r : RecD) (a b : Int) : whyW (recF (r.k a)) nm = whyW (recF (r.k b)) nm := by
 have hn : ¬ kinN = (⟨nm.toArray⟩ : ByteArray) := fun e => h (by rw [e]; rfl)
 unfold whyW
 rw [recF_k, recF_k]
 have e (n : Int) : idxN (⟨nm.toArray⟩ : ByteArray) 0 (⟨kinN, 1, n, emS⟩ :: (recF r).tail) = idxN (⟨nm.toArray⟩ : ByteArray) 1 (recF r).tail := by
  rw [idxN, if_neg hn]
 rw [e, e]
 cases hi : idxN (⟨nm.toArray⟩ : ByteArray) 1 (recF r).tail with
 | none => rfl
 | some i =>
  have := (idxN_lt _ _ _ _ hi).1
  obtain ⟨j, rfl⟩ : ∃ j, i = j + 1 := ⟨i - 1, by omega⟩
  rfl
theorem flat_congr {α β : Type} {f g : α → List β} : ∀ {l : List α}, (∀ x ∈ l, f x = g x) → l.flatMap f = l.flatMap g
 | [], _ => rfl
 | x :: l, h => by
  rw [List.flatMap_cons, List.flatMap_cons, h x (List.mem_cons_self ..), flat_congr fun y hy => h y (List.mem_cons_of_mem _ hy)]
theorem whyV_k {ns : List (List UInt8)} (h : ∀ nm ∈ ns, nm ≠ bts kinN) (r : RecD) (a b : Int) : whyV (recF (r.k a)) ns = whyV (recF (r.k b)) ns := by
 unfold whyV whyL
 rw [show ns.flatMap (whyW (recF (r.k a))) = ns.flatMap (whyW (recF (r.k b))) from flat_congr fun x hx => whyW_k (h x hx) r a b]
/-- No rule of a table mentions the feature kind. -/
def NoKins (l : List RuleD) : Prop := ∀ r ∈ l, NoKin r.when
theorem applyV_k {l : List RuleD} (h : NoKins l) (r : RecD) {a b : Int} (ha : nbrB a = true) (hb : nbrB b = true) (n : Int) : applyV l (recF (r.k a)) n = applyV l (recF (r.k b)) n := by
 have hx : idxF (holdsB (recF (r.k a))) 0 l = idxF (holdsB (recF (r.k b))) 0 l := idxF_congr l 0 fun x hx => by
  unfold holdsB
  rw [evalV_k (h x hx) r ha hb]
 unfold applyV
 rw [hx]
 cases hi : idxF (holdsB (recF (r.k b))) 0 l with
 | none => rfl
 | some i =>
  have hil := (idx_some _ _ _ _ hi).2.1
  have hil : i < l.length := by omega
  have hm : l.getD i rD ∈ l := by rw [List.getD_eq_getElem?_getD, List.getElem?_eq_getElem hil, Option.getD_some]; exact List.getElem_mem hil
  have hw : whyV (recF (r.k a)) (uniL (l.getD i rD).when.occ) = whyV (recF (r.k b)) (uniL (l.getD i rD).when.occ) := whyV_k (fun nm hnm e => by
   subst e
   rw [mem_uniL] at hnm
   exact noKin_occ (h _ hm) hnm rfl) r a b
  simp only
  rw [hw]
structure NoKinT (t : TabsD) : Prop where
 i : NoKins t.i
 s : NoKins t.s
 m : NoKins t.m
theorem recE_k (r : RecD) : recE (r.k 1) = recE (r.k 2) := rfl
/-- A refund has the fees of the presentment with the same data. -/
theorem assess_k {t : TabsD} (h : NoKinT t) (r : RecD) : (assessV t (r.k 1)).2 = (assessV t (r.k 2)).2 ∧ (((assessV t (r.k 1)).1 = resD ∧ (assessV t (r.k 2)).1 = resD) ∨ ((1 ≤ r.amt ∧ r.amt ≤ 999999999999) ∧ ∃ i s m : LineD, (assessV t (r.k 1)).1 = shareV 1 r.amt i s m ∧ (assessV t (r.k 2)).1 = shareV 2 r.amt i s m ∧ LinI i ∧ LinI s ∧ LinI m)) := by
 have n1 : nbrB 1 = true := by decide
 have n2 : nbrB 2 = true := by decide
 have q1 := assess_cases t (r.k 1)
 have q2 := assess_cases t (r.k 2)
 have e : assessV t (r.k 1) = if recE (r.k 2) ≠ 0 then (resD, recE (r.k 2)) else if tabsE t ≠ 0 then (resD, tabsE t) else
  if (applyV t.i (recF (r.k 2)) r.amt).2 ≠ 0 then (resD, (applyV t.i (recF (r.k 2)) r.amt).2) else
  if (applyV t.s (recF (r.k 2)) r.amt).2 ≠ 0 then (resD, (applyV t.s (recF (r.k 2)) r.amt).2) else
  if (applyV t.m (recF (r.k 2)) r.amt).2 ≠ 0 then (resD, (applyV t.m (recF (r.k 2)) r.amt).2) else
  (shareV 1 r.amt (applyV t.i (recF (r.k 2)) r.amt).1 (applyV t.s (recF (r.k 2)) r.amt).1 (applyV t.m (recF (r.k 2)) r.amt).1, 0) := by
  unfold assessV
  rw [show (r.k 1).amt = r.amt from rfl, applyV_k h.i r n1 n2, applyV_k h.s r n1 n2, applyV_k h.m r n1 n2, recE_k]
  rfl
 have e2 : assessV t (r.k 2) = if recE (r.k 2) ≠ 0 then (resD, recE (r.k 2)) else if tabsE t ≠ 0 then (resD, tabsE t) else
  if (applyV t.i (recF (r.k 2)) r.amt).2 ≠ 0 then (resD, (applyV t.i (recF (r.k 2)) r.amt).2) else
  if (applyV t.s (recF (r.k 2)) r.amt).2 ≠ 0 then (resD, (applyV t.s (recF (r.k 2)) r.amt).2) else
  if (applyV t.m (recF (r.k 2)) r.amt).2 ≠ 0 then (resD, (applyV t.m (recF (r.k 2)) r.amt).2) else
  (shareV 2 r.amt (applyV t.i (recF (r.k 2)) r.amt).1 (applyV t.s (recF (r.k 2)) r.amt).1 (applyV t.m (recF (r.k 2)) r.amt).1, 0) := rfl
 clear q1 q2
 have ht0 := fun h => apply_top (l := t.i) (fs := recF (r.k 2)) (n := r.amt) h
 have ht1 := fun h => apply_top (l := t.s) (fs := recF (r.k 2)) (n := r.amt) h
 have ht2 := fun h => apply_top (l := t.m) (fs := recF (r.k 2)) (n := r.amt) h
 have hra := fun h => rec_amt (r := r.k 2) h
 generalize applyV t.i (recF (r.k 2)) r.amt = A0 at *
 generalize applyV t.s (recF (r.k 2)) r.amt = A1 at *
 generalize applyV t.m (recF (r.k 2)) r.amt = A2 at *
 generalize recE (r.k 2) = RE at *
 rw [e, e2]
 by_cases h0 : RE ≠ 0
 · rw [if_pos h0, if_pos h0]; exact ⟨rfl, Or.inl ⟨rfl, rfl⟩⟩
 rw [if_neg h0, if_neg h0]
 by_cases h1 : tabsE t ≠ 0
 · rw [if_pos h1, if_pos h1]; exact ⟨rfl, Or.inl ⟨rfl, rfl⟩⟩
 rw [if_neg h1, if_neg h1]
 by_cases h2 : A0.2 ≠ 0
 · rw [if_pos h2, if_pos h2]; exact ⟨rfl, Or.inl ⟨rfl, rfl⟩⟩
 rw [if_neg h2, if_neg h2]
 by_cases h3 : A1.2 ≠ 0
 · rw [if_pos h3, if_pos h3]; exact ⟨rfl, Or.inl ⟨rfl, rfl⟩⟩
 rw [if_neg h3, if_neg h3]
 by_cases h4 : A2.2 ≠ 0
 · rw [if_pos h4, if_pos h4]; exact ⟨rfl, Or.inl ⟨rfl, rfl⟩⟩
 rw [if_neg h4, if_neg h4]
 have hr := hra (Decidable.not_not.1 h0)
 exact ⟨rfl, Or.inr ⟨⟨hr.1, hr.2.1⟩, _, _, _, rfl, rfl, ht0 (Decidable.not_not.1 h2), ht1 (Decidable.not_not.1 h3), ht2 (Decidable.not_not.1 h4)⟩⟩
end Go.Proofs.YtmnhmkjmcckneaaGreatDoor
