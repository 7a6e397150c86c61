/- A region that draws its order: loads that may come late, a chain of calls, and a last store into a cell that the region loads. -/
import Derived.Test.YtangdoidkcelfaaGreatDoorProg
import Derived.WalkKit
import Derived.Deep.RegionHeld3
import Derived.StillTailTactics
namespace Go.Proofs.YtangdoidkcelfaaGreatDoor
open Go.RowKit
section
variable {P : Program} {ops : Array Oper} {Q : Exit → Act → World → Prop} {md : Region.Mode} {S : World → Prop} {last : Nat}
/-- Whatever order is picked; S holds behind every operation but the last one. -/
def wpAnyG (P : Program) (md : Region.Mode) (ops : Array Oper) (Q : Exit → Act → World → Prop) (S : World → Prop) (last : Nat) : Nat → Array Bool → Act → World → Prop
 | 0, listed, a, w => Region.ready md ops listed = [] ∧ Q .normal a w
 | fuel + 1, listed, a, w => (Region.ready md ops listed = [] → Q .normal a w) ∧
  ∀ i ∈ Region.ready md ops listed, wpOp P ops Q i (fun a' w' => (i ≠ last → S w') ∧ wpAnyG P md ops Q S last fuel (listed.setIfInBounds i true) a' w') a w
theorem wpAny_of_G : ∀ (fuel : Nat) (listed : Array Bool) (a : Act) (w : World), wpAnyG P md ops Q S last fuel listed a w → wpAny P md ops Q fuel listed a w
 | 0, _, _, _, h => h
 | fuel + 1, _, _, _, h => ⟨h.1, fun i hi => wpOp_mono (fun a' w' h' => wpAny_of_G fuel _ a' w' h'.2) (h.2 i hi)⟩
theorem wpAnyG_first {i : Nat} {oi : Oper} {v : Value} (hi : ops[i]? = some oi) (hsel : ∀ (j : Nat) (o : Oper) cs b, ops[j]? = some o → o.op ≠ .select cs b)
 (hQ : ∀ c a w, Q (.panic c) (a.put oi.dst v) w → Q (.panic c) a w) (hlast : Region.waitsFor md ops last i = true) (hil : i ≠ last) :
 ∀ (fuel : Nat) (listed : Array Bool) (a : Act) (w : World),
  (∀ j oj, ops[j]? = some oj → j ≠ i → listed.getD j true = false → (∀ e ∈ oj.after, Region.binds md e = true → e.on ≠ i) → oi.apart ops oj = true) →
  i ∈ Region.ready md ops listed → YieldsIf P ops S oi v a → S w →
  wpAnyG P md ops Q S last fuel (listed.setIfInBounds i true) (a.put oi.dst v) w → wpAnyG P md ops Q S last (fuel + 1) listed a w := by
 intro fuel
 induction fuel with
 | zero =>
  intro listed a w _ hr hy hS H
  refine ⟨fun h => (by rw [h] at hr; cases hr), fun j hj => ?_⟩
  by_cases hji : j = i
  · subst hji; exact hy.wpOp hi hS ⟨fun _ => hS, H⟩
  · have := ready_mono hj hji
    rw [H.1] at this
    cases this
 | succ fuel ih =>
  intro listed a w hfree hr hy hS H
  refine ⟨fun h => (by rw [h] at hr; cases hr), fun j hj => ?_⟩
  by_cases hji : j = i
  · subst hji; exact hy.wpOp hi hS ⟨fun _ => hS, H⟩
  · have h1 := H.2 j (ready_mono hj hji)
    obtain ⟨hjun, oj, hoj, hall⟩ := mem_ready.1 hj
    have hnot : ∀ e ∈ oj.after, Region.binds md e = true → e.on ≠ i := fun e he hb heq => by
     have h1 := hall e he hb
     have h0 := (mem_ready.1 hr).1
     rw [heq, getD_both h0] at h1
     cases h1
    have hjl : j ≠ last := by
     intro e
     subst e
     obtain ⟨o', ho', e, he, hb, hon⟩ := Region.waitsFor_spec hlast
     have : o' = oj := Option.some.inj (ho'.symm.trans hoj)
     subst this
     exact hnot e he hb hon
    have h2 := wpOp_putIf hoj (hfree j oj hoj hji hjun hnot) (fun cs b => hsel i oi cs b hi) (fun cs b => hsel j oj cs b hoj) hQ hy h1
    have hfree' : ∀ k ok, ops[k]? = some ok → k ≠ i → (listed.setIfInBounds j true).getD k true = false →
     (∀ e ∈ ok.after, Region.binds md e = true → e.on ≠ i) → oi.apart ops ok = true := fun k ok hk hki hun hno => by
     refine hfree k ok hk hki ?_ hno
     by_cases hjk : j = k
     · subst hjk; exact hjun
     · rw [getD_set_ne true hjk] at hun; exact hun
    refine wpOp_mono (fun a' w' h3 => ⟨fun _ => h3.2.1 hjl, ih (listed.setIfInBounds j true) a' w' hfree' (ready_mono hr (Ne.symm hji)) h3.1 (h3.2.1 hjl) ?_⟩) h2
    rw [Array.setIfInBounds_comm _ _ hji]
    exact h3.2.2
/-- The head's operations, each of which yields its value wherever S holds. -/
def HeldHead (P : Program) (ops : Array Oper) (S : World → Prop) (aF : Act) : List Oper → Act → Prop
 | [], a => a = aF
 | o :: rest, a => ∃ v, YieldsIf P ops S o v a ∧ HeldHead P ops S aF rest (a.put o.dst v)
theorem HeldHead.nil {aF : Act} : HeldHead P ops S aF [] aF := rfl
theorem HeldHead.cons {aF a : Act} {o : Oper} {rest : List Oper} (v : Value) (hw : Region.wanted o (yielded ops a.tmps) = true) (hv : ∀ w, S w → (execOp a.eval o).run P w = .ok (.value v) w) (h : HeldHead P ops S aF rest (a.put o.dst v)) : HeldHead P ops S aF (o :: rest) a := ⟨v, Or.inl ⟨hw, hv⟩, h⟩
theorem wp_postE {o : Oper} {a : Act} {w : World} {K : Act → World → Prop} {Q2 : Exit → Act → World → Prop} (hp : ∀ c a w, Q (.panic c) a w → Q2 (.panic c) a w) (ho : LetsOut Q → LetsOut Q2) (hh : o.wp P a w K Q) : o.wp P a w K Q2 := by
 unfold Oper.wp at *
 generalize (execOp a.eval o).run P w = r at *
 cases r with
 | ok n w' =>
  cases n <;> simp only [Oper.upon] at hh ⊢ <;>
   first
    | exact hh
    | exact Calls.mono hh (fun e w'' he => by cases e <;> first | exact he | exact hp _ _ _ he | exact ho he)
 | halt x w' => cases x <;> simp only [Oper.upon] at hh ⊢ <;> first | exact hh | exact hp _ _ _ hh
/-- Behind an operation: S, and what follows. -/
def ThenS (S : World → Prop) (K : Act → World → Prop) (Q : Exit → Act → World → Prop) : Exit → Act → World → Prop
 | .normal, a, w => S w ∧ K a w
 | e, a, w => Q e a w
theorem ThenS.mk {S : World → Prop} {K : Act → World → Prop} {a : Act} {w : World} (hS : S w) (h : K a w) : ThenS S K Q .normal a w := ⟨hS, h⟩
/-- The tail, one after the other; S behind each but the last one. -/
def wpTail (P : Program) (ops : Array Oper) (Q : Exit → Act → World → Prop) (S : World → Prop) : List Oper → Act → World → Prop
 | [], a, w => Q .normal a w
 | [o], a, w => wpList P ops Q [o] a w
 | o :: o2 :: rest, a, w => wpList P ops (ThenS S (wpTail P ops Q S (o2 :: rest)) Q) [o] a w
theorem wpTail_one {o : Oper} {a : Act} {w : World} (h : wpList P ops Q [o] a w) : wpTail P ops Q S [o] a w := h
theorem wpTail_cons {o o2 : Oper} {rest : List Oper} {a : Act} {w : World} (h : wpList P ops (ThenS S (wpTail P ops Q S (o2 :: rest)) Q) [o] a w) : wpTail P ops Q S (o :: o2 :: rest) a w := h
theorem wpOp_thenS {k : Nat} {o : Oper} {a : Act} {w : World} {K : Act → World → Prop} (h0 : ops[k]? = some o) (h : wpList P ops (ThenS S K Q) [o] a w) : wpOp P ops Q k (fun a' w' => S w' ∧ K a' w') a w := by
 unfold wpOp
 simp only [h0]
 simp only [wpList] at h
 split
 · rename_i hw
   simp only [hw, if_true] at h
   exact h.imp (fun h => wp_postE (fun _ _ _ h => h) (fun h => h) h) (fun h => ⟨h.1, h.2⟩)
 · rename_i hw
   simp only [hw] at h
   exact h
def headOK (md : Region.Mode) (ops : Array Oper) (last g : Nat) : Nat → Nat → Array Bool → Bool
 | 0, k, listed => Region.seqB md ops g k listed
 | f + 1, k, listed => (Region.ready md ops listed).contains k && Region.free md ops listed k && Region.waitsFor md ops last k && decide (k ≠ last) && headOK md ops last g f (k + 1) (listed.setIfInBounds k true)
theorem wpAnyG_tail : ∀ (l : List Oper) (k : Nat) (listed : Array Bool) (a : Act) (w : World), (∀ j, l[j]? = ops[k + j]?) → k + l.length = last + 1 →
 Region.seqB md ops l.length k listed = true → wpTail P ops Q S l a w → wpAnyG P md ops Q S last l.length listed a w
 | [], _, _, _, _, _, _, hB, h => ⟨by simpa [Region.seqB] using hB, h⟩
 | [o], k, listed, a, w, hl, hk, hB, h => by
  have h0 : ops[k]? = some o := by simpa using (hl 0).symm
  simp only [List.length_cons, List.length_nil, Region.seqB, Bool.and_eq_true, decide_eq_true_eq] at hB hk
  refine ⟨fun h1 => (by rw [hB.1] at h1; cases h1), fun i hi => ?_⟩
  rw [hB.1] at hi
  have hik : i = k := by simpa using hi
  subst hik
  have hw : wpOp P ops Q i (wpList P ops Q []) a w := by unfold wpOp; simp only [h0]; exact h
  exact wpOp_mono (fun a' w' h' => ⟨fun hne => absurd (by omega) hne, by simpa using hB.2, h'⟩) hw
 | o :: o2 :: rest, k, listed, a, w, hl, hk, hB, h => by
  have h0 : ops[k]? = some o := by simpa using (hl 0).symm
  rw [List.length_cons] at hB ⊢
  simp only [Region.seqB, Bool.and_eq_true, decide_eq_true_eq] at hB
  refine ⟨fun h1 => (by rw [hB.1] at h1; cases h1), fun i hi => ?_⟩
  rw [hB.1] at hi
  have hik : i = k := by simpa using hi
  subst hik
  refine wpOp_mono (fun a' w' h' => ⟨fun _ => h'.1, ?_⟩) (wpOp_thenS h0 h)
  exact wpAnyG_tail (o2 :: rest) (i + 1) _ a' w' (fun j => by have := hl (j + 1); simpa [Nat.add_assoc, Nat.add_comm 1 j] using this) (by simp only [List.length_cons] at hk ⊢; omega) hB.2 h'.2
theorem wpAnyG_head (hsel : Region.noSelect ops = true) (hQ : ∀ c a w, ¬ Q (.panic c) a w) (tl : List Oper) (n : Nat) (htl : ∀ j, tl[j]? = ops[n + j]?) (hn : n + tl.length = last + 1) (aF : Act) :
 ∀ (l : List Oper) (k : Nat) (listed : Array Bool) (a : Act) (w : World), (∀ j, j < l.length → l[j]? = ops[k + j]?) → k + l.length = n → headOK md ops last tl.length l.length k listed = true → S w → HeldHead P ops S aF l a →
 wpTail P ops Q S tl aF w → wpAnyG P md ops Q S last (l.length + tl.length) listed a w
 | [], k, listed, a, w, _, hk, hB, _, h, ht => by
  have : k = n := by simpa using hk
  subst this
  have e : a = aF := h
  subst e
  rw [List.length_nil, Nat.zero_add]
  exact wpAnyG_tail tl k listed a w htl hn (by simpa [headOK] using hB) ht
 | o :: l, k, listed, a, w, hl, hk, hB, hS, h, ht => by
  have h0 : ops[k]? = some o := by simpa using (hl 0 (by simp)).symm
  simp only [List.length_cons, headOK, Bool.and_eq_true, decide_eq_true_eq] at hB
  obtain ⟨⟨⟨⟨hr, hf⟩, hwt⟩, hne⟩, hB'⟩ := hB
  have hr' : k ∈ Region.ready md ops listed := by simpa using hr
  obtain ⟨v, hy, hK⟩ := h
  rw [List.length_cons, show l.length + 1 + tl.length = (l.length + tl.length) + 1 by omega]
  exact wpAnyG_first h0 (Region.noSelect_spec hsel) (fun c a w h => absurd h (hQ c _ w)) hwt hne (l.length + tl.length) listed a w (Region.free_spec h0 hf) hr' hy hS
   (wpAnyG_head hsel hQ tl n htl hn aF l (k + 1) _ _ w (fun j hj => by have := hl (j + 1) (by simp; omega); simpa [Nat.add_assoc, Nat.add_comm 1 j] using this) (by simp only [List.length_cons] at hk; omega) hB' hS hK ht)
/-- The region: its first n operations yield what they yield wherever S holds; the others come one after the other; S is shown behind each but the last one, which waits for all. -/
theorem wp_region_late {id : Nat} {a : Act} {w : World} {l : List Oper} (n : Nat) (S : World → Prop) (hm : P.follows .mixedOrders = true)
 (hB : (Region.noSelect l.toArray && decide (n < l.length) && headOK .any l.toArray (l.length - 1) (l.length - n) n 0 (Array.replicate l.length false)) = true)
 (hS : S w.drew) (aF : Act) (hh : HeldHead P l.toArray S aF (l.take n) a) (ht : wpTail P l.toArray (NoPanic Q) S (l.drop n) aF w.drew) : (Code.region id l.toArray true).wp P Q a w := by
 simp only [Bool.and_eq_true, decide_eq_true_eq] at hB
 obtain ⟨⟨hsel, hn⟩, hlex⟩ := hB
 refine wp_region_noPanic (wp_region_any hm ?_)
 have htl : (l.take n).length = n := by simp; omega
 have hdl : (l.drop n).length = l.length - n := by simp
 have H := wpAnyG_head (md := .any) (last := l.length - 1) (Q := NoPanic Q) hsel (fun c a w h => h) (l.drop n) n (fun j => by simp [List.getElem?_drop]) (by rw [hdl]; omega) aF (l.take n) 0 (Array.replicate l.length false) a w.drew (fun j hj => by
  have hj' : j < n := by rw [htl] at hj; exact hj
  simp [hj']) (by simpa using htl) (by rw [htl, hdl]; exact hlex) hS hh ht
 rw [htl, hdl, show n + (l.length - n) = l.length by omega] at H
 have := wpAny_of_G _ _ _ _ H
 simpa using this
end
end Go.Proofs.YtangdoidkcelfaaGreatDoor
