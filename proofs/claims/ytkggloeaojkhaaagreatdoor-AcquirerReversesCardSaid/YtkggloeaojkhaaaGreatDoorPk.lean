/- A region that draws its order and holds calls that only make memory: each such call may be taken first; the last operation may write. -/
import Derived.Test.YtkggloeaojkhaaaGreatDoorKa
import Derived.OrdersHeld
namespace Go.Proofs.YtkggloeaojkhaaaGreatDoor
open Go.RowKit
section
variable {P : Program} {ops : Array Oper} {Q : Exit → Act → World → Prop} {md : Region.Mode}
/-- In every later world the operation yields v, or calls a function that returns v and only adds. -/
def DoesIf (P : Program) (ops : Array Oper) (o : Oper) (v : Value) (a : Act) (w : World) : Prop :=
 Region.wanted o (yielded ops a.tmps) = true ∧ ∀ w', Ext w w' → ((execOp a.eval o).run P w' = .ok (.value v) w' ∨ ∃ f args, (execOp a.eval o).run P w' = .ok (.enter f args) w' ∧ Calls P f args w' fun e w'' => e = .returned v ∧ Ext w' w'')
/-- The state a' is to the operation as a is. -/
def AlikeTo (ops : Array Oper) (o : Oper) (a a' : Act) : Prop := execOp a'.eval o = execOp a.eval o ∧ Region.wanted o (yielded ops a'.tmps) = Region.wanted o (yielded ops a.tmps)
theorem DoesIf.alike {o : Oper} {v : Value} {a a' : Act} {w w' : World} (h : DoesIf P ops o v a w) (k : AlikeTo ops o a a') (hE : Ext w w') : DoesIf P ops o v a' w' := by
 unfold DoesIf
 rw [k.1, k.2]
 exact ⟨h.1, fun w2 h2 => h.2 w2 (hE.trans h2)⟩
theorem DoesIf.step {i : Nat} {o : Oper} {v : Value} {a : Act} {w : World} (hi : ops[i]? = some o) (h : DoesIf P ops o v a w) {K : Act → World → Prop} (hK : ∀ w', Ext w w' → K (a.put o.dst v) w') : wpOp P ops Q i K a w := by
 unfold wpOp
 simp only [hi]
 rw [if_pos h.1]
 refine .inl ?_
 unfold Oper.wp
 rcases h.2 w (Ext.refl _) with h1 | ⟨f, args, h1, hc⟩
 · rw [h1]
   exact hK w (Ext.refl _)
 · rw [h1, Oper.upon_enter]
   exact hc.mono fun e w' ⟨h2, h3⟩ => by subst h2; exact hK w' h3
theorem act_alike {oi oj : Oper} (hsi : ∀ cs b, oi.op ≠ .select cs b) (h3 : ∀ d, oj.dst = some d → d ∉ oi.looksAt ops) (a : Act) (u : Value) : AlikeTo ops oi a (a.put oj.dst u) :=
 ⟨execOp_put oi hsi a oj.dst u h3, wanted_put oi a oj.dst u h3⟩
/-- An operation that is apart from another goes behind it as ahead of it. -/
theorem grow_comm {j : Nat} {oi oj : Oper} {v : Value} (hj : ops[j]? = some oj) (hap : oi.apart ops oj = true) (hsi : ∀ cs b, oi.op ≠ .select cs b) (hsj : ∀ cs b, oj.op ≠ .select cs b)
 (hQ : ∀ c a w, Q (.panic c) (a.put oi.dst v) w → Q (.panic c) a w) {K : Act → World → Prop} {a : Act} {w : World} (h : wpOp P ops Q j K (a.put oi.dst v) w) :
 wpOp P ops Q j (fun a' w' => AlikeTo ops oi a a' ∧ K (a'.put oi.dst v) w') a w := by
 obtain ⟨h1, h2, h3⟩ := Oper.apart_spec hap
 have al := act_alike (ops := ops) (oi := oi) (oj := oj) hsi h3
 have ex := execOp_put oj hsj a oi.dst v h1
 have co : ∀ u, (a.put oi.dst v).put oj.dst u = (a.put oj.dst u).put oi.dst v := fun u => Act.put_comm a v u h2
 unfold wpOp at h ⊢
 simp only [hj] at h ⊢
 rw [wanted_put oj a oi.dst v h1] at h
 by_cases hw : Region.wanted oj (yielded ops a.tmps) = true
 · rw [if_pos hw] at h ⊢
   rcases h with h | ⟨hasks, hlets⟩
   · refine .inl ?_
     unfold Oper.wp at h ⊢
     rw [ex] at h
     cases hr : (execOp a.eval oj).run P w with
     | ok n w' =>
      rw [hr] at h
      cases n with
      | value u => exact ⟨al a u, by rw [← co u]; exact h⟩
      | skip => exact ⟨al a undef, by rw [← co undef]; exact h⟩
      | defer d =>
       refine ⟨⟨(al { a with defers := d :: a.defers } undef).1, (al { a with defers := d :: a.defers } undef).2⟩, ?_⟩
       have c2 := Act.put_comm { a with defers := d :: a.defers } v undef h2
       rw [← c2]
       rw [← Act.put_defers]
       exact h
      | enter f args =>
       rw [Oper.upon_enter] at h ⊢
       refine Calls.mono h fun e w2 he => ?_
       cases e with
       | returned u => exact ⟨al a u, by rw [← co u]; exact he⟩
       | panicked c => exact hQ _ _ _ he
       | outgrown => exact he
      | row row args => exact Rows.mono h fun u w2 he => ⟨al a u, by rw [← co u]; exact he⟩
      | _ => exact h
     | halt x w' =>
      rw [hr] at h
      cases x with
      | panic u => exact hQ _ _ _ h
      | _ => exact h
   · exact .inr ⟨by unfold Oper.asks at hasks ⊢; rw [ex] at hasks; exact hasks, hlets⟩
 · rw [if_neg hw] at h ⊢
   exact ⟨al a undef, by rw [← co undef]; exact h⟩
/-- The operation waits for all others. -/
def lastly (md : Region.Mode) (ops : Array Oper) (j : Nat) : Bool := (List.range ops.size).all fun k => k == j || (match ops[j]? with | some o => o.after.any (fun e => Region.binds md e && e.on == k) | none => false)
theorem lastly_spec {md : Region.Mode} {ops : Array Oper} {i j : Nat} {oj : Oper} (h : lastly md ops j = true) (hj : ops[j]? = some oj) (hi : i < ops.size) (hne : i ≠ j) : ∃ e ∈ oj.after, Region.binds md e = true ∧ e.on = i := by
 unfold lastly at h
 have h1 := List.all_eq_true.1 h i (List.mem_range.2 hi)
 rw [hj] at h1
 simp only [Bool.or_eq_true, beq_iff_eq] at h1
 rcases h1 with h1 | h1
 · exact absurd h1 hne
 · obtain ⟨k, hk, h2⟩ := Array.any_eq_true.1 h1
   simp only [Bool.and_eq_true, beq_iff_eq] at h2
   exact ⟨_, Array.getElem_mem hk, h2.1, h2.2⟩
/-- What is left of the region, in every later world. -/
def wpGrow (P : Program) (md : Region.Mode) (ops : Array Oper) (Q : Exit → Act → World → Prop) : Nat → Array Bool → Act → World → Prop
 | 0, listed, a, w => Region.ready md ops listed = [] ∧ ∀ w', Ext w w' → Q .normal a w'
 | fuel + 1, listed, a, w => ∀ w', Ext w w' → (Region.ready md ops listed = [] → Q .normal a w') ∧
  ∀ j ∈ Region.ready md ops listed, wpOp P ops Q j (fun a' w2 => (Ext w' w2 ∨ lastly md ops j = true) ∧ wpGrow P md ops Q fuel (listed.setIfInBounds j true) a' w2) a w'
theorem wpGrow.up : ∀ {fuel : Nat} {listed : Array Bool} {a : Act} {w w' : World}, wpGrow P md ops Q fuel listed a w → Ext w w' → wpGrow P md ops Q fuel listed a w'
 | 0, _, _, _, _, h, k => ⟨h.1, fun w2 h2 => h.2 w2 (k.trans h2)⟩
 | _ + 1, _, _, _, _, h, k => fun w2 h2 => h w2 (k.trans h2)
theorem wpGrow.any : ∀ {fuel : Nat} {listed : Array Bool} {a : Act} {w : World}, wpGrow P md ops Q fuel listed a w → wpAny P md ops Q fuel listed a w
 | 0, _, _, w, h => ⟨h.1, h.2 w (Ext.refl _)⟩
 | _ + 1, _, _, w, h => ⟨(h w (Ext.refl _)).1, fun j hj => wpOp_mono (fun _ _ h' => h'.2.any) ((h w (Ext.refl _)).2 j hj)⟩
theorem grow_first {i : Nat} {oi : Oper} {v : Value} (hi : ops[i]? = some oi) (hsel : ∀ (j : Nat) (o : Oper) cs b, ops[j]? = some o → o.op ≠ .select cs b)
 (hQ : ∀ c a w, Q (.panic c) (a.put oi.dst v) w → Q (.panic c) a w) : ∀ (fuel : Nat) (listed : Array Bool) (a : Act) (w : World),
  (∀ j oj, ops[j]? = some oj → j ≠ i → listed.getD j true = false → (∀ e ∈ oj.after, Region.binds md e = true → e.on ≠ i) → oi.apart ops oj = true) →
  i ∈ Region.ready md ops listed → DoesIf P ops oi v a w → wpGrow P md ops Q fuel (listed.setIfInBounds i true) (a.put oi.dst v) w → wpGrow P md ops Q (fuel + 1) listed a w := by
 intro fuel
 induction fuel with
 | zero =>
  intro listed a w _ hr hd H w' hE
  refine ⟨fun h => (by rw [h] at hr; cases hr), fun j hj => ?_⟩
  by_cases hji : j = i
  · subst hji
    exact (hd.alike ⟨rfl, rfl⟩ hE).step hi fun w2 h2 => ⟨Or.inl h2, H.up (hE.trans h2)⟩
  · have h0 := ready_mono hj hji
    rw [H.1] at h0
    cases h0
 | succ fuel ih =>
  intro listed a w hfree hr hd H w' hE
  refine ⟨fun h => (by rw [h] at hr; cases hr), fun j hj => ?_⟩
  by_cases hji : j = i
  · subst hji
    exact (hd.alike ⟨rfl, rfl⟩ hE).step hi fun w2 h2 => ⟨Or.inl h2, H.up (hE.trans h2)⟩
  · have h1 := (H w' hE).2 j (ready_mono hj hji)
    obtain ⟨hjun, oj, hoj, hall⟩ := mem_ready.1 hj
    have h0 := (mem_ready.1 hr).1
    have hnot : ∀ e ∈ oj.after, Region.binds md e = true → e.on ≠ i := fun e he hb heq => by
     have h2 := hall e he hb
     rw [heq] at h2
     rcases Nat.lt_or_ge i listed.size with h' | h'
     · simp [h'] at h0 h2
       rw [h0] at h2
       cases h2
     · simp [Array.getElem?_eq_none h'] at h2
    have h2 := grow_comm hoj (hfree j oj hoj hji hjun hnot) (fun cs b => hsel i oi cs b hi) (fun cs b => hsel j oj cs b hoj) hQ h1
    have hfree' : ∀ k ok, ops[k]? = some ok → k ≠ i → (listed.setIfInBounds j true).getD k true = false →
     (∀ e ∈ ok.after, Region.binds md e = true → e.on ≠ i) → oi.apart ops ok = true := fun k ok hk hki hun hno => by
     refine hfree k ok hk hki ?_ hno
     by_cases hjk : j = k
     · subst hjk; exact hjun
     · rw [getD_set_ne true hjk] at hun; exact hun
    have hri := ready_mono hr (Ne.symm hji)
    have hExt : ∀ {w2 : World}, (Ext w' w2 ∨ lastly md ops j = true) → Ext w' w2 := fun h => h.elim id fun h => by
     exfalso
     obtain ⟨e, he, hb, heq⟩ := lastly_spec h hoj (Array.getElem?_eq_some_iff.1 hi).1 (Ne.symm hji)
     exact hnot e he hb heq
    refine wpOp_mono (fun a' w2 h3 => ⟨h3.2.1, ih (listed.setIfInBounds j true) a' w2 hfree' hri (hd.alike h3.1 (hE.trans (hExt h3.2.1))) ?_⟩) h2
    rw [Array.setIfInBounds_comm _ _ hji]
    exact h3.2.2
theorem grow_take {i : Nat} {oi : Oper} {v : Value} {fuel : Nat} {listed : Array Bool} {a : Act} {w : World} (hi : ops[i]? = some oi) (hs : Region.noSelect ops = true) (hf : Region.free md ops listed i = true)
 (hr : (Region.ready md ops listed).contains i = true) (hQ : ∀ c a w, Q (.panic c) (a.put oi.dst v) w → Q (.panic c) a w) (hd : DoesIf P ops oi v a w)
 (h : wpGrow P md ops Q fuel (listed.setIfInBounds i true) (a.put oi.dst v) w) : wpGrow P md ops Q (fuel + 1) listed a w :=
 grow_first hi (Region.noSelect_spec hs) hQ fuel listed a w (Region.free_spec hi hf) (by simpa using hr) hd h
theorem grow_one {i : Nat} {oi : Oper} {fuel : Nat} {listed : Array Bool} {a : Act} {w : World} (hi : ops[i]? = some oi) (hr : Region.ready md ops listed = [i]) (hw : Region.wanted oi (yielded ops a.tmps) = true)
 (h : ∀ w', Ext w w' → Oper.wp P oi a w' (fun a' w2 => (Ext w' w2 ∨ lastly md ops i = true) ∧ wpGrow P md ops Q fuel (listed.setIfInBounds i true) a' w2) Q) : wpGrow P md ops Q (fuel + 1) listed a w := fun w' hE => by
 refine ⟨fun h0 => (by rw [hr] at h0; cases h0), fun j hj => ?_⟩
 rw [hr] at hj
 obtain rfl := List.mem_singleton.1 hj
 unfold wpOp
 simp only [hi]
 rw [if_pos hw]
 exact .inl (h w' hE)
theorem grow_two {i j : Nat} {oi oj : Oper} {fuel : Nat} {listed : Array Bool} {a : Act} {w : World} (hi : ops[i]? = some oi) (hj : ops[j]? = some oj) (hr : Region.ready md ops listed = [i, j]) (hwi : Region.wanted oi (yielded ops a.tmps) = true) (hwj : Region.wanted oj (yielded ops a.tmps) = true)
 (h1 : ∀ w', Ext w w' → Oper.wp P oi a w' (fun a' w2 => (Ext w' w2 ∨ lastly md ops i = true) ∧ wpGrow P md ops Q fuel (listed.setIfInBounds i true) a' w2) Q)
 (h2 : ∀ w', Ext w w' → Oper.wp P oj a w' (fun a' w2 => (Ext w' w2 ∨ lastly md ops j = true) ∧ wpGrow P md ops Q fuel (listed.setIfInBounds j true) a' w2) Q) : wpGrow P md ops Q (fuel + 1) listed a w := fun w' hE => by
 refine ⟨fun h0 => (by rw [hr] at h0; cases h0), fun k hk => ?_⟩
 rw [hr] at hk
 simp only [List.mem_cons, List.not_mem_nil, or_false] at hk
 rcases hk with rfl | rfl
 · unfold wpOp
   simp only [hi]
   rw [if_pos hwi]
   exact .inl (h1 w' hE)
 · unfold wpOp
   simp only [hj]
   rw [if_pos hwj]
   exact .inl (h2 w' hE)
theorem grow_end {listed : Array Bool} {a : Act} {w : World} (hr : Region.ready md ops listed = []) (h : ∀ w', Ext w w' → Q .normal a w') : ∀ fuel, wpGrow P md ops Q fuel listed a w
 | 0 => ⟨hr, h⟩
 | _ + 1 => fun w' hE => ⟨fun _ => h w' hE, by rw [hr]; simp⟩
theorem wp_region_grow {id : Nat} {a : Act} {w : World} (hm : P.follows .mixedOrders = true) (h : wpGrow P .any ops Q ops.size (Array.replicate ops.size false) a w.drew) : (Code.region id ops true).wp P Q a w :=
 wp_region_any hm h.any
end
end Go.Proofs.YtkggloeaojkhaaaGreatDoor
