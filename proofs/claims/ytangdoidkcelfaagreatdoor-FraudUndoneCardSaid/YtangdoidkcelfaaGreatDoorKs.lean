/- What New has built behind each of its steps: an engine under way. -/
import Derived.Test.YtangdoidkcelfaaGreatDoorKr
import Derived.Laws.OwnMore
import Derived.Tactics
namespace Go.Proofs.YtangdoidkcelfaaGreatDoor
open Go.RowKit Go.Sort
theorem ownsRow_ne {w : World} {b1 b2 s1 s2 n1 n2 : Nat} {T1 T2 : TypeId} {v1 v2 : Value} {x1 x2 : List Value} (h1 : w.ownsRow b1 T1 s1 v1 n1 x1) (h2 : w.ownsRow b2 T2 s2 v2 n2 x2) (hT : T1 ≠ T2) (j : Nat) (hj : v1.ownBlock = some j) : v2.ownBlock ≠ some j := by
 intro hj2
 obtain ⟨-, ⟨hv, -⟩ | ⟨g, cap, cur, hv, -, hg, -⟩⟩ := h1
 · rw [hv] at hj; cases hj
 · obtain ⟨-, ⟨hv2, -⟩ | ⟨g2, cap2, cur2, hv2, -, hg2, -⟩⟩ := h2
   · rw [hv2] at hj2; cases hj2
   · rw [hv] at hj
     rw [hv2] at hj2
     injection hj with hj
     injection hj2 with hj2
     have hj : g = j := hj
     have hj2 : g2 = j := hj2
     subst hj
     subst hj2
     rw [hg] at hg2
     injection hg2 with hg2
     injection hg2 with _ hg2
     exact hT hg2
/-- The rules that were appended: their own row, their arguments in blocks of their own. -/
def RowsN (w : World) (X : Nat) (rv tv : Value) (ys : List FrR) (us : List Value) : Prop :=
 us.length = ys.length ∧ w.ownsRow (X + 1) 46 8 rv ys.length (frFlat ys us) ∧ ∀ i, i < ys.length → ExB w (fun j => X < j ∧ rv.ownBlock ≠ some j ∧ tv.ownBlock ≠ some j) (us.getD i (.slice none 0 0)) (ys.getD i frD).when.args
def NewX (w : World) (X : Nat) (refer decline h : Int) (rv tv : Value) : Prop := Blk w X #[.pointer none, .int .i64 h, .int .i64 0, .slice none 0 0, rv, tv, .int .i64 refer, .int .i64 decline] 91
def TagsN (w : World) (X : Nat) (tv : Value) (acc : List (List UInt8)) : Prop := w.ownsRow (X + 1) 9 1 tv acc.length (acc.map encStr)
/-- An engine under way: the rules ys, the names acc, the horizon h. -/
def NewS (w0 : World) (X : Nat) (refer decline : Int) (ys : List FrR) (acc : List (List UInt8)) (h : Int) (w : World) : Prop :=
 Ext w0 w ∧ w0.heap.size ≤ X ∧ ys.length ≤ 1000000 ∧ ∃ rv tv us, NewX w X refer decline h rv tv ∧ RowsN w X rv tv ys us ∧ TagsN w X tv acc
theorem NewS.ext {w0 : World} {X : Nat} {refer decline : Int} {ys : List FrR} {acc : List (List UInt8)} {h : Int} {w w' : World} (hN : NewS w0 X refer decline ys acc h w) (k : Ext w w') : NewS w0 X refer decline ys acc h w' := by
 obtain ⟨h1, h2, h3, rv, tv, us, h4, ⟨h5, h6, h7⟩, h8⟩ := hN
 exact ⟨h1.trans k, h2, h3, rv, tv, us, Blk.ext h4 k, ⟨h5, ownsRow_extE h6 k, fun i hi => (h7 i hi).ext k⟩, ownsRow_extE h8 k⟩
theorem own_form {w : World} {b s : Nat} {T : TypeId} {v : Value} {n : Nat} {xs : List Value} (h : w.ownsRow b T s v n xs) : ∃ p c, v = .slice p n c := by
 obtain ⟨_, ⟨h, h0⟩ | ⟨g, cap, cur, hv, _⟩⟩ := h
 · exact ⟨none, 0, by rw [h0]; exact h⟩
 · exact ⟨_, _, hv⟩
/-- One cell of the engine's block is stored: rows are kept. -/
theorem rowsN_set {w : World} {X : Nat} {rv tv : Value} {ys : List FrR} {us : List Value} (h : RowsN w X rv tv ys us) (o : Nat) (v : Value) : RowsN (w.setCell ⟨X, o, none⟩ v) X rv tv ys us := by
 obtain ⟨h1, h2, h3⟩ := h
 have hC : Chg (fun k => k = X) w (w.setCell ⟨X, o, none⟩ v) := (Chg.refl (fun k => k = X) w).setCell (p := ⟨X, o, none⟩) (Or.inl rfl) v
 exact ⟨h1, ownsRow_chg h2 hC (fun b hb e => by have := (h2.lt b hb).1; omega), fun i hi => (h3 i hi).chg hC (fun j hj e => by omega)⟩
theorem tagsN_set {w : World} {X : Nat} {tv : Value} {acc : List (List UInt8)} (h : TagsN w X tv acc) (o : Nat) (v : Value) : TagsN (w.setCell ⟨X, o, none⟩ v) X tv acc :=
 ownsRow_chg h ((Chg.refl (fun k => k = X) w).setCell (p := ⟨X, o, none⟩) (Or.inl rfl) v) (fun b hb e => by have := (h.lt b hb).1; omega)
/-- A rule is appended, and the list stored. -/
theorem newS_rule {w0 W w5 : World} {X gg cap : Nat} {refer decline h : Int} {ys : List FrR} {acc : List (List UInt8)} {rv tv u : Value} {us : List Value} {y : FrR} (hE : Ext w0 W) (hX0 : w0.heap.size ≤ X) (hl : ys.length < 1000000) (hX : NewX W X refer decline h rv tv) (hR : RowsN W X rv tv ys us) (hT : TagsN W X tv acc)
 (hu : ExB W (fun j => X < j ∧ rv.ownBlock ≠ some j ∧ tv.ownBlock ≠ some j) u y.when.args) (cs : Array Value) (hg : (W.alloc (.cells cs 46)).grownBy w5 rv.ownBlock) (hat : rv.ownBlock = some gg ∨ gg = W.heap.size + 1)
 (hown : w5.ownsRow (X + 1) 46 8 (.slice (some ⟨gg, 0, none⟩) (ys.length + 1) cap) (ys.length + 1) (frFlat ys us ++ frCells y u)) :
 NewX w5 X refer decline h rv tv ∧ ExS (w5.setCell ⟨X, 4, none⟩ (.slice (some ⟨gg, 0, none⟩) (ys.length + 1) cap)) u y.when.args ∧ (∀ B cs T, Blk W B cs T → B ≠ X → rv.ownBlock ≠ some B → Blk (w5.setCell ⟨X, 4, none⟩ (.slice (some ⟨gg, 0, none⟩) (ys.length + 1) cap)) B cs T) ∧ ∀ w6, Ext (w5.setCell ⟨X, 4, none⟩ (.slice (some ⟨gg, 0, none⟩) (ys.length + 1) cap)) w6 → NewS w0 X refer decline (ys ++ [y]) acc h w6 := by
 obtain ⟨h1, h2, h3⟩ := hR
 have hsep := ownsRow_ne hT h2 (by decide)
 have hC := Chg.pre ((Ext.refl W).alloc (.cells cs 46)) (Chg.ofGrown hg)
 have hXr : ∀ b, rv.ownBlock = some b → X < b := fun b hb => by have := (h2.lt b hb).1; omega
 have hX5 : NewX w5 X refer decline h rv tv := Blk.chg hX hC (fun e => by have := hXr X e.symm; omega)
 have hT5 : TagsN w5 X tv acc := ownsRow_chg hT hC (fun b hb e => hsep b hb e.symm)
 have hE5 : Ext w0 w5 := Chg.toExt hE hC (fun k hk => by have := hXr k hk.symm; omega)
 have hmv : ∀ {z : Value} {l : List Ex}, ExB W (fun j => X < j ∧ rv.ownBlock ≠ some j ∧ tv.ownBlock ≠ some j) z l → ExB w5 (fun j => X < j ∧ Value.ownBlock (.slice (some ⟨gg, 0, none⟩) (ys.length + 1) cap) ≠ some j ∧ tv.ownBlock ≠ some j) z l := by
  intro z l hz
  have hz2 : ExB W (fun j => rv.ownBlock ≠ some j ∧ (X < j ∧ Value.ownBlock (.slice (some ⟨gg, 0, none⟩) (ys.length + 1) cap) ≠ some j ∧ tv.ownBlock ≠ some j)) z l := by
   refine hz.imp fun j hj hlt => ⟨hj.2.1, hj.1, ?_, hj.2.2⟩
   intro e
   injection e with e
   have e : gg = j := e
   rcases hat with hh | hh
   · exact hj.2.1 (hh.trans (by rw [e]))
   · omega
  exact (hz2.chg hC (fun j hj e => hj.1 e.symm)).imp fun j hj _ => hj.2
 have hR5 : RowsN w5 X (.slice (some ⟨gg, 0, none⟩) (ys.length + 1) cap) tv (ys ++ [y]) (us ++ [u]) := by
  refine ⟨by simp [h1], ?_, fun i hi => ?_⟩
  · rw [frFlat_snoc ys us y u h1]
    simpa using hown
  · by_cases hlt : i < ys.length
    · have e1 : (us ++ [u]).getD i (.slice none 0 0) = us.getD i (.slice none 0 0) := by
       simp only [List.getD_eq_getElem?_getD]; rw [List.getElem?_append_left (by omega)]
      have e2 : (ys ++ [y]).getD i frD = ys.getD i frD := by
       simp only [List.getD_eq_getElem?_getD]; rw [List.getElem?_append_left hlt]
      rw [e1, e2]
      exact hmv (h3 i hlt)
    · have hi2 : i = ys.length := by simp at hi; omega
      subst hi2
      have e1 : (us ++ [u]).getD ys.length (.slice none 0 0) = u := by
       simp only [List.getD_eq_getElem?_getD]; rw [List.getElem?_append_right (by omega)]; simp [h1]
      have e2 : (ys ++ [y]).getD ys.length frD = y := by
       simp only [List.getD_eq_getElem?_getD]; rw [List.getElem?_append_right (by omega)]; simp
      rw [e1, e2]
      exact hmv hu
 have hS5 : Chg (fun k => k = X) w5 (w5.setCell ⟨X, 4, none⟩ (.slice (some ⟨gg, 0, none⟩) (ys.length + 1) cap)) := (Chg.refl (fun k => k = X) w5).setCell (p := ⟨X, 4, none⟩) (Or.inl rfl) _
 refine ⟨hX5, ((hmv hu).chg hS5 (fun j hj e => by omega)).toS, fun B cs' T hB hne hr => (hB.chg hC (fun e => hr e.symm)).chg hS5 hne, fun w6 h6 => NewS.ext ⟨hE5.setCell hX0 _, hX0, by simp; omega, .slice (some ⟨gg, 0, none⟩) (ys.length + 1) cap, tv, us ++ [u], ?_, rowsN_set hR5 _ _, tagsN_set hT5 _ _⟩ h6⟩
 exact Blk.set hX5 4 _
/-- Names are appended, and the list stored. -/
theorem newS_names {w0 W w5 : World} {X gg cap m : Nat} {refer decline h : Int} {ys : List FrR} {acc ns : List (List UInt8)} {rv tv : Value} {us : List Value} (hE : Ext w0 W) (hX0 : w0.heap.size ≤ X) (hl : ys.length ≤ 1000000) (hX : NewX W X refer decline h rv tv) (hR : RowsN W X rv tv ys us) (hT : TagsN W X tv acc)
 (hm : m = ns.length) (hg : W.grownBy w5 tv.ownBlock) (hat : tv.ownBlock = some gg ∨ gg = W.heap.size)
 (hown : w5.ownsRow (X + 1) 9 1 (.slice (some ⟨gg, 0, none⟩) (acc.length + m) cap) (acc.length + m) (acc.map encStr ++ ns.map encStr)) :
 NewX w5 X refer decline h rv tv ∧ ∀ w6, Ext (w5.setCell ⟨X, 5, none⟩ (.slice (some ⟨gg, 0, none⟩) (acc.length + m) cap)) w6 → NewS w0 X refer decline ys (acc ++ ns) h w6 := by
 subst hm
 obtain ⟨h1, h2, h3⟩ := hR
 have hsep := ownsRow_ne h2 hT (by decide)
 have hC := Chg.ofGrown hg
 have hXr : ∀ b, tv.ownBlock = some b → X < b := fun b hb => by have := (hT.lt b hb).1; omega
 have hX5 : NewX w5 X refer decline h rv tv := Blk.chg hX hC (fun e => by have := hXr X e.symm; omega)
 have hE5 : Ext w0 w5 := Chg.toExt hE hC (fun k hk => by have := hXr k hk.symm; omega)
 have hT5 : TagsN w5 X (.slice (some ⟨gg, 0, none⟩) (acc.length + ns.length) cap) (acc ++ ns) := by
  unfold TagsN
  rw [List.map_append, List.length_append]
  exact hown
 have hR5 : RowsN w5 X rv (.slice (some ⟨gg, 0, none⟩) (acc.length + ns.length) cap) ys us := by
  refine ⟨h1, ownsRow_chg h2 hC (fun b hb e => hsep b hb e.symm), fun i hi => ?_⟩
  have hz2 : ExB W (fun j => tv.ownBlock ≠ some j ∧ (X < j ∧ rv.ownBlock ≠ some j ∧ Value.ownBlock (.slice (some ⟨gg, 0, none⟩) (acc.length + ns.length) cap) ≠ some j)) (us.getD i (.slice none 0 0)) (ys.getD i frD).when.args := by
   refine (h3 i hi).imp fun j hj hlt => ⟨hj.2.2, hj.1, hj.2.1, ?_⟩
   intro e
   injection e with e
   have e : gg = j := e
   rcases hat with hh | hh
   · exact hj.2.2 (hh.trans (by rw [e]))
   · omega
  exact (hz2.chg hC (fun j hj e => hj.1 e.symm)).imp fun j hj _ => hj.2
 refine ⟨hX5, fun w6 h6 => NewS.ext ⟨hE5.setCell hX0 _, hX0, hl, rv, .slice (some ⟨gg, 0, none⟩) (acc.length + ns.length) cap, us, ?_, rowsN_set hR5 _ _, tagsN_set hT5 _ _⟩ h6⟩
 exact Blk.set hX5 5 _
/-- Nothing is appended, and the list stored. -/
theorem newS_none {w0 W w6 : World} {X : Nat} {refer decline h : Int} {ys : List FrR} {acc : List (List UInt8)} {rv tv : Value} {us : List Value} (hE : Ext w0 W) (hX0 : w0.heap.size ≤ X) (hl : ys.length ≤ 1000000) (hX : NewX W X refer decline h rv tv) (hR : RowsN W X rv tv ys us) (hT : TagsN W X tv acc) (h6 : Ext (W.setCell ⟨X, 5, none⟩ tv) w6) : NewS w0 X refer decline ys acc h w6 :=
 NewS.ext ⟨hE.setCell hX0 _, hX0, hl, rv, tv, us, Blk.set hX 5 _, rowsN_set hR _ _, tagsN_set hT _ _⟩ h6
/-- The horizon is stored. -/
theorem newS_hor {w0 W w6 : World} {X : Nat} {refer decline h h' : Int} {ys : List FrR} {acc : List (List UInt8)} {rv tv : Value} {us : List Value} (hE : Ext w0 W) (hX0 : w0.heap.size ≤ X) (hl : ys.length ≤ 1000000) (hX : NewX W X refer decline h rv tv) (hR : RowsN W X rv tv ys us) (hT : TagsN W X tv acc) (h6 : Ext (W.setCell ⟨X, 1, none⟩ (.int .i64 h')) w6) : NewS w0 X refer decline ys acc h' w6 :=
 NewS.ext ⟨hE.setCell hX0 _, hX0, hl, rv, tv, us, Blk.set hX 1 _, rowsN_set hR _ _, tagsN_set hT _ _⟩ h6
theorem newS_horS {w0 W w6 : World} {X : Nat} {refer decline h h' : Int} {ys : List FrR} {acc : List (List UInt8)} (hN : NewS w0 X refer decline ys acc h W) (h6 : Ext (W.setCell ⟨X, 1, none⟩ (.int .i64 h')) w6) : NewS w0 X refer decline ys acc h' w6 := by
 obtain ⟨h1, h2, h3, rv, tv, us, h4, h5, h7⟩ := hN
 exact newS_hor h1 h2 h3 h4 h5 h7 h6
section
variable {P : Program} {w : World}
theorem run_append_empty (base : Nat) (t ty e : TypeId) (i : TypeInfo) (size : Nat) (ht : P.underlying t = some (.slice e)) (hi : P.info? e = some i)
 (v : Value) (n : Nat) (xs : List Value) (hown : w.ownsRow base e size v n xs) (p : Option Addr) (c : Nat) : (Builtin.append_ #[t, t] ty #[v, .slice p 0 c]).run P w = .ok v w := by
 have hl : ∀ (x : Addr), (loadCells x 0).run P w = .ok #[] w := fun x => by simpa using run_loadCells_list (P := P) w x [] (by simp)
 cases p <;> rcases hown.2 with ⟨rfl, rfl⟩ | ⟨g, cap, cur, rfl, _, _, hnc, _⟩
 · simp [Builtin.append_, run_underlying ht, sizeOf, typeInfo, hi, Builtin.lenOf, Builtin.firstCells]
 · simp [Builtin.append_, run_underlying ht, sizeOf, typeInfo, hi, Builtin.lenOf, Builtin.firstCells, hnc, storeCells]
 · simp [Builtin.append_, run_underlying ht, sizeOf, typeInfo, hi, Builtin.lenOf, Builtin.firstCells, hl]
 · simp [Builtin.append_, run_underlying ht, sizeOf, typeInfo, hi, Builtin.lenOf, Builtin.firstCells, hnc, storeCells, hl]
/-- append of a slice without elements. -/
theorem wpList_append_empty {ops : Array Oper} {rest : List Oper} {o : Oper} {a : Act} {Q : Exit → Act → World → Prop} (hgd : o.guard = none) (s x : Operand) (t : TypeId)
 (ho : o.op = .call { callee := .builtin .append, args := #[s, x], argTypes := #[t, t] })
 (base : Nat) (e : TypeId) (i : TypeInfo) (size : Nat) (ht : P.underlying t = some (.slice e)) (hi : P.info? e = some i)
 (v : Value) (n : Nat) (xs : List Value) (hs : a.eval s = v) (hown : w.ownsRow base e size v n xs) (p : Option Addr) (c : Nat) (hx : a.eval x = .slice p 0 c)
 (h : wpList P ops Q rest (a.put o.dst v) w) : wpList P ops Q (o :: rest) a w := by
 refine wpList_plain hgd fun K hK => ?_
 have hrun := fun ty => run_append_empty (P := P) (w := w) base t ty e i size ht hi v n xs hown p c
 unfold Oper.wp
 simp [execOp, ho, resolve, invoke, builtin, hs, hx, hrun, Result.andThen]
 exact hK _ _ h
end
theorem strs_news {w : World} {b off : Nat} {l : List (List UInt8)} (h : ∀ i, i < l.length → w.cell? ⟨b, off + i, none⟩ = some (encStr (l.getD i []))) : ∀ j u, (l.map encStr)[j]? = some u → w.cell? ((⟨b, off, none⟩ : Addr).add j) = some u := by
 intro j u hj
 have hjl : j < l.length := by have := (List.getElem?_eq_some_iff.1 hj).1; simpa using this
 have e : (⟨b, off, none⟩ : Addr).add j = ⟨b, off + j, none⟩ := by unfold Addr.add; split <;> simp_all
 rw [e, h j hjl, ← hj, List.getElem?_map, List.getD_eq_getElem?_getD, List.getElem?_eq_getElem hjl]
 rfl
theorem strs_one (l : List (List UInt8)) : ∀ u ∈ l.map encStr, u.oneCell' = true := by
 intro u hu
 obtain ⟨s, -, rfl⟩ := List.mem_map.1 hu
 rfl
theorem rowsN_grow {w w' : World} {X : Nat} {rv tv : Value} {ys : List FrR} {us : List Value} (h : RowsN w X rv tv ys us) (hsep : ∀ j, rv.ownBlock = some j → tv.ownBlock ≠ some j) (hg : w.grownBy w' tv.ownBlock) : RowsN w' X rv tv ys us := by
 obtain ⟨h1, h2, h3⟩ := h
 have hC := Chg.ofGrown hg
 exact ⟨h1, ownsRow_chg h2 hC (fun b hb e => hsep b hb e.symm), fun i hi => (h3 i hi).chg hC (fun j hj e => hj.2.2 e.symm)⟩
theorem RowsN.frs {w : World} {X : Nat} {rv tv : Value} {ys : List FrR} {us : List Value} (h : RowsN w X rv tv ys us) (hl : ys.length ≤ 1000000) : FrsB w (fun j => X < j) rv ys := by
 obtain ⟨h1, h2, h3⟩ := h
 obtain ⟨h4, ⟨hv, hn⟩ | ⟨g, cap, cur, hv, hg, hb, hcap, hcm, hcs, htk⟩⟩ := h2
 · obtain rfl := List.length_eq_zero_iff.1 hn
   exact ⟨by simp, Or.inl ⟨none, 0, hv, rfl⟩⟩
 · subst hv
   have hlt : g < w.heap.size := (Array.getElem?_eq_some_iff.1 hb).1
   refine ⟨hl, Or.inr ⟨g, cap, fun i => us.getD i (.slice none 0 0), rfl, hcap, by omega, hlt, fun i hi => ⟨?_, (h3 i hi).imp fun j hj _ => hj.1⟩⟩⟩
   have hcell : ∀ c u, c < 8 → (frCells (ys.getD i frD) (us.getD i (.slice none 0 0)))[c]? = some u → w.cell? ⟨g, 0 + i * 8 + c, none⟩ = some u := by
    intro c u hc hj
    have hb' : Blk w g cur 46 := hb
    rw [Nat.zero_add, hb'.cell, ← Array.getElem?_toList, ← hj, ← frFlat_get ys us h1 i hi c hc, ← htk]
    rw [List.getElem?_take_of_lt (by omega)]
   exact ⟨hcell 0 _ (by omega) rfl, hcell 1 _ (by omega) rfl, hcell 2 _ (by omega) rfl, hcell 3 _ (by omega) rfl, hcell 4 _ (by omega) rfl, hcell 5 _ (by omega) rfl, hcell 6 _ (by omega) rfl, hcell 7 _ (by omega) rfl⟩
/-- The engine behind its last store. -/
theorem new_end {w0 W W2 w6 : World} {X V b : Nat} {refer decline h : Int} {ys : List FrR} {ns : List (List UInt8)} {rv tv tv0 : Value} {us : List Value} (hE : Ext w0 W) (hX0 : w0.heap.size ≤ X) (hl : ys.length ≤ 1000000) (hX : NewX W X refer decline h rv tv) (hR : RowsN W X rv tv0 ys us) (hT : StrsB W (fun j => X < j) tv ns) (hE2 : Ext W W2) (hV : W.heap.size ≤ V) (hVM : VelM W2 b V (.slice none 0 0) ⟨h, 0, []⟩) (h6 : Ext (W2.setCell ⟨X, 0, none⟩ (.pointer (some ⟨V, 0, none⟩))) w6) :
 EngM w6 X V (.slice none 0 0) (.slice none 0 0) rv tv ⟨⟨h, 0, []⟩, h, 0, [], ys, ns, refer, decline⟩ ∧ Ext w0 w6 := by
 have hXl := Blk.lt hX
 have hC : Chg (fun k => k = X) W2 (W2.setCell ⟨X, 0, none⟩ (.pointer (some ⟨V, 0, none⟩))) := (Chg.refl (fun k => k = X) W2).setCell (p := ⟨X, 0, none⟩) (Or.inl rfl) _
 refine ⟨EngM.ext ⟨by omega, (hX.ext hE2).set 0 _, ⟨hVM.1.chg hC (by omega), UsesR.nil _ _ _⟩, UsesR.nil _ _ _, ?_, ?_⟩ h6, ((hE.trans hE2).setCell hX0 _).trans h6⟩
 · exact (((hR.frs hl).imp (ok' := fun j => X < j ∧ j < V) fun j hj hlt => ⟨hj, by omega⟩).ext hE2).chg hC (fun j hj e => by omega)
 · exact ((hT.imp (ok' := fun j => X < j ∧ j < V) fun j hj hlt => ⟨hj, by omega⟩).ext hE2).chg hC (fun j hj e => by omega)
theorem after_sort2 {w w2 : World} {g cap nn : Nat} {os : Array Obj} {acc : List (List UInt8)} {cur : Array Value} (hb : w.heap[g]? = some (.cells cur 9 (0, 0))) (hc : cur.size = cap) (hn : acc.length ≤ cap)
 (e : w2 = grow (putRow encStr (Sort.ahead w nn) g 0 (sortL acc).toArray) os) : w.grownBy w2 (some g) ∧ Holds encStr w2 g 0 (sortL acc).toArray ∧ ∃ cur2 : Array Value, w2.heap[g]? = some (.cells cur2 9 (0, 0)) ∧ cur2.size = cap := by
 subst e
 have hG : w.grownBy (grow (putRow encStr (Sort.ahead w nn) g 0 (sortL acc).toArray) os) (some g) := grownBy_sorted _
 have hb2 := heap_sorted (n := nn) (os := os) (sortL acc).toArray hb
 exact ⟨hG, holds_of_block hb2 (take_putCells cur (sortL acc) (by rw [sortL_len]; omega)), _, hb2, by simp [putCells, hc]⟩
theorem strsB_of {w : World} {ok : Nat → Prop} {g n cap : Nat} {l : List (List UInt8)} (h : StrsM w (.slice (some ⟨g, 0, none⟩) n cap) l) (hok : ok g) (hg : g < w.heap.size) : StrsB w ok (.slice (some ⟨g, 0, none⟩) n cap) l := by
 obtain ⟨p, c, h1, h2, h3⟩ := h
 refine ⟨p, c, h1, h2, fun h0 => ?_⟩
 obtain ⟨b, off, h4, h5⟩ := h3 h0
 injection h1 with h6 h7 h8
 rw [h4] at h6
 injection h6 with h6
 injection h6 with h6 h9 h10
 subst h6 h9
 exact ⟨g, h4, hok, hg, fun i hi => by have := h5 i hi; rwa [Nat.zero_add] at this⟩
end Go.Proofs.YtangdoidkcelfaaGreatDoor
