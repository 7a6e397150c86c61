/- Own rows of items of a fixed number of cells each. -/
import Derived.Test.YtkggloeaojkhaaaGreatDoorKa
import Derived.ArgAppend
import Derived.Deep.AppendLies
namespace Go.Proofs.YtkggloeaojkhaaaGreatDoor
open Go.RowKit
/-- How an item lies in sz cells. -/
structure Lay (α : Type) where
 F : α → List Value
 sz : Nat
 pos : 0 < sz
 len : ∀ x, (F x).length = sz
variable {α : Type} {L : Lay α} {T : TypeId} {w w' : World} {B : Nat} {v : Value} {l : List α}
def Lay.flat (L : Lay α) (l : List α) : List Value := l.flatMap L.F
theorem Lay.flat_append (L : Lay α) (l m : List α) : L.flat (l ++ m) = L.flat l ++ L.flat m := by simp [Lay.flat]
theorem Lay.flat_snoc (L : Lay α) (l : List α) (x : α) : L.flat (l ++ [x]) = L.flat l ++ L.F x := by simp [Lay.flat]
theorem Lay.flat_len (L : Lay α) : ∀ l : List α, (L.flat l).length = l.length * L.sz
 | [] => by simp [Lay.flat]
 | x :: l => by
  have h := L.flat_len l
  unfold Lay.flat at h ⊢
  rw [List.flatMap_cons, List.length_append, h, L.len, List.length_cons, Nat.succ_mul, Nat.add_comm]
theorem Lay.flat_get (L : Lay α) : ∀ (l : List α) (i : Nat) (x : α), l[i]? = some x → ∀ c, c < L.sz → (L.flat l)[i * L.sz + c]? = (L.F x)[c]?
 | [], i, x, hi, _, _ => by simp at hi
 | y :: l, 0, x, hi, c, hc => by
  simp only [List.getElem?_cons_zero, Option.some.injEq] at hi
  subst hi
  unfold Lay.flat
  rw [List.flatMap_cons, Nat.zero_mul, Nat.zero_add, List.getElem?_append_left (by rw [L.len]; exact hc)]
 | y :: l, i + 1, x, hi, c, hc => by
  have ih := L.flat_get l i x (by simpa using hi) c hc
  unfold Lay.flat at ih ⊢
  rw [← ih, List.flatMap_cons, List.getElem?_append_right (by rw [L.len, Nat.succ_mul]; omega), L.len]
  congr 1
  rw [Nat.succ_mul]
  omega
theorem Lay.flat_set (L : Lay α) : ∀ (l : List α) (i : Nat) (x x' : α) (c : Nat) (u : Value), l[i]? = some x → c < L.sz → L.F x' = (L.F x).set c u → L.flat (l.set i x') = (L.flat l).set (i * L.sz + c) u
 | [], i, x, _, _, _, hi, _, _ => by simp at hi
 | y :: l, 0, x, x', c, u, hi, hc, he => by
  simp only [List.getElem?_cons_zero, Option.some.injEq] at hi
  subst hi
  unfold Lay.flat
  rw [List.set_cons_zero, List.flatMap_cons, List.flatMap_cons, he, Nat.zero_mul, Nat.zero_add, List.set_append, if_pos (by rw [L.len]; exact hc)]
 | y :: l, i + 1, x, x', c, u, hi, hc, he => by
  have ih := L.flat_set l i x x' c u (by simpa using hi) hc he
  unfold Lay.flat at ih ⊢
  rw [List.set_cons_succ, List.flatMap_cons, List.flatMap_cons, ih, List.set_append, if_neg (by rw [L.len, Nat.succ_mul]; omega), L.len]
  congr 2
  rw [Nat.succ_mul]
  omega
/-- v is a slice (from whatever place of a block from B on, of elements of type e) of n elements that lie as xs; behind its capacity nothing else is said. -/
def OwnC (w : World) (B : Nat) (e : TypeId) (size : Nat) (v : Value) (n : Nat) (xs : List Value) : Prop :=
 xs.length = n * size ∧
 ((v = .slice none 0 0 ∧ n = 0) ∨
  ∃ g off cap cur, v = .slice (some ⟨g, off, none⟩) n cap ∧ B ≤ g ∧ w.heap[g]? = some (.cells cur e (0, 0)) ∧ n ≤ cap ∧ cap ≤ maxLen ∧ off + cap * size ≤ cur.size ∧ (cur.toList.drop off).take (n * size) = xs)
theorem OwnC.ofRow {w : World} {B : Nat} {e : TypeId} {size : Nat} {v : Value} {n : Nat} {xs : List Value} (h : w.ownsRow B e size v n xs) : OwnC w B e size v n xs := by
 obtain ⟨h1, h2 | ⟨g, cap, cur, hv, hg, hb, hc, hm, hs, ht⟩⟩ := h
 · exact ⟨h1, Or.inl h2⟩
 · exact ⟨h1, Or.inr ⟨g, 0, cap, cur, hv, hg, hb, hc, hm, by omega, by simpa using ht⟩⟩
theorem OwnC.chg {F : Nat → Prop} {w w' : World} {B : Nat} {e : TypeId} {size : Nat} {v : Value} {n : Nat} {xs : List Value} (h : OwnC w B e size v n xs) (k : Chg F w w') (hF : ∀ b, v.ownBlock = some b → ¬ F b) : OwnC w' B e size v n xs := by
 obtain ⟨h1, h2 | ⟨g, off, cap, cur, hv, hg, hb, r⟩⟩ := h
 · exact ⟨h1, Or.inl h2⟩
 · have hown : v.ownBlock = some g := by rw [hv]; rfl
   have hb' : Blk w g cur e := hb
   exact ⟨h1, Or.inr ⟨g, off, cap, cur, hv, hg, hb'.chg k (hF g hown), r⟩⟩
theorem OwnC.form {w : World} {B : Nat} {e : TypeId} {size : Nat} {v : Value} {n : Nat} {xs : List Value} (h : OwnC w B e size v n xs) (hn : 0 < n) : ∃ g off cap, v = .slice (some ⟨g, off, none⟩) n cap ∧ B ≤ g ∧ g < w.heap.size := by
 obtain ⟨-, ⟨-, h0⟩ | ⟨g, off, cap, cur, hv, hg, hb, -⟩⟩ := h
 · omega
 · exact ⟨g, off, cap, hv, hg, (Array.getElem?_eq_some_iff.1 hb).1⟩
/-- append onto such a slice. -/
theorem run_append_cut {P : Program} (w : World) (base : Nat) (t ty e : TypeId) (i : TypeInfo) (z : Value) (size bytes : Nat) (ht : P.underlying t = some (.slice e)) (hi : P.info? e = some i) (hz : i.zero = some z)
 (hsize : i.size = size) (hby : i.bytes = bytes) (hzs : z.cells.size = size) (hsz : 0 < size)
 (v : Value) (n : Nat) (xs : List Value) (hown : OwnC w base e size v n xs)
 (ad : Addr) (m c : Nat) (news : List Value) (hl : news.length = m * size) (hnews : ∀ j u, news[j]? = some u → w.cell? (ad.add j) = some u) (h1 : ∀ u ∈ news, u.oneCell' = true)
 (h63 : n + m ≤ maxLen) (hbytes : (n + m) * bytes ≤ 140737488355328) (hbase : base ≤ w.heap.size) :
 ∃ v' w', (Builtin.append_ #[t, t] ty #[v, .slice (some ad) m c]).run P w = .ok v' w' ∧ OwnC w' base e size v' (n + m) (xs ++ news) ∧ w.grownBy w' v.ownBlock ∧ (v'.ownBlock = v.ownBlock ∨ v'.ownBlock = some w.heap.size) := by
 rcases hown.2 with ⟨rfl, rfl⟩ | ⟨g, off, cap, cur, rfl, hbg, hg, hnc, hcm, hcs, htake⟩
 · have hx : xs = [] := List.eq_nil_of_length_eq_zero (by simpa using hown.1)
   subst hx
   obtain ⟨v', w', hr, h2, h3, _, h5⟩ := run_append_own_at (P := P) w base t ty e i z size bytes ht hi hz hsize hby hzs hsz (.slice none 0 0) 0 [] ⟨by simp, Or.inl ⟨rfl, rfl⟩⟩ ad m c news hl hnews h1 h63 hbytes hbase
   exact ⟨v', w', hr, OwnC.ofRow h2, h3, h5⟩
 · have holds : ∀ j u, xs[j]? = some u → w.cell? ((⟨g, off, none⟩ : Addr).add j) = some u := by
    intro j u hj
    have hb' : Blk w g cur e := hg
    have e1 : (⟨g, off, none⟩ : Addr).add j = ⟨g, off + j, none⟩ := by unfold Addr.add; split <;> simp_all
    have hjl : j < xs.length := (List.getElem?_eq_some_iff.1 hj).1
    rw [e1, hb'.cell, ← Array.getElem?_toList, ← hj, ← htake, List.getElem?_take_of_lt (by rw [← hown.1]; exact hjl), List.getElem?_drop]
   by_cases hroom : n + m ≤ cap
   · subst hsize
     have hfit : off + n * i.size + news.length ≤ cur.size := by
      have : (n + m) * i.size ≤ cap * i.size := Nat.mul_le_mul_right _ hroom
      rw [Nat.add_mul] at this
      omega
     have hf := run_firstCells_some (P := P) w i.size m ad m c news hl hnews
     have hst := run_storeCells_at P g (off + n * i.size) e news 0 cur w hg (by simpa using hfit) h1
     simp only [Nat.add_zero] at hst
     refine ⟨.slice (some ⟨g, off, none⟩) (n + m) cap, _, by simp [Builtin.append_, run_underlying ht, sizeOf, typeInfo, hi, Builtin.lenOf, hroom, hf, Addr.add_lit, hst]; rfl, ⟨?_, .inr ⟨g, off, cap, _, rfl, hbg, setRow_heap w g cur _ e _ hg, hroom, hcm, ?_, ?_⟩⟩, ⟨rfl, rfl, rfl, by simp, fun k _ hk => setRow_other w g k _ (fun e => hk (by simp [Value.ownBlock, e]))⟩, .inl rfl⟩
     · rw [List.length_append, hown.1, hl, Nat.add_mul]
     · simp only [List.size_toArray, List.length_append, List.length_take, List.length_drop, Array.length_toList]
       omega
     · have e0 : (cur.toList.take (off + n * i.size)).length = off + n * i.size := by rw [List.length_take, Array.length_toList]; omega
       have e1 : (cur.toList.take (off + n * i.size)).drop off = xs := by rw [List.drop_take, Nat.add_sub_cancel_left, htake]
       simp only
       rw [List.drop_append_of_le_length (by omega), e1, ← List.append_assoc]
       have e2 : (xs ++ news).length = (n + m) * i.size := by rw [List.length_append, hown.1, hl, Nat.add_mul]
       rw [← e2]
       exact List.take_left
   · have hlen : (xs ++ news).length = (n + m) * size := by rw [List.length_append, hown.1, hl, Nat.add_mul]
     obtain ⟨v', w', hr, h2, h3⟩ := run_append_arg_grows (P := P) w t ty e i z size bytes ht hi hz hsize hby hzs hsz ⟨g, off, none⟩ n cap xs hown.1 holds ad m c news hl hnews (by omega) h63 hbytes
     obtain ⟨g', cap', hv', hg', _⟩ := h2.form (by omega)
     have hgw : g' = w.heap.size := by
      subst hsize
      subst hby
      have hr2 := run_append_grow (P := P) w t ty e i z ht hi hz ⟨g, off, none⟩ n cap xs hown.1 holds ad m c news hl hnews (by omega) (by simp only [maxLen] at h63; omega) (growslice_fits (by omega) hbytes)
      rw [hr] at hr2
      injection hr2 with h4 h5
      rw [hv'] at h4
      injection h4 with h4
      injection h4 with h4
      injection h4
     refine ⟨v', w', hr, ?_, ⟨h3.os, h3.tape, h3.output, h3.size, fun k hk _ => h3.block k hk (by simp)⟩, .inr (by rw [hv', hgw]; rfl)⟩
     have h4 := OwnC.ofRow h2
     obtain ⟨h6, h7 | ⟨g2, off2, cap2, cur2, r1, r2, r3⟩⟩ := h4
     · exact ⟨h6, Or.inl h7⟩
     · exact ⟨h6, Or.inr ⟨g2, off2, cap2, cur2, r1, Nat.le_trans hbase r2, r3⟩⟩
theorem wp_append_cut {P : Program} (w : World) {o : Oper} {a : Act} {K : Act → World → Prop} {Q : Exit → Act → World → Prop} (s x : Operand) (t : TypeId)
 (ho : o.op = .call { callee := .builtin .append, args := #[s, x], argTypes := #[t, t] })
 (base : Nat) (e : TypeId) (i : TypeInfo) (z : Value) (size bytes : Nat) (ht : P.underlying t = some (.slice e)) (hi : P.info? e = some i) (hz : i.zero = some z)
 (hsize : i.size = size) (hby : i.bytes = bytes) (hzs : z.cells.size = size) (hsz : 0 < size)
 (v : Value) (n : Nat) (xs : List Value) (hs : a.eval s = v) (hown : OwnC w base e size v n xs)
 (ad : Addr) (m c : Nat) (news : List Value) (hx : a.eval x = .slice (some ad) m c) (hl : news.length = m * size) (hnews : ∀ j u, news[j]? = some u → w.cell? (ad.add j) = some u) (h1 : ∀ u ∈ news, u.oneCell' = true)
 (h63 : n + m ≤ maxLen) (hbytes : (n + m) * bytes ≤ 140737488355328) (hbase : base ≤ w.heap.size)
 (h : ∀ p cap w', OwnC w' base e size (.slice p (n + m) cap) (n + m) (xs ++ news) → w.grownBy w' v.ownBlock → (Value.ownBlock (.slice p (n + m) cap) = v.ownBlock ∨ Value.ownBlock (.slice p (n + m) cap) = some w.heap.size) → K (a.put o.dst (.slice p (n + m) cap)) w') : o.wp P a w K Q := by
 obtain ⟨v', w', hr, h2, h3, h4⟩ := run_append_cut (P := P) w base t o.type e i z size bytes ht hi hz hsize hby hzs hsz v n xs hown ad m c news hl hnews h1 h63 hbytes hbase
 have hv : ∃ p cap, v' = .slice p (n + m) cap := by
  rcases h2.2 with ⟨r1, r2⟩ | ⟨g, off, cap, cur, r, -⟩
  · exact ⟨none, 0, by rw [r1, r2]⟩
  · exact ⟨_, _, r⟩
 obtain ⟨p, cap, rfl⟩ := hv
 unfold Oper.wp execOp
 simp only [ho, resolve, invoke, builtin, Sem.run_bind, Sem.run_pure, Result.andThen_ok, List.map_toArray, List.map_cons, List.map_nil, hs, hx, hr]
 exact h p cap w' h2 h3 h4
theorem wpList_append_cut {P : Program} (w : World) {ops : Array Oper} {rest : List Oper} {o : Oper} {a : Act} {Q : Exit → Act → World → Prop} (hgd : o.guard = none) (s x : Operand) (t : TypeId)
 (ho : o.op = .call { callee := .builtin .append, args := #[s, x], argTypes := #[t, t] })
 (base : Nat) (e : TypeId) (i : TypeInfo) (z : Value) (size bytes : Nat) (ht : P.underlying t = some (.slice e)) (hi : P.info? e = some i) (hz : i.zero = some z)
 (hsize : i.size = size) (hby : i.bytes = bytes) (hzs : z.cells.size = size) (hsz : 0 < size)
 (v : Value) (n : Nat) (xs : List Value) (hs : a.eval s = v) (hown : OwnC w base e size v n xs)
 (ad : Addr) (m c : Nat) (news : List Value) (hx : a.eval x = .slice (some ad) m c) (hl : news.length = m * size) (hnews : ∀ j u, news[j]? = some u → w.cell? (ad.add j) = some u) (h1 : ∀ u ∈ news, u.oneCell' = true)
 (h63 : n + m ≤ maxLen) (hbytes : (n + m) * bytes ≤ 140737488355328) (hbase : base ≤ w.heap.size)
 (h : ∀ p cap w', OwnC w' base e size (.slice p (n + m) cap) (n + m) (xs ++ news) → w.grownBy w' v.ownBlock → (Value.ownBlock (.slice p (n + m) cap) = v.ownBlock ∨ Value.ownBlock (.slice p (n + m) cap) = some w.heap.size) → wpList P ops Q rest (a.put o.dst (.slice p (n + m) cap)) w') : wpList P ops Q (o :: rest) a w :=
 wpList_plain hgd fun _ hK => wp_append_cut w s x t ho base e i z size bytes ht hi hz hsize hby hzs hsz v n xs hs hown ad m c news hx hl hnews h1 h63 hbytes hbase fun p cap w' h2 h3 h4 => hK _ _ (h p cap w' h2 h3 h4)
theorem step_append_cut {P : Program} (w : World) {ops : Array Oper} {o : Oper} {a : Act} {K : Act → World → Prop} {Q : Exit → Act → World → Prop} {E : Prop} (hgd : o.guard = none) (s x : Operand) (t : TypeId)
 (ho : o.op = .call { callee := .builtin .append, args := #[s, x], argTypes := #[t, t] })
 (base : Nat) (e : TypeId) (i : TypeInfo) (z : Value) (size bytes : Nat) (ht : P.underlying t = some (.slice e)) (hi : P.info? e = some i) (hz : i.zero = some z)
 (hsize : i.size = size) (hby : i.bytes = bytes) (hzs : z.cells.size = size) (hsz : 0 < size)
 (v : Value) (n : Nat) (xs : List Value) (hs : a.eval s = v) (hown : OwnC w base e size v n xs)
 (ad : Addr) (m c : Nat) (news : List Value) (hx : a.eval x = .slice (some ad) m c) (hl : news.length = m * size) (hnews : ∀ j u, news[j]? = some u → w.cell? (ad.add j) = some u) (h1 : ∀ u ∈ news, u.oneCell' = true)
 (h63 : n + m ≤ maxLen) (hbytes : (n + m) * bytes ≤ 140737488355328) (hbase : base ≤ w.heap.size)
 (h : ∀ p cap w', OwnC w' base e size (.slice p (n + m) cap) (n + m) (xs ++ news) → w.grownBy w' v.ownBlock → (Value.ownBlock (.slice p (n + m) cap) = v.ownBlock ∨ Value.ownBlock (.slice p (n + m) cap) = some w.heap.size) → K (a.put o.dst (.slice p (n + m) cap)) w') :
 if Region.wanted o (yielded ops a.tmps) = true then Oper.wp P o a w K Q else E := by
 have hw : Region.wanted o (yielded ops a.tmps) = true := by simp [Region.wanted, hgd]
 rw [if_pos hw]
 exact wp_append_cut w s x t ho base e i z size bytes ht hi hz hsize hby hzs hsz v n xs hs hown ad m c news hx hl hnews h1 h63 hbytes hbase h
/-- v is a slice of the call's own, in a block from B on, of elements of type T, and reads as the items. -/
def RowR (L : Lay α) (T : TypeId) (w : World) (B : Nat) (v : Value) (l : List α) : Prop := l.length ≤ 1000000 ∧ OwnC w B T L.sz v l.length (L.flat l)
theorem RowR.nil (L : Lay α) (T : TypeId) (w : World) (B : Nat) : RowR L T w B (.slice none 0 0) [] := ⟨by simp, by simp [Lay.flat], Or.inl ⟨rfl, rfl⟩⟩
theorem RowR.form (h : RowR L T w B v l) : ∃ p c, v = .slice p l.length c := by
 obtain ⟨_, _, ⟨h, h0⟩ | ⟨g, off, cap, cur, hv, _⟩⟩ := h
 · exact ⟨none, 0, by rw [h0]; exact h⟩
 · exact ⟨_, _, hv⟩
theorem RowR.chg {F : Nat → Prop} (h : RowR L T w B v l) (k : Chg F w w') (hF : ∀ b, v.ownBlock = some b → ¬ F b) : RowR L T w' B v l := ⟨h.1, h.2.chg k hF⟩
theorem RowR.ext (h : RowR L T w B v l) (k : Ext w w') : RowR L T w' B v l := h.chg (Chg.ofExt (F := fun _ => False) k) fun _ _ h => h
theorem RowR.push {v : Value} {x : α} (hl : l.length < 1000000) (hown : OwnC w' B T L.sz v (l.length + 1) (L.flat l ++ L.F x)) : RowR L T w' B v (l ++ [x]) := by
 refine ⟨by simp; omega, ?_⟩
 rw [L.flat_snoc]
 simpa using hown
theorem RowR.app {v : Value} {m : List α} (hl : l.length + m.length ≤ 1000000) (hown : OwnC w' B T L.sz v (l.length + m.length) (L.flat l ++ L.flat m)) : RowR L T w' B v (l ++ m) := by
 refine ⟨by simp; omega, ?_⟩
 rw [L.flat_append]
 simpa using hown
/-- Where the items lie: nowhere, or in a row of a block. -/
theorem RowR.lie (h : RowR L T w B v l) : (v = .slice none 0 0 ∧ l = []) ∨ ∃ g off cap, v = .slice (some ⟨g, off, none⟩) l.length cap ∧ B ≤ g ∧ g < w.heap.size ∧ l.length ≤ cap ∧ cap ≤ maxLen ∧ (∀ a, w.frozen? ⟨g, a, none⟩ = false) ∧ ∀ i x, l[i]? = some x → ∀ c u, (L.F x)[c]? = some u → w.cell? ⟨g, off + i * L.sz + c, none⟩ = some u := by
 obtain ⟨h0, h4, ⟨hv, hn⟩ | ⟨g, off, cap, cur, hv, hg, hb, hcap, hcm, hcs, htk⟩⟩ := h
 · exact Or.inl ⟨hv, List.length_eq_zero_iff.1 hn⟩
 · have hb' : Blk w g cur T := hb
   refine Or.inr ⟨g, off, cap, hv, hg, hb'.lt, hcap, hcm, fun a => hb'.fz a, fun i x hi c u hu => ?_⟩
   have hc : c < L.sz := by rw [← L.len x]; exact (List.getElem?_eq_some_iff.1 hu).1
   have hil : i < l.length := (List.getElem?_eq_some_iff.1 hi).1
   have hm : i * L.sz + L.sz ≤ l.length * L.sz := by rw [← Nat.succ_mul]; exact Nat.mul_le_mul_right _ hil
   rw [hb'.cell, ← Array.getElem?_toList, ← hu, ← L.flat_get l i x hi c hc, ← htk]
   rw [List.getElem?_take_of_lt (by omega), List.getElem?_drop, Nat.add_assoc]
/-- A cell of an item is written. -/
theorem RowR.set {g off n cap i c : Nat} {x x' : α} {u : Value} (h : RowR L T w B (.slice (some ⟨g, off, none⟩) n cap) l) (hi : l[i]? = some x) (hc : c < L.sz) (he : L.F x' = (L.F x).set c u) : RowR L T (w.setCell ⟨g, off + i * L.sz + c, none⟩ u) B (.slice (some ⟨g, off, none⟩) n cap) (l.set i x') := by
 obtain ⟨h0, h4, ⟨hv, hn⟩ | ⟨g', off', cap', cur, hv, hg, hb, hcap, hcm, hcs, htk⟩⟩ := h
 · cases hv
 · injection hv with hv1 hv2 hv3
   injection hv1 with hv1
   injection hv1 with hv1 hv4 _
   subst hv1 hv3 hv4
   have hb' : Blk w g cur T := hb
   refine ⟨by rw [List.length_set]; exact h0, by rw [L.flat_len], Or.inr ⟨g, off, cap, _, by rw [List.length_set, hv2], hg, hb'.set _ _, by rw [List.length_set]; exact hcap, hcm, by rw [Array.size_setIfInBounds]; exact hcs, ?_⟩⟩
   rw [L.flat_set l i x x' c u hi hc he, ← htk, List.length_set, Array.toList_setIfInBounds, ← List.take_set, List.drop_set, if_neg (by omega)]
   congr 2
   omega
/-- A shorter slice of the same row. -/
theorem RowR.cut {g off n cap k c : Nat} (h : RowR L T w B (.slice (some ⟨g, off, none⟩) n cap) l) (hk : k ≤ l.length) (hc : k ≤ c) (hc2 : c ≤ cap) : RowR L T w B (.slice (some ⟨g, off, none⟩) k c) (l.take k) := by
 obtain ⟨h0, h4, ⟨hv, hn⟩ | ⟨g', off', cap', cur, hv, hg, hb, hcap, hcm, hcs, htk⟩⟩ := h
 · cases hv
 · injection hv with hv1 hv2 hv3
   injection hv1 with hv1
   injection hv1 with hv1 hv4 _
   subst hv1 hv3 hv4
   have e0 : (l.take k).length = k := by rw [List.length_take]; omega
   have hm : k * L.sz ≤ l.length * L.sz := Nat.mul_le_mul_right _ hk
   have hm2 : c * L.sz ≤ cap * L.sz := Nat.mul_le_mul_right _ hc2
   refine ⟨by omega, by rw [L.flat_len], Or.inr ⟨g, off, c, cur, by rw [e0], hg, hb, by omega, by omega, by omega, ?_⟩⟩
   rw [e0]
   have h1 : (cur.toList.drop off).take (k * L.sz) = ((cur.toList.drop off).take (l.length * L.sz)).take (k * L.sz) := by rw [List.take_take]; congr 1; omega
   rw [h1, htk]
   conv => lhs; rw [← List.take_append_drop k l]
   rw [L.flat_append, List.take_append_of_le_length (by rw [L.flat_len, e0]; omega)]
   exact List.take_of_length_le (by rw [L.flat_len, e0]; omega)
/-- A later part of the same row. -/
theorem RowR.tail {g off n cap k : Nat} (h : RowR L T w B (.slice (some ⟨g, off, none⟩) n cap) l) (hk : k ≤ l.length) : RowR L T w B (.slice (some ⟨g, off + k * L.sz, none⟩) (l.length - k) (cap - k)) (l.drop k) := by
 obtain ⟨h0, h4, ⟨hv, hn⟩ | ⟨g', off', cap', cur, hv, hg, hb, hcap, hcm, hcs, htk⟩⟩ := h
 · cases hv
 · injection hv with hv1 hv2 hv3
   injection hv1 with hv1
   injection hv1 with hv1 hv4 _
   subst hv1 hv3 hv4
   have e0 : (l.drop k).length = l.length - k := by rw [List.length_drop]
   have hm : k * L.sz + (cap - k) * L.sz = cap * L.sz := by rw [← Nat.add_mul]; congr 1; omega
   have hm2 : k * L.sz + (l.length - k) * L.sz = l.length * L.sz := by rw [← Nat.add_mul]; congr 1; omega
   refine ⟨by omega, by rw [L.flat_len], Or.inr ⟨g, off + k * L.sz, cap - k, cur, by rw [e0], hg, hb, by omega, by omega, by omega, ?_⟩⟩
   rw [e0, ← List.drop_drop]
   have h1 : L.flat (l.drop k) = (L.flat l).drop (k * L.sz) := by
    conv => rhs; rw [← List.take_append_drop k l]
    rw [L.flat_append, List.drop_left' (by rw [L.flat_len, List.length_take]; congr 1; omega)]
   rw [h1, ← htk, List.drop_take]
   congr 1
   omega
theorem RowR.few (h : RowR L T w B v l) : l.length ≤ 1000000 := h.1
/-- Where an own row lies. -/
theorem RowR.blk {k : Nat} (h : RowR L T w B v l) (hk : v.ownBlock = some k) : B ≤ k ∧ k < w.heap.size ∧ ∃ cs, Blk w k cs T := by
 obtain ⟨-, -, ⟨hv, -⟩ | ⟨g, off, cap, cur, hv, hg, hb, -⟩⟩ := h
 · rw [hv] at hk; cases hk
 · rw [hv] at hk
   injection hk with hk
   have hk : g = k := hk
   subst hk
   exact ⟨hg, (Array.getElem?_eq_some_iff.1 hb).1, cur, hb⟩
theorem blk_ty {w : World} {k : Nat} {cs cs' : Array Value} {T T' : TypeId} (h : Blk w k cs T) (h' : Blk w k cs' T') : T = T' := by
 unfold Blk at h h'
 rw [h] at h'
 injection h' with h'
 injection h'
theorem RowR.sepB {T' : TypeId} {b : Nat} {cs : Array Value} (h : RowR L T w B v l) (hb : Blk w b cs T') (hT : T ≠ T') : v.ownBlock ≠ some b := by
 intro hk
 obtain ⟨-, -, cs', h2⟩ := h.blk hk
 exact hT (blk_ty h2 hb)
theorem RowR.base {B' : Nat} (h : RowR L T w B v l) (hB : B' ≤ B) : RowR L T w B' v l := by
 obtain ⟨h0, h4, h | ⟨g, off, cap, cur, hv, hg, r⟩⟩ := h
 · exact ⟨h0, h4, Or.inl h⟩
 · exact ⟨h0, h4, Or.inr ⟨g, off, cap, cur, hv, Nat.le_trans hB hg, r⟩⟩
end Go.Proofs.YtkggloeaojkhaaaGreatDoor
