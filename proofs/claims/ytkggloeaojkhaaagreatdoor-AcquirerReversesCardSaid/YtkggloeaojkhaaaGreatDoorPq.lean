/- Contract of acquirer's Poll (walk; printed by gen/h83.py). -/
import Derived.Test.YtkggloeaojkhaaaGreatDoorPo
namespace Go.Proofs.YtkggloeaojkhaaaGreatDoor
open Go.RowKit
/-- v is a slice that reads as the elements, in a row of elements. -/
def ElsT (w : World) (v : Value) (es : List El) : Prop := ∃ B, w.ownsRow B 97 2 v es.length (elCells es)
theorem ElsT.elems {w : World} {v : Value} {es : List El} (h : ElsT w v es) : Elems w v es := by
 obtain ⟨B, h⟩ := h
 exact elems_of_owns h
theorem OwnEls.elsT {w0 w : World} {v : Value} {es : List El} (h : OwnEls w0 w v es) : ElsT w v es := by
 obtain ⟨B, -, h⟩ := h
 exact ⟨B, h⟩
theorem ElsT.chg {F : Nat → Prop} {w w' : World} {v : Value} {es : List El} (h : ElsT w v es) (k : Chg F w w') (hF : ∀ b cs, Blk w b cs 97 → ¬ F b) : ElsT w' v es := by
 obtain ⟨B, h⟩ := h
 refine ⟨B, ownsRow_chg h k fun b hb => ?_⟩
 obtain ⟨-, ⟨hv, -⟩ | ⟨g, cap, cur, hv, -, hg, -⟩⟩ := h
 · rw [hv] at hb; cases hb
 · rw [hv] at hb
   injection hb with hb
   have hb : g = b := hb
   subst hb
   exact hF g cur hg
theorem ElsT.ext {w w' : World} {v : Value} {es : List El} (h : ElsT w v es) (k : Ext w w') : ElsT w' v es := h.chg (Chg.ofExt (F := fun _ => False) k) fun _ _ _ h => h
/-- A row of messages. -/
def mL : Lay (Int × Value) := ⟨fun x => [.int .i64 x.1, x.2], 2, by decide, fun _ => rfl⟩
def MsgsM (w : World) (B : Nat) (v : Value) (l : List (Int × List El)) : Prop := ∃ r : List (Int × Value), RowR mL 29 w B v r ∧ r.length = l.length ∧ ∀ (i : Nat) (x : Int × List El) (y : Int × Value), l[i]? = some x → r[i]? = some y → y.1 = x.1 ∧ ElsT w y.2 x.2
theorem MsgsM.nil (w : World) (B : Nat) : MsgsM w B (.slice none 0 0) [] := ⟨[], RowR.nil _ _ _ _, rfl, fun i x y h => by simp at h⟩
theorem MsgsM.ext {w w' : World} {B : Nat} {v : Value} {l : List (Int × List El)} (h : MsgsM w B v l) (k : Ext w w') : MsgsM w' B v l := by
 obtain ⟨r, h1, h2, h3⟩ := h
 exact ⟨r, h1.ext k, h2, fun i x y hx hy => ⟨(h3 i x y hx hy).1, (h3 i x y hx hy).2.ext k⟩⟩
theorem MsgsM.form {w : World} {B : Nat} {v : Value} {l : List (Int × List El)} (h : MsgsM w B v l) : ∃ p c, v = .slice p l.length c := by
 obtain ⟨r, h1, h2, -⟩ := h
 rw [← h2]
 exact h1.form
theorem MsgsM.base {w : World} {B B' : Nat} {v : Value} {l : List (Int × List El)} (h : MsgsM w B v l) (hB : B' ≤ B) : MsgsM w B' v l := by
 obtain ⟨r, h1, h2, h3⟩ := h
 exact ⟨r, h1.base hB, h2, h3⟩
/-- What a host's Poll does. -/
def revK (d : HostD) (at' : Int) : Nat → HostD
 | 0 => d
 | k + 1 => match (revK d at' k).sales[k]? with
  | some x => if x.st = 1 ∧ x.dl ≤ at' then revV (revK d at' k) k x at' else revK d at' k
  | none => revK d at' k
def decOut (it : ItD) : List (Int × List El) := if (decW it.text).1 = 0 then [(decW it.text).2] else []
def pollV (d : HostD) (at' : Int) : HostD × List (Int × List El) :=
 if permB d at' = false then (d, []) else
 ({ revK { d with now := at' } at' d.sales.length with q := (polV (revK { d with now := at' } at' d.sales.length).q at').1 }, (polV (revK { d with now := at' } at' d.sales.length).q at').2.flatMap decOut)
theorem revV_len (d : HostD) (k : Nat) (x : SaleD) (at' : Int) : (revV d k x at').sales.length = d.sales.length := by
 unfold revV
 split <;> simp
theorem revK_len (d : HostD) (at' : Int) : ∀ k, (revK d at' k).sales.length = d.sales.length
 | 0 => rfl
 | k + 1 => by
  rw [revK]
  have ih := revK_len d at' k
  split
  · split
    · rw [revV_len, ih]
    · exact ih
  · exact ih
theorem revK_yes {d : HostD} {at' : Int} {k : Nat} {x : SaleD} (h : (revK d at' k).sales[k]? = some x) (h1 : x.st = 1) (h2 : x.dl ≤ at') : revK d at' (k + 1) = revV (revK d at' k) k x at' := by
 rw [revK, h]
 simp only
 rw [if_pos ⟨h1, h2⟩]
theorem revK_no {d : HostD} {at' : Int} {k : Nat} {x : SaleD} (h : (revK d at' k).sales[k]? = some x) (h1 : ¬ (x.st = 1 ∧ x.dl ≤ at')) : revK d at' (k + 1) = revK d at' k := by
 rw [revK, h]
 simp only
 rw [if_neg h1]
theorem putV_known (d : QueD) (at' : Int) (key text : ByteArray) : (putV d at' key text).1.known.length ≤ d.known.length + 1 := by
 unfold putV
 repeat' split
 all_goals simp
theorem putV_text {d : QueD} {at' : Int} {key text : ByteArray} (h : ∀ e ∈ d.items, e.text.size ≤ 4000) : ∀ e ∈ (putV d at' key text).1.items, e.text.size ≤ 4000 := by
 unfold putV
 split
 · exact h
 · split
   · exact h
   · rename_i h2
     split
     · exact h
     · split
       · exact h
       · split
         · exact h
         · intro e he
           rcases List.mem_append.1 he with he | he
           · exact h e he
           · simp only [List.mem_cons, List.not_mem_nil, or_false] at he
             subst he
             show text.size ≤ 4000
             omega
theorem revV_q (d : HostD) (k : Nat) (x : SaleD) (at' : Int) : (revV d k x at').q.known.length ≤ d.q.known.length + 1 ∧ ((∀ e ∈ d.q.items, e.text.size ≤ 4000) → ∀ e ∈ (revV d k x at').q.items, e.text.size ≤ 4000) := by
 unfold revV
 split
 · exact ⟨Nat.le_succ _, fun h => h⟩
 · simp only
   unfold revQ
   split
   · exact ⟨putV_known _ _ _ _, fun h => putV_text h⟩
   · exact ⟨Nat.le_succ _, fun h => h⟩
theorem revK_q (d : HostD) (at' : Int) : ∀ k, (revK d at' k).q.known.length ≤ d.q.known.length + k ∧ ((∀ e ∈ d.q.items, e.text.size ≤ 4000) → ∀ e ∈ (revK d at' k).q.items, e.text.size ≤ 4000)
 | 0 => ⟨Nat.le_refl _, fun h => h⟩
 | k + 1 => by
  obtain ⟨h1, h2⟩ := revK_q d at' k
  rw [revK]
  split
  · rename_i x _
    split
    · obtain ⟨h3, h4⟩ := revV_q (revK d at' k) k x at'
      exact ⟨by omega, fun h => h4 (h2 h)⟩
    · exact ⟨by omega, h2⟩
  · exact ⟨by omega, h2⟩
theorem revK_ok {B : Nat} {I : HostI} {bs : List Nat} {d : HostD} (h : HostOk B I bs d) (at' : Int) : ∀ k, HostOk B I bs (revK d at' k)
 | 0 => h
 | k + 1 => by
  have ih := revK_ok h at' k
  rw [revK]
  split
  · rename_i x hx
    split
    · exact revV_ok ih k x at' hx
    · exact ih
  · exact ih
theorem polV_text {d : QueD} {at' : Int} (h : ∀ e ∈ d.items, e.text.size ≤ 4000) : ∀ e ∈ (polV d at').2, e.text.size ≤ 4000 := by
 unfold polV
 split
 · intro e he; cases he
 · intro e he
   obtain ⟨x, hx, he⟩ := List.mem_flatMap.1 he
   unfold polOut at he
   split at he
   · cases he
   · simp only [List.mem_cons, List.not_mem_nil, or_false] at he
     subst he
     exact h x hx
theorem polV_len (d : QueD) (at' : Int) : (polV d at').2.length ≤ d.items.length := by
 unfold polV
 split
 · simp
 · have h := outK_len d at' d.items.length
   unfold outK at h
   rw [List.take_length] at h
   exact h
def HPollP (B : Nat) (I : HostI) (d : HostD) (at' : Int) (w : World) (e : Ending) (w' : World) : Prop :=
 ∃ v, e = .returned v ∧ MsgsM w' w.heap.size v (pollV d at').2 ∧ HostM w' B I (pollV d at').1 ∧ Chg (HF B I w) w w'
/-- The items' messages behind k of them. -/
def decK (l : List ItD) (k : Nat) : List (Int × List El) := (l.take k).flatMap decOut
theorem decK_succ {l : List ItD} {k : Nat} {x : ItD} (h : l[k]? = some x) : decK l (k + 1) = decK l k ++ decOut x := by
 unfold decK
 rw [List.take_add_one, h, List.flatMap_append]
 simp
theorem decK_len (l : List ItD) : ∀ k, (decK l k).length ≤ k
 | 0 => by simp [decK]
 | k + 1 => by
  have ih := decK_len l k
  cases hx : l[k]? with
  | none =>
   unfold decK at ih ⊢
   have := List.getElem?_eq_none_iff.1 hx
   rw [List.take_of_length_le (by omega)]
   rw [List.take_of_length_le (by omega)] at ih
   omega
  | some x =>
   rw [decK_succ hx, List.length_append]
   have : (decOut x).length ≤ 1 := by unfold decOut; split <;> simp
   omega
theorem infoMsgE : (Tryz.prog.info? 29).map (fun i => (i.zero, i.size, i.bytes)) = some (some (.agg #[.int .i64 0, .slice none 0 0]), 2, 32) := by kernel_rfl
/-- Where a row of items to be sent lies. -/
theorem itLie {w : World} {B : Nat} {v : Value} {l : List ItD} (h : RowR itL 94 w B v l) : (v = .slice none 0 0 ∧ l = []) ∨ ∃ g off cap, v = .slice (some ⟨g, off, none⟩) l.length cap ∧ l.length ≤ cap ∧ cap ≤ maxLen ∧ ∀ i x, l[i]? = some x → w.cell? ⟨g, off + i * 3, none⟩ = some (.string x.key) ∧ w.cell? ⟨g, off + i * 3 + 1, none⟩ = some (.string x.text) ∧ w.cell? ⟨g, off + i * 3 + 2, none⟩ = some (.int .i64 x.tries) := by
 rcases h.lie with h | ⟨g, off, cap, h1, -, -, h4, h5, -, h7⟩
 · exact Or.inl h
 · exact Or.inr ⟨g, off, cap, h1, h4, h5, fun i x hx => ⟨h7 i x hx 0 _ rfl, h7 i x hx 1 _ rfl, h7 i x hx 2 _ rfl⟩⟩
/-- Behind the append of a message. -/
theorem MsgsM.push {W w5 : World} {B : Nat} {p : Option Addr} {m c : Nat} {l : List (Int × List El)} {ty : Int} {u : Value} {es : List El} {C : Array Value} {p' : Option Addr} {c' : Nat} {r : List (Int × Value)}
 (h1 : RowR mL 29 W B (.slice p m c) r) (h2 : r.length = l.length) (h3 : ∀ (i : Nat) (x : Int × List El) (y : Int × Value), l[i]? = some x → r[i]? = some y → y.1 = x.1 ∧ ElsT W y.2 x.2) (hm : r.length = m) (hlt : m < 1000000) (hu : ElsT W u es)
 (hg : (W.alloc (.cells C 29)).grownBy w5 (Value.ownBlock (.slice p m c)))
 (hown : OwnC w5 B 29 2 (.slice p' (m + 1) c') (m + 1) (mL.flat r ++ [.int .i64 ty, u])) : MsgsM w5 B (.slice p' (m + 1) c') (l ++ [(ty, es)]) := by
 have hE : Ext W (W.alloc (.cells C 29)) := (Ext.refl _).alloc _
 have hC : Chg (fun k => Value.ownBlock (.slice p m c) = some k) (W.alloc (.cells C 29)) w5 := (Chg.ofGrown hg).mono fun k _ e => e.symm
 have hel : ∀ v es, ElsT W v es → ElsT w5 v es := fun v es h => (h.ext hE).chg hC fun b cs hb e => (h1.ext hE).sepB hb (by decide) e
 subst hm
 refine ⟨r ++ [(ty, u)], RowR.push (L := mL) hlt hown, by simp [h2], fun i x y hx hy => ?_⟩
 by_cases hi : i < l.length
 · rw [List.getElem?_append_left hi] at hx
   rw [List.getElem?_append_left (by omega)] at hy
   obtain ⟨a, b⟩ := h3 i x y hx hy
   exact ⟨a, hel _ _ b⟩
 · rw [List.getElem?_append_right (by omega)] at hx hy
   rw [h2] at hy
   have hi0 : i - l.length = 0 := by
    have := (List.getElem?_eq_some_iff.1 hx).1
    simp at this
    omega
   rw [hi0] at hx hy
   simp only [List.getElem?_cons_zero, Option.some.injEq] at hx hy
   subst hx hy
   exact ⟨rfl, hel _ _ hu⟩
/-- The host behind k sales. -/
def PolH (w : World) (B : Nat) (I : HostI) (bs : List Nat) (sv wv : Value) (d : HostD) (at' : Int) (k : Nat) (wr : World) : Prop := HostX wr B I bs sv wv (revK d at' k) ∧ Chg (HF B I w) w wr
/-- A sale that is left as it is. -/
theorem PolH.skip {w : World} {B : Nat} {I : HostI} {bs : List Nat} {sv wv : Value} {d : HostD} {at' : Int} {k : Nat} {wr w' : World} {x : SaleD} (h : PolH w B I bs sv wv d at' k wr) (hx : (revK d at' k).sales[k]? = some x) (hn : ¬ (x.st = 1 ∧ x.dl ≤ at')) (hE : Ext wr w') : PolH w B I bs sv wv d at' (k + 1) w' := by
 unfold PolH
 rw [revK_no hx hn]
 exact ⟨h.1.ext hE, h.2.ext hE⟩
set_option maxRecDepth 8000 in
set_option maxHeartbeats 16000000 in
theorem hPoll_any (B : Nat) (I : HostI) (d : HostD) (at' : Int) (w : World) (g : Gl w) (hGB : GB B) (hB : B ≤ w.heap.size) (h : HostM w B I d) (hkn : d.q.known.length < 900000) (htx : ∀ e ∈ d.q.items, e.text.size ≤ 4000) : Calls Tryz.prog 8 #[.pointer (some ⟨I.X, 0, none⟩), .int .i64 at'] w (HPollP B I d at' w) := by
 have kP := Lib.hid (permitted_any B I d at' w h)
 by_cases hp : permB d at' = false
 · have hend := Lib.hid (fun w' (hE : Ext w w') => show HPollP B I d at' w (.returned (.slice none 0 0)) w' from by
    have e : pollV d at' = (d, []) := by unfold pollV; rw [if_pos hp]
    unfold HPollP
    rw [e]
    exact ⟨_, rfl, MsgsM.nil _ _, h.ext hE, Chg.ofExt hE⟩)
   generalize HPollP B I d at' w = PP at *
   rw [hp] at kP
   clear h hp
   go_enter Tryz.func8, Tryz.ntmps8
   go_wp2_with fail
   refine kP.out.mono ?_
   rintro e w1 ⟨rfl, hE⟩
   go_wp2_with fail
   try go_ret
   exact hend.out _ hE
 have hp' : permB d at' = true := by simpa using hp
 rw [hp'] at kP
 obtain ⟨bs, sv, wv, hX, ok⟩ := h
 obtain ⟨d1, hd1⟩ : ∃ d1 : HostD, d1 = { d with now := at' } := ⟨_, rfl⟩
 have ok1 : HostOk B I bs d1 := by rw [hd1]; exact ok.setNow at'
 have hs1 : d1.sales = d.sales := by rw [hd1]
 have hq1 : d1.q = d.q := by rw [hd1]
 have hlen := ok.len
 have hfew := ok.few
 have hpv : pollV d at' = ({ revK d1 at' d.sales.length with q := (polV (revK d1 at' d.sales.length).q at').1 }, (polV (revK d1 at' d.sales.length).q at').2.flatMap decOut) := by unfold pollV; rw [if_neg hp, ← hd1]
 have hqK := fun k => revK_q d1 at' k
 rw [hq1] at hqK
 obtain ⟨p, c, rfl⟩ := hX.r.form
 -- behind the store of the time
 have hnow := Lib.hid (fun w1 (hE : Ext w w1) => show HostX (w1.setCell ⟨I.X, 2, none⟩ (.int .i64 at')) B I bs (.slice p bs.length c) wv d1 ∧ Chg (HF B I w) w (w1.setCell ⟨I.X, 2, none⟩ (.int .i64 at')) from by
  rw [hd1]
  exact ⟨(hX.ext hE).setNow at', Typ.trans (Chg.ofExt hE) (HF.setNow (hX.ext hE) ok at')⟩)
 have y2 : w.cell? ⟨I.X, 2, none⟩ = some (.int .i64 d.now) := hX.h.cell 2
 have y5 : w.cell? ⟨I.X, 5, none⟩ = some (.slice p bs.length c) := hX.h.cell 5
 have z2 := hX.h.fz 2
 have lX := hX.h.lt
 have kR := Lib.hid (fun (k b : Nat) (x : SaleD) w1 (hS : PolH w B I bs (.slice p bs.length c) wv d1 at' k w1) (hb : bs[k]? = some b) (hx : (revK d1 at' k).sales[k]? = some x) (hk : k ≤ 256) => reverse_any B I bs (.slice p bs.length c) wv (revK d1 at' k) k b x at' w1 (g.hf hS.2 hGB) hGB (Nat.le_trans hB hS.2.size) hS.1 (revK_ok ok1 at' k) hb hx (by have := (hqK k).1; omega))
 have hrev := Lib.hid (fun (k b : Nat) (x : SaleD) w1 e w2 (hS : PolH w B I bs (.slice p bs.length c) wv d1 at' k w1) (hx : (revK d1 at' k).sales[k]? = some x) (h1 : x.st = 1) (h2 : x.dl ≤ at') (hr : RevP B I bs (.slice p bs.length c) wv (revK d1 at' k) k x at' w1 e w2) => show e = .returned (.tuple #[]) ∧ PolH w B I bs (.slice p bs.length c) wv d1 at' (k + 1) w2 from by
  obtain ⟨r1, r2, r3⟩ := hr
  refine ⟨r1, ?_, Typ.trans hS.2 r3⟩
  rw [revK_yes hx h1 h2]
  exact r2)
 have hlK := Lib.hid (fun k => revK_len d1 at' k)
 rw [hs1, ← hlen] at hlK
 -- the queue's Poll and behind it
 have kQ := Lib.hid (fun w1 (hS : PolH w B I bs (.slice p bs.length c) wv d1 at' d.sales.length w1) => fwPoll_any B I.Q I.M (revK d1 at' d.sales.length).q at' w1 hS.1.q (Nat.le_trans hB hS.2.size))
 have hqt := Lib.hid (fun x (hx : x ∈ (polV (revK d1 at' d.sales.length).q at').2) => show x.text.size ≤ 1000000 from Nat.le_trans (polV_text ((hqK d.sales.length).2 htx) x hx) (by decide))
 have hfin := Lib.hid (fun w1 w6 (hS : PolH w B I bs (.slice p bs.length c) wv d1 at' d.sales.length w1) (hq : QueM w6 B I.Q I.M (polV (revK d1 at' d.sales.length).q at').1) (hC : Chg (Typ qTs [I.M] B w1) w1 w6) => show (∀ w', Ext w6 w' → HostM w' B I (pollV d at').1 ∧ Chg (HF B I w) w w') from fun w' hE => by
  rw [hpv]
  have okn := revK_ok ok1 at' d.sales.length
  exact ⟨⟨bs, _, wv, (hS.1.setQue okn _ hq hC).ext hE, okn.setQue _⟩, (Typ.trans hS.2 (HF.setQue hC)).ext hE⟩)
 have hglb := Lib.hid (fun w1 w6 (hS : PolH w B I bs (.slice p bs.length c) wv d1 at' d.sales.length w1) (hC : Chg (Typ qTs [I.M] B w1) w1 w6) => show Gl w6 ∧ w.heap.size ≤ w6.heap.size from ⟨g.hf (Typ.trans hS.2 (HF.setQue hC)) hGB, (Typ.trans hS.2 (HF.setQue hC)).size⟩)
 have hend := Lib.hid (fun v w' (hm : MsgsM w' w.heap.size v (decK (polV (revK d1 at' d.sales.length).q at').2 (polV (revK d1 at' d.sales.length).q at').2.length)) (hh : HostM w' B I (pollV d at').1 ∧ Chg (HF B I w) w w') => show HPollP B I d at' w (.returned v) w' from by
  refine ⟨v, rfl, ?_, hh.1, hh.2⟩
  rw [hpv]
  unfold decK at hm
  rw [List.take_length] at hm
  exact hm)
 have hstart := Lib.hid (fun w1 (hE : Ext w w1) => show PolH w B I bs (.slice p bs.length c) wv d1 at' 0 (w1.setCell ⟨I.X, 2, none⟩ (.int .i64 at')) from hnow.out w1 hE)
 rw [← hlen] at kQ hqt hfin hglb hend
 have h256 : bs.length ≤ 256 := by omega
 have kD := Lib.hid (fun t w1 (g1 : Gl w1) ht => mdecode_any t w1 g1 ht)
 unfold DecMPost at kD
 obtain ⟨i0, hI, hz0, hz1, hz2⟩ := info_partsE infoMsgE
 replace hI := Lib.hid hI
 replace hz0 := Lib.hid hz0
 replace hz1 := Lib.hid hz1
 replace hz2 := Lib.hid hz2
 generalize HPollP B I d at' w = PP at *
 clear hnow hX ok ok1 hqK hs1 hq1 hpv hp hp' hd1 hfew hlen htx hkn
 unfold ptrV at *
 go_enter Tryz.func8, Tryz.ntmps8
 go_wp2_with fail
 refine kP.out.mono ?_
 rintro e w1 ⟨rfl, hE1⟩
 replace y2 := hE1.get y2
 replace y5 := hE1.get y5
 replace z2 := hE1.fz lX z2
 replace lX := Nat.lt_of_lt_of_le lX hE1.size
 have hst := Lib.hid (hstart.out w1 hE1)
 clear hstart kP
 go_wp2_with fail
 go_loopw [29] (fun i wr => ∃ k : Nat, k ≤ bs.length ∧ i = .int .i64 k ∧ Hid (PolH w B I bs (.slice p bs.length c) wv d1 at' k wr)) (fun i _ => bs.length - (intOf i).toNat)
 case atStart => exact ⟨0, Nat.zero_le _, rfl, hst⟩
 case round =>
  obtain ⟨k, hk, rfl, hS⟩ := hrel
  clear hst hE1 y2 y5 z2 lX w1
  by_cases hlt : k < bs.length
  · rcases ptrLie hS.out.1.r with ⟨-, hnil⟩ | ⟨g1, off, cap, hv, -, -, hcap, hcm, hc⟩
    · rw [hnil] at hlt; cases hlt
    have hb : bs[k]? = some bs[k] := List.getElem?_eq_getElem hlt
    have x0 := hc k _ hb
    injection hv with hp1 hp2 hp3
    subst hp1 hp3
    have hx := List.getElem?_eq_getElem (show k < (revK d1 at' k).sales.length by rw [hlK.out]; exact hlt)
    obtain ⟨x, hxx⟩ : ∃ x, x = (revK d1 at' k).sales[k]'(by rw [hlK.out]; exact hlt) := ⟨_, rfl⟩
    rw [← hxx] at hx
    clear hxx
    have bk := (hS.out.1.e k _ x hb hx).1
    generalize bs[k] = b at *
    have y8 : wr.cell? ⟨b, 8, none⟩ = some (.int .i64 x.st) := (bk.cell 8).trans rfl
    have y12 : wr.cell? ⟨b, 12, none⟩ = some (.int .i64 x.dl) := (bk.cell 12).trans rfl
    unfold ptrV at x0
    clear hc hcap hcm hp2 bk kQ hqt hfin hglb hend kD hlK
    by_cases h1 : x.st = 1
    · have q1 : (x.st == 1) = true := by simp [h1]
      by_cases h2 : x.dl ≤ at'
      · have q2 : decide (x.dl ≤ at') = true := decide_eq_true h2
        have kR1 := Lib.hid (kR.out k b x wr hS.out hb hx (by omega))
        have hr1 := Lib.hid (fun e w2 hr => hrev.out k b x wr e w2 hS.out hx h1 h2 hr)
        clear kR hrev hS hx hb h1 h2
        go_wp2_with fail
        refine kR1.out.mono ?_
        rintro e w2 hr
        obtain ⟨rfl, hS2⟩ := hr1.out e w2 hr
        clear hr hr1 kR1 x0 y8 y12
        replace hS2 := Lib.hid hS2
        go_wp2
        go_roundw
        case rel => exact ⟨k + 1, by omega, by go_num, hS2⟩
        case measure => simp [intOf]; omega
      · have q2 : decide (x.dl ≤ at') = false := decide_eq_false h2
        have hS2 := Lib.hid (fun w' hE => hS.out.skip (w' := w') hx (fun h => h2 h.2) hE)
        clear kR hrev hS hx hb h1 h2
        go_wp2
        go_roundw
        case rel => exact ⟨k + 1, by omega, by go_num, Lib.hid (hS2.out _ (Ext.refl _))⟩
        case measure => simp [intOf]; omega
    · have q1 : (x.st == 1) = false := by simp [h1]
      have hS2 := Lib.hid (fun w' hE => hS.out.skip (w' := w') hx (fun h => h1 h.1) hE)
      clear kR hrev hS hx hb h1
      go_wp2
      go_roundw
      case rel => exact ⟨k + 1, by omega, by go_num, Lib.hid (hS2.out _ (Ext.refl _))⟩
      case measure => simp [intOf]; omega
  · obtain rfl : k = bs.length := by omega
    have x4 : wr.cell? ⟨I.X, 4, none⟩ = some (.pointer (some ⟨I.Q, 0, none⟩)) := hS.out.1.h.cell 4
    clear kR hrev hlK
    go_wp2_with fail
    refine (kQ.out wr hS.out).mono ?_
    rintro e w6 ⟨v6, rfl, hrow, hq6, hC6⟩
    have hh := Lib.hid (hfin.out wr w6 hS.out hq6 hC6)
    obtain ⟨g6, hw6⟩ := hglb.out wr w6 hS.out hC6
    obtain ⟨p6, c6, rfl⟩ := hrow.form
    have hm6 := hrow.1
    replace hrow := Lib.hid hrow
    replace g6 := Lib.hid g6
    have hend6 := Lib.hid (fun v w' (hE : Ext w6 w') hm => hend.out v w' hm (hh.out w' hE))
    generalize (polV (revK d1 at' bs.length).q at').2 = QO at *
    clear hh hfin hglb hend kQ hS hq6 hC6 x4
    go_wp2_with fail
    go_loopw [59, 7] (fun j u wq => ∃ k : Nat, k ≤ QO.length ∧ j = .int .i64 k ∧ Hid (MsgsM wq w6.heap.size u (decK QO k)) ∧ Ext w6 wq) (fun j _ _ => QO.length - (intOf j).toNat)
    case atStart => exact ⟨0, Nat.zero_le _, rfl, Lib.hid (MsgsM.nil _ _), Ext.refl _⟩
    case round =>
     obtain ⟨k, hk, rfl, hM, hE⟩ := hrel
     by_cases hlt : k < QO.length
     · rcases itLie hrow.out with ⟨-, hnil⟩ | ⟨g1, off, cap, hv, hcap, hcm, hc⟩
       · rw [hnil] at hlt; cases hlt
       have hx : QO[k]? = some QO[k] := List.getElem?_eq_getElem hlt
       obtain ⟨x0, x1, x2⟩ := hc k _ hx
       injection hv with hp1 hp2 hp3
       subst hp1 hp3
       replace x0 := hE.get x0
       replace x1 := hE.get x1
       replace x2 := hE.get x2
       have htl := hqt.out _ (List.getElem_mem hlt)
       have hd := decK_succ hx
       have hkl := decK_len QO k
       generalize QO[k] = it at *
       obtain ⟨ik, itx, itr⟩ := it
       unfold decOut at hd
       simp only at x0 x1 x2 htl hd
       replace hd := Lib.hid hd
       obtain ⟨r, hr1, hr2, hr3⟩ := hM.out
       obtain ⟨up, uc, hu⟩ := hr1.form
       subst hu
       have kD1 := Lib.hid (fun w1 (hE1 : Ext w6 w1) => kD.out itx w1 (g6.out.ext hE1) htl)
       have h6q := hE.size
       clear hc hcap hcm hx hqt kD hM hp2
       generalize hrl : r.length = m at *
       replace hrl := Lib.hid hrl
       replace hr1 := Lib.hid hr1
       replace hr2 := Lib.hid hr2
       replace hr3 := Lib.hid hr3
       have hmk : m ≤ k := by have h1 := hrl.out; have h2 := hr2.out; omega
       go_wp2_with fail
       refine (kD1.out _ (hE.trans ((Ext.refl _).alloc _))).mono ?_
       rintro e w7 ⟨v7, rfl, hel, hE7⟩
       have hE8 : Ext wr w7 := Ext.trans ((Ext.refl _).alloc _) hE7
       have hvf : ∃ p c, v7 = .slice p (decW itx).2.2.length c := by
        obtain ⟨B7, -, h7⟩ := hel
        exact (elems_of_owns h7).imp fun _ h => h.imp fun _ h => h.1
       obtain ⟨vp, vc, rfl⟩ := hvf
       have helT := hel.elsT
       clear kD1 hE7 hel x0 x1 x2
       unfold msgAgg
       obtain ⟨ty, hty⟩ : ∃ ty, ty = (decW itx).2.1 := ⟨_, rfl⟩
       obtain ⟨es, hes⟩ : ∃ es, es = (decW itx).2.2 := ⟨_, rfl⟩
       have hpair : (decW itx).2 = (ty, es) := by rw [hty, hes]
       rw [hpair] at hd
       rw [← hty, ← hes]
       rw [← hes] at helT
       obtain ⟨ez, hez⟩ : ∃ ez, ez = (decW itx).1 := ⟨_, rfl⟩
       rw [← hez] at hd ⊢
       clear hpair hty hes hez
       have helN := Lib.hid helT
       clear helT
       generalize es.length = en at *
       by_cases hz : ez = 0
       · have q : (ez == 0) = true := by simp [hz]
         have hd2 := hd.out
         rw [if_pos hz] at hd2
         replace hd2 := Lib.hid hd2
         clear hd
         have hE69 := hE.trans hE8
         go_wp2_with (at_builtin; go_loud (refine wpList_append_cut _ (by rfl) _ _ _ (by rfl) w6.heap.size 29 i0 (.agg #[.int .i64 0, .slice none 0 0]) 2 32 Tryz.underlying36 hI.out hz0.out hz1.out hz2.out rfl (by omega) (.slice up m uc) m (mL.flat r) (by rfl) (by have h1 := (hr1.out.ext (Ext.alloc (Ext.alloc hE8 (.cells #[.int .i64 ty, .slice vp en vc] 29)) (.cells #[.int .i64 ty, .slice vp en vc] 29))).2; rw [hrl.out] at h1; exact h1) ⟨w7.heap.size + 1, 0, none⟩ 1 1 [.int .i64 ty, .slice vp en vc] (by rfl) (by rfl) (World.news_of_block (Blk.new' (w7.alloc (.cells #[.int .i64 ty, .slice vp en vc] 29)) #[.int .i64 ty, .slice vp en vc] 29 _ (by simp))) (by intro u hu; simp only [List.mem_cons, List.not_mem_nil, or_false] at hu; rcases hu with rfl | rfl <;> rfl) (by unfold maxLen; omega) (by omega) (by have h1 := hE69.size; simp; omega) ?_; intro p' c' w9 hown hg9 _hat; have hN := Lib.hid (MsgsM.push (W := w7.alloc (.cells #[.int .i64 ty, .slice vp en vc] 29)) (hr1.out.ext (Ext.alloc hE8 _)) (hrl.out.trans hr2.out) (fun i x y h1 h2 => ⟨(hr3.out i x y h1 h2).1, (hr3.out i x y h1 h2).2.ext (Ext.alloc hE8 _)⟩) hrl.out (by omega) (helN.out.ext (Ext.alloc (Ext.refl _) _)) hg9 hown); have hE9 : Ext w6 w9 := Chg.toExt (Ext.alloc (Ext.alloc hE69 (.cells #[.int .i64 ty, .slice vp en vc] 29)) (.cells #[.int .i64 ty, .slice vp en vc] 29)) (Chg.ofGrown hg9) (fun j e => (hr1.out.blk e.symm).1); clear hown hg9 _hat))
         go_roundw
         case rel => exact ⟨k + 1, by omega, by go_num, by rw [hd2.out]; exact hN, hE9⟩
         case measure => simp [intOf]; omega
       · have q : (ez == 0) = false := by simp [hz]
         have hd2 := hd.out
         rw [if_neg hz, List.append_nil] at hd2
         have hN : MsgsM w7 w6.heap.size (.slice up m uc) (decK QO (k + 1)) := by
          rw [hd2]
          exact MsgsM.ext ⟨r, hr1.out, hrl.out.trans hr2.out, hr3.out⟩ hE8
         replace hN := Lib.hid hN
         have hE9 := hE.trans hE8
         clear hd hd2
         go_wp2
         go_roundw
         case rel => exact ⟨k + 1, by omega, by go_num, Lib.hid (hN.out.ext (by exact xt)), Ext.trans hE9 xt⟩
         case measure => simp [intOf]; omega
     · obtain rfl : k = QO.length := by omega
       have hs3 := Lib.hid (hend6.out _ wr hE (hM.out.base hw6))
       clear hend6 hM
       go_wp2
       try go_ret
       exact hs3.out
end Go.Proofs.YtkggloeaojkhaaaGreatDoor
