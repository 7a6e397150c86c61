/- visit, and what the closures of Names and Windows collect (walks; printed by gen/visit.py). The closures of Names and Windows (walks; printed by gen/names1.py). Contracts of Names and Windows (walks; printed by gen/names2.py). -/
import Derived.Test.YtangdoidkcelfaaGreatDoorEa
import Derived.Test.YtangdoidkcelfaaGreatDoorShelf
import Derived.Sort.OwnSorted
import Derived.Carry
import Derived.Test.YtangdoidkcelfaaGreatDoorEd
import Derived.Deep.RegionHeld3
namespace Go.Proofs.YtangdoidkcelfaaGreatDoor
open Go.RowKit Go.Sort
/-- The parts of an expression, itself first. -/
def Ex.parts : Ex → List Ex
 | .mk op nm tx n args => .mk op nm tx n args :: partsL args
where partsL : List Ex → List Ex
 | [] => []
 | x :: r => x.parts ++ partsL r
theorem parts_mk (op : Int) (nm tx : ByteArray) (n : Int) (args : List Ex) : (Ex.mk op nm tx n args).parts = .mk op nm tx n args :: Ex.parts.partsL args := by rw [Ex.parts]
theorem partsL_append (a b : List Ex) : Ex.parts.partsL (a ++ b) = Ex.parts.partsL a ++ Ex.parts.partsL b := by
 induction a with
 | nil => rfl
 | cons x r ih => simp only [List.cons_append, Ex.parts.partsL, ih, List.append_assoc]
theorem partsL_snoc (l : List Ex) (k : Nat) (h : k < l.length) : Ex.parts.partsL (l.take (k + 1)) = Ex.parts.partsL (l.take k) ++ (l.getD k exD).parts := by
 rw [take_snocD l exD k h, partsL_append]
 simp [Ex.parts.partsL]
theorem partsL_len (l : List Ex) (k : Nat) (h : k < l.length) : (Ex.parts.partsL (l.take k)).length + (l.getD k exD).parts.length ≤ (Ex.parts.partsL l).length := by
 have h1 : Ex.parts.partsL l = Ex.parts.partsL (l.take (k + 1)) ++ Ex.parts.partsL (l.drop (k + 1)) := by rw [← partsL_append, List.take_append_drop]
 rw [h1, partsL_snoc l k h]
 simp only [List.length_append]
 omega
/-- w' is w, but for blocks of strings from B on, and for own blocks. -/
structure Mv (B : Nat) (own : Nat → Prop) (w w' : World) : Prop where
 os : w'.os = w.os
 tape : w'.tape = w.tape
 output : w'.output = w.output
 size : w.heap.size ≤ w'.heap.size
 block : ∀ k, k < w.heap.size → ¬ own k → (k < B ∨ ∃ cs T z, w.heap[k]? = some (.cells cs T z) ∧ T ≠ 9) → w'.heap[k]? = w.heap[k]?
theorem Mv.trans {B : Nat} {own : Nat → Prop} {a b c : World} (h : Mv B own a b) (k : Mv B own b c) : Mv B own a c := by
 refine ⟨k.os.trans h.os, k.tape.trans h.tape, k.output.trans h.output, Nat.le_trans h.size k.size, fun j hj ho hc => ?_⟩
 have e := h.block j hj ho hc
 rw [k.block j (Nat.lt_of_lt_of_le hj h.size) ho (by rw [e]; exact hc), e]
theorem Mv.of_ext {B : Nat} {own : Nat → Prop} {a b : World} (h : Ext a b) : Mv B own a b := ⟨h.os, h.tape, h.output, h.size, fun j hj _ _ => h.block j hj⟩
theorem Mv.refl {B : Nat} {own : Nat → Prop} (a : World) : Mv B own a a := Mv.of_ext (Ext.refl a)
theorem Mv.grown {B : Nat} {own : Nat → Prop} {a b : World} {r : Option Nat} (h : a.grownBy b r) (hr : ∀ k, r = some k → B ≤ k ∧ ∃ cs z, a.heap[k]? = some (.cells cs 9 z)) : Mv B own a b := by
 refine ⟨h.os, h.tape, h.output, h.size, fun j hj _ hc => h.block j hj ?_⟩
 intro e
 obtain ⟨h1, cs, z, h2⟩ := hr j e.symm
 rcases hc with hc | ⟨cs', T, z', h3, h4⟩
 · omega
 · rw [h2] at h3
   injection h3 with h3
   injection h3 with _ h5
   exact h4 h5.symm
theorem Mv.set {B : Nat} {own : Nat → Prop} (a : World) (b o : Nat) (v : Value) (hb : own b) : Mv B own a (a.setCell ⟨b, o, none⟩ v) := by
 refine ⟨rfl, rfl, rfl, by simp, fun j _ ho _ => ?_⟩
 exact Below.heap_setCell _ _ _ _ (fun e => ho (by subst e; exact hb))
theorem Mv.ext {B : Nat} {own : Nat → Prop} {w0 a b : World} (h : Mv B own a b) (k : Ext w0 a) (hB : w0.heap.size ≤ B) (ho : ∀ k, own k → B ≤ k) : Ext w0 b := by
 refine ⟨h.os.trans k.os, h.tape.trans k.tape, h.output.trans k.output, Nat.le_trans k.size h.size, fun j hj => ?_⟩
 rw [h.block j (Nat.lt_of_lt_of_le hj k.size) (fun e => by have := ho j e; omega) (Or.inl (by omega)), k.block j hj]
theorem Mv.blk {B : Nat} {own : Nat → Prop} {a b : World} (h : Mv B own a b) {k : Nat} {cs : Array Value} {T : TypeId} (hb : Blk a k cs T) (hT : T ≠ 9) (ho : ¬ own k) : Blk b k cs T := by
 have := hb.lt
 unfold Blk at *
 rw [h.block k this ho (Or.inr ⟨cs, T, _, hb, hT⟩), hb]
theorem ownsRow_ext {a b : World} {B : Nat} {e : TypeId} {size : Nat} {v : Value} {n : Nat} {xs : List Value} (h : a.ownsRow B e size v n xs) (k : Ext a b) : b.ownsRow B e size v n xs := by
 obtain ⟨h1, h | ⟨g, cap, cur, hv, hg, hb, h2⟩⟩ := h
 · exact ⟨h1, Or.inl h⟩
 · exact ⟨h1, Or.inr ⟨g, cap, cur, hv, hg, (k.block g (Array.getElem?_eq_some_iff.1 hb).1).trans hb, h2⟩⟩
theorem owns_formE {a : World} {B : Nat} {e : TypeId} {size : Nat} {v : Value} {n : Nat} {xs : List Value} (h : a.ownsRow B e size v n xs) : ∃ p c, v = .slice p n c := by
 obtain ⟨_, ⟨h, rfl⟩ | ⟨g, cap, cur, hv, _⟩⟩ := h
 · exact ⟨none, 0, h⟩
 · exact ⟨_, _, hv⟩
/-- What a function that calls f for all parts leaves. -/
def VP {σ : Type} (Inv : World → σ → Prop) (B : Nat) (own : Nat → Prop) (s : σ) (w : World) (e : Ending) (w' : World) : Prop := e = .returned (.tuple #[]) ∧ Inv w' s ∧ Mv B own w w'
theorem foldl_mu {σ : Type} (next : σ → Ex → σ) (μ : σ → Nat) (hμ : ∀ s x, μ (next s x) ≤ μ s + 1) : ∀ (l : List Ex) (s : σ), μ (l.foldl next s) ≤ μ s + l.length
 | [], s => by simp
 | x :: l, s => by
  have h1 := foldl_mu next μ hμ l (next s x)
  have h2 := hμ s x
  simp only [List.foldl_cons, List.length_cons]
  omega
set_option maxRecDepth 8000 in
set_option maxHeartbeats 2000000 in
theorem visit_w {σ : Type} (L L2 : Nat) (Inv : World → σ → Prop) (next : σ → Ex → σ) (μ : σ → Nat) (B : Nat) (own : Nat → Prop) (hext : ∀ w1 w2 s, Inv w1 s → Ext w1 w2 → Inv w2 s) (hown : ∀ w1 s k, Inv w1 s → own k → B ≤ k ∧ k < w1.heap.size) (hμ : ∀ s x, μ (next s x) ≤ μ s + 1)
 (hf : ∀ w1 s x q len cp, Inv w1 s → μ s < 1000000 → Calls Tryz.prog 59 #[exAgg x (.slice q len cp), .pointer (some ⟨L, 0, none⟩), .pointer (some ⟨L2, 0, none⟩)] w1 (VP Inv B own (next s x) w1)) {w : World} {v : Value} {l0 : List Ex} (h : ExS w v l0) (hB : w.heap.size ≤ B) : ∀ x : Ex, x.args = l0 → ∀ w' s, Ext w w' → Inv w' s → μ s + x.parts.length ≤ 1000000 → Calls Tryz.prog 58 #[exAgg x v, .func (Fn.func 59) #[] #[.pointer (some ⟨L, 0, none⟩), .pointer (some ⟨L2, 0, none⟩)]] w' (VP Inv B own (x.parts.foldl next s) w') := by
 refine ExS.ind (P := fun x v => ∀ w' s, Ext w w' → Inv w' s → μ s + x.parts.length ≤ 1000000 → Calls Tryz.prog 58 #[exAgg x v, .func (Fn.func 59) #[] #[.pointer (some ⟨L, 0, none⟩), .pointer (some ⟨L2, 0, none⟩)]] w' (VP Inv B own (x.parts.foldl next s) w')) ?_ h
 clear h
 intro x v hS hK w' s hE hI hm
 obtain ⟨op, nm, tx, n, args⟩ := x
 obtain ⟨q, cp, rfl⟩ := hS.form
 have hlen := hS.len
 replace hK := Lib.hid hK
 simp only [Ex.args] at hK hlen ⊢
 rw [parts_mk] at hm ⊢
 simp only [List.length_cons, List.foldl_cons] at hm ⊢
 have hF0 := Lib.hid (fun w1 => hf w1 s (.mk op nm tx n args) q args.length cp)
 have hms := hμ s (.mk op nm tx n args)
 have hmu := Lib.hid (foldl_mu next μ hμ)
 generalize next s (.mk op nm tx n args) = s1 at *
 simp only [exAgg_mk] at hF0 ⊢
 replace hext := Lib.hid hext
 replace hown := Lib.hid hown
 have hno : ¬ own w'.heap.size := fun h => by have := (hown.out w' s _ hI h).2; omega
 replace hno := Lib.hid hno
 replace hI := Lib.hid hI
 have hob := Lib.hid (fun k h => (hown.out w' s k hI.out h).1)
 clear hS hf hμ
 go_enter Tryz.func58, Tryz.ntmps58
 go_wp2_with fail
 refine (hF0.out _ (hext.out _ _ _ hI.out xt) (by omega)).mono ?_
 rintro e w1 ⟨rfl, hI1, hM1⟩
 have hb0 := hM1.blk (Blk.new w' #[.int .i64 op, .string nm, .string tx, .int .i64 n, .slice q args.length cp] 40) (by decide) hno.out
 have x4 : w1.cell? ⟨w'.heap.size, 4, none⟩ = some (.slice q args.length cp) := (hb0.cell 4).trans rfl
 replace hM1 : Mv B own w' w1 := Mv.trans (Mv.of_ext xt) hM1
 replace hI1 := Lib.hid hI1
 clear hb0 hF0
 go_wp2_with fail
 clear x4
 go_loopw [12] (fun i wr => ∃ k : Nat, k ≤ args.length ∧ i = .int .i64 k ∧ Inv wr ((Ex.parts.partsL (args.take k)).foldl next s1) ∧ Mv B own w' wr) (fun i _ => args.length - (intOf i).toNat)
 case atStart => exact ⟨0, Nat.zero_le _, rfl, hI1.out, hM1⟩
 case round =>
  clear hI1 hM1
  obtain ⟨k, hk, rfl, hI2, hM2⟩ := hrel
  replace hI2 := Lib.hid hI2
  by_cases hlt : k < args.length
  · obtain ⟨b, off, rfl, sv, hkid⟩ := hK.out _ _ rfl (by omega)
    obtain ⟨hc, hsu, hP⟩ := hkid k hlt
    have hform := hsu.form
    have hEr : Ext w wr := hM2.ext hE hB hob.out
    obtain ⟨c0, c1, c2, c3, c4⟩ := (hc.ext hEr).five
    have hsn := Lib.hid (partsL_snoc args k hlt)
    have hln := partsL_len args k hlt
    have hmk := hmu.out (Ex.parts.partsL (args.take k)) s1
    replace hP := Lib.hid hP
    clear hc hkid hsu
    generalize args.getD k exD = y at *
    generalize sv k = u at *
    generalize hs2 : (Ex.parts.partsL (args.take k)).foldl next s1 = s2 at *
    replace hs2 := Lib.hid hs2
    obtain ⟨uq, uc, rfl⟩ := hform
    go_wp2_with fail
    refine (hP.out _ s2 (hEr.alloc _) (hext.out _ _ _ hI2.out xt) (by omega)).mono ?_
    rintro e w2 ⟨rfl, hI3, hM3⟩
    replace hI3 := Lib.hid hI3
    replace hM3 : Mv B own w' w2 := hM2.trans (Mv.trans (Mv.of_ext xt) hM3)
    clear hM2 hI2 c0 c1 c2 c3 c4
    go_wp2
    go_roundw
    case rel => exact ⟨k + 1, by omega, by go_num, by rw [hsn.out, List.foldl_append, hs2.out]; exact hI3.out, hM3⟩
    case measure => simp [intOf]; omega
  · have hkk : args.take k = args := List.take_of_length_le (by omega)
    rw [hkk] at hI2
    clear hkk
    go_wp2
    go_end0
    exact ⟨rfl, hI2.out, hM2⟩
end Go.Proofs.YtangdoidkcelfaaGreatDoor
namespace Go.Proofs.YtangdoidkcelfaaGreatDoor
open Go.RowKit Go.Sort
def bts (s : ByteArray) : List UInt8 := s.data.toList
theorem enc_bts (s : ByteArray) : encStr (bts s) = .string s := by
 unfold encStr bts
 simp
/-- The names that a part itself adds. -/
def occ1 (x : Ex) : List (List UInt8) := if x.op = 3 ∨ x.op = 16 ∨ x.op = 17 then [bts x.name] else []
def win1 (x : Ex) : List (List UInt8) := if x.op = 16 ∨ x.op = 17 then [bts x.name] else []
def long1 (m : Int) (x : Ex) : Int := if x.op = 16 ∨ x.op = 17 then max m x.n else m
/-- The variable at block L holds the names that were collected. -/
def NS (B L : Nat) (w : World) (acc : List (List UInt8)) : Prop :=
 B ≤ L ∧ B ≤ w.heap.size ∧ ∃ v, Blk w L #[v] 22 ∧ w.ownsRow B 9 1 v acc.length (acc.map encStr)
theorem NS.ext {B L : Nat} {w w' : World} {acc : List (List UInt8)} (h : NS B L w acc) (k : Ext w w') : NS B L w' acc := by
 obtain ⟨h1, h2, v, h3, h4⟩ := h
 exact ⟨h1, Nat.le_trans h2 k.size, v, h3.ext k, ownsRow_ext h4 k⟩
theorem infoStrE : (Tryz.prog.info? 9).map (fun i => (i.zero, i.size, i.bytes)) = some (some (.string ⟨#[]⟩), 1, 16) := by kernel_rfl
theorem row_str {w : World} {B : Nat} {v : Value} {n : Nat} {xs : List Value} (h : w.ownsRow B 9 1 v n xs) : ∀ k, v.ownBlock = some k → B ≤ k ∧ ∃ cs z, w.heap[k]? = some (.cells cs 9 z) := by
 intro k hk
 obtain ⟨_, ⟨h, rfl⟩ | ⟨g, cap, cur, hv, hg, hb, _⟩⟩ := h
 · subst h; cases hk
 · subst hv
   simp only [Value.ownBlock, Option.some.injEq] at hk
   subst hk
   exact ⟨hg, cur, _, hb⟩
theorem blk_grown {w w' : World} {r : Option Nat} {k : Nat} {cs : Array Value} {T : TypeId} (h : w.grownBy w' r) (hb : Blk w k cs T) (hne : some k ≠ r) : Blk w' k cs T := by
 have := hb.lt
 unfold Blk at *
 rw [h.block k this hne, hb]
theorem row_set {w : World} {B : Nat} {v : Value} {n : Nat} {xs : List Value} {T : TypeId} {cs : Array Value} {L : Nat} (h : w.ownsRow B 9 1 v n xs) (hb : Blk w L cs T) (hT : T ≠ 9) (u : Value) : (w.setCell ⟨L, 0, none⟩ u).ownsRow B 9 1 v n xs := by
 obtain ⟨h1, h | ⟨g, cap, cur, hv, hg, hgb, h2⟩⟩ := h
 · exact ⟨h1, Or.inl h⟩
 · refine ⟨h1, Or.inr ⟨g, cap, cur, hv, hg, ?_, h2⟩⟩
   have hne : g ≠ L := by
    intro e; subst e
    unfold Blk at hb
    rw [hb] at hgb
    injection hgb with hgb
    injection hgb with _ h5
    exact hT h5
   rw [Below.heap_setCell _ _ _ _ hne, hgb]
/-- What an append of a name, and its store into the variable, leave. -/
theorem NS.push {B L : Nat} {w w1 : World} {acc : List (List UInt8)} {v v' : Value} {s : ByteArray} (own : Nat → Prop) (ho : own L) (hB : B ≤ L) (hw : B ≤ w.heap.size) (hL : Blk w L #[v] 22) (hrow : w.ownsRow B 9 1 v acc.length (acc.map encStr))
 (hown : w1.ownsRow B 9 1 v' (acc.length + 1) (acc.map encStr ++ [.string s])) (hg : w.grownBy w1 v.ownBlock) : Blk w1 L #[v] 22 ∧ NS B L (w1.setCell ⟨L, 0, none⟩ v') (acc ++ [bts s]) ∧ Mv B own w (w1.setCell ⟨L, 0, none⟩ v') := by
 have hne : some L ≠ v.ownBlock := by
  intro e
  obtain ⟨_, cs, z, h2⟩ := row_str hrow L e.symm
  unfold Blk at hL
  rw [hL] at h2
  injection h2 with h2
  injection h2 with _ h5
  exact absurd h5 (by decide)
 have hL1 := blk_grown hg hL hne
 refine ⟨hL1, ⟨hB, by simp; exact Nat.le_trans hw hg.size, v', ?_, ?_⟩, (Mv.grown hg (row_str hrow)).trans (Mv.set _ _ _ _ ho)⟩
 · exact hL1.set 0 v'
 · have := row_set hown hL1 (by decide) v'
   simpa [enc_bts] using this
/-- The variables at the blocks L and L2 hold the names and the longest window. -/
def WS (B L L2 : Nat) (w : World) (s : List (List UInt8) × Int) : Prop := NS B L w s.1 ∧ B ≤ L2 ∧ L ≠ L2 ∧ Blk w L2 #[.int .i64 s.2] 2
theorem WS.ext {B L L2 : Nat} {w w' : World} {s : List (List UInt8) × Int} (h : WS B L L2 w s) (k : Ext w w') : WS B L L2 w' s := ⟨h.1.ext k, h.2.1, h.2.2.1, h.2.2.2.ext k⟩
theorem NS.setO {B L L2 : Nat} {w : World} {acc : List (List UInt8)} {cs : Array Value} {T : TypeId} (h : NS B L w acc) (hb : Blk w L2 cs T) (hT : T ≠ 9) (hne : L ≠ L2) (u : Value) : NS B L (w.setCell ⟨L2, 0, none⟩ u) acc := by
 obtain ⟨h1, h2, v, h3, h4⟩ := h
 exact ⟨h1, by simpa using h2, v, h3.other 0 u hne, row_set h4 hb hT u⟩
def winN (s : List (List UInt8) × Int) (x : Ex) : List (List UInt8) × Int := (s.1 ++ win1 x, long1 s.2 x)
theorem ret_intE {k : IntKind} {a b : Int} (h : a = b) : Value.int k a = .int k b := by rw [h]
set_option maxRecDepth 8000 in
set_option maxHeartbeats 2000000 in
theorem windows1_any (B L L2 : Nat) (own : Nat → Prop) (ho : own L) (ho2 : own L2) (s : List (List UInt8) × Int) (x : Ex) (q : Option Addr) (len cp : Nat) (w : World) (hI : WS B L L2 w s) (hl : s.1.length < 1000000) :
 Calls Tryz.prog 59 #[exAgg x (.slice q len cp), .pointer (some ⟨L, 0, none⟩), .pointer (some ⟨L2, 0, none⟩)] w (VP (WS B L L2) B own (winN s x) w) := by
 obtain ⟨acc, m⟩ := s
 obtain ⟨hI, hB2, hne, hL2⟩ := hI
 simp only at hI hL2 hl
 replace hL2 := Lib.hid hL2
 replace hne := Lib.hid hne
 replace hB2 := Lib.hid hB2
 obtain ⟨hB, hw, v, hL, hrow⟩ := hI
 obtain ⟨p, c, rfl⟩ := owns_formE hrow
 obtain ⟨i0, hi, hz0, hz1, hz2⟩ := info_partsE infoStrE
 obtain ⟨op, nm, tx, n, args⟩ := x
 replace hi := Lib.hid hi
 replace hz0 := Lib.hid hz0
 replace hz1 := Lib.hid hz1
 replace hz2 := Lib.hid hz2
 have hLc : w.cell? ⟨L, 0, none⟩ = some (.slice p acc.length c) := (hL.cell 0).trans rfl
 have hLf : w.frozen? ⟨L, 0, none⟩ = false := hL.fz 0
 have hLl : L < w.heap.size := hL.lt
 replace hL := Lib.hid hL
 replace hrow := Lib.hid hrow
 have hB' := Lib.hid hB
 have hw' := Lib.hid hw
 clear hB hw
 rw [exAgg_mk]
 by_cases hop : op = 16 ∨ op = 17
 · have hR := Lib.hid (show winN (acc, m) (.mk op nm tx n args) = (acc ++ [bts nm], max m n) by unfold winN; rw [show win1 (.mk op nm tx n args) = [bts nm] from if_pos hop, show long1 m (.mk op nm tx n args) = max m n from if_pos hop])
   generalize winN (acc, m) (.mk op nm tx n args) = R at *
   rcases hop with rfl | rfl
   · go_enter Tryz.func59, Tryz.ntmps59
     go_wp2_with (at_builtin; refine wpList_append_own _ rfl _ _ 22 rfl B 9 i0 (.string ⟨#[]⟩) 1 16 Tryz.underlying22 hi.out hz0.out hz1.out hz2.out rfl (by decide) _ _ _ rfl ((hrow.out.alloc _).alloc _) ⟨w.heap.size + 1, 0, none⟩ 1 1 [.string nm] rfl rfl ?_ ?_ ?_ ?_ ?_ ?_)
     · intro j u hj
       cases j with
       | zero => simp at hj; subst hj; simp [go_sem, Addr.add]
       | succ j => simp at hj
     · intro u hu; simp at hu; subst hu; rfl
     · unfold maxLen; omega
     · omega
     · have := hw'.out; simp; omega
     intro v' w1 hown1 hgrow1 _
     obtain ⟨p1, c1, rfl⟩ := owns_formE hown1
     obtain ⟨hL1, hN1, hM1⟩ := NS.push own ho hB'.out (Nat.le_trans hw'.out (by simp; omega)) ((hL.out.alloc _).alloc _) ((hrow.out.alloc _).alloc _) hown1 hgrow1
     have hl1 : w1.cell? ⟨L, 0, none⟩ = some (.slice p acc.length c) := (hL1.cell 0).trans rfl
     have hf1 : w1.frozen? ⟨L, 0, none⟩ = false := hL1.fz 0
     have hL21 : Blk w1 L2 #[.int .i64 m] 2 := by
      refine blk_grown hgrow1 ((hL2.out.alloc _).alloc _) ?_
      intro e
      obtain ⟨_, cs, z, h2⟩ := row_str ((hrow.out.alloc (.cells #[.int .i64 16, .string nm, .string tx, .int .i64 n, .slice q len cp] 40)).alloc (.cells #[.string nm] 9)) L2 e.symm
      have h3 : Blk ((w.alloc (.cells #[.int .i64 16, .string nm, .string tx, .int .i64 n, .slice q len cp] 40)).alloc (.cells #[.string nm] 9)) L2 #[.int .i64 m] 2 := (hL2.out.alloc _).alloc _
      unfold Blk at h3
      rw [h3] at h2
      injection h2 with h2
      injection h2 with _ h5
      exact absurd h5 (by decide)
     have hX : Blk w1 w.heap.size #[.int .i64 16, .string nm, .string tx, .int .i64 n, .slice q len cp] 40 := by
      refine blk_grown hgrow1 ((Blk.new w _ _).alloc _) ?_
      intro e
      obtain ⟨_, cs, z, h2⟩ := row_str ((hrow.out.alloc (.cells #[.int .i64 16, .string nm, .string tx, .int .i64 n, .slice q len cp] 40)).alloc (.cells #[.string nm] 9)) w.heap.size e.symm
      have h3 : Blk ((w.alloc (.cells #[.int .i64 16, .string nm, .string tx, .int .i64 n, .slice q len cp] 40)).alloc (.cells #[.string nm] 9)) w.heap.size #[.int .i64 16, .string nm, .string tx, .int .i64 n, .slice q len cp] 40 := (Blk.new w _ _).alloc _
      unfold Blk at h3
      rw [h3] at h2
      injection h2 with h2
      injection h2 with _ h5
      exact absurd h5 (by decide)
     replace hL21 := hL21.other (C := L) 0 (.slice p1 (acc.length + 1) c1) (fun e => hne.out e.symm)
     replace hX := hX.other (C := L) 0 (.slice p1 (acc.length + 1) c1) (fun e => by omega)
     have x3 : (w1.setCell ⟨L, 0, none⟩ (.slice p1 (acc.length + 1) c1)).cell? ⟨w.heap.size, 3, none⟩ = some (.int .i64 n) := (hX.cell 3).trans rfl
     have z0 : (w1.setCell ⟨L, 0, none⟩ (.slice p1 (acc.length + 1) c1)).cell? ⟨L2, 0, none⟩ = some (.int .i64 m) := (hL21.cell 0).trans rfl
     have zf : (w1.setCell ⟨L, 0, none⟩ (.slice p1 (acc.length + 1) c1)).frozen? ⟨L2, 0, none⟩ = false := hL21.fz 0
     clear hown1 hgrow1 hL1 hLc hLf hX
     go_wp2_with fail
     generalize w1.setCell ⟨L, 0, none⟩ (.slice p1 (acc.length + 1) c1) = w2 at *
     go_wp2
     all_goals go_end0
     all_goals exact ⟨rfl, by rw [hR.out]; exact ⟨NS.setO hN1 hL21 (by decide) hne.out _, hB2.out, hne.out, hL21.set 0 _⟩, Mv.trans (Mv.of_ext xt) (hM1.trans (Mv.set _ _ _ _ ho2))⟩
   · go_enter Tryz.func59, Tryz.ntmps59
     go_wp2_with (at_builtin; refine wpList_append_own _ rfl _ _ 22 rfl B 9 i0 (.string ⟨#[]⟩) 1 16 Tryz.underlying22 hi.out hz0.out hz1.out hz2.out rfl (by decide) _ _ _ rfl ((hrow.out.alloc _).alloc _) ⟨w.heap.size + 1, 0, none⟩ 1 1 [.string nm] rfl rfl ?_ ?_ ?_ ?_ ?_ ?_)
     · intro j u hj
       cases j with
       | zero => simp at hj; subst hj; simp [go_sem, Addr.add]
       | succ j => simp at hj
     · intro u hu; simp at hu; subst hu; rfl
     · unfold maxLen; omega
     · omega
     · have := hw'.out; simp; omega
     intro v' w1 hown1 hgrow1 _
     obtain ⟨p1, c1, rfl⟩ := owns_formE hown1
     obtain ⟨hL1, hN1, hM1⟩ := NS.push own ho hB'.out (Nat.le_trans hw'.out (by simp; omega)) ((hL.out.alloc _).alloc _) ((hrow.out.alloc _).alloc _) hown1 hgrow1
     have hl1 : w1.cell? ⟨L, 0, none⟩ = some (.slice p acc.length c) := (hL1.cell 0).trans rfl
     have hf1 : w1.frozen? ⟨L, 0, none⟩ = false := hL1.fz 0
     have hL21 : Blk w1 L2 #[.int .i64 m] 2 := by
      refine blk_grown hgrow1 ((hL2.out.alloc _).alloc _) ?_
      intro e
      obtain ⟨_, cs, z, h2⟩ := row_str ((hrow.out.alloc (.cells #[.int .i64 17, .string nm, .string tx, .int .i64 n, .slice q len cp] 40)).alloc (.cells #[.string nm] 9)) L2 e.symm
      have h3 : Blk ((w.alloc (.cells #[.int .i64 17, .string nm, .string tx, .int .i64 n, .slice q len cp] 40)).alloc (.cells #[.string nm] 9)) L2 #[.int .i64 m] 2 := (hL2.out.alloc _).alloc _
      unfold Blk at h3
      rw [h3] at h2
      injection h2 with h2
      injection h2 with _ h5
      exact absurd h5 (by decide)
     have hX : Blk w1 w.heap.size #[.int .i64 17, .string nm, .string tx, .int .i64 n, .slice q len cp] 40 := by
      refine blk_grown hgrow1 ((Blk.new w _ _).alloc _) ?_
      intro e
      obtain ⟨_, cs, z, h2⟩ := row_str ((hrow.out.alloc (.cells #[.int .i64 17, .string nm, .string tx, .int .i64 n, .slice q len cp] 40)).alloc (.cells #[.string nm] 9)) w.heap.size e.symm
      have h3 : Blk ((w.alloc (.cells #[.int .i64 17, .string nm, .string tx, .int .i64 n, .slice q len cp] 40)).alloc (.cells #[.string nm] 9)) w.heap.size #[.int .i64 17, .string nm, .string tx, .int .i64 n, .slice q len cp] 40 := (Blk.new w _ _).alloc _
      unfold Blk at h3
      rw [h3] at h2
      injection h2 with h2
      injection h2 with _ h5
      exact absurd h5 (by decide)
     replace hL21 := hL21.other (C := L) 0 (.slice p1 (acc.length + 1) c1) (fun e => hne.out e.symm)
     replace hX := hX.other (C := L) 0 (.slice p1 (acc.length + 1) c1) (fun e => by omega)
     have x3 : (w1.setCell ⟨L, 0, none⟩ (.slice p1 (acc.length + 1) c1)).cell? ⟨w.heap.size, 3, none⟩ = some (.int .i64 n) := (hX.cell 3).trans rfl
     have z0 : (w1.setCell ⟨L, 0, none⟩ (.slice p1 (acc.length + 1) c1)).cell? ⟨L2, 0, none⟩ = some (.int .i64 m) := (hL21.cell 0).trans rfl
     have zf : (w1.setCell ⟨L, 0, none⟩ (.slice p1 (acc.length + 1) c1)).frozen? ⟨L2, 0, none⟩ = false := hL21.fz 0
     clear hown1 hgrow1 hL1 hLc hLf hX
     go_wp2_with fail
     generalize w1.setCell ⟨L, 0, none⟩ (.slice p1 (acc.length + 1) c1) = w2 at *
     go_wp2
     all_goals go_end0
     all_goals exact ⟨rfl, by rw [hR.out]; exact ⟨NS.setO hN1 hL21 (by decide) hne.out _, hB2.out, hne.out, hL21.set 0 _⟩, Mv.trans (Mv.of_ext xt) (hM1.trans (Mv.set _ _ _ _ ho2))⟩
 · have hR := Lib.hid (show winN (acc, m) (.mk op nm tx n args) = (acc, m) by unfold winN; rw [show win1 (.mk op nm tx n args) = [] from if_neg hop, show long1 m (.mk op nm tx n args) = m from if_neg hop, List.append_nil])
   generalize winN (acc, m) (.mk op nm tx n args) = R at *
   have d16 : (op == 16) = false := by simp; omega
   have d17 : (op == 17) = false := by simp; omega
   clear hop
   go_enter Tryz.func59, Tryz.ntmps59
   go_wp2
   go_end0
   exact ⟨rfl, by rw [hR.out]; exact WS.ext ⟨⟨hB'.out, hw'.out, _, hL.out, hrow.out⟩, hB2.out, hne.out, hL2.out⟩ xt, Mv.of_ext xt⟩
end Go.Proofs.YtangdoidkcelfaaGreatDoor
namespace Go.Proofs.YtangdoidkcelfaaGreatDoor
open Go.RowKit Go.Sort
def sortL (l : List (List UInt8)) : List (List UInt8) := l.mergeSort fun x y => decide (x ≤ y)
def uniL (l : List (List UInt8)) : List (List UInt8) := Lib.compact (sortL l)
def Ex.occ (x : Ex) : List (List UInt8) := x.parts.flatMap occ1
def Ex.wins (x : Ex) : List (List UInt8) := x.parts.flatMap win1
def Ex.long (x : Ex) : Int := x.parts.foldl long1 0
/-- The slice v reads as the names. -/
def StrsM (w : World) (v : Value) (l : List (List UInt8)) : Prop :=
 ∃ p c, v = .slice p l.length c ∧ l.length ≤ 1000000 ∧ (0 < l.length → ∃ b off, p = some ⟨b, off, none⟩ ∧ ∀ i, i < l.length → w.cell? ⟨b, off + i, none⟩ = some (encStr (l.getD i [])))
theorem StrsM.ext {w w' : World} {v : Value} {l : List (List UInt8)} (h : StrsM w v l) (k : Ext w w') : StrsM w' v l := by
 obtain ⟨p, c, h1, h2, h3⟩ := h
 refine ⟨p, c, h1, h2, fun h0 => ?_⟩
 obtain ⟨b, off, h4, h5⟩ := h3 h0
 exact ⟨b, off, h4, fun i hi => k.get (h5 i hi)⟩
theorem foldl_flat (f : Ex → List (List UInt8)) : ∀ (l : List Ex) (acc : List (List UInt8)), l.foldl (fun acc y => acc ++ f y) acc = acc ++ l.flatMap f
 | [], acc => by simp
 | x :: l, acc => by rw [List.foldl_cons, foldl_flat f l]; simp
theorem foldl_win : ∀ (l : List Ex) (s : List (List UInt8) × Int), l.foldl winN s = (s.1 ++ l.flatMap win1, l.foldl long1 s.2)
 | [], s => by simp
 | x :: l, s => by rw [List.foldl_cons, foldl_win l]; simp [winN]
theorem sortL_len (l : List (List UInt8)) : (sortL l).length = l.length := List.length_mergeSort l
theorem compUp_len (d : Array (List UInt8)) : ∀ m, (Lib.compactUpTo d m).length ≤ m
 | 0 => by simp [Lib.compactUpTo]
 | m + 1 => by
  rw [Lib.compactUpTo_succ]
  have := compUp_len d m
  split <;> simp <;> omega
theorem compact_len (l : List (List UInt8)) : (Lib.compact l).length ≤ l.length := by
 unfold Lib.compact
 exact compUp_len _ _
theorem uniL_len (l : List (List UInt8)) : (uniL l).length ≤ l.length := Nat.le_trans (compact_len _) (by rw [sortL_len]; exact Nat.le_refl _)
theorem uniL_nil : uniL [] = [] := by
 have h := uniL_len []
 exact List.length_eq_zero_iff.1 (by simpa using h)
theorem grow_none (w : World) : grow w #[] = w := by
 cases w
 simp [grow]
/-- What Sort leaves of the variable. -/
theorem after_sort {w w2 : World} {B L g cap nn : Nat} {os : Array Obj} {acc : List (List UInt8)} {cur : Array Value} (hL : Blk w L #[.slice (some ⟨g, 0, none⟩) acc.length cap] 22) (hg : B ≤ g) (hb : w.heap[g]? = some (.cells cur 9 (0, 0))) (hc : cur.size = cap) (hn : acc.length ≤ cap)
 (e : w2 = grow (putRow encStr (Sort.ahead w nn) g 0 (sortL acc).toArray) os) :
 Blk w2 L #[.slice (some ⟨g, 0, none⟩) acc.length cap] 22 ∧ w.grownBy w2 (some g) ∧ Holds encStr w2 g 0 (sortL acc).toArray ∧ ∃ cur2 : Array Value, w2.heap[g]? = some (.cells cur2 9 (0, 0)) ∧ cur2.size = cap := by
 subst e
 have hG : w.grownBy (grow (putRow encStr (Sort.ahead w nn) g 0 (sortL acc).toArray) os) (some g) := grownBy_sorted _
 have hb2 := heap_sorted (n := nn) (os := os) (sortL acc).toArray hb
 refine ⟨blk_grown hG hL ?_, hG, holds_of_block hb2 (take_putCells cur (sortL acc) (by rw [sortL_len]; omega)), _, hb2, by simp [putCells, hc]⟩
 intro h
 injection h with h
 subst h
 unfold Blk at hL
 rw [hL] at hb
 injection hb with hb
 injection hb with _ h5
 exact absurd h5 (by decide)
/-- What Compact leaves. -/
theorem after_compact {w w3 : World} {B g cap q : Nat} {ss : List (List UInt8)} {cur : Array Value} (_hg : B ≤ g) (hb : w.heap[g]? = some (.cells cur 9 (0, 0))) (hc : cur.size = cap) (hn : ss.length ≤ cap) (hs : ss.length ≤ 1000000)
 (e : w3 = putRow encStr (Sort.ahead w q) g 0 (Lib.compact ss ++ List.replicate (ss.length - (Lib.compact ss).length) []).toArray) :
 w.grownBy w3 (some g) ∧ StrsM w3 (.slice (some ⟨g, 0, none⟩) (Lib.compact ss).length cap) (Lib.compact ss) := by
 rw [← grow_none (putRow _ _ _ _ _)] at e
 have hl := compact_len ss
 have hb3 := heap_sorted (n := q) (os := #[]) (Lib.compact ss ++ List.replicate (ss.length - (Lib.compact ss).length) []).toArray hb
 have hH : Holds encStr w3 g 0 (Lib.compact ss ++ List.replicate (ss.length - (Lib.compact ss).length) []).toArray := by
  rw [e]
  refine holds_of_block hb3 (take_putCells cur _ ?_)
  simp only [List.length_append, List.length_replicate]
  omega
 refine ⟨by rw [e]; exact grownBy_sorted _, _, _, rfl, by omega, fun h0 => ⟨g, 0, rfl, fun i hi => ?_⟩⟩
 have h := (hH i (by simp; omega)).1
 rw [h]
 have hd : (Lib.compact ss ++ List.replicate (ss.length - (Lib.compact ss).length) ([] : List UInt8)).toArray[i]! = (Lib.compact ss).getD i [] := by
  rw [getElem!_def, List.getElem?_toArray, List.getElem?_append_left hi]
  rw [List.getD_eq_getElem?_getD, List.getElem?_eq_getElem hi]
  rfl
 rw [hd]
theorem Ext.grownS {a w w' : World} {g : Nat} (h : Ext a w) (hg : w.grownBy w' (some g)) (hb : a.heap.size ≤ g) : Ext a w' := by
 refine ⟨?_, ?_, ?_, ?_, ?_⟩
 · rw [hg.os, h.os]
 · rw [hg.tape, h.tape]
 · rw [hg.output, h.output]
 · exact Nat.le_trans h.size hg.size
 · intro i hi
   rw [hg.block i (Nat.lt_of_lt_of_le hi h.size) (fun e => by injection e with e; omega), h.block i hi]
def NamesP (l : List (List UInt8)) (w : World) (e : Ending) (w' : World) : Prop := ∃ v, e = .returned v ∧ StrsM w' v l ∧ Ext w w'
def WinsP (l : List (List UInt8)) (m : Int) (w : World) (e : Ending) (w' : World) : Prop := ∃ v, e = .returned (.tuple #[v, .int .i64 m]) ∧ StrsM w' v l ∧ Ext w w'
theorem occ1_le (x : Ex) : (occ1 x).length ≤ 1 := by unfold occ1; split <;> simp
theorem win1_le (x : Ex) : (win1 x).length ≤ 1 := by unfold win1; split <;> simp
theorem occ_len (l : List Ex) : (l.flatMap occ1).length ≤ l.length := by
 induction l with
 | nil => simp
 | cons x l ih =>
  have h : (occ1 x).length ≤ 1 := by unfold occ1; split <;> simp
  simp only [List.flatMap_cons, List.length_append, List.length_cons]
  omega
theorem win_len (l : List Ex) : (l.flatMap win1).length ≤ l.length := by
 induction l with
 | nil => simp
 | cons x l ih =>
  have h : (win1 x).length ≤ 1 := by unfold win1; split <;> simp
  simp only [List.flatMap_cons, List.length_append, List.length_cons]
  omega
theorem blk_ne {w : World} {k g : Nat} {cs cur : Array Value} {T : TypeId} {z : Nat × Nat} (h : Blk w k cs T) (hT : T ≠ 9) (hb : w.heap[g]? = some (.cells cur 9 z)) : some k ≠ some g := by
 intro e
 injection e with e
 subst e
 unfold Blk at h
 rw [h] at hb
 injection hb with hb
 injection hb with _ h5
 exact hT h5
set_option maxRecDepth 8000 in
set_option maxHeartbeats 2000000 in
theorem windows_fn {w : World} {v : Value} (x : Ex) (hS : ExS w v x.args) (hp : x.parts.length ≤ 1000000) : Calls Tryz.prog 36 #[exAgg x v] w (WinsP (uniL x.wins) x.long w) := by
 have hmf : ∀ (fn : Fn) (first cap : Array Value) (w : World), (Instr.makeFunc fn first cap).run Tryz.prog w = .ok (.func fn first cap) w := fun _ _ _ _ => rfl
 obtain ⟨q, cp, rfl⟩ := hS.form
 have hV := Lib.hid (visit_w (w.heap.size + 1) (w.heap.size + 1 + 1) (WS w.heap.size (w.heap.size + 1) (w.heap.size + 1 + 1)) winN (fun s => s.1.length) w.heap.size (fun k => k = w.heap.size + 1 ∨ k = w.heap.size + 1 + 1) (fun w1 w2 s h k => h.ext k) (fun w1 s k h e => by rcases e with rfl | rfl; exact ⟨h.1.1, by obtain ⟨_, _, v, h, _⟩ := h.1; exact h.lt⟩; exact ⟨h.2.1, h.2.2.2.lt⟩) (fun s x => by unfold winN; rw [List.length_append]; have := win1_le x; omega) (fun w1 s x q len cp h1 h2 => windows1_any w.heap.size (w.heap.size + 1) (w.heap.size + 1 + 1) (fun k => k = w.heap.size + 1 ∨ k = w.heap.size + 1 + 1) (Or.inl rfl) (Or.inr rfl) s x q len cp w1 h1 h2) hS (Nat.le_refl _) x rfl)
 have hol : x.wins.length ≤ 1000000 := Nat.le_trans (win_len _) hp
 have hfl := Lib.hid (show x.parts.foldl winN ([], 0) = (x.wins, x.long) by rw [foldl_win]; rfl)
 obtain ⟨op, nm, tx, n, args⟩ := x
 generalize (Ex.mk op nm tx n args).wins = acc at *
 generalize (Ex.mk op nm tx n args).long = m at *
 have hpl := Lib.hid hp
 simp only [exAgg_mk, Ex.args] at hV ⊢
 clear hS hp
 go_enter Tryz.func36, Tryz.ntmps36
 go_wp2_with fail
 refine (hV.out _ ([], 0) xt ⟨⟨by omega, by simp; omega, _, (Blk.new' _ _ _ _ (by simp)).alloc _, ⟨rfl, Or.inl ⟨rfl, rfl⟩⟩⟩, by omega, by omega, Blk.new' _ _ _ _ (by simp)⟩ (by have := hpl.out; simpa using this)).mono ?_
 rintro e w1 ⟨rfl, hN, hM⟩
 rw [hfl.out] at hN
 have hE : Ext w w1 := hM.ext xt (Nat.le_refl _) (fun k e => by rcases e with rfl | rfl <;> omega)
 clear hM hV hfl hpl
 obtain ⟨⟨-, -, v, hL, hrow⟩, -, -, hL2⟩ := hN
 simp only at hrow hL2
 by_cases h0 : acc.length = 0
 · obtain rfl := List.length_eq_zero_iff.1 h0
   obtain ⟨p, c, rfl⟩ := owns_formE hrow
   have l0 : w1.cell? ⟨w.heap.size + 1, 0, none⟩ = some (.slice p 0 c) := (hL.cell 0).trans rfl
   have l2 : w1.cell? ⟨w.heap.size + 1 + 1, 0, none⟩ = some (.int .i64 m) := (hL2.cell 0).trans rfl
   clear hrow hL h0 hol hL2
   go_wp2_with fail
   refine (Tryz.slices_Sort_string_none p c _).mono ?_
   rintro e w2 ⟨rfl, rfl⟩
   go_wp2_with fail
   go_quiet ((go_at_call 38; exact Calls.quiet_of_same (Tryz.slices_Compact_string_empty p c _)))
   go_wp2
   go_ret2
   refine ⟨_, rfl, ?_, xt⟩
   rw [uniL_nil]
   exact ⟨p, c, rfl, by simp, fun h => by simp at h⟩
 · obtain ⟨-, ⟨-, h⟩ | ⟨g, cap, cur, rfl, hg, hb, hn, hcm, hcs, htk⟩⟩ := hrow
   · exact absurd h h0
   · have l0 : w1.cell? ⟨w.heap.size + 1, 0, none⟩ = some (.slice (some ⟨g, 0, none⟩) acc.length cap) := (hL.cell 0).trans rfl
     rw [Nat.mul_one] at hcs htk
     have hH := holds_of_block hb htk
     have hS := Lib.hid (Tryz.slices_Sort_string g 0 cap acc w1 hH (Array.getElem?_eq_some_iff.1 hb).1 (by omega))
     have hA := Lib.hid (fun w2 nn os e => after_sort (w2 := w2) (nn := nn) (os := os) (B := w.heap.size) hL hg hb hcs hn e)
     have hne2 := Lib.hid (blk_ne hL2 (by decide) hb)
     replace hg := Lib.hid hg
     replace hL2 := Lib.hid hL2
     clear hL hb hcm hcs htk hH
     go_wp2_with fail
     refine hS.out.mono ?_
     rintro e w2 ⟨rfl, nn, os, hw2⟩
     obtain ⟨hLa, hG2, hH2, cur2, hb2, hc2⟩ := hA.out w2 nn os hw2
     have hE2 : Ext w w2 := hE.grownS hG2 hg.out
     replace hL2 := Lib.hid (blk_grown hG2 hL2.out hne2.out)
     have hC := Lib.hid (Tryz.slices_Compact_string g 0 cap (sortL acc) w2.drew hH2 (by rw [sortL_len]; omega) (by rw [sortL_len]; omega))
     rw [sortL_len] at hC
     have hD := Lib.hid (fun w3 q e => after_compact (w := w2.drew) (w3 := w3) (q := q) (B := w.heap.size) (ss := sortL acc) hg.out hb2 hc2 (by rw [sortL_len]; omega) (by rw [sortL_len]; omega) e)
     replace l0 : w2.cell? ⟨w.heap.size + 1, 0, none⟩ = some (.slice (some ⟨g, 0, none⟩) acc.length cap) := (hLa.cell 0).trans rfl
     have l2 : w2.cell? ⟨w.heap.size + 1 + 1, 0, none⟩ = some (.int .i64 m) := (hL2.out.cell 0).trans rfl
     have hne1 := Lib.hid (blk_ne hLa (by decide) hb2)
     replace hLa := Lib.hid hLa
     clear hw2 hG2 hH2 hb2 hc2 hS hA hE
     rw [sortL_len] at hD
     go_wp2_with fail
     go_region_held3 (fun w' => w'.cell? ⟨w.heap.size + 1, 0, none⟩ = some (.slice (some ⟨g, 0, none⟩) acc.length cap) ∧ w'.cell? ⟨w.heap.size + 1 + 1, 0, none⟩ = some (.int .i64 m)) (exact ⟨l0, l2⟩) ((go_at_call 38; refine hC.out.mono ?_; rintro e w3 ⟨rfl, qq, hw3⟩; obtain ⟨hG3, hS3⟩ := hD.out w3 qq hw3; have hE3 : Ext w w3 := hE2.drew.grownS hG3 hg.out; have l0 : w3.cell? ⟨w.heap.size + 1, 0, none⟩ = some (.slice (some ⟨g, 0, none⟩) acc.length cap) := ((blk_grown hG3 hLa.out hne1.out).cell 0).trans rfl; have l2 : w3.cell? ⟨w.heap.size + 1 + 1, 0, none⟩ = some (.int .i64 m) := ((blk_grown hG3 hL2.out hne2.out).cell 0).trans rfl; clear hw3 hG3))
     all_goals go_wp2
     all_goals go_ret2
     all_goals exact ⟨_, rfl, hS3, hE3⟩
end Go.Proofs.YtangdoidkcelfaaGreatDoor
