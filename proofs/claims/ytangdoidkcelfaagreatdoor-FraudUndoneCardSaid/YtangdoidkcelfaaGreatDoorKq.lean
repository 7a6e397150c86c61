/- Features in a row of the call's own; contracts of fraud.Features and its closures (walks; printed by gen/h33.py). -/
import Derived.Test.YtangdoidkcelfaaGreatDoorKp
import Derived.Deep.AppendLies
namespace Go.Proofs.YtangdoidkcelfaaGreatDoor
open Go.RowKit
def ftCells (f : Feat) : List Value := [.string f.name, .int .i64 f.kind, .int .i64 f.n, .string f.text]
theorem ftFlat_len : ∀ l : List Feat, (l.flatMap ftCells).length = l.length * 4
 | [] => rfl
 | f :: r => by rw [List.flatMap_cons, List.length_append, ftFlat_len r, List.length_cons]; simp [ftCells]; omega
theorem ftFlat_get : ∀ (l : List Feat) (j : Nat), j < l.length → (l.flatMap ftCells)[j * 4]? = some (.string (l.getD j fD).name) ∧ (l.flatMap ftCells)[j * 4 + 1]? = some (.int .i64 (l.getD j fD).kind) ∧ (l.flatMap ftCells)[j * 4 + 2]? = some (.int .i64 (l.getD j fD).n) ∧ (l.flatMap ftCells)[j * 4 + 3]? = some (.string (l.getD j fD).text)
 | [], _, h => by simp at h
 | f :: r, 0, _ => by simp [ftCells]
 | f :: r, j + 1, h => by
  have ih := ftFlat_get r j (by simpa using h)
  have e : ∀ o, (List.flatMap ftCells (f :: r))[(j + 1) * 4 + o]? = (r.flatMap ftCells)[j * 4 + o]? := by
   intro o
   rw [List.flatMap_cons, List.getElem?_append_right (by simp [ftCells]; omega)]
   congr 1
   simp [ftCells]; omega
  have e0 := e 0
  simp only [Nat.add_zero] at e0
  rw [e0, e 1, e 2, e 3]
  simpa using ih
/-- The cells hold the features. -/
def FtRow (cur : Array Value) (l : List Feat) : Prop :=
 ∀ j, j < l.length → cur[j * 4]? = some (.string (l.getD j fD).name) ∧ cur[j * 4 + 1]? = some (.int .i64 (l.getD j fD).kind) ∧ cur[j * 4 + 2]? = some (.int .i64 (l.getD j fD).n) ∧ cur[j * 4 + 3]? = some (.string (l.getD j fD).text)
theorem FtRow.of_take {cur : Array Value} {l : List Feat} (h : cur.toList.take (l.length * 4) = l.flatMap ftCells) : FtRow cur l := by
 intro j hj
 have e : ∀ o, o < 4 → cur[j * 4 + o]? = (l.flatMap ftCells)[j * 4 + o]? := by
  intro o ho
  rw [← h, List.getElem?_take_of_lt (by omega), Array.getElem?_toList]
 have := ftFlat_get l j hj
 have e0 := e 0 (by omega)
 simp only [Nat.add_zero] at e0
 rw [e0, e 1 (by omega), e 2 (by omega), e 3 (by omega)]
 exact this
theorem infoFtE : (Tryz.prog.info? 62).map (fun i => (i.zero, i.size, i.bytes)) = some (some (.agg #[.string ⟨#[]⟩, .int .i64 0, .int .i64 0, .string ⟨#[]⟩]), 4, 48) := by kernel_rfl
theorem ft_one (l : List Feat) : ∀ u ∈ l.flatMap ftCells, u.oneCell' = true := by
 intro u hu
 obtain ⟨f, -, hf⟩ := List.mem_flatMap.1 hu
 simp only [ftCells, List.mem_cons, List.not_mem_nil, or_false] at hf
 rcases hf with rfl | rfl | rfl | rfl <;> rfl
theorem ftc_one (f : Feat) : ∀ u ∈ ftCells f, u.oneCell' = true := by
 intro u hu
 simp only [ftCells, List.mem_cons, List.not_mem_nil, or_false] at hu
 rcases hu with rfl | rfl | rfl | rfl <;> rfl
/-- v is a slice of the call's own, in a block from B on, and reads as the features. -/
def FtO (w : World) (B : Nat) (v : Value) (l : List Feat) : Prop := l.length ≤ 1000000 ∧ w.ownsRow B 62 4 v l.length (l.flatMap ftCells)
theorem FtO.nil (w : World) (B : Nat) : FtO w B (.slice none 0 0) [] := ⟨by simp, rfl, Or.inl ⟨rfl, rfl⟩⟩
theorem FtO.form {w : World} {B : Nat} {v : Value} {l : List Feat} (h : FtO w B v l) : ∃ p c, v = .slice p l.length c := by
 obtain ⟨_, _, ⟨h, h0⟩ | ⟨g, cap, cur, hv, _⟩⟩ := h
 · exact ⟨none, 0, by rw [h0]; exact h⟩
 · exact ⟨_, _, hv⟩
theorem FtO.ext {w w' : World} {B : Nat} {v : Value} {l : List Feat} (h : FtO w B v l) (k : Ext w w') : FtO w' B v l := ⟨h.1, ownsRow_extE h.2 k⟩
theorem FtO.chg {F : Nat → Prop} {w w' : World} {B : Nat} {v : Value} {l : List Feat} (h : FtO w B v l) (k : Chg F w w') (hF : ∀ b, v.ownBlock = some b → ¬ F b) : FtO w' B v l := ⟨h.1, ownsRow_chg h.2 k hF⟩
theorem FtO.push {w' : World} {B g cap : Nat} {l : List Feat} {u : Feat} (hl : l.length < 1000000) (hown : w'.ownsRow B 62 4 (.slice (some ⟨g, 0, none⟩) (l.length + 1) cap) (l.length + 1) (l.flatMap ftCells ++ ftCells u)) : FtO w' B (.slice (some ⟨g, 0, none⟩) (l.length + 1) cap) (l ++ [u]) := by
 refine ⟨by simp; omega, ?_⟩
 rw [List.flatMap_append]
 simpa using hown
theorem FtO.feats {w : World} {B : Nat} {v : Value} {l : List Feat} (h : FtO w B v l) : Feats w v l := by
 obtain ⟨h0, h4, ⟨hv, hn⟩ | ⟨g, cap, cur, hv, hg, hb, hcap, hcm, hcs, htk⟩⟩ := h
 · exact ⟨h0, Or.inl ⟨none, 0, hv, List.length_eq_zero_iff.1 hn⟩⟩
 · refine ⟨h0, Or.inr ⟨g, 0, cap, hv, fun i hi => ?_⟩⟩
   have hr := FtRow.of_take htk i hi
   have hb' : Blk w g cur 62 := hb
   simp only [Nat.zero_add, Nat.add_assoc, Nat.reduceAdd]
   exact ⟨(hb'.cell _).trans hr.1, (hb'.cell _).trans hr.2.1, (hb'.cell _).trans hr.2.2.1, (hb'.cell _).trans hr.2.2.2⟩
theorem FtO.sep {w : World} {B S : Nat} {v : Value} {l : List Feat} {cs : Array Value} {T : TypeId} (h : FtO w B v l) (hS : Blk w S cs T) (hT : T ≠ 62) : v.ownBlock ≠ some S := by
 intro hb
 obtain ⟨-, -, ⟨hv, -⟩ | ⟨g, cap, cur, hv, -, hg, -⟩⟩ := h
 · rw [hv] at hb; cases hb
 · rw [hv] at hb
   injection hb with hb
   subst hb
   unfold Blk at hS
   rw [hS] at hg
   injection hg with hg
   injection hg with _ hg
   exact hT hg
/-- The closures' state: block S holds the list, block M the message. -/
def FtSt (w0 : World) (S M : Nat) (ty : Int) (ev : Value) (l : List Feat) (w : World) : Prop := Ext w0 w ∧ w0.heap.size ≤ S ∧ S ≠ M ∧ Blk w M #[.int .i64 ty, ev] 27 ∧ ∃ v, Blk w S #[v] 33 ∧ FtO w w0.heap.size v l
def FtP (w0 : World) (S M : Nat) (ty : Int) (ev : Value) (l : List Feat) (e : Ending) (w' : World) : Prop := e = .returned (.tuple #[]) ∧ FtSt w0 S M ty ev l w'
/-- What an append of a feature and its store into block S leave. -/
theorem ft_push {w0 w1 w5 : World} {S M gg cap : Nat} {ty : Int} {ev : Value} {p : Option Addr} {c : Nat} {l : List Feat} {y : Feat} (hE : Ext w0 w1) (hS0 : w0.heap.size ≤ S) (hSM : S ≠ M) (hM : Blk w1 M #[.int .i64 ty, ev] 27) (hS : Blk w1 S #[.slice p l.length c] 33) (hF : FtO w1 w0.heap.size (.slice p l.length c) l) (hl : l.length ≤ 100)
 (cs : Array Value) (hg : (w1.alloc (.cells cs 62)).grownBy w5 (Value.ownBlock (.slice p l.length c))) (hat : Value.ownBlock (.slice p l.length c) = some gg ∨ gg = w1.heap.size + 1) (hown : w5.ownsRow w0.heap.size 62 4 (.slice (some ⟨gg, 0, none⟩) (l.length + 1) cap) (l.length + 1) (l.flatMap ftCells ++ ftCells y)) :
 S < w5.heap.size ∧ Blk w5 S #[.slice p l.length c] 33 ∧ ∀ w6, Ext (w5.setCell ⟨S, 0, none⟩ (.slice (some ⟨gg, 0, none⟩) (l.length + 1) cap)) w6 → FtSt w0 S M ty ev (l ++ [y]) w6 := by
 have hsS := hF.sep hS (by decide)
 have hsM := hF.sep hM (by decide)
 have hlS := hS.lt
 have hS5 : Blk w5 S #[.slice p l.length c] 33 := (hS.alloc (.cells cs 62)).chg (Chg.ofGrown hg) (fun e => hsS e.symm)
 have hM5 : Blk w5 M #[.int .i64 ty, ev] 27 := (hM.alloc (.cells cs 62)).chg (Chg.ofGrown hg) (fun e => hsM e.symm)
 have hgS : gg ≠ S := by
  intro e
  subst e
  rcases hat with h | h
  · exact hsS h
  · omega
 have hE5 : Ext w0 w5 := Chg.toExt (hE.alloc (.cells cs 62)) (Chg.ofGrown hg) (fun k hk => (hF.2.lt k hk.symm).1)
 refine ⟨hS5.lt, hS5, fun w6 h6 => ⟨(hE5.setCell hS0 _).trans h6, hS0, hSM, ?_, .slice (some ⟨gg, 0, none⟩) (l.length + 1) cap, (hS5.set 0 _).ext h6, ?_⟩⟩
 · exact (hM5.chg (F := fun k => k = S) ((Chg.refl (fun k => k = S) w5).setCell (p := ⟨S, 0, none⟩) (Or.inl rfl) _) (fun e => hSM e.symm)).ext h6
 · exact ((FtO.push (by omega) hown).chg (F := fun k => k = S) ((Chg.refl (fun k => k = S) w5).setCell (p := ⟨S, 0, none⟩) (Or.inl rfl) _) (fun b h1 h2 => hgS (by cases h1; exact h2))).ext h6
set_option maxRecDepth 8000 in
set_option maxHeartbeats 4000000 in
theorem ftext_any (w0 : World) (S M : Nat) (ty n : Int) (nm : ByteArray) (ev : Value) (es : List El) (l : List Feat) (w : World) (hEl : Elems w0 ev es) (hel : es.length ≤ 1000000) (h : FtSt w0 S M ty ev l w) (hl : l.length ≤ 100) : Calls Tryz.prog 27 #[.string nm, .int .i64 n, .pointer (some ⟨M, 0, none⟩), .pointer (some ⟨S, 0, none⟩)] w (FtP w0 S M ty ev (l ++ [⟨nm, 2, 0, getS n es⟩])) := by
 obtain ⟨hE, hS0, hSM, hM, v, hS, hF⟩ := h
 obtain ⟨p, c, rfl⟩ := hF.form
 have kG := Lib.hid (fun w1 (h1 : Ext w0 w1) => get_any ty n ev es w1 (hEl.ext h1) hel)
 obtain ⟨i0, hI, hz0, hz1, hz2⟩ := info_partsE infoFtE
 replace hI := Lib.hid hI
 replace hz0 := Lib.hid hz0
 replace hz1 := Lib.hid hz1
 replace hz2 := Lib.hid hz2
 have m0 : w.cell? ⟨M, 0, none⟩ = some (.int .i64 ty) := (hM.cell 0).trans rfl
 have m1 : w.cell? ⟨M, 1, none⟩ = some ev := (hM.cell 1).trans rfl
 generalize getS n es = X at *
 generalize getB n es = Y at *
 unfold msgAgg at kG
 replace hM := Lib.hid hM
 replace hS := Lib.hid hS
 replace hF := Lib.hid hF
 go_enter Tryz.func27, Tryz.ntmps27
 go_wp2_with fail
 refine (kG.out _ hE).mono ?_
 rintro e w1 ⟨rfl, hE0⟩
 replace hM := Lib.hid (hM.out.ext hE0)
 replace hS := Lib.hid (hS.out.ext hE0)
 replace hF := Lib.hid (hF.out.ext hE0)
 have hE1 := hE.trans hE0
 have s0 : w1.cell? ⟨S, 0, none⟩ = some (.slice p l.length c) := (hS.out.cell 0).trans rfl
 clear kG hE hE0
 go_wp2_with (at_builtin; refine wpList_append_lies _ rfl _ _ 33 rfl w0.heap.size 62 i0 (.agg #[.string ⟨#[]⟩, .int .i64 0, .int .i64 0, .string ⟨#[]⟩]) 4 48 Tryz.underlying33 hI.out hz0.out hz1.out hz2.out rfl (by decide) _ _ _ rfl (ownsRow_extE hF.out.2 ((Ext.refl _).alloc _)) ⟨w1.heap.size, 0, none⟩ 1 1 (ftCells ⟨nm, 2, 0, X⟩) rfl rfl ?_ ?_ (by decide) ?_ ?_ ?_ (w1.heap.size + 1) ?_ ?_)
 · exact World.news_of_block (Blk.new' w1 #[.string nm, .int .i64 2, .int .i64 0, .string X] 62 _ (by simp))
 · exact ftc_one _
 · unfold maxLen; omega
 · omega
 · simp; have := hE1.size; omega
 · simp
 intro gg cap w5 hown5 hgrow5 hat5 hgl5
 have hfin := Lib.hid (ft_push (y := ⟨nm, 2, 0, X⟩) hE1 hS0 hSM hM.out hS.out hF.out hl #[.string nm, .int .i64 2, .int .i64 0, .string X] hgrow5 hat5 hown5)
 have hl5 := hfin.out.1
 have s5 : w5.cell? ⟨S, 0, none⟩ = some (.slice p l.length c) := (hfin.out.2.1.cell 0).trans rfl
 have z5 : w5.frozen? ⟨S, 0, none⟩ = false := hfin.out.2.1.fz 0
 clear hown5 hgrow5 hat5 hgl5 hF hM hS s0 m0 m1
 go_wp2
 go_end0
 exact ⟨rfl, hfin.out.2.2 _ xt⟩
set_option maxRecDepth 8000 in
set_option maxHeartbeats 4000000 in
theorem fnumber_any (w0 : World) (S M : Nat) (ty n : Int) (nm : ByteArray) (ev : Value) (es : List El) (l : List Feat) (w : World) (hEl : Elems w0 ev es) (hel : es.length ≤ 1000000) (h : FtSt w0 S M ty ev l w) (hl : l.length ≤ 100) : Calls Tryz.prog 29 #[.string nm, .int .i64 n, .pointer (some ⟨M, 0, none⟩), .pointer (some ⟨S, 0, none⟩)] w (FtP w0 S M ty ev (l ++ [⟨nm, 1, numV n es, ⟨#[]⟩⟩])) := by
 obtain ⟨hE, hS0, hSM, hM, v, hS, hF⟩ := h
 obtain ⟨p, c, rfl⟩ := hF.form
 have kG := Lib.hid (fun w1 (h1 : Ext w0 w1) => mnumber_any ty n ev es w1 (hEl.ext h1) hel)
 obtain ⟨i0, hI, hz0, hz1, hz2⟩ := info_partsE infoFtE
 replace hI := Lib.hid hI
 replace hz0 := Lib.hid hz0
 replace hz1 := Lib.hid hz1
 replace hz2 := Lib.hid hz2
 have m0 : w.cell? ⟨M, 0, none⟩ = some (.int .i64 ty) := (hM.cell 0).trans rfl
 have m1 : w.cell? ⟨M, 1, none⟩ = some ev := (hM.cell 1).trans rfl
 have hN := Lib.hid (show numE n es ≠ 0 → numV n es = 0 from fun h => if_neg h)
 unfold NumbP at kG
 generalize numV n es = X at *
 generalize numE n es = Y at *
 unfold msgAgg at kG
 replace hM := Lib.hid hM
 replace hS := Lib.hid hS
 replace hF := Lib.hid hF
 go_enter Tryz.func29, Tryz.ntmps29
 go_wp2_with fail
 refine (kG.out _ hE).mono ?_
 rintro e w1 ⟨rfl, hE0⟩
 replace hM := Lib.hid (hM.out.ext hE0)
 replace hS := Lib.hid (hS.out.ext hE0)
 replace hF := Lib.hid (hF.out.ext hE0)
 have hE1 := hE.trans hE0
 have s0 : w1.cell? ⟨S, 0, none⟩ = some (.slice p l.length c) := (hS.out.cell 0).trans rfl
 clear kG hE hE0
 by_cases hy : Y = 0
 · have d1 : (Y != 0) = false := by simpa using hy
   clear hN hy
   go_wp2_with (at_builtin; refine wpList_append_lies _ rfl _ _ 33 rfl w0.heap.size 62 i0 (.agg #[.string ⟨#[]⟩, .int .i64 0, .int .i64 0, .string ⟨#[]⟩]) 4 48 Tryz.underlying33 hI.out hz0.out hz1.out hz2.out rfl (by decide) _ _ _ rfl (ownsRow_extE hF.out.2 ((Ext.refl _).alloc _)) ⟨w1.heap.size, 0, none⟩ 1 1 (ftCells ⟨nm, 1, X, ⟨#[]⟩⟩) rfl rfl ?_ ?_ (by decide) ?_ ?_ ?_ (w1.heap.size + 1) ?_ ?_)
   · exact World.news_of_block (Blk.new' w1 #[.string nm, .int .i64 1, .int .i64 X, .string ⟨#[]⟩] 62 _ (by simp))
   · exact ftc_one _
   · unfold maxLen; omega
   · omega
   · simp; have := hE1.size; omega
   · simp
   intro gg cap w5 hown5 hgrow5 hat5 hgl5
   have hfin := Lib.hid (ft_push (y := ⟨nm, 1, X, ⟨#[]⟩⟩) hE1 hS0 hSM hM.out hS.out hF.out hl #[.string nm, .int .i64 1, .int .i64 X, .string ⟨#[]⟩] hgrow5 hat5 hown5)
   have hl5 := hfin.out.1
   have s5 : w5.cell? ⟨S, 0, none⟩ = some (.slice p l.length c) := (hfin.out.2.1.cell 0).trans rfl
   have z5 : w5.frozen? ⟨S, 0, none⟩ = false := hfin.out.2.1.fz 0
   clear hown5 hgrow5 hat5 hgl5 hF hM hS s0 m0 m1
   go_wp2
   go_end0
   exact ⟨rfl, hfin.out.2.2 _ xt⟩
 · have d1 : (Y != 0) = true := by simpa using hy
   have hX := hN.out hy
   subst hX
   clear hN hy
   go_wp2_with (at_builtin; refine wpList_append_lies _ rfl _ _ 33 rfl w0.heap.size 62 i0 (.agg #[.string ⟨#[]⟩, .int .i64 0, .int .i64 0, .string ⟨#[]⟩]) 4 48 Tryz.underlying33 hI.out hz0.out hz1.out hz2.out rfl (by decide) _ _ _ rfl (ownsRow_extE hF.out.2 ((Ext.refl _).alloc _)) ⟨w1.heap.size, 0, none⟩ 1 1 (ftCells ⟨nm, 1, 0, ⟨#[]⟩⟩) rfl rfl ?_ ?_ (by decide) ?_ ?_ ?_ (w1.heap.size + 1) ?_ ?_)
   · exact World.news_of_block (Blk.new' w1 #[.string nm, .int .i64 1, .int .i64 0, .string ⟨#[]⟩] 62 _ (by simp))
   · exact ftc_one _
   · unfold maxLen; omega
   · omega
   · simp; have := hE1.size; omega
   · simp
   intro gg cap w5 hown5 hgrow5 hat5 hgl5
   have hfin := Lib.hid (ft_push (y := ⟨nm, 1, 0, ⟨#[]⟩⟩) hE1 hS0 hSM hM.out hS.out hF.out hl #[.string nm, .int .i64 1, .int .i64 0, .string ⟨#[]⟩] hgrow5 hat5 hown5)
   have hl5 := hfin.out.1
   have s5 : w5.cell? ⟨S, 0, none⟩ = some (.slice p l.length c) := (hfin.out.2.1.cell 0).trans rfl
   have z5 : w5.frozen? ⟨S, 0, none⟩ = false := hfin.out.2.1.fz 0
   clear hown5 hgrow5 hat5 hgl5 hF hM hS s0 m0 m1
   go_wp2
   go_end0
   exact ⟨rfl, hfin.out.2.2 _ xt⟩
def FeaP (es : List El) (w : World) (e : Ending) (w' : World) : Prop := ∃ v, e = .returned v ∧ FtO w' w.heap.size v (msgF es) ∧ Ext w w'
theorem feats_msg (es : List El) (b : Bool) (h : getB 52 es = b) : msgF es = [⟨carN, 2, 0, getS 2 es⟩, ⟨merN, 2, 0, getS 42 es⟩, ⟨acqN, 2, 0, getS 32 es⟩, ⟨curN, 2, 0, getS 49 es⟩, ⟨terN, 2, 0, getS 41 es⟩, ⟨amoN, 1, numV 4 es, ⟨#[]⟩⟩, ⟨catN, 1, numV 18 es, ⟨#[]⟩⟩, ⟨senN, 1, numV 7 es, ⟨#[]⟩⟩] ++ [⟨tokN, 3, if b then 1 else 0, ⟨#[]⟩⟩] := by subst h; rfl
set_option maxRecDepth 8000 in
set_option maxHeartbeats 8000000 in
theorem features_any (ty : Int) (v : Value) (es : List El) (w : World) (hv : Elems w v es) (hel : es.length ≤ 1000000) : Calls Tryz.prog 11 #[msgAgg ty v] w (FeaP es w) := by
 have kG := Lib.hid (fun w1 (h1 : Ext w w1) => get_any ty 52 v es w1 (hv.ext h1) hel)
 have k0 := Lib.hid (fun S M l w1 => ftext_any w S M ty 2 carN v es l w1 hv hel)
 have k1 := Lib.hid (fun S M l w1 => ftext_any w S M ty 42 merN v es l w1 hv hel)
 have k2 := Lib.hid (fun S M l w1 => ftext_any w S M ty 32 acqN v es l w1 hv hel)
 have k3 := Lib.hid (fun S M l w1 => ftext_any w S M ty 49 curN v es l w1 hv hel)
 have k4 := Lib.hid (fun S M l w1 => ftext_any w S M ty 41 terN v es l w1 hv hel)
 have k5 := Lib.hid (fun S M l w1 => fnumber_any w S M ty 4 amoN v es l w1 hv hel)
 have k6 := Lib.hid (fun S M l w1 => fnumber_any w S M ty 18 catN v es l w1 hv hel)
 have k7 := Lib.hid (fun S M l w1 => fnumber_any w S M ty 7 senN v es l w1 hv hel)
 have hm := Lib.hid (feats_msg es)
 unfold carN merN acqN curN terN amoN catN senN tokN at *
 unfold msgAgg at kG ⊢
 generalize getS 2 es = X0 at *
 generalize getS 42 es = X1 at *
 generalize getS 32 es = X2 at *
 generalize getS 49 es = X3 at *
 generalize getS 41 es = X4 at *
 generalize numV 4 es = X5 at *
 generalize numV 18 es = X6 at *
 generalize numV 7 es = X7 at *
 generalize getS 52 es = X8 at *
 generalize getB 52 es = b at *
 clear hv
 go_enter Tryz.func11, Tryz.ntmps11
 go_wp2_with fail
 have hSt0 : FtSt w (w.heap.size + 1) w.heap.size ty v [] ((w.alloc (.cells #[.int .i64 ty, v] 27)).alloc (.cells #[.slice none 0 0] 33)) := ⟨xt, by omega, by omega, (Blk.new _ _ _).alloc _, .slice none 0 0, Blk.new' _ _ _ _ (by simp), FtO.nil _ _⟩
 refine (k0.out _ _ _ _ hSt0 (by simp)).mono ?_
 rintro e w1 ⟨rfl, hSt1⟩
 clear k0 hSt0
 go_wp2_with fail
 refine (k1.out _ _ _ _ hSt1 (by simp)).mono ?_
 rintro e w2 ⟨rfl, hSt2⟩
 clear k1 hSt1
 go_wp2_with fail
 refine (k2.out _ _ _ _ hSt2 (by simp)).mono ?_
 rintro e w3 ⟨rfl, hSt3⟩
 clear k2 hSt2
 go_wp2_with fail
 refine (k3.out _ _ _ _ hSt3 (by simp)).mono ?_
 rintro e w4 ⟨rfl, hSt4⟩
 clear k3 hSt3
 go_wp2_with fail
 refine (k4.out _ _ _ _ hSt4 (by simp)).mono ?_
 rintro e w5 ⟨rfl, hSt5⟩
 clear k4 hSt4
 go_wp2_with fail
 refine (k5.out _ _ _ _ hSt5 (by simp)).mono ?_
 rintro e w6 ⟨rfl, hSt6⟩
 clear k5 hSt5
 go_wp2_with fail
 refine (k6.out _ _ _ _ hSt6 (by simp)).mono ?_
 rintro e w7 ⟨rfl, hSt7⟩
 clear k6 hSt6
 go_wp2_with fail
 refine (k7.out _ _ _ _ hSt7 (by simp)).mono ?_
 rintro e w8 ⟨rfl, hSt8⟩
 clear k7 hSt7
 obtain ⟨hE8, -, -, hM8, v8, hS8, hF8⟩ := hSt8
 obtain ⟨L, hL⟩ : ∃ L, L = ([] : List Feat) ++ [⟨⟨#[99, 97, 114, 100]⟩, 2, 0, X0⟩] ++ [⟨⟨#[109, 101, 114, 99, 104, 97, 110, 116]⟩, 2, 0, X1⟩] ++ [⟨⟨#[97, 99, 113, 117, 105, 114, 101, 114]⟩, 2, 0, X2⟩] ++ [⟨⟨#[99, 117, 114, 114, 101, 110, 99, 121]⟩, 2, 0, X3⟩] ++ [⟨⟨#[116, 101, 114, 109, 105, 110, 97, 108]⟩, 2, 0, X4⟩] ++ [⟨⟨#[97, 109, 111, 117, 110, 116]⟩, 1, X5, ⟨#[]⟩⟩] ++ [⟨⟨#[99, 97, 116, 101, 103, 111, 114, 121]⟩, 1, X6, ⟨#[]⟩⟩] ++ [⟨⟨#[115, 101, 110, 116]⟩, 1, X7, ⟨#[]⟩⟩] := ⟨_, rfl⟩
 have hL8 : Hid (L.length = 8) := Lib.hid (by rw [hL]; rfl)
 rw [← hL] at hF8
 have hm2 := Lib.hid (fun F (hF : b = F) => show msgF es = L ++ [⟨⟨#[116, 111, 107, 101, 110]⟩, 3, if F then 1 else 0, ⟨#[]⟩⟩] from (hm.out F hF).trans (by rw [hL]; rfl))
 clear hm hL
 obtain ⟨p8, c8, rfl⟩ := hF8.form
 have m0 : w8.cell? ⟨w.heap.size, 0, none⟩ = some (.int .i64 ty) := (hM8.cell 0).trans rfl
 have m1 : w8.cell? ⟨w.heap.size, 1, none⟩ = some v := (hM8.cell 1).trans rfl
 have hlM := hM8.lt
 replace hM8 := Lib.hid hM8
 replace hS8 := Lib.hid hS8
 replace hF8 := Lib.hid hF8
 have s0 : w8.cell? ⟨w.heap.size + 1, 0, none⟩ = some (.slice p8 L.length c8) := (hS8.out.cell 0).trans rfl
 obtain ⟨i0, hI, hz0, hz1, hz2⟩ := info_partsE infoFtE
 replace hI := Lib.hid hI
 replace hz0 := Lib.hid hz0
 replace hz1 := Lib.hid hz1
 replace hz2 := Lib.hid hz2
 go_wp2_with fail
 have hT := (Blk.new w8 #[.string ⟨#[116, 111, 107, 101, 110]⟩, .int .i64 3, .int .i64 0, .string ⟨#[]⟩] 62)
 have hET : Ext w8 (w8.alloc (.cells #[.string ⟨#[116, 111, 107, 101, 110]⟩, .int .i64 3, .int .i64 0, .string ⟨#[]⟩] 62)) := (Ext.refl _).alloc _
 refine (kG.out _ (hE8.trans hET)).mono ?_
 rintro e w9 ⟨rfl, hE9⟩
 replace hT := hT.ext hE9
 have hEB := hET.trans hE9
 clear hE9 hET kG m0 m1
 replace s0 := hEB.get s0
 have hlT := hT.lt
 have x0 : w9.cell? ⟨w8.heap.size, 0, none⟩ = some (.string ⟨#[116, 111, 107, 101, 110]⟩) := (hT.cell 0).trans rfl
 have x1 : w9.cell? ⟨w8.heap.size, 1, none⟩ = some (.int .i64 3) := (hT.cell 1).trans rfl
 have x2 : w9.cell? ⟨w8.heap.size, 2, none⟩ = some (.int .i64 0) := (hT.cell 2).trans rfl
 have x3 : w9.cell? ⟨w8.heap.size, 3, none⟩ = some (.string ⟨#[]⟩) := (hT.cell 3).trans rfl
 have z2 : w9.frozen? ⟨w8.heap.size, 2, none⟩ = false := hT.fz 2
 have hne : w.heap.size + 1 ≠ w8.heap.size := Nat.ne_of_lt hS8.out.lt
 cases b with
 | false =>
  go_wp2_with (at_builtin; refine wpList_append_lies _ rfl _ _ 33 rfl w.heap.size 62 i0 (.agg #[.string ⟨#[]⟩, .int .i64 0, .int .i64 0, .string ⟨#[]⟩]) 4 48 Tryz.underlying33 hI.out hz0.out hz1.out hz2.out rfl (by decide) _ _ _ rfl (ownsRow_extE (hF8.out.ext hEB).2 ((Ext.refl _).alloc _)) ⟨w9.heap.size, 0, none⟩ 1 1 (ftCells ⟨⟨#[116, 111, 107, 101, 110]⟩, 3, 0, ⟨#[]⟩⟩) rfl rfl ?_ ?_ (by decide) ?_ ?_ ?_ (w9.heap.size + 1) ?_ ?_)
  · exact World.news_of_block (Blk.new' w9 #[.string ⟨#[116, 111, 107, 101, 110]⟩, .int .i64 3, .int .i64 0, .string ⟨#[]⟩] 62 _ (by simp))
  · exact ftc_one _
  · have := hL8.out; unfold maxLen; omega
  · have := hL8.out; omega
  · simp; have := hE8.size; have := hEB.size; omega
  · simp
  intro gg cap w12 hown12 hgrow12 hat12 hgl12
  have hE12 : Ext w w12 := Chg.toExt ((hE8.trans hEB).alloc (.cells #[.string ⟨#[116, 111, 107, 101, 110]⟩, .int .i64 3, .int .i64 0, .string ⟨#[]⟩] 62)) (Chg.ofGrown hgrow12) (fun k hk => (hF8.out.2.lt k hk.symm).1)
  have hR := Lib.hid (FtO.push (by have := hL8.out; omega) hown12)
  have hmm := Lib.hid (hm2.out _ rfl)
  clear hgrow12 hat12 hgl12 hown12 hEB
  go_wp2
  go_ret
  exact ⟨_, rfl, (by rw [hmm.out]; exact hR.out.ext xt), xt⟩
 | true =>
  replace hEB := hEB.setCell (p := ⟨w8.heap.size, 2, none⟩) (Nat.le_refl _) (.int .i64 1)
  go_wp2_with (at_builtin; refine wpList_append_lies _ rfl _ _ 33 rfl w.heap.size 62 i0 (.agg #[.string ⟨#[]⟩, .int .i64 0, .int .i64 0, .string ⟨#[]⟩]) 4 48 Tryz.underlying33 hI.out hz0.out hz1.out hz2.out rfl (by decide) _ _ _ rfl (ownsRow_extE (hF8.out.ext hEB).2 ((Ext.refl _).alloc _)) ⟨w9.heap.size, 0, none⟩ 1 1 (ftCells ⟨⟨#[116, 111, 107, 101, 110]⟩, 3, 1, ⟨#[]⟩⟩) rfl rfl ?_ ?_ (by decide) ?_ ?_ ?_ (w9.heap.size + 1) ?_ ?_)
  · exact World.news_of_block (Blk.new' (w9.setCell ⟨w8.heap.size, 2, none⟩ (.int .i64 1)) #[.string ⟨#[116, 111, 107, 101, 110]⟩, .int .i64 3, .int .i64 1, .string ⟨#[]⟩] 62 _ (by simp))
  · exact ftc_one _
  · have := hL8.out; unfold maxLen; omega
  · have := hL8.out; omega
  · simp; have := hE8.size; have := hEB.size; omega
  · simp
  intro gg cap w12 hown12 hgrow12 hat12 hgl12
  have hE12 : Ext w w12 := Chg.toExt ((hE8.trans hEB).alloc (.cells #[.string ⟨#[116, 111, 107, 101, 110]⟩, .int .i64 3, .int .i64 1, .string ⟨#[]⟩] 62)) (Chg.ofGrown hgrow12) (fun k hk => (hF8.out.2.lt k hk.symm).1)
  have hR := Lib.hid (FtO.push (by have := hL8.out; omega) hown12)
  have hmm := Lib.hid (hm2.out _ rfl)
  clear hgrow12 hat12 hgl12 hown12 hEB
  go_wp2
  go_ret
  exact ⟨_, rfl, (by rw [hmm.out]; exact hR.out.ext xt), xt⟩
end Go.Proofs.YtangdoidkcelfaaGreatDoor
