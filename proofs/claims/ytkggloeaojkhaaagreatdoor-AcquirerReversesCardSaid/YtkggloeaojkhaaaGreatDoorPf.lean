/- Contract of forward's Poll (walk; printed by gen/h75.py). -/
import Derived.Test.YtkggloeaojkhaaaGreatDoorPe
import Derived.Deep.RegionLaw
namespace Go.Proofs.YtkggloeaojkhaaaGreatDoor
open Go.RowKit
/-- An item that is to be sent. -/
structure ItD where
 key : ByteArray
 text : ByteArray
 tries : Int
def itCells (e : ItD) : List Value := [.string e.key, .string e.text, .int .i64 e.tries]
def itL : Lay ItD := ⟨itCells, 3, by decide, fun _ => rfl⟩
theorem it_one (x : ItD) : ∀ v ∈ itCells x, v.oneCell' = true := by
 intro v hv
 simp only [itCells, List.mem_cons, List.not_mem_nil, or_false] at hv
 rcases hv with rfl | rfl | rfl <;> rfl
def polIt (at' retry : Int) (e : FwE) : FwE := if at' < e.due then e else ⟨e.key, e.text, at' + retry, wrap64 (e.tries + 1)⟩
def polOut (at' : Int) (e : FwE) : List ItD := if at' < e.due then [] else [⟨e.key, e.text, wrap64 (e.tries + 1)⟩]
/-- What Poll does. -/
def polV (d : QueD) (at' : Int) : QueD × List ItD := if timeB at' = false then (d, []) else (⟨d.retry, d.known, d.items.map (polIt at' d.retry)⟩, d.items.flatMap (polOut at'))
def polK (d : QueD) (at' : Int) (k : Nat) : QueD := ⟨d.retry, d.known, (d.items.take k).map (polIt at' d.retry) ++ d.items.drop k⟩
def outK (d : QueD) (at' : Int) (k : Nat) : List ItD := (d.items.take k).flatMap (polOut at')
theorem polK_zero (d : QueD) (at' : Int) : polK d at' 0 = d := by unfold polK; simp
theorem polK_len {d : QueD} {at' : Int} {k : Nat} : (polK d at' k).items.length = d.items.length := by
 unfold polK
 simp only [List.length_append, List.length_map, List.length_take, List.length_drop]
 omega
theorem polK_get {d : QueD} {at' : Int} {k : Nat} (hk : k < d.items.length) : (polK d at' k).items[k]? = some d.items[k] := by
 unfold polK
 simp only
 rw [List.getElem?_append_right (by simp only [List.length_map, List.length_take]; omega)]
 simp only [List.length_map, List.length_take, List.getElem?_drop]
 rw [show k + (k - min k d.items.length) = k by omega, List.getElem?_eq_getElem hk]
theorem polK_succ {d : QueD} {at' : Int} {k : Nat} (hk : k < d.items.length) : (polK d at' (k + 1)).items = (polK d at' k).items.set k (polIt at' d.retry d.items[k]) := by
 unfold polK
 simp only
 have e0 : ((d.items.take k).map (polIt at' d.retry)).length = k := by rw [List.length_map, List.length_take]; omega
 rw [List.set_append_right (h := by omega), e0, Nat.sub_self, List.drop_eq_getElem_cons hk, List.set_cons_zero, List.take_add_one, List.getElem?_eq_getElem hk, List.map_append, List.append_assoc]
 rfl
theorem outK_succ {d : QueD} {at' : Int} {k : Nat} (hk : k < d.items.length) : outK d at' (k + 1) = outK d at' k ++ polOut at' d.items[k] := by
 unfold outK
 rw [List.take_add_one, List.getElem?_eq_getElem hk, List.flatMap_append]
 simp
theorem outK_len (d : QueD) (at' : Int) : ∀ k, (outK d at' k).length ≤ k
 | 0 => by simp [outK]
 | k + 1 => by
  by_cases hk : k < d.items.length
  · rw [outK_succ hk, List.length_append]
    have := outK_len d at' k
    have h1 : (polOut at' d.items[k]).length ≤ 1 := by unfold polOut; split <;> simp
    omega
  · have := outK_len d at' k
    unfold outK at *
    rw [List.take_of_length_le (by omega)]
    rw [List.take_of_length_le (by omega)] at this
    omega
theorem infoItE : (Tryz.prog.info? 94).map (fun i => (i.zero, i.size, i.bytes)) = some (some (.agg #[.string ⟨#[]⟩, .string ⟨#[]⟩, .int .i64 0]), 3, 40) := by kernel_rfl
/-- x[:n:n]. -/
theorem slice_cut {T e : TypeId} {i : TypeInfo} (hT : Tryz.prog.underlying T = some (.slice e)) (hi : Tryz.prog.info? e = some i) (p : Option Addr) (m n c : Nat) (h : n ≤ c) (w : World) : (Instr.slice T (.slice p m c) none (some (.int .i64 n)) (some (.int .i64 n))).run Tryz.prog w = .ok (.slice p n n) w := by
 have h1 : (n : Int) ≤ c := by omega
 cases p with
 | none => simp [Instr.slice, run_underlying hT, Instr.sliceBounds, Instr.sliceBound, asIntOf, sizeOf, typeInfo, hi]; intro h3; omega
 | some a => simp [Instr.slice, run_underlying hT, Instr.sliceBounds, Instr.sliceBound, asIntOf, sizeOf, typeInfo, hi, Addr.add]; intro h3; omega
theorem OwnC.ext {w w' : World} {B : Nat} {e : TypeId} {size : Nat} {v : Value} {n : Nat} {xs : List Value} (h : OwnC w B e size v n xs) (k : Ext w w') : OwnC w' B e size v n xs := h.chg (Chg.ofExt (F := fun _ => False) k) fun _ _ h => h
theorem grown_undrew {w w' : World} {row : Option Nat} (h : w.drew.grownBy w' row) : w.grownBy w' row := ⟨h.os, h.tape, h.output, h.size, h.block⟩
/-- Poll's state behind k items. -/
structure PolS (w : World) (B Q M : Nat) (qv : Value) (d : QueD) (at' : Int) (k : Nat) (v : Value) (wr : World) : Prop where
 q : QueX wr B Q M qv (polK d at' k)
 r : RowR itL 94 wr w.heap.size v (outK d at' k)
 c : Chg (Typ qTs [M] B w) w wr
def FwPollP (B Q M : Nat) (d : QueD) (at' : Int) (w : World) (e : Ending) (w' : World) : Prop := ∃ v, e = .returned v ∧ RowR itL 94 w' w.heap.size v (polV d at').2 ∧ QueM w' B Q M (polV d at').1 ∧ Chg (Typ qTs [M] B w) w w'
theorem PolS.done {w : World} {B Q M : Nat} {qv : Value} {d : QueD} {at' : Int} {v : Value} {wr : World} (h : PolS w B Q M qv d at' d.items.length v wr) (ht : timeB at' = true) (w' : World) (hE : Ext wr w') : FwPollP B Q M d at' w (.returned v) w' := by
 have e1 : polK d at' d.items.length = (polV d at').1 := by unfold polK polV; rw [List.take_length, if_neg (by rw [ht]; decide)]; simp
 have e2 : outK d at' d.items.length = (polV d at').2 := by unfold outK polV; rw [List.take_length, if_neg (by rw [ht]; decide)]
 have hq := h.q.ext hE
 have hr := h.r.ext hE
 rw [e1] at hq
 rw [e2] at hr
 exact ⟨v, rfl, hr, ⟨qv, hq⟩, h.c.ext hE⟩
/-- An item that is not due. -/
theorem PolS.skip {w : World} {B Q M : Nat} {qv : Value} {d : QueD} {at' : Int} {k : Nat} {v : Value} {wr w' : World} (h : PolS w B Q M qv d at' k v wr) (hk : k < d.items.length) (hd : at' < d.items[k].due) (hE : Ext wr w') : PolS w B Q M qv d at' (k + 1) v w' := by
 have e1 : polK d at' (k + 1) = polK d at' k := by
  have h1 := polK_succ (at' := at') hk
  unfold polIt at h1
  rw [if_pos hd] at h1
  have h2 := polK_get (at' := at') hk
  have h3 : (polK d at' k).items.set k d.items[k] = (polK d at' k).items := by
   apply List.ext_getElem?
   intro j
   rw [List.getElem?_set]
   by_cases hj : k = j
   · subst hj
     rw [if_pos rfl, if_pos (by rw [polK_len]; exact hk), h2]
   · rw [if_neg hj]
  rw [h3] at h1
  show (⟨(polK d at' (k + 1)).retry, (polK d at' (k + 1)).known, (polK d at' (k + 1)).items⟩ : QueD) = _
  rw [h1]
  rfl
 have e2 : outK d at' (k + 1) = outK d at' k := by rw [outK_succ hk]; unfold polOut; rw [if_pos hd, List.append_nil]
 exact ⟨by rw [e1]; exact h.q.ext hE, by rw [e2]; exact h.r.ext hE, h.c.ext hE⟩
/-- Behind the two stores. -/
theorem PolS.two {w : World} {B Q M g off n c : Nat} {d : QueD} {at' : Int} {k : Nat} {v : Value} {wr : World} (h : PolS w B Q M (.slice (some ⟨g, off, none⟩) n c) d at' k v wr) (hk : k < d.items.length) (hd : ¬ at' < d.items[k].due) (W : World) (hW : W = (wr.setCell ⟨g, off + k * 4 + 3, none⟩ (.int .i64 (wrap64 (d.items[k].tries + 1)))).setCell ⟨g, off + k * 4 + 2, none⟩ (.int .i64 (at' + d.retry))) :
 QueX W B Q M (.slice (some ⟨g, off, none⟩) n c) (polK d at' (k + 1)) ∧ RowR itL 94 W w.heap.size v (outK d at' k) ∧ Chg (Typ qTs [M] B w) w W ∧ W.cell? ⟨g, off + k * 4, none⟩ = some (.string d.items[k].key) ∧ W.cell? ⟨g, off + k * 4 + 1, none⟩ = some (.string d.items[k].text) ∧ W.cell? ⟨g, off + k * 4 + 3, none⟩ = some (.int .i64 (wrap64 (d.items[k].tries + 1))) := by
 subst hW
 obtain ⟨hq, hr, hc⟩ := h
 have hgB := (hq.r.blk (k := g) rfl)
 have hC : Chg (fun j => j = g) wr ((wr.setCell ⟨g, off + k * 4 + 3, none⟩ (.int .i64 (wrap64 (d.items[k].tries + 1)))).setCell ⟨g, off + k * 4 + 2, none⟩ (.int .i64 (at' + d.retry))) :=
  Chg.setCell (F := fun j => j = g) (Chg.setCell (F := fun j => j = g) (Chg.refl _ _) (p := ⟨g, off + k * 4 + 3, none⟩) (Or.inl rfl) _) (p := ⟨g, off + k * 4 + 2, none⟩) (Or.inl rfl) _
 have h1 := hq.r.set (i := k) (c := 3) (x' := ⟨d.items[k].key, d.items[k].text, d.items[k].due, wrap64 (d.items[k].tries + 1)⟩) (u := .int .i64 (wrap64 (d.items[k].tries + 1))) (polK_get hk) (by decide) rfl
 have h2 := h1.set (i := k) (c := 2) (x := ⟨d.items[k].key, d.items[k].text, d.items[k].due, wrap64 (d.items[k].tries + 1)⟩) (x' := ⟨d.items[k].key, d.items[k].text, at' + d.retry, wrap64 (d.items[k].tries + 1)⟩) (u := .int .i64 (at' + d.retry)) (by rw [List.getElem?_set, if_pos rfl, if_pos (by rw [polK_len]; exact hk)]) (by decide) rfl
 rw [List.set_set] at h2
 obtain ⟨hg1, -, cs, hcs⟩ := hgB
 have hs := polK_succ (at' := at') hk
 unfold polIt at hs
 rw [if_neg hd] at hs
 have hcl : ∀ W : World, RowR fwL 134 W B (.slice (some ⟨g, off, none⟩) n c) ((polK d at' k).items.set k ⟨d.items[k].key, d.items[k].text, at' + d.retry, wrap64 (d.items[k].tries + 1)⟩) → W.cell? ⟨g, off + k * 4, none⟩ = some (.string d.items[k].key) ∧ W.cell? ⟨g, off + k * 4 + 1, none⟩ = some (.string d.items[k].text) ∧ W.cell? ⟨g, off + k * 4 + 3, none⟩ = some (.int .i64 (wrap64 (d.items[k].tries + 1))) := by
  intro W h
  rcases fwLie h with ⟨h3, -⟩ | ⟨_, _, _, h3, -, -, -, -, -, h4⟩
  · cases h3
  · injection h3 with h5
    injection h5 with h5
    injection h5 with h5 h6 _
    subst h5 h6
    obtain ⟨r1, r2, -, r4⟩ := h4 k _ (by rw [List.getElem?_set, if_pos rfl, if_pos (by rw [polK_len]; exact hk)])
    exact ⟨r1, r2, r4⟩
 refine ⟨⟨hq.q.chg hC fun e => ?_, hq.m.at (hC.block M hq.m.lt fun e => ?_), ?_, hq.bq, hq.bm, hq.few, hq.re⟩, hr.chg hC fun b hb e => ?_, Typ.step hc hC fun i _ e => ?_, hcl _ h2⟩
 · subst e
   exact absurd (blk_ty hq.q hcs) (by decide)
 · subst e
   exact blk_map hcs hq.m.isMap
 · rw [hs]
   exact h2
 · subst e
   exact hr.sepB hcs (by decide) hb
 · subst e
   exact Typ.of hcs hg1 (by decide)
/-- Behind the append. -/
theorem PolS.push {w W w5 : World} {B Q M m : Nat} {qv : Value} {d : QueD} {at' : Int} {k : Nat} {p p' : Option Addr} {c c' : Nat} {C : Array Value} (hq : QueX W B Q M qv (polK d at' (k + 1))) (hr : RowR itL 94 W w.heap.size (.slice p m c) (outK d at' k)) (hm : (outK d at' k).length = m) (hc : Chg (Typ qTs [M] B w) w W) (hk : k < d.items.length) (hk2 : k < 1000000) (hd : ¬ at' < d.items[k].due) (_hBw : B ≤ w.heap.size)
 (hg : (W.alloc (.cells C 94)).grownBy w5 (Value.ownBlock (.slice p m m))) (hown : OwnC w5 w.heap.size 94 3 (.slice p' (m + 1) c') (m + 1) (itL.flat (outK d at' k) ++ itCells ⟨d.items[k].key, d.items[k].text, wrap64 (d.items[k].tries + 1)⟩)) :
 PolS w B Q M qv d at' (k + 1) (.slice p' (m + 1) c') w5 := by
 have hE : Ext W (W.alloc (.cells C 94)) := (Ext.refl _).alloc _
 have hq2 := hq.ext hE
 have hr2 := hr.ext hE
 have hC : Chg (fun j => Value.ownBlock (.slice p m c) = some j) (W.alloc (.cells C 94)) w5 := (Chg.ofGrown hg).mono fun k _ e => by cases p <;> exact e.symm
 have hCy : Chg (Typ [94] [] w.heap.size W) W w5 := Typ.step (Chg.ofExt hE) hC fun i _ e => by
  obtain ⟨h2, -, cs, hcs⟩ := hr2.blk e
  exact Typ.of hcs h2 (by simp)
 subst hm
 have hl := outK_len d at' k
 refine ⟨hq.chg hCy (by decide) (by decide) (by simp), ?_, ?_⟩
 · rw [outK_succ hk]
   unfold polOut
   rw [if_neg hd]
   exact RowR.push (L := itL) (by omega) hown
 · refine ⟨hCy.os.trans hc.os, hCy.tape.trans hc.tape, hCy.output.trans hc.output, Nat.le_trans hc.size hCy.size, fun i hi hf => ?_⟩
   rw [hCy.block i (Nat.lt_of_lt_of_le hi hc.size) (fun h => by have := h.1; omega)]
   exact hc.block i hi hf
set_option maxRecDepth 8000 in
set_option maxHeartbeats 8000000 in
theorem fwPoll_any (B Q M : Nat) (d : QueD) (at' : Int) (w : World) (h : QueM w B Q M d) (hB : B ≤ w.heap.size) : Calls Tryz.prog 28 #[.pointer (some ⟨Q, 0, none⟩), .int .i64 at'] w (FwPollP B Q M d at' w) := by
 have kT := Lib.hid (fun w1 => fwTime_any at' w1)
 by_cases ht : timeB at' = false
 · have hend := Lib.hid (fun w' (hE : Ext w w') => show FwPollP B Q M d at' w (.returned (.slice none 0 0)) w' from by
    have e : polV d at' = (d, []) := by unfold polV; rw [if_pos ht]
    unfold FwPollP
    rw [e]
    exact ⟨_, rfl, RowR.nil _ _ _ _, h.ext hE, Chg.ofExt hE⟩)
   generalize FwPollP B Q M d at' w = PP at *
   rw [ht] at kT
   clear h ht
   go_enter Tryz.func28, Tryz.ntmps28
   go_wp2_with fail
   refine (kT.out _).mono ?_
   rintro e w1 ⟨rfl, hE⟩
   go_wp2_with fail
   try go_ret
   exact hend.out _ hE
 have ht' : timeB at' = true := by simpa using ht
 rw [ht'] at kT
 have hat : 0 ≤ at' ∧ at' ≤ 1099511627776 := by unfold timeB at ht'; simpa using ht'
 obtain ⟨qv, h⟩ := h
 obtain ⟨p, c, rfl⟩ := h.r.form
 have hll := h.r.1
 have hre := h.re
 have hstart := Lib.hid (show ∀ wr, Ext w wr → PolS w B Q M (.slice p d.items.length c) d at' 0 (.slice none 0 0) wr from fun wr hE => ⟨by rw [polK_zero]; exact h.ext hE, RowR.nil _ _ _ _, Chg.ofExt hE⟩)
 have hend := Lib.hid (fun v wr w' (hS : PolS w B Q M (.slice p d.items.length c) d at' d.items.length v wr) (hE : Ext wr w') => hS.done ht' w' hE)
 have y2 : w.cell? ⟨Q, 2, none⟩ = some (.slice p d.items.length c) := h.q.cell 2
 obtain ⟨i0, hI, hz0, hz1, hz2⟩ := info_partsE infoItE
 have hsl := Lib.hid (fun (q : Option Addr) (m c : Nat) (hh : m ≤ c) => slice_cut Tryz.underlying91 hI q m m c hh)
 replace hI := Lib.hid hI
 replace hz0 := Lib.hid hz0
 replace hz1 := Lib.hid hz1
 replace hz2 := Lib.hid hz2
 generalize FwPollP B Q M d at' w = PP at *
 clear h ht ht'
 go_enter Tryz.func28, Tryz.ntmps28
 go_wp2_with fail
 refine (kT.out _).mono ?_
 rintro e w1 ⟨rfl, hE1⟩
 replace y2 := hE1.get y2
 go_wp2_with fail
 go_loopw [21, 5] (fun i v wr => ∃ k : Nat, k ≤ d.items.length ∧ i = .int .i64 k ∧ Hid (PolS w B Q M (.slice p d.items.length c) d at' k v wr)) (fun i _ _ => d.items.length - (intOf i).toNat)
 case atStart => exact ⟨0, Nat.zero_le _, rfl, Lib.hid (hstart.out _ hE1)⟩
 case round =>
  obtain ⟨k, hk, rfl, hS⟩ := hrel
  clear hstart y2 hE1 w1 kT
  by_cases hlt : k < d.items.length
  · rcases fwLie hS.out.q.r with ⟨-, hnil⟩ | ⟨g, off, cap, hv, hgB, hgl, hcap, hcm, hfz, hc⟩
    · have := polK_len (d := d) (at' := at') (k := k)
      rw [hnil] at this
      simp only [List.length_nil] at this
      omega
    obtain ⟨x0, x1, x2, x3⟩ := hc k _ (polK_get hlt)
    injection hv with hp1 hp2 hp3
    subst hp1 hp3
    have z2 := hfz (off + k * 4 + 2)
    have z3 := hfz (off + k * 4 + 3)
    have y0 : wr.cell? ⟨Q, 0, none⟩ = some (.int .i64 d.retry) := hS.out.q.q.cell 0
    have y2 : wr.cell? ⟨Q, 2, none⟩ = some (.slice (some ⟨g, off, none⟩) d.items.length c) := hS.out.q.q.cell 2
    have hgQ : g ≠ Q := fun e => hS.out.q.r.sepB hS.out.q.q (by decide) (by rw [e]; rfl)
    obtain ⟨vp, vc, hvf⟩ := hS.out.r.form
    subst hvf
    have hvcap : (outK d at' k).length ≤ vc := by
     rcases hS.out.r.lie with ⟨h1, h2⟩ | ⟨_, _, _, h1, _, _, h4, _⟩
     · rw [h2]; simp
     · injection h1 with _ _ h1; rw [h1]; exact h4
    have hsl1 := hsl.out vp (outK d at' k).length vc hvcap
    clear hc hfz hcm hcap hp2 hsl
    by_cases hdu : at' < d.items[k].due
    · have hnext := Lib.hid (fun w' (hE : Ext wr w') => PolS.skip hS.out hlt hdu hE)
      have q := decide_eq_true hdu
      clear hS hdu
      generalize d.items[k] = u at *
      obtain ⟨uk, ut, ud, ur⟩ := u
      simp only at x0 x1 x2 x3 q
      generalize (outK d at' k).length = m at *
      go_wp2_with fail
      go_roundw
      case rel => exact ⟨k + 1, by omega, by go_num, Lib.hid (hnext.out _ (Ext.refl _))⟩
      case measure => simp [intOf]; omega
    · have htwo := Lib.hid (PolS.two hS.out hlt hdu)
      have hpush := Lib.hid (fun (W w5 : World) (p' : Option Addr) (c' : Nat) (C : Array Value) hq hr hc hg hown => PolS.push (w := w) (W := W) (w5 := w5) (B := B) (Q := Q) (M := M) (m := (outK d at' k).length) (qv := .slice (some ⟨g, off, none⟩) d.items.length c) (d := d) (at' := at') (k := k) (p := vp) (p' := p') (c := vc) (c' := c') (C := C) hq hr rfl hc hlt (by omega) hdu hB hg hown)
      have q := decide_eq_false hdu
      have hml := outK_len d at' k
      have hsW := hS.out.c.size
      clear hS hdu
      generalize d.items[k] = u at *
      obtain ⟨uk, ut, ud, ur⟩ := u
      simp only at x0 x1 x2 x3 q htwo hpush
      generalize hm : (outK d at' k).length = m at *
      replace hm := Lib.hid hm
      go_wp2_with fail
      generalize hW : (wr.setCell ⟨g, off + k * 4 + 3, none⟩ (.int .i64 (wrap64 (ur + 1)))).setCell ⟨g, off + k * 4 + 2, none⟩ (.int .i64 (at' + d.retry)) = W
      obtain ⟨hqW, hrW, hcW, c0, c1, c3⟩ := htwo.out W hW.symm
      have hpu := Lib.hid (fun w5 p' c' C hg hown => hpush.out W w5 p' c' C hqW hrW hcW hg hown)
      have hlg : g < W.heap.size := Nat.lt_of_lt_of_le (hqW.r.blk (k := g) rfl).2.1 (Nat.le_refl _)
      have hsz := Lib.hid hcW.size
      have hcut := Lib.hid (show OwnC W w.heap.size 94 3 (.slice vp m m) m (itL.flat (outK d at' k)) from by
       have h1 := hrW
       rcases h1.lie with ⟨h2, h3⟩ | ⟨g2, o2, c2, h2, -⟩
       · injection h2 with h4 h5 h6
         subst h4
         rw [← hm.out, h3]
         exact (RowR.nil itL _ W w.heap.size).2
       · injection h2 with h4 h5 h6
         subst h4
         have h7 := h1.cut (k := m) (c := m) (by rw [hm.out]; exact Nat.le_refl _) (Nat.le_refl _) hvcap
         rw [← hm.out, List.take_length, hm.out] at h7
         have h8 := h7.2
         rw [hm.out] at h8
         exact h8)
      clear hqW hrW hcW hpush htwo hW x0 x1 x2 x3 y0 y2 z2 z3 hgl
      go_region_law ((refine step_append_cut _ (by rfl) _ _ _ (by rfl) w.heap.size 94 i0 (.agg #[.string ⟨#[]⟩, .string ⟨#[]⟩, .int .i64 0]) 3 40 Tryz.underlying91 hI.out hz0.out hz1.out hz2.out rfl (by omega) (.slice vp m m) m (itL.flat (outK d at' k)) (by rfl) (OwnC.ext hcut.out xt) ⟨W.heap.size, 0, none⟩ 1 1 (itCells ⟨uk, ut, wrap64 (ur + 1)⟩) (by rfl) (by rfl) (by exact World.news_of_block (Blk.new W #[.string uk, .string ut, .int .i64 (wrap64 (ur + 1))] 94)) (it_one _) (by unfold maxLen; omega) (by omega) (by have := hsz.out; simp; omega) ?_; intro p' c' w5 hown5 hgrow5 _hat5; have hP := Lib.hid (hpu.out w5 p' c' #[.string uk, .string ut, .int .i64 (wrap64 (ur + 1))] (by first | exact grown_undrew hgrow5 | exact hgrow5) hown5); clear hown5 hgrow5 _hat5))
      all_goals
       clear c0 c1 c3 hcut hpu hsz hsl1
       go_wp2
       go_roundw
       case rel => exact ⟨k + 1, by omega, by go_num, hP⟩
       case measure => simp [intOf]; omega
  · obtain rfl : k = d.items.length := by omega
    have hs3 := Lib.hid (fun w' (hE : Ext wr w') => hend.out _ _ w' hS.out hE)
    clear hend hS
    go_wp2
    try go_ret
    exact hs3.out _ xt
end Go.Proofs.YtkggloeaojkhaaaGreatDoor
