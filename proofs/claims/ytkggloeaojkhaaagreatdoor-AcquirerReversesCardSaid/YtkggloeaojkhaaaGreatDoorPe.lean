/- Contracts of forward's find, Next and Put (walks; printed by gen/h74.py). -/
import Derived.Test.YtkggloeaojkhaaaGreatDoorPd
namespace Go.Proofs.YtkggloeaojkhaaaGreatDoor
open Go.RowKit
/-- Where a row of items that wait lies. -/
theorem fwLie {w : World} {B : Nat} {v : Value} {l : List FwE} (h : RowR fwL 134 w B v l) : (v = .slice none 0 0 ∧ l = []) ∨ ∃ g off cap, v = .slice (some ⟨g, off, none⟩) l.length cap ∧ B ≤ g ∧ g < w.heap.size ∧ l.length ≤ cap ∧ cap ≤ maxLen ∧ (∀ a, w.frozen? ⟨g, a, none⟩ = false) ∧ ∀ i x, l[i]? = some x → w.cell? ⟨g, off + i * 4, none⟩ = some (.string x.key) ∧ w.cell? ⟨g, off + i * 4 + 1, none⟩ = some (.string x.text) ∧ w.cell? ⟨g, off + i * 4 + 2, none⟩ = some (.int .i64 x.due) ∧ w.cell? ⟨g, off + i * 4 + 3, none⟩ = some (.int .i64 x.tries) := by
 rcases h.lie with h | ⟨g, off, cap, h1, h2, h3, h4, h5, h6, h7⟩
 · exact Or.inl h
 · exact Or.inr ⟨g, off, cap, h1, h2, h3, h4, h5, h6, fun i x hx => ⟨h7 i x hx 0 _ rfl, h7 i x hx 1 _ rfl, h7 i x hx 2 _ rfl, h7 i x hx 3 _ rfl⟩⟩
/-- The index of the first item with a key, from k on; -1 if there is none. -/
def fwIdx (key : ByteArray) : Nat → List FwE → Int
 | _, [] => -1
 | k, u :: l => if u.key = key then (k : Int) else fwIdx key (k + 1) l
theorem fwIdx_at {key : ByteArray} {l : List FwE} {k : Nat} {x : FwE} (h : l[k]? = some x) : fwIdx key k (l.drop k) = if x.key = key then (k : Int) else fwIdx key (k + 1) (l.drop (k + 1)) := by
 obtain ⟨hk, hx⟩ := List.getElem?_eq_some_iff.1 h
 rw [List.drop_eq_getElem_cons hk, hx, fwIdx]
theorem fwIdx_lt : ∀ (key : ByteArray) (k : Nat) (l : List FwE), fwIdx key k l = -1 ∨ ∃ j : Nat, fwIdx key k l = ((k + j : Nat) : Int) ∧ ∃ x, l[j]? = some x ∧ x.key = key
 | _, _, [] => Or.inl rfl
 | key, k, u :: l => by
  rw [fwIdx]
  by_cases h : u.key = key
  · rw [if_pos h]
    exact Or.inr ⟨0, rfl, u, rfl, h⟩
  · rw [if_neg h]
    rcases fwIdx_lt key (k + 1) l with h1 | ⟨j, h1, x, h2, h3⟩
    · exact Or.inl h1
    · exact Or.inr ⟨j + 1, by rw [h1]; omega, x, by simpa using h2, h3⟩
set_option maxRecDepth 8000 in
set_option maxHeartbeats 4000000 in
theorem fwIndex_any (P B : Nat) (key : ByteArray) (v : Value) (l : List FwE) (w : World) (hU : RowR fwL 134 w B v l) (hC : w.cell? ⟨P, 0, none⟩ = some (.string key)) : Calls Tryz.prog 159 #[v, .func (.func 160) #[] #[.pointer (some ⟨P, 0, none⟩)]] w (OneQ (.int .i64 (fwIdx key 0 l)) w) := by
 obtain ⟨p, c, rfl⟩ := hU.form
 have hll := hU.1
 have kA := Lib.hid (fun u w1 (h : Ext w w1) => find1_any P key u w1 (h.get hC))
 unfold OneQ fwAgg at kA
 replace hU := Lib.hid hU
 have hS := Lib.hid (fun (k : Nat) (x : FwE) (h : l[k]? = some x) => fwIdx_at (key := key) h)
 obtain ⟨R, hR⟩ : ∃ R, R = fwIdx key 0 l := ⟨_, rfl⟩
 rw [← hR]
 replace hR := Lib.hid hR
 clear hC
 go_enter Tryz.func159, Tryz.ntmps159
 go_wp2_with fail
 go_loopw [8] (fun i wr => ∃ k : Nat, k ≤ l.length ∧ i = .int .i64 k ∧ Hid (R = fwIdx key k (l.drop k)) ∧ Ext w wr) (fun i _ => l.length - (intOf i).toNat)
 case atStart => exact ⟨0, Nat.zero_le _, rfl, hR, Ext.refl _⟩
 case round =>
  obtain ⟨k, hk, rfl, hf, hE⟩ := hrel
  by_cases hlt : k < l.length
  · rcases fwLie hU.out with ⟨-, hnil⟩ | ⟨g, off, cap, hv, -, -, hcap, hcm, -, hc⟩
    · rw [hnil] at hlt; cases hlt
    injection hv with hp1 hp2 hp3
    subst hp1 hp3
    have hx : l[k]? = some l[k] := List.getElem?_eq_getElem hlt
    obtain ⟨x0, x1, x2, x3⟩ := hc k _ hx
    have hst := Lib.hid (hS.out k _ hx)
    replace x0 := hE.get x0
    replace x1 := hE.get x1
    replace x2 := hE.get x2
    replace x3 := hE.get x3
    replace kA := Lib.hid (kA.out l[k] wr hE)
    clear hc hx hS hR
    generalize l[k] = u at *
    obtain ⟨uk, ut, ud, ur⟩ := u
    simp only at x0 x1 x2 x3 kA hst
    go_wp2_with fail
    refine kA.out.mono ?_
    rintro e w2 ⟨rfl, hE2⟩
    have hE3 := hE.trans hE2
    clear kA hE hE2 x0 x1 x2 x3
    by_cases hb : uk = key
    · rw [decide_eq_true hb]
      have hs3 := Lib.hid (show R = (k : Int) from by rw [hf.out, hst.out, if_pos hb])
      clear hst hf
      go_wp2
      try go_ret
      exact ⟨by rw [hs3.out]; rfl, xt⟩
    · rw [decide_eq_false hb]
      have hs3 := Lib.hid (show R = fwIdx key (k + 1) (l.drop (k + 1)) from by rw [hf.out, hst.out, if_neg hb])
      clear hst hf
      go_wp2
      go_roundw
      case rel => exact ⟨k + 1, by omega, by go_num, hs3, xt⟩
      case measure => simp [intOf]; omega
  · obtain rfl : k = l.length := by omega
    have hs3 := Lib.hid (show R = -1 from by rw [hf.out, List.drop_length]; rfl)
    clear hf hS hR
    go_wp2
    try go_ret
    exact ⟨by rw [hs3.out]; rfl, xt⟩
set_option maxRecDepth 8000 in
set_option maxHeartbeats 1000000 in
theorem fwFind_any (B Q M : Nat) (d : QueD) (key : ByteArray) (w : World) (h : QueM w B Q M d) : Calls Tryz.prog 125 #[.pointer (some ⟨Q, 0, none⟩), .string key] w (OneQ (.int .i64 (fwIdx key 0 d.items)) w) := by
 obtain ⟨qv, h⟩ := h
 have y2 := (h.q.cell 2).trans rfl
 have hlt := h.q.lt
 have kI := Lib.hid (fun w1 (hE : Ext w w1) (P : Nat) (hP : w1.cell? ⟨P, 0, none⟩ = some (.string key)) => fwIndex_any P B key qv d.items w1 (h.r.ext hE) hP)
 obtain ⟨p, c, hv⟩ := h.r.form
 subst hv
 generalize fwIdx key 0 d.items = R at *
 generalize d.items.length = n at *
 clear h
 go_enter Tryz.func125, Tryz.ntmps125
 go_wp2_with fail
 refine (kI.out _ xt w.heap.size (((Blk.new w _ _).cell 0).trans rfl)).mono ?_
 rintro e w1 ⟨rfl, hE⟩
 go_wp2_with fail
 try go_ret
 exact ⟨rfl, Ext.trans (Ext.alloc (Ext.refl w) _) hE⟩
/-- The least time at which something is due. -/
def nxtV (l : List FwE) : Int := match l with | [] => 0 | x :: r => (x :: r).foldl (fun a y => min a y.due) x.due
def minK (l : List FwE) (a : Int) (k : Nat) : Int := (l.take k).foldl (fun a y => min a y.due) a
theorem minK_succ {l : List FwE} {a : Int} {k : Nat} {x : FwE} (h : l[k]? = some x) : minK l a (k + 1) = min (minK l a k) x.due := by
 unfold minK
 obtain ⟨hk, hx⟩ := List.getElem?_eq_some_iff.1 h
 rw [List.take_add_one, h, List.foldl_append]
 rfl
set_option maxRecDepth 8000 in
set_option maxHeartbeats 4000000 in
theorem fwNext_any (B Q M : Nat) (d : QueD) (w : World) (h : QueM w B Q M d) : Calls Tryz.prog 26 #[.pointer (some ⟨Q, 0, none⟩)] w (OneQ (.tuple #[.int .i64 (nxtV d.items), .bool (decide (0 < d.items.length))]) w) := by
 obtain ⟨qv, h⟩ := h
 have y2 := (h.q.cell 2).trans rfl
 obtain ⟨p, c, rfl⟩ := h.r.form
 have hll := h.r.1
 have hr := Lib.hid h.r
 clear h
 obtain ⟨_, _, l⟩ := d
 simp only at hr y2 hll ⊢
 cases l with
 | nil =>
  have e : nxtV [] = 0 := rfl
  rw [e, decide_eq_false (by simp)]
  simp only [List.length_nil] at y2
  clear e hr
  go_enter Tryz.func26, Tryz.ntmps26
  go_wp2_with fail
  try go_ret2
  exact ⟨rfl, xt⟩
 | cons x0 r =>
  rw [decide_eq_true (by simp)]
  have hS := Lib.hid (fun (k : Nat) (x : FwE) (hx : (x0 :: r)[k]? = some x) => minK_succ (a := x0.due) hx)
  have hX := Lib.hid (show nxtV (x0 :: r) = minK (x0 :: r) x0.due (x0 :: r).length from by unfold nxtV minK; rw [List.take_length])
  have h0 := Lib.hid (show minK (x0 :: r) x0.due 0 = x0.due from rfl)
  rcases fwLie hr.out with ⟨-, hnil⟩ | ⟨g, off, cap, hv, -, -, hcap, hcm, -, hc⟩
  · cases hnil
  injection hv with hp1 hp2 hp3
  subst hp1 hp3
  obtain ⟨-, -, f2, -⟩ := hc 0 x0 rfl
  have hpos : 0 < (x0 :: r).length := by simp
  replace hc := Lib.hid hc
  have hget := Lib.hid (fun (k : Nat) (hk : k < (x0 :: r).length) => (List.getElem?_eq_getElem hk : (x0 :: r)[k]? = some (x0 :: r)[k]))
  generalize nxtV (x0 :: r) = R at *
  generalize x0 :: r = l at *
  generalize x0.due = D0 at *
  rw [show off + 0 * 4 + 2 = off + 2 by omega] at f2
  clear hr
  go_enter Tryz.func26, Tryz.ntmps26
  go_wp2_with fail
  go_loopw [29, 4] (fun i a wr => ∃ k : Nat, k ≤ l.length ∧ i = .int .i64 k ∧ a = .int .i64 (minK l D0 k) ∧ Ext w wr) (fun i _ _ => l.length - (intOf i).toNat)
  case atStart => exact ⟨0, Nat.zero_le _, rfl, by rw [h0.out], Ext.refl _⟩
  case round =>
   obtain ⟨k, hk, rfl, rfl, hE⟩ := hrel
   by_cases hlt : k < l.length
   · have hx := hget.out k hlt
     obtain ⟨a0, a1, a2, a3⟩ := hc.out k _ hx
     have hst := Lib.hid (hS.out k _ hx)
     replace a0 := hE.get a0
     replace a1 := hE.get a1
     replace a2 := hE.get a2
     replace a3 := hE.get a3
     clear hc hx hS hget h0 hX
     generalize l[k] = u at *
     obtain ⟨uk, ut, ud, ur⟩ := u
     simp only at a0 a1 a2 a3 hst
     generalize minK l D0 k = mk at *
     go_wp2
     go_roundw
     case rel => exact ⟨k + 1, by omega, by go_num, by rw [hst.out], xt⟩
     case measure => simp [intOf]; omega
   · obtain rfl : k = l.length := by omega
     have hs3 := Lib.hid (hX.out)
     clear hX hS hc hget
     generalize minK l D0 l.length = mk at *
     go_wp2
     try go_ret2
     exact ⟨by rw [hs3.out]; rfl, xt⟩
/-- What Put does. -/
def putV (d : QueD) (at' : Int) (key text : ByteArray) : QueD × Int :=
 if key.size < 1 ∨ 40 < key.size then (d, 5) else if 4000 < text.size then (d, 3) else if timeB at' = false then (d, 14) else if key.data.toList ∈ d.known then (d, 7) else if 256 ≤ d.items.length then (d, 12)
 else (⟨d.retry, key.data.toList :: d.known, d.items ++ [⟨key, text, at', 0⟩]⟩, 0)
def FwPutP (B Q M : Nat) (d : QueD) (at' : Int) (key text : ByteArray) (w : World) (e : Ending) (w' : World) : Prop := e = .returned (.int .i64 (putV d at' key text).2) ∧ QueM w' B Q M (putV d at' key text).1 ∧ Chg (Typ qTs [M] B w) w w'
theorem fwPut_err {B Q M : Nat} {d : QueD} {at' : Int} {key text : ByteArray} {w : World} (h : QueM w B Q M d) (c : Int) (hc : putV d at' key text = (d, c)) (w' : World) (hE : Ext w w') : FwPutP B Q M d at' key text w (.returned (.int .i64 c)) w' := by
 unfold FwPutP
 rw [hc]
 exact ⟨rfl, h.ext hE, Chg.ofExt hE⟩
theorem infoFwE : (Tryz.prog.info? 134).map (fun i => (i.zero, i.size, i.bytes)) = some (some (.agg #[.string ⟨#[]⟩, .string ⟨#[]⟩, .int .i64 0, .int .i64 0]), 4, 48) := by kernel_rfl
theorem info_partsE {t : TypeId} {z : Option Value} {s b : Nat} (h : (Tryz.prog.info? t).map (fun i => (i.zero, i.size, i.bytes)) = some (z, s, b)) : ∃ i, Tryz.prog.info? t = some i ∧ i.zero = z ∧ i.size = s ∧ i.bytes = b := by
 cases hi : Tryz.prog.info? t with
 | none => rw [hi] at h; cases h
 | some i =>
  rw [hi] at h
  injection h with h
  injection h with h1 h2
  injection h2 with h2 h3
  exact ⟨i, rfl, h1, h2, h3⟩
theorem mapNilE (M : Nat) (w : World) : (binOp .eql 124 (.map (some M)) (.map none)).run Tryz.prog w = .ok (.bool false) w := by kernel_rfl
/-- Behind the store into the map. -/
theorem fwPut_map {w w1 w2 : World} {B Q M : Nat} {qv : Value} {d : QueD} {s : List UInt8} (h : QueX w B Q M qv d) (hE : Ext w w1) (hm : SMap 9 w2 M (d.known.length + 1) (updF (knownF d.known) s (.bool true))) (hg : w1.grownBy w2 (some M)) (hf : d.known.length < 1000000) :
 QueX w2 B Q M qv ⟨d.retry, s :: d.known, d.items⟩ ∧ Chg (Typ qTs [M] B w) w w2 := by
 have h1 := h.ext hE
 have hC : Chg (fun k => k = M) w1 w2 := (Chg.ofGrown hg).mono fun k _ e => Option.some.inj e
 refine ⟨⟨h1.q.chg hC ?_, by rw [knownF_cons] at hm; exact hm, h1.r.chg hC ?_, h.bq, h.bm, by simp only [List.length_cons]; omega, h.re⟩, Typ.step (Chg.ofExt hE) hC ?_⟩
 · intro e
   subst e
   exact blk_map h1.q h1.m.isMap
 · intro b hb e
   subst e
   obtain ⟨-, -, cs, hcs⟩ := h1.r.blk hb
   exact blk_map hcs h1.m.isMap
 · intro i _ e
   subst e
   exact Typ.map h1.m.isMap h.bm (by simp)
/-- Behind the append of an item. -/
theorem fwPut_row {w w2 w3 : World} {B Q M n : Nat} {C : Array Value} {p p' : Option Addr} {c c' : Nat} {d : QueD} {x : FwE} (h : QueX w B Q M (.slice p n c) d) (hn : d.items.length = n) (hl : n < 1000000)
 (hg : (w.alloc (.cells C 134)).grownBy w2 (Value.ownBlock (.slice p n c))) (hown : OwnC w2 B 134 4 (.slice p' (n + 1) c') (n + 1) (fwL.flat d.items ++ fwCells x)) (hE : Ext (w2.setCell ⟨Q, 2, none⟩ (.slice p' (n + 1) c')) w3) :
 QueX w3 B Q M (.slice p' (n + 1) c') ⟨d.retry, d.known, d.items ++ [x]⟩ ∧ Chg (Typ qTs [M] B w) w w3 := by
 have hE1 : Ext w (w.alloc (.cells C 134)) := (Ext.refl _).alloc _
 have h1 := h.ext hE1
 have hC : Chg (fun k => Value.ownBlock (.slice p n c) = some k) (w.alloc (.cells C 134)) w2 := (Chg.ofGrown hg).mono fun k _ e => e.symm
 have hq2 := h1.q.chg hC (fun e => h1.r.sepB h1.q (by decide) e)
 have hm2 : SMap 9 w2 M d.known.length (knownF d.known) := h1.m.at (hC.block M h1.m.lt fun e => by
  obtain ⟨-, -, cs, hcs⟩ := h1.r.blk e
  exact blk_map hcs h1.m.isMap)
 subst hn
 have hr2 : RowR fwL 134 w2 B (.slice p' (d.items.length + 1) c') (d.items ++ [x]) := RowR.push (L := fwL) hl hown
 have hS : Chg (fun k => k = Q) w2 (w2.setCell ⟨Q, 2, none⟩ (.slice p' (d.items.length + 1) c')) := Chg.setCell (F := fun k => k = Q) (Chg.refl _ _) (p := ⟨Q, 2, none⟩) (Or.inl rfl) _
 have hX : QueX (w2.setCell ⟨Q, 2, none⟩ (.slice p' (d.items.length + 1) c')) B Q M (.slice p' (d.items.length + 1) c') ⟨d.retry, d.known, d.items ++ [x]⟩ := by
  refine ⟨hq2.set 2 _, hm2.at (hS.block M hm2.lt fun e => ?_), hr2.chg hS fun b hb e => ?_, h.bq, h.bm, h.few, h.re⟩
  · subst e
    exact blk_map hq2 hm2.isMap
  · subst e
    exact hr2.sepB hq2 (by decide) hb
 refine ⟨hX.ext hE, (Typ.step (Typ.step (Chg.ofExt hE1) hC fun i _ e => ?_) hS fun i _ e => ?_).ext hE⟩
 · obtain ⟨h2, -, cs, hcs⟩ := h1.r.blk e
   exact Typ.of hcs h2 (by decide)
 · subst e
   exact Typ.of hq2 h.bq (by decide)
theorem fw_one (x : FwE) : ∀ v ∈ fwCells x, v.oneCell' = true := by
 intro v hv
 simp only [fwCells, List.mem_cons, List.not_mem_nil, or_false] at hv
 rcases hv with rfl | rfl | rfl | rfl <;> rfl
theorem fwPut_at {w w2 : World} {B Q M n : Nat} {C : Array Value} {p : Option Addr} {c : Nat} {d : QueD} (h : QueX w B Q M (.slice p n c) d) (hg : (w.alloc (.cells C 134)).grownBy w2 (Value.ownBlock (.slice p n c))) :
 w2.frozen? ⟨Q, 2, none⟩ = false ∧ ∃ u, w2.cell? ⟨Q, 2, none⟩ = some u := by
 have hb := (h.q.ext ((Ext.refl w).alloc (.cells C 134))).chg ((Chg.ofGrown hg).mono fun k _ e => e.symm) (h.r.sepB h.q (by decide))
 exact ⟨hb.fz 2, _, (hb.cell 2).trans rfl⟩
set_option maxRecDepth 8000 in
set_option maxHeartbeats 4000000 in
theorem fwPut_any (B Q M : Nat) (d : QueD) (at' : Int) (key text : ByteArray) (w : World) (h : QueM w B Q M d) (hB : B ≤ w.heap.size) (hf : d.known.length < 1000000) (hk : key.size ≤ 1000000) (htx : text.size ≤ 1000000) : Calls Tryz.prog 62 #[.pointer (some ⟨Q, 0, none⟩), .int .i64 at', .string key, .string text] w (FwPutP B Q M d at' key text w) := by
 obtain ⟨qv, h⟩ := h
 have hM : QueM w B Q M d := ⟨qv, h⟩
 have kT := Lib.hid (fun w1 => fwTime_any at' w1)
 by_cases c1 : key.size < 1
 · have hend := Lib.hid (fun w' (hE : Ext w w') => fwPut_err (at' := at') (key := key) (text := text) hM 5 (by unfold putV; rw [if_pos (Or.inl c1)]) w' hE)
   generalize FwPutP B Q M d at' key text w = PP at *
   clear h hM hf
   have q0 : decide ((key.size : Int) < 1) = true := decide_eq_true (by omega)
   go_enter Tryz.func62, Tryz.ntmps62
   go_wp2_with fail
   try go_ret
   exact hend.out _ xt
 have q0 : decide ((key.size : Int) < 1) = false := decide_eq_false (by omega)
 by_cases c2 : 40 < key.size
 · have hend := Lib.hid (fun w' (hE : Ext w w') => fwPut_err (at' := at') (key := key) (text := text) hM 5 (by unfold putV; rw [if_pos (Or.inr c2)]) w' hE)
   generalize FwPutP B Q M d at' key text w = PP at *
   clear h hM hf c1
   have q1 : decide ((40 : Int) < (key.size : Int)) = true := decide_eq_true (by omega)
   go_enter Tryz.func62, Tryz.ntmps62
   go_wp2_with fail
   try go_ret
   exact hend.out _ xt
 have q1 : decide ((40 : Int) < (key.size : Int)) = false := decide_eq_false (by omega)
 have n1 : ¬ (key.size < 1 ∨ 40 < key.size) := by omega
 by_cases c3 : 4000 < text.size
 · have hend := Lib.hid (fun w' (hE : Ext w w') => fwPut_err (at' := at') (key := key) (text := text) hM 3 (by unfold putV; rw [if_neg n1, if_pos c3]) w' hE)
   generalize FwPutP B Q M d at' key text w = PP at *
   clear h hM hf n1 c1 c2
   have q2 : decide ((4000 : Int) < (text.size : Int)) = true := decide_eq_true (by omega)
   go_enter Tryz.func62, Tryz.ntmps62
   go_wp2_with fail
   try go_ret
   exact hend.out _ xt
 have q2 : decide ((4000 : Int) < (text.size : Int)) = false := decide_eq_false (by omega)
 by_cases c4 : timeB at' = false
 · have hend := Lib.hid (fun w' (hE : Ext w w') => fwPut_err (at' := at') (key := key) (text := text) hM 14 (by unfold putV; rw [if_neg n1, if_neg c3, if_pos c4]) w' hE)
   generalize FwPutP B Q M d at' key text w = PP at *
   rw [c4] at kT
   clear h hM hf n1 c1 c2 c3 c4
   go_enter Tryz.func62, Tryz.ntmps62
   go_wp2_with fail
   refine (kT.out _).mono ?_
   rintro e w1 ⟨rfl, hE⟩
   go_wp2_with fail
   try go_ret
   exact hend.out _ hE
 have c4' : timeB at' = true := by simpa using c4
 rw [c4'] at kT
 have y1 := (h.q.cell 1).trans rfl
 have hl := Lib.hid (fun w1 (hE : Ext w w1) => (h.ext hE).look (s := key) (by simp [maxLen]; omega))
 by_cases c5 : key.data.toList ∈ d.known
 · have hend := Lib.hid (fun w' (hE : Ext w w') => fwPut_err (at' := at') (key := key) (text := text) hM 7 (by unfold putV; rw [if_neg n1, if_neg c3, if_neg c4, if_pos c5]) w' hE)
   generalize FwPutP B Q M d at' key text w = PP at *
   rw [decide_eq_true c5] at hl
   clear h hM hf n1 c1 c2 c3 c4 c4' c5
   go_enter Tryz.func62, Tryz.ntmps62
   go_wp2_with fail
   refine (kT.out _).mono ?_
   rintro e w1 ⟨rfl, hE⟩
   replace y1 := hE.get y1
   have hl1 := hl.out w1 hE
   clear hl
   go_wp2_with fail
   try go_ret
   exact hend.out _ hE
 rw [decide_eq_false c5] at hl
 obtain ⟨p, c, rfl⟩ := h.r.form
 have hll := h.r.1
 have y2 := (h.q.cell 2).trans rfl
 obtain ⟨N, hN⟩ : ∃ N, d.items.length = N := ⟨_, rfl⟩
 rw [hN] at y2 hll
 by_cases c6 : 256 ≤ d.items.length
 · have hend := Lib.hid (fun w' (hE : Ext w w') => fwPut_err (at' := at') (key := key) (text := text) hM 12 (by unfold putV; rw [if_neg n1, if_neg c3, if_neg c4, if_neg c5, if_pos c6]) w' hE)
   generalize FwPutP B Q M d at' key text w = PP at *
   rw [hN] at c6
   clear h hM hf n1 c1 c2 c3 c4 c4' c5 hN
   have q6 : decide ((256 : Int) ≤ (N : Int)) = true := decide_eq_true (by omega)
   go_enter Tryz.func62, Tryz.ntmps62
   go_wp2_with fail
   refine (kT.out _).mono ?_
   rintro e w1 ⟨rfl, hE⟩
   replace y1 := hE.get y1
   replace y2 := hE.get y2
   have hl1 := hl.out w1 hE
   clear hl
   go_wp2_with fail
   try go_ret
   exact hend.out _ hE
 have q6 : decide ((256 : Int) ≤ (N : Int)) = false := decide_eq_false (by omega)
 have hput := Lib.hid (show putV d at' key text = (⟨d.retry, key.data.toList :: d.known, d.items ++ [⟨key, text, at', 0⟩]⟩, 0) from by unfold putV; rw [if_neg n1, if_neg c3, if_neg c4, if_neg c5, if_neg c6])
 rw [hN] at c6
 replace hN := Lib.hid hN
 have hkn : d.known.length < maxLen := by simp [maxLen]; omega
 have hks : key.size ≤ maxLen := by simp [maxLen]; omega
 obtain ⟨i0, hI, hz0, hz1, hz2⟩ := info_partsE infoFwE
 replace hI := Lib.hid hI
 replace hz0 := Lib.hid hz0
 replace hz1 := Lib.hid hz1
 replace hz2 := Lib.hid hz2
 have hltQ := h.q.lt
 have hh := Lib.hid h
 have hend := Lib.hid (fun (w' : World) (h1 : QueM w' B Q M ⟨d.retry, key.data.toList :: d.known, d.items ++ [⟨key, text, at', 0⟩]⟩) (h2 : Chg (Typ qTs [M] B w) w w') => show FwPutP B Q M d at' key text w (.returned (.int .i64 0)) w' from by unfold FwPutP; rw [hput.out]; exact ⟨rfl, h1, h2⟩)
 generalize FwPutP B Q M d at' key text w = PP at *
 clear h hM n1 c1 c2 c3 c4 c4' c5 hput
 go_enter Tryz.func62, Tryz.ntmps62
 go_wp2_with fail
 refine (kT.out _).mono ?_
 rintro e w1 ⟨rfl, hE⟩
 replace y1 := hE.get y1
 replace y2 := hE.get y2
 have hl1 := hl.out w1 hE
 have hm1 := Lib.hid (hh.out.m.ext hE)
 have hmn := mapNilE M w1
 clear hl
 go_wp2_with (first | (at_mapUpdate; go_loud (refine wpList_smap_store (by rfl) _ _ _ 124 (by rfl) 9 4 Tryz.underlying9 Tryz.underlying124 M d.known.length (knownF d.known) (by rfl) hm1.out hkn key (.bool true) hks (by rfl) (by rfl) ?_; intro w2 hs2 hg2; obtain ⟨hX0, hC⟩ := fwPut_map hh.out hE hs2 hg2 hf; have b2 : B ≤ w2.heap.size := Nat.le_trans hB hC.size; have hX : QueX w2 B Q M (.slice p N c) ⟨d.retry, key.data.toList :: d.known, d.items⟩ := (by rw [← hN.out]; exact hX0); replace y2 : w2.cell? ⟨Q, 2, none⟩ = some (.slice p N c) := hX.q.cell 2; replace hX := Lib.hid hX; replace hC := Lib.hid hC; clear hX0 hs2 hg2 hl1 hm1 y1 hh hltQ)) | (at_builtin; go_loud (refine wpList_append_cut _ (by rfl) _ _ _ (by rfl) B 134 i0 (.agg #[.string ⟨#[]⟩, .string ⟨#[]⟩, .int .i64 0, .int .i64 0]) 4 48 Tryz.underlying125 hI.out hz0.out hz1.out hz2.out rfl (by omega) (.slice p N c) N (fwL.flat d.items) (by rfl) (by have := (hX.out.r.ext ((Ext.refl w2).alloc (.cells #[.string key, .string text, .int .i64 at', .int .i64 0] 134))).2; rw [hN.out] at this; exact this) ⟨w2.heap.size, 0, none⟩ 1 1 (fwCells ⟨key, text, at', 0⟩) (by rfl) (by rfl) (World.news_of_block (Blk.new w2 #[.string key, .string text, .int .i64 at', .int .i64 0] 134)) (fw_one _) (by unfold maxLen; omega) (by omega) (by simp; omega) ?_; intro p' c' w3 hown hg3 _hat; have hP := Lib.hid (fun w4 (k : Ext (w3.setCell ⟨Q, 2, none⟩ (.slice p' (N + 1) c')) w4) => fwPut_row (x := ⟨key, text, at', 0⟩) hX.out hN.out (by omega) hg3 hown k); obtain ⟨z2, u2, x2⟩ := fwPut_at hX.out hg3; clear hown hg3 hX y2)))
 try go_ret
 obtain ⟨h1, h2⟩ := hP.out _ (Ext.refl _)
 exact hend.out _ ⟨_, h1⟩ (Typ.trans hC.out h2)
end Go.Proofs.YtkggloeaojkhaaaGreatDoor
