/- Contract of acquirer's Purchase (walk; printed by gen/h85.py). -/
import Derived.Test.YtkggloeaojkhaaaGreatDoorPs
import Derived.BigRegion
namespace Go.Proofs.YtkggloeaojkhaaaGreatDoor
open Go.RowKit
/-- The sale of a purchase. -/
def newSale (ref : ByteArray) (p : PurD) (dl : Int) : SaleD := ⟨ref, p, 1, 0, 0, 0, dl, 0, 0, false⟩
/-- What Purchase does. -/
def purV (d : HostD) (at' : Int) (p : PurD) : HostD × ByteArray × Int × List El × Int :=
 if chkP p ≠ 0 then (d, ⟨#[]⟩, 0, [], chkP p) else if permB d at' = false then (d, ⟨#[]⟩, 0, [], 14) else if 256 ≤ d.sales.length then (d, ⟨#[]⟩, 0, [], 12)
 else ({ d with now := at', last := d.last % 999999 + 1, sales := d.sales ++ [newSale (refS (dayV at').1.toNat d.sender (d.last % 999999 + 1)) p (at' + d.timeout)] }, refS (dayV at').1.toNat d.sender (d.last % 999999 + 1), 100, reqEs d.name at'.toNat (d.last % 999999 + 1) (refS (dayV at').1.toNat d.sender (d.last % 999999 + 1)) p, 0)
def HPurP (B : Nat) (I : HostI) (d : HostD) (at' : Int) (p : PurD) (w : World) (e : Ending) (w' : World) : Prop :=
 ∃ v, e = .returned (.tuple #[.string (purV d at' p).2.1, msgAgg (purV d at' p).2.2.1 v, .int .i64 (purV d at' p).2.2.2.2]) ∧ Elems w' v (purV d at' p).2.2.2.1 ∧ HostM w' B I (purV d at' p).1 ∧ Chg (HF B I w) w w'
theorem hpur_err {B : Nat} {I : HostI} {d : HostD} {at' : Int} {p : PurD} {w : World} (h : HostM w B I d) (c : Int) (hc : purV d at' p = (d, ⟨#[]⟩, 0, [], c)) (w' : World) (hE : Ext w w') : HPurP B I d at' p w (.returned (.tuple #[.string ⟨#[]⟩, .agg #[.int .i64 0, .slice none 0 0], .int .i64 c])) w' := by
 unfold HPurP
 rw [hc]
 exact ⟨.slice none 0 0, rfl, ⟨none, 0, rfl, fun h => by simp at h⟩, h.ext hE, Chg.ofExt hE⟩
/-- The host while a sale is added: its block lies, the row has it, the map has it not. -/
structure HostY (w : World) (B : Nat) (I : HostI) (bs : List Nat) (b : Nat) (sv wv : Value) (d : HostD) (sl : SaleD) : Prop where
 h : Blk w I.X #[.string d.name, .int .i64 d.timeout, .int .i64 d.now, ptrV I.S, ptrV I.Q, sv, .map (some I.R), wv, .map (some I.F), .map (some I.C), .int .i64 d.files] 81
 s : SrcM w I.S d.sender d.last
 q : QueM w B I.Q I.M d.q
 r : RowR ptrL 86 w B sv (bs ++ [b])
 e : ∀ (i : Nat) (b : Nat) (x : SaleD), bs[i]? = some b → d.sales[i]? = some x → Blk w b (salCells x) 88 ∧ B ≤ b
 n : Blk w b (salCells sl) 88 ∧ B ≤ b
 m : SMap 9 w I.R d.sales.length (refF (refsOf d) bs)
 wt : RowR entL 159 w B wv d.wt
 f : SMap 9 w I.F d.nfiled (fun s => (d.filed s).map entAgg)
 c : SMap 9 w I.C d.ncopies (fun s => (d.copies s).map (Value.int .i64))
theorem HostX.addRow {w w2 : World} {B : Nat} {I : HostI} {bs : List Nat} {n : Nat} {p p' : Option Addr} {c c' : Nat} {wv : Value} {d : HostD} {C : Array Value} (h : HostX w B I bs (.slice p n c) wv d) (ok : HostOk B I bs d) (hn : bs.length = n) (s : SaleD) (b : Nat) (hb : Blk w b (salCells s) 88) (hbB : B ≤ b)
 (hg : (w.alloc (.cells C 86)).grownBy w2 (Value.ownBlock (.slice p n c))) (hown : OwnC w2 B 86 1 (.slice p' (n + 1) c') (n + 1) (ptrL.flat bs ++ [ptrV b])) :
 HostY (w2.setCell ⟨I.X, 5, none⟩ (.slice p' (n + 1) c')) B I bs b (.slice p' (n + 1) c') wv d s ∧ Chg (HF B I w) w (w2.setCell ⟨I.X, 5, none⟩ (.slice p' (n + 1) c')) ∧
 (w2.frozen? ⟨I.X, 5, none⟩ = false ∧ w2.cell? ⟨I.X, 5, none⟩ = some (.slice p n c) ∧ w2.cell? ⟨I.X, 6, none⟩ = some (.map (some I.R)) ∧ I.X < w2.heap.size) := by
 have hE : Ext w (w.alloc (.cells C 86)) := (Ext.refl _).alloc _
 have h1 := h.ext hE
 have hC : Chg (fun k => Value.ownBlock (.slice p n c) = some k) (w.alloc (.cells C 86)) w2 := (Chg.ofGrown hg).mono fun k _ e => e.symm
 have hT : Chg (Typ [86] [] 0 (w.alloc (.cells C 86))) (w.alloc (.cells C 86)) w2 := hC.mono fun k _ e => by
  obtain ⟨-, -, cs, hcs⟩ := h1.r.blk e
  exact Typ.of hcs (Nat.zero_le _) (by simp)
 have hx2 := Typ.blk h1.h hT (by decide)
 have hS : Chg (fun k => k = I.X) w2 (w2.setCell ⟨I.X, 5, none⟩ (.slice p' (n + 1) c')) := Chg.setCell (F := fun k => k = I.X) (Chg.refl _ _) (p := ⟨I.X, 5, none⟩) (Or.inl rfl) _
 have hU : Chg (Typ [81] [] 0 w2) w2 (w2.setCell ⟨I.X, 5, none⟩ (.slice p' (n + 1) c')) := hS.mono fun k _ e => by subst e; exact Typ.of hx2 (Nat.zero_le _) (by simp)
 subst hn
 have hr2 : RowR ptrL 86 w2 B (.slice p' (bs.length + 1) c') (bs ++ [b]) := RowR.push (L := ptrL) (by have := ok.len; have := ok.few; omega) hown
 have ha : ∀ {k : Nat} {cs : Array Value} {T : TypeId}, Blk w k cs T → T ∉ [86] → T ∉ [81] → Blk (w2.setCell ⟨I.X, 5, none⟩ (.slice p' (bs.length + 1) c')) k cs T := fun hk h1 h2 => Typ.blk (Typ.blk (hk.ext hE) hT h1) hU h2
 refine ⟨⟨?_, ?_, ?_, Typ.row hr2 hU (by decide), fun i b x hb hx => ⟨ha (h.e i b x hb hx).1 (by decide) (by decide), (h.e i b x hb hx).2⟩, ⟨ha hb (by decide) (by decide), hbB⟩, Typ.smap (Typ.smap h1.m hT (by simp)) hU (by simp), Typ.row (Typ.row h1.wt hT (by decide)) hU (by decide), Typ.smap (Typ.smap h1.f hT (by simp)) hU (by simp), Typ.smap (Typ.smap h1.c hT (by simp)) hU (by simp)⟩, ?_, hx2.fz 5, (hx2.cell 5).trans rfl, (hx2.cell 6).trans rfl, hx2.lt⟩
 · exact hx2.set 5 _
 · exact (h1.s.chg hT (Typ.not h1.s.b (by decide))).chg hU (Typ.not (h1.s.b.chg hT (Typ.not h1.s.b (by decide))) (by decide))
 · exact (h1.q.chg hT (by decide) (by decide) (by simp)).chg hU (by decide) (by decide) (by simp)
 · refine Typ.step (Typ.step (Chg.ofExt hE) hC fun i _ e => ?_) hS fun i _ e => ?_
   · obtain ⟨h2, -, cs, hcs⟩ := h1.r.blk e
     exact Typ.of hcs h2 (by decide)
   · subst e
     exact Typ.of hx2 ok.bl.1 (by decide)
/-- Behind the store into the map. -/
theorem HostY.addMap {w w2 : World} {B : Nat} {I : HostI} {bs : List Nat} {b : Nat} {sv wv : Value} {d : HostD} {s : SaleD} (h : HostY w B I bs b sv wv d s) (ok : HostOk B I bs d) (hf : ∀ x ∈ d.sales, x.ref.data.toList ≠ s.ref.data.toList)
 (hm : SMap 9 w2 I.R (d.sales.length + 1) (updF (refF (refsOf d) bs) s.ref.data.toList (ptrV b))) (hg : w.grownBy w2 (some I.R)) :
 HostX w2 B I (bs ++ [b]) sv wv { d with sales := d.sales ++ [s] } ∧ Chg (HF B I w) w w2 := by
 have hC : Chg (fun k => k = I.R) w w2 := (Chg.ofGrown hg).mono fun k _ e => Option.some.inj e
 have hT : Chg (Typ [] [I.R] 0 w) w w2 := hC.mono fun k _ e => by subst e; exact Typ.map h.m.isMap (Nat.zero_le _) (by simp)
 have hrefs : refsOf { d with sales := d.sales ++ [s] } = refsOf d ++ [s.ref] := by unfold refsOf; simp
 refine ⟨⟨Typ.blk h.h hT (by simp), h.s.chg hT (Typ.not h.s.b (by simp)), h.q.chg hT (by simp) (by simp) (by simp; exact fun e => ok.ms.1 e.symm), Typ.row h.r hT (by simp), fun i c x hc hx => ?_, ?_, Typ.row h.wt hT (by simp), Typ.smap h.f hT (by simp; exact fun e => ok.ms.2.2.2.1 e.symm), Typ.smap h.c hT (by simp; exact fun e => ok.ms.2.2.2.2.1 e.symm)⟩, hC.mono fun k _ e => by subst e; exact Typ.map h.m.isMap ok.bl.2.2.1 (by simp [hMs])⟩
 · simp only at hx
   by_cases hi : i < bs.length
   · rw [List.getElem?_append_left hi] at hc
     rw [List.getElem?_append_left (by rw [← ok.len]; exact hi)] at hx
     exact ⟨Typ.blk (h.e i c x hc hx).1 hT (by simp), (h.e i c x hc hx).2⟩
   · rw [List.getElem?_append_right (by omega)] at hc
     rw [List.getElem?_append_right (by rw [← ok.len]; omega), ← ok.len] at hx
     have hi0 : i - bs.length = 0 := by
      have := (List.getElem?_eq_some_iff.1 hc).1
      simp at this
      omega
     rw [hi0] at hc hx
     simp only [List.getElem?_cons_zero, Option.some.injEq] at hc hx
     subst hc hx
     exact ⟨Typ.blk h.n.1 hT (by simp), h.n.2⟩
 · rw [hrefs, refF_snoc (refsOf d) bs s.ref b (by unfold refsOf; rw [List.length_map]; exact ok.len.symm) (fun r hr => by
    unfold refsOf at hr
    obtain ⟨x, hx, rfl⟩ := List.mem_map.1 hr
    exact hf x hx)]
   simp only [List.length_append, List.length_cons, List.length_nil]
   exact hm
theorem HostOk.addSale {B : Nat} {I : HostI} {bs : List Nat} {d : HostD} (h : HostOk B I bs d) (s : SaleD) (b : Nat) (hb : b ∉ bs) (hf : ∀ x ∈ d.sales, x.ref.data.toList ≠ s.ref.data.toList) (hs : SaleOk s) (hl : d.sales.length < 256) : HostOk B I (bs ++ [b]) { d with sales := d.sales ++ [s] } := by
 refine ⟨h.bl, h.ms, by simp [h.len], ?_, ?_, by simp; omega, fun x hx => ?_, h.eok, h.fok, h.name, h.timeout, h.nf, h.cop, h.files⟩
 · rw [List.nodup_append]
   exact ⟨h.nd, by simp, fun a ha c hc e => by simp at hc; subst hc; subst e; exact hb ha⟩
 · simp only [List.map_append, List.map_cons, List.map_nil]
   rw [List.nodup_append]
   exact ⟨h.rn, by simp, fun a ha c hc e => by
    simp only [List.mem_cons, List.not_mem_nil, or_false] at hc
    subst hc
    obtain ⟨x, hx, hxe⟩ := List.mem_map.1 ha
    exact hf x hx (hxe.trans e)⟩
 · rcases List.mem_append.1 hx with hx | hx
   · exact h.ok x hx
   · simp only [List.mem_cons, List.not_mem_nil, or_false] at hx
     subst hx
     exact hs
theorem infoPtrE : (Tryz.prog.info? 86).map (fun i => (i.zero, i.size, i.bytes)) = some (some (.pointer none), 1, 8) := by kernel_rfl
theorem chkP_zero {p : PurD} (h : chkP p = 0) : p.mer.size ≤ 16 ∧ p.ter.size ≤ 8 ∧ p.car.size ≤ 19 ∧ p.cur.size = 3 ∧ (1 ≤ p.amt ∧ p.amt ≤ 999999999999) ∧ (0 ≤ p.least ∧ p.least ≤ 999999999999) ∧ (1 ≤ p.cat ∧ p.cat ≤ 9999) := by
 unfold chkP at h
 by_cases h1 : idnS p.mer = false ∨ trmS p.ter = false
 · rw [if_pos h1] at h; cases h
 rw [if_neg h1] at h
 by_cases h2 : crdS p.car = false
 · rw [if_pos h2] at h; cases h
 rw [if_neg h2] at h
 by_cases h3 : p.amt < 1 ∨ 999999999999 < p.amt ∨ p.least < 0 ∨ p.amt < p.least
 · rw [if_pos h3] at h; cases h
 rw [if_neg h3] at h
 by_cases h4 : p.cat < 1 ∨ 9999 < p.cat
 · rw [if_pos h4] at h; cases h
 rw [if_neg h4] at h
 by_cases h5 : curS p.cur = false
 · rw [if_pos h5] at h; cases h
 have m1 : p.mer.size ≤ 16 := by
  by_cases hz : 1 ≤ p.mer.size ∧ p.mer.size ≤ 16
  · exact hz.2
  · exact absurd (Or.inl (idnS_no hz)) h1
 have m2 : p.ter.size ≤ 8 := by
  by_cases hz : trmZ p.ter = true
  · exact (trmZ_size hz).2
  · exact absurd (Or.inr (trmS_no hz)) h1
 have m3 : p.car.size ≤ 19 := by
  by_cases hz : 12 ≤ p.car.size ∧ p.car.size ≤ 19
  · exact hz.2
  · exact absurd (crdS_no hz) h2
 have m4 : p.cur.size = 3 := by
  by_cases hz : p.cur.size = 3
  · exact hz
  · exact absurd (curS_no hz) h5
 exact ⟨m1, m2, m3, m4, by omega, by omega, by omega⟩
/-- The new sale is as it must be. -/
theorem newSale_ok {p : PurD} {ref : ByteArray} {dl : Int} (h : chkP p = 0) (hr : ref.size = 12) (hd : 0 ≤ dl ∧ dl ≤ 2000000000000) : SaleOk (newSale ref p dl) := by
 obtain ⟨m1, m2, m3, m4, m5, m6, m7⟩ := chkP_zero h
 exact ⟨hr, m1, m2, m3, m4, m5, m6, m7, ⟨Int.le_refl _, by show (0 : Int) ≤ 999999999999; decide⟩, ⟨Int.le_refl _, by show (0 : Int) ≤ 2000000000000; decide⟩, ⟨Int.le_refl _, Int.le_refl _⟩, hd, ⟨Int.le_refl _, by show (0 : Int) ≤ 8; decide⟩, ⟨Int.le_refl _, by show (0 : Int) ≤ 8; decide⟩⟩
theorem permB_day {d : HostD} {at' : Int} (h : permB d at' = true) : 0 ≤ (dayV at').1 ∧ 0 ≤ at' ∧ at' < 8640000000 := by
 unfold permB at h
 rw [Bool.and_eq_true, decide_eq_true_eq] at h
 have h1 := h.1
 unfold dayV at h1 ⊢
 by_cases hz : 0 ≤ at' ∧ at' < 8640000000
 · rw [if_pos hz] at h1 ⊢
   exact ⟨h1, hz.1, hz.2⟩
 · rw [if_neg hz] at h1
   simp at h1
/-- Elements that lie elsewhere than in a block of two cells. -/
theorem Elems.apart {w : World} {v : Value} {es : List El} {R : Nat} {x y : Value} {T : TypeId} (h : Elems w v es) (hl : 3 ≤ es.length) (hb : Blk w R #[x, y] T) (i : Nat) (u : Value) : Elems (w.setCell ⟨R, i, none⟩ u) v es := by
 obtain ⟨p, c, hv, hp⟩ := h
 refine ⟨p, c, hv, fun h0 => ?_⟩
 obtain ⟨b, off, hb', hc⟩ := hp h0
 have hne : b ≠ R := by
  intro e
  subst e
  have h1 := (hc 2 (by omega)).1
  rw [hb.cell] at h1
  have h2 : off + 2 * 2 < 2 := (Array.getElem?_eq_some_iff.1 h1).1
  omega
 have hC : Chg (fun k => k = R) w (w.setCell ⟨R, i, none⟩ u) := Chg.setCell (F := fun k => k = R) (Chg.refl _ _) (p := ⟨R, i, none⟩) (Or.inl rfl) _
 exact ⟨b, off, hb', fun j hj => ⟨hC.cell hne (hc j hj).1, hC.cell hne (hc j hj).2⟩⟩
theorem three_le (nm : ByteArray) (a n : Nat) (ref : ByteArray) (p : PurD) : 3 ≤ (reqEs nm a n ref p).length := by
 unfold reqEs
 simp only [List.length_append, List.length_cons, List.length_nil]
 omega
set_option maxRecDepth 8000 in
set_option maxHeartbeats 16000000 in
theorem hPur_any (B : Nat) (I : HostI) (d : HostD) (at' : Int) (p : PurD) (w : World) (g : Gl w) (hGB : GB B) (hB : B ≤ w.heap.size) (h : HostM w B I d) (hfr : ∀ x ∈ d.sales, x.ref.data.toList ≠ refL (dayV at').1.toNat d.sender (d.last % 999999 + 1)) : Calls Tryz.prog 6 #[.pointer (some ⟨I.X, 0, none⟩), .int .i64 at', purAgg p] w (HPurP B I d at' p w) := by
 have kC := Lib.hid (fun w1 => pcheck_any p w1)
 have kP := Lib.hid (fun w1 (hE : Ext w w1) => permitted_any B I d at' w1 (h.ext hE))
 have herr := Lib.hid (fun c hc w' hE => hpur_err (p := p) (at' := at') h c hc w' hE)
 unfold purAgg at kC ⊢
 have bP := Lib.hid ((Blk.new w #[.string p.mer, .string p.ter, .string p.car, .int .i64 p.amt, .int .i64 p.least, .string p.cur, .int .i64 p.cat] 33).alloc (.cells #[.int .i64 0, .slice none 0 0] 29))
 have bR := Lib.hid (Blk.new' (w.alloc (.cells #[.string p.mer, .string p.ter, .string p.car, .int .i64 p.amt, .int .i64 p.least, .string p.cur, .int .i64 p.cat] 33)) #[.int .i64 0, .slice none 0 0] 29 (w.heap.size + 1) (by simp))
 by_cases hc : chkP p = 0
 · rw [hc] at kC
   by_cases hp : permB d at' = false
   · have hend := Lib.hid (herr.out 14 (by unfold purV; rw [if_neg (by rw [hc]; decide), if_pos hp]))
     rw [hp] at kP
     generalize HPurP B I d at' p w = PP at *
     clear h g hGB hB hfr hc hp herr
     go_enter Tryz.func6, Tryz.ntmps6
     go_wp2_with fail
     refine (kC.out _).mono ?_
     rintro e w1 ⟨rfl, hE1⟩
     have hE : Ext w w1 := Ext.trans xt hE1
     go_wp2_with fail
     refine (kP.out _ hE).mono ?_
     rintro e w2 ⟨rfl, hE2⟩
     have bR2 := bR.out.ext (hE1.trans hE2)
     have l2 := bR2.lt
     have a0 : w2.cell? ⟨w.heap.size + 1, 0, none⟩ = some (.int .i64 0) := (bR2.cell 0).trans rfl
     have a1 : w2.cell? ⟨w.heap.size + 1, 1, none⟩ = some (.slice none 0 0) := (bR2.cell 1).trans rfl
     have z0 := bR2.fz 0
     have z1 := bR2.fz 1
     go_wp2
     have hF := (bR2.set 0 (.int .i64 0)).set 1 (.slice none 0 0)
     have hE3 := (((hE.trans hE2).setCell (p := ⟨w.heap.size + 1, 0, none⟩) (by simp) (.int .i64 0)).setCell (p := ⟨w.heap.size + 1, 1, none⟩) (by simp) (.slice none 0 0))
     clear bR2 a0 a1 z0 z1
     generalize (w2.setCell ⟨w.heap.size + 1, 0, none⟩ (.int .i64 0)).setCell ⟨w.heap.size + 1, 1, none⟩ (.slice none 0 0) = wF at *
     have r0 : wF.cell? ⟨w.heap.size + 1, 0, none⟩ = some (.int .i64 0) := (hF.cell 0).trans rfl
     have r1 : wF.cell? ⟨w.heap.size + 1, 1, none⟩ = some (.slice none 0 0) := (hF.cell 1).trans rfl
     exact bodyPost_ret (v := .tuple #[.string ⟨#[]⟩, .agg #[.int .i64 0, .slice none 0 0], .int .i64 14]) (by simp [results, Tryz.results6, go_sem, r0, r1]) rfl (hend.out wF hE3)
   have hp' : permB d at' = true := by simpa using hp
   rw [hp'] at kP
   obtain ⟨bs, sv, wv, hX, ok⟩ := h
   obtain ⟨sp, sc, rfl⟩ := hX.r.form
   have hlen := ok.len
   have hfew := ok.few
   obtain ⟨N, hN⟩ : ∃ N, bs.length = N := ⟨_, rfl⟩
   have y5 : w.cell? ⟨I.X, 5, none⟩ = some (.slice sp N sc) := by rw [← hN]; exact hX.h.cell 5
   by_cases hf : 256 ≤ d.sales.length
   · have hend := Lib.hid (herr.out 12 (by unfold purV; rw [if_neg (by rw [hc]; decide), if_neg hp, if_pos hf]))
     have q : decide ((256 : Int) ≤ (N : Int)) = true := decide_eq_true (by omega)
     generalize HPurP B I d at' p w = PP at *
     clear hX ok g hGB hB hfr hc hp herr hN hlen hfew hf
     go_enter Tryz.func6, Tryz.ntmps6
     go_wp2_with fail
     refine (kC.out _).mono ?_
     rintro e w1 ⟨rfl, hE1⟩
     have hE : Ext w w1 := Ext.trans xt hE1
     go_wp2_with fail
     refine (kP.out _ hE).mono ?_
     rintro e w2 ⟨rfl, hE2⟩
     replace y5 := hE2.get (hE.get y5)
     have bR2 := bR.out.ext (hE1.trans hE2)
     have l2 := bR2.lt
     have a0 : w2.cell? ⟨w.heap.size + 1, 0, none⟩ = some (.int .i64 0) := (bR2.cell 0).trans rfl
     have a1 : w2.cell? ⟨w.heap.size + 1, 1, none⟩ = some (.slice none 0 0) := (bR2.cell 1).trans rfl
     have z0 := bR2.fz 0
     have z1 := bR2.fz 1
     go_wp2
     have hF := (bR2.set 0 (.int .i64 0)).set 1 (.slice none 0 0)
     have hE3 := (((hE.trans hE2).setCell (p := ⟨w.heap.size + 1, 0, none⟩) (by simp) (.int .i64 0)).setCell (p := ⟨w.heap.size + 1, 1, none⟩) (by simp) (.slice none 0 0))
     clear bR2 a0 a1 z0 z1
     generalize (w2.setCell ⟨w.heap.size + 1, 0, none⟩ (.int .i64 0)).setCell ⟨w.heap.size + 1, 1, none⟩ (.slice none 0 0) = wF at *
     have r0 : wF.cell? ⟨w.heap.size + 1, 0, none⟩ = some (.int .i64 0) := (hF.cell 0).trans rfl
     have r1 : wF.cell? ⟨w.heap.size + 1, 1, none⟩ = some (.slice none 0 0) := (hF.cell 1).trans rfl
     exact bodyPost_ret (v := .tuple #[.string ⟨#[]⟩, .agg #[.int .i64 0, .slice none 0 0], .int .i64 12]) (by simp [results, Tryz.results6, go_sem, r0, r1]) rfl (hend.out wF hE3)
   have q : decide ((256 : Int) ≤ (N : Int)) = false := decide_eq_false (by omega)
   obtain ⟨hday, hat0, hat1⟩ := permB_day hp'
   have hnn : ¬ (dayV at').1 < 0 := by omega
   obtain ⟨n, hn⟩ : ∃ n, n = d.last % 999999 + 1 := ⟨_, rfl⟩
   have hnb : n ≤ 999999 := by have := Nat.mod_lt d.last (show 0 < 999999 by decide); omega
   obtain ⟨ref, href⟩ : ∃ ref, ref = refS (dayV at').1.toNat d.sender n := ⟨_, rfl⟩
   have hrs : ref.size = 12 := by rw [href]; exact refS_size _ _ _
   have hrl : ref.data.toList = refL (dayV at').1.toNat d.sender n := by rw [href, refS_list]
   rw [← hn, ← hrl] at hfr
   obtain ⟨A, hA⟩ : ∃ A : Nat, at' = (A : Int) := ⟨at'.toNat, by omega⟩
   have hpv : purV d at' p = ({ d with now := at', last := n, sales := d.sales ++ [newSale ref p (at' + d.timeout)] }, ref, 100, reqEs d.name A n ref p, 0) := by
    unfold purV
    rw [if_neg (by rw [hc]; decide), if_neg hp, if_neg hf, ← hn, ← href, hA]
    rfl
   obtain ⟨m1, m2, m3, m4, m5, m6, m7⟩ := chkP_zero hc
   have htm := ok.timeout
   have hsok : SaleOk (newSale ref p (at' + d.timeout)) := newSale_ok hc hrs (by omega)
   have kN := fun w1 (hE : Ext w w1) => srcNext_good (at' := at') (g.ext hE).gw (hX.s.ext hE) hnn
   try simp only at kN
   rw [← hn, ← href] at kN
   replace kN := Lib.hid kN
   obtain ⟨d4, hd4⟩ : ∃ d4 : HostD, d4 = { d with now := at', last := n } := ⟨_, rfl⟩
   have ok4 : HostOk B I bs d4 := by rw [hd4]; exact (ok.setSrc n).setNow at'
   have hs4 : d4.sales = d.sales := by rw [hd4]
   have hfr4 : ∀ x ∈ d4.sales, x.ref.data.toList ≠ (newSale ref p (at' + d.timeout)).ref.data.toList := by rw [hs4]; exact hfr
   have hl4 : d4.sales.length < 256 := by rw [hs4]; omega
   have hsrc := Lib.hid (fun w2 w3 (hE : Ext w w2) (hs : SrcM w3 I.S d.sender n) (hC : Chg (fun k => k = I.S) w2 w3) => show (w3.frozen? ⟨I.X, 2, none⟩ = false ∧ (∃ u, w3.cell? ⟨I.X, 2, none⟩ = some u) ∧ I.X < w3.heap.size) ∧ HostX (w3.setCell ⟨I.X, 2, none⟩ (.int .i64 at')) B I bs (.slice sp bs.length sc) wv d4 ∧ Chg (HF B I w2) w2 (w3.setCell ⟨I.X, 2, none⟩ (.int .i64 at')) from by
    have h2 := hX.ext hE
    have h3 := h2.setSrc n hs hC
    rw [hd4]
    exact ⟨⟨h3.h.fz 2, ⟨_, (h3.h.cell 2).trans rfl⟩, h3.h.lt⟩, h3.setNow at', Typ.trans (HF.setSrc h2 ok hC) (HF.setNow h3 (ok.setSrc n) at')⟩)
   have y3 : w.cell? ⟨I.X, 3, none⟩ = some (.pointer (some ⟨I.S, 0, none⟩)) := hX.h.cell 3
   have kQ := Lib.hid (fun w6 (hg6 : Gw w6) (h0 : w6.cell? ⟨I.X, 0, none⟩ = some (.string d.name)) => request_any I.X d.name A n ref p w6 hg6 h0 hnb (by omega) (by omega) (by omega) (by omega))
   unfold MsgP at kQ
   unfold purAgg at kQ
   rw [← hA] at kQ
   have hfin := Lib.hid (fun v w' (hv : Elems w' v (reqEs d.name A n ref p)) bs' sv' wv' (hX' : HostX w' B I bs' sv' wv' { d4 with sales := d4.sales ++ [newSale ref p (at' + d.timeout)] }) (ok' : HostOk B I bs' { d4 with sales := d4.sales ++ [newSale ref p (at' + d.timeout)] }) (hF : Chg (HF B I w) w w') => show HPurP B I d at' p w (.returned (.tuple #[.string ref, .agg #[.int .i64 100, v], .int .i64 0])) w' from by
    unfold HPurP
    rw [hpv]
    rw [hd4] at hX' ok'
    exact ⟨v, rfl, hv, ⟨bs', sv', wv', hX', ok'⟩, hF⟩)
   have hname : d4.name = d.name := by rw [hd4]
   have htime : d4.timeout = d.timeout := by rw [hd4]
   generalize HPurP B I d at' p w = PP at *
   obtain ⟨i0, hI, hz0, hz1, hz2⟩ := info_partsE infoPtrE
   replace hI := Lib.hid hI
   replace hz0 := Lib.hid hz0
   replace hz1 := Lib.hid hz1
   replace hz2 := Lib.hid hz2
   have hGg := Lib.hid (fun w' (hF : Chg (HF B I w) w w') => g.hf hF hGB)
   have hok4 := Lib.hid ok4
   clear hA
   clear g hX ok ok4 hpv hfr hrl href hn hc hp hp' herr hday hnn hfew hlen hd4 hf hs4 m1 m2 m3 m4 m5 m6 m7
   go_enter Tryz.func6, Tryz.ntmps6
   go_wp2_with fail
   refine (kC.out _).mono ?_
   rintro e w1 ⟨rfl, hE1⟩
   have hE : Ext w w1 := Ext.trans xt hE1
   go_wp2_with fail
   refine (kP.out _ hE).mono ?_
   rintro e w2 ⟨rfl, hE2⟩
   replace hE := hE.trans hE2
   replace bP := Lib.hid (bP.out.ext (hE1.trans hE2))
   replace bR := Lib.hid (bR.out.ext (hE1.trans hE2))
   replace y5 := hE.get y5
   replace y3 := hE.get y3
   clear hE1 hE2 kC kP
   go_wp2_with fail
   refine (kN.out w2 hE).mono ?_
   rintro e w3 ⟨rfl, hs3, hC3⟩
   obtain ⟨⟨z2, ⟨u2, x2⟩, lX⟩, hX4, hF4⟩ := hsrc.out w2 w3 hE hs3 hC3
   have hF : Chg (HF B I w) w (w3.setCell ⟨I.X, 2, none⟩ (.int .i64 at')) := Typ.trans (Chg.ofExt hE) hF4
   have bP4 := Lib.hid (Typ.blk bP.out hF4 (by decide))
   have bR4 := Lib.hid (Typ.blk bR.out hF4 (by decide))
   replace hX4 := Lib.hid hX4
   replace hF := Lib.hid hF
   clear hs3 hC3 hF4 hsrc kN bP bR y5 y3 hE
   go_wp2_with fail
   generalize w3.setCell ⟨I.X, 2, none⟩ (.int .i64 at') = W4 at *
   clear z2 x2 lX
   have t1 : W4.cell? ⟨I.X, 1, none⟩ = some (.int .i64 d.timeout) := by rw [← htime]; exact hX4.out.h.cell 1
   have p0 : W4.cell? ⟨w.heap.size, 0, none⟩ = some (.string p.mer) := (bP4.out.cell 0).trans rfl
   have p1 : W4.cell? ⟨w.heap.size, 1, none⟩ = some (.string p.ter) := (bP4.out.cell 1).trans rfl
   have p2 : W4.cell? ⟨w.heap.size, 2, none⟩ = some (.string p.car) := (bP4.out.cell 2).trans rfl
   have p3 : W4.cell? ⟨w.heap.size, 3, none⟩ = some (.int .i64 p.amt) := (bP4.out.cell 3).trans rfl
   have p4 : W4.cell? ⟨w.heap.size, 4, none⟩ = some (.int .i64 p.least) := (bP4.out.cell 4).trans rfl
   have p5 : W4.cell? ⟨w.heap.size, 5, none⟩ = some (.string p.cur) := (bP4.out.cell 5).trans rfl
   have p6 : W4.cell? ⟨w.heap.size, 6, none⟩ = some (.int .i64 p.cat) := (bP4.out.cell 6).trans rfl
   have lX := hX4.out.h.lt
   have lP := bP4.out.lt
   have hwr : IntKind.i64.wrap (at' + d.timeout) = at' + d.timeout := by rw [IntKind.wrap_i64] <;> omega
   refine wp_region_grow (by kernel_rfl) ?_
   refine grow_take (i := 0) (v := .string ref) rfl (by kernel_rfl) (by kernel_rfl) (by kernel_rfl) (fun _ _ _ h => h) ⟨by rfl, fun w' hE => Or.inl (by first | (go_simp; done) | (go_simp; with_reducible rfl) | rfl)⟩ ?_
   simp only [Act.put, List.setIfInBounds_toArray]
   refine grow_take (i := 1) (v := .agg #[.string p.mer, .string p.ter, .string p.car, .int .i64 p.amt, .int .i64 p.least, .string p.cur, .int .i64 p.cat]) rfl (by kernel_rfl) (by kernel_rfl) (by kernel_rfl) (fun _ _ _ h => h) ⟨by rfl, fun w' hE => Or.inl (by have yy0 := hE.get (show W4.drew.cell? ⟨w.heap.size, 0, none⟩ = some (.string p.mer) from p0); have yy1 := hE.get (show W4.drew.cell? ⟨w.heap.size, 1, none⟩ = some (.string p.ter) from p1); have yy2 := hE.get (show W4.drew.cell? ⟨w.heap.size, 2, none⟩ = some (.string p.car) from p2); have yy3 := hE.get (show W4.drew.cell? ⟨w.heap.size, 3, none⟩ = some (.int .i64 p.amt) from p3); have yy4 := hE.get (show W4.drew.cell? ⟨w.heap.size, 4, none⟩ = some (.int .i64 p.least) from p4); have yy5 := hE.get (show W4.drew.cell? ⟨w.heap.size, 5, none⟩ = some (.string p.cur) from p5); have yy6 := hE.get (show W4.drew.cell? ⟨w.heap.size, 6, none⟩ = some (.int .i64 p.cat) from p6); first | (go_simp; done) | (go_simp; with_reducible rfl))⟩ ?_
   simp only [Act.put]
   refine grow_take (i := 2) (v := .agg #[.string ref, .string p.mer, .string p.ter, .string p.car, .int .i64 p.amt, .int .i64 p.least, .string p.cur, .int .i64 p.cat, .int .i64 1, .int .i64 0, .int .i64 0, .int .i64 0]) rfl (by kernel_rfl) (by kernel_rfl) (by kernel_rfl) (fun _ _ _ h => h) ⟨by rfl, fun w' hE => Or.inl (by first | (go_simp; done) | (go_simp; with_reducible rfl) | rfl)⟩ ?_
   simp only [Act.put]
   refine grow_take (i := 3) (v := .int .i64 at') rfl (by kernel_rfl) (by kernel_rfl) (by kernel_rfl) (fun _ _ _ h => h) ⟨by rfl, fun w' hE => Or.inl (by first | (go_simp; done) | (go_simp; with_reducible rfl) | rfl)⟩ ?_
   simp only [Act.put]
   refine grow_take (i := 4) (v := .pointer (some ⟨I.X, 0, none⟩)) rfl (by kernel_rfl) (by kernel_rfl) (by kernel_rfl) (fun _ _ _ h => h) ⟨by rfl, fun w' hE => Or.inl (by first | (go_simp; done) | (go_simp; with_reducible rfl) | rfl)⟩ ?_
   simp only [Act.put]
   refine grow_take (i := 5) (v := .pointer (some ⟨I.X, 0, none⟩)) rfl (by kernel_rfl) (by kernel_rfl) (by kernel_rfl) (fun _ _ _ h => h) ⟨by rfl, fun w' hE => Or.inl (by first | (go_simp; done) | (go_simp; with_reducible rfl) | rfl)⟩ ?_
   simp only [Act.put]
   refine grow_take (i := 6) (v := .pointer (some ⟨I.X, 1, none⟩)) rfl (by kernel_rfl) (by kernel_rfl) (by kernel_rfl) (fun _ _ _ h => h) ⟨by rfl, fun w' hE => Or.inl (by first | (go_simp; done) | (go_simp; with_reducible rfl) | rfl)⟩ ?_
   simp only [Act.put]
   refine grow_take (i := 7) (v := .int .i64 d.timeout) rfl (by kernel_rfl) (by kernel_rfl) (by kernel_rfl) (fun _ _ _ h => h) ⟨by rfl, fun w' hE => Or.inl (by have yy0 := hE.get (show W4.drew.cell? ⟨I.X, 1, none⟩ = some (.int .i64 d.timeout) from t1); first | (go_simp; done) | (go_simp; with_reducible rfl))⟩ ?_
   simp only [Act.put]
   refine grow_take (i := 8) (v := .int .i64 (at' + d.timeout)) rfl (by kernel_rfl) (by kernel_rfl) (by kernel_rfl) (fun _ _ _ h => h) ⟨by rfl, fun w' hE => Or.inl (by first | (go_simp; done) | (go_simp; with_reducible rfl) | rfl)⟩ ?_
   simp only [Act.put]
   refine grow_take (i := 9) (v := .agg #[.string ref, .string p.mer, .string p.ter, .string p.car, .int .i64 p.amt, .int .i64 p.least, .string p.cur, .int .i64 p.cat, .int .i64 1, .int .i64 0, .int .i64 0, .int .i64 0, .int .i64 (at' + d.timeout), .int .i64 0, .int .i64 0, .bool false]) rfl (by kernel_rfl) (by kernel_rfl) (by kernel_rfl) (fun _ _ _ h => h) ⟨by rfl, fun w' hE => Or.inl (by first | (go_simp; done) | (go_simp; with_reducible rfl) | rfl)⟩ ?_
   simp only [Act.put]
   refine grow_one (i := 10) rfl (by kernel_rfl) (by rfl) (fun w4 hE4 => ?_)
   go_simp
   refine ⟨Or.inl ((Ext.refl _).alloc _), ?_⟩
   obtain ⟨b, hbe⟩ : ∃ b, b = w4.heap.size := ⟨_, rfl⟩
   have hbb : Blk (w4.alloc (.cells #[.string ref, .string p.mer, .string p.ter, .string p.car, .int .i64 p.amt, .int .i64 p.least, .string p.cur, .int .i64 p.cat, .int .i64 1, .int .i64 0, .int .i64 0, .int .i64 0, .int .i64 (at' + d.timeout), .int .i64 0, .int .i64 0, .bool false] 88)) b #[.string ref, .string p.mer, .string p.ter, .string p.car, .int .i64 p.amt, .int .i64 p.least, .string p.cur, .int .i64 p.cat, .int .i64 1, .int .i64 0, .int .i64 0, .int .i64 0, .int .i64 (at' + d.timeout), .int .i64 0, .int .i64 0, .bool false] 88 := by rw [hbe]; exact Blk.new w4 _ _
   rw [← hbe]
   obtain ⟨w5, hw5⟩ : ∃ w5, w5 = w4.alloc (.cells #[.string ref, .string p.mer, .string p.ter, .string p.car, .int .i64 p.amt, .int .i64 p.least, .string p.cur, .int .i64 p.cat, .int .i64 1, .int .i64 0, .int .i64 0, .int .i64 0, .int .i64 (at' + d.timeout), .int .i64 0, .int .i64 0, .bool false] 88) := ⟨_, rfl⟩
   have hE5 : Ext W4 w5 := by rw [hw5]; exact (Ext.trans (Ext.drew (Ext.refl _)) hE4).alloc _
   have hbB : W4.heap.size ≤ b := by rw [hbe]; exact hE4.size
   rw [← hw5] at hbb ⊢
   clear hw5 hbe hE4 t1 p0 p1 p2 p3 p4 p5 p6 lX lP
   refine grow_take (i := 11) (v := .pointer (some ⟨b, 0, none⟩)) rfl (by kernel_rfl) (by kernel_rfl) (by kernel_rfl) (fun _ _ _ h => h) ⟨by rfl, fun w' hE => Or.inl (by first | (go_simp; done) | (go_simp; with_reducible rfl) | rfl)⟩ ?_
   simp only [Act.put, List.setIfInBounds_toArray]
   refine grow_end (by kernel_rfl) (fun w6 hE6 => ?_) _
   replace hbb := Lib.hid (hbb.ext hE6)
   replace hE5 := hE5.trans hE6
   try simp only [List.getElem_toArray, List.getElem_cons_succ, List.getElem_cons_zero, List.set_cons_zero, List.set_cons_succ]
   have hXb := Lib.hid (hX4.out.ext hE5)
   have hbb2 : B ≤ b := Nat.le_trans (Nat.le_trans hB hF.out.size) hbB
   have hnb2 : b ∉ bs := fun hm => by
    obtain ⟨j, hj⟩ := List.getElem?_of_mem hm
    have hjl := (List.getElem?_eq_some_iff.1 hj).1
    have hx := hX4.out.e j b (d4.sales[j]'(by rw [← hok4.out.len]; exact hjl)) hj (List.getElem?_eq_getElem _)
    have := hx.1.lt
    omega
   replace bP4 := Lib.hid (bP4.out.ext hE5)
   replace bR4 := Lib.hid (bR4.out.ext hE5)
   replace hF := Lib.hid (hF.out.ext hE5)
   have x5 : w6.cell? ⟨I.X, 5, none⟩ = some (.slice sp N sc) := by rw [← hN]; exact hXb.out.h.cell 5
   have hNl : N < 1000000 := by have := hok4.out.len; omega
   have hB6 : B ≤ w6.heap.size := Nat.le_trans hB hF.out.size
   have hbbS : Blk w6 b (salCells (newSale ref p (at' + d.timeout))) 88 := hbb.out
   replace hbbS := Lib.hid hbbS
   clear hX4 hE5 hbb hbB hE6
   have hXb' : HostX w6 B I bs (.slice sp N sc) wv d4 := by rw [← hN]; exact hXb.out
   replace hXb' := Lib.hid hXb'
   have hrow := Lib.hid (hXb'.out.r.2)
   rw [hN] at hrow
   go_wp2_with (first | (at_builtin; go_loud (refine wpList_append_cut _ (by rfl) _ _ _ (by rfl) B 86 i0 (.pointer none) 1 8 Tryz.underlying79 hI.out hz0.out hz1.out hz2.out rfl (by omega) (.slice sp N sc) N (ptrL.flat bs) (by rfl) (OwnC.ext hrow.out (Ext.alloc (Ext.refl _) _)) ⟨w6.heap.size, 0, none⟩ 1 1 [ptrV b] (by rfl) (by rfl) (World.news_of_block (Blk.new w6 #[.pointer (some ⟨b, 0, none⟩)] 86)) (by intro u hu; simp only [List.mem_cons, List.not_mem_nil, or_false] at hu; subst hu; rfl) (by unfold maxLen; omega) (by omega) (by simp; omega) ?_; intro p' c' w7 hown hg7 _hat; obtain ⟨hY, hF7, z5, u5, x6, lX⟩ := HostX.addRow hXb'.out hok4.out hN (newSale ref p (at' + d.timeout)) b hbbS.out hbb2 hg7 hown; have bP7 := Lib.hid (Typ.blk bP4.out hF7 (by decide)); have bR7 := Lib.hid (Typ.blk bR4.out hF7 (by decide)); replace hF7 := Lib.hid (Typ.trans hF.out hF7); replace hY := Lib.hid hY; clear hown hg7 _hat x5 hXb hXb' bP4 bR4 hF hrow)) | (at_mapUpdate; go_loud (refine wpList_smap_store (by rfl) _ _ _ 73 (by rfl) 9 86 Tryz.underlying9 Tryz.underlying73 I.R d4.sales.length (refF (refsOf d4) bs) (by rfl) hY.out.m (by unfold maxLen; omega) ref (ptrV b) (by unfold maxLen; omega) (by rfl) (by rfl) ?_; intro w8 hm8 hg8; obtain ⟨hX8, hF8⟩ := hY.out.addMap hok4.out hfr4 hm8 hg8; have bP8 := Typ.blk bP7.out hF8 (by decide); have bR8 := Lib.hid (Typ.blk bR7.out hF8 (by decide)); replace hF8 := Lib.hid (Typ.trans hF7.out hF8); have p0 : w8.cell? ⟨w.heap.size, 0, none⟩ = some (.string p.mer) := (bP8.cell 0).trans rfl; have p1 : w8.cell? ⟨w.heap.size, 1, none⟩ = some (.string p.ter) := (bP8.cell 1).trans rfl; have p2 : w8.cell? ⟨w.heap.size, 2, none⟩ = some (.string p.car) := (bP8.cell 2).trans rfl; have p3 : w8.cell? ⟨w.heap.size, 3, none⟩ = some (.int .i64 p.amt) := (bP8.cell 3).trans rfl; have p4 : w8.cell? ⟨w.heap.size, 4, none⟩ = some (.int .i64 p.least) := (bP8.cell 4).trans rfl; have p5 : w8.cell? ⟨w.heap.size, 5, none⟩ = some (.string p.cur) := (bP8.cell 5).trans rfl; have p6 : w8.cell? ⟨w.heap.size, 6, none⟩ = some (.int .i64 p.cat) := (bP8.cell 6).trans rfl; replace hX8 := Lib.hid hX8; clear hm8 hg8 hY bP7 bR7 hF7 bP8)))
   have n0 : w8.cell? ⟨I.X, 0, none⟩ = some (.string d.name) := by rw [← hname]; exact hX8.out.h.cell 0
   refine (kQ.out w8 (hGg.out w8 hF8.out).gw n0).mono ?_
   rintro e w9 ⟨v, rfl, hv, hE9⟩
   obtain ⟨vp, vc, hvf⟩ : ∃ q c, v = .slice q (reqEs d.name A n ref p).length c := hv.imp fun _ h => h.imp fun _ h => h.1
   subst hvf
   clear p0 p1 p2 p3 p4 p5 p6 n0
   have bR9 := bR8.out.ext hE9
   have hX9 := Lib.hid (hX8.out.ext hE9)
   have hF9 := Lib.hid (hF8.out.ext hE9)
   have a0 : w9.cell? ⟨w.heap.size + 1, 0, none⟩ = some (.int .i64 0) := (bR9.cell 0).trans rfl
   have a1 : w9.cell? ⟨w.heap.size + 1, 1, none⟩ = some (.slice none 0 0) := (bR9.cell 1).trans rfl
   have z0 := bR9.fz 0
   have z1 := bR9.fz 1
   have lR := bR9.lt
   obtain ⟨vn, hvn⟩ : ∃ vn, vn = (reqEs d.name A n ref p).length := ⟨_, rfl⟩
   rw [← hvn] at hv ⊢
   clear hvn
   replace hv := Lib.hid hv
   clear hX8 hF8 bR8 hE9
   unfold msgAgg
   go_wp2
   obtain ⟨v, hvv⟩ : ∃ v, v = Value.slice vp vn vc := ⟨_, rfl⟩
   rw [← hvv] at hv ⊢
   have hok' := hok4.out.addSale (newSale ref p (at' + d.timeout)) b hnb2 hfr4 hsok hl4
   have bRa := bR9.set 0 (.int .i64 100)
   have hva := Elems.apart hv.out (three_le _ _ _ _ _) bR9 0 (.int .i64 100)
   have hvb := Elems.apart hva (three_le _ _ _ _ _) bRa 1 v
   have bRb := bRa.set 1 v
   have hXa := hX9.out.away (ts := [29]) (ms := []) (B' := 0) (Chg.setCell (Chg.refl _ _) (p := ⟨w.heap.size + 1, 0, none⟩) (Or.inl (Typ.of bR9 (Nat.zero_le _) (by simp))) (.int .i64 100)) (by decide) (by simp)
   have hXb := hXa.away (ts := [29]) (ms := []) (B' := 0) (Chg.setCell (Chg.refl _ _) (p := ⟨w.heap.size + 1, 1, none⟩) (Or.inl (Typ.of bRa (Nat.zero_le _) (by simp))) v) (by decide) (by simp)
   have hFb := (hF9.out.setCell (p := ⟨w.heap.size + 1, 0, none⟩) (Or.inr (by simp)) (.int .i64 100)).setCell (p := ⟨w.heap.size + 1, 1, none⟩) (Or.inr (by simp)) v
   clear a0 a1 z0 z1 lR bR9 hX9 hF9 hv hva hXa bRa
   generalize (w9.setCell ⟨w.heap.size + 1, 0, none⟩ (.int .i64 100)).setCell ⟨w.heap.size + 1, 1, none⟩ v = wF at *
   have r0 : wF.cell? ⟨w.heap.size + 1, 0, none⟩ = some (.int .i64 100) := (bRb.cell 0).trans rfl
   have r1 : wF.cell? ⟨w.heap.size + 1, 1, none⟩ = some v := (bRb.cell 1).trans rfl
   exact bodyPost_ret (v := .tuple #[.string ref, .agg #[.int .i64 100, v], .int .i64 0]) (by simp [results, Tryz.results6, go_sem, r0, r1]) rfl (hfin.out v wF hvb _ _ _ hXb hok' hFb)
 · have hend := Lib.hid (herr.out (chkP p) (by unfold purV; rw [if_pos hc]))
   generalize HPurP B I d at' p w = PP at *
   have q : (chkP p != 0) = true := by simp [hc]
   generalize chkP p = c at *
   clear h g hGB hB hfr kP hc herr
   go_enter Tryz.func6, Tryz.ntmps6
   go_wp2_with fail
   refine (kC.out _).mono ?_
   rintro e w2 ⟨rfl, hE2⟩
   have hE : Ext w ((w.alloc (.cells #[.string p.mer, .string p.ter, .string p.car, .int .i64 p.amt, .int .i64 p.least, .string p.cur, .int .i64 p.cat] 33)).alloc (.cells #[.int .i64 0, .slice none 0 0] 29)) := xt
   have bR2 := bR.out.ext hE2
   have l2 := bR2.lt
   have a0 : w2.cell? ⟨w.heap.size + 1, 0, none⟩ = some (.int .i64 0) := (bR2.cell 0).trans rfl
   have a1 : w2.cell? ⟨w.heap.size + 1, 1, none⟩ = some (.slice none 0 0) := (bR2.cell 1).trans rfl
   have z0 := bR2.fz 0
   have z1 := bR2.fz 1
   go_wp2
   have hF := (bR2.set 0 (.int .i64 0)).set 1 (.slice none 0 0)
   have hE3 := (((hE.trans hE2).setCell (p := ⟨w.heap.size + 1, 0, none⟩) (by simp) (.int .i64 0)).setCell (p := ⟨w.heap.size + 1, 1, none⟩) (by simp) (.slice none 0 0))
   clear bR2 a0 a1 z0 z1
   generalize (w2.setCell ⟨w.heap.size + 1, 0, none⟩ (.int .i64 0)).setCell ⟨w.heap.size + 1, 1, none⟩ (.slice none 0 0) = wF at *
   have r0 : wF.cell? ⟨w.heap.size + 1, 0, none⟩ = some (.int .i64 0) := (hF.cell 0).trans rfl
   have r1 : wF.cell? ⟨w.heap.size + 1, 1, none⟩ = some (.slice none 0 0) := (hF.cell 1).trans rfl
   exact bodyPost_ret (v := .tuple #[.string ⟨#[]⟩, .agg #[.int .i64 0, .slice none 0 0], .int .i64 c]) (by simp [results, Tryz.results6, go_sem, r0, r1]) rfl (hend.out wF hE3)
end Go.Proofs.YtkggloeaojkhaaaGreatDoor
