/- The package-level variables under changes; contract of acquirer's reverse (walk; printed by gen/h82.py). -/
import Derived.Test.YtkggloeaojkhaaaGreatDoorPn
namespace Go.Proofs.YtkggloeaojkhaaaGreatDoor
open Go.RowKit
/-- The package-level variables lie below B. -/
def GB (B : Nat) : Prop := 0 < B ∧ 2 < B
theorem Gl.gb {w : World} (g : Gl w) : GB w.heap.size := by
 obtain ⟨⟨t, fr, hd⟩, hp⟩ := g
 exact ⟨(Array.getElem?_eq_some_iff.1 hd).1, var?_lt gPow hp⟩
theorem Gl.at {a b : World} (g : Gl a) (h1 : b.heap[0]? = a.heap[0]?) (h2 : b.heap[2]? = a.heap[2]?) : Gl b := by
 obtain ⟨⟨t, fr, hd⟩, hp⟩ := g
 refine ⟨⟨t, fr, by rw [h1]; exact hd⟩, ?_⟩
 unfold Lib.TabIs at hp ⊢
 simp only [World.var?, gPow, Option.bind_some] at hp ⊢
 rw [h2]
 exact hp
theorem Gl.chg {F : Nat → Prop} {a b : World} {B : Nat} (g : Gl a) (h : Chg F a b) (hB : GB B) (hF : ∀ k, F k → B ≤ k) : Gl b := by
 have hg := g.gb
 exact g.at (h.block _ hg.1 fun e => by have := hF _ e; have := hB.1; omega) (h.block _ hg.2 fun e => by have := hF _ e; have := hB.2; omega)
theorem Gl.hf {a b : World} {B : Nat} {I : HostI} (g : Gl a) (h : Chg (HF B I a) a b) (hB : GB B) : Gl b := g.chg h hB fun _ hk => hk.1
/-- A reference as a string. -/
def refS (date sender n : Nat) : ByteArray := ⟨(refL date sender n).toArray⟩
theorem refS_list (a b c : Nat) : (refS a b c).data.toList = refL a b c := rfl
theorem refS_size (a b c : Nat) : (refS a b c).size = 12 := by rw [← plen_list, refS_list, refL_len]
/-- A sale that is reversed. -/
def revSale (x : SaleD) : SaleD := { x with st := 4, appr := 0 }
/-- The queue behind a reversal with number n. -/
def revQ (d : HostD) (x : SaleD) (at' : Int) : QueD :=
 if mchk 420 (revEs d.name (d.last % 999999 + 1) (refS (dayV at').1.toNat d.sender (d.last % 999999 + 1)) x) = 0 then (putV d.q at' (refS (dayV at').1.toNat d.sender (d.last % 999999 + 1)) (encMS 420 (revEs d.name (d.last % 999999 + 1) (refS (dayV at').1.toNat d.sender (d.last % 999999 + 1)) x))).1 else d.q
/-- What reverse does with the k-th sale. -/
def revV (d : HostD) (k : Nat) (x : SaleD) (at' : Int) : HostD :=
 if (dayV at').1 < 0 then { d with sales := d.sales.set k (revSale x) } else { d with sales := d.sales.set k (revSale x), last := d.last % 999999 + 1, q := revQ d x at' }
theorem revSale_ok {x : SaleD} (h : SaleOk x) : SaleOk (revSale x) := ⟨h.ref, h.mer, h.ter, h.car, h.cur, h.amt, h.least, h.cat, ⟨Int.le_refl 0, by show (0 : Int) ≤ 999999999999; decide⟩, h.capt, h.refd, h.dl, h.pres, h.refs⟩
theorem revV_ok {B : Nat} {I : HostI} {bs : List Nat} {d : HostD} (h : HostOk B I bs d) (k : Nat) (x : SaleD) (at' : Int) (hx : d.sales[k]? = some x) : HostOk B I bs (revV d k x at') := by
 have h1 := h.setSale k x (revSale x) hx rfl (revSale_ok (h.ok x (List.mem_of_getElem? hx)))
 unfold revV
 split
 · exact h1
 · exact (h1.setSrc _).setQue _
theorem small_rev (nm : ByteArray) (n : Nat) (ref : ByteArray) (x : SaleD) (h1 : nm.size ≤ 16) (h2 : ref.size = 12) (hx : SaleOk x) : SmallV (revEs nm n ref x) := by
 intro j hj
 have hj7 : j < 7 := hj
 have a1 := digS_size 12 x.p.amt.toNat
 have a2 := digS_size 6 n
 have a3 := hx.car
 have a4 := hx.cur
 have a5 := hx.ref
 unfold revEs
 have h7 : j = 0 ∨ j = 1 ∨ j = 2 ∨ j = 3 ∨ j = 4 ∨ j = 5 ∨ j = 6 := by omega
 rcases h7 with rfl | rfl | rfl | rfl | rfl | rfl | rfl <;> simp only [List.getD_cons_zero, List.getD_cons_succ] <;> omega
theorem srcNext_bad {S a b : Nat} {at' : Int} {w : World} (g : Gw w) (h : SrcM w S a b) (hn : (dayV at').1 < 0) : Calls Tryz.prog 24 #[.pointer (some ⟨S, 0, none⟩), .int .i64 at'] w fun e w' => e = .returned (.tuple #[.int .i64 0, .string ⟨#[]⟩, .int .i64 14]) ∧ Ext w w' :=
 (srcNext_any S a b at' w g h).mono fun e w' h => by
  unfold NextP at h
  rw [if_pos hn] at h
  exact ⟨h.1, h.2.2⟩
theorem srcNext_good {S a b : Nat} {at' : Int} {w : World} (g : Gw w) (h : SrcM w S a b) (hn : ¬ (dayV at').1 < 0) : Calls Tryz.prog 24 #[.pointer (some ⟨S, 0, none⟩), .int .i64 at'] w fun e w' => e = .returned (.tuple #[.int .i64 ((b % 999999 + 1 : Nat) : Int), .string (refS (dayV at').1.toNat a (b % 999999 + 1)), .int .i64 0]) ∧ SrcM w' S a (b % 999999 + 1) ∧ Chg (fun k => k = S) w w' :=
 (srcNext_any S a b at' w g h).mono fun e w' h => by
  unfold NextP at h
  rw [if_neg hn] at h
  obtain ⟨r, h1, h2, h3, h4⟩ := h
  rw [bytesOf h2] at h1
  exact ⟨h1, h3, h4⟩
def RevP (B : Nat) (I : HostI) (bs : List Nat) (sv wv : Value) (d : HostD) (k : Nat) (x : SaleD) (at' : Int) (w : World) (e : Ending) (w' : World) : Prop :=
 e = .returned (.tuple #[]) ∧ HostX w' B I bs sv wv (revV d k x at') ∧ Chg (HF B I w) w w'
set_option maxRecDepth 8000 in
set_option maxHeartbeats 8000000 in
theorem reverse_any (B : Nat) (I : HostI) (bs : List Nat) (sv wv : Value) (d : HostD) (k b : Nat) (x : SaleD) (at' : Int) (w : World) (g : Gl w) (hGB : GB B) (hB : B ≤ w.heap.size) (h : HostX w B I bs sv wv d) (ok : HostOk B I bs d) (hb : bs[k]? = some b) (hx : d.sales[k]? = some x) (hkn : d.q.known.length < 1000000) : Calls Tryz.prog 27 #[.pointer (some ⟨I.X, 0, none⟩), .int .i64 at', ptrV b] w (RevP B I bs sv wv d k x at' w) := by
 obtain ⟨hbk, hBb⟩ := h.e k b x hb hx
 have xok := ok.ok x (List.mem_of_getElem? hx)
 -- behind the two stores
 obtain ⟨W, hW⟩ : ∃ W, W = (w.setCell ⟨b, 8, none⟩ (.int .i64 4)).setCell ⟨b, 9, none⟩ (.int .i64 0) := ⟨_, rfl⟩
 have hC0 : Chg (fun k => k = b) w W := by
  rw [hW]
  exact Chg.setCell (F := fun k => k = b) (Chg.setCell (F := fun k => k = b) (Chg.refl _ _) (p := ⟨b, 8, none⟩) (Or.inl rfl) _) (p := ⟨b, 9, none⟩) (Or.inl rfl) _
 have hbW : Blk W b (salCells (revSale x)) 88 := by
  rw [hW]
  exact (hbk.set 8 _).set 9 _
 have hX1 := h.setSale ok k b x (revSale x) hb hx rfl hbW hC0
 have ok1 := ok.setSale k x (revSale x) hx rfl (revSale_ok xok)
 have hF1 := HF.setSale h k b x hb hx hC0
 have hgW := g.hf hF1 hGB
 have hBW := Nat.le_trans hB hC0.size
 have y8 := (hbk.cell 8).trans rfl
 have y9 := (hbk.cell 9).trans rfl
 have z8 := hbk.fz 8
 have z9 := hbk.fz 9
 have lb := hbk.lt
 have xS : W.cell? ⟨I.X, 3, none⟩ = some (ptrV I.S) := hX1.h.cell 3
 have xQ : W.cell? ⟨I.X, 4, none⟩ = some (ptrV I.Q) := hX1.h.cell 4
 have xN : W.cell? ⟨I.X, 0, none⟩ = some (.string d.name) := hX1.h.cell 0
 have x3w : w.cell? ⟨I.X, 3, none⟩ = some (.pointer (some ⟨I.S, 0, none⟩)) := h.h.cell 3
 have hXb : I.X ≠ b := (h.blkNe hbk).1 (by decide)
 by_cases hn : (dayV at').1 < 0
 · have hend := Lib.hid (fun w' (hE : Ext W w') => show RevP B I bs sv wv d k x at' w (.returned (.tuple #[])) w' from by
    unfold RevP revV
    rw [if_pos hn]
    exact ⟨rfl, hX1.ext hE, hF1.ext hE⟩)
   generalize RevP B I bs sv wv d k x at' w = PP at *
   have kN := Lib.hid (srcNext_bad hgW.gw hX1.s hn)
   clear hX1 ok1 hF1 hgW hbW hC0 hbk xok ok h g hGB xN xQ
   unfold ptrV at *
   go_enter Tryz.func27, Tryz.ntmps27
   go_wp2_with fail
   first | rw [← hW] | simp only [← hW]
   clear hW x3w
   refine kN.out.mono ?_
   rintro e w1 ⟨rfl, hE⟩
   go_wp2_with fail
   go_end0
   exact hend.out _ hE
 · have hpos : 0 ≤ (dayV at').1 ∧ (dayV at').1 ≤ 99999 := by rcases dayV_bd at' with h | h <;> omega
   obtain ⟨n, hnn⟩ : ∃ n, n = d.last % 999999 + 1 := ⟨_, rfl⟩
   have hnb : n ≤ 999999 := by have := Nat.mod_lt d.last (show 0 < 999999 by decide); omega
   obtain ⟨ref, href⟩ : ∃ ref, ref = refS (dayV at').1.toNat d.sender n := ⟨_, rfl⟩
   have hrs : ref.size = 12 := by rw [href]; exact refS_size _ _ _
   have kN := srcNext_good hgW.gw hX1.s hn
   simp only at kN
   rw [← hnn, ← href] at kN
   replace kN := Lib.hid kN
   have hrv : revV d k x at' = { d with sales := d.sales.set k (revSale x), last := n, q := if mchk 420 (revEs d.name n ref x) = 0 then (putV d.q at' ref (encMS 420 (revEs d.name n ref x))).1 else d.q } := by
    unfold revV revQ
    rw [if_neg hn, ← hnn, ← href]
   -- the reversal, its text, and the queue
   have kR := Lib.hid (fun w2 (hg2 : Gw w2) (h2 : w2.cell? ⟨I.X, 0, none⟩ = some (.string d.name)) => reversal_any I.X d.name n ref (revSale x) w2 hg2 h2 hnb ⟨by have := xok.amt.1; show 0 ≤ x.p.amt; omega, xok.amt.2⟩)
   have hre : revEs d.name n ref (revSale x) = revEs d.name n ref x := rfl
   rw [hre] at kR
   have hsm := small_rev d.name n ref x ok.name hrs xok
   have kE := Lib.hid (fun w3 (g3 : Gl w3) v (hv : Elems w3 v (revEs d.name n ref x)) => mencode_any 420 v (revEs d.name n ref x) w3 g3 hv (by show 7 ≤ 1000; decide) hsm)
   have hel := encM_len 420 (revEs d.name n ref x) (by show 7 ≤ 60; decide)
   have hse : Hid True := Lib.hid trivial
   -- behind the source
   have hsrc := Lib.hid (fun w2 (hs : SrcM w2 I.S d.sender n) (hC : Chg (fun k => k = I.S) W w2) => show HostX w2 B I bs sv wv { d with sales := d.sales.set k (revSale x), last := n } ∧ Chg (HF B I w) w w2 ∧ Gl w2 from by
    have hF2 := Typ.trans hF1 (HF.setSrc hX1 ok1 hC)
    exact ⟨hX1.setSrc n hs hC, hF2, g.hf hF2 hGB⟩)
   have hput := Lib.hid (fun w2 w3 (h2 : HostX w2 B I bs sv wv { d with sales := d.sales.set k (revSale x), last := n }) (hF : Chg (HF B I w) w w2) (hz : mchk 420 (revEs d.name n ref x) = 0) (hp : FwPutP B I.Q I.M d.q at' ref (encMS 420 (revEs d.name n ref x)) w2 (.returned (.int .i64 (putV d.q at' ref (encMS 420 (revEs d.name n ref x))).2)) w3) => show RevP B I bs sv wv d k x at' w (.returned (.tuple #[])) w3 from by
    unfold RevP
    rw [hrv, if_pos hz]
    obtain ⟨-, h4, h5⟩ := hp
    exact ⟨rfl, h2.setQue (ok1.setSrc n) _ h4 h5, Typ.trans hF (HF.setQue h5)⟩)
   have hno := Lib.hid (fun w2 (h2 : HostX w2 B I bs sv wv { d with sales := d.sales.set k (revSale x), last := n }) (hF : Chg (HF B I w) w w2) (hz : ¬ mchk 420 (revEs d.name n ref x) = 0) => show RevP B I bs sv wv d k x at' w (.returned (.tuple #[])) w2 from by
    unfold RevP
    rw [hrv, if_neg hz]
    exact ⟨rfl, h2, hF⟩)
   generalize RevP B I bs sv wv d k x at' w = PP at *
   have hag : salAgg (revSale x) = .agg #[.string x.ref, .string x.p.mer, .string x.p.ter, .string x.p.car, .int .i64 x.p.amt, .int .i64 x.p.least, .string x.p.cur, .int .i64 x.p.cat, .int .i64 4, .int .i64 0, .int .i64 x.capt, .int .i64 x.refd] := rfl
   rw [hag] at kR
   have hsc : salCells (revSale x) = #[.string x.ref, .string x.p.mer, .string x.p.ter, .string x.p.car, .int .i64 x.p.amt, .int .i64 x.p.least, .string x.p.cur, .int .i64 x.p.cat, .int .i64 4, .int .i64 0, .int .i64 x.capt, .int .i64 x.refd, .int .i64 x.dl, .int .i64 x.pres, .int .i64 x.refs, .bool x.fin] := rfl
   rw [hsc] at hbW
   have kP := Lib.hid (fun w4 (h4 : QueM w4 B I.Q I.M d.q) (hB4 : B ≤ w4.heap.size) => fwPut_any B I.Q I.M d.q at' ref (encMS 420 (revEs d.name n ref x)) w4 h4 hB4 hkn (by omega) (by omega))
   generalize hes : revEs d.name n ref x = es at *
   clear hes
   obtain ⟨z, hz⟩ : ∃ z, z = mchk 420 es := ⟨_, rfl⟩
   rw [← hz] at kE hput hno
   clear hz
   obtain ⟨txt, htx⟩ : ∃ txt, txt = encMS 420 es := ⟨_, rfl⟩
   rw [← htx] at kE hput kP
   clear htx hel
   unfold OneV at kE
   unfold MsgP at kR
   clear hX1 ok1 hF1 hgW hC0 hbk xok ok h hGB xN xQ hn hpos hnn href hrv hre hsm hag hsc hbW hse
   unfold ptrV at *
   have hil := (List.getElem?_eq_some_iff.1 hx).1
   by_cases hz : z = 0
   all_goals
    go_enter Tryz.func27, Tryz.ntmps27
    go_wp2_with fail
    first | rw [← hW] | simp only [← hW]
    clear hW y8 y9 z8 z9 x3w
    refine kN.out.mono ?_
    rintro e w2 ⟨rfl, hs2, hC2⟩
    obtain ⟨hX2, hF2, hg2⟩ := hsrc.out w2 hs2 hC2
    have x0 : w2.cell? ⟨I.X, 0, none⟩ = some (.string d.name) := hX2.h.cell 0
    have b2 := (hX2.e k b (revSale x) hb (by show (d.sales.set k (revSale x))[k]? = _; rw [List.getElem?_set, if_pos rfl, if_pos hil])).1
    have y0 : w2.cell? ⟨b, 0, none⟩ = some (.string x.ref) := (b2.cell 0).trans rfl
    have y1 : w2.cell? ⟨b, 1, none⟩ = some (.string x.p.mer) := (b2.cell 1).trans rfl
    have y2 : w2.cell? ⟨b, 2, none⟩ = some (.string x.p.ter) := (b2.cell 2).trans rfl
    have y3 : w2.cell? ⟨b, 3, none⟩ = some (.string x.p.car) := (b2.cell 3).trans rfl
    have y4 : w2.cell? ⟨b, 4, none⟩ = some (.int .i64 x.p.amt) := (b2.cell 4).trans rfl
    have y5 : w2.cell? ⟨b, 5, none⟩ = some (.int .i64 x.p.least) := (b2.cell 5).trans rfl
    have y6 : w2.cell? ⟨b, 6, none⟩ = some (.string x.p.cur) := (b2.cell 6).trans rfl
    have y7 : w2.cell? ⟨b, 7, none⟩ = some (.int .i64 x.p.cat) := (b2.cell 7).trans rfl
    have y8 : w2.cell? ⟨b, 8, none⟩ = some (.int .i64 4) := (b2.cell 8).trans rfl
    have y9 : w2.cell? ⟨b, 9, none⟩ = some (.int .i64 0) := (b2.cell 9).trans rfl
    have y10 : w2.cell? ⟨b, 10, none⟩ = some (.int .i64 x.capt) := (b2.cell 10).trans rfl
    have y11 : w2.cell? ⟨b, 11, none⟩ = some (.int .i64 x.refd) := (b2.cell 11).trans rfl
    clear b2 kN hsrc hs2 hC2 lb
    have hB2 := Nat.le_trans hB hF2.size
    replace hX2 := Lib.hid hX2
    replace hF2 := Lib.hid hF2
    replace hg2 := Lib.hid hg2
    go_wp2_with fail
    refine (kR.out _ hg2.out.gw x0).mono ?_
    rintro e w3 ⟨v, rfl, hv, hE3⟩
    clear x0 y0 y1 y2 y3 y4 y5 y6 y7 y8 y9 y10 y11 kR
    unfold msgAgg at *
    go_wp2_with fail
    refine (kE.out _ (hg2.out.ext hE3) v hv).mono ?_
    rintro e w4 ⟨rfl, hE4⟩
    have hE := hE3.trans hE4
    have x4 : w4.cell? ⟨I.X, 4, none⟩ = some (.pointer (some ⟨I.Q, 0, none⟩)) := (hX2.out.ext hE).h.cell 4
    clear hE3 hE4 hv kE
   · have q : (z == 0) = true := by simp [hz]
     go_wp2_with fail
     refine (kP.out w4 (hX2.out.ext hE).q (Nat.le_trans hB2 hE.size)).mono ?_
     rintro e w5 hp
     have hr := hp.1
     have hfin := Lib.hid (hput.out w4 w5 (hX2.out.ext hE) (hF2.out.ext hE) hz (by rw [← hr]; exact hp))
     subst hr
     clear hp x4
     go_wp2
     go_end0
     exact hfin.out
   · have q : (z == 0) = false := by simp [hz]
     have hfin := Lib.hid (hno.out w4 (hX2.out.ext hE) (hF2.out.ext hE) hz)
     clear x4
     go_wp2
     go_end0
     exact hfin.out
end Go.Proofs.YtkggloeaojkhaaaGreatDoor
