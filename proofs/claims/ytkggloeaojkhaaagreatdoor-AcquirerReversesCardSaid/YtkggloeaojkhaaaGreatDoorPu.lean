/- Contracts of acquirer's answer, acknowledge, Receive (walks; printed by gen/h86.py). -/
import Derived.Test.YtkggloeaojkhaaaGreatDoorPt
namespace Go.Proofs.YtkggloeaojkhaaaGreatDoor
open Go.RowKit
def s00 : ByteArray := ⟨#[48, 48]⟩
def s10 : ByteArray := ⟨#[49, 48]⟩
theorem s00_list : s00.toList = [48, 48] := by rw [ByteArray.toList_eq]; rfl
theorem s10_list : s10.toList = [49, 48] := by rw [ByteArray.toList_eq]; rfl
/-- The amount that a reply approves. -/
def ansAmt (es : List El) (x : SaleD) : Int := if numE 4 es = 0 then numV 4 es else x.p.amt
/-- What a reply does with its sale. -/
def ansSale (es : List El) (x : SaleD) (at' : Int) : SaleD × Int :=
 if x.st ≠ 1 ∨ x.dl ≤ at' then (x, 0) else if getS 39 es ≠ s00 ∧ getS 39 es ≠ s10 then ({ x with st := 3 }, 0)
 else if ansAmt es x < 1 ∨ x.p.amt < ansAmt es x then (x, 4) else ({ x with st := 2, appr := ansAmt es x }, 0)
def ansV (d : HostD) (at' : Int) (es : List El) : HostD × Int :=
 match sIx (getS 37 es).data.toList (refsOf d) with
 | none => (d, 6)
 | some i => match d.sales[i]? with
  | none => (d, 6)
  | some x => ({ d with sales := d.sales.set i (ansSale es x at').1 }, (ansSale es x at').2)
def HAnsP (B : Nat) (I : HostI) (d : HostD) (at' : Int) (es : List El) (w : World) (e : Ending) (w' : World) : Prop := e = .returned (.int .i64 (ansV d at' es).2) ∧ HostM w' B I (ansV d at' es).1 ∧ Chg (HF B I w) w w'
theorem set_self {α : Type} (l : List α) (i : Nat) (x : α) (h : l[i]? = some x) : l.set i x = l := by
 apply List.ext_getElem?
 intro j
 rw [List.getElem?_set]
 by_cases hj : i = j
 · subst hj
   rw [if_pos rfl, if_pos (List.getElem?_eq_some_iff.1 h).1, h]
 · rw [if_neg hj]
theorem ansSale_ok {es : List El} {x : SaleD} (at' : Int) (h : SaleOk x) : SaleOk (ansSale es x at').1 ∧ (ansSale es x at').1.ref = x.ref := by
 unfold ansSale
 split
 · exact ⟨h, rfl⟩
 · split
   · exact ⟨⟨h.ref, h.mer, h.ter, h.car, h.cur, h.amt, h.least, h.cat, h.appr, h.capt, h.refd, h.dl, h.pres, h.refs⟩, rfl⟩
   · split
     · exact ⟨h, rfl⟩
     · rename_i h3
       have h1 := h.amt
       exact ⟨⟨h.ref, h.mer, h.ter, h.car, h.cur, h.amt, h.least, h.cat, by show 0 ≤ ansAmt es x ∧ ansAmt es x ≤ 999999999999; omega, h.capt, h.refd, h.dl, h.pres, h.refs⟩, rfl⟩
theorem ptrNe2 (b : Nat) (w : World) : (binOp .eql 86 (.pointer (some ⟨b, 0, none⟩)) (.pointer none)).run Tryz.prog w = .ok (.bool false) w := by kernel_rfl
set_option maxRecDepth 8000 in
set_option maxHeartbeats 16000000 in
theorem answer_any (B : Nat) (I : HostI) (d : HostD) (at' : Int) (ty : Int) (v : Value) (es : List El) (w : World) (_g : Gl w) (h : HostM w B I d) (hv : Elems w v es) (hl : es.length ≤ 1000000) (hsz : (getS 37 es).size ≤ 1000000) : Calls Tryz.prog 36 #[.pointer (some ⟨I.X, 0, none⟩), .int .i64 at', msgAgg ty v] w (HAnsP B I d at' es w) := by
 have kG := Lib.hid (fun w1 (hE : Ext w w1) => get_any ty 37 v es w1 (hv.ext hE) hl)
 have kC := Lib.hid (fun w1 (hE : Ext w w1) => get_any ty 39 v es w1 (hv.ext hE) hl)
 have kN := Lib.hid (fun w1 (hE : Ext w w1) => number_any ty 4 v es w1 (hv.ext hE) hl)
 obtain ⟨bs, sv, wv, hX0, ok⟩ := h
 obtain ⟨vp, vc, hvf⟩ : ∃ q c, v = .slice q es.length c := hv.imp fun _ h => h.imp fun _ h => h.1
 subst hvf
 have bM := Lib.hid (Blk.new w #[.int .i64 ty, .slice vp es.length vc] 29)
 unfold OneV at kG kC
 unfold NumbP at kN
 unfold msgAgg at kG kC kN ⊢
 rcases hX0.look ok hsz with ⟨h1, hL⟩ | ⟨i, b, x, h1, hb, hx, -, hL⟩
 · have hend := Lib.hid (fun w' (hE : Ext w w') => show HAnsP B I d at' es w (.returned (.int .i64 6)) w' from by
    unfold HAnsP ansV
    rw [h1]
    exact ⟨rfl, ⟨bs, sv, wv, hX0.ext hE, ok⟩, Chg.ofExt hE⟩)
   generalize HAnsP B I d at' es w = PP at *
   replace hL := Lib.hid hL
   have hX := Lib.hid hX0
   have hq := ptrEq
   generalize getS 37 es = r37 at *
   generalize getB 37 es = b37 at *
   generalize es.length = n at *
   clear hX0 ok h1 hv _g
   go_enter Tryz.func36, Tryz.ntmps36
   go_wp2_with fail
   refine (kG.out _ xt).mono ?_
   rintro e w1 ⟨rfl, hE1⟩
   have hE : Ext w w1 := Ext.trans xt hE1
   have x6 : w1.cell? ⟨I.X, 6, none⟩ = some (.map (some I.R)) := (hX.out.ext hE).h.cell 6
   have hl := hL.out w1 hE
   have hq1 := hq w1
   go_wp2_with fail
   try go_ret
   exact hend.out _ hE
 have xok := ok.ok x (List.mem_of_getElem? hx)
 have hav : ansV d at' es = ({ d with sales := d.sales.set i (ansSale es x at').1 }, (ansSale es x at').2) := by
  unfold ansV
  rw [h1]
  simp only
  rw [hx]
 have hsame := Lib.hid (fun c (hc : ansSale es x at' = (x, c)) w' (hE : Ext w w') => show HAnsP B I d at' es w (.returned (.int .i64 c)) w' from by
  unfold HAnsP
  rw [hav, hc]
  show _ ∧ HostM w' B I { d with sales := d.sales.set i x } ∧ _
  rw [set_self _ _ _ hx]
  exact ⟨rfl, ⟨bs, sv, wv, hX0.ext hE, ok⟩, Chg.ofExt hE⟩)
 have hnew := Lib.hid (fun c x' (hc : ansSale es x at' = (x', c)) w1 w' (hE : Ext w w1) (hn : Blk w' b (salCells x') 88) (hC : Chg (fun k => k = b) w1 w') => show HAnsP B I d at' es w (.returned (.int .i64 c)) w' from by
  unfold HAnsP
  have hok := ansSale_ok (es := es) at' xok
  rw [hc] at hok
  rw [hav, hc]
  have h2 := hX0.ext hE
  exact ⟨rfl, ⟨bs, sv, wv, h2.setSale ok i b x x' hb hx hok.2 hn hC, ok.setSale i x x' hx hok.2 hok.1⟩, Typ.trans (Chg.ofExt hE) (HF.setSale h2 i b x hb hx hC)⟩)
 generalize HAnsP B I d at' es w = PP at *
 replace hL := Lib.hid hL
 have hX := Lib.hid hX0
 replace hb := Lib.hid hb
 replace hx := Lib.hid hx
 have hq := ptrNe b
 have ham := xok.amt
 clear hX0 ok h1 hv _g hav xok
 by_cases c1 : x.st = 1
 · have q1 : (x.st != 1) = false := by simp [c1]
   by_cases c2 : x.dl ≤ at'
   · have q2 : decide (x.dl ≤ at') = true := decide_eq_true c2
     have hend := Lib.hid (hsame.out 0 (by unfold ansSale; rw [if_pos (Or.inr c2)]))
     clear hsame hnew c1 c2
     generalize getS 37 es = r37 at *
     generalize getB 37 es = b37 at *
     generalize es.length = n at *
     go_enter Tryz.func36, Tryz.ntmps36
     go_wp2_with fail
     refine (kG.out _ xt).mono ?_
     rintro e w1 ⟨rfl, hE1⟩
     have hE : Ext w w1 := Ext.trans xt hE1
     have x6 : w1.cell? ⟨I.X, 6, none⟩ = some (.map (some I.R)) := (hX.out.ext hE).h.cell 6
     have hl := hL.out w1 hE
     have y8 : w1.cell? ⟨b, 8, none⟩ = some (.int .i64 x.st) := (((hX.out.ext hE).e i b x hb.out hx.out).1.cell 8).trans rfl
     have y12 : w1.cell? ⟨b, 12, none⟩ = some (.int .i64 x.dl) := (((hX.out.ext hE).e i b x hb.out hx.out).1.cell 12).trans rfl
     have y4 : w1.cell? ⟨b, 4, none⟩ = some (.int .i64 x.p.amt) := (((hX.out.ext hE).e i b x hb.out hx.out).1.cell 4).trans rfl
     have z8 : w1.frozen? ⟨b, 8, none⟩ = false := ((hX.out.ext hE).e i b x hb.out hx.out).1.fz 8
     have z9 : w1.frozen? ⟨b, 9, none⟩ = false := ((hX.out.ext hE).e i b x hb.out hx.out).1.fz 9
     have y9 : w1.cell? ⟨b, 9, none⟩ = some (.int .i64 x.appr) := (((hX.out.ext hE).e i b x hb.out hx.out).1.cell 9).trans rfl
     have lb := ((hX.out.ext hE).e i b x hb.out hx.out).1.lt
     have hq1 := hq w1
     go_wp2_with fail
     try go_ret
     exact hend.out _ hE
   have q2 : decide (x.dl ≤ at') = false := decide_eq_false c2
   have n12 : ¬ (x.st ≠ 1 ∨ x.dl ≤ at') := by rintro (h | h); exact h c1; exact c2 h
   by_cases c3 : getS 39 es ≠ s00 ∧ getS 39 es ≠ s10
   · have q3 : ((getS 39 es).toList == [48, 48]) = false := by have := strNe (b := s00) c3.1; rw [s00_list] at this; exact this
     have q4 : ((getS 39 es).toList == [49, 48]) = false := by have := strNe (b := s10) c3.2; rw [s10_list] at this; exact this
     have hend := Lib.hid (hnew.out 0 _ (by unfold ansSale; rw [if_neg n12, if_pos c3]))
     clear hsame hnew c1 c2 c3 n12
     generalize getS 37 es = r37 at *
     generalize getB 37 es = b37 at *
     generalize getS 39 es = r39 at *
     generalize getB 39 es = b39 at *
     generalize es.length = n at *
     go_enter Tryz.func36, Tryz.ntmps36
     go_wp2_with fail
     refine (kG.out _ xt).mono ?_
     rintro e w1 ⟨rfl, hE1⟩
     have hE : Ext w w1 := Ext.trans xt hE1
     have x6 : w1.cell? ⟨I.X, 6, none⟩ = some (.map (some I.R)) := (hX.out.ext hE).h.cell 6
     have hl := hL.out w1 hE
     have y8 : w1.cell? ⟨b, 8, none⟩ = some (.int .i64 x.st) := (((hX.out.ext hE).e i b x hb.out hx.out).1.cell 8).trans rfl
     have y12 : w1.cell? ⟨b, 12, none⟩ = some (.int .i64 x.dl) := (((hX.out.ext hE).e i b x hb.out hx.out).1.cell 12).trans rfl
     have y4 : w1.cell? ⟨b, 4, none⟩ = some (.int .i64 x.p.amt) := (((hX.out.ext hE).e i b x hb.out hx.out).1.cell 4).trans rfl
     have z8 : w1.frozen? ⟨b, 8, none⟩ = false := ((hX.out.ext hE).e i b x hb.out hx.out).1.fz 8
     have z9 : w1.frozen? ⟨b, 9, none⟩ = false := ((hX.out.ext hE).e i b x hb.out hx.out).1.fz 9
     have y9 : w1.cell? ⟨b, 9, none⟩ = some (.int .i64 x.appr) := (((hX.out.ext hE).e i b x hb.out hx.out).1.cell 9).trans rfl
     have lb := ((hX.out.ext hE).e i b x hb.out hx.out).1.lt
     have hq1 := hq w1
     have m0 : w1.cell? ⟨w.heap.size, 0, none⟩ = some (.int .i64 ty) := ((bM.out.ext hE1).cell 0).trans rfl
     have m1 : w1.cell? ⟨w.heap.size, 1, none⟩ = some (.slice vp n vc) := ((bM.out.ext hE1).cell 1).trans rfl
     go_wp2_with fail
     refine (kC.out _ hE).mono ?_
     rintro e w2 ⟨rfl, hE2⟩
     replace hE := hE.trans hE2
     replace y8 : w2.cell? ⟨b, 8, none⟩ = some (.int .i64 x.st) := (((hX.out.ext hE).e i b x hb.out hx.out).1.cell 8).trans rfl
     replace y12 : w2.cell? ⟨b, 12, none⟩ = some (.int .i64 x.dl) := (((hX.out.ext hE).e i b x hb.out hx.out).1.cell 12).trans rfl
     replace y4 : w2.cell? ⟨b, 4, none⟩ = some (.int .i64 x.p.amt) := (((hX.out.ext hE).e i b x hb.out hx.out).1.cell 4).trans rfl
     replace z8 : w2.frozen? ⟨b, 8, none⟩ = false := ((hX.out.ext hE).e i b x hb.out hx.out).1.fz 8
     replace z9 : w2.frozen? ⟨b, 9, none⟩ = false := ((hX.out.ext hE).e i b x hb.out hx.out).1.fz 9
     replace y9 : w2.cell? ⟨b, 9, none⟩ = some (.int .i64 x.appr) := (((hX.out.ext hE).e i b x hb.out hx.out).1.cell 9).trans rfl
     replace lb := ((hX.out.ext hE).e i b x hb.out hx.out).1.lt
     have bb := ((hX.out.ext hE).e i b x hb.out hx.out).1
     go_wp2_with fail
     try go_ret
     exact hend.out w2 _ hE (bb.set 8 (.int .i64 3)) (Chg.setCell (F := fun k => k = b) (Chg.refl _ _) (p := ⟨b, 8, none⟩) (Or.inl rfl) _)
   -- approved
   have q3 : ((getS 39 es).toList == [48, 48]) = true ∨ (((getS 39 es).toList == [48, 48]) = false ∧ ((getS 39 es).toList == [49, 48]) = true) := by
    by_cases h0 : getS 39 es = s00
    · left
      have := strEq (b := s00) h0
      rw [s00_list] at this
      exact this
    · right
      have h1 := strNe (b := s00) h0
      rw [s00_list] at h1
      by_cases h2 : getS 39 es = s10
      · have h3 := strEq (b := s10) h2
        rw [s10_list] at h3
        exact ⟨h1, h3⟩
      · exact absurd ⟨h0, h2⟩ c3
   have hnum : (numE 4 es = 0 ∧ ansAmt es x = numV 4 es) ∨ (¬ numE 4 es = 0 ∧ ansAmt es x = x.p.amt) := by
    unfold ansAmt
    by_cases h0 : numE 4 es = 0
    · exact Or.inl ⟨h0, if_pos h0⟩
    · exact Or.inr ⟨h0, if_neg h0⟩
   have hbad := Lib.hid (fun (hr : ansAmt es x < 1 ∨ x.p.amt < ansAmt es x) => hsame.out 4 (by unfold ansSale; rw [if_neg n12, if_neg c3, if_pos hr]))
   have hgood := Lib.hid (fun (hr : ¬ (ansAmt es x < 1 ∨ x.p.amt < ansAmt es x)) => hnew.out 0 _ (by unfold ansSale; rw [if_neg n12, if_neg c3, if_neg hr]))
   clear hsame hnew c1 c2 c3 n12
   generalize ansAmt es x = AM at *
   generalize numE 4 es = ne4 at *
   generalize numV 4 es = nv4 at *
   generalize getS 37 es = r37 at *
   generalize getB 37 es = b37 at *
   generalize getS 39 es = r39 at *
   generalize getB 39 es = b39 at *
   generalize es.length = n at *
   have hsplit : ∀ (b1 b2 : Bool), True := fun _ _ => trivial
   clear hsplit
   have hcs : (AM < 1) ∨ (1 ≤ AM ∧ x.p.amt < AM) ∨ (1 ≤ AM ∧ AM ≤ x.p.amt) := by omega
   rcases hnum with ⟨h0, hA⟩ | ⟨h0, hA⟩
   · subst hA
     have q5 : (ne4 == 0) = true := by simp [h0]
     rcases hcs with hc | ⟨hc, hc2⟩ | ⟨hc, hc2⟩
     · have q6 : decide (AM < 1) = true := decide_eq_true hc
       have hend := Lib.hid (hbad.out (Or.inl hc))
       clear hbad hgood
       rcases q3 with q3 | ⟨q3, q4⟩
       all_goals
        go_enter Tryz.func36, Tryz.ntmps36
        go_wp2_with fail
        refine (kG.out _ xt).mono ?_
        rintro e w1 ⟨rfl, hE1⟩
        have hE : Ext w w1 := Ext.trans xt hE1
        have x6 : w1.cell? ⟨I.X, 6, none⟩ = some (.map (some I.R)) := (hX.out.ext hE).h.cell 6
        have hl := hL.out w1 hE
        have y8 : w1.cell? ⟨b, 8, none⟩ = some (.int .i64 x.st) := (((hX.out.ext hE).e i b x hb.out hx.out).1.cell 8).trans rfl
        have y12 : w1.cell? ⟨b, 12, none⟩ = some (.int .i64 x.dl) := (((hX.out.ext hE).e i b x hb.out hx.out).1.cell 12).trans rfl
        have y4 : w1.cell? ⟨b, 4, none⟩ = some (.int .i64 x.p.amt) := (((hX.out.ext hE).e i b x hb.out hx.out).1.cell 4).trans rfl
        have z8 : w1.frozen? ⟨b, 8, none⟩ = false := ((hX.out.ext hE).e i b x hb.out hx.out).1.fz 8
        have z9 : w1.frozen? ⟨b, 9, none⟩ = false := ((hX.out.ext hE).e i b x hb.out hx.out).1.fz 9
        have y9 : w1.cell? ⟨b, 9, none⟩ = some (.int .i64 x.appr) := (((hX.out.ext hE).e i b x hb.out hx.out).1.cell 9).trans rfl
        have lb := ((hX.out.ext hE).e i b x hb.out hx.out).1.lt
        have hq1 := hq w1
        have m0 : w1.cell? ⟨w.heap.size, 0, none⟩ = some (.int .i64 ty) := ((bM.out.ext hE1).cell 0).trans rfl
        have m1 : w1.cell? ⟨w.heap.size, 1, none⟩ = some (.slice vp n vc) := ((bM.out.ext hE1).cell 1).trans rfl
        go_wp2_with fail
        refine (kC.out _ hE).mono ?_
        rintro e w2 ⟨rfl, hE2⟩
        replace hE := hE.trans hE2
        replace m0 := hE2.get m0
        replace m1 := hE2.get m1
        replace y8 : w2.cell? ⟨b, 8, none⟩ = some (.int .i64 x.st) := (((hX.out.ext hE).e i b x hb.out hx.out).1.cell 8).trans rfl
        replace y12 : w2.cell? ⟨b, 12, none⟩ = some (.int .i64 x.dl) := (((hX.out.ext hE).e i b x hb.out hx.out).1.cell 12).trans rfl
        replace y4 : w2.cell? ⟨b, 4, none⟩ = some (.int .i64 x.p.amt) := (((hX.out.ext hE).e i b x hb.out hx.out).1.cell 4).trans rfl
        replace z8 : w2.frozen? ⟨b, 8, none⟩ = false := ((hX.out.ext hE).e i b x hb.out hx.out).1.fz 8
        replace z9 : w2.frozen? ⟨b, 9, none⟩ = false := ((hX.out.ext hE).e i b x hb.out hx.out).1.fz 9
        replace y9 : w2.cell? ⟨b, 9, none⟩ = some (.int .i64 x.appr) := (((hX.out.ext hE).e i b x hb.out hx.out).1.cell 9).trans rfl
        replace lb := ((hX.out.ext hE).e i b x hb.out hx.out).1.lt
        go_wp2_with fail
        refine (kN.out _ hE).mono ?_
        rintro e w3 ⟨rfl, hE3⟩
        replace hE := hE.trans hE3
        clear m0 m1
        replace y8 : w3.cell? ⟨b, 8, none⟩ = some (.int .i64 x.st) := (((hX.out.ext hE).e i b x hb.out hx.out).1.cell 8).trans rfl
        replace y12 : w3.cell? ⟨b, 12, none⟩ = some (.int .i64 x.dl) := (((hX.out.ext hE).e i b x hb.out hx.out).1.cell 12).trans rfl
        replace y4 : w3.cell? ⟨b, 4, none⟩ = some (.int .i64 x.p.amt) := (((hX.out.ext hE).e i b x hb.out hx.out).1.cell 4).trans rfl
        replace z8 : w3.frozen? ⟨b, 8, none⟩ = false := ((hX.out.ext hE).e i b x hb.out hx.out).1.fz 8
        replace z9 : w3.frozen? ⟨b, 9, none⟩ = false := ((hX.out.ext hE).e i b x hb.out hx.out).1.fz 9
        replace y9 : w3.cell? ⟨b, 9, none⟩ = some (.int .i64 x.appr) := (((hX.out.ext hE).e i b x hb.out hx.out).1.cell 9).trans rfl
        replace lb := ((hX.out.ext hE).e i b x hb.out hx.out).1.lt
        have bb := ((hX.out.ext hE).e i b x hb.out hx.out).1
        go_wp2_with fail
        try go_ret
        exact hend.out _ hE
     · have q6 : decide (AM < 1) = false := decide_eq_false (by omega)
       have q7 : decide (x.p.amt < AM) = true := decide_eq_true hc2
       have hend := Lib.hid (hbad.out (Or.inr hc2))
       clear hbad hgood
       rcases q3 with q3 | ⟨q3, q4⟩
       all_goals
        go_enter Tryz.func36, Tryz.ntmps36
        go_wp2_with fail
        refine (kG.out _ xt).mono ?_
        rintro e w1 ⟨rfl, hE1⟩
        have hE : Ext w w1 := Ext.trans xt hE1
        have x6 : w1.cell? ⟨I.X, 6, none⟩ = some (.map (some I.R)) := (hX.out.ext hE).h.cell 6
        have hl := hL.out w1 hE
        have y8 : w1.cell? ⟨b, 8, none⟩ = some (.int .i64 x.st) := (((hX.out.ext hE).e i b x hb.out hx.out).1.cell 8).trans rfl
        have y12 : w1.cell? ⟨b, 12, none⟩ = some (.int .i64 x.dl) := (((hX.out.ext hE).e i b x hb.out hx.out).1.cell 12).trans rfl
        have y4 : w1.cell? ⟨b, 4, none⟩ = some (.int .i64 x.p.amt) := (((hX.out.ext hE).e i b x hb.out hx.out).1.cell 4).trans rfl
        have z8 : w1.frozen? ⟨b, 8, none⟩ = false := ((hX.out.ext hE).e i b x hb.out hx.out).1.fz 8
        have z9 : w1.frozen? ⟨b, 9, none⟩ = false := ((hX.out.ext hE).e i b x hb.out hx.out).1.fz 9
        have y9 : w1.cell? ⟨b, 9, none⟩ = some (.int .i64 x.appr) := (((hX.out.ext hE).e i b x hb.out hx.out).1.cell 9).trans rfl
        have lb := ((hX.out.ext hE).e i b x hb.out hx.out).1.lt
        have hq1 := hq w1
        have m0 : w1.cell? ⟨w.heap.size, 0, none⟩ = some (.int .i64 ty) := ((bM.out.ext hE1).cell 0).trans rfl
        have m1 : w1.cell? ⟨w.heap.size, 1, none⟩ = some (.slice vp n vc) := ((bM.out.ext hE1).cell 1).trans rfl
        go_wp2_with fail
        refine (kC.out _ hE).mono ?_
        rintro e w2 ⟨rfl, hE2⟩
        replace hE := hE.trans hE2
        replace m0 := hE2.get m0
        replace m1 := hE2.get m1
        replace y8 : w2.cell? ⟨b, 8, none⟩ = some (.int .i64 x.st) := (((hX.out.ext hE).e i b x hb.out hx.out).1.cell 8).trans rfl
        replace y12 : w2.cell? ⟨b, 12, none⟩ = some (.int .i64 x.dl) := (((hX.out.ext hE).e i b x hb.out hx.out).1.cell 12).trans rfl
        replace y4 : w2.cell? ⟨b, 4, none⟩ = some (.int .i64 x.p.amt) := (((hX.out.ext hE).e i b x hb.out hx.out).1.cell 4).trans rfl
        replace z8 : w2.frozen? ⟨b, 8, none⟩ = false := ((hX.out.ext hE).e i b x hb.out hx.out).1.fz 8
        replace z9 : w2.frozen? ⟨b, 9, none⟩ = false := ((hX.out.ext hE).e i b x hb.out hx.out).1.fz 9
        replace y9 : w2.cell? ⟨b, 9, none⟩ = some (.int .i64 x.appr) := (((hX.out.ext hE).e i b x hb.out hx.out).1.cell 9).trans rfl
        replace lb := ((hX.out.ext hE).e i b x hb.out hx.out).1.lt
        go_wp2_with fail
        refine (kN.out _ hE).mono ?_
        rintro e w3 ⟨rfl, hE3⟩
        replace hE := hE.trans hE3
        clear m0 m1
        replace y8 : w3.cell? ⟨b, 8, none⟩ = some (.int .i64 x.st) := (((hX.out.ext hE).e i b x hb.out hx.out).1.cell 8).trans rfl
        replace y12 : w3.cell? ⟨b, 12, none⟩ = some (.int .i64 x.dl) := (((hX.out.ext hE).e i b x hb.out hx.out).1.cell 12).trans rfl
        replace y4 : w3.cell? ⟨b, 4, none⟩ = some (.int .i64 x.p.amt) := (((hX.out.ext hE).e i b x hb.out hx.out).1.cell 4).trans rfl
        replace z8 : w3.frozen? ⟨b, 8, none⟩ = false := ((hX.out.ext hE).e i b x hb.out hx.out).1.fz 8
        replace z9 : w3.frozen? ⟨b, 9, none⟩ = false := ((hX.out.ext hE).e i b x hb.out hx.out).1.fz 9
        replace y9 : w3.cell? ⟨b, 9, none⟩ = some (.int .i64 x.appr) := (((hX.out.ext hE).e i b x hb.out hx.out).1.cell 9).trans rfl
        replace lb := ((hX.out.ext hE).e i b x hb.out hx.out).1.lt
        have bb := ((hX.out.ext hE).e i b x hb.out hx.out).1
        go_wp2_with fail
        try go_ret
        exact hend.out _ hE
     · have q6 : decide (AM < 1) = false := decide_eq_false (by omega)
       have q7 : decide (x.p.amt < AM) = false := decide_eq_false (by omega)
       have hend := Lib.hid (hgood.out (by omega))
       clear hbad hgood
       rcases q3 with q3 | ⟨q3, q4⟩
       all_goals
        go_enter Tryz.func36, Tryz.ntmps36
        go_wp2_with fail
        refine (kG.out _ xt).mono ?_
        rintro e w1 ⟨rfl, hE1⟩
        have hE : Ext w w1 := Ext.trans xt hE1
        have x6 : w1.cell? ⟨I.X, 6, none⟩ = some (.map (some I.R)) := (hX.out.ext hE).h.cell 6
        have hl := hL.out w1 hE
        have y8 : w1.cell? ⟨b, 8, none⟩ = some (.int .i64 x.st) := (((hX.out.ext hE).e i b x hb.out hx.out).1.cell 8).trans rfl
        have y12 : w1.cell? ⟨b, 12, none⟩ = some (.int .i64 x.dl) := (((hX.out.ext hE).e i b x hb.out hx.out).1.cell 12).trans rfl
        have y4 : w1.cell? ⟨b, 4, none⟩ = some (.int .i64 x.p.amt) := (((hX.out.ext hE).e i b x hb.out hx.out).1.cell 4).trans rfl
        have z8 : w1.frozen? ⟨b, 8, none⟩ = false := ((hX.out.ext hE).e i b x hb.out hx.out).1.fz 8
        have z9 : w1.frozen? ⟨b, 9, none⟩ = false := ((hX.out.ext hE).e i b x hb.out hx.out).1.fz 9
        have y9 : w1.cell? ⟨b, 9, none⟩ = some (.int .i64 x.appr) := (((hX.out.ext hE).e i b x hb.out hx.out).1.cell 9).trans rfl
        have lb := ((hX.out.ext hE).e i b x hb.out hx.out).1.lt
        have hq1 := hq w1
        have m0 : w1.cell? ⟨w.heap.size, 0, none⟩ = some (.int .i64 ty) := ((bM.out.ext hE1).cell 0).trans rfl
        have m1 : w1.cell? ⟨w.heap.size, 1, none⟩ = some (.slice vp n vc) := ((bM.out.ext hE1).cell 1).trans rfl
        go_wp2_with fail
        refine (kC.out _ hE).mono ?_
        rintro e w2 ⟨rfl, hE2⟩
        replace hE := hE.trans hE2
        replace m0 := hE2.get m0
        replace m1 := hE2.get m1
        replace y8 : w2.cell? ⟨b, 8, none⟩ = some (.int .i64 x.st) := (((hX.out.ext hE).e i b x hb.out hx.out).1.cell 8).trans rfl
        replace y12 : w2.cell? ⟨b, 12, none⟩ = some (.int .i64 x.dl) := (((hX.out.ext hE).e i b x hb.out hx.out).1.cell 12).trans rfl
        replace y4 : w2.cell? ⟨b, 4, none⟩ = some (.int .i64 x.p.amt) := (((hX.out.ext hE).e i b x hb.out hx.out).1.cell 4).trans rfl
        replace z8 : w2.frozen? ⟨b, 8, none⟩ = false := ((hX.out.ext hE).e i b x hb.out hx.out).1.fz 8
        replace z9 : w2.frozen? ⟨b, 9, none⟩ = false := ((hX.out.ext hE).e i b x hb.out hx.out).1.fz 9
        replace y9 : w2.cell? ⟨b, 9, none⟩ = some (.int .i64 x.appr) := (((hX.out.ext hE).e i b x hb.out hx.out).1.cell 9).trans rfl
        replace lb := ((hX.out.ext hE).e i b x hb.out hx.out).1.lt
        go_wp2_with fail
        refine (kN.out _ hE).mono ?_
        rintro e w3 ⟨rfl, hE3⟩
        replace hE := hE.trans hE3
        clear m0 m1
        replace y8 : w3.cell? ⟨b, 8, none⟩ = some (.int .i64 x.st) := (((hX.out.ext hE).e i b x hb.out hx.out).1.cell 8).trans rfl
        replace y12 : w3.cell? ⟨b, 12, none⟩ = some (.int .i64 x.dl) := (((hX.out.ext hE).e i b x hb.out hx.out).1.cell 12).trans rfl
        replace y4 : w3.cell? ⟨b, 4, none⟩ = some (.int .i64 x.p.amt) := (((hX.out.ext hE).e i b x hb.out hx.out).1.cell 4).trans rfl
        replace z8 : w3.frozen? ⟨b, 8, none⟩ = false := ((hX.out.ext hE).e i b x hb.out hx.out).1.fz 8
        replace z9 : w3.frozen? ⟨b, 9, none⟩ = false := ((hX.out.ext hE).e i b x hb.out hx.out).1.fz 9
        replace y9 : w3.cell? ⟨b, 9, none⟩ = some (.int .i64 x.appr) := (((hX.out.ext hE).e i b x hb.out hx.out).1.cell 9).trans rfl
        replace lb := ((hX.out.ext hE).e i b x hb.out hx.out).1.lt
        have bb := ((hX.out.ext hE).e i b x hb.out hx.out).1
        go_wp2_with fail
        try go_ret
        exact hend.out w3 _ hE ((bb.set 8 (.int .i64 2)).set 9 (.int .i64 AM)) (Chg.setCell (F := fun k => k = b) (Chg.setCell (F := fun k => k = b) (Chg.refl _ _) (p := ⟨b, 8, none⟩) (Or.inl rfl) _) (p := ⟨b, 9, none⟩) (Or.inl rfl) _)
   · have q5 : (ne4 == 0) = false := by simp [h0]
     rcases hcs with hc | ⟨hc, hc2⟩ | ⟨hc, hc2⟩
     · omega
     · omega
     · have hend := Lib.hid (hgood.out (by omega))
       have q6 : decide (x.p.amt < 1) = false := decide_eq_false (by omega)
       have q7 : decide (x.p.amt < x.p.amt) = false := decide_eq_false (by omega)
       rw [hA] at hend
       clear hA
       clear hbad hgood
       rcases q3 with q3 | ⟨q3, q4⟩
       all_goals
        go_enter Tryz.func36, Tryz.ntmps36
        go_wp2_with fail
        refine (kG.out _ xt).mono ?_
        rintro e w1 ⟨rfl, hE1⟩
        have hE : Ext w w1 := Ext.trans xt hE1
        have x6 : w1.cell? ⟨I.X, 6, none⟩ = some (.map (some I.R)) := (hX.out.ext hE).h.cell 6
        have hl := hL.out w1 hE
        have y8 : w1.cell? ⟨b, 8, none⟩ = some (.int .i64 x.st) := (((hX.out.ext hE).e i b x hb.out hx.out).1.cell 8).trans rfl
        have y12 : w1.cell? ⟨b, 12, none⟩ = some (.int .i64 x.dl) := (((hX.out.ext hE).e i b x hb.out hx.out).1.cell 12).trans rfl
        have y4 : w1.cell? ⟨b, 4, none⟩ = some (.int .i64 x.p.amt) := (((hX.out.ext hE).e i b x hb.out hx.out).1.cell 4).trans rfl
        have z8 : w1.frozen? ⟨b, 8, none⟩ = false := ((hX.out.ext hE).e i b x hb.out hx.out).1.fz 8
        have z9 : w1.frozen? ⟨b, 9, none⟩ = false := ((hX.out.ext hE).e i b x hb.out hx.out).1.fz 9
        have y9 : w1.cell? ⟨b, 9, none⟩ = some (.int .i64 x.appr) := (((hX.out.ext hE).e i b x hb.out hx.out).1.cell 9).trans rfl
        have lb := ((hX.out.ext hE).e i b x hb.out hx.out).1.lt
        have hq1 := hq w1
        have m0 : w1.cell? ⟨w.heap.size, 0, none⟩ = some (.int .i64 ty) := ((bM.out.ext hE1).cell 0).trans rfl
        have m1 : w1.cell? ⟨w.heap.size, 1, none⟩ = some (.slice vp n vc) := ((bM.out.ext hE1).cell 1).trans rfl
        go_wp2_with fail
        refine (kC.out _ hE).mono ?_
        rintro e w2 ⟨rfl, hE2⟩
        replace hE := hE.trans hE2
        replace m0 := hE2.get m0
        replace m1 := hE2.get m1
        replace y8 : w2.cell? ⟨b, 8, none⟩ = some (.int .i64 x.st) := (((hX.out.ext hE).e i b x hb.out hx.out).1.cell 8).trans rfl
        replace y12 : w2.cell? ⟨b, 12, none⟩ = some (.int .i64 x.dl) := (((hX.out.ext hE).e i b x hb.out hx.out).1.cell 12).trans rfl
        replace y4 : w2.cell? ⟨b, 4, none⟩ = some (.int .i64 x.p.amt) := (((hX.out.ext hE).e i b x hb.out hx.out).1.cell 4).trans rfl
        replace z8 : w2.frozen? ⟨b, 8, none⟩ = false := ((hX.out.ext hE).e i b x hb.out hx.out).1.fz 8
        replace z9 : w2.frozen? ⟨b, 9, none⟩ = false := ((hX.out.ext hE).e i b x hb.out hx.out).1.fz 9
        replace y9 : w2.cell? ⟨b, 9, none⟩ = some (.int .i64 x.appr) := (((hX.out.ext hE).e i b x hb.out hx.out).1.cell 9).trans rfl
        replace lb := ((hX.out.ext hE).e i b x hb.out hx.out).1.lt
        go_wp2_with fail
        refine (kN.out _ hE).mono ?_
        rintro e w3 ⟨rfl, hE3⟩
        replace hE := hE.trans hE3
        clear m0 m1
        replace y8 : w3.cell? ⟨b, 8, none⟩ = some (.int .i64 x.st) := (((hX.out.ext hE).e i b x hb.out hx.out).1.cell 8).trans rfl
        replace y12 : w3.cell? ⟨b, 12, none⟩ = some (.int .i64 x.dl) := (((hX.out.ext hE).e i b x hb.out hx.out).1.cell 12).trans rfl
        replace y4 : w3.cell? ⟨b, 4, none⟩ = some (.int .i64 x.p.amt) := (((hX.out.ext hE).e i b x hb.out hx.out).1.cell 4).trans rfl
        replace z8 : w3.frozen? ⟨b, 8, none⟩ = false := ((hX.out.ext hE).e i b x hb.out hx.out).1.fz 8
        replace z9 : w3.frozen? ⟨b, 9, none⟩ = false := ((hX.out.ext hE).e i b x hb.out hx.out).1.fz 9
        replace y9 : w3.cell? ⟨b, 9, none⟩ = some (.int .i64 x.appr) := (((hX.out.ext hE).e i b x hb.out hx.out).1.cell 9).trans rfl
        replace lb := ((hX.out.ext hE).e i b x hb.out hx.out).1.lt
        have bb := ((hX.out.ext hE).e i b x hb.out hx.out).1
        go_wp2_with fail
        try go_ret
        exact hend.out w3 _ hE ((bb.set 8 (.int .i64 2)).set 9 (.int .i64 x.p.amt)) (Chg.setCell (F := fun k => k = b) (Chg.setCell (F := fun k => k = b) (Chg.refl _ _) (p := ⟨b, 8, none⟩) (Or.inl rfl) _) (p := ⟨b, 9, none⟩) (Or.inl rfl) _)
 · have q1 : (x.st != 1) = true := by simp [c1]
   have hend := Lib.hid (hsame.out 0 (by unfold ansSale; rw [if_pos (Or.inl c1)]))
   clear hsame hnew c1
   generalize getS 37 es = r37 at *
   generalize getB 37 es = b37 at *
   generalize es.length = n at *
   go_enter Tryz.func36, Tryz.ntmps36
   go_wp2_with fail
   refine (kG.out _ xt).mono ?_
   rintro e w1 ⟨rfl, hE1⟩
   have hE : Ext w w1 := Ext.trans xt hE1
   have x6 : w1.cell? ⟨I.X, 6, none⟩ = some (.map (some I.R)) := (hX.out.ext hE).h.cell 6
   have hl := hL.out w1 hE
   have y8 : w1.cell? ⟨b, 8, none⟩ = some (.int .i64 x.st) := (((hX.out.ext hE).e i b x hb.out hx.out).1.cell 8).trans rfl
   have y12 : w1.cell? ⟨b, 12, none⟩ = some (.int .i64 x.dl) := (((hX.out.ext hE).e i b x hb.out hx.out).1.cell 12).trans rfl
   have y4 : w1.cell? ⟨b, 4, none⟩ = some (.int .i64 x.p.amt) := (((hX.out.ext hE).e i b x hb.out hx.out).1.cell 4).trans rfl
   have z8 : w1.frozen? ⟨b, 8, none⟩ = false := ((hX.out.ext hE).e i b x hb.out hx.out).1.fz 8
   have z9 : w1.frozen? ⟨b, 9, none⟩ = false := ((hX.out.ext hE).e i b x hb.out hx.out).1.fz 9
   have y9 : w1.cell? ⟨b, 9, none⟩ = some (.int .i64 x.appr) := (((hX.out.ext hE).e i b x hb.out hx.out).1.cell 9).trans rfl
   have lb := ((hX.out.ext hE).e i b x hb.out hx.out).1.lt
   have hq1 := hq w1
   go_wp2_with fail
   try go_ret
   exact hend.out _ hE
end Go.Proofs.YtkggloeaojkhaaaGreatDoor
