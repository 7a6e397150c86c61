/- The reference's Same of features, and the walk of the law AssessFees (printed by gen/h29.py). -/
import Derived.Test.YtmnhmkjmcckneaaGreatDoorJi
import Derived.Test.YtmnhmkjmcckneaaGreatDoorHw
namespace Go.Proofs.YtmnhmkjmcckneaaGreatDoor
open Go.RowKit
theorem feats_at {w : World} {B : Nat} {fs : List Feat} (h : Feats w (.slice (some ⟨B, 0, none⟩) 9 9) fs) (hn : fs.length = 9) (k : Nat) (hk : k < 9) : w.cell? ⟨B, k * 4, none⟩ = some (.string (fs.getD k fD).name) ∧ w.cell? ⟨B, k * 4 + 1, none⟩ = some (.int .i64 (fs.getD k fD).kind) ∧ w.cell? ⟨B, k * 4 + 2, none⟩ = some (.int .i64 (fs.getD k fD).n) ∧ w.cell? ⟨B, k * 4 + 3, none⟩ = some (.string (fs.getD k fD).text) := by
 rcases h.2 with ⟨p, q, hv, hl⟩ | ⟨b', off, q, hv, hc⟩
 · rw [hl] at hn; cases hn
 · have := hc k (by omega)
   injection hv with h1 h2 h3
   injection h1 with h1
   injection h1 with h1 h4
   subst h1 h4
   simpa only [Nat.zero_add] using this
set_option maxRecDepth 8000 in
set_option maxHeartbeats 4000000 in
theorem rsame9 (B1 B2 : Nat) (fs : List Feat) (w : World) (hn : fs.length = 9) (h1 : Feats w (.slice (some ⟨B1, 0, none⟩) 9 9) fs) (h2 : Feats w (.slice (some ⟨B2, 0, none⟩) 9 9) fs) : Calls Tryz.prog 13 #[.slice (some ⟨B1, 0, none⟩) 9 9, .slice (some ⟨B2, 0, none⟩) 9 9] w (OneW (.bool true) w) := by
 have hk1 := Lib.hid (fun w1 (h : Ext w w1) k hk => feats_at (h1.ext h) hn k hk)
 have hk2 := Lib.hid (fun w1 (h : Ext w w1) k hk => feats_at (h2.ext h) hn k hk)
 clear h1 h2 hn
 go_enter Tryz.func13, Tryz.ntmps13
 go_wp2_with fail
 go_loopw [5] (fun i wr => ∃ k : Nat, k ≤ 9 ∧ i = .int .i64 k ∧ Ext w wr) (fun i _ => 9 - (intOf i).toNat)
 case atStart => exact ⟨0, by omega, rfl, Ext.refl _⟩
 case round =>
  obtain ⟨k, hk, rfl, hE⟩ := hrel
  by_cases hlt : k < 9
  · obtain ⟨x0, x1, x2, x3⟩ := hk1.out wr hE k hlt
    obtain ⟨y0, y1, y2, y3⟩ := hk2.out wr hE k hlt
    have i1 : (k : Int) < (9 : Int) := by omega
    generalize fs.getD k fD = f at *
    go_wp2_with fail
    go_quiet (fail)
    go_wp2
    go_roundw
    case rel => exact ⟨k + 1, by omega, by go_num, xt⟩
    case measure => simp [intOf]; omega
  · obtain rfl : k = 9 := by omega
    go_wp2
    go_ret
    exact ⟨rfl, hE⟩
theorem strOk_sh {x : Ex} (h : Sh2 x.parts) : StrOk [x] := fun p hp => by
 have hm : p ∈ x.parts := by simpa [Ex.parts.partsL] using hp
 have := h p hm
 omega
theorem refIn_of {l : List RuleD} (h : FewOk l) : RefIn l := ⟨by have := h.few; omega, fun i hi => by
 obtain ⟨h1, h2, h3⟩ := h.parts i hi
 exact ⟨strOk_sh h2, by omega, by omega⟩⟩
theorem refIns_of {t : TabsD} (h : SmaOk t) : ∀ j, j < 3 → RefIn (t.at j) := fun j hj => by
 match j, hj with
 | 0, _ => exact refIn_of h.i
 | 1, _ => exact refIn_of h.s
 | 2, _ => exact refIn_of h.m
theorem recS_of {r : RecD} (h : ShOk r) : RecS r := ⟨by have := h.id; omega, by have := h.auth; omega, by have := h.acq; omega, by have := h.iss; omega, by have := h.mer; omega, by have := h.cur; omega⟩
theorem tab_cells {w : World} {B : Nat} {T : TypeId} {p1 p2 p3 : Option Addr} {c1 c2 c3 : Nat} {li ls lm : List RuleD} (h : Blk w B #[.slice p1 li.length c1, .slice p2 ls.length c2, .slice p3 lm.length c3] T) : w.cell? ⟨B, 0, none⟩ = some (.slice p1 li.length c1) ∧ w.cell? ⟨B, 1, none⟩ = some (.slice p2 ls.length c2) ∧ w.cell? ⟨B, 2, none⟩ = some (.slice p3 lm.length c3) := ⟨(h.cell 0).trans rfl, (h.cell 1).trans rfl, (h.cell 2).trans rfl⟩
theorem rec_cells {w : World} {B : Nat} {T : TypeId} {kind : Int} {id auth acq iss mer card : ByteArray} {amt : Int} {cur : ByteArray} {date cat : Int} {fin : Bool} (h : Blk w B #[.int .i64 kind, .string id, .string auth, .string acq, .string iss, .string mer, .string card, .int .i64 amt, .string cur, .int .i64 date, .int .i64 cat, .bool fin] T) : w.cell? ⟨B, 0, none⟩ = some (.int .i64 kind) ∧ w.cell? ⟨B, 1, none⟩ = some (.string id) ∧ w.cell? ⟨B, 2, none⟩ = some (.string auth) ∧ w.cell? ⟨B, 3, none⟩ = some (.string acq) ∧ w.cell? ⟨B, 4, none⟩ = some (.string iss) ∧ w.cell? ⟨B, 5, none⟩ = some (.string mer) ∧ w.cell? ⟨B, 6, none⟩ = some (.string card) ∧ w.cell? ⟨B, 7, none⟩ = some (.int .i64 amt) ∧ w.cell? ⟨B, 8, none⟩ = some (.string cur) ∧ w.cell? ⟨B, 9, none⟩ = some (.int .i64 date) ∧ w.cell? ⟨B, 10, none⟩ = some (.int .i64 cat) ∧ w.cell? ⟨B, 11, none⟩ = some (.bool fin) := ⟨(h.cell 0).trans rfl, (h.cell 1).trans rfl, (h.cell 2).trans rfl, (h.cell 3).trans rfl, (h.cell 4).trans rfl, (h.cell 5).trans rfl, (h.cell 6).trans rfl, (h.cell 7).trans rfl, (h.cell 8).trans rfl, (h.cell 9).trans rfl, (h.cell 10).trans rfl, (h.cell 11).trans rfl⟩
theorem res_cells {w : World} {B : Nat} {T : TypeId} {y : ResD} (h : Blk w B #[.string y.i.rule, .int .i64 y.i.amt, .string y.i.why, .string y.s.rule, .int .i64 y.s.amt, .string y.s.why, .string y.m.rule, .int .i64 y.m.amt, .string y.m.why, .int .i64 y.card, .int .i64 y.iss, .int .i64 y.acq, .int .i64 y.shop, .int .i64 y.net] T) : w.cell? ⟨B, 0, none⟩ = some (.string y.i.rule) ∧ w.cell? ⟨B, 1, none⟩ = some (.int .i64 y.i.amt) ∧ w.cell? ⟨B, 2, none⟩ = some (.string y.i.why) ∧ w.cell? ⟨B, 3, none⟩ = some (.string y.s.rule) ∧ w.cell? ⟨B, 4, none⟩ = some (.int .i64 y.s.amt) ∧ w.cell? ⟨B, 5, none⟩ = some (.string y.s.why) ∧ w.cell? ⟨B, 6, none⟩ = some (.string y.m.rule) ∧ w.cell? ⟨B, 7, none⟩ = some (.int .i64 y.m.amt) ∧ w.cell? ⟨B, 8, none⟩ = some (.string y.m.why) ∧ w.cell? ⟨B, 9, none⟩ = some (.int .i64 y.card) ∧ w.cell? ⟨B, 10, none⟩ = some (.int .i64 y.iss) ∧ w.cell? ⟨B, 11, none⟩ = some (.int .i64 y.acq) ∧ w.cell? ⟨B, 12, none⟩ = some (.int .i64 y.shop) ∧ w.cell? ⟨B, 13, none⟩ = some (.int .i64 y.net) := ⟨(h.cell 0).trans rfl, (h.cell 1).trans rfl, (h.cell 2).trans rfl, (h.cell 3).trans rfl, (h.cell 4).trans rfl, (h.cell 5).trans rfl, (h.cell 6).trans rfl, (h.cell 7).trans rfl, (h.cell 8).trans rfl, (h.cell 9).trans rfl, (h.cell 10).trans rfl, (h.cell 11).trans rfl, (h.cell 12).trans rfl, (h.cell 13).trans rfl⟩
theorem blk_drewJ {w : World} {B : Nat} {cs : Array Value} {T : TypeId} (h : Blk w B cs T) : Blk w.drew B cs T := h
set_option maxRecDepth 8000 in
set_option maxHeartbeats 8000000 in
theorem law_fees38 (tv : Value) (t : TabsD) (r : RecD) (w : World) (g : Gw w) (hT : TabsM w tv t) (hI : RecI r) : Calls Tryz.prog 3 #[tv, recAgg r] w (OneV (.bool true) w) := by
 have kS := Lib.hid (fun w1 (h : Ext w w1) => small38_any tv t w1 (hT.ext h))
 have kH := Lib.hid (fun w1 => short_any r w1)
 have kA := Lib.hid (fun w1 (h : Ext w w1) (a : SmaOk t) (b : ShOk r) => assess_any tv t r w1 (g.ext h) (hT.ext h) (few_tab a.i b hI) (few_tab a.s b hI) (few_tab a.m b hI))
 have kB := Lib.hid (fun w1 (h : Ext w w1) (a : SmaOk t) (b : ShOk r) => rassess_any tv t r w1 (g.ext h) (hT.ext h) (refIns_of a) (few_tab a.i b hI) (few_tab a.s b hI) (few_tab a.m b hI) (recS_of b))
 have kC := Lib.hid (fun w1 (h : Ext w w1) (a : SmaOk t) => check38_at tv t w1 (hT.ext h) a (c := tabsE t) rfl)
 have kD := Lib.hid (fun w1 (h : Ext w w1) (a : SmaOk t) => r38check_any tv t w1 (hT.ext h) (refIns_of a))
 have kF := Lib.hid (fun w1 => feaR_any r w1)
 have kG := Lib.hid (fun w1 => rfeaR_any r w1)
 have kM := Lib.hid (fun B1 B2 w1 h1 h2 => rsame9 B1 B2 (recF r) w1 (recF_len r) h1 h2)
 have kW := Lib.hid (fun w1 (h : Ext w w1) => awake38_any w1 (g.ext h))
 obtain ⟨v1, v2, v3, rfl, h1, h2, h3⟩ := hT
 obtain ⟨p1, c1, rfl⟩ := h1.form
 obtain ⟨p2, c2, rfl⟩ := h2.form
 obtain ⟨p3, c3, rfl⟩ := h3.form
 clear h1 h2 h3 hI g
 unfold SmaP at kS
 unfold ShP at kH
 unfold AssP resAgg at kA kB
 unfold FeaRP at kF kG
 generalize recF r = fs at *
 generalize assessV t r = AV at *
 generalize tabsE t = TE at *
 obtain ⟨y, ce⟩ := AV
 have hsma := Lib.hid (show SmaOk t → SmaOk t from id)
 obtain ⟨kind, id, auth, acq, iss, mer, card, amt, cur, date, cat, fin⟩ := r
 obtain ⟨li, ls, lm⟩ := t
 simp only [recAgg] at kH kA kB kF kG ⊢
 clear hsma
 go_enter Tryz.func3, Tryz.ntmps3
 go_wp2_with fail
 have bT := Lib.hid ((Blk.new w #[.slice p1 li.length c1, .slice p2 ls.length c2, .slice p3 lm.length c3] 24).alloc (.cells #[.int .i64 kind, .string id, .string auth, .string acq, .string iss, .string mer, .string card, .int .i64 amt, .string cur, .int .i64 date, .int .i64 cat, .bool fin] 28))
 have bR : Hid (Blk ((w.alloc (.cells #[.slice p1 li.length c1, .slice p2 ls.length c2, .slice p3 lm.length c3] 24)).alloc (.cells #[.int .i64 kind, .string id, .string auth, .string acq, .string iss, .string mer, .string card, .int .i64 amt, .string cur, .int .i64 date, .int .i64 cat, .bool fin] 28)) (w.heap.size + 1) #[.int .i64 kind, .string id, .string auth, .string acq, .string iss, .string mer, .string card, .int .i64 amt, .string cur, .int .i64 date, .int .i64 cat, .bool fin] 28) := Lib.hid (Blk.new' _ _ _ _ (by simp))
 have hE : Ext w ((w.alloc (.cells #[.slice p1 li.length c1, .slice p2 ls.length c2, .slice p3 lm.length c3] 24)).alloc (.cells #[.int .i64 kind, .string id, .string auth, .string acq, .string iss, .string mer, .string card, .int .i64 amt, .string cur, .int .i64 date, .int .i64 cat, .bool fin] 28)) := xt
 refine (kS.out _ hE).mono ?_
 rintro e w1 ⟨b1, rfl, hb1, hE1⟩
 replace bT := Lib.hid (bT.out.ext hE1)
 replace bR := Lib.hid (bR.out.ext hE1)
 replace hE := hE.trans hE1
 clear hE1 kS
 cases b1 with
 | false =>
  clear hb1
  go_wp2_with fail
  have hE8 := hE
  refine (kW.out _ hE8).mono ?_
  rintro e w9 ⟨rfl, hE9⟩
  replace hE := hE8.trans hE9
  clear hE9
  go_wp2
  go_ret
  exact ⟨rfl, hE⟩
 | true =>
  have hsm := Lib.hid (hb1 rfl)
  clear hb1
  have x0 : w1.cell? ⟨w.heap.size + 1, 0, none⟩ = some (.int .i64 kind) := (bR.out.cell 0).trans rfl
  have x1 : w1.cell? ⟨w.heap.size + 1, 1, none⟩ = some (.string id) := (bR.out.cell 1).trans rfl
  have x2 : w1.cell? ⟨w.heap.size + 1, 2, none⟩ = some (.string auth) := (bR.out.cell 2).trans rfl
  have x3 : w1.cell? ⟨w.heap.size + 1, 3, none⟩ = some (.string acq) := (bR.out.cell 3).trans rfl
  have x4 : w1.cell? ⟨w.heap.size + 1, 4, none⟩ = some (.string iss) := (bR.out.cell 4).trans rfl
  have x5 : w1.cell? ⟨w.heap.size + 1, 5, none⟩ = some (.string mer) := (bR.out.cell 5).trans rfl
  have x6 : w1.cell? ⟨w.heap.size + 1, 6, none⟩ = some (.string card) := (bR.out.cell 6).trans rfl
  have x7 : w1.cell? ⟨w.heap.size + 1, 7, none⟩ = some (.int .i64 amt) := (bR.out.cell 7).trans rfl
  have x8 : w1.cell? ⟨w.heap.size + 1, 8, none⟩ = some (.string cur) := (bR.out.cell 8).trans rfl
  have x9 : w1.cell? ⟨w.heap.size + 1, 9, none⟩ = some (.int .i64 date) := (bR.out.cell 9).trans rfl
  have x10 : w1.cell? ⟨w.heap.size + 1, 10, none⟩ = some (.int .i64 cat) := (bR.out.cell 10).trans rfl
  have x11 : w1.cell? ⟨w.heap.size + 1, 11, none⟩ = some (.bool fin) := (bR.out.cell 11).trans rfl
  go_wp2_with fail
  refine (kH.out _).mono ?_
  rintro e w2 ⟨b2, rfl, hb2, hE2⟩
  replace bT := Lib.hid (bT.out.ext hE2)
  replace bR := Lib.hid (bR.out.ext hE2)
  replace hE := hE.trans hE2
  clear hE2 kH x0 x1 x2 x3 x4 x5 x6 x7 x8 x9 x10 x11
  cases b2 with
  | false =>
   clear hb2
   go_wp2_with fail
   have hE8 := hE
   refine (kW.out _ hE8).mono ?_
   rintro e w9 ⟨rfl, hE9⟩
   replace hE := hE8.trans hE9
   clear hE9
   go_wp2
   go_ret
   exact ⟨rfl, hE⟩
  | true =>
   have hsh := Lib.hid (hb2 rfl)
   clear hb2
   have z0 : w2.cell? ⟨w.heap.size, 0, none⟩ = some (.slice p1 li.length c1) := (bT.out.cell 0).trans rfl
   have z1 : w2.cell? ⟨w.heap.size, 1, none⟩ = some (.slice p2 ls.length c2) := (bT.out.cell 1).trans rfl
   have z2 : w2.cell? ⟨w.heap.size, 2, none⟩ = some (.slice p3 lm.length c3) := (bT.out.cell 2).trans rfl
   have x0 : w2.cell? ⟨w.heap.size + 1, 0, none⟩ = some (.int .i64 kind) := (bR.out.cell 0).trans rfl
   have x1 : w2.cell? ⟨w.heap.size + 1, 1, none⟩ = some (.string id) := (bR.out.cell 1).trans rfl
   have x2 : w2.cell? ⟨w.heap.size + 1, 2, none⟩ = some (.string auth) := (bR.out.cell 2).trans rfl
   have x3 : w2.cell? ⟨w.heap.size + 1, 3, none⟩ = some (.string acq) := (bR.out.cell 3).trans rfl
   have x4 : w2.cell? ⟨w.heap.size + 1, 4, none⟩ = some (.string iss) := (bR.out.cell 4).trans rfl
   have x5 : w2.cell? ⟨w.heap.size + 1, 5, none⟩ = some (.string mer) := (bR.out.cell 5).trans rfl
   have x6 : w2.cell? ⟨w.heap.size + 1, 6, none⟩ = some (.string card) := (bR.out.cell 6).trans rfl
   have x7 : w2.cell? ⟨w.heap.size + 1, 7, none⟩ = some (.int .i64 amt) := (bR.out.cell 7).trans rfl
   have x8 : w2.cell? ⟨w.heap.size + 1, 8, none⟩ = some (.string cur) := (bR.out.cell 8).trans rfl
   have x9 : w2.cell? ⟨w.heap.size + 1, 9, none⟩ = some (.int .i64 date) := (bR.out.cell 9).trans rfl
   have x10 : w2.cell? ⟨w.heap.size + 1, 10, none⟩ = some (.int .i64 cat) := (bR.out.cell 10).trans rfl
   have x11 : w2.cell? ⟨w.heap.size + 1, 11, none⟩ = some (.bool fin) := (bR.out.cell 11).trans rfl
   go_wp2_with fail
   refine (kA.out _ hE hsm.out hsh.out).mono ?_
   rintro e w3 ⟨rfl, hE3⟩
   have bX := Lib.hid (Blk.new w3 #[.string y.i.rule, .int .i64 y.i.amt, .string y.i.why, .string y.s.rule, .int .i64 y.s.amt, .string y.s.why, .string y.m.rule, .int .i64 y.m.amt, .string y.m.why, .int .i64 y.card, .int .i64 y.iss, .int .i64 y.acq, .int .i64 y.shop, .int .i64 y.net] 35)
   replace bT := Lib.hid ((bT.out.ext hE3).alloc (.cells #[.string y.i.rule, .int .i64 y.i.amt, .string y.i.why, .string y.s.rule, .int .i64 y.s.amt, .string y.s.why, .string y.m.rule, .int .i64 y.m.amt, .string y.m.why, .int .i64 y.card, .int .i64 y.iss, .int .i64 y.acq, .int .i64 y.shop, .int .i64 y.net] 35))
   replace bR := Lib.hid ((bR.out.ext hE3).alloc (.cells #[.string y.i.rule, .int .i64 y.i.amt, .string y.i.why, .string y.s.rule, .int .i64 y.s.amt, .string y.s.why, .string y.m.rule, .int .i64 y.m.amt, .string y.m.why, .int .i64 y.card, .int .i64 y.iss, .int .i64 y.acq, .int .i64 y.shop, .int .i64 y.net] 35))
   replace hE := (hE.trans hE3).alloc (.cells #[.string y.i.rule, .int .i64 y.i.amt, .string y.i.why, .string y.s.rule, .int .i64 y.s.amt, .string y.s.why, .string y.m.rule, .int .i64 y.m.amt, .string y.m.why, .int .i64 y.card, .int .i64 y.iss, .int .i64 y.acq, .int .i64 y.shop, .int .i64 y.net] 35)
   clear hE3 kA x0 x1 x2 x3 x4 x5 x6 x7 x8 x9 x10 x11 z0 z1 z2
   obtain ⟨X, hX⟩ : ∃ X, X = w3.heap.size := ⟨_, rfl⟩
   obtain ⟨w4, hw4⟩ : ∃ w4, w4 = w3.alloc (.cells #[.string y.i.rule, .int .i64 y.i.amt, .string y.i.why, .string y.s.rule, .int .i64 y.s.amt, .string y.s.why, .string y.m.rule, .int .i64 y.m.amt, .string y.m.why, .int .i64 y.card, .int .i64 y.iss, .int .i64 y.acq, .int .i64 y.shop, .int .i64 y.net] 35) := ⟨_, rfl⟩
   rw [← hw4] at bX bT bR hE
   rw [← hX] at bX
   have z0 : w4.cell? ⟨w.heap.size, 0, none⟩ = some (.slice p1 li.length c1) := (bT.out.cell 0).trans rfl
   have z1 : w4.cell? ⟨w.heap.size, 1, none⟩ = some (.slice p2 ls.length c2) := (bT.out.cell 1).trans rfl
   have z2 : w4.cell? ⟨w.heap.size, 2, none⟩ = some (.slice p3 lm.length c3) := (bT.out.cell 2).trans rfl
   have x0 : w4.cell? ⟨w.heap.size + 1, 0, none⟩ = some (.int .i64 kind) := (bR.out.cell 0).trans rfl
   have x1 : w4.cell? ⟨w.heap.size + 1, 1, none⟩ = some (.string id) := (bR.out.cell 1).trans rfl
   have x2 : w4.cell? ⟨w.heap.size + 1, 2, none⟩ = some (.string auth) := (bR.out.cell 2).trans rfl
   have x3 : w4.cell? ⟨w.heap.size + 1, 3, none⟩ = some (.string acq) := (bR.out.cell 3).trans rfl
   have x4 : w4.cell? ⟨w.heap.size + 1, 4, none⟩ = some (.string iss) := (bR.out.cell 4).trans rfl
   have x5 : w4.cell? ⟨w.heap.size + 1, 5, none⟩ = some (.string mer) := (bR.out.cell 5).trans rfl
   have x6 : w4.cell? ⟨w.heap.size + 1, 6, none⟩ = some (.string card) := (bR.out.cell 6).trans rfl
   have x7 : w4.cell? ⟨w.heap.size + 1, 7, none⟩ = some (.int .i64 amt) := (bR.out.cell 7).trans rfl
   have x8 : w4.cell? ⟨w.heap.size + 1, 8, none⟩ = some (.string cur) := (bR.out.cell 8).trans rfl
   have x9 : w4.cell? ⟨w.heap.size + 1, 9, none⟩ = some (.int .i64 date) := (bR.out.cell 9).trans rfl
   have x10 : w4.cell? ⟨w.heap.size + 1, 10, none⟩ = some (.int .i64 cat) := (bR.out.cell 10).trans rfl
   have x11 : w4.cell? ⟨w.heap.size + 1, 11, none⟩ = some (.bool fin) := (bR.out.cell 11).trans rfl
   rw [hw4] at x0 x1 x2 x3 x4 x5 x6 x7 x8 x9 x10 x11 z0 z1 z2
   go_wp2_with fail
   first | rw [← hw4, ← hX] | simp only [← hw4, ← hX]
   clear hw4 hX x0 x1 x2 x3 x4 x5 x6 x7 x8 x9 x10 x11 z0 z1 z2
   refine (kB.out _ hE hsm.out hsh.out).mono ?_
   rintro e w5 ⟨rfl, hE5⟩
   have bY := Lib.hid (Blk.new w5 #[.string y.i.rule, .int .i64 y.i.amt, .string y.i.why, .string y.s.rule, .int .i64 y.s.amt, .string y.s.why, .string y.m.rule, .int .i64 y.m.amt, .string y.m.why, .int .i64 y.card, .int .i64 y.iss, .int .i64 y.acq, .int .i64 y.shop, .int .i64 y.net] 39)
   replace bT := Lib.hid ((bT.out.ext hE5).alloc (.cells #[.string y.i.rule, .int .i64 y.i.amt, .string y.i.why, .string y.s.rule, .int .i64 y.s.amt, .string y.s.why, .string y.m.rule, .int .i64 y.m.amt, .string y.m.why, .int .i64 y.card, .int .i64 y.iss, .int .i64 y.acq, .int .i64 y.shop, .int .i64 y.net] 39))
   replace bR := Lib.hid ((bR.out.ext hE5).alloc (.cells #[.string y.i.rule, .int .i64 y.i.amt, .string y.i.why, .string y.s.rule, .int .i64 y.s.amt, .string y.s.why, .string y.m.rule, .int .i64 y.m.amt, .string y.m.why, .int .i64 y.card, .int .i64 y.iss, .int .i64 y.acq, .int .i64 y.shop, .int .i64 y.net] 39))
   replace bX := Lib.hid ((bX.out.ext hE5).alloc (.cells #[.string y.i.rule, .int .i64 y.i.amt, .string y.i.why, .string y.s.rule, .int .i64 y.s.amt, .string y.s.why, .string y.m.rule, .int .i64 y.m.amt, .string y.m.why, .int .i64 y.card, .int .i64 y.iss, .int .i64 y.acq, .int .i64 y.shop, .int .i64 y.net] 39))
   replace hE := (hE.trans hE5).alloc (.cells #[.string y.i.rule, .int .i64 y.i.amt, .string y.i.why, .string y.s.rule, .int .i64 y.s.amt, .string y.s.why, .string y.m.rule, .int .i64 y.m.amt, .string y.m.why, .int .i64 y.card, .int .i64 y.iss, .int .i64 y.acq, .int .i64 y.shop, .int .i64 y.net] 39)
   clear hE5 kB
   go_wp2_with fail
   obtain ⟨Y, hY⟩ : ∃ Y, Y = w5.heap.size := ⟨_, rfl⟩
   obtain ⟨w6, hw6⟩ : ∃ w6, w6 = w5.alloc (.cells #[.string y.i.rule, .int .i64 y.i.amt, .string y.i.why, .string y.s.rule, .int .i64 y.s.amt, .string y.s.why, .string y.m.rule, .int .i64 y.m.amt, .string y.m.why, .int .i64 y.card, .int .i64 y.iss, .int .i64 y.acq, .int .i64 y.shop, .int .i64 y.net] 39) := ⟨_, rfl⟩
   rw [← hw6] at bX bT bR bY hE
   rw [← hY] at bY
   first | rw [← hw6, ← hY] | simp only [← hw6, ← hY]
   clear hw6 hY
   go_region_held3 (fun w' => (w'.cell? ⟨w.heap.size, 0, none⟩ = some (.slice p1 li.length c1) ∧ w'.cell? ⟨w.heap.size, 1, none⟩ = some (.slice p2 ls.length c2) ∧ w'.cell? ⟨w.heap.size, 2, none⟩ = some (.slice p3 lm.length c3)) ∧ (w'.cell? ⟨(w.heap.size + 1), 0, none⟩ = some (.int .i64 kind) ∧ w'.cell? ⟨(w.heap.size + 1), 1, none⟩ = some (.string id) ∧ w'.cell? ⟨(w.heap.size + 1), 2, none⟩ = some (.string auth) ∧ w'.cell? ⟨(w.heap.size + 1), 3, none⟩ = some (.string acq) ∧ w'.cell? ⟨(w.heap.size + 1), 4, none⟩ = some (.string iss) ∧ w'.cell? ⟨(w.heap.size + 1), 5, none⟩ = some (.string mer) ∧ w'.cell? ⟨(w.heap.size + 1), 6, none⟩ = some (.string card) ∧ w'.cell? ⟨(w.heap.size + 1), 7, none⟩ = some (.int .i64 amt) ∧ w'.cell? ⟨(w.heap.size + 1), 8, none⟩ = some (.string cur) ∧ w'.cell? ⟨(w.heap.size + 1), 9, none⟩ = some (.int .i64 date) ∧ w'.cell? ⟨(w.heap.size + 1), 10, none⟩ = some (.int .i64 cat) ∧ w'.cell? ⟨(w.heap.size + 1), 11, none⟩ = some (.bool fin)) ∧ (w'.cell? ⟨X, 0, none⟩ = some (.string y.i.rule) ∧ w'.cell? ⟨X, 1, none⟩ = some (.int .i64 y.i.amt) ∧ w'.cell? ⟨X, 2, none⟩ = some (.string y.i.why) ∧ w'.cell? ⟨X, 3, none⟩ = some (.string y.s.rule) ∧ w'.cell? ⟨X, 4, none⟩ = some (.int .i64 y.s.amt) ∧ w'.cell? ⟨X, 5, none⟩ = some (.string y.s.why) ∧ w'.cell? ⟨X, 6, none⟩ = some (.string y.m.rule) ∧ w'.cell? ⟨X, 7, none⟩ = some (.int .i64 y.m.amt) ∧ w'.cell? ⟨X, 8, none⟩ = some (.string y.m.why) ∧ w'.cell? ⟨X, 9, none⟩ = some (.int .i64 y.card) ∧ w'.cell? ⟨X, 10, none⟩ = some (.int .i64 y.iss) ∧ w'.cell? ⟨X, 11, none⟩ = some (.int .i64 y.acq) ∧ w'.cell? ⟨X, 12, none⟩ = some (.int .i64 y.shop) ∧ w'.cell? ⟨X, 13, none⟩ = some (.int .i64 y.net)) ∧ (w'.cell? ⟨Y, 0, none⟩ = some (.string y.i.rule) ∧ w'.cell? ⟨Y, 1, none⟩ = some (.int .i64 y.i.amt) ∧ w'.cell? ⟨Y, 2, none⟩ = some (.string y.i.why) ∧ w'.cell? ⟨Y, 3, none⟩ = some (.string y.s.rule) ∧ w'.cell? ⟨Y, 4, none⟩ = some (.int .i64 y.s.amt) ∧ w'.cell? ⟨Y, 5, none⟩ = some (.string y.s.why) ∧ w'.cell? ⟨Y, 6, none⟩ = some (.string y.m.rule) ∧ w'.cell? ⟨Y, 7, none⟩ = some (.int .i64 y.m.amt) ∧ w'.cell? ⟨Y, 8, none⟩ = some (.string y.m.why) ∧ w'.cell? ⟨Y, 9, none⟩ = some (.int .i64 y.card) ∧ w'.cell? ⟨Y, 10, none⟩ = some (.int .i64 y.iss) ∧ w'.cell? ⟨Y, 11, none⟩ = some (.int .i64 y.acq) ∧ w'.cell? ⟨Y, 12, none⟩ = some (.int .i64 y.shop) ∧ w'.cell? ⟨Y, 13, none⟩ = some (.int .i64 y.net))) (first | with_reducible exact ⟨tab_cells bT.out, rec_cells bR.out, res_cells bX.out, res_cells bY.out⟩ | with_reducible exact ⟨tab_cells (blk_drewJ bT.out), rec_cells (blk_drewJ bR.out), res_cells (blk_drewJ bX.out), res_cells (blk_drewJ bY.out)⟩) (first | (go_at_call 14; refine (kF.out _).mono ?_; rintro e w6 ⟨B1, rfl, hF1, hE6⟩; have hS := ext_at hE (by first | exact hE6 | exact Ext.undrew hE6); replace hE := hE.trans hS; replace bT := Lib.hid (bT.out.ext hS); replace bR := Lib.hid (bR.out.ext hS); replace bX := Lib.hid (bX.out.ext hS); replace bY := Lib.hid (bY.out.ext hS); (have hF1 := Lib.hid hF1); (try replace hF2 := Lib.hid (hF2.out.ext hS)); clear hE6 hS) | (go_at_call 15; refine (kG.out _).mono ?_; rintro e w6 ⟨B2, rfl, hF2, hE6⟩; have hS := ext_at hE (by first | exact hE6 | exact Ext.undrew hE6); replace hE := hE.trans hS; replace bT := Lib.hid (bT.out.ext hS); replace bR := Lib.hid (bR.out.ext hS); replace bX := Lib.hid (bX.out.ext hS); replace bY := Lib.hid (bY.out.ext hS); (have hF2 := Lib.hid hF2); (try replace hF1 := Lib.hid (hF1.out.ext hS)); clear hE6 hS) | (go_at_call 13; refine (kM.out _ _ _ hF1.out hF2.out).mono ?_; rintro e w6 ⟨rfl, hE6⟩; have hS := ext_at hE (by first | exact hE6 | exact Ext.undrew hE6); replace hE := hE.trans hS; replace bT := Lib.hid (bT.out.ext hS); replace bR := Lib.hid (bR.out.ext hS); replace bX := Lib.hid (bX.out.ext hS); replace bY := Lib.hid (bY.out.ext hS); clear hE6 hS) | (go_at_call 16; refine (kC.out _ (by first | exact hE | exact hE.drew) hsm.out).mono ?_; rintro e w6 ⟨rfl, hE6⟩; have hS := ext_at hE (by first | exact hE6 | exact Ext.undrew hE6); replace hE := hE.trans hS; replace bT := Lib.hid (bT.out.ext hS); replace bR := Lib.hid (bR.out.ext hS); replace bX := Lib.hid (bX.out.ext hS); replace bY := Lib.hid (bY.out.ext hS); clear hE6 hS) | (go_at_call 17; refine (kD.out _ (by first | exact hE | exact hE.drew) hsm.out).mono ?_; rintro e w6 ⟨rfl, hE6⟩; have hS := ext_at hE (by first | exact hE6 | exact Ext.undrew hE6); replace hE := hE.trans hS; replace bT := Lib.hid (bT.out.ext hS); replace bR := Lib.hid (bR.out.ext hS); replace bX := Lib.hid (bX.out.ext hS); replace bY := Lib.hid (bY.out.ext hS); clear hE6 hS) | (go_at_call 10; refine (kW.out _ (by first | exact hE | exact hE.drew)).mono ?_; rintro e w6 ⟨rfl, hE6⟩; have hS := ext_at hE (by first | exact hE6 | exact Ext.undrew hE6); replace hE := hE.trans hS; replace bT := Lib.hid (bT.out.ext hS); replace bR := Lib.hid (bR.out.ext hS); replace bX := Lib.hid (bX.out.ext hS); replace bY := Lib.hid (bY.out.ext hS); clear hE6 hS))
   all_goals go_wp2
   all_goals go_ret
   all_goals exact ⟨rfl, hE⟩
end Go.Proofs.YtmnhmkjmcckneaaGreatDoor
