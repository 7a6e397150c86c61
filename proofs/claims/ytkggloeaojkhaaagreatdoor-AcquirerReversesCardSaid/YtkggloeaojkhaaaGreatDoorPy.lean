/- Contract of acquirer's Capture (walk; printed by gen/h90.py). -/
import Derived.Test.YtkggloeaojkhaaaGreatDoorPx
import Derived.StillTailTactics
namespace Go.Proofs.YtkggloeaojkhaaaGreatDoor
open Go.RowKit
def itoaS (n : Int) : ByteArray := ⟨(Lib.itoa n).toArray⟩
theorem itoa_fix (n : Nat) (w : World) (g : Gw w) (h1 : n ≤ 9223372036854775807) : Calls Tryz.prog 77 #[.int .i64 n] w fun e w' => e = .returned (.string (itoaS n)) ∧ Ext w w' := by
 refine (itoaW n w g h1).mono ?_
 rintro e w' ⟨r, rfl, hr, -, hE⟩
 rw [bytesOf hr]
 exact ⟨rfl, hE⟩
theorem itoaS_size (n : Nat) (h : n ≤ 9223372036854775807) : (itoaS n).size ≤ 21 := by
 rw [← plen_list]
 exact Lib.itoa_length_le (n : Int) (by omega) (by omega)
def dash : ByteArray := ⟨#[45]⟩
/-- The most that may be captured. -/
def capMost (x : SaleD) (fin : Bool) : Int := if fin then x.appr + x.appr / 5 else x.appr
def capSale (x : SaleD) (amt : Int) (fin : Bool) : SaleD := { x with pres := x.pres + 1, capt := x.capt + amt, fin := fin }
def capEnt (nm : ByteArray) (x : SaleD) (ref : ByteArray) (amt date : Int) (fin : Bool) : EntD := ⟨1, ref ++ dash ++ itoaS (x.pres + 1), ref, nm, ⟨#[110, 101, 116, 119, 111, 114, 107]⟩, x.p.mer, x.p.car, amt, x.p.cur, date, x.p.cat, fin, ref ++ dash ++ itoaS (x.pres + 1)⟩
/-- The error of a capture of a sale. -/
def capE (x : SaleD) (amt : Int) (fin : Bool) : Int :=
 if x.st ≠ 2 then 8 else if x.fin = true then 23 else if 8 ≤ x.pres then 10 else if amt < 1 ∨ 999999999999 < amt then 4 else if capMost x fin < x.capt + amt then 22 else 0
def capV (d : HostD) (at' : Int) (ref : ByteArray) (amt : Int) (fin : Bool) : HostD × Int :=
 match sIx ref.data.toList (refsOf d) with
 | none => (d, 6)
 | some i => if permB d at' = false then (d, 14) else match d.sales[i]? with
  | none => (d, 8)
  | some x => if capE x amt fin ≠ 0 then (d, capE x amt fin) else ({ d with now := at', sales := d.sales.set i (capSale x amt fin), wt := d.wt ++ [capEnt d.name x ref amt (dayV at').1 fin] }, 0)
def HCapP (B : Nat) (I : HostI) (d : HostD) (at' : Int) (ref : ByteArray) (amt : Int) (fin : Bool) (w : World) (e : Ending) (w' : World) : Prop := e = .returned (.int .i64 (capV d at' ref amt fin).2) ∧ HostM w' B I (capV d at' ref amt fin).1 ∧ Chg (HF B I w) w w'
theorem capE_zero {x : SaleD} {amt : Int} {fin : Bool} (h : capE x amt fin = 0) : x.st = 2 ∧ x.fin = false ∧ x.pres < 8 ∧ (1 ≤ amt ∧ amt ≤ 999999999999) ∧ x.capt + amt ≤ capMost x fin := by
 unfold capE at h
 by_cases h1 : x.st ≠ 2
 · rw [if_pos h1] at h; cases h
 rw [if_neg h1] at h
 by_cases h2 : x.fin = true
 · rw [if_pos h2] at h; cases h
 rw [if_neg h2] at h
 by_cases h3 : 8 ≤ x.pres
 · rw [if_pos h3] at h; cases h
 rw [if_neg h3] at h
 by_cases h4 : amt < 1 ∨ 999999999999 < amt
 · rw [if_pos h4] at h; cases h
 rw [if_neg h4] at h
 by_cases h5 : capMost x fin < x.capt + amt
 · rw [if_pos h5] at h; cases h
 exact ⟨by omega, by simpa using h2, by omega, by omega, by omega⟩
theorem capSale_ok {x : SaleD} {amt : Int} {fin : Bool} (hx : SaleOk x) (h : capE x amt fin = 0) : SaleOk (capSale x amt fin) := by
 obtain ⟨h1, h2, h3, h4, h5⟩ := capE_zero h
 have ha := hx.appr
 have hm : capMost x fin ≤ 2000000000000 := by unfold capMost; split <;> omega
 exact ⟨hx.ref, hx.mer, hx.ter, hx.car, hx.cur, hx.amt, hx.least, hx.cat, hx.appr, ⟨by have := hx.capt; show 0 ≤ x.capt + amt; omega, by show x.capt + amt ≤ 2000000000000; omega⟩, ⟨hx.refd.1, by have := hx.refd; show x.refd ≤ x.capt + amt; omega⟩, hx.dl, ⟨by have := hx.pres; show 0 ≤ x.pres + 1; omega, by show x.pres + 1 ≤ 8; omega⟩, hx.refs⟩
theorem capEnt_ok {x : SaleD} {nm ref : ByteArray} {amt date : Int} {fin : Bool} (hx : SaleOk x) (hn : nm.size ≤ 16) (hr : ref.size ≤ 12) (hp : 0 ≤ x.pres ∧ x.pres ≤ 8) : EntOk (capEnt nm x ref amt date fin) := by
 obtain ⟨k, hk⟩ : ∃ k : Nat, x.pres + 1 = (k : Int) := ⟨(x.pres + 1).toNat, by omega⟩
 have hi := itoaS_size k (by omega)
 have hs : (ref ++ dash ++ itoaS (x.pres + 1)).size ≤ 1000 := by
  rw [hk]
  simp only [ByteArray.size_append]
  have : dash.size = 1 := rfl
  omega
 have h1 := hx.mer
 have h2 := hx.car
 have h3 := hx.cur
 exact ⟨Nat.le_trans hs (by decide), hs, by show ref.size ≤ 1000000; omega, by show nm.size ≤ 1000000; omega, by show 7 ≤ 1000000; decide, by show x.p.mer.size ≤ 1000000; omega, by show x.p.car.size ≤ 1000000; omega, by show x.p.cur.size ≤ 1000000; omega⟩
theorem HostOk.addEnt {B : Nat} {I : HostI} {bs : List Nat} {d : HostD} (h : HostOk B I bs d) (x : EntD) (hx : EntOk x) : HostOk B I bs { d with wt := d.wt ++ [x] } :=
 ⟨h.bl, h.ms, h.len, h.nd, h.rn, h.few, h.ok, fun y hy => by
  rcases List.mem_append.1 hy with hy | hy
  · exact h.eok y hy
  · simp only [List.mem_cons, List.not_mem_nil, or_false] at hy
    subst hy
    exact hx, h.fok, h.name, h.timeout, h.nf, h.cop, h.files⟩
set_option maxRecDepth 8000 in
set_option maxHeartbeats 16000000 in
theorem hCap_any (B : Nat) (I : HostI) (d : HostD) (at' : Int) (ref : ByteArray) (amt : Int) (fin : Bool) (w : World) (g : Gl w) (hGB : GB B) (hB : B ≤ w.heap.size) (h : HostM w B I d) (hr : ref.size ≤ 1000000) (hwl : d.wt.length < 1000000) : Calls Tryz.prog 38 #[.pointer (some ⟨I.X, 0, none⟩), .int .i64 at', .string ref, .int .i64 amt, .bool fin] w (HCapP B I d at' ref amt fin w) := by
 have kP := Lib.hid (fun w1 (hE : Ext w w1) => permitted_any B I d at' w1 (h.ext hE))
 unfold OneQ at kP
 obtain ⟨bs, sv, wv, hX0, ok⟩ := h
 have hX := Lib.hid hX0
 have y6 : w.cell? ⟨I.X, 6, none⟩ = some (.map (some I.R)) := hX0.h.cell 6
 rcases hX0.look ok hr with ⟨h1, hL⟩ | ⟨i, b, x, h1, hb, hx, hxr, hL⟩
 · have hend := Lib.hid (fun w' (hE : Ext w w') => show HCapP B I d at' ref amt fin w (.returned (.int .i64 6)) w' from by
    unfold HCapP capV
    rw [h1]
    exact ⟨rfl, ⟨bs, sv, wv, hX0.ext hE, ok⟩, Chg.ofExt hE⟩)
   generalize HCapP B I d at' ref amt fin w = PP at *
   have hl := hL w (Ext.refl _)
   have hq := ptrEq w
   clear hX0 ok h1 hL kP g
   go_enter Tryz.func38, Tryz.ntmps38
   go_wp2_with fail
   try go_ret
   exact hend.out _ xt
 by_cases c1 : permB d at' = false
 · rw [c1] at kP
   have hend := Lib.hid (fun w' (hE : Ext w w') => show HCapP B I d at' ref amt fin w (.returned (.int .i64 14)) w' from by
    unfold HCapP capV
    rw [h1]
    simp only
    rw [if_pos c1]
    exact ⟨rfl, ⟨bs, sv, wv, hX0.ext hE, ok⟩, Chg.ofExt hE⟩)
   generalize HCapP B I d at' ref amt fin w = PP at *
   have hl := hL w (Ext.refl _)
   have hq := ptrNe b w
   clear hX0 ok h1 hL g hb hx
   go_enter Tryz.func38, Tryz.ntmps38
   go_wp2_with fail
   refine (kP.out _ (Ext.refl _)).mono ?_
   rintro e w1 ⟨rfl, hE⟩
   go_wp2_with fail
   try go_ret
   exact hend.out _ hE
 have c1' : permB d at' = true := by simpa using c1
 rw [c1'] at kP
 have hcv : capV d at' ref amt fin = if capE x amt fin ≠ 0 then (d, capE x amt fin) else ({ d with now := at', sales := d.sales.set i (capSale x amt fin), wt := d.wt ++ [capEnt d.name x ref amt (dayV at').1 fin] }, 0) := by
  unfold capV
  rw [h1]
  simp only
  rw [if_neg c1, hx]
 have xok := ok.ok x (List.mem_of_getElem? hx)
 have hbad := Lib.hid (fun c (hc : capE x amt fin = c) (h0 : c ≠ 0) w' (hE : Ext w w') => show HCapP B I d at' ref amt fin w (.returned (.int .i64 c)) w' from by
  unfold HCapP
  rw [hcv, hc, if_pos h0]
  exact ⟨rfl, ⟨bs, sv, wv, hX0.ext hE, ok⟩, Chg.ofExt hE⟩)
 have hap := xok.appr
 have hcp := xok.capt
 have hpr := xok.pres
 have htd : x.appr.tdiv 5 = x.appr / 5 := Int.tdiv_eq_ediv_of_nonneg hap.1
 obtain ⟨Qv, hQv⟩ : ∃ Qv, Qv = x.appr / 5 := ⟨_, rfl⟩
 have hQb : 0 ≤ Qv ∧ Qv ≤ 999999999999 := by omega
 rw [← hQv] at htd
 have hmost : capMost x fin = if fin then x.appr + Qv else x.appr := by unfold capMost; rw [hQv]
 have hl := hL w (Ext.refl _)
 have hq0 := ptrNe b w
 have hq := ptrNe b
 replace hL := Lib.hid hL
 replace hb := Lib.hid hb
 replace hx := Lib.hid hx
 by_cases c0 : ¬ x.st = 2
 · have hend := Lib.hid (hbad.out 8 (by unfold capE; rw [if_pos c0]) (by decide))
   have q0 : (x.st != 2) = true := by simp [c0]
   generalize HCapP B I d at' ref amt fin w = PP at *
   clear hX0 ok h1 g hcv xok hap hmost hQv
   clear hbad
   go_enter Tryz.func38, Tryz.ntmps38
   go_wp2_with fail
   refine (kP.out _ (Ext.refl _)).mono ?_
   rintro e w1 ⟨rfl, hE⟩
   have hl1 := hL.out w1 hE
   have hq1 := hq w1
   replace y6 := hE.get y6
   have bb := ((hX.out.ext hE).e i b x hb.out hx.out).1
   have y8 : w1.cell? ⟨b, 8, none⟩ = some (.int .i64 x.st) := (bb.cell 8).trans rfl
   go_wp2_with fail
   try go_ret
   exact hend.out _ hE
 by_cases c1x : x.fin = true
 · have hend := Lib.hid (hbad.out 23 (by unfold capE; rw [if_neg (by omega), if_pos c1x]) (by decide))
   have q0 : (x.st != 2) = false := by simp; omega
   have q1 : x.fin = true := by simpa using c1x
   generalize HCapP B I d at' ref amt fin w = PP at *
   clear hX0 ok h1 g hcv xok hap hmost hQv
   clear hbad
   go_enter Tryz.func38, Tryz.ntmps38
   go_wp2_with fail
   refine (kP.out _ (Ext.refl _)).mono ?_
   rintro e w1 ⟨rfl, hE⟩
   have hl1 := hL.out w1 hE
   have hq1 := hq w1
   replace y6 := hE.get y6
   have bb := ((hX.out.ext hE).e i b x hb.out hx.out).1
   have y8 : w1.cell? ⟨b, 8, none⟩ = some (.int .i64 x.st) := (bb.cell 8).trans rfl
   have y15 : w1.cell? ⟨b, 15, none⟩ = some (.bool x.fin) := (bb.cell 15).trans rfl
   go_wp2_with fail
   try go_ret
   exact hend.out _ hE
 by_cases c2 : 8 ≤ x.pres
 · have hend := Lib.hid (hbad.out 10 (by unfold capE; rw [if_neg (by omega), if_neg c1x, if_pos c2]) (by decide))
   have q0 : (x.st != 2) = false := by simp; omega
   have q1 : x.fin = false := by simpa using c1x
   have q2 : decide (8 ≤ x.pres) = true := decide_eq_true (by omega)
   generalize HCapP B I d at' ref amt fin w = PP at *
   clear hX0 ok h1 g hcv xok hap hmost hQv
   clear hbad
   go_enter Tryz.func38, Tryz.ntmps38
   go_wp2_with fail
   refine (kP.out _ (Ext.refl _)).mono ?_
   rintro e w1 ⟨rfl, hE⟩
   have hl1 := hL.out w1 hE
   have hq1 := hq w1
   replace y6 := hE.get y6
   have bb := ((hX.out.ext hE).e i b x hb.out hx.out).1
   have y8 : w1.cell? ⟨b, 8, none⟩ = some (.int .i64 x.st) := (bb.cell 8).trans rfl
   have y15 : w1.cell? ⟨b, 15, none⟩ = some (.bool x.fin) := (bb.cell 15).trans rfl
   have y13 : w1.cell? ⟨b, 13, none⟩ = some (.int .i64 x.pres) := (bb.cell 13).trans rfl
   go_wp2_with fail
   try go_ret
   exact hend.out _ hE
 by_cases c3 : amt < 1
 · have hend := Lib.hid (hbad.out 4 (by unfold capE; rw [if_neg (by omega), if_neg c1x, if_neg c2, if_pos (by omega)]) (by decide))
   have q0 : (x.st != 2) = false := by simp; omega
   have q1 : x.fin = false := by simpa using c1x
   have q2 : decide (8 ≤ x.pres) = false := decide_eq_false (by omega)
   have q3 : decide (amt < 1) = true := decide_eq_true (by omega)
   generalize HCapP B I d at' ref amt fin w = PP at *
   clear hX0 ok h1 g hcv xok hap hmost hQv
   clear hbad
   go_enter Tryz.func38, Tryz.ntmps38
   go_wp2_with fail
   refine (kP.out _ (Ext.refl _)).mono ?_
   rintro e w1 ⟨rfl, hE⟩
   have hl1 := hL.out w1 hE
   have hq1 := hq w1
   replace y6 := hE.get y6
   have bb := ((hX.out.ext hE).e i b x hb.out hx.out).1
   have y8 : w1.cell? ⟨b, 8, none⟩ = some (.int .i64 x.st) := (bb.cell 8).trans rfl
   have y15 : w1.cell? ⟨b, 15, none⟩ = some (.bool x.fin) := (bb.cell 15).trans rfl
   have y13 : w1.cell? ⟨b, 13, none⟩ = some (.int .i64 x.pres) := (bb.cell 13).trans rfl
   go_wp2_with fail
   try go_ret
   exact hend.out _ hE
 by_cases c4 : (999999999999 : Int) < amt
 · have hend := Lib.hid (hbad.out 4 (by unfold capE; rw [if_neg (by omega), if_neg c1x, if_neg c2, if_pos (by omega)]) (by decide))
   have q0 : (x.st != 2) = false := by simp; omega
   have q1 : x.fin = false := by simpa using c1x
   have q2 : decide (8 ≤ x.pres) = false := decide_eq_false (by omega)
   have q3 : decide (amt < 1) = false := decide_eq_false (by omega)
   have q4 : decide ((999999999999 : Int) < amt) = true := decide_eq_true (by omega)
   generalize HCapP B I d at' ref amt fin w = PP at *
   clear hX0 ok h1 g hcv xok hap hmost hQv
   clear hbad
   go_enter Tryz.func38, Tryz.ntmps38
   go_wp2_with fail
   refine (kP.out _ (Ext.refl _)).mono ?_
   rintro e w1 ⟨rfl, hE⟩
   have hl1 := hL.out w1 hE
   have hq1 := hq w1
   replace y6 := hE.get y6
   have bb := ((hX.out.ext hE).e i b x hb.out hx.out).1
   have y8 : w1.cell? ⟨b, 8, none⟩ = some (.int .i64 x.st) := (bb.cell 8).trans rfl
   have y15 : w1.cell? ⟨b, 15, none⟩ = some (.bool x.fin) := (bb.cell 15).trans rfl
   have y13 : w1.cell? ⟨b, 13, none⟩ = some (.int .i64 x.pres) := (bb.cell 13).trans rfl
   go_wp2_with fail
   try go_ret
   exact hend.out _ hE
 have q0 : (x.st != 2) = false := by simp; omega
 have q1 : x.fin = false := by simpa using c1x
 have q2 : decide (8 ≤ x.pres) = false := decide_eq_false (by omega)
 have q3 : decide (amt < 1) = false := decide_eq_false (by omega)
 have q4 : decide ((999999999999 : Int) < amt) = false := decide_eq_false (by omega)
 have hce : capE x amt fin = if capMost x fin < x.capt + amt then 22 else 0 := by unfold capE; rw [if_neg (by omega), if_neg c1x, if_neg c2, if_neg (by omega)]
 obtain ⟨MS, hMS⟩ : ∃ MS, MS = capMost x fin := ⟨_, rfl⟩
 rw [← hMS] at hce hmost
 by_cases c5 : MS < x.capt + amt
 · have hend := Lib.hid (hbad.out 22 (by rw [hce, if_pos c5]) (by decide))
   generalize HCapP B I d at' ref amt fin w = PP at *
   have hmf := hmost
   clear hX0 ok h1 g hcv xok hmost hQv hbad hce hMS
   cases fin with
   | true =>
    have q5 : decide (x.appr + Qv < x.capt + amt) = true := decide_eq_true (by rw [if_pos rfl] at hmf; omega)
    clear hmf c5
    go_enter Tryz.func38, Tryz.ntmps38
    go_wp2_with fail
    refine (kP.out _ (Ext.refl _)).mono ?_
    rintro e w1 ⟨rfl, hE⟩
    have hl1 := hL.out w1 hE
    have hq1 := hq w1
    replace y6 := hE.get y6
    have bb := ((hX.out.ext hE).e i b x hb.out hx.out).1
    have y8 : w1.cell? ⟨b, 8, none⟩ = some (.int .i64 x.st) := (bb.cell 8).trans rfl
    have y15 : w1.cell? ⟨b, 15, none⟩ = some (.bool x.fin) := (bb.cell 15).trans rfl
    have y13 : w1.cell? ⟨b, 13, none⟩ = some (.int .i64 x.pres) := (bb.cell 13).trans rfl
    have y9 : w1.cell? ⟨b, 9, none⟩ = some (.int .i64 x.appr) := (bb.cell 9).trans rfl
    have y10 : w1.cell? ⟨b, 10, none⟩ = some (.int .i64 x.capt) := (bb.cell 10).trans rfl
    go_wp2_with fail
    try go_ret
    exact hend.out _ hE
   | false =>
    have q5 : decide (x.appr < x.capt + amt) = true := decide_eq_true (by rw [if_neg (by decide)] at hmf; omega)
    clear hmf c5
    go_enter Tryz.func38, Tryz.ntmps38
    go_wp2_with fail
    refine (kP.out _ (Ext.refl _)).mono ?_
    rintro e w1 ⟨rfl, hE⟩
    have hl1 := hL.out w1 hE
    have hq1 := hq w1
    replace y6 := hE.get y6
    have bb := ((hX.out.ext hE).e i b x hb.out hx.out).1
    have y8 : w1.cell? ⟨b, 8, none⟩ = some (.int .i64 x.st) := (bb.cell 8).trans rfl
    have y15 : w1.cell? ⟨b, 15, none⟩ = some (.bool x.fin) := (bb.cell 15).trans rfl
    have y13 : w1.cell? ⟨b, 13, none⟩ = some (.int .i64 x.pres) := (bb.cell 13).trans rfl
    have y9 : w1.cell? ⟨b, 9, none⟩ = some (.int .i64 x.appr) := (bb.cell 9).trans rfl
    have y10 : w1.cell? ⟨b, 10, none⟩ = some (.int .i64 x.capt) := (bb.cell 10).trans rfl
    go_wp2_with fail
    try go_ret
    exact hend.out _ hE
 have hz : capE x amt fin = 0 := by rw [hce, if_neg c5]
 have hXb : I.X ≠ b := (hX0.blkNe (hX0.e i b x hb.out hx.out).1).1 (by decide)
 have hXb' : b ≠ I.X := fun e => hXb e.symm
 obtain ⟨k, hk⟩ : ∃ k : Nat, x.pres + 1 = (k : Int) := ⟨(x.pres + 1).toNat, by omega⟩
 have kI : ∀ w3, Gw w3 → Calls Tryz.prog 77 #[.int .i64 (x.pres + 1)] w3 (fun e w' => e = .returned (.string (itoaS (x.pres + 1))) ∧ Ext w3 w') := by
  rw [hk]
  exact fun w3 g3 => itoa_fix k w3 g3 (by omega)
 have hiz : (itoaS (x.pres + 1)).size ≤ 21 := by rw [hk]; exact itoaS_size k (by omega)
 replace kI := Lib.hid kI
 obtain ⟨d2, hd2⟩ : ∃ d2 : HostD, d2 = { d with now := at', sales := d.sales.set i (capSale x amt fin) } := ⟨_, rfl⟩
 have ok2 : HostOk B I bs d2 := by rw [hd2]; exact (ok.setNow at').setSale i x (capSale x amt fin) hx.out rfl (capSale_ok xok hz)
 have hw2 : d2.wt = d.wt := by rw [hd2]
 obtain ⟨ent, hent⟩ : ∃ ent, ent = capEnt d.name x ref amt (dayV at').1 fin := ⟨_, rfl⟩
 have hset := Lib.hid (fun w1 W (hE : Ext w w1) (hW : W = (((w1.setCell ⟨I.X, 2, none⟩ (.int .i64 at')).setCell ⟨b, 13, none⟩ (.int .i64 (x.pres + 1))).setCell ⟨b, 10, none⟩ (.int .i64 (x.capt + amt))).setCell ⟨b, 15, none⟩ (.bool fin)) => show HostX W B I bs sv wv d2 ∧ Chg (HF B I w) w W ∧ Blk W b (salCells (capSale x amt fin)) 88 ∧ (W.cell? ⟨I.X, 0, none⟩ = some (.string d.name)) from by
  have h2 := hX0.ext hE
  have h3 := h2.setNow at'
  have b3 := (h3.e i b x hb.out hx.out).1
  have b4 := ((b3.set 13 (.int .i64 (x.pres + 1))).set 10 (.int .i64 (x.capt + amt))).set 15 (.bool fin)
  rw [← hW] at b4
  have hC : Chg (fun k => k = b) (w1.setCell ⟨I.X, 2, none⟩ (.int .i64 at')) W := by
   rw [hW]
   exact Chg.setCell (F := fun k => k = b) (Chg.setCell (F := fun k => k = b) (Chg.setCell (F := fun k => k = b) (Chg.refl _ _) (p := ⟨b, 13, none⟩) (Or.inl rfl) _) (p := ⟨b, 10, none⟩) (Or.inl rfl) _) (p := ⟨b, 15, none⟩) (Or.inl rfl) _
  have h5 := h3.setSale (ok.setNow at') i b x (capSale x amt fin) hb.out hx.out rfl b4 hC
  rw [hd2]
  exact ⟨h5, Typ.trans (Typ.trans (Chg.ofExt hE) (HF.setNow h2 ok at')) (HF.setSale h3 i b x hb.out hx.out hC), b4, h5.h.cell 0⟩)
 have hgl := Lib.hid (fun W (hF : Chg (HF B I w) w W) => g.hf hF hGB)
 have kRec := Lib.hid (fun W (h0 : W.cell? ⟨I.X, 0, none⟩ = some (.string d.name)) => record_any I.X d.name at' (capSale x amt fin) amt W h0)
 have kAdd := Lib.hid (fun w5 (hX5 : HostX w5 B I bs sv wv d2) (hF : Chg (HF B I w) w w5) => add_any B I bs sv wv d2 ent w5 (Nat.le_trans hB hF.size) hX5 ok2 (by rw [hent]; rfl) (by rw [hw2]; exact hwl))
 have hrl : ref.size = 12 := by rw [← hxr]; exact xok.ref
 have hend := Lib.hid (fun w5 e w6 (hF : Chg (HF B I w) w w5) (hp : AddP B I bs sv d2 ent w5 e w6) => show e = .returned (.tuple #[]) ∧ HCapP B I d at' ref amt fin w (.returned (.int .i64 0)) w6 from by
  obtain ⟨r1, ⟨wv', r2⟩, r3⟩ := hp
  unfold HCapP
  rw [hcv, if_neg (by rw [hz]; decide)]
  rw [hd2, hent] at r2
  have ok6 := ok2.addEnt ent (by rw [hent]; exact capEnt_ok xok ok.name (by omega) ⟨hpr.1, hpr.2⟩)
  rw [hd2, hent] at ok6
  exact ⟨r1, rfl, ⟨bs, sv, wv', r2, ok6⟩, Typ.trans hF r3⟩)
 have hmf : (if fin then x.appr + Qv else x.appr) = MS := hmost.symm
 generalize HCapP B I d at' ref amt fin w = PP at *
 unfold OneQ recD at kRec
 have hsa : salAgg (capSale x amt fin) = .agg #[.string x.ref, .string x.p.mer, .string x.p.ter, .string x.p.car, .int .i64 x.p.amt, .int .i64 x.p.least, .string x.p.cur, .int .i64 x.p.cat, .int .i64 x.st, .int .i64 x.appr, .int .i64 (x.capt + amt), .int .i64 x.refd] := rfl
 have hmc : (capSale x amt fin).p = x.p := rfl
 rw [hsa, hmc] at kRec
 have hentv : recAgg ent = .agg #[.int .i64 1, .string (ref ++ dash ++ itoaS (x.pres + 1)), .string ref, .string d.name, .string ⟨#[110, 101, 116, 119, 111, 114, 107]⟩, .string x.p.mer, .string x.p.car, .int .i64 amt, .string x.p.cur, .int .i64 (dayV at').1, .int .i64 x.p.cat, .bool fin] := by rw [hent]; rfl
 rw [hentv] at kAdd
 generalize itoaS (x.pres + 1) = its at *
 generalize (dayV at').1 = D at *
 have hds : dash.size = 1 := rfl
 have hid1 : ¬ 9223372036854775807 < ref.size + 1 := by omega
 unfold dash at kAdd
 have hpw : IntKind.i64.wrap (x.pres + 1) = x.pres + 1 := by rw [IntKind.wrap_i64] <;> omega
 clear hX0 ok h1 g hcv xok hmost hQv hbad hce hMS ok2 hent hd2 hw2 hxr hk hsa hmc hentv hz hds
 have hfb : ∃ MV : Int, True := ⟨0, trivial⟩
 clear hfb
 cases fin with
 | true =>
  have q5 : decide (x.appr + Qv < x.capt + amt) = false := decide_eq_false (by rw [if_pos rfl] at hmf; omega)
  clear hmf c5
  go_enter Tryz.func38, Tryz.ntmps38
  go_wp2_with fail
  refine (kP.out _ (Ext.refl _)).mono ?_
  rintro e w1 ⟨rfl, hE⟩
  have hl1 := hL.out w1 hE
  have hq1 := hq w1
  replace y6 := hE.get y6
  have bb := ((hX.out.ext hE).e i b x hb.out hx.out).1
  have y0 : w1.cell? ⟨b, 0, none⟩ = some (.string x.ref) := (bb.cell 0).trans rfl
  have y1 : w1.cell? ⟨b, 1, none⟩ = some (.string x.p.mer) := (bb.cell 1).trans rfl
  have y2 : w1.cell? ⟨b, 2, none⟩ = some (.string x.p.ter) := (bb.cell 2).trans rfl
  have y3 : w1.cell? ⟨b, 3, none⟩ = some (.string x.p.car) := (bb.cell 3).trans rfl
  have y4 : w1.cell? ⟨b, 4, none⟩ = some (.int .i64 x.p.amt) := (bb.cell 4).trans rfl
  have y5 : w1.cell? ⟨b, 5, none⟩ = some (.int .i64 x.p.least) := (bb.cell 5).trans rfl
  have y6 : w1.cell? ⟨b, 6, none⟩ = some (.string x.p.cur) := (bb.cell 6).trans rfl
  have y7 : w1.cell? ⟨b, 7, none⟩ = some (.int .i64 x.p.cat) := (bb.cell 7).trans rfl
  have y8 : w1.cell? ⟨b, 8, none⟩ = some (.int .i64 x.st) := (bb.cell 8).trans rfl
  have y9 : w1.cell? ⟨b, 9, none⟩ = some (.int .i64 x.appr) := (bb.cell 9).trans rfl
  have y10 : w1.cell? ⟨b, 10, none⟩ = some (.int .i64 x.capt) := (bb.cell 10).trans rfl
  have y11 : w1.cell? ⟨b, 11, none⟩ = some (.int .i64 x.refd) := (bb.cell 11).trans rfl
  have y12 : w1.cell? ⟨b, 12, none⟩ = some (.int .i64 x.dl) := (bb.cell 12).trans rfl
  have y13 : w1.cell? ⟨b, 13, none⟩ = some (.int .i64 x.pres) := (bb.cell 13).trans rfl
  have y14 : w1.cell? ⟨b, 14, none⟩ = some (.int .i64 x.refs) := (bb.cell 14).trans rfl
  have y15 : w1.cell? ⟨b, 15, none⟩ = some (.bool x.fin) := (bb.cell 15).trans rfl
  have z13 := bb.fz 13
  have z10 := bb.fz 10
  have z15 := bb.fz 15
  have lb := bb.lt
  have z2 := (hX.out.ext hE).h.fz 2
  have x2 : w1.cell? ⟨I.X, 2, none⟩ = some (.int .i64 d.now) := (hX.out.ext hE).h.cell 2
  have lX := (hX.out.ext hE).h.lt
  clear bb
  go_wp2_with fail
  obtain ⟨W, hW⟩ : ∃ W, W = (((w1.setCell ⟨I.X, 2, none⟩ (.int .i64 at')).setCell ⟨b, 13, none⟩ (.int .i64 (x.pres + 1))).setCell ⟨b, 10, none⟩ (.int .i64 (x.capt + amt))).setCell ⟨b, 15, none⟩ (.bool true) := ⟨_, rfl⟩
  obtain ⟨hX2, hF2, bb2, x0⟩ := hset.out w1 W hE hW
  first | rw [← hW] | simp only [← hW]
  clear hW hset
  clear y0 y1 y2 y3 y4 y5 y6 y7 y8 y9 y10 y11 y12 y13 y14 y15
  clear z13 z10 z15 z2 x2 lX lb
  refine (kRec.out W x0).mono ?_
  rintro e w2 ⟨rfl, hE2⟩
  have y13 : w2.cell? ⟨b, 13, none⟩ = some (.int .i64 (x.pres + 1)) := ((bb2.ext hE2).cell 13).trans rfl
  have lb2 := (bb2.ext hE2).lt
  have hX3 := Lib.hid (hX2.ext hE2)
  have hF3 := Lib.hid (hF2.ext hE2)
  have hsz := hF3.out.size
  clear hX2 hF2 bb2 x0 kRec hE2
  go_wp2_with fail
  refine (kI.out _ ((hgl.out w2 hF3.out).ext xt).gw).mono ?_
  rintro e w4 ⟨rfl, hE4⟩
  have hE24 : Ext w2 w4 := Ext.trans xt hE4
  have bT : Blk w4 w2.heap.size #[.int .i64 1, .string ⟨#[]⟩, .string ⟨#[]⟩, .string d.name, .string ⟨#[110, 101, 116, 119, 111, 114, 107]⟩, .string x.p.mer, .string x.p.car, .int .i64 amt, .string x.p.cur, .int .i64 D, .int .i64 x.p.cat, .bool false] 113 := (Blk.new w2 #[.int .i64 1, .string ⟨#[]⟩, .string ⟨#[]⟩, .string d.name, .string ⟨#[110, 101, 116, 119, 111, 114, 107]⟩, .string x.p.mer, .string x.p.car, .int .i64 amt, .string x.p.cur, .int .i64 D, .int .i64 x.p.cat, .bool false] 113).ext hE4
  have t0 := (bT.cell 0).trans (show (#[.int .i64 1, .string ⟨#[]⟩, .string ⟨#[]⟩, .string d.name, .string ⟨#[110, 101, 116, 119, 111, 114, 107]⟩, .string x.p.mer, .string x.p.car, .int .i64 amt, .string x.p.cur, .int .i64 D, .int .i64 x.p.cat, .bool false] : Array Value)[0]? = some _ from rfl)
  have t1 := (bT.cell 1).trans (show (#[.int .i64 1, .string ⟨#[]⟩, .string ⟨#[]⟩, .string d.name, .string ⟨#[110, 101, 116, 119, 111, 114, 107]⟩, .string x.p.mer, .string x.p.car, .int .i64 amt, .string x.p.cur, .int .i64 D, .int .i64 x.p.cat, .bool false] : Array Value)[1]? = some _ from rfl)
  have t2 := (bT.cell 2).trans (show (#[.int .i64 1, .string ⟨#[]⟩, .string ⟨#[]⟩, .string d.name, .string ⟨#[110, 101, 116, 119, 111, 114, 107]⟩, .string x.p.mer, .string x.p.car, .int .i64 amt, .string x.p.cur, .int .i64 D, .int .i64 x.p.cat, .bool false] : Array Value)[2]? = some _ from rfl)
  have t3 := (bT.cell 3).trans (show (#[.int .i64 1, .string ⟨#[]⟩, .string ⟨#[]⟩, .string d.name, .string ⟨#[110, 101, 116, 119, 111, 114, 107]⟩, .string x.p.mer, .string x.p.car, .int .i64 amt, .string x.p.cur, .int .i64 D, .int .i64 x.p.cat, .bool false] : Array Value)[3]? = some _ from rfl)
  have t4 := (bT.cell 4).trans (show (#[.int .i64 1, .string ⟨#[]⟩, .string ⟨#[]⟩, .string d.name, .string ⟨#[110, 101, 116, 119, 111, 114, 107]⟩, .string x.p.mer, .string x.p.car, .int .i64 amt, .string x.p.cur, .int .i64 D, .int .i64 x.p.cat, .bool false] : Array Value)[4]? = some _ from rfl)
  have t5 := (bT.cell 5).trans (show (#[.int .i64 1, .string ⟨#[]⟩, .string ⟨#[]⟩, .string d.name, .string ⟨#[110, 101, 116, 119, 111, 114, 107]⟩, .string x.p.mer, .string x.p.car, .int .i64 amt, .string x.p.cur, .int .i64 D, .int .i64 x.p.cat, .bool false] : Array Value)[5]? = some _ from rfl)
  have t6 := (bT.cell 6).trans (show (#[.int .i64 1, .string ⟨#[]⟩, .string ⟨#[]⟩, .string d.name, .string ⟨#[110, 101, 116, 119, 111, 114, 107]⟩, .string x.p.mer, .string x.p.car, .int .i64 amt, .string x.p.cur, .int .i64 D, .int .i64 x.p.cat, .bool false] : Array Value)[6]? = some _ from rfl)
  have t7 := (bT.cell 7).trans (show (#[.int .i64 1, .string ⟨#[]⟩, .string ⟨#[]⟩, .string d.name, .string ⟨#[110, 101, 116, 119, 111, 114, 107]⟩, .string x.p.mer, .string x.p.car, .int .i64 amt, .string x.p.cur, .int .i64 D, .int .i64 x.p.cat, .bool false] : Array Value)[7]? = some _ from rfl)
  have t8 := (bT.cell 8).trans (show (#[.int .i64 1, .string ⟨#[]⟩, .string ⟨#[]⟩, .string d.name, .string ⟨#[110, 101, 116, 119, 111, 114, 107]⟩, .string x.p.mer, .string x.p.car, .int .i64 amt, .string x.p.cur, .int .i64 D, .int .i64 x.p.cat, .bool false] : Array Value)[8]? = some _ from rfl)
  have t9 := (bT.cell 9).trans (show (#[.int .i64 1, .string ⟨#[]⟩, .string ⟨#[]⟩, .string d.name, .string ⟨#[110, 101, 116, 119, 111, 114, 107]⟩, .string x.p.mer, .string x.p.car, .int .i64 amt, .string x.p.cur, .int .i64 D, .int .i64 x.p.cat, .bool false] : Array Value)[9]? = some _ from rfl)
  have t10 := (bT.cell 10).trans (show (#[.int .i64 1, .string ⟨#[]⟩, .string ⟨#[]⟩, .string d.name, .string ⟨#[110, 101, 116, 119, 111, 114, 107]⟩, .string x.p.mer, .string x.p.car, .int .i64 amt, .string x.p.cur, .int .i64 D, .int .i64 x.p.cat, .bool false] : Array Value)[10]? = some _ from rfl)
  have t11 := (bT.cell 11).trans (show (#[.int .i64 1, .string ⟨#[]⟩, .string ⟨#[]⟩, .string d.name, .string ⟨#[110, 101, 116, 119, 111, 114, 107]⟩, .string x.p.mer, .string x.p.car, .int .i64 amt, .string x.p.cur, .int .i64 D, .int .i64 x.p.cat, .bool false] : Array Value)[11]? = some _ from rfl)
  have u1 := bT.fz 1
  have u2 := bT.fz 2
  have u11 := bT.fz 11
  have lT := bT.lt
  have hX4 := Lib.hid (hX3.out.ext hE24)
  have hF4 := Lib.hid (hF3.out.ext hE24)
  clear hX3 hF3 hE4 y13 lb2
  go_wp2_with fail
  obtain ⟨W5, hW5⟩ : ∃ W5, W5 = ((w4.setCell ⟨w2.heap.size, 1, none⟩ (.string (ref ++ ⟨#[45]⟩ ++ its))).setCell ⟨w2.heap.size, 2, none⟩ (.string ref)).setCell ⟨w2.heap.size, 11, none⟩ (.bool true) := ⟨_, rfl⟩
  have bT5 := ((bT.set 1 (.string (ref ++ ⟨#[45]⟩ ++ its))).set 2 (.string ref)).set 11 (.bool true)
  simp only [List.setIfInBounds_toArray, List.set_cons_zero, List.set_cons_succ] at bT5
  have hC5 : Chg (fun k => k = w2.heap.size) w4 W5 := by
   rw [hW5]
   exact Chg.setCell (F := fun k => k = w2.heap.size) (Chg.setCell (F := fun k => k = w2.heap.size) (Chg.setCell (F := fun k => k = w2.heap.size) (Chg.refl _ _) (p := ⟨w2.heap.size, 1, none⟩) (Or.inl rfl) _) (p := ⟨w2.heap.size, 2, none⟩) (Or.inl rfl) _) (p := ⟨w2.heap.size, 11, none⟩) (Or.inl rfl) _
  have hX5 := hX4.out.away (ts := [113]) (ms := []) (B' := 0) (hC5.mono fun k _ e => by subst e; exact Typ.of bT (Nat.zero_le _) (by simp)) (by decide) (by simp)
  have hF5 : Chg (HF B I w) w W5 := by
   rw [hW5]
   exact ((hF4.out.setCell (p := ⟨w2.heap.size, 1, none⟩) (Or.inr hsz) _).setCell (p := ⟨w2.heap.size, 2, none⟩) (Or.inr hsz) _).setCell (p := ⟨w2.heap.size, 11, none⟩) (Or.inr hsz) _
  rw [← hW5] at bT5
  first | rw [← hW5] | simp only [← hW5]
  clear hW5 t0 t1 t2 t3 t4 t5 t6 t7 t8 t9 t10 t11 u1 u2 u11 lT hX4 hF4 hC5 bT
  have s0 : W5.cell? ⟨w2.heap.size, 0, none⟩ = some (.int .i64 1) := (bT5.cell 0).trans rfl
  have s1 : W5.cell? ⟨w2.heap.size, 1, none⟩ = some (.string (ref ++ ⟨#[45]⟩ ++ its)) := (bT5.cell 1).trans rfl
  have s2 : W5.cell? ⟨w2.heap.size, 2, none⟩ = some (.string ref) := (bT5.cell 2).trans rfl
  have s3 : W5.cell? ⟨w2.heap.size, 3, none⟩ = some (.string d.name) := (bT5.cell 3).trans rfl
  have s4 : W5.cell? ⟨w2.heap.size, 4, none⟩ = some (.string ⟨#[110, 101, 116, 119, 111, 114, 107]⟩) := (bT5.cell 4).trans rfl
  have s5 : W5.cell? ⟨w2.heap.size, 5, none⟩ = some (.string x.p.mer) := (bT5.cell 5).trans rfl
  have s6 : W5.cell? ⟨w2.heap.size, 6, none⟩ = some (.string x.p.car) := (bT5.cell 6).trans rfl
  have s7 : W5.cell? ⟨w2.heap.size, 7, none⟩ = some (.int .i64 amt) := (bT5.cell 7).trans rfl
  have s8 : W5.cell? ⟨w2.heap.size, 8, none⟩ = some (.string x.p.cur) := (bT5.cell 8).trans rfl
  have s9 : W5.cell? ⟨w2.heap.size, 9, none⟩ = some (.int .i64 D) := (bT5.cell 9).trans rfl
  have s10 : W5.cell? ⟨w2.heap.size, 10, none⟩ = some (.int .i64 x.p.cat) := (bT5.cell 10).trans rfl
  have s11 : W5.cell? ⟨w2.heap.size, 11, none⟩ = some (.bool true) := (bT5.cell 11).trans rfl
  have lX5 := hX5.h.lt
  go_still_tail 4, (by kernel_rfl)
  change wpList _ _ _ _ _ W5.drew
  have hEd : Ext W5 W5.drew := (Ext.refl W5).drew
  generalize W5.drew = w6 at *
  have bT6 := bT5.ext hEd
  have hX6 := Lib.hid (hX5.ext hEd)
  have hF6 := Lib.hid (hF5.ext hEd)
  have t0 : w6.cell? ⟨w2.heap.size, 0, none⟩ = some (.int .i64 1) := (bT6.cell 0).trans rfl
  have t1 : w6.cell? ⟨w2.heap.size, 1, none⟩ = some (.string (ref ++ ⟨#[45]⟩ ++ its)) := (bT6.cell 1).trans rfl
  have t2 : w6.cell? ⟨w2.heap.size, 2, none⟩ = some (.string ref) := (bT6.cell 2).trans rfl
  have t3 : w6.cell? ⟨w2.heap.size, 3, none⟩ = some (.string d.name) := (bT6.cell 3).trans rfl
  have t4 : w6.cell? ⟨w2.heap.size, 4, none⟩ = some (.string ⟨#[110, 101, 116, 119, 111, 114, 107]⟩) := (bT6.cell 4).trans rfl
  have t5 : w6.cell? ⟨w2.heap.size, 5, none⟩ = some (.string x.p.mer) := (bT6.cell 5).trans rfl
  have t6 : w6.cell? ⟨w2.heap.size, 6, none⟩ = some (.string x.p.car) := (bT6.cell 6).trans rfl
  have t7 : w6.cell? ⟨w2.heap.size, 7, none⟩ = some (.int .i64 amt) := (bT6.cell 7).trans rfl
  have t8 : w6.cell? ⟨w2.heap.size, 8, none⟩ = some (.string x.p.cur) := (bT6.cell 8).trans rfl
  have t9 : w6.cell? ⟨w2.heap.size, 9, none⟩ = some (.int .i64 D) := (bT6.cell 9).trans rfl
  have t10 : w6.cell? ⟨w2.heap.size, 10, none⟩ = some (.int .i64 x.p.cat) := (bT6.cell 10).trans rfl
  have t11 : w6.cell? ⟨w2.heap.size, 11, none⟩ = some (.bool true) := (bT6.cell 11).trans rfl
  have lT6 := bT6.lt
  clear bT5 bT6 hX5 hF5 hEd s0 s1 s2 s3 s4 s5 s6 s7 s8 s9 s10 s11
  go_wp2_with fail
  refine (kAdd.out w6 hX6.out hF6.out).mono ?_
  rintro e w7 hp
  obtain ⟨rfl, hfin⟩ := hend.out w6 e w7 hF6.out hp
  replace hfin := Lib.hid hfin
  clear hp t0 t1 t2 t3 t4 t5 t6 t7 t8 t9 t10 t11
  go_wp2
  try go_ret
  exact hfin.out
 | false =>
  have q5 : decide (x.appr < x.capt + amt) = false := decide_eq_false (by rw [if_neg (by decide)] at hmf; omega)
  clear hmf c5
  go_enter Tryz.func38, Tryz.ntmps38
  go_wp2_with fail
  refine (kP.out _ (Ext.refl _)).mono ?_
  rintro e w1 ⟨rfl, hE⟩
  have hl1 := hL.out w1 hE
  have hq1 := hq w1
  replace y6 := hE.get y6
  have bb := ((hX.out.ext hE).e i b x hb.out hx.out).1
  have y0 : w1.cell? ⟨b, 0, none⟩ = some (.string x.ref) := (bb.cell 0).trans rfl
  have y1 : w1.cell? ⟨b, 1, none⟩ = some (.string x.p.mer) := (bb.cell 1).trans rfl
  have y2 : w1.cell? ⟨b, 2, none⟩ = some (.string x.p.ter) := (bb.cell 2).trans rfl
  have y3 : w1.cell? ⟨b, 3, none⟩ = some (.string x.p.car) := (bb.cell 3).trans rfl
  have y4 : w1.cell? ⟨b, 4, none⟩ = some (.int .i64 x.p.amt) := (bb.cell 4).trans rfl
  have y5 : w1.cell? ⟨b, 5, none⟩ = some (.int .i64 x.p.least) := (bb.cell 5).trans rfl
  have y6 : w1.cell? ⟨b, 6, none⟩ = some (.string x.p.cur) := (bb.cell 6).trans rfl
  have y7 : w1.cell? ⟨b, 7, none⟩ = some (.int .i64 x.p.cat) := (bb.cell 7).trans rfl
  have y8 : w1.cell? ⟨b, 8, none⟩ = some (.int .i64 x.st) := (bb.cell 8).trans rfl
  have y9 : w1.cell? ⟨b, 9, none⟩ = some (.int .i64 x.appr) := (bb.cell 9).trans rfl
  have y10 : w1.cell? ⟨b, 10, none⟩ = some (.int .i64 x.capt) := (bb.cell 10).trans rfl
  have y11 : w1.cell? ⟨b, 11, none⟩ = some (.int .i64 x.refd) := (bb.cell 11).trans rfl
  have y12 : w1.cell? ⟨b, 12, none⟩ = some (.int .i64 x.dl) := (bb.cell 12).trans rfl
  have y13 : w1.cell? ⟨b, 13, none⟩ = some (.int .i64 x.pres) := (bb.cell 13).trans rfl
  have y14 : w1.cell? ⟨b, 14, none⟩ = some (.int .i64 x.refs) := (bb.cell 14).trans rfl
  have y15 : w1.cell? ⟨b, 15, none⟩ = some (.bool x.fin) := (bb.cell 15).trans rfl
  have z13 := bb.fz 13
  have z10 := bb.fz 10
  have z15 := bb.fz 15
  have lb := bb.lt
  have z2 := (hX.out.ext hE).h.fz 2
  have x2 : w1.cell? ⟨I.X, 2, none⟩ = some (.int .i64 d.now) := (hX.out.ext hE).h.cell 2
  have lX := (hX.out.ext hE).h.lt
  clear bb
  go_wp2_with fail
  obtain ⟨W, hW⟩ : ∃ W, W = (((w1.setCell ⟨I.X, 2, none⟩ (.int .i64 at')).setCell ⟨b, 13, none⟩ (.int .i64 (x.pres + 1))).setCell ⟨b, 10, none⟩ (.int .i64 (x.capt + amt))).setCell ⟨b, 15, none⟩ (.bool false) := ⟨_, rfl⟩
  obtain ⟨hX2, hF2, bb2, x0⟩ := hset.out w1 W hE hW
  first | rw [← hW] | simp only [← hW]
  clear hW hset
  clear y0 y1 y2 y3 y4 y5 y6 y7 y8 y9 y10 y11 y12 y13 y14 y15
  clear z13 z10 z15 z2 x2 lX lb
  refine (kRec.out W x0).mono ?_
  rintro e w2 ⟨rfl, hE2⟩
  have y13 : w2.cell? ⟨b, 13, none⟩ = some (.int .i64 (x.pres + 1)) := ((bb2.ext hE2).cell 13).trans rfl
  have lb2 := (bb2.ext hE2).lt
  have hX3 := Lib.hid (hX2.ext hE2)
  have hF3 := Lib.hid (hF2.ext hE2)
  have hsz := hF3.out.size
  clear hX2 hF2 bb2 x0 kRec hE2
  go_wp2_with fail
  refine (kI.out _ ((hgl.out w2 hF3.out).ext xt).gw).mono ?_
  rintro e w4 ⟨rfl, hE4⟩
  have hE24 : Ext w2 w4 := Ext.trans xt hE4
  have bT : Blk w4 w2.heap.size #[.int .i64 1, .string ⟨#[]⟩, .string ⟨#[]⟩, .string d.name, .string ⟨#[110, 101, 116, 119, 111, 114, 107]⟩, .string x.p.mer, .string x.p.car, .int .i64 amt, .string x.p.cur, .int .i64 D, .int .i64 x.p.cat, .bool false] 113 := (Blk.new w2 #[.int .i64 1, .string ⟨#[]⟩, .string ⟨#[]⟩, .string d.name, .string ⟨#[110, 101, 116, 119, 111, 114, 107]⟩, .string x.p.mer, .string x.p.car, .int .i64 amt, .string x.p.cur, .int .i64 D, .int .i64 x.p.cat, .bool false] 113).ext hE4
  have t0 := (bT.cell 0).trans (show (#[.int .i64 1, .string ⟨#[]⟩, .string ⟨#[]⟩, .string d.name, .string ⟨#[110, 101, 116, 119, 111, 114, 107]⟩, .string x.p.mer, .string x.p.car, .int .i64 amt, .string x.p.cur, .int .i64 D, .int .i64 x.p.cat, .bool false] : Array Value)[0]? = some _ from rfl)
  have t1 := (bT.cell 1).trans (show (#[.int .i64 1, .string ⟨#[]⟩, .string ⟨#[]⟩, .string d.name, .string ⟨#[110, 101, 116, 119, 111, 114, 107]⟩, .string x.p.mer, .string x.p.car, .int .i64 amt, .string x.p.cur, .int .i64 D, .int .i64 x.p.cat, .bool false] : Array Value)[1]? = some _ from rfl)
  have t2 := (bT.cell 2).trans (show (#[.int .i64 1, .string ⟨#[]⟩, .string ⟨#[]⟩, .string d.name, .string ⟨#[110, 101, 116, 119, 111, 114, 107]⟩, .string x.p.mer, .string x.p.car, .int .i64 amt, .string x.p.cur, .int .i64 D, .int .i64 x.p.cat, .bool false] : Array Value)[2]? = some _ from rfl)
  have t3 := (bT.cell 3).trans (show (#[.int .i64 1, .string ⟨#[]⟩, .string ⟨#[]⟩, .string d.name, .string ⟨#[110, 101, 116, 119, 111, 114, 107]⟩, .string x.p.mer, .string x.p.car, .int .i64 amt, .string x.p.cur, .int .i64 D, .int .i64 x.p.cat, .bool false] : Array Value)[3]? = some _ from rfl)
  have t4 := (bT.cell 4).trans (show (#[.int .i64 1, .string ⟨#[]⟩, .string ⟨#[]⟩, .string d.name, .string ⟨#[110, 101, 116, 119, 111, 114, 107]⟩, .string x.p.mer, .string x.p.car, .int .i64 amt, .string x.p.cur, .int .i64 D, .int .i64 x.p.cat, .bool false] : Array Value)[4]? = some _ from rfl)
  have t5 := (bT.cell 5).trans (show (#[.int .i64 1, .string ⟨#[]⟩, .string ⟨#[]⟩, .string d.name, .string ⟨#[110, 101, 116, 119, 111, 114, 107]⟩, .string x.p.mer, .string x.p.car, .int .i64 amt, .string x.p.cur, .int .i64 D, .int .i64 x.p.cat, .bool false] : Array Value)[5]? = some _ from rfl)
  have t6 := (bT.cell 6).trans (show (#[.int .i64 1, .string ⟨#[]⟩, .string ⟨#[]⟩, .string d.name, .string ⟨#[110, 101, 116, 119, 111, 114, 107]⟩, .string x.p.mer, .string x.p.car, .int .i64 amt, .string x.p.cur, .int .i64 D, .int .i64 x.p.cat, .bool false] : Array Value)[6]? = some _ from rfl)
  have t7 := (bT.cell 7).trans (show (#[.int .i64 1, .string ⟨#[]⟩, .string ⟨#[]⟩, .string d.name, .string ⟨#[110, 101, 116, 119, 111, 114, 107]⟩, .string x.p.mer, .string x.p.car, .int .i64 amt, .string x.p.cur, .int .i64 D, .int .i64 x.p.cat, .bool false] : Array Value)[7]? = some _ from rfl)
  have t8 := (bT.cell 8).trans (show (#[.int .i64 1, .string ⟨#[]⟩, .string ⟨#[]⟩, .string d.name, .string ⟨#[110, 101, 116, 119, 111, 114, 107]⟩, .string x.p.mer, .string x.p.car, .int .i64 amt, .string x.p.cur, .int .i64 D, .int .i64 x.p.cat, .bool false] : Array Value)[8]? = some _ from rfl)
  have t9 := (bT.cell 9).trans (show (#[.int .i64 1, .string ⟨#[]⟩, .string ⟨#[]⟩, .string d.name, .string ⟨#[110, 101, 116, 119, 111, 114, 107]⟩, .string x.p.mer, .string x.p.car, .int .i64 amt, .string x.p.cur, .int .i64 D, .int .i64 x.p.cat, .bool false] : Array Value)[9]? = some _ from rfl)
  have t10 := (bT.cell 10).trans (show (#[.int .i64 1, .string ⟨#[]⟩, .string ⟨#[]⟩, .string d.name, .string ⟨#[110, 101, 116, 119, 111, 114, 107]⟩, .string x.p.mer, .string x.p.car, .int .i64 amt, .string x.p.cur, .int .i64 D, .int .i64 x.p.cat, .bool false] : Array Value)[10]? = some _ from rfl)
  have t11 := (bT.cell 11).trans (show (#[.int .i64 1, .string ⟨#[]⟩, .string ⟨#[]⟩, .string d.name, .string ⟨#[110, 101, 116, 119, 111, 114, 107]⟩, .string x.p.mer, .string x.p.car, .int .i64 amt, .string x.p.cur, .int .i64 D, .int .i64 x.p.cat, .bool false] : Array Value)[11]? = some _ from rfl)
  have u1 := bT.fz 1
  have u2 := bT.fz 2
  have u11 := bT.fz 11
  have lT := bT.lt
  have hX4 := Lib.hid (hX3.out.ext hE24)
  have hF4 := Lib.hid (hF3.out.ext hE24)
  clear hX3 hF3 hE4 y13 lb2
  go_wp2_with fail
  obtain ⟨W5, hW5⟩ : ∃ W5, W5 = ((w4.setCell ⟨w2.heap.size, 1, none⟩ (.string (ref ++ ⟨#[45]⟩ ++ its))).setCell ⟨w2.heap.size, 2, none⟩ (.string ref)).setCell ⟨w2.heap.size, 11, none⟩ (.bool false) := ⟨_, rfl⟩
  have bT5 := ((bT.set 1 (.string (ref ++ ⟨#[45]⟩ ++ its))).set 2 (.string ref)).set 11 (.bool false)
  simp only [List.setIfInBounds_toArray, List.set_cons_zero, List.set_cons_succ] at bT5
  have hC5 : Chg (fun k => k = w2.heap.size) w4 W5 := by
   rw [hW5]
   exact Chg.setCell (F := fun k => k = w2.heap.size) (Chg.setCell (F := fun k => k = w2.heap.size) (Chg.setCell (F := fun k => k = w2.heap.size) (Chg.refl _ _) (p := ⟨w2.heap.size, 1, none⟩) (Or.inl rfl) _) (p := ⟨w2.heap.size, 2, none⟩) (Or.inl rfl) _) (p := ⟨w2.heap.size, 11, none⟩) (Or.inl rfl) _
  have hX5 := hX4.out.away (ts := [113]) (ms := []) (B' := 0) (hC5.mono fun k _ e => by subst e; exact Typ.of bT (Nat.zero_le _) (by simp)) (by decide) (by simp)
  have hF5 : Chg (HF B I w) w W5 := by
   rw [hW5]
   exact ((hF4.out.setCell (p := ⟨w2.heap.size, 1, none⟩) (Or.inr hsz) _).setCell (p := ⟨w2.heap.size, 2, none⟩) (Or.inr hsz) _).setCell (p := ⟨w2.heap.size, 11, none⟩) (Or.inr hsz) _
  rw [← hW5] at bT5
  first | rw [← hW5] | simp only [← hW5]
  clear hW5 t0 t1 t2 t3 t4 t5 t6 t7 t8 t9 t10 t11 u1 u2 u11 lT hX4 hF4 hC5 bT
  have s0 : W5.cell? ⟨w2.heap.size, 0, none⟩ = some (.int .i64 1) := (bT5.cell 0).trans rfl
  have s1 : W5.cell? ⟨w2.heap.size, 1, none⟩ = some (.string (ref ++ ⟨#[45]⟩ ++ its)) := (bT5.cell 1).trans rfl
  have s2 : W5.cell? ⟨w2.heap.size, 2, none⟩ = some (.string ref) := (bT5.cell 2).trans rfl
  have s3 : W5.cell? ⟨w2.heap.size, 3, none⟩ = some (.string d.name) := (bT5.cell 3).trans rfl
  have s4 : W5.cell? ⟨w2.heap.size, 4, none⟩ = some (.string ⟨#[110, 101, 116, 119, 111, 114, 107]⟩) := (bT5.cell 4).trans rfl
  have s5 : W5.cell? ⟨w2.heap.size, 5, none⟩ = some (.string x.p.mer) := (bT5.cell 5).trans rfl
  have s6 : W5.cell? ⟨w2.heap.size, 6, none⟩ = some (.string x.p.car) := (bT5.cell 6).trans rfl
  have s7 : W5.cell? ⟨w2.heap.size, 7, none⟩ = some (.int .i64 amt) := (bT5.cell 7).trans rfl
  have s8 : W5.cell? ⟨w2.heap.size, 8, none⟩ = some (.string x.p.cur) := (bT5.cell 8).trans rfl
  have s9 : W5.cell? ⟨w2.heap.size, 9, none⟩ = some (.int .i64 D) := (bT5.cell 9).trans rfl
  have s10 : W5.cell? ⟨w2.heap.size, 10, none⟩ = some (.int .i64 x.p.cat) := (bT5.cell 10).trans rfl
  have s11 : W5.cell? ⟨w2.heap.size, 11, none⟩ = some (.bool false) := (bT5.cell 11).trans rfl
  have lX5 := hX5.h.lt
  go_still_tail 4, (by kernel_rfl)
  change wpList _ _ _ _ _ W5.drew
  have hEd : Ext W5 W5.drew := (Ext.refl W5).drew
  generalize W5.drew = w6 at *
  have bT6 := bT5.ext hEd
  have hX6 := Lib.hid (hX5.ext hEd)
  have hF6 := Lib.hid (hF5.ext hEd)
  have t0 : w6.cell? ⟨w2.heap.size, 0, none⟩ = some (.int .i64 1) := (bT6.cell 0).trans rfl
  have t1 : w6.cell? ⟨w2.heap.size, 1, none⟩ = some (.string (ref ++ ⟨#[45]⟩ ++ its)) := (bT6.cell 1).trans rfl
  have t2 : w6.cell? ⟨w2.heap.size, 2, none⟩ = some (.string ref) := (bT6.cell 2).trans rfl
  have t3 : w6.cell? ⟨w2.heap.size, 3, none⟩ = some (.string d.name) := (bT6.cell 3).trans rfl
  have t4 : w6.cell? ⟨w2.heap.size, 4, none⟩ = some (.string ⟨#[110, 101, 116, 119, 111, 114, 107]⟩) := (bT6.cell 4).trans rfl
  have t5 : w6.cell? ⟨w2.heap.size, 5, none⟩ = some (.string x.p.mer) := (bT6.cell 5).trans rfl
  have t6 : w6.cell? ⟨w2.heap.size, 6, none⟩ = some (.string x.p.car) := (bT6.cell 6).trans rfl
  have t7 : w6.cell? ⟨w2.heap.size, 7, none⟩ = some (.int .i64 amt) := (bT6.cell 7).trans rfl
  have t8 : w6.cell? ⟨w2.heap.size, 8, none⟩ = some (.string x.p.cur) := (bT6.cell 8).trans rfl
  have t9 : w6.cell? ⟨w2.heap.size, 9, none⟩ = some (.int .i64 D) := (bT6.cell 9).trans rfl
  have t10 : w6.cell? ⟨w2.heap.size, 10, none⟩ = some (.int .i64 x.p.cat) := (bT6.cell 10).trans rfl
  have t11 : w6.cell? ⟨w2.heap.size, 11, none⟩ = some (.bool false) := (bT6.cell 11).trans rfl
  have lT6 := bT6.lt
  clear bT5 bT6 hX5 hF5 hEd s0 s1 s2 s3 s4 s5 s6 s7 s8 s9 s10 s11
  go_wp2_with fail
  refine (kAdd.out w6 hX6.out hF6.out).mono ?_
  rintro e w7 hp
  obtain ⟨rfl, hfin⟩ := hend.out w6 e w7 hF6.out hp
  replace hfin := Lib.hid hfin
  clear hp t0 t1 t2 t3 t4 t5 t6 t7 t8 t9 t10 t11
  go_wp2
  try go_ret
  exact hfin.out
end Go.Proofs.YtkggloeaojkhaaaGreatDoor
