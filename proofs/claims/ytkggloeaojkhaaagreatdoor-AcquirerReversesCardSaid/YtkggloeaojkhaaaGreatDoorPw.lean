/- Contracts of acquirer's Cancel, record, add (walks; printed by gen/h88.py). -/
import Derived.Test.YtkggloeaojkhaaaGreatDoorPv
namespace Go.Proofs.YtkggloeaojkhaaaGreatDoor
open Go.RowKit
/-- What Cancel does. -/
def canV (d : HostD) (at' : Int) (ref : ByteArray) : HostD × Int :=
 match sIx ref.data.toList (refsOf d) with
 | none => (d, 6)
 | some i => if permB d at' = false then (d, 14) else match d.sales[i]? with
  | none => (d, 8)
  | some x => if x.st ≠ 2 ∨ 0 < x.capt then (d, 8) else (revV { d with now := at' } i x at', 0)
def HCanP (B : Nat) (I : HostI) (d : HostD) (at' : Int) (ref : ByteArray) (w : World) (e : Ending) (w' : World) : Prop := e = .returned (.int .i64 (canV d at' ref).2) ∧ HostM w' B I (canV d at' ref).1 ∧ Chg (HF B I w) w w'
set_option maxRecDepth 8000 in
set_option maxHeartbeats 16000000 in
theorem hCan_any (B : Nat) (I : HostI) (d : HostD) (at' : Int) (ref : ByteArray) (w : World) (g : Gl w) (hGB : GB B) (hB : B ≤ w.heap.size) (h : HostM w B I d) (hr : ref.size ≤ 1000000) (hkn : d.q.known.length < 1000000) : Calls Tryz.prog 40 #[.pointer (some ⟨I.X, 0, none⟩), .int .i64 at', .string ref] w (HCanP B I d at' ref w) := by
 have kP := Lib.hid (fun w1 (hE : Ext w w1) => permitted_any B I d at' w1 (h.ext hE))
 unfold OneQ at kP
 obtain ⟨bs, sv, wv, hX0, ok⟩ := h
 have hX := Lib.hid hX0
 have y6 : w.cell? ⟨I.X, 6, none⟩ = some (.map (some I.R)) := hX0.h.cell 6
 rcases hX0.look ok hr with ⟨h1, hL⟩ | ⟨i, b, x, h1, hb, hx, -, hL⟩
 · have hend := Lib.hid (fun w' (hE : Ext w w') => show HCanP B I d at' ref w (.returned (.int .i64 6)) w' from by
    unfold HCanP canV
    rw [h1]
    exact ⟨rfl, ⟨bs, sv, wv, hX0.ext hE, ok⟩, Chg.ofExt hE⟩)
   generalize HCanP B I d at' ref w = PP at *
   have hl := hL w (Ext.refl _)
   have hq := ptrEq w
   clear hX0 ok h1 hL kP g
   go_enter Tryz.func40, Tryz.ntmps40
   go_wp2_with fail
   try go_ret
   exact hend.out _ xt
 by_cases c1 : permB d at' = false
 · rw [c1] at kP
   have hend := Lib.hid (fun w' (hE : Ext w w') => show HCanP B I d at' ref w (.returned (.int .i64 14)) w' from by
    unfold HCanP canV
    rw [h1]
    simp only
    rw [if_pos c1]
    exact ⟨rfl, ⟨bs, sv, wv, hX0.ext hE, ok⟩, Chg.ofExt hE⟩)
   generalize HCanP B I d at' ref w = PP at *
   have hl := hL w (Ext.refl _)
   have hq := ptrNe b w
   clear hX0 ok h1 hL g hb hx
   go_enter Tryz.func40, Tryz.ntmps40
   go_wp2_with fail
   refine (kP.out _ (Ext.refl _)).mono ?_
   rintro e w1 ⟨rfl, hE⟩
   go_wp2_with fail
   try go_ret
   exact hend.out _ hE
 have c1' : permB d at' = true := by simpa using c1
 rw [c1'] at kP
 have hcv : canV d at' ref = if x.st ≠ 2 ∨ 0 < x.capt then (d, 8) else (revV { d with now := at' } i x at', 0) := by
  unfold canV
  rw [h1]
  simp only
  rw [if_neg c1, hx]
 by_cases c2 : x.st ≠ 2 ∨ 0 < x.capt
 · have hend := Lib.hid (fun w' (hE : Ext w w') => show HCanP B I d at' ref w (.returned (.int .i64 8)) w' from by
    unfold HCanP
    rw [hcv, if_pos c2]
    exact ⟨rfl, ⟨bs, sv, wv, hX0.ext hE, ok⟩, Chg.ofExt hE⟩)
   generalize HCanP B I d at' ref w = PP at *
   have hl := hL w (Ext.refl _)
   have hq := ptrNe b w
   replace hL := Lib.hid hL
   replace hb := Lib.hid hb
   replace hx := Lib.hid hx
   have c3 : ¬ x.st = 2 ∨ (x.st = 2 ∧ 0 < x.capt) := by omega
   clear hX0 ok h1 g hcv c2
   rcases c3 with c3 | ⟨c3, c4⟩
   · have q1 : (x.st != 2) = true := by simp [c3]
     go_enter Tryz.func40, Tryz.ntmps40
     go_wp2_with fail
     refine (kP.out _ (Ext.refl _)).mono ?_
     rintro e w1 ⟨rfl, hE⟩
     have hl1 := hL.out w1 hE
     replace y6 := hE.get y6
     have y8 : w1.cell? ⟨b, 8, none⟩ = some (.int .i64 x.st) := (((hX.out.ext hE).e i b x hb.out hx.out).1.cell 8).trans rfl
     go_wp2_with fail
     try go_ret
     exact hend.out _ hE
   · have q1 : (x.st != 2) = false := by simp [c3]
     have q2 : decide (0 < x.capt) = true := decide_eq_true c4
     go_enter Tryz.func40, Tryz.ntmps40
     go_wp2_with fail
     refine (kP.out _ (Ext.refl _)).mono ?_
     rintro e w1 ⟨rfl, hE⟩
     have hl1 := hL.out w1 hE
     replace y6 := hE.get y6
     have y8 : w1.cell? ⟨b, 8, none⟩ = some (.int .i64 x.st) := (((hX.out.ext hE).e i b x hb.out hx.out).1.cell 8).trans rfl
     have y10 : w1.cell? ⟨b, 10, none⟩ = some (.int .i64 x.capt) := (((hX.out.ext hE).e i b x hb.out hx.out).1.cell 10).trans rfl
     go_wp2_with fail
     try go_ret
     exact hend.out _ hE
 have c3 : x.st = 2 ∧ ¬ 0 < x.capt := by omega
 have q1 : (x.st != 2) = false := by simp [c3.1]
 have q2 : decide (0 < x.capt) = false := decide_eq_false c3.2
 have hset := Lib.hid (fun w1 (hE : Ext w w1) => show HostX (w1.setCell ⟨I.X, 2, none⟩ (.int .i64 at')) B I bs sv wv { d with now := at' } ∧ Chg (HF B I w) w (w1.setCell ⟨I.X, 2, none⟩ (.int .i64 at')) ∧ (w1.frozen? ⟨I.X, 2, none⟩ = false ∧ (∃ u, w1.cell? ⟨I.X, 2, none⟩ = some u) ∧ I.X < w1.heap.size) from by
  have h2 := hX0.ext hE
  exact ⟨h2.setNow at', Typ.trans (Chg.ofExt hE) (HF.setNow h2 ok at'), h2.h.fz 2, ⟨_, (h2.h.cell 2).trans rfl⟩, h2.h.lt⟩)
 have kR := Lib.hid (fun w1 (hX1 : HostX w1 B I bs sv wv { d with now := at' }) (hF : Chg (HF B I w) w w1) => reverse_any B I bs sv wv { d with now := at' } i b x at' w1 (g.hf hF hGB) hGB (Nat.le_trans hB hF.size) hX1 (ok.setNow at') hb hx hkn)
 have hend := Lib.hid (fun w1 e w2 (hF : Chg (HF B I w) w w1) (hp : RevP B I bs sv wv { d with now := at' } i x at' w1 e w2) => show e = .returned (.tuple #[]) ∧ HCanP B I d at' ref w (.returned (.int .i64 0)) w2 from by
  obtain ⟨r1, r2, r3⟩ := hp
  unfold HCanP
  rw [hcv, if_neg c2]
  exact ⟨r1, rfl, ⟨bs, sv, wv, r2, revV_ok (ok.setNow at') i x at' hx⟩, Typ.trans hF r3⟩)
 generalize HCanP B I d at' ref w = PP at *
 have hl := hL w (Ext.refl _)
 have hq := ptrNe b w
 replace hL := Lib.hid hL
 replace hb := Lib.hid hb
 replace hx := Lib.hid hx
 clear hX0 ok h1 g hcv c2 c3
 unfold ptrV at kR
 go_enter Tryz.func40, Tryz.ntmps40
 go_wp2_with fail
 refine (kP.out _ (Ext.refl _)).mono ?_
 rintro e w1 ⟨rfl, hE⟩
 have hl1 := hL.out w1 hE
 replace y6 := hE.get y6
 have y8 : w1.cell? ⟨b, 8, none⟩ = some (.int .i64 x.st) := (((hX.out.ext hE).e i b x hb.out hx.out).1.cell 8).trans rfl
 have y10 : w1.cell? ⟨b, 10, none⟩ = some (.int .i64 x.capt) := (((hX.out.ext hE).e i b x hb.out hx.out).1.cell 10).trans rfl
 obtain ⟨hX2, hF2, z2, ⟨u2, x2⟩, lX⟩ := hset.out w1 hE
 go_wp2_with fail
 refine (kR.out _ hX2 hF2).mono ?_
 rintro e w3 hp
 obtain ⟨rfl, hfin⟩ := hend.out _ e w3 hF2 hp
 replace hfin := Lib.hid hfin
 clear hp hX2 hF2
 go_wp2
 try go_ret
 exact hfin.out
/-- What record returns. -/
def recD (nm : ByteArray) (x : SaleD) (amt date : Int) : Value := .agg #[.int .i64 0, .string ⟨#[]⟩, .string ⟨#[]⟩, .string nm, .string ⟨#[110, 101, 116, 119, 111, 114, 107]⟩, .string x.p.mer, .string x.p.car, .int .i64 amt, .string x.p.cur, .int .i64 date, .int .i64 x.p.cat, .bool false]
set_option maxRecDepth 8000 in
set_option maxHeartbeats 16000000 in
theorem record_any (X : Nat) (nm : ByteArray) (at' : Int) (s : SaleD) (amt : Int) (w : World) (hnm : w.cell? ⟨X, 0, none⟩ = some (.string nm)) : Calls Tryz.prog 76 #[.pointer (some ⟨X, 0, none⟩), .int .i64 at', salAgg s, .int .i64 amt] w (OneQ (recD nm s amt (dayV at').1) w) := by
 have kD := Lib.hid (fun w1 => day_any at' w1)
 unfold OneQ at kD
 unfold recD salAgg
 generalize (dayV at').1 = D at *
 generalize (dayV at').2 = D2 at *
 have hlX := cell_lt hnm
 simp only at hlX
 go_enter Tryz.func76, Tryz.ntmps76
 go_wp2_with fail
 refine (kD.out _).mono ?_
 rintro e w0 ⟨rfl, hEd⟩
 have hE0 : Ext w w0 := Ext.trans xt hEd
 have bX : Blk w0 w.heap.size #[.string s.ref, .string s.p.mer, .string s.p.ter, .string s.p.car, .int .i64 s.p.amt, .int .i64 s.p.least, .string s.p.cur, .int .i64 s.p.cat, .int .i64 s.st, .int .i64 s.appr, .int .i64 s.capt, .int .i64 s.refd] 44 := ((Blk.new w _ _).alloc _).ext hEd
 have bR : Blk w0 (w.heap.size + 1) #[.int .i64 0, .string ⟨#[]⟩, .string ⟨#[]⟩, .string ⟨#[]⟩, .string ⟨#[]⟩, .string ⟨#[]⟩, .string ⟨#[]⟩, .int .i64 0, .string ⟨#[]⟩, .int .i64 0, .int .i64 0, .bool false] 113 := (Blk.new' _ _ _ _ (by simp)).ext hEd
 have xn : w0.cell? ⟨X, 0, none⟩ = some (.string nm) := hE0.get hnm
 have x1 : w0.cell? ⟨w.heap.size, 1, none⟩ = some (.string s.p.mer) := (bX.cell 1).trans rfl
 have x3 : w0.cell? ⟨w.heap.size, 3, none⟩ = some (.string s.p.car) := (bX.cell 3).trans rfl
 have x6 : w0.cell? ⟨w.heap.size, 6, none⟩ = some (.string s.p.cur) := (bX.cell 6).trans rfl
 have x7 : w0.cell? ⟨w.heap.size, 7, none⟩ = some (.int .i64 s.p.cat) := (bX.cell 7).trans rfl
 clear hnm hEd bX kD
 replace bR := Lib.hid bR
 go_wp2_with fail
 refine wp_region_grow (by kernel_rfl) ?_
 refine grow_take (i := 0) (v := .pointer (some ⟨X, 0, none⟩)) rfl (by kernel_rfl) (by kernel_rfl) (by kernel_rfl) (fun _ _ _ h => h) ⟨by rfl, fun w' hE => Or.inl (by first | (go_simp; done) | (go_simp; with_reducible rfl) | rfl)⟩ ?_
 simp only [Act.put, List.setIfInBounds_toArray]
 refine grow_take (i := 1) (v := .pointer (some ⟨X, 0, none⟩)) rfl (by kernel_rfl) (by kernel_rfl) (by kernel_rfl) (fun _ _ _ h => h) ⟨by rfl, fun w' hE => Or.inl (by first | (go_simp; done) | (go_simp; with_reducible rfl) | rfl)⟩ ?_
 simp only [Act.put]
 refine grow_take (i := 2) (v := .pointer (some ⟨X, 0, none⟩)) rfl (by kernel_rfl) (by kernel_rfl) (by kernel_rfl) (fun _ _ _ h => h) ⟨by rfl, fun w' hE => Or.inl (by first | (go_simp; done) | (go_simp; with_reducible rfl) | rfl)⟩ ?_
 simp only [Act.put]
 refine grow_take (i := 3) (v := .string nm) rfl (by kernel_rfl) (by kernel_rfl) (by kernel_rfl) (fun _ _ _ h => h) ⟨by rfl, fun w' hE => Or.inl (by have y := hE.get (show w0.drew.cell? ⟨X, 0, none⟩ = some (.string nm) from xn); first | (go_simp; done) | (go_simp; with_reducible rfl))⟩ ?_
 simp only [Act.put]
 refine grow_take (i := 4) (v := .pointer (some ⟨w.heap.size, 1, none⟩)) rfl (by kernel_rfl) (by kernel_rfl) (by kernel_rfl) (fun _ _ _ h => h) ⟨by rfl, fun w' hE => Or.inl (by first | (go_simp; done) | (go_simp; with_reducible rfl) | rfl)⟩ ?_
 simp only [Act.put]
 refine grow_take (i := 5) (v := .pointer (some ⟨w.heap.size, 1, none⟩)) rfl (by kernel_rfl) (by kernel_rfl) (by kernel_rfl) (fun _ _ _ h => h) ⟨by rfl, fun w' hE => Or.inl (by first | (go_simp; done) | (go_simp; with_reducible rfl) | rfl)⟩ ?_
 simp only [Act.put]
 refine grow_take (i := 6) (v := .string s.p.mer) rfl (by kernel_rfl) (by kernel_rfl) (by kernel_rfl) (fun _ _ _ h => h) ⟨by rfl, fun w' hE => Or.inl (by have y := hE.get (show w0.drew.cell? ⟨w.heap.size, 1, none⟩ = some (.string s.p.mer) from x1); first | (go_simp; done) | (go_simp; with_reducible rfl))⟩ ?_
 simp only [Act.put]
 refine grow_take (i := 7) (v := .pointer (some ⟨w.heap.size, 1, none⟩)) rfl (by kernel_rfl) (by kernel_rfl) (by kernel_rfl) (fun _ _ _ h => h) ⟨by rfl, fun w' hE => Or.inl (by first | (go_simp; done) | (go_simp; with_reducible rfl) | rfl)⟩ ?_
 simp only [Act.put]
 refine grow_take (i := 8) (v := .pointer (some ⟨w.heap.size, 3, none⟩)) rfl (by kernel_rfl) (by kernel_rfl) (by kernel_rfl) (fun _ _ _ h => h) ⟨by rfl, fun w' hE => Or.inl (by first | (go_simp; done) | (go_simp; with_reducible rfl) | rfl)⟩ ?_
 simp only [Act.put]
 refine grow_take (i := 9) (v := .string s.p.car) rfl (by kernel_rfl) (by kernel_rfl) (by kernel_rfl) (fun _ _ _ h => h) ⟨by rfl, fun w' hE => Or.inl (by have y := hE.get (show w0.drew.cell? ⟨w.heap.size, 3, none⟩ = some (.string s.p.car) from x3); first | (go_simp; done) | (go_simp; with_reducible rfl))⟩ ?_
 simp only [Act.put]
 refine grow_take (i := 10) (v := .int .i64 amt) rfl (by kernel_rfl) (by kernel_rfl) (by kernel_rfl) (fun _ _ _ h => h) ⟨by rfl, fun w' hE => Or.inl (by first | (go_simp; done) | (go_simp; with_reducible rfl) | rfl)⟩ ?_
 simp only [Act.put]
 refine grow_take (i := 11) (v := .pointer (some ⟨w.heap.size, 1, none⟩)) rfl (by kernel_rfl) (by kernel_rfl) (by kernel_rfl) (fun _ _ _ h => h) ⟨by rfl, fun w' hE => Or.inl (by first | (go_simp; done) | (go_simp; with_reducible rfl) | rfl)⟩ ?_
 simp only [Act.put]
 refine grow_take (i := 12) (v := .pointer (some ⟨w.heap.size, 6, none⟩)) rfl (by kernel_rfl) (by kernel_rfl) (by kernel_rfl) (fun _ _ _ h => h) ⟨by rfl, fun w' hE => Or.inl (by first | (go_simp; done) | (go_simp; with_reducible rfl) | rfl)⟩ ?_
 simp only [Act.put]
 refine grow_take (i := 13) (v := .string s.p.cur) rfl (by kernel_rfl) (by kernel_rfl) (by kernel_rfl) (fun _ _ _ h => h) ⟨by rfl, fun w' hE => Or.inl (by have y := hE.get (show w0.drew.cell? ⟨w.heap.size, 6, none⟩ = some (.string s.p.cur) from x6); first | (go_simp; done) | (go_simp; with_reducible rfl))⟩ ?_
 simp only [Act.put]
 refine grow_take (i := 14) (v := .agg #[.int .i64 amt, .string s.p.cur]) rfl (by kernel_rfl) (by kernel_rfl) (by kernel_rfl) (fun _ _ _ h => h) ⟨by rfl, fun w' hE => Or.inl (by first | (go_simp; done) | (go_simp; with_reducible rfl) | rfl)⟩ ?_
 simp only [Act.put]
 refine grow_take (i := 15) (v := .int .i64 D) rfl (by kernel_rfl) (by kernel_rfl) (by kernel_rfl) (fun _ _ _ h => h) ⟨by rfl, fun w' hE => Or.inl (by first | (go_simp; done) | (go_simp; with_reducible rfl) | rfl)⟩ ?_
 simp only [Act.put]
 refine grow_take (i := 16) (v := .pointer (some ⟨w.heap.size, 1, none⟩)) rfl (by kernel_rfl) (by kernel_rfl) (by kernel_rfl) (fun _ _ _ h => h) ⟨by rfl, fun w' hE => Or.inl (by first | (go_simp; done) | (go_simp; with_reducible rfl) | rfl)⟩ ?_
 simp only [Act.put]
 refine grow_take (i := 17) (v := .pointer (some ⟨w.heap.size, 7, none⟩)) rfl (by kernel_rfl) (by kernel_rfl) (by kernel_rfl) (fun _ _ _ h => h) ⟨by rfl, fun w' hE => Or.inl (by first | (go_simp; done) | (go_simp; with_reducible rfl) | rfl)⟩ ?_
 simp only [Act.put]
 refine grow_take (i := 18) (v := .int .i64 s.p.cat) rfl (by kernel_rfl) (by kernel_rfl) (by kernel_rfl) (fun _ _ _ h => h) ⟨by rfl, fun w' hE => Or.inl (by have y := hE.get (show w0.drew.cell? ⟨w.heap.size, 7, none⟩ = some (.int .i64 s.p.cat) from x7); first | (go_simp; done) | (go_simp; with_reducible rfl))⟩ ?_
 simp only [Act.put]
 refine grow_take (i := 19) (v := .agg #[.int .i64 0, .string ⟨#[]⟩, .string ⟨#[]⟩, .string nm, .string ⟨#[110, 101, 116, 119, 111, 114, 107]⟩, .string s.p.mer, .string s.p.car, .int .i64 amt, .string s.p.cur, .int .i64 D, .int .i64 s.p.cat, .bool false]) rfl (by kernel_rfl) (by kernel_rfl) (by kernel_rfl) (fun _ _ _ h => h) ⟨by rfl, fun w' hE => Or.inl (by first | (go_simp; done) | (go_simp; with_reducible rfl) | rfl)⟩ ?_
 simp only [Act.put]
 refine grow_one (i := 20) rfl (by kernel_rfl) (by rfl) (fun w3 hE3 => ?_)
 have bR3 := (bR.out.ext (Ext.drew (Ext.refl _))).ext hE3
 have hE4 := Lib.hid (hE0.trans ((Ext.drew (Ext.refl _)).trans hE3))
 have y0 := (bR3.cell 0).trans (show (#[.int .i64 0, .string ⟨#[]⟩, .string ⟨#[]⟩, .string ⟨#[]⟩, .string ⟨#[]⟩, .string ⟨#[]⟩, .string ⟨#[]⟩, .int .i64 0, .string ⟨#[]⟩, .int .i64 0, .int .i64 0, .bool false] : Array Value)[0]? = some _ from rfl)
 have z0 := bR3.fz 0
 have y1 := (bR3.cell 1).trans (show (#[.int .i64 0, .string ⟨#[]⟩, .string ⟨#[]⟩, .string ⟨#[]⟩, .string ⟨#[]⟩, .string ⟨#[]⟩, .string ⟨#[]⟩, .int .i64 0, .string ⟨#[]⟩, .int .i64 0, .int .i64 0, .bool false] : Array Value)[1]? = some _ from rfl)
 have z1 := bR3.fz 1
 have y2 := (bR3.cell 2).trans (show (#[.int .i64 0, .string ⟨#[]⟩, .string ⟨#[]⟩, .string ⟨#[]⟩, .string ⟨#[]⟩, .string ⟨#[]⟩, .string ⟨#[]⟩, .int .i64 0, .string ⟨#[]⟩, .int .i64 0, .int .i64 0, .bool false] : Array Value)[2]? = some _ from rfl)
 have z2 := bR3.fz 2
 have y3 := (bR3.cell 3).trans (show (#[.int .i64 0, .string ⟨#[]⟩, .string ⟨#[]⟩, .string ⟨#[]⟩, .string ⟨#[]⟩, .string ⟨#[]⟩, .string ⟨#[]⟩, .int .i64 0, .string ⟨#[]⟩, .int .i64 0, .int .i64 0, .bool false] : Array Value)[3]? = some _ from rfl)
 have z3 := bR3.fz 3
 have y4 := (bR3.cell 4).trans (show (#[.int .i64 0, .string ⟨#[]⟩, .string ⟨#[]⟩, .string ⟨#[]⟩, .string ⟨#[]⟩, .string ⟨#[]⟩, .string ⟨#[]⟩, .int .i64 0, .string ⟨#[]⟩, .int .i64 0, .int .i64 0, .bool false] : Array Value)[4]? = some _ from rfl)
 have z4 := bR3.fz 4
 have y5 := (bR3.cell 5).trans (show (#[.int .i64 0, .string ⟨#[]⟩, .string ⟨#[]⟩, .string ⟨#[]⟩, .string ⟨#[]⟩, .string ⟨#[]⟩, .string ⟨#[]⟩, .int .i64 0, .string ⟨#[]⟩, .int .i64 0, .int .i64 0, .bool false] : Array Value)[5]? = some _ from rfl)
 have z5 := bR3.fz 5
 have y6 := (bR3.cell 6).trans (show (#[.int .i64 0, .string ⟨#[]⟩, .string ⟨#[]⟩, .string ⟨#[]⟩, .string ⟨#[]⟩, .string ⟨#[]⟩, .string ⟨#[]⟩, .int .i64 0, .string ⟨#[]⟩, .int .i64 0, .int .i64 0, .bool false] : Array Value)[6]? = some _ from rfl)
 have z6 := bR3.fz 6
 have y7 := (bR3.cell 7).trans (show (#[.int .i64 0, .string ⟨#[]⟩, .string ⟨#[]⟩, .string ⟨#[]⟩, .string ⟨#[]⟩, .string ⟨#[]⟩, .string ⟨#[]⟩, .int .i64 0, .string ⟨#[]⟩, .int .i64 0, .int .i64 0, .bool false] : Array Value)[7]? = some _ from rfl)
 have z7 := bR3.fz 7
 have y8 := (bR3.cell 8).trans (show (#[.int .i64 0, .string ⟨#[]⟩, .string ⟨#[]⟩, .string ⟨#[]⟩, .string ⟨#[]⟩, .string ⟨#[]⟩, .string ⟨#[]⟩, .int .i64 0, .string ⟨#[]⟩, .int .i64 0, .int .i64 0, .bool false] : Array Value)[8]? = some _ from rfl)
 have z8 := bR3.fz 8
 have y9 := (bR3.cell 9).trans (show (#[.int .i64 0, .string ⟨#[]⟩, .string ⟨#[]⟩, .string ⟨#[]⟩, .string ⟨#[]⟩, .string ⟨#[]⟩, .string ⟨#[]⟩, .int .i64 0, .string ⟨#[]⟩, .int .i64 0, .int .i64 0, .bool false] : Array Value)[9]? = some _ from rfl)
 have z9 := bR3.fz 9
 have y10 := (bR3.cell 10).trans (show (#[.int .i64 0, .string ⟨#[]⟩, .string ⟨#[]⟩, .string ⟨#[]⟩, .string ⟨#[]⟩, .string ⟨#[]⟩, .string ⟨#[]⟩, .int .i64 0, .string ⟨#[]⟩, .int .i64 0, .int .i64 0, .bool false] : Array Value)[10]? = some _ from rfl)
 have z10 := bR3.fz 10
 have y11 := (bR3.cell 11).trans (show (#[.int .i64 0, .string ⟨#[]⟩, .string ⟨#[]⟩, .string ⟨#[]⟩, .string ⟨#[]⟩, .string ⟨#[]⟩, .string ⟨#[]⟩, .int .i64 0, .string ⟨#[]⟩, .int .i64 0, .int .i64 0, .bool false] : Array Value)[11]? = some _ from rfl)
 have z11 := bR3.fz 11
 have hl3 := bR3.lt
 clear x1 x3 x6 x7 xn hE0 hE3 bR
 go_simp
 refine ⟨Or.inr (by kernel_rfl), ?_⟩
 refine grow_end (by kernel_rfl) (fun w4 hE5 => ?_) _
 have bR4 := (((((((((((((bR3.set 0 (.int .i64 0)).set 1 (.string ⟨#[]⟩)).set 2 (.string ⟨#[]⟩)).set 3 (.string nm)).set 4 (.string ⟨#[110, 101, 116, 119, 111, 114, 107]⟩)).set 5 (.string s.p.mer)).set 6 (.string s.p.car)).set 7 (.int .i64 amt)).set 8 (.string s.p.cur)).set 9 (.int .i64 D)).set 10 (.int .i64 s.p.cat)).set 11 (.bool false))).ext hE5
 simp only [List.setIfInBounds_toArray, List.set_cons_zero, List.set_cons_succ] at bR4
 have hE6 := (((((((((((((hE4.out.setCell (p := ⟨w.heap.size + 1, 0, none⟩) (by simp) (.int .i64 0)).setCell (p := ⟨w.heap.size + 1, 1, none⟩) (by simp) (.string ⟨#[]⟩)).setCell (p := ⟨w.heap.size + 1, 2, none⟩) (by simp) (.string ⟨#[]⟩)).setCell (p := ⟨w.heap.size + 1, 3, none⟩) (by simp) (.string nm)).setCell (p := ⟨w.heap.size + 1, 4, none⟩) (by simp) (.string ⟨#[110, 101, 116, 119, 111, 114, 107]⟩)).setCell (p := ⟨w.heap.size + 1, 5, none⟩) (by simp) (.string s.p.mer)).setCell (p := ⟨w.heap.size + 1, 6, none⟩) (by simp) (.string s.p.car)).setCell (p := ⟨w.heap.size + 1, 7, none⟩) (by simp) (.int .i64 amt)).setCell (p := ⟨w.heap.size + 1, 8, none⟩) (by simp) (.string s.p.cur)).setCell (p := ⟨w.heap.size + 1, 9, none⟩) (by simp) (.int .i64 D)).setCell (p := ⟨w.heap.size + 1, 10, none⟩) (by simp) (.int .i64 s.p.cat)).setCell (p := ⟨w.heap.size + 1, 11, none⟩) (by simp) (.bool false))).trans hE5
 have r0 : w4.cell? ⟨w.heap.size + 1, 0, none⟩ = some (.int .i64 0) := (bR4.cell 0).trans rfl
 have r1 : w4.cell? ⟨w.heap.size + 1, 1, none⟩ = some (.string ⟨#[]⟩) := (bR4.cell 1).trans rfl
 have r2 : w4.cell? ⟨w.heap.size + 1, 2, none⟩ = some (.string ⟨#[]⟩) := (bR4.cell 2).trans rfl
 have r3 : w4.cell? ⟨w.heap.size + 1, 3, none⟩ = some (.string nm) := (bR4.cell 3).trans rfl
 have r4 : w4.cell? ⟨w.heap.size + 1, 4, none⟩ = some (.string ⟨#[110, 101, 116, 119, 111, 114, 107]⟩) := (bR4.cell 4).trans rfl
 have r5 : w4.cell? ⟨w.heap.size + 1, 5, none⟩ = some (.string s.p.mer) := (bR4.cell 5).trans rfl
 have r6 : w4.cell? ⟨w.heap.size + 1, 6, none⟩ = some (.string s.p.car) := (bR4.cell 6).trans rfl
 have r7 : w4.cell? ⟨w.heap.size + 1, 7, none⟩ = some (.int .i64 amt) := (bR4.cell 7).trans rfl
 have r8 : w4.cell? ⟨w.heap.size + 1, 8, none⟩ = some (.string s.p.cur) := (bR4.cell 8).trans rfl
 have r9 : w4.cell? ⟨w.heap.size + 1, 9, none⟩ = some (.int .i64 D) := (bR4.cell 9).trans rfl
 have r10 : w4.cell? ⟨w.heap.size + 1, 10, none⟩ = some (.int .i64 s.p.cat) := (bR4.cell 10).trans rfl
 have r11 : w4.cell? ⟨w.heap.size + 1, 11, none⟩ = some (.bool false) := (bR4.cell 11).trans rfl
 clear bR4 bR3 hE4 hE5 hl3 y0 z0 y1 z1 y2 z2 y3 z3 y4 z4 y5 z5 y6 z6 y7 z7 y8 z8 y9 z9 y10 z10 y11 z11
 clear w3
 go_wp2
 exact bodyPost_ret (v := .agg #[.int .i64 0, .string ⟨#[]⟩, .string ⟨#[]⟩, .string nm, .string ⟨#[110, 101, 116, 119, 111, 114, 107]⟩, .string s.p.mer, .string s.p.car, .int .i64 amt, .string s.p.cur, .int .i64 D, .int .i64 s.p.cat, .bool false]) (by simp [results, Tryz.results76, go_sem, r0, r1, r2, r3, r4, r5, r6, r7, r8, r9, r10, r11]) rfl ⟨rfl, hE6⟩
end Go.Proofs.YtkggloeaojkhaaaGreatDoor
