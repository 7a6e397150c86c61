/- Digits as fixed strings; contract of acquirer's reversal (walks; printed by gen/h80.py). -/
import Derived.Test.YtkggloeaojkhaaaGreatDoorPj
import Derived.Test.YtkggloeaojkhaaaGreatDoorPk
import Derived.Test.YtkggloeaojkhaaaGreatDoorQn
namespace Go.Proofs.YtkggloeaojkhaaaGreatDoor
open Go.RowKit
/-- The last w digits of n, as a string. -/
def digS (wd n : Nat) : ByteArray := ⟨(digW wd n).toArray⟩
theorem digS_list (wd n : Nat) : (digS wd n).data.toList = digW wd n := rfl
theorem digS_size (wd n : Nat) : (digS wd n).size = wd := by rw [← plen_list, digS_list, digW_len]
theorem bytesOf {r : ByteArray} {l : List UInt8} (h : r.data.toList = l) : r = ⟨l.toArray⟩ := by
 apply Go.WideShapes.bytes_inj
 rw [h]
theorem adigits_fix (n wd : Nat) (w : World) (g : Gw w) (h : n < 10 ^ wd) (h1 : 1 ≤ wd ∧ wd ≤ 18) : Calls Tryz.prog 59 #[.int .i64 n, .int .i64 wd] w (fun e w' => e = .returned (.string (digS wd n)) ∧ Ext w w') := by
 have h2 : (10 : Nat) ^ wd ≤ 10 ^ 18 := Nat.pow_le_pow_right (by decide) h1.2
 refine (adigits_any n wd w g (by omega) (by omega)).mono ?_
 rintro e w' ⟨r, rfl, hr, hE⟩
 rw [padL_eq wd n h1.1 h] at hr
 rw [bytesOf hr]
 exact ⟨rfl, hE⟩
/-- The elements that lie in a block known whole. -/
theorem elems_blk {w : World} {b : Nat} {cs : Array Value} {T : TypeId} (es : List El) (h : Blk w b cs T) (hc : cs.toList = elCells es) (n c : Nat) (hn : n = es.length) : Elems w (.slice (some ⟨b, 0, none⟩) n c) es := by
 subst hn
 refine ⟨_, _, rfl, fun _ => ⟨b, 0, rfl, fun i hi => ?_⟩⟩
 obtain ⟨h1, h2⟩ := elCells_at es i hi
 rw [← hc, Array.getElem?_toList] at h1 h2
 rw [Nat.zero_add]
 exact ⟨(h.cell _).trans h1, (h.cell _).trans h2⟩
/-- What a call that returns a message leaves. -/
def MsgP (ty : Int) (es : List El) (w : World) (e : Ending) (w' : World) : Prop := ∃ v, e = .returned (msgAgg ty v) ∧ Elems w' v es ∧ Ext w w'
/-- The elements of a reversal. -/
def revEs (nm : ByteArray) (n : Nat) (ref : ByteArray) (s : SaleD) : List El := [(2, s.p.car), (4, digS 12 s.p.amt.toNat), (11, digS 6 n), (32, nm), (37, ref), (49, s.p.cur), (56, s.ref)]
set_option maxRecDepth 8000 in
set_option maxHeartbeats 8000000 in
theorem reversal_any (X : Nat) (nm : ByteArray) (n : Nat) (ref : ByteArray) (s : SaleD) (w : World) (g : Gw w) (hnm : w.cell? ⟨X, 0, none⟩ = some (.string nm)) (hn : n ≤ 999999) (ha : 0 ≤ s.p.amt ∧ s.p.amt ≤ 999999999999) : Calls Tryz.prog 61 #[.pointer (some ⟨X, 0, none⟩), .int .i64 n, .string ref, salAgg s] w (MsgP 420 (revEs nm n ref s) w) := by
 have kD := Lib.hid (fun n wd w1 (g1 : Gw w1) h h1 => adigits_fix n wd w1 g1 h h1)
 obtain ⟨A, hA⟩ : ∃ A : Nat, s.p.amt = (A : Int) := ⟨s.p.amt.toNat, by omega⟩
 have hA12 := Lib.hid (show A < 10 ^ 12 by omega)
 have hn6 := Lib.hid (show n < 10 ^ 6 by omega)
 have hfin := Lib.hid (fun (Bs : Nat) (w' : World) (h : Blk w' Bs #[.int .i64 2, .string s.p.car, .int .i64 4, .string (digS 12 A), .int .i64 11, .string (digS 6 n), .int .i64 32, .string nm, .int .i64 37, .string ref, .int .i64 49, .string s.p.cur, .int .i64 56, .string s.ref] 97) (hE : Ext w w') => show MsgP 420 (revEs nm n ref s) w (.returned (.agg #[.int .i64 420, .slice (some ⟨Bs, 0, none⟩) 7 7])) w' from ⟨_, rfl, elems_blk _ h (by unfold revEs; rw [hA]; rfl) 7 7 rfl, hE⟩)
 generalize MsgP 420 (revEs nm n ref s) w = PP at *
 unfold salAgg
 rw [hA]
 have hlX := cell_lt hnm
 simp only at hlX
 go_enter Tryz.func61, Tryz.ntmps61
 go_wp2_with fail
 have hE0 : Ext w ((w.alloc (.cells #[.string s.ref, .string s.p.mer, .string s.p.ter, .string s.p.car, .int .i64 A, .int .i64 s.p.least, .string s.p.cur, .int .i64 s.p.cat, .int .i64 s.st, .int .i64 s.appr, .int .i64 s.capt, .int .i64 s.refd] 44)).alloc (.cells #[.int .i64 0, .slice none 0 0] 29)) := xt
 have bX : Blk ((w.alloc (.cells #[.string s.ref, .string s.p.mer, .string s.p.ter, .string s.p.car, .int .i64 A, .int .i64 s.p.least, .string s.p.cur, .int .i64 s.p.cat, .int .i64 s.st, .int .i64 s.appr, .int .i64 s.capt, .int .i64 s.refd] 44)).alloc (.cells #[.int .i64 0, .slice none 0 0] 29)) w.heap.size #[.string s.ref, .string s.p.mer, .string s.p.ter, .string s.p.car, .int .i64 A, .int .i64 s.p.least, .string s.p.cur, .int .i64 s.p.cat, .int .i64 s.st, .int .i64 s.appr, .int .i64 s.capt, .int .i64 s.refd] 44 := (Blk.new w _ _).alloc _
 have bR : Blk ((w.alloc (.cells #[.string s.ref, .string s.p.mer, .string s.p.ter, .string s.p.car, .int .i64 A, .int .i64 s.p.least, .string s.p.cur, .int .i64 s.p.cat, .int .i64 s.st, .int .i64 s.appr, .int .i64 s.capt, .int .i64 s.refd] 44)).alloc (.cells #[.int .i64 0, .slice none 0 0] 29)) (w.heap.size + 1) #[.int .i64 0, .slice none 0 0] 29 := Blk.new' _ _ _ _ (by simp)
 obtain ⟨w0, hw0⟩ : ∃ w0, w0 = (w.alloc (.cells #[.string s.ref, .string s.p.mer, .string s.p.ter, .string s.p.car, .int .i64 A, .int .i64 s.p.least, .string s.p.cur, .int .i64 s.p.cat, .int .i64 s.st, .int .i64 s.appr, .int .i64 s.capt, .int .i64 s.refd] 44)).alloc (.cells #[.int .i64 0, .slice none 0 0] 29) := ⟨_, rfl⟩
 rw [← hw0] at hE0 bX bR
 first | rw [← hw0] | simp only [← hw0]
 clear hw0
 have hg := Lib.hid (g.ext hE0)
 have xn : w0.cell? ⟨X, 0, none⟩ = some (.string nm) := hE0.get hnm
 have x0 : w0.cell? ⟨w.heap.size, 0, none⟩ = some (.string s.ref) := (bX.cell 0).trans rfl
 have x3 : w0.cell? ⟨w.heap.size, 3, none⟩ = some (.string s.p.car) := (bX.cell 3).trans rfl
 have x4 : w0.cell? ⟨w.heap.size, 4, none⟩ = some (.int .i64 A) := (bX.cell 4).trans rfl
 have x6 : w0.cell? ⟨w.heap.size, 6, none⟩ = some (.string s.p.cur) := (bX.cell 6).trans rfl
 clear hnm hA ha hn g bX
 replace bR := Lib.hid bR
 refine wp_region_grow (by kernel_rfl) ?_
 refine grow_take (i := 0) (v := .pointer (some ⟨w.heap.size, 1, none⟩)) rfl (by kernel_rfl) (by kernel_rfl) (by kernel_rfl) (fun _ _ _ h => h) ⟨by rfl, fun w' hE => Or.inl (by first | (go_simp; done) | (go_simp; with_reducible rfl) | rfl)⟩ ?_
 simp only [Act.put, List.setIfInBounds_toArray]
 refine grow_take (i := 1) (v := .pointer (some ⟨w.heap.size, 3, none⟩)) rfl (by kernel_rfl) (by kernel_rfl) (by kernel_rfl) (fun _ _ _ h => h) ⟨by rfl, fun w' hE => Or.inl (by first | (go_simp; done) | (go_simp; with_reducible rfl) | rfl)⟩ ?_
 simp only [Act.put]
 refine grow_take (i := 2) (v := .string s.p.car) rfl (by kernel_rfl) (by kernel_rfl) (by kernel_rfl) (fun _ _ _ h => h) ⟨by rfl, fun w' hE => Or.inl (by have y := hE.get (show w0.drew.cell? ⟨w.heap.size, 3, none⟩ = some (.string s.p.car) from x3); first | (go_simp; done) | (go_simp; with_reducible rfl))⟩ ?_
 simp only [Act.put]
 refine grow_take (i := 3) (v := .agg #[.int .i64 2, .string s.p.car]) rfl (by kernel_rfl) (by kernel_rfl) (by kernel_rfl) (fun _ _ _ h => h) ⟨by rfl, fun w' hE => Or.inl (by first | (go_simp; done) | (go_simp; with_reducible rfl) | rfl)⟩ ?_
 simp only [Act.put]
 refine grow_take (i := 4) (v := .pointer (some ⟨w.heap.size, 1, none⟩)) rfl (by kernel_rfl) (by kernel_rfl) (by kernel_rfl) (fun _ _ _ h => h) ⟨by rfl, fun w' hE => Or.inl (by first | (go_simp; done) | (go_simp; with_reducible rfl) | rfl)⟩ ?_
 simp only [Act.put]
 refine grow_take (i := 5) (v := .pointer (some ⟨w.heap.size, 4, none⟩)) rfl (by kernel_rfl) (by kernel_rfl) (by kernel_rfl) (fun _ _ _ h => h) ⟨by rfl, fun w' hE => Or.inl (by first | (go_simp; done) | (go_simp; with_reducible rfl) | rfl)⟩ ?_
 simp only [Act.put]
 refine grow_take (i := 6) (v := .int .i64 A) rfl (by kernel_rfl) (by kernel_rfl) (by kernel_rfl) (fun _ _ _ h => h) ⟨by rfl, fun w' hE => Or.inl (by have y := hE.get (show w0.drew.cell? ⟨w.heap.size, 4, none⟩ = some (.int .i64 A) from x4); first | (go_simp; done) | (go_simp; with_reducible rfl))⟩ ?_
 simp only [Act.put]
 refine grow_take (i := 7) (v := .string (digS 12 A)) rfl (by kernel_rfl) (by kernel_rfl) (by kernel_rfl) (fun _ _ _ h => h) ⟨by rfl, fun w' hE => Or.inr ⟨59, #[.int .i64 A, .int .i64 12], (by first | (go_simp; done) | (go_simp; with_reducible rfl) | rfl), kD.out A 12 w' (hg.out.ext ((Ext.drew (Ext.refl _)).trans hE)) hA12.out (by decide)⟩⟩ ?_
 simp only [Act.put]
 refine grow_take (i := 8) (v := .agg #[.int .i64 4, .string (digS 12 A)]) rfl (by kernel_rfl) (by kernel_rfl) (by kernel_rfl) (fun _ _ _ h => h) ⟨by rfl, fun w' hE => Or.inl (by first | (go_simp; done) | (go_simp; with_reducible rfl) | rfl)⟩ ?_
 simp only [Act.put]
 refine grow_take (i := 9) (v := .int .i64 n) rfl (by kernel_rfl) (by kernel_rfl) (by kernel_rfl) (fun _ _ _ h => h) ⟨by rfl, fun w' hE => Or.inl (by first | (go_simp; done) | (go_simp; with_reducible rfl) | rfl)⟩ ?_
 simp only [Act.put]
 refine grow_take (i := 10) (v := .string (digS 6 n)) rfl (by kernel_rfl) (by kernel_rfl) (by kernel_rfl) (fun _ _ _ h => h) ⟨by rfl, fun w' hE => Or.inr ⟨59, #[.int .i64 n, .int .i64 6], (by first | (go_simp; done) | (go_simp; with_reducible rfl) | rfl), kD.out n 6 w' (hg.out.ext ((Ext.drew (Ext.refl _)).trans hE)) hn6.out (by decide)⟩⟩ ?_
 simp only [Act.put]
 refine grow_take (i := 11) (v := .agg #[.int .i64 11, .string (digS 6 n)]) rfl (by kernel_rfl) (by kernel_rfl) (by kernel_rfl) (fun _ _ _ h => h) ⟨by rfl, fun w' hE => Or.inl (by first | (go_simp; done) | (go_simp; with_reducible rfl) | rfl)⟩ ?_
 simp only [Act.put]
 refine grow_take (i := 12) (v := .pointer (some ⟨X, 0, none⟩)) rfl (by kernel_rfl) (by kernel_rfl) (by kernel_rfl) (fun _ _ _ h => h) ⟨by rfl, fun w' hE => Or.inl (by first | (go_simp; done) | (go_simp; with_reducible rfl) | rfl)⟩ ?_
 simp only [Act.put]
 refine grow_take (i := 13) (v := .pointer (some ⟨X, 0, none⟩)) rfl (by kernel_rfl) (by kernel_rfl) (by kernel_rfl) (fun _ _ _ h => h) ⟨by rfl, fun w' hE => Or.inl (by first | (go_simp; done) | (go_simp; with_reducible rfl) | rfl)⟩ ?_
 simp only [Act.put]
 refine grow_take (i := 14) (v := .pointer (some ⟨X, 0, none⟩)) rfl (by kernel_rfl) (by kernel_rfl) (by kernel_rfl) (fun _ _ _ h => h) ⟨by rfl, fun w' hE => Or.inl (by first | (go_simp; done) | (go_simp; with_reducible rfl) | rfl)⟩ ?_
 simp only [Act.put]
 refine grow_take (i := 15) (v := .string nm) rfl (by kernel_rfl) (by kernel_rfl) (by kernel_rfl) (fun _ _ _ h => h) ⟨by rfl, fun w' hE => Or.inl (by have y := hE.get (show w0.drew.cell? ⟨X, 0, none⟩ = some (.string nm) from xn); first | (go_simp; done) | (go_simp; with_reducible rfl))⟩ ?_
 simp only [Act.put]
 refine grow_take (i := 16) (v := .agg #[.int .i64 32, .string nm]) rfl (by kernel_rfl) (by kernel_rfl) (by kernel_rfl) (fun _ _ _ h => h) ⟨by rfl, fun w' hE => Or.inl (by first | (go_simp; done) | (go_simp; with_reducible rfl) | rfl)⟩ ?_
 simp only [Act.put]
 refine grow_take (i := 17) (v := .string ref) rfl (by kernel_rfl) (by kernel_rfl) (by kernel_rfl) (fun _ _ _ h => h) ⟨by rfl, fun w' hE => Or.inl (by first | (go_simp; done) | (go_simp; with_reducible rfl) | rfl)⟩ ?_
 simp only [Act.put]
 refine grow_take (i := 18) (v := .agg #[.int .i64 37, .string ref]) rfl (by kernel_rfl) (by kernel_rfl) (by kernel_rfl) (fun _ _ _ h => h) ⟨by rfl, fun w' hE => Or.inl (by first | (go_simp; done) | (go_simp; with_reducible rfl) | rfl)⟩ ?_
 simp only [Act.put]
 refine grow_take (i := 19) (v := .pointer (some ⟨w.heap.size, 1, none⟩)) rfl (by kernel_rfl) (by kernel_rfl) (by kernel_rfl) (fun _ _ _ h => h) ⟨by rfl, fun w' hE => Or.inl (by first | (go_simp; done) | (go_simp; with_reducible rfl) | rfl)⟩ ?_
 simp only [Act.put]
 refine grow_take (i := 20) (v := .pointer (some ⟨w.heap.size, 6, none⟩)) rfl (by kernel_rfl) (by kernel_rfl) (by kernel_rfl) (fun _ _ _ h => h) ⟨by rfl, fun w' hE => Or.inl (by first | (go_simp; done) | (go_simp; with_reducible rfl) | rfl)⟩ ?_
 simp only [Act.put]
 refine grow_take (i := 21) (v := .string s.p.cur) rfl (by kernel_rfl) (by kernel_rfl) (by kernel_rfl) (fun _ _ _ h => h) ⟨by rfl, fun w' hE => Or.inl (by have y := hE.get (show w0.drew.cell? ⟨w.heap.size, 6, none⟩ = some (.string s.p.cur) from x6); first | (go_simp; done) | (go_simp; with_reducible rfl))⟩ ?_
 simp only [Act.put]
 refine grow_take (i := 22) (v := .agg #[.int .i64 49, .string s.p.cur]) rfl (by kernel_rfl) (by kernel_rfl) (by kernel_rfl) (fun _ _ _ h => h) ⟨by rfl, fun w' hE => Or.inl (by first | (go_simp; done) | (go_simp; with_reducible rfl) | rfl)⟩ ?_
 simp only [Act.put]
 refine grow_take (i := 23) (v := .pointer (some ⟨w.heap.size, 0, none⟩)) rfl (by kernel_rfl) (by kernel_rfl) (by kernel_rfl) (fun _ _ _ h => h) ⟨by rfl, fun w' hE => Or.inl (by first | (go_simp; done) | (go_simp; with_reducible rfl) | rfl)⟩ ?_
 simp only [Act.put]
 refine grow_take (i := 24) (v := .string s.ref) rfl (by kernel_rfl) (by kernel_rfl) (by kernel_rfl) (fun _ _ _ h => h) ⟨by rfl, fun w' hE => Or.inl (by have y := hE.get (show w0.drew.cell? ⟨w.heap.size, 0, none⟩ = some (.string s.ref) from x0); first | (go_simp; done) | (go_simp; with_reducible rfl))⟩ ?_
 simp only [Act.put]
 refine grow_take (i := 25) (v := .agg #[.int .i64 56, .string s.ref]) rfl (by kernel_rfl) (by kernel_rfl) (by kernel_rfl) (fun _ _ _ h => h) ⟨by rfl, fun w' hE => Or.inl (by first | (go_simp; done) | (go_simp; with_reducible rfl) | rfl)⟩ ?_
 simp only [Act.put]
 refine grow_one (i := 26) rfl (by kernel_rfl) (by rfl) (fun w1 hE1 => ?_)
 go_simp
 refine ⟨Or.inl ((Ext.refl _).alloc _), ?_⟩
 have bS : Blk (w1.alloc (.cells #[.int .i64 2, .string s.p.car, .int .i64 4, .string (digS 12 A), .int .i64 11, .string (digS 6 n), .int .i64 32, .string nm, .int .i64 37, .string ref, .int .i64 49, .string s.p.cur, .int .i64 56, .string s.ref] 97)) w1.heap.size #[.int .i64 2, .string s.p.car, .int .i64 4, .string (digS 12 A), .int .i64 11, .string (digS 6 n), .int .i64 32, .string nm, .int .i64 37, .string ref, .int .i64 49, .string s.p.cur, .int .i64 56, .string s.ref] 97 := Blk.new w1 _ _
 have hE2 : Ext w (w1.alloc (.cells #[.int .i64 2, .string s.p.car, .int .i64 4, .string (digS 12 A), .int .i64 11, .string (digS 6 n), .int .i64 32, .string nm, .int .i64 37, .string ref, .int .i64 49, .string s.p.cur, .int .i64 56, .string s.ref] 97)) := (Ext.trans (Ext.trans hE0 (Ext.drew (Ext.refl _))) hE1).alloc _
 have bR1 : Blk (w1.alloc (.cells #[.int .i64 2, .string s.p.car, .int .i64 4, .string (digS 12 A), .int .i64 11, .string (digS 6 n), .int .i64 32, .string nm, .int .i64 37, .string ref, .int .i64 49, .string s.p.cur, .int .i64 56, .string s.ref] 97)) (w.heap.size + 1) #[.int .i64 0, .slice none 0 0] 29 := (bR.out.ext (Ext.drew (Ext.refl _))).ext (hE1.alloc _)
 have hs1 : w.heap.size + 1 < w1.heap.size := by have h1 := hE1.size; have h2 := bR.out.lt; simp at h1 h2; omega
 clear x0 x3 x4 x6 xn hE0 hE1 bR kD hA12 hn6
 obtain ⟨Bs, hBs⟩ : ∃ Bs, Bs = w1.heap.size := ⟨_, rfl⟩
 obtain ⟨w2, hw2⟩ : ∃ w2, w2 = w1.alloc (.cells #[.int .i64 2, .string s.p.car, .int .i64 4, .string (digS 12 A), .int .i64 11, .string (digS 6 n), .int .i64 32, .string nm, .int .i64 37, .string ref, .int .i64 49, .string s.p.cur, .int .i64 56, .string s.ref] 97) := ⟨_, rfl⟩
 rw [← hw2] at bS hE2 bR1
 rw [← hBs] at bS hs1
 first | rw [← hw2, ← hBs] | (simp only [← hw2, ← hBs])
 clear hw2 hBs hg
 refine grow_take (i := 27) (v := .agg #[.int .i64 420, .slice (some ⟨Bs, 0, none⟩) 7 7]) rfl (by kernel_rfl) (by kernel_rfl) (by kernel_rfl) (fun _ _ _ h => h) ⟨by rfl, fun w' hE => Or.inl (by first | (go_simp; done) | (go_simp; with_reducible rfl) | rfl)⟩ ?_
 simp only [Act.put, List.setIfInBounds_toArray]
 refine grow_one (i := 28) rfl (by kernel_rfl) (by rfl) (fun w3 hE3 => ?_)
 have bR3 := bR1.ext hE3
 have bS3 := Lib.hid (bS.ext hE3)
 have hE4 := Lib.hid (hE2.trans hE3)
 have y0 : w3.cell? ⟨w.heap.size + 1, 0, none⟩ = some (.int .i64 0) := (bR3.cell 0).trans rfl
 have y1 : w3.cell? ⟨w.heap.size + 1, 1, none⟩ = some (.slice none 0 0) := (bR3.cell 1).trans rfl
 have z0 : w3.frozen? ⟨w.heap.size + 1, 0, none⟩ = false := bR3.fz 0
 have z1 : w3.frozen? ⟨w.heap.size + 1, 1, none⟩ = false := bR3.fz 1
 have hl3 := bR3.lt
 clear bS hE2 bR1 hE3
 go_simp
 refine ⟨Or.inr (by kernel_rfl), ?_⟩
 refine grow_end (by kernel_rfl) (fun w4 hE5 => ?_) _
 have bR4 := (((bR3.set 0 (.int .i64 420)).set 1 (.slice (some ⟨Bs, 0, none⟩) 7 7))).ext hE5
 have bS4 := (((bS3.out.other 0 (.int .i64 420) (show Bs ≠ w.heap.size + 1 by omega)).other 1 (.slice (some ⟨Bs, 0, none⟩) 7 7) (show Bs ≠ w.heap.size + 1 by omega))).ext hE5
 have hE6 := ((hE4.out.setCell (p := ⟨w.heap.size + 1, 0, none⟩) (by simp) (.int .i64 420)).setCell (p := ⟨w.heap.size + 1, 1, none⟩) (by simp) (.slice (some ⟨Bs, 0, none⟩) 7 7)).trans hE5
 have r0 : w4.cell? ⟨w.heap.size + 1, 0, none⟩ = some (.int .i64 420) := (bR4.cell 0).trans rfl
 have r1 : w4.cell? ⟨w.heap.size + 1, 1, none⟩ = some (.slice (some ⟨Bs, 0, none⟩) 7 7) := (bR4.cell 1).trans rfl
 clear bR4 bR3 bS3 hE4 hE5 y0 y1 z0 z1 hl3 w3 w2 w1
 go_wp2
 exact bodyPost_ret (v := .agg #[.int .i64 420, .slice (some ⟨Bs, 0, none⟩) 7 7]) (by simp [results, Tryz.results61, go_sem, r0, r1]) rfl (hfin.out Bs _ bS4 hE6)
end Go.Proofs.YtkggloeaojkhaaaGreatDoor
