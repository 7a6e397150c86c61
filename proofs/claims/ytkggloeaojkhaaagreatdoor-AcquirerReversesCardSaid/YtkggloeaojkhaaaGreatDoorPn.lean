/- Contract of acquirer's request (walk; printed by gen/h81.py). -/
import Derived.Test.YtkggloeaojkhaaaGreatDoorPl
namespace Go.Proofs.YtkggloeaojkhaaaGreatDoor
open Go.RowKit
/-- append onto a full slice makes a new row and leaves all else. -/
theorem wp_append_full {P : Program} (w : World) {o : Oper} {a : Act} {K : Act → World → Prop} {Q : Exit → Act → World → Prop} (s x : Operand) (t : TypeId)
 (ho : o.op = .call { callee := .builtin .append, args := #[s, x], argTypes := #[t, t] })
 (e : TypeId) (i : TypeInfo) (z : Value) (size bytes : Nat) (ht : P.underlying t = some (.slice e)) (hi : P.info? e = some i) (hz : i.zero = some z)
 (hsize : i.size = size) (hby : i.bytes = bytes) (hzs : z.cells.size = size) (hsz : 0 < size)
 (b : Addr) (n cap : Nat) (olds : List Value) (hs : a.eval s = .slice (some b) n cap) (hlo : olds.length = n * size) (holds : ∀ j u, olds[j]? = some u → w.cell? (b.add j) = some u)
 (ad : Addr) (m c : Nat) (news : List Value) (hx : a.eval x = .slice (some ad) m c) (hl : news.length = m * size) (hnews : ∀ j u, news[j]? = some u → w.cell? (ad.add j) = some u)
 (hg : cap < n + m) (h63 : n + m ≤ maxLen) (hbytes : (n + m) * bytes ≤ 140737488355328)
 (h : ∀ g cap w', w'.ownsRow w.heap.size e size (.slice (some ⟨g, 0, none⟩) (n + m) cap) (n + m) (olds ++ news) → Ext w w' → K (a.put o.dst (.slice (some ⟨g, 0, none⟩) (n + m) cap)) w') : o.wp P a w K Q := by
 obtain ⟨v', w', hr, h2, h3⟩ := run_append_arg_grows (P := P) w t o.type e i z size bytes ht hi hz hsize hby hzs hsz b n cap olds hlo holds ad m c news hl hnews hg h63 hbytes
 obtain ⟨g, cap', rfl, -, -⟩ := h2.form (by omega)
 unfold Oper.wp execOp
 simp only [ho, resolve, invoke, builtin, Sem.run_bind, Sem.run_pure, Result.andThen_ok, List.map_toArray, List.map_cons, List.map_nil, hs, hx, hr]
 exact h g cap' w' h2 ⟨h3.os, h3.tape, h3.output, h3.size, fun k hk => h3.block k hk (by simp)⟩
/-- The elements of a request. -/
def reqEs (nm : ByteArray) (at' n : Nat) (ref : ByteArray) (p : PurD) : List El := [(2, p.car), (3, ⟨#[48, 48, 48, 48, 48, 48]⟩), (4, digS 12 p.amt.toNat), (7, digS 13 at'), (11, digS 6 n), (18, digS 4 p.cat.toNat), (32, nm), (37, ref), (41, p.ter), (42, p.mer), (49, p.cur)] ++ if 0 < p.least then [(54, digS 12 p.least.toNat)] else []
theorem infoElE : (Tryz.prog.info? 97).map (fun i => (i.zero, i.size, i.bytes)) = some (some (.agg #[.int .i64 0, .string ⟨#[]⟩]), 2, 24) := by kernel_rfl
set_option maxRecDepth 8000 in
set_option maxHeartbeats 16000000 in
theorem request_any (X : Nat) (nm : ByteArray) (at' n : Nat) (ref : ByteArray) (p : PurD) (w : World) (g : Gw w) (hnm : w.cell? ⟨X, 0, none⟩ = some (.string nm)) (hn : n ≤ 999999) (hat : at' < 10 ^ 13) (ha : 0 ≤ p.amt ∧ p.amt ≤ 999999999999) (hl : 0 ≤ p.least ∧ p.least ≤ 999999999999) (hc : 0 ≤ p.cat ∧ p.cat ≤ 9999) : Calls Tryz.prog 25 #[.pointer (some ⟨X, 0, none⟩), .int .i64 at', .int .i64 n, .string ref, purAgg p] w (MsgP 100 (reqEs nm at' n ref p) w) := by
 have kD := Lib.hid (fun n wd w1 (g1 : Gw w1) h h1 => adigits_fix n wd w1 g1 h h1)
 obtain ⟨A, hA⟩ : ∃ A : Nat, p.amt = (A : Int) := ⟨p.amt.toNat, by omega⟩
 obtain ⟨L, hL⟩ : ∃ L : Nat, p.least = (L : Int) := ⟨p.least.toNat, by omega⟩
 obtain ⟨Ct, hCt⟩ : ∃ Ct : Nat, p.cat = (Ct : Int) := ⟨p.cat.toNat, by omega⟩
 have hA12 := Lib.hid (show A < 10 ^ 12 by omega)
 have hL12 := Lib.hid (show L < 10 ^ 12 by omega)
 have hC4 := Lib.hid (show Ct < 10 ^ 4 by omega)
 have hn6 := Lib.hid (show n < 10 ^ 6 by omega)
 have hat13 := Lib.hid hat
 have hfin0 := Lib.hid (fun (h0 : ¬ 0 < L) (Bs : Nat) (w' : World) (h : Blk w' Bs #[.int .i64 2, .string p.car, .int .i64 3, .string ⟨#[48, 48, 48, 48, 48, 48]⟩, .int .i64 4, .string (digS 12 A), .int .i64 7, .string (digS 13 at'), .int .i64 11, .string (digS 6 n), .int .i64 18, .string (digS 4 Ct), .int .i64 32, .string nm, .int .i64 37, .string ref, .int .i64 41, .string p.ter, .int .i64 42, .string p.mer, .int .i64 49, .string p.cur] 97) (hE : Ext w w') => show MsgP 100 (reqEs nm at' n ref p) w (.returned (.agg #[.int .i64 100, .slice (some ⟨Bs, 0, none⟩) 11 11])) w' from ⟨_, rfl, elems_blk _ h (by unfold reqEs; rw [if_neg (by omega), hA, hCt]; rfl) 11 11 (by unfold reqEs; rw [if_neg (by omega)]; rfl), hE⟩)
 have hfin1 := Lib.hid (fun (h0 : 0 < L) (v : Value) (w' : World) (h : Elems w' v ([(2, p.car), (3, ⟨#[48, 48, 48, 48, 48, 48]⟩), (4, digS 12 A), (7, digS 13 at'), (11, digS 6 n), (18, digS 4 Ct), (32, nm), (37, ref), (41, p.ter), (42, p.mer), (49, p.cur), (54, digS 12 L)])) (hE : Ext w w') => show MsgP 100 (reqEs nm at' n ref p) w (.returned (.agg #[.int .i64 100, v])) w' from ⟨_, rfl, by unfold reqEs; rw [if_pos (by omega), hA, hCt, hL]; exact h, hE⟩)
 generalize MsgP 100 (reqEs nm at' n ref p) w = PP at *
 unfold purAgg
 rw [hA, hL, hCt]
 have hlX := cell_lt hnm
 simp only at hlX
 obtain ⟨i0, hI, hz0, hz1, hz2⟩ := info_partsE infoElE
 have hg0 := Lib.hid g
 replace hI := Lib.hid hI
 replace hz0 := Lib.hid hz0
 replace hz1 := Lib.hid hz1
 replace hz2 := Lib.hid hz2
 go_enter Tryz.func25, Tryz.ntmps25
 go_wp2_with fail
 have hE0 : Ext w ((w.alloc (.cells #[.string p.mer, .string p.ter, .string p.car, .int .i64 A, .int .i64 L, .string p.cur, .int .i64 Ct] 33)).alloc (.cells #[.int .i64 0, .slice none 0 0] 29)) := xt
 have bX : Blk ((w.alloc (.cells #[.string p.mer, .string p.ter, .string p.car, .int .i64 A, .int .i64 L, .string p.cur, .int .i64 Ct] 33)).alloc (.cells #[.int .i64 0, .slice none 0 0] 29)) w.heap.size #[.string p.mer, .string p.ter, .string p.car, .int .i64 A, .int .i64 L, .string p.cur, .int .i64 Ct] 33 := (Blk.new w _ _).alloc _
 have bR : Blk ((w.alloc (.cells #[.string p.mer, .string p.ter, .string p.car, .int .i64 A, .int .i64 L, .string p.cur, .int .i64 Ct] 33)).alloc (.cells #[.int .i64 0, .slice none 0 0] 29)) (w.heap.size + 1) #[.int .i64 0, .slice none 0 0] 29 := Blk.new' _ _ _ _ (by simp)
 obtain ⟨w0, hw0⟩ : ∃ w0, w0 = (w.alloc (.cells #[.string p.mer, .string p.ter, .string p.car, .int .i64 A, .int .i64 L, .string p.cur, .int .i64 Ct] 33)).alloc (.cells #[.int .i64 0, .slice none 0 0] 29) := ⟨_, rfl⟩
 rw [← hw0] at hE0 bX bR
 first | rw [← hw0] | simp only [← hw0]
 clear hw0
 have hg := Lib.hid (g.ext hE0)
 have xn : w0.cell? ⟨X, 0, none⟩ = some (.string nm) := hE0.get hnm
 have x0 : w0.cell? ⟨w.heap.size, 0, none⟩ = some (.string p.mer) := (bX.cell 0).trans rfl
 have x1 : w0.cell? ⟨w.heap.size, 1, none⟩ = some (.string p.ter) := (bX.cell 1).trans rfl
 have x2 : w0.cell? ⟨w.heap.size, 2, none⟩ = some (.string p.car) := (bX.cell 2).trans rfl
 have x3 : w0.cell? ⟨w.heap.size, 3, none⟩ = some (.int .i64 A) := (bX.cell 3).trans rfl
 have x5 : w0.cell? ⟨w.heap.size, 5, none⟩ = some (.string p.cur) := (bX.cell 5).trans rfl
 have x6 : w0.cell? ⟨w.heap.size, 6, none⟩ = some (.int .i64 Ct) := (bX.cell 6).trans rfl
 clear hnm hA ha hn g hat hc hl hCt hL
 replace bX := Lib.hid bX
 replace bR := Lib.hid bR
 refine wp_region_grow (by kernel_rfl) ?_
 refine grow_take (i := 0) (v := .pointer (some ⟨w.heap.size, 2, none⟩)) rfl (by kernel_rfl) (by kernel_rfl) (by kernel_rfl) (fun _ _ _ h => h) ⟨by rfl, fun w' hE => Or.inl (by first | (go_simp; done) | (go_simp; with_reducible rfl) | rfl)⟩ ?_
 simp only [Act.put, List.setIfInBounds_toArray]
 refine grow_take (i := 1) (v := .string p.car) rfl (by kernel_rfl) (by kernel_rfl) (by kernel_rfl) (fun _ _ _ h => h) ⟨by rfl, fun w' hE => Or.inl (by have y := hE.get (show w0.drew.cell? ⟨w.heap.size, 2, none⟩ = some (.string p.car) from x2); first | (go_simp; done) | (go_simp; with_reducible rfl))⟩ ?_
 simp only [Act.put]
 refine grow_take (i := 2) (v := .agg #[.int .i64 2, .string p.car]) rfl (by kernel_rfl) (by kernel_rfl) (by kernel_rfl) (fun _ _ _ h => h) ⟨by rfl, fun w' hE => Or.inl (by first | (go_simp; done) | (go_simp; with_reducible rfl) | rfl)⟩ ?_
 simp only [Act.put]
 refine grow_take (i := 3) (v := .agg #[.int .i64 3, .string ⟨#[48, 48, 48, 48, 48, 48]⟩]) rfl (by kernel_rfl) (by kernel_rfl) (by kernel_rfl) (fun _ _ _ h => h) ⟨by rfl, fun w' hE => Or.inl (by first | (go_simp; done) | (go_simp; with_reducible rfl) | rfl)⟩ ?_
 simp only [Act.put]
 refine grow_take (i := 4) (v := .pointer (some ⟨w.heap.size, 3, none⟩)) rfl (by kernel_rfl) (by kernel_rfl) (by kernel_rfl) (fun _ _ _ h => h) ⟨by rfl, fun w' hE => Or.inl (by first | (go_simp; done) | (go_simp; with_reducible rfl) | rfl)⟩ ?_
 simp only [Act.put]
 refine grow_take (i := 5) (v := .int .i64 A) rfl (by kernel_rfl) (by kernel_rfl) (by kernel_rfl) (fun _ _ _ h => h) ⟨by rfl, fun w' hE => Or.inl (by have y := hE.get (show w0.drew.cell? ⟨w.heap.size, 3, none⟩ = some (.int .i64 A) from x3); first | (go_simp; done) | (go_simp; with_reducible rfl))⟩ ?_
 simp only [Act.put]
 refine grow_take (i := 6) (v := .string (digS 12 A)) rfl (by kernel_rfl) (by kernel_rfl) (by kernel_rfl) (fun _ _ _ h => h) ⟨by rfl, fun w' hE => Or.inr ⟨59, #[.int .i64 A, .int .i64 12], (by first | (go_simp; done) | (go_simp; with_reducible rfl) | rfl), kD.out A 12 w' (hg.out.ext ((Ext.drew (Ext.refl _)).trans hE)) hA12.out (by decide)⟩⟩ ?_
 simp only [Act.put]
 refine grow_take (i := 7) (v := .agg #[.int .i64 4, .string (digS 12 A)]) rfl (by kernel_rfl) (by kernel_rfl) (by kernel_rfl) (fun _ _ _ h => h) ⟨by rfl, fun w' hE => Or.inl (by first | (go_simp; done) | (go_simp; with_reducible rfl) | rfl)⟩ ?_
 simp only [Act.put]
 refine grow_take (i := 8) (v := .int .i64 at') rfl (by kernel_rfl) (by kernel_rfl) (by kernel_rfl) (fun _ _ _ h => h) ⟨by rfl, fun w' hE => Or.inl (by first | (go_simp; done) | (go_simp; with_reducible rfl) | rfl)⟩ ?_
 simp only [Act.put]
 refine grow_take (i := 9) (v := .string (digS 13 at')) rfl (by kernel_rfl) (by kernel_rfl) (by kernel_rfl) (fun _ _ _ h => h) ⟨by rfl, fun w' hE => Or.inr ⟨59, #[.int .i64 at', .int .i64 13], (by first | (go_simp; done) | (go_simp; with_reducible rfl) | rfl), kD.out at' 13 w' (hg.out.ext ((Ext.drew (Ext.refl _)).trans hE)) hat13.out (by decide)⟩⟩ ?_
 simp only [Act.put]
 refine grow_take (i := 10) (v := .agg #[.int .i64 7, .string (digS 13 at')]) rfl (by kernel_rfl) (by kernel_rfl) (by kernel_rfl) (fun _ _ _ h => h) ⟨by rfl, fun w' hE => Or.inl (by first | (go_simp; done) | (go_simp; with_reducible rfl) | rfl)⟩ ?_
 simp only [Act.put]
 refine grow_take (i := 11) (v := .int .i64 n) rfl (by kernel_rfl) (by kernel_rfl) (by kernel_rfl) (fun _ _ _ h => h) ⟨by rfl, fun w' hE => Or.inl (by first | (go_simp; done) | (go_simp; with_reducible rfl) | rfl)⟩ ?_
 simp only [Act.put]
 refine grow_take (i := 12) (v := .string (digS 6 n)) rfl (by kernel_rfl) (by kernel_rfl) (by kernel_rfl) (fun _ _ _ h => h) ⟨by rfl, fun w' hE => Or.inr ⟨59, #[.int .i64 n, .int .i64 6], (by first | (go_simp; done) | (go_simp; with_reducible rfl) | rfl), kD.out n 6 w' (hg.out.ext ((Ext.drew (Ext.refl _)).trans hE)) hn6.out (by decide)⟩⟩ ?_
 simp only [Act.put]
 refine grow_take (i := 13) (v := .agg #[.int .i64 11, .string (digS 6 n)]) rfl (by kernel_rfl) (by kernel_rfl) (by kernel_rfl) (fun _ _ _ h => h) ⟨by rfl, fun w' hE => Or.inl (by first | (go_simp; done) | (go_simp; with_reducible rfl) | rfl)⟩ ?_
 simp only [Act.put]
 refine grow_take (i := 14) (v := .pointer (some ⟨w.heap.size, 6, none⟩)) rfl (by kernel_rfl) (by kernel_rfl) (by kernel_rfl) (fun _ _ _ h => h) ⟨by rfl, fun w' hE => Or.inl (by first | (go_simp; done) | (go_simp; with_reducible rfl) | rfl)⟩ ?_
 simp only [Act.put]
 refine grow_take (i := 15) (v := .int .i64 Ct) rfl (by kernel_rfl) (by kernel_rfl) (by kernel_rfl) (fun _ _ _ h => h) ⟨by rfl, fun w' hE => Or.inl (by have y := hE.get (show w0.drew.cell? ⟨w.heap.size, 6, none⟩ = some (.int .i64 Ct) from x6); first | (go_simp; done) | (go_simp; with_reducible rfl))⟩ ?_
 simp only [Act.put]
 refine grow_take (i := 16) (v := .string (digS 4 Ct)) rfl (by kernel_rfl) (by kernel_rfl) (by kernel_rfl) (fun _ _ _ h => h) ⟨by rfl, fun w' hE => Or.inr ⟨59, #[.int .i64 Ct, .int .i64 4], (by first | (go_simp; done) | (go_simp; with_reducible rfl) | rfl), kD.out Ct 4 w' (hg.out.ext ((Ext.drew (Ext.refl _)).trans hE)) hC4.out (by decide)⟩⟩ ?_
 simp only [Act.put]
 refine grow_take (i := 17) (v := .agg #[.int .i64 18, .string (digS 4 Ct)]) rfl (by kernel_rfl) (by kernel_rfl) (by kernel_rfl) (fun _ _ _ h => h) ⟨by rfl, fun w' hE => Or.inl (by first | (go_simp; done) | (go_simp; with_reducible rfl) | rfl)⟩ ?_
 simp only [Act.put]
 refine grow_take (i := 18) (v := .pointer (some ⟨X, 0, none⟩)) rfl (by kernel_rfl) (by kernel_rfl) (by kernel_rfl) (fun _ _ _ h => h) ⟨by rfl, fun w' hE => Or.inl (by first | (go_simp; done) | (go_simp; with_reducible rfl) | rfl)⟩ ?_
 simp only [Act.put]
 refine grow_take (i := 19) (v := .pointer (some ⟨X, 0, none⟩)) rfl (by kernel_rfl) (by kernel_rfl) (by kernel_rfl) (fun _ _ _ h => h) ⟨by rfl, fun w' hE => Or.inl (by first | (go_simp; done) | (go_simp; with_reducible rfl) | rfl)⟩ ?_
 simp only [Act.put]
 refine grow_take (i := 20) (v := .pointer (some ⟨X, 0, none⟩)) rfl (by kernel_rfl) (by kernel_rfl) (by kernel_rfl) (fun _ _ _ h => h) ⟨by rfl, fun w' hE => Or.inl (by first | (go_simp; done) | (go_simp; with_reducible rfl) | rfl)⟩ ?_
 simp only [Act.put]
 refine grow_take (i := 21) (v := .string nm) rfl (by kernel_rfl) (by kernel_rfl) (by kernel_rfl) (fun _ _ _ h => h) ⟨by rfl, fun w' hE => Or.inl (by have y := hE.get (show w0.drew.cell? ⟨X, 0, none⟩ = some (.string nm) from xn); first | (go_simp; done) | (go_simp; with_reducible rfl))⟩ ?_
 simp only [Act.put]
 refine grow_take (i := 22) (v := .agg #[.int .i64 32, .string nm]) rfl (by kernel_rfl) (by kernel_rfl) (by kernel_rfl) (fun _ _ _ h => h) ⟨by rfl, fun w' hE => Or.inl (by first | (go_simp; done) | (go_simp; with_reducible rfl) | rfl)⟩ ?_
 simp only [Act.put]
 refine grow_take (i := 23) (v := .string ref) rfl (by kernel_rfl) (by kernel_rfl) (by kernel_rfl) (fun _ _ _ h => h) ⟨by rfl, fun w' hE => Or.inl (by first | (go_simp; done) | (go_simp; with_reducible rfl) | rfl)⟩ ?_
 simp only [Act.put]
 refine grow_take (i := 24) (v := .agg #[.int .i64 37, .string ref]) rfl (by kernel_rfl) (by kernel_rfl) (by kernel_rfl) (fun _ _ _ h => h) ⟨by rfl, fun w' hE => Or.inl (by first | (go_simp; done) | (go_simp; with_reducible rfl) | rfl)⟩ ?_
 simp only [Act.put]
 refine grow_take (i := 25) (v := .pointer (some ⟨w.heap.size, 1, none⟩)) rfl (by kernel_rfl) (by kernel_rfl) (by kernel_rfl) (fun _ _ _ h => h) ⟨by rfl, fun w' hE => Or.inl (by first | (go_simp; done) | (go_simp; with_reducible rfl) | rfl)⟩ ?_
 simp only [Act.put]
 refine grow_take (i := 26) (v := .string p.ter) rfl (by kernel_rfl) (by kernel_rfl) (by kernel_rfl) (fun _ _ _ h => h) ⟨by rfl, fun w' hE => Or.inl (by have y := hE.get (show w0.drew.cell? ⟨w.heap.size, 1, none⟩ = some (.string p.ter) from x1); first | (go_simp; done) | (go_simp; with_reducible rfl))⟩ ?_
 simp only [Act.put]
 refine grow_take (i := 27) (v := .agg #[.int .i64 41, .string p.ter]) rfl (by kernel_rfl) (by kernel_rfl) (by kernel_rfl) (fun _ _ _ h => h) ⟨by rfl, fun w' hE => Or.inl (by first | (go_simp; done) | (go_simp; with_reducible rfl) | rfl)⟩ ?_
 simp only [Act.put]
 refine grow_take (i := 28) (v := .pointer (some ⟨w.heap.size, 0, none⟩)) rfl (by kernel_rfl) (by kernel_rfl) (by kernel_rfl) (fun _ _ _ h => h) ⟨by rfl, fun w' hE => Or.inl (by first | (go_simp; done) | (go_simp; with_reducible rfl) | rfl)⟩ ?_
 simp only [Act.put]
 refine grow_take (i := 29) (v := .string p.mer) rfl (by kernel_rfl) (by kernel_rfl) (by kernel_rfl) (fun _ _ _ h => h) ⟨by rfl, fun w' hE => Or.inl (by have y := hE.get (show w0.drew.cell? ⟨w.heap.size, 0, none⟩ = some (.string p.mer) from x0); first | (go_simp; done) | (go_simp; with_reducible rfl))⟩ ?_
 simp only [Act.put]
 refine grow_take (i := 30) (v := .agg #[.int .i64 42, .string p.mer]) rfl (by kernel_rfl) (by kernel_rfl) (by kernel_rfl) (fun _ _ _ h => h) ⟨by rfl, fun w' hE => Or.inl (by first | (go_simp; done) | (go_simp; with_reducible rfl) | rfl)⟩ ?_
 simp only [Act.put]
 refine grow_take (i := 31) (v := .pointer (some ⟨w.heap.size, 5, none⟩)) rfl (by kernel_rfl) (by kernel_rfl) (by kernel_rfl) (fun _ _ _ h => h) ⟨by rfl, fun w' hE => Or.inl (by first | (go_simp; done) | (go_simp; with_reducible rfl) | rfl)⟩ ?_
 simp only [Act.put]
 refine grow_take (i := 32) (v := .string p.cur) rfl (by kernel_rfl) (by kernel_rfl) (by kernel_rfl) (fun _ _ _ h => h) ⟨by rfl, fun w' hE => Or.inl (by have y := hE.get (show w0.drew.cell? ⟨w.heap.size, 5, none⟩ = some (.string p.cur) from x5); first | (go_simp; done) | (go_simp; with_reducible rfl))⟩ ?_
 simp only [Act.put]
 refine grow_take (i := 33) (v := .agg #[.int .i64 49, .string p.cur]) rfl (by kernel_rfl) (by kernel_rfl) (by kernel_rfl) (fun _ _ _ h => h) ⟨by rfl, fun w' hE => Or.inl (by first | (go_simp; done) | (go_simp; with_reducible rfl) | rfl)⟩ ?_
 simp only [Act.put]
 refine grow_two (i := 34) (j := 36) rfl rfl (by kernel_rfl) (by rfl) (by rfl) (fun w1 hE1 => ?_) (fun w1 hE1 => ?_)
 all_goals
  go_simp
  refine ⟨Or.inl ((Ext.refl _).alloc _), ?_⟩
  replace bR : Blk w1 (w.heap.size + 1) #[.int .i64 0, .slice none 0 0] 29 := (bR.out.ext (Ext.drew (Ext.refl _))).ext hE1
  replace bX : Blk w1 w.heap.size #[.string p.mer, .string p.ter, .string p.car, .int .i64 A, .int .i64 L, .string p.cur, .int .i64 Ct] 33 := (bX.out.ext (Ext.drew (Ext.refl _))).ext hE1
  have hs1 : w.heap.size + 1 < w1.heap.size := bR.lt
  replace hg := Lib.hid (hg.out.ext ((Ext.drew (Ext.refl _)).trans hE1))
  replace hE0 : Ext w w1 := Ext.trans (Ext.trans hE0 (Ext.drew (Ext.refl _))) hE1
  clear x0 x1 x2 x3 x5 x6 xn hE1
  clear w0
 · obtain ⟨Bs, hBs⟩ : ∃ Bs, Bs = w1.heap.size := ⟨_, rfl⟩
   have bS : Blk (w1.alloc (.cells #[.int .i64 2, .string p.car, .int .i64 3, .string ⟨#[48, 48, 48, 48, 48, 48]⟩, .int .i64 4, .string (digS 12 A), .int .i64 7, .string (digS 13 at'), .int .i64 11, .string (digS 6 n), .int .i64 18, .string (digS 4 Ct), .int .i64 32, .string nm, .int .i64 37, .string ref, .int .i64 41, .string p.ter, .int .i64 42, .string p.mer, .int .i64 49, .string p.cur] 97)) Bs #[.int .i64 2, .string p.car, .int .i64 3, .string ⟨#[48, 48, 48, 48, 48, 48]⟩, .int .i64 4, .string (digS 12 A), .int .i64 7, .string (digS 13 at'), .int .i64 11, .string (digS 6 n), .int .i64 18, .string (digS 4 Ct), .int .i64 32, .string nm, .int .i64 37, .string ref, .int .i64 41, .string p.ter, .int .i64 42, .string p.mer, .int .i64 49, .string p.cur] 97 := by rw [hBs]; exact Blk.new w1 _ _
   have hEs : Ext w1 (w1.alloc (.cells #[.int .i64 2, .string p.car, .int .i64 3, .string ⟨#[48, 48, 48, 48, 48, 48]⟩, .int .i64 4, .string (digS 12 A), .int .i64 7, .string (digS 13 at'), .int .i64 11, .string (digS 6 n), .int .i64 18, .string (digS 4 Ct), .int .i64 32, .string nm, .int .i64 37, .string ref, .int .i64 41, .string p.ter, .int .i64 42, .string p.mer, .int .i64 49, .string p.cur] 97)) := (Ext.refl _).alloc _
   rw [← hBs]
   obtain ⟨w2, hw2⟩ : ∃ w2, w2 = w1.alloc (.cells #[.int .i64 2, .string p.car, .int .i64 3, .string ⟨#[48, 48, 48, 48, 48, 48]⟩, .int .i64 4, .string (digS 12 A), .int .i64 7, .string (digS 13 at'), .int .i64 11, .string (digS 6 n), .int .i64 18, .string (digS 4 Ct), .int .i64 32, .string nm, .int .i64 37, .string ref, .int .i64 41, .string p.ter, .int .i64 42, .string p.mer, .int .i64 49, .string p.cur] 97) := ⟨_, rfl⟩
   rw [← hw2] at bS hEs ⊢
   replace bR := Lib.hid (bR.ext hEs)
   replace bX := Lib.hid (bX.ext hEs)
   replace hg := Lib.hid (hg.out.ext hEs)
   replace hE0 := hE0.trans hEs
   have hsB : w.heap.size + 1 < Bs := by omega
   have hsBl := bS.lt
   clear hw2 hEs hBs hs1
   refine grow_take (i := 35) (v := .agg #[.int .i64 100, .slice (some ⟨Bs, 0, none⟩) 11 11]) rfl (by kernel_rfl) (by kernel_rfl) (by kernel_rfl) (fun _ _ _ h => h) ⟨by rfl, fun w' hE => Or.inl (by first | (go_simp; done) | (go_simp; with_reducible rfl) | rfl)⟩ ?_
   simp only [Act.put, List.setIfInBounds_toArray]
   refine grow_one (i := 36) rfl (by kernel_rfl) (by rfl) (fun w3 hE3 => ?_)
   go_simp
   refine ⟨Or.inl ((Ext.refl _).alloc _), ?_⟩
   obtain ⟨Ms, hMs⟩ : ∃ Ms, Ms = w3.heap.size := ⟨_, rfl⟩
   have hEm : Ext w2 (w3.alloc (.cells #[.int .i64 0, .slice none 0 0] 29)) := hE3.alloc _
   have bM : Blk (w3.alloc (.cells #[.int .i64 0, .slice none 0 0] 29)) Ms #[.int .i64 0, .slice none 0 0] 29 := by rw [hMs]; exact Blk.new w3 _ _
   have hne : Bs < Ms := by have := hE3.size; omega
   have hsM : w.heap.size + 1 < Ms := by omega
   rw [← hMs]
   obtain ⟨w4, hw4⟩ : ∃ w4, w4 = w3.alloc (.cells #[.int .i64 0, .slice none 0 0] 29) := ⟨_, rfl⟩
   rw [← hw4] at hEm bM ⊢
   replace bR := Lib.hid (bR.out.ext hEm)
   replace bX := Lib.hid (bX.out.ext hEm)
   replace bS := Lib.hid (bS.ext hEm)
   replace hg := Lib.hid (hg.out.ext hEm)
   replace hE0 := hE0.trans hEm
   replace hne := Nat.ne_of_lt hne
   clear hw4 hEm hMs hE3 hsBl w2 w3
   refine grow_one (i := 37) rfl (by kernel_rfl) (by rfl) (fun w5 hE5 => ?_)
   have bM5 := bM.ext hE5
   have m0 : w5.cell? ⟨Ms, 0, none⟩ = some (.int .i64 0) := (bM5.cell 0).trans rfl
   have m1 : w5.cell? ⟨Ms, 1, none⟩ = some (.slice none 0 0) := (bM5.cell 1).trans rfl
   have f0 : w5.frozen? ⟨Ms, 0, none⟩ = false := bM5.fz 0
   have f1 : w5.frozen? ⟨Ms, 1, none⟩ = false := bM5.fz 1
   have lM := bM5.lt
   go_simp
   refine ⟨Or.inr (by kernel_rfl), ?_⟩
   refine grow_end (by kernel_rfl) (fun w0 hE6 => ?_) _
   have bM6 := ((bM5.set 0 (.int .i64 100)).set 1 (.slice (some ⟨Bs, 0, none⟩) 11 11)).ext hE6
   have bS6 := ((((bS.out.ext hE5).other 0 (.int .i64 100) hne).other 1 (.slice (some ⟨Bs, 0, none⟩) 11 11) hne)).ext hE6
   have bX6 := ((((bX.out.ext hE5).other 0 (.int .i64 100) (show w.heap.size ≠ Ms by omega)).other 1 (.slice (some ⟨Bs, 0, none⟩) 11 11) (show w.heap.size ≠ Ms by omega))).ext hE6
   have bR6 := ((((bR.out.ext hE5).other 0 (.int .i64 100) (show w.heap.size + 1 ≠ Ms by omega)).other 1 (.slice (some ⟨Bs, 0, none⟩) 11 11) (show w.heap.size + 1 ≠ Ms by omega))).ext hE6
   have hE7 : Ext w w0 := ((((hE0.trans hE5).setCell (p := ⟨Ms, 0, none⟩) (by simp; omega) (.int .i64 100)).setCell (p := ⟨Ms, 1, none⟩) (by simp; omega) (.slice (some ⟨Bs, 0, none⟩) 11 11))).trans hE6
   replace hg := Lib.hid (hg0.out.ext hE7)
   clear bM5 m0 m1 f0 f1 lM hE5 hE6 bM bS bX bR hE0 w5 w4 w1
   have x4 : w0.cell? ⟨w.heap.size, 4, none⟩ = some (.int .i64 L) := (bX6.cell 4).trans rfl
   have a0 : w0.cell? ⟨Ms, 0, none⟩ = some (.int .i64 100) := (bM6.cell 0).trans rfl
   have a1 : w0.cell? ⟨Ms, 1, none⟩ = some (.slice (some ⟨Bs, 0, none⟩) 11 11) := (bM6.cell 1).trans rfl
   have c0 : w0.cell? ⟨w.heap.size + 1, 0, none⟩ = some (.int .i64 0) := (bR6.cell 0).trans rfl
   have c1 : w0.cell? ⟨w.heap.size + 1, 1, none⟩ = some (.slice none 0 0) := (bR6.cell 1).trans rfl
   have d0 : w0.frozen? ⟨w.heap.size + 1, 0, none⟩ = false := bR6.fz 0
   have d1 : w0.frozen? ⟨w.heap.size + 1, 1, none⟩ = false := bR6.fz 1
   have lR := bR6.lt
   have lM := bM6.lt
   by_cases h0 : 0 < L
   · have q : decide ((0 : Int) < (L : Int)) = true := decide_eq_true (by omega)
     replace bM6 := Lib.hid bM6
     replace bS6 := Lib.hid bS6
     replace bR6 := Lib.hid bR6
     replace hE7 := Lib.hid hE7
     clear bX6 c0 c1 d0 d1
     go_wp2_with fail
     refine wp_region_grow (by kernel_rfl) ?_
     refine grow_take (i := 0) (v := .pointer (some ⟨Ms, 1, none⟩)) rfl (by kernel_rfl) (by kernel_rfl) (by kernel_rfl) (fun _ _ _ h => h) ⟨by rfl, fun w' hE => Or.inl (by first | (go_simp; done) | (go_simp; with_reducible rfl) | rfl)⟩ ?_
     simp only [Act.put, List.setIfInBounds_toArray]
     refine grow_take (i := 1) (v := .slice (some ⟨Bs, 0, none⟩) 11 11) rfl (by kernel_rfl) (by kernel_rfl) (by kernel_rfl) (fun _ _ _ h => h) ⟨by rfl, fun w' hE => Or.inl (by have y := hE.get (show w0.drew.cell? ⟨Ms, 1, none⟩ = some (.slice (some ⟨Bs, 0, none⟩) 11 11) from a1); first | (go_simp; done) | (go_simp; with_reducible rfl))⟩ ?_
     simp only [Act.put]
     refine grow_take (i := 2) (v := .pointer (some ⟨w.heap.size, 4, none⟩)) rfl (by kernel_rfl) (by kernel_rfl) (by kernel_rfl) (fun _ _ _ h => h) ⟨by rfl, fun w' hE => Or.inl (by first | (go_simp; done) | (go_simp; with_reducible rfl) | rfl)⟩ ?_
     simp only [Act.put]
     refine grow_take (i := 3) (v := .int .i64 L) rfl (by kernel_rfl) (by kernel_rfl) (by kernel_rfl) (fun _ _ _ h => h) ⟨by rfl, fun w' hE => Or.inl (by have y := hE.get (show w0.drew.cell? ⟨w.heap.size, 4, none⟩ = some (.int .i64 L) from x4); first | (go_simp; done) | (go_simp; with_reducible rfl))⟩ ?_
     simp only [Act.put]
     refine grow_take (i := 4) (v := .string (digS 12 L)) rfl (by kernel_rfl) (by kernel_rfl) (by kernel_rfl) (fun _ _ _ h => h) ⟨by rfl, fun w' hE => Or.inr ⟨59, #[.int .i64 L, .int .i64 12], (by first | (go_simp; done) | (go_simp; with_reducible rfl) | rfl), kD.out L 12 w' (hg.out.ext ((Ext.drew (Ext.refl _)).trans hE)) hL12.out (by decide)⟩⟩ ?_
     simp only [Act.put]
     refine grow_take (i := 5) (v := .agg #[.int .i64 54, .string (digS 12 L)]) rfl (by kernel_rfl) (by kernel_rfl) (by kernel_rfl) (fun _ _ _ h => h) ⟨by rfl, fun w' hE => Or.inl (by first | (go_simp; done) | (go_simp; with_reducible rfl) | rfl)⟩ ?_
     simp only [Act.put]
     refine grow_one (i := 6) rfl (by kernel_rfl) (by rfl) (fun w1 hE1 => ?_)
     go_simp
     refine ⟨Or.inl ((Ext.refl _).alloc _), ?_⟩
     have hE8 : Ext w0 (w1.alloc (.cells #[.int .i64 54, .string (digS 12 L)] 97)) := (Ext.trans (Ext.drew (Ext.refl _)) hE1).alloc _
     have bE : Blk (w1.alloc (.cells #[.int .i64 54, .string (digS 12 L)] 97)) w1.heap.size #[.int .i64 54, .string (digS 12 L)] 97 := Blk.new w1 _ _
     obtain ⟨Es, hEs⟩ : ∃ Es, Es = w1.heap.size := ⟨_, rfl⟩
     rw [← hEs] at bE ⊢
     obtain ⟨w2, hw2⟩ : ∃ w2, w2 = w1.alloc (.cells #[.int .i64 54, .string (digS 12 L)] 97) := ⟨_, rfl⟩
     rw [← hw2] at bE hE8 ⊢
     clear hw2 hEs hE1 w1
     refine grow_one (i := 7) rfl (by kernel_rfl) (by rfl) (fun w3 hE3 => ?_)
     refine wp_append_full w3 _ _ 27 (by rfl) 97 i0 (.agg #[.int .i64 0, .string ⟨#[]⟩]) 2 24 Tryz.underlying27 hI.out hz0.out hz1.out hz2.out rfl (by omega) ⟨Bs, 0, none⟩ 11 11 (#[.int .i64 2, .string p.car, .int .i64 3, .string ⟨#[48, 48, 48, 48, 48, 48]⟩, .int .i64 4, .string (digS 12 A), .int .i64 7, .string (digS 13 at'), .int .i64 11, .string (digS 6 n), .int .i64 18, .string (digS 4 Ct), .int .i64 32, .string nm, .int .i64 37, .string ref, .int .i64 41, .string p.ter, .int .i64 42, .string p.mer, .int .i64 49, .string p.cur] : Array Value).toList (by rfl) (by rfl) (World.news_of_block (bS6.out.ext (hE8.trans hE3))) ⟨Es, 0, none⟩ 1 1 [.int .i64 54, .string (digS 12 L)] (by rfl) (by rfl) (World.news_of_block (bE.ext hE3)) (by omega) (by unfold maxLen; omega) (by omega) ?_
     intro gg cap w9 hown hE9
     refine ⟨Or.inl hE9, ?_⟩
     have hgg : w3.heap.size ≤ gg := by
      obtain ⟨g2, c2, h2, h3, -⟩ := hown.form (by omega)
      injection h2 with h2
      injection h2 with h2
      injection h2 with h2
      omega
     have hE10 : Ext w0 w9 := (hE8.trans hE3).trans hE9
     have hneM : gg ≠ Ms := by have h1 := (hE8.trans hE3).size; omega
     have hneR : gg ≠ w.heap.size + 1 := by have h1 := (hE8.trans hE3).size; omega
     clear bE hE8 hE3 hE9
     simp only [Act.put, List.setIfInBounds_toArray]
     refine grow_take (i := 8) (v := .pointer (some ⟨Ms, 1, none⟩)) rfl (by kernel_rfl) (by kernel_rfl) (by kernel_rfl) (fun _ _ _ h => h) ⟨by rfl, fun w' hE => Or.inl (by first | (go_simp; done) | (go_simp; with_reducible rfl) | rfl)⟩ ?_
     simp only [Act.put]
     refine grow_one (i := 9) rfl (by kernel_rfl) (by rfl) (fun w10 hE11 => ?_)
     have bM10 := (bM6.out.ext hE10).ext hE11
     have m0 : w10.cell? ⟨Ms, 0, none⟩ = some (.int .i64 100) := (bM10.cell 0).trans rfl
     have m1 : w10.cell? ⟨Ms, 1, none⟩ = some (.slice (some ⟨Bs, 0, none⟩) 11 11) := (bM10.cell 1).trans rfl
     have f1 : w10.frozen? ⟨Ms, 1, none⟩ = false := bM10.fz 1
     have lM10 := bM10.lt
     go_simp
     refine ⟨Or.inr (by kernel_rfl), ?_⟩
     refine grow_end (by kernel_rfl) (fun w12 hE12' => ?_) _
     have hrow : w12.ownsRow w3.heap.size 97 2 (.slice (some ⟨gg, 0, none⟩) (11 + 1) cap) (11 + 1) ((#[.int .i64 2, .string p.car, .int .i64 3, .string ⟨#[48, 48, 48, 48, 48, 48]⟩, .int .i64 4, .string (digS 12 A), .int .i64 7, .string (digS 13 at'), .int .i64 11, .string (digS 6 n), .int .i64 18, .string (digS 4 Ct), .int .i64 32, .string nm, .int .i64 37, .string ref, .int .i64 41, .string p.ter, .int .i64 42, .string p.mer, .int .i64 49, .string p.cur] : Array Value).toList ++ [.int .i64 54, .string (digS 12 L)]) := by
      have h1 := ownsRow_chg hown (Chg.ofExt (F := fun k => k = Ms) hE11) (fun b hb e => by injection hb with hb; subst e; exact hneM hb)
      have h2 := ownsRow_chg h1 (Chg.setCell (F := fun k => k = Ms) (Chg.refl _ _) (p := ⟨Ms, 1, none⟩) (Or.inl rfl) (.slice (some ⟨gg, 0, none⟩) 12 cap)) (fun b hb e => by injection hb with hb; subst e; exact hneM hb)
      exact ownsRow_chg h2 (Chg.ofExt (F := fun k => k = Ms) hE12') (fun b hb e => by injection hb with hb; subst e; exact hneM hb)
     have bM12 := (bM10.set 1 (.slice (some ⟨gg, 0, none⟩) 12 cap)).ext hE12'
     have bR12 := ((((bR6.out.ext hE10).ext hE11).other 1 (.slice (some ⟨gg, 0, none⟩) 12 cap) (show w.heap.size + 1 ≠ Ms by omega))).ext hE12'
     have hE12 : Ext w w12 := (((hE7.out.trans hE10).trans hE11).setCell (p := ⟨Ms, 1, none⟩) (by simp; omega) (.slice (some ⟨gg, 0, none⟩) 12 cap)).trans hE12'
     have hel : ∀ wF : World, w12.heap.size ≤ wF.heap.size → (∀ k, k < w12.heap.size → k ≠ w.heap.size + 1 → wF.heap[k]? = w12.heap[k]?) → wF.ownsRow w3.heap.size 97 2 (.slice (some ⟨gg, 0, none⟩) (11 + 1) cap) (11 + 1) ((#[.int .i64 2, .string p.car, .int .i64 3, .string ⟨#[48, 48, 48, 48, 48, 48]⟩, .int .i64 4, .string (digS 12 A), .int .i64 7, .string (digS 13 at'), .int .i64 11, .string (digS 6 n), .int .i64 18, .string (digS 4 Ct), .int .i64 32, .string nm, .int .i64 37, .string ref, .int .i64 41, .string p.ter, .int .i64 42, .string p.mer, .int .i64 49, .string p.cur] : Array Value).toList ++ [.int .i64 54, .string (digS 12 L)]) := fun wF _ hk => by
      obtain ⟨r1, r2 | ⟨g2, c2, cur, r2, r3, r4, r5⟩⟩ := hrow
      · exact ⟨r1, Or.inl r2⟩
      · refine ⟨r1, Or.inr ⟨g2, c2, cur, r2, r3, ?_, r5⟩⟩
        have e : g2 = gg := by
         injection r2 with r2
         injection r2 with r2
         injection r2 with r2
         exact r2.symm
        rw [hk g2 (Array.getElem?_eq_some_iff.1 r4).1 (by rw [e]; exact hneR), r4]
     replace hel := Lib.hid hel
     clear hrow
     have a0' : w12.cell? ⟨Ms, 0, none⟩ = some (.int .i64 100) := (bM12.cell 0).trans rfl
     have a1' : w12.cell? ⟨Ms, 1, none⟩ = some (.slice (some ⟨gg, 0, none⟩) 12 cap) := (bM12.cell 1).trans rfl
     have c0 : w12.cell? ⟨w.heap.size + 1, 0, none⟩ = some (.int .i64 0) := (bR12.cell 0).trans rfl
     have c1 : w12.cell? ⟨w.heap.size + 1, 1, none⟩ = some (.slice none 0 0) := (bR12.cell 1).trans rfl
     have d0 : w12.frozen? ⟨w.heap.size + 1, 0, none⟩ = false := bR12.fz 0
     have d1 : w12.frozen? ⟨w.heap.size + 1, 1, none⟩ = false := bR12.fz 1
     have lR12 := bR12.lt
     clear hown bM10 bM12 m0 m1 f1 lM10 hE10 hE11 hE12' a0 a1 x4 lR lM bM6 bR6 bS6 hE7
     go_wp2
     have hfR := Lib.hid ((bR12.set 0 (.int .i64 100)).set 1 (.slice (some ⟨gg, 0, none⟩) 12 cap))
     have hEF := Lib.hid ((hE12.setCell (p := ⟨w.heap.size + 1, 0, none⟩) (by simp) (.int .i64 100)).setCell (p := ⟨w.heap.size + 1, 1, none⟩) (by simp) (.slice (some ⟨gg, 0, none⟩) 12 cap))
     have hrF := Lib.hid (hel.out ((w12.setCell ⟨w.heap.size + 1, 0, none⟩ (.int .i64 100)).setCell ⟨w.heap.size + 1, 1, none⟩ (.slice (some ⟨gg, 0, none⟩) 12 cap)) (by simp [World.setCell]) (fun k _ hk => by rw [Below.heap_setCell _ _ _ _ hk, Below.heap_setCell _ _ _ _ hk]))
     generalize (w12.setCell ⟨w.heap.size + 1, 0, none⟩ (.int .i64 100)).setCell ⟨w.heap.size + 1, 1, none⟩ (.slice (some ⟨gg, 0, none⟩) 12 cap) = wF at *
     have r0 : wF.cell? ⟨w.heap.size + 1, 0, none⟩ = some (.int .i64 100) := (hfR.out.cell 0).trans rfl
     have r1 : wF.cell? ⟨w.heap.size + 1, 1, none⟩ = some (.slice (some ⟨gg, 0, none⟩) 12 cap) := (hfR.out.cell 1).trans rfl
     exact bodyPost_ret (v := .agg #[.int .i64 100, .slice (some ⟨gg, 0, none⟩) 12 cap]) (by simp [results, Tryz.results25, go_sem, r0, r1]) rfl (hfin1.out h0 _ _ (elems_of_owns (es := [(2, p.car), (3, ⟨#[48, 48, 48, 48, 48, 48]⟩), (4, digS 12 A), (7, digS 13 at'), (11, digS 6 n), (18, digS 4 Ct), (32, nm), (37, ref), (41, p.ter), (42, p.mer), (49, p.cur), (54, digS 12 L)]) hrF.out) hEF.out)
   · have q : decide ((0 : Int) < (L : Int)) = false := decide_eq_false (by omega)
     go_wp2
     have hfR := Lib.hid ((bR6.set 0 (.int .i64 100)).set 1 (.slice (some ⟨Bs, 0, none⟩) 11 11))
     have hfS := Lib.hid ((bS6.other 0 (.int .i64 100) (show Bs ≠ w.heap.size + 1 by omega)).other 1 (.slice (some ⟨Bs, 0, none⟩) 11 11) (show Bs ≠ w.heap.size + 1 by omega))
     have hEF := Lib.hid ((hE7.setCell (p := ⟨w.heap.size + 1, 0, none⟩) (by simp) (.int .i64 100)).setCell (p := ⟨w.heap.size + 1, 1, none⟩) (by simp) (.slice (some ⟨Bs, 0, none⟩) 11 11))
     clear bR6 bS6 bX6 bM6 hE7 c0 c1 d0 d1 x4 a0 a1
     generalize (w0.setCell ⟨w.heap.size + 1, 0, none⟩ (.int .i64 100)).setCell ⟨w.heap.size + 1, 1, none⟩ (.slice (some ⟨Bs, 0, none⟩) 11 11) = wF at *
     have r0 : wF.cell? ⟨w.heap.size + 1, 0, none⟩ = some (.int .i64 100) := (hfR.out.cell 0).trans rfl
     have r1 : wF.cell? ⟨w.heap.size + 1, 1, none⟩ = some (.slice (some ⟨Bs, 0, none⟩) 11 11) := (hfR.out.cell 1).trans rfl
     exact bodyPost_ret (v := .agg #[.int .i64 100, .slice (some ⟨Bs, 0, none⟩) 11 11]) (by simp [results, Tryz.results25, go_sem, r0, r1]) rfl (hfin0.out h0 Bs _ hfS.out hEF.out)
 · obtain ⟨Ms, hMs⟩ : ∃ Ms, Ms = w1.heap.size := ⟨_, rfl⟩
   have bM : Blk (w1.alloc (.cells #[.int .i64 0, .slice none 0 0] 29)) Ms #[.int .i64 0, .slice none 0 0] 29 := by rw [hMs]; exact Blk.new w1 _ _
   have hEm : Ext w1 (w1.alloc (.cells #[.int .i64 0, .slice none 0 0] 29)) := (Ext.refl _).alloc _
   rw [← hMs]
   obtain ⟨w2, hw2⟩ : ∃ w2, w2 = w1.alloc (.cells #[.int .i64 0, .slice none 0 0] 29) := ⟨_, rfl⟩
   rw [← hw2] at bM hEm ⊢
   replace bR := Lib.hid (bR.ext hEm)
   replace bX := Lib.hid (bX.ext hEm)
   replace hg := Lib.hid (hg.out.ext hEm)
   replace hE0 := hE0.trans hEm
   have hsM : w.heap.size + 1 < Ms := by omega
   have hsMl := bM.lt
   clear hw2 hEm hMs hs1
   refine grow_one (i := 34) rfl (by kernel_rfl) (by rfl) (fun w3 hE3 => ?_)
   go_simp
   refine ⟨Or.inl ((Ext.refl _).alloc _), ?_⟩
   obtain ⟨Bs, hBs⟩ : ∃ Bs, Bs = w3.heap.size := ⟨_, rfl⟩
   have hEs : Ext w2 (w3.alloc (.cells #[.int .i64 2, .string p.car, .int .i64 3, .string ⟨#[48, 48, 48, 48, 48, 48]⟩, .int .i64 4, .string (digS 12 A), .int .i64 7, .string (digS 13 at'), .int .i64 11, .string (digS 6 n), .int .i64 18, .string (digS 4 Ct), .int .i64 32, .string nm, .int .i64 37, .string ref, .int .i64 41, .string p.ter, .int .i64 42, .string p.mer, .int .i64 49, .string p.cur] 97)) := hE3.alloc _
   have bS : Blk (w3.alloc (.cells #[.int .i64 2, .string p.car, .int .i64 3, .string ⟨#[48, 48, 48, 48, 48, 48]⟩, .int .i64 4, .string (digS 12 A), .int .i64 7, .string (digS 13 at'), .int .i64 11, .string (digS 6 n), .int .i64 18, .string (digS 4 Ct), .int .i64 32, .string nm, .int .i64 37, .string ref, .int .i64 41, .string p.ter, .int .i64 42, .string p.mer, .int .i64 49, .string p.cur] 97)) Bs #[.int .i64 2, .string p.car, .int .i64 3, .string ⟨#[48, 48, 48, 48, 48, 48]⟩, .int .i64 4, .string (digS 12 A), .int .i64 7, .string (digS 13 at'), .int .i64 11, .string (digS 6 n), .int .i64 18, .string (digS 4 Ct), .int .i64 32, .string nm, .int .i64 37, .string ref, .int .i64 41, .string p.ter, .int .i64 42, .string p.mer, .int .i64 49, .string p.cur] 97 := by rw [hBs]; exact Blk.new w3 _ _
   have hne : Ms < Bs := by have := hE3.size; omega
   have hsB : w.heap.size + 1 < Bs := by omega
   rw [← hBs]
   obtain ⟨w4, hw4⟩ : ∃ w4, w4 = w3.alloc (.cells #[.int .i64 2, .string p.car, .int .i64 3, .string ⟨#[48, 48, 48, 48, 48, 48]⟩, .int .i64 4, .string (digS 12 A), .int .i64 7, .string (digS 13 at'), .int .i64 11, .string (digS 6 n), .int .i64 18, .string (digS 4 Ct), .int .i64 32, .string nm, .int .i64 37, .string ref, .int .i64 41, .string p.ter, .int .i64 42, .string p.mer, .int .i64 49, .string p.cur] 97) := ⟨_, rfl⟩
   rw [← hw4] at hEs bS ⊢
   replace bR := Lib.hid (bR.out.ext hEs)
   replace bX := Lib.hid (bX.out.ext hEs)
   replace bM := bM.ext hEs
   replace bS := Lib.hid bS
   replace hg := Lib.hid (hg.out.ext hEs)
   replace hE0 := hE0.trans hEs
   replace hne : Bs ≠ Ms := (Nat.ne_of_lt hne).symm
   clear hw4 hEs hBs hE3 hsMl w2 w3
   refine grow_take (i := 35) (v := .agg #[.int .i64 100, .slice (some ⟨Bs, 0, none⟩) 11 11]) rfl (by kernel_rfl) (by kernel_rfl) (by kernel_rfl) (fun _ _ _ h => h) ⟨by rfl, fun w' hE => Or.inl (by first | (go_simp; done) | (go_simp; with_reducible rfl) | rfl)⟩ ?_
   simp only [Act.put, List.setIfInBounds_toArray]
   refine grow_one (i := 37) rfl (by kernel_rfl) (by rfl) (fun w5 hE5 => ?_)
   have bM5 := bM.ext hE5
   have m0 : w5.cell? ⟨Ms, 0, none⟩ = some (.int .i64 0) := (bM5.cell 0).trans rfl
   have m1 : w5.cell? ⟨Ms, 1, none⟩ = some (.slice none 0 0) := (bM5.cell 1).trans rfl
   have f0 : w5.frozen? ⟨Ms, 0, none⟩ = false := bM5.fz 0
   have f1 : w5.frozen? ⟨Ms, 1, none⟩ = false := bM5.fz 1
   have lM := bM5.lt
   go_simp
   refine ⟨Or.inr (by kernel_rfl), ?_⟩
   refine grow_end (by kernel_rfl) (fun w0 hE6 => ?_) _
   have bM6 := ((bM5.set 0 (.int .i64 100)).set 1 (.slice (some ⟨Bs, 0, none⟩) 11 11)).ext hE6
   have bS6 := ((((bS.out.ext hE5).other 0 (.int .i64 100) hne).other 1 (.slice (some ⟨Bs, 0, none⟩) 11 11) hne)).ext hE6
   have bX6 := ((((bX.out.ext hE5).other 0 (.int .i64 100) (show w.heap.size ≠ Ms by omega)).other 1 (.slice (some ⟨Bs, 0, none⟩) 11 11) (show w.heap.size ≠ Ms by omega))).ext hE6
   have bR6 := ((((bR.out.ext hE5).other 0 (.int .i64 100) (show w.heap.size + 1 ≠ Ms by omega)).other 1 (.slice (some ⟨Bs, 0, none⟩) 11 11) (show w.heap.size + 1 ≠ Ms by omega))).ext hE6
   have hE7 : Ext w w0 := ((((hE0.trans hE5).setCell (p := ⟨Ms, 0, none⟩) (by simp; omega) (.int .i64 100)).setCell (p := ⟨Ms, 1, none⟩) (by simp; omega) (.slice (some ⟨Bs, 0, none⟩) 11 11))).trans hE6
   replace hg := Lib.hid (hg0.out.ext hE7)
   clear bM5 m0 m1 f0 f1 lM hE5 hE6 bM bS bX bR hE0 w5 w4 w1
   have x4 : w0.cell? ⟨w.heap.size, 4, none⟩ = some (.int .i64 L) := (bX6.cell 4).trans rfl
   have a0 : w0.cell? ⟨Ms, 0, none⟩ = some (.int .i64 100) := (bM6.cell 0).trans rfl
   have a1 : w0.cell? ⟨Ms, 1, none⟩ = some (.slice (some ⟨Bs, 0, none⟩) 11 11) := (bM6.cell 1).trans rfl
   have c0 : w0.cell? ⟨w.heap.size + 1, 0, none⟩ = some (.int .i64 0) := (bR6.cell 0).trans rfl
   have c1 : w0.cell? ⟨w.heap.size + 1, 1, none⟩ = some (.slice none 0 0) := (bR6.cell 1).trans rfl
   have d0 : w0.frozen? ⟨w.heap.size + 1, 0, none⟩ = false := bR6.fz 0
   have d1 : w0.frozen? ⟨w.heap.size + 1, 1, none⟩ = false := bR6.fz 1
   have lR := bR6.lt
   have lM := bM6.lt
   by_cases h0 : 0 < L
   · have q : decide ((0 : Int) < (L : Int)) = true := decide_eq_true (by omega)
     replace bM6 := Lib.hid bM6
     replace bS6 := Lib.hid bS6
     replace bR6 := Lib.hid bR6
     replace hE7 := Lib.hid hE7
     clear bX6 c0 c1 d0 d1
     go_wp2_with fail
     refine wp_region_grow (by kernel_rfl) ?_
     refine grow_take (i := 0) (v := .pointer (some ⟨Ms, 1, none⟩)) rfl (by kernel_rfl) (by kernel_rfl) (by kernel_rfl) (fun _ _ _ h => h) ⟨by rfl, fun w' hE => Or.inl (by first | (go_simp; done) | (go_simp; with_reducible rfl) | rfl)⟩ ?_
     simp only [Act.put, List.setIfInBounds_toArray]
     refine grow_take (i := 1) (v := .slice (some ⟨Bs, 0, none⟩) 11 11) rfl (by kernel_rfl) (by kernel_rfl) (by kernel_rfl) (fun _ _ _ h => h) ⟨by rfl, fun w' hE => Or.inl (by have y := hE.get (show w0.drew.cell? ⟨Ms, 1, none⟩ = some (.slice (some ⟨Bs, 0, none⟩) 11 11) from a1); first | (go_simp; done) | (go_simp; with_reducible rfl))⟩ ?_
     simp only [Act.put]
     refine grow_take (i := 2) (v := .pointer (some ⟨w.heap.size, 4, none⟩)) rfl (by kernel_rfl) (by kernel_rfl) (by kernel_rfl) (fun _ _ _ h => h) ⟨by rfl, fun w' hE => Or.inl (by first | (go_simp; done) | (go_simp; with_reducible rfl) | rfl)⟩ ?_
     simp only [Act.put]
     refine grow_take (i := 3) (v := .int .i64 L) rfl (by kernel_rfl) (by kernel_rfl) (by kernel_rfl) (fun _ _ _ h => h) ⟨by rfl, fun w' hE => Or.inl (by have y := hE.get (show w0.drew.cell? ⟨w.heap.size, 4, none⟩ = some (.int .i64 L) from x4); first | (go_simp; done) | (go_simp; with_reducible rfl))⟩ ?_
     simp only [Act.put]
     refine grow_take (i := 4) (v := .string (digS 12 L)) rfl (by kernel_rfl) (by kernel_rfl) (by kernel_rfl) (fun _ _ _ h => h) ⟨by rfl, fun w' hE => Or.inr ⟨59, #[.int .i64 L, .int .i64 12], (by first | (go_simp; done) | (go_simp; with_reducible rfl) | rfl), kD.out L 12 w' (hg.out.ext ((Ext.drew (Ext.refl _)).trans hE)) hL12.out (by decide)⟩⟩ ?_
     simp only [Act.put]
     refine grow_take (i := 5) (v := .agg #[.int .i64 54, .string (digS 12 L)]) rfl (by kernel_rfl) (by kernel_rfl) (by kernel_rfl) (fun _ _ _ h => h) ⟨by rfl, fun w' hE => Or.inl (by first | (go_simp; done) | (go_simp; with_reducible rfl) | rfl)⟩ ?_
     simp only [Act.put]
     refine grow_one (i := 6) rfl (by kernel_rfl) (by rfl) (fun w1 hE1 => ?_)
     go_simp
     refine ⟨Or.inl ((Ext.refl _).alloc _), ?_⟩
     have hE8 : Ext w0 (w1.alloc (.cells #[.int .i64 54, .string (digS 12 L)] 97)) := (Ext.trans (Ext.drew (Ext.refl _)) hE1).alloc _
     have bE : Blk (w1.alloc (.cells #[.int .i64 54, .string (digS 12 L)] 97)) w1.heap.size #[.int .i64 54, .string (digS 12 L)] 97 := Blk.new w1 _ _
     obtain ⟨Es, hEs⟩ : ∃ Es, Es = w1.heap.size := ⟨_, rfl⟩
     rw [← hEs] at bE ⊢
     obtain ⟨w2, hw2⟩ : ∃ w2, w2 = w1.alloc (.cells #[.int .i64 54, .string (digS 12 L)] 97) := ⟨_, rfl⟩
     rw [← hw2] at bE hE8 ⊢
     clear hw2 hEs hE1 w1
     refine grow_one (i := 7) rfl (by kernel_rfl) (by rfl) (fun w3 hE3 => ?_)
     refine wp_append_full w3 _ _ 27 (by rfl) 97 i0 (.agg #[.int .i64 0, .string ⟨#[]⟩]) 2 24 Tryz.underlying27 hI.out hz0.out hz1.out hz2.out rfl (by omega) ⟨Bs, 0, none⟩ 11 11 (#[.int .i64 2, .string p.car, .int .i64 3, .string ⟨#[48, 48, 48, 48, 48, 48]⟩, .int .i64 4, .string (digS 12 A), .int .i64 7, .string (digS 13 at'), .int .i64 11, .string (digS 6 n), .int .i64 18, .string (digS 4 Ct), .int .i64 32, .string nm, .int .i64 37, .string ref, .int .i64 41, .string p.ter, .int .i64 42, .string p.mer, .int .i64 49, .string p.cur] : Array Value).toList (by rfl) (by rfl) (World.news_of_block (bS6.out.ext (hE8.trans hE3))) ⟨Es, 0, none⟩ 1 1 [.int .i64 54, .string (digS 12 L)] (by rfl) (by rfl) (World.news_of_block (bE.ext hE3)) (by omega) (by unfold maxLen; omega) (by omega) ?_
     intro gg cap w9 hown hE9
     refine ⟨Or.inl hE9, ?_⟩
     have hgg : w3.heap.size ≤ gg := by
      obtain ⟨g2, c2, h2, h3, -⟩ := hown.form (by omega)
      injection h2 with h2
      injection h2 with h2
      injection h2 with h2
      omega
     have hE10 : Ext w0 w9 := (hE8.trans hE3).trans hE9
     have hneM : gg ≠ Ms := by have h1 := (hE8.trans hE3).size; omega
     have hneR : gg ≠ w.heap.size + 1 := by have h1 := (hE8.trans hE3).size; omega
     clear bE hE8 hE3 hE9
     simp only [Act.put, List.setIfInBounds_toArray]
     refine grow_take (i := 8) (v := .pointer (some ⟨Ms, 1, none⟩)) rfl (by kernel_rfl) (by kernel_rfl) (by kernel_rfl) (fun _ _ _ h => h) ⟨by rfl, fun w' hE => Or.inl (by first | (go_simp; done) | (go_simp; with_reducible rfl) | rfl)⟩ ?_
     simp only [Act.put]
     refine grow_one (i := 9) rfl (by kernel_rfl) (by rfl) (fun w10 hE11 => ?_)
     have bM10 := (bM6.out.ext hE10).ext hE11
     have m0 : w10.cell? ⟨Ms, 0, none⟩ = some (.int .i64 100) := (bM10.cell 0).trans rfl
     have m1 : w10.cell? ⟨Ms, 1, none⟩ = some (.slice (some ⟨Bs, 0, none⟩) 11 11) := (bM10.cell 1).trans rfl
     have f1 : w10.frozen? ⟨Ms, 1, none⟩ = false := bM10.fz 1
     have lM10 := bM10.lt
     go_simp
     refine ⟨Or.inr (by kernel_rfl), ?_⟩
     refine grow_end (by kernel_rfl) (fun w12 hE12' => ?_) _
     have hrow : w12.ownsRow w3.heap.size 97 2 (.slice (some ⟨gg, 0, none⟩) (11 + 1) cap) (11 + 1) ((#[.int .i64 2, .string p.car, .int .i64 3, .string ⟨#[48, 48, 48, 48, 48, 48]⟩, .int .i64 4, .string (digS 12 A), .int .i64 7, .string (digS 13 at'), .int .i64 11, .string (digS 6 n), .int .i64 18, .string (digS 4 Ct), .int .i64 32, .string nm, .int .i64 37, .string ref, .int .i64 41, .string p.ter, .int .i64 42, .string p.mer, .int .i64 49, .string p.cur] : Array Value).toList ++ [.int .i64 54, .string (digS 12 L)]) := by
      have h1 := ownsRow_chg hown (Chg.ofExt (F := fun k => k = Ms) hE11) (fun b hb e => by injection hb with hb; subst e; exact hneM hb)
      have h2 := ownsRow_chg h1 (Chg.setCell (F := fun k => k = Ms) (Chg.refl _ _) (p := ⟨Ms, 1, none⟩) (Or.inl rfl) (.slice (some ⟨gg, 0, none⟩) 12 cap)) (fun b hb e => by injection hb with hb; subst e; exact hneM hb)
      exact ownsRow_chg h2 (Chg.ofExt (F := fun k => k = Ms) hE12') (fun b hb e => by injection hb with hb; subst e; exact hneM hb)
     have bM12 := (bM10.set 1 (.slice (some ⟨gg, 0, none⟩) 12 cap)).ext hE12'
     have bR12 := ((((bR6.out.ext hE10).ext hE11).other 1 (.slice (some ⟨gg, 0, none⟩) 12 cap) (show w.heap.size + 1 ≠ Ms by omega))).ext hE12'
     have hE12 : Ext w w12 := (((hE7.out.trans hE10).trans hE11).setCell (p := ⟨Ms, 1, none⟩) (by simp; omega) (.slice (some ⟨gg, 0, none⟩) 12 cap)).trans hE12'
     have hel : ∀ wF : World, w12.heap.size ≤ wF.heap.size → (∀ k, k < w12.heap.size → k ≠ w.heap.size + 1 → wF.heap[k]? = w12.heap[k]?) → wF.ownsRow w3.heap.size 97 2 (.slice (some ⟨gg, 0, none⟩) (11 + 1) cap) (11 + 1) ((#[.int .i64 2, .string p.car, .int .i64 3, .string ⟨#[48, 48, 48, 48, 48, 48]⟩, .int .i64 4, .string (digS 12 A), .int .i64 7, .string (digS 13 at'), .int .i64 11, .string (digS 6 n), .int .i64 18, .string (digS 4 Ct), .int .i64 32, .string nm, .int .i64 37, .string ref, .int .i64 41, .string p.ter, .int .i64 42, .string p.mer, .int .i64 49, .string p.cur] : Array Value).toList ++ [.int .i64 54, .string (digS 12 L)]) := fun wF _ hk => by
      obtain ⟨r1, r2 | ⟨g2, c2, cur, r2, r3, r4, r5⟩⟩ := hrow
      · exact ⟨r1, Or.inl r2⟩
      · refine ⟨r1, Or.inr ⟨g2, c2, cur, r2, r3, ?_, r5⟩⟩
        have e : g2 = gg := by
         injection r2 with r2
         injection r2 with r2
         injection r2 with r2
         exact r2.symm
        rw [hk g2 (Array.getElem?_eq_some_iff.1 r4).1 (by rw [e]; exact hneR), r4]
     replace hel := Lib.hid hel
     clear hrow
     have a0' : w12.cell? ⟨Ms, 0, none⟩ = some (.int .i64 100) := (bM12.cell 0).trans rfl
     have a1' : w12.cell? ⟨Ms, 1, none⟩ = some (.slice (some ⟨gg, 0, none⟩) 12 cap) := (bM12.cell 1).trans rfl
     have c0 : w12.cell? ⟨w.heap.size + 1, 0, none⟩ = some (.int .i64 0) := (bR12.cell 0).trans rfl
     have c1 : w12.cell? ⟨w.heap.size + 1, 1, none⟩ = some (.slice none 0 0) := (bR12.cell 1).trans rfl
     have d0 : w12.frozen? ⟨w.heap.size + 1, 0, none⟩ = false := bR12.fz 0
     have d1 : w12.frozen? ⟨w.heap.size + 1, 1, none⟩ = false := bR12.fz 1
     have lR12 := bR12.lt
     clear hown bM10 bM12 m0 m1 f1 lM10 hE10 hE11 hE12' a0 a1 x4 lR lM bM6 bR6 bS6 hE7
     go_wp2
     have hfR := Lib.hid ((bR12.set 0 (.int .i64 100)).set 1 (.slice (some ⟨gg, 0, none⟩) 12 cap))
     have hEF := Lib.hid ((hE12.setCell (p := ⟨w.heap.size + 1, 0, none⟩) (by simp) (.int .i64 100)).setCell (p := ⟨w.heap.size + 1, 1, none⟩) (by simp) (.slice (some ⟨gg, 0, none⟩) 12 cap))
     have hrF := Lib.hid (hel.out ((w12.setCell ⟨w.heap.size + 1, 0, none⟩ (.int .i64 100)).setCell ⟨w.heap.size + 1, 1, none⟩ (.slice (some ⟨gg, 0, none⟩) 12 cap)) (by simp [World.setCell]) (fun k _ hk => by rw [Below.heap_setCell _ _ _ _ hk, Below.heap_setCell _ _ _ _ hk]))
     generalize (w12.setCell ⟨w.heap.size + 1, 0, none⟩ (.int .i64 100)).setCell ⟨w.heap.size + 1, 1, none⟩ (.slice (some ⟨gg, 0, none⟩) 12 cap) = wF at *
     have r0 : wF.cell? ⟨w.heap.size + 1, 0, none⟩ = some (.int .i64 100) := (hfR.out.cell 0).trans rfl
     have r1 : wF.cell? ⟨w.heap.size + 1, 1, none⟩ = some (.slice (some ⟨gg, 0, none⟩) 12 cap) := (hfR.out.cell 1).trans rfl
     exact bodyPost_ret (v := .agg #[.int .i64 100, .slice (some ⟨gg, 0, none⟩) 12 cap]) (by simp [results, Tryz.results25, go_sem, r0, r1]) rfl (hfin1.out h0 _ _ (elems_of_owns (es := [(2, p.car), (3, ⟨#[48, 48, 48, 48, 48, 48]⟩), (4, digS 12 A), (7, digS 13 at'), (11, digS 6 n), (18, digS 4 Ct), (32, nm), (37, ref), (41, p.ter), (42, p.mer), (49, p.cur), (54, digS 12 L)]) hrF.out) hEF.out)
   · have q : decide ((0 : Int) < (L : Int)) = false := decide_eq_false (by omega)
     go_wp2
     have hfR := Lib.hid ((bR6.set 0 (.int .i64 100)).set 1 (.slice (some ⟨Bs, 0, none⟩) 11 11))
     have hfS := Lib.hid ((bS6.other 0 (.int .i64 100) (show Bs ≠ w.heap.size + 1 by omega)).other 1 (.slice (some ⟨Bs, 0, none⟩) 11 11) (show Bs ≠ w.heap.size + 1 by omega))
     have hEF := Lib.hid ((hE7.setCell (p := ⟨w.heap.size + 1, 0, none⟩) (by simp) (.int .i64 100)).setCell (p := ⟨w.heap.size + 1, 1, none⟩) (by simp) (.slice (some ⟨Bs, 0, none⟩) 11 11))
     clear bR6 bS6 bX6 bM6 hE7 c0 c1 d0 d1 x4 a0 a1
     generalize (w0.setCell ⟨w.heap.size + 1, 0, none⟩ (.int .i64 100)).setCell ⟨w.heap.size + 1, 1, none⟩ (.slice (some ⟨Bs, 0, none⟩) 11 11) = wF at *
     have r0 : wF.cell? ⟨w.heap.size + 1, 0, none⟩ = some (.int .i64 100) := (hfR.out.cell 0).trans rfl
     have r1 : wF.cell? ⟨w.heap.size + 1, 1, none⟩ = some (.slice (some ⟨Bs, 0, none⟩) 11 11) := (hfR.out.cell 1).trans rfl
     exact bodyPost_ret (v := .agg #[.int .i64 100, .slice (some ⟨Bs, 0, none⟩) 11 11]) (by simp [results, Tryz.results25, go_sem, r0, r1]) rfl (hfin0.out h0 Bs _ hfS.out hEF.out)
end Go.Proofs.YtkggloeaojkhaaaGreatDoor
