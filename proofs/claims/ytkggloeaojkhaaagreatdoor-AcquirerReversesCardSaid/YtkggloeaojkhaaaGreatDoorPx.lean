/- Contract of acquirer's add (walk; printed by gen/h89.py). -/
import Derived.Test.YtkggloeaojkhaaaGreatDoorPw
import Derived.Deep.RegionLaw
namespace Go.Proofs.YtkggloeaojkhaaaGreatDoor
open Go.RowKit
/-- A record as a value. -/
def recAgg (e : EntD) : Value := .agg #[.int .i64 e.kind, .string e.id, .string e.auth, .string e.acq, .string e.iss, .string e.mer, .string e.car, .int .i64 e.amt, .string e.cur, .int .i64 e.date, .int .i64 e.cat, .bool e.fin]
theorem infoEntE : (Tryz.prog.info? 159).map (fun i => (i.zero, i.size, i.bytes)) = some (some (.agg #[.int .i64 0, .string ⟨#[]⟩, .string ⟨#[]⟩, .string ⟨#[]⟩, .string ⟨#[]⟩, .string ⟨#[]⟩, .string ⟨#[]⟩, .int .i64 0, .string ⟨#[]⟩, .int .i64 0, .int .i64 0, .bool false, .string ⟨#[]⟩]), 13, 168) := by kernel_rfl
theorem ent_one (x : EntD) : ∀ v ∈ entCells x, v.oneCell' = true := by
 intro v hv
 simp only [entCells, List.mem_cons, List.not_mem_nil, or_false] at hv
 rcases hv with rfl | rfl | rfl | rfl | rfl | rfl | rfl | rfl | rfl | rfl | rfl | rfl | rfl <;> rfl
/-- Behind the append and the store. -/
theorem HostX.addEnt {w w2 : World} {B : Nat} {I : HostI} {bs : List Nat} {n : Nat} {p p' : Option Addr} {c c' : Nat} {sv : Value} {d : HostD} {C : Array Value} (h : HostX w B I bs sv (.slice p n c) d) (ok : HostOk B I bs d) (hn : d.wt.length = n) (hl : n < 1000000) (x : EntD)
 (hg : (w.alloc (.cells C 159)).grownBy w2 (Value.ownBlock (.slice p n c))) (hown : OwnC w2 B 159 13 (.slice p' (n + 1) c') (n + 1) (entL.flat d.wt ++ entCells x)) :
 HostX (w2.setCell ⟨I.X, 7, none⟩ (.slice p' (n + 1) c')) B I bs sv (.slice p' (n + 1) c') { d with wt := d.wt ++ [x] } ∧ Chg (HF B I w) w (w2.setCell ⟨I.X, 7, none⟩ (.slice p' (n + 1) c')) ∧ (w2.frozen? ⟨I.X, 7, none⟩ = false ∧ (∃ u, w2.cell? ⟨I.X, 7, none⟩ = some u) ∧ I.X < w2.heap.size) := by
 have hE : Ext w (w.alloc (.cells C 159)) := (Ext.refl _).alloc _
 have h1 := h.ext hE
 have hC : Chg (fun k => Value.ownBlock (.slice p n c) = some k) (w.alloc (.cells C 159)) w2 := (Chg.ofGrown hg).mono fun k _ e => e.symm
 have hT : Chg (Typ [159] [] 0 (w.alloc (.cells C 159))) (w.alloc (.cells C 159)) w2 := hC.mono fun k _ e => by
  obtain ⟨-, -, cs, hcs⟩ := h1.wt.blk e
  exact Typ.of hcs (Nat.zero_le _) (by simp)
 have hx2 := Typ.blk h1.h hT (by decide)
 have hS : Chg (fun k => k = I.X) w2 (w2.setCell ⟨I.X, 7, none⟩ (.slice p' (n + 1) c')) := Chg.setCell (F := fun k => k = I.X) (Chg.refl _ _) (p := ⟨I.X, 7, none⟩) (Or.inl rfl) _
 have hU : Chg (Typ [81] [] 0 w2) w2 (w2.setCell ⟨I.X, 7, none⟩ (.slice p' (n + 1) c')) := hS.mono fun k _ e => by subst e; exact Typ.of hx2 (Nat.zero_le _) (by simp)
 subst hn
 have hr2 : RowR entL 159 w2 B (.slice p' (d.wt.length + 1) c') (d.wt ++ [x]) := RowR.push (L := entL) hl hown
 refine ⟨⟨?_, ?_, ?_, Typ.row (Typ.row h1.r hT (by decide)) hU (by decide), fun i b y hb hy => ⟨Typ.blk (Typ.blk (h1.e i b y hb hy).1 hT (by decide)) hU (by decide), (h.e i b y hb hy).2⟩, Typ.smap (Typ.smap h1.m hT (by simp)) hU (by simp), Typ.row hr2 hU (by decide), Typ.smap (Typ.smap h1.f hT (by simp)) hU (by simp), Typ.smap (Typ.smap h1.c hT (by simp)) hU (by simp)⟩, ?_, hx2.fz 7, ⟨_, (hx2.cell 7).trans rfl⟩, hx2.lt⟩
 · exact hx2.set 7 _
 · exact (h1.s.chg hT (Typ.not h1.s.b (by decide))).chg hU (Typ.not (h1.s.b.chg hT (Typ.not h1.s.b (by decide))) (by decide))
 · exact (h1.q.chg hT (by decide) (by decide) (by simp)).chg hU (by decide) (by decide) (by simp)
 · refine Typ.step (Typ.step (Chg.ofExt hE) hC fun i _ e => ?_) hS fun i _ e => ?_
   · obtain ⟨h2, -, cs, hcs⟩ := h1.wt.blk e
     exact Typ.of hcs h2 (by decide)
   · subst e
     exact Typ.of hx2 ok.bl.1 (by decide)
def AddP (B : Nat) (I : HostI) (bs : List Nat) (sv : Value) (d : HostD) (x : EntD) (w : World) (e : Ending) (w' : World) : Prop := e = .returned (.tuple #[]) ∧ (∃ wv', HostX w' B I bs sv wv' { d with wt := d.wt ++ [x] }) ∧ Chg (HF B I w) w w'
set_option maxRecDepth 8000 in
set_option maxHeartbeats 16000000 in
theorem add_any (B : Nat) (I : HostI) (bs : List Nat) (sv wv : Value) (d : HostD) (e : EntD) (w : World) (hB : B ≤ w.heap.size) (h : HostX w B I bs sv wv d) (ok : HostOk B I bs d) (ho : e.orig = e.id) (hwl : d.wt.length < 1000000) : Calls Tryz.prog 78 #[.pointer (some ⟨I.X, 7, none⟩), recAgg e] w (AddP B I bs sv d e w) := by
 obtain ⟨p, c, rfl⟩ := h.wt.form
 obtain ⟨n, hn⟩ : ∃ n, d.wt.length = n := ⟨_, rfl⟩
 rw [hn] at h hwl
 have hX := Lib.hid (h.ext ((Ext.refl w).alloc (.cells #[.int .i64 e.kind, .string e.id, .string e.auth, .string e.acq, .string e.iss, .string e.mer, .string e.car, .int .i64 e.amt, .string e.cur, .int .i64 e.date, .int .i64 e.cat, .bool e.fin] 113)))
 have y7 : w.cell? ⟨I.X, 7, none⟩ = some (.slice p n c) := h.h.cell 7
 have lX := h.h.lt
 have hrow := Lib.hid (show OwnC (w.alloc (.cells #[.int .i64 e.kind, .string e.id, .string e.auth, .string e.acq, .string e.iss, .string e.mer, .string e.car, .int .i64 e.amt, .string e.cur, .int .i64 e.date, .int .i64 e.cat, .bool e.fin] 113)) B 159 13 (.slice p n c) n (entL.flat d.wt) from by have h1 := hX.out.wt.2; rw [hn] at h1; exact h1)
 have hec : entCells e = #[.int .i64 e.kind, .string e.id, .string e.auth, .string e.acq, .string e.iss, .string e.mer, .string e.car, .int .i64 e.amt, .string e.cur, .int .i64 e.date, .int .i64 e.cat, .bool e.fin, .string e.id].toList := by unfold entCells; rw [ho]
 have hone := ent_one e
 have hfin := Lib.hid (fun w2 p' c' (hg : ((w.alloc (.cells #[.int .i64 e.kind, .string e.id, .string e.auth, .string e.acq, .string e.iss, .string e.mer, .string e.car, .int .i64 e.amt, .string e.cur, .int .i64 e.date, .int .i64 e.cat, .bool e.fin] 113)).alloc (.cells #[.int .i64 e.kind, .string e.id, .string e.auth, .string e.acq, .string e.iss, .string e.mer, .string e.car, .int .i64 e.amt, .string e.cur, .int .i64 e.date, .int .i64 e.cat, .bool e.fin, .string e.id] 159)).grownBy w2 (Value.ownBlock (.slice p n c))) (hown : OwnC w2 B 159 13 (.slice p' (n + 1) c') (n + 1) (entL.flat d.wt ++ #[.int .i64 e.kind, .string e.id, .string e.auth, .string e.acq, .string e.iss, .string e.mer, .string e.car, .int .i64 e.amt, .string e.cur, .int .i64 e.date, .int .i64 e.cat, .bool e.fin, .string e.id].toList)) => show (∀ w', Ext (w2.setCell ⟨I.X, 7, none⟩ (.slice p' (n + 1) c')) w' → AddP B I bs sv d e w (.returned (.tuple #[])) w') ∧ (w2.frozen? ⟨I.X, 7, none⟩ = false ∧ (∃ u, w2.cell? ⟨I.X, 7, none⟩ = some u) ∧ I.X < w2.heap.size) from by
  rw [← hec] at hown
  obtain ⟨r1, r2, r3⟩ := hX.out.addEnt ok hn hwl e hg hown
  exact ⟨fun w' hE => ⟨rfl, ⟨_, r1.ext hE⟩, (Typ.trans (Chg.ofExt ((Ext.refl w).alloc _)) r2).ext hE⟩, r3⟩)
 obtain ⟨i0, hI, hz0, hz1, hz2⟩ := info_partsE infoEntE
 replace hI := Lib.hid hI
 replace hz0 := Lib.hid hz0
 replace hz1 := Lib.hid hz1
 replace hz2 := Lib.hid hz2
 rw [hec] at hone
 replace hone := Lib.hid hone
 generalize AddP B I bs sv d e w = PP at *
 unfold recAgg
 clear h hec ok hX ho
 go_enter Tryz.func78, Tryz.ntmps78
 go_wp2_with fail
 have hbx := Blk.new w #[.int .i64 e.kind, .string e.id, .string e.auth, .string e.acq, .string e.iss, .string e.mer, .string e.car, .int .i64 e.amt, .string e.cur, .int .i64 e.date, .int .i64 e.cat, .bool e.fin] 113
 obtain ⟨w1, hw1⟩ : ∃ w1, w1 = w.alloc (.cells #[.int .i64 e.kind, .string e.id, .string e.auth, .string e.acq, .string e.iss, .string e.mer, .string e.car, .int .i64 e.amt, .string e.cur, .int .i64 e.date, .int .i64 e.cat, .bool e.fin] 113) := ⟨_, rfl⟩
 have hE1 : Ext w w1 := by rw [hw1]; exact (Ext.refl _).alloc _
 rw [← hw1] at hbx hrow hfin
 first | rw [← hw1] | simp only [← hw1]
 clear hw1
 replace y7 := hE1.get y7
 replace lX := Nat.lt_of_lt_of_le lX hE1.size
 have lW := hbx.lt
 have hB1 := Lib.hid (Nat.le_trans hB hE1.size)
 have x0 : w1.cell? ⟨w.heap.size, 0, none⟩ = some (.int .i64 e.kind) := (hbx.cell 0).trans rfl
 have x1 : w1.cell? ⟨w.heap.size, 1, none⟩ = some (.string e.id) := (hbx.cell 1).trans rfl
 have x2 : w1.cell? ⟨w.heap.size, 2, none⟩ = some (.string e.auth) := (hbx.cell 2).trans rfl
 have x3 : w1.cell? ⟨w.heap.size, 3, none⟩ = some (.string e.acq) := (hbx.cell 3).trans rfl
 have x4 : w1.cell? ⟨w.heap.size, 4, none⟩ = some (.string e.iss) := (hbx.cell 4).trans rfl
 have x5 : w1.cell? ⟨w.heap.size, 5, none⟩ = some (.string e.mer) := (hbx.cell 5).trans rfl
 have x6 : w1.cell? ⟨w.heap.size, 6, none⟩ = some (.string e.car) := (hbx.cell 6).trans rfl
 have x7 : w1.cell? ⟨w.heap.size, 7, none⟩ = some (.int .i64 e.amt) := (hbx.cell 7).trans rfl
 have x8 : w1.cell? ⟨w.heap.size, 8, none⟩ = some (.string e.cur) := (hbx.cell 8).trans rfl
 have x9 : w1.cell? ⟨w.heap.size, 9, none⟩ = some (.int .i64 e.date) := (hbx.cell 9).trans rfl
 have x10 : w1.cell? ⟨w.heap.size, 10, none⟩ = some (.int .i64 e.cat) := (hbx.cell 10).trans rfl
 have x11 : w1.cell? ⟨w.heap.size, 11, none⟩ = some (.bool e.fin) := (hbx.cell 11).trans rfl
 clear hbx hE1
 go_region_law ((refine step_append_cut _ (by rfl) _ _ _ (by rfl) B 159 i0 (.agg #[.int .i64 0, .string ⟨#[]⟩, .string ⟨#[]⟩, .string ⟨#[]⟩, .string ⟨#[]⟩, .string ⟨#[]⟩, .string ⟨#[]⟩, .int .i64 0, .string ⟨#[]⟩, .int .i64 0, .int .i64 0, .bool false, .string ⟨#[]⟩]) 13 168 Tryz.underlying76 hI.out hz0.out hz1.out hz2.out rfl (by omega) (.slice p n c) n (entL.flat d.wt) (by rfl) (OwnC.ext hrow.out xt) ⟨w1.heap.size, 0, none⟩ 1 1 (#[.int .i64 e.kind, .string e.id, .string e.auth, .string e.acq, .string e.iss, .string e.mer, .string e.car, .int .i64 e.amt, .string e.cur, .int .i64 e.date, .int .i64 e.cat, .bool e.fin, .string e.id] : Array Value).toList (by rfl) (by rfl) (by exact World.news_of_block (Blk.new w1 #[.int .i64 e.kind, .string e.id, .string e.auth, .string e.acq, .string e.iss, .string e.mer, .string e.car, .int .i64 e.amt, .string e.cur, .int .i64 e.date, .int .i64 e.cat, .bool e.fin, .string e.id] 159)) hone.out (by unfold maxLen; omega) (by omega) (by have := hB1.out; simp; omega) ?_; intro p' c' w5 hown5 hgrow5 _hat5; obtain ⟨hf5, z7, ⟨u7, x7w⟩, lX5⟩ := hfin.out w5 p' c' (by first | exact grown_undrew hgrow5 | exact hgrow5) hown5; replace hf5 := Lib.hid hf5; clear hown5 hgrow5 _hat5))
 all_goals
  go_wp2
  go_end0
  exact hf5.out _ (Ext.refl _)
end Go.Proofs.YtkggloeaojkhaaaGreatDoor
