/- Contracts of the reference's leaf, eval, Eval, with no uses (walks; printed by gen/g7.py). -/
import Derived.Test.YtnppbeajemhjeaaGreatG6
namespace Go.Proofs.YtnppbeajemhjeaaGreat
open Go.RowKit
set_option maxRecDepth 8000 in
set_option maxHeartbeats 2000000 in
theorem rleaf1 (nm tx : ByteArray) (n : Int) (q : Option Addr) (cp : Nat) (w : World) (hn : nbrB n = true) (fv : Value) (l : List Feat) (_hF : Feats w fv l) : Calls Tryz.prog 89 #[.agg #[.int .i64 1, .string nm, .string tx, .int .i64 n, .slice q 0 cp], fv, .slice none 0 0] w (EvP (evOp l nilS 1 nm tx n []) w) := by
  have hR := Lib.hid (show evOp l nilS 1 nm tx n [] = some (numF n) by simp [evOp])
  have kT := Lib.hid (fun w1 => rnum_any n w1)
  rw [show numO n = some (numF n) by unfold numO; rw [if_pos hn]] at kT
  generalize evOp l nilS 1 nm tx n [] = R at *
  generalize numF n = f at *
  clear hn _hF
  go_enter Tryz.func89, Tryz.ntmps89
  have hbx0 := (Blk.new w #[.int .i64 1, .string nm, .string tx, .int .i64 n, .slice q 0 cp] 24).alloc (.cells #[.string ⟨#[]⟩, .int .i64 0, .int .i64 0, .string ⟨#[]⟩] 36)
  have hbr0 := Blk.new' (w.alloc (.cells #[.int .i64 1, .string nm, .string tx, .int .i64 n, .slice q 0 cp] 24)) #[.string ⟨#[]⟩, .int .i64 0, .int .i64 0, .string ⟨#[]⟩] 36 (w.heap.size + 1) (by simp)
  have hE00 : Ext w ((w.alloc (.cells #[.int .i64 1, .string nm, .string tx, .int .i64 n, .slice q 0 cp] 24)).alloc (.cells #[.string ⟨#[]⟩, .int .i64 0, .int .i64 0, .string ⟨#[]⟩] 36)) := ((Ext.refl w).alloc _).alloc _
  go_wp2_with fail
  refine (kT.out _).mono ?_
  rintro e w1 hq
  obtain ⟨rfl, hE1⟩ := evP_some hq
  have hbr := Lib.hid (hbr0.ext hE1)
  have hE : Ext w w1 := hE00.trans hE1
  clear hE1 hq hbr0 hbx0 hE00 kT
  have z0 : w1.cell? ⟨w.heap.size + 1, 0, none⟩ = some (.string ⟨#[]⟩) := (hbr.out.cell 0).trans rfl
  have z1 : w1.cell? ⟨w.heap.size + 1, 1, none⟩ = some (.int .i64 0) := (hbr.out.cell 1).trans rfl
  have z2 : w1.cell? ⟨w.heap.size + 1, 2, none⟩ = some (.int .i64 0) := (hbr.out.cell 2).trans rfl
  have z3 : w1.cell? ⟨w.heap.size + 1, 3, none⟩ = some (.string ⟨#[]⟩) := (hbr.out.cell 3).trans rfl
  have f0 := hbr.out.fz 0
  have f1 := hbr.out.fz 1
  have f2 := hbr.out.fz 2
  have f3 := hbr.out.fz 3
  have zl : w.heap.size + 1 < w1.heap.size := hbr.out.lt
  go_wp2
  exact bodyPost_ret (v := .tuple #[.agg #[.string f.name, .int .i64 f.kind, .int .i64 f.n, .string f.text], .int .i64 0]) (by first | (simp [results, Tryz.results89, go_sem, z0, z1, z2, z3]; done) | (simp [results, Tryz.results89, go_sem, z0, z1, z2, z3, zl]; done) | simp [results, Tryz.results89, go_sem]) rfl (evP_s (f := f) hR.out (by repeat (first | with_reducible exact Ext.refl _ | with_reducible exact hE0 | with_reducible exact hE | with_reducible refine Ext.alloc ?_ _ | with_reducible refine Ext.drewN ?_ _ | with_reducible refine Ext.drew ?_ | ((with_reducible refine Ext.setCell ?_ ?side _); (case side => first | exact Nat.le_refl _ | (simp; done) | (simp; omega))))))
set_option maxRecDepth 8000 in
set_option maxHeartbeats 2000000 in
theorem rleaf2 (nm tx : ByteArray) (n : Int) (q : Option Addr) (cp : Nat) (w : World) (fv : Value) (l : List Feat) (_hF : Feats w fv l) : Calls Tryz.prog 89 #[.agg #[.int .i64 2, .string nm, .string tx, .int .i64 n, .slice q 0 cp], fv, .slice none 0 0] w (EvP (evOp l nilS 2 nm tx n []) w) := by
  have hR := Lib.hid (show evOp l nilS 2 nm tx n [] = some ⟨⟨#[]⟩, 2, 0, tx⟩ by simp [evOp, txtF, emS])
  generalize evOp l nilS 2 nm tx n [] = R at *
  clear _hF
  go_enter Tryz.func89, Tryz.ntmps89
  go_wp2
  exact bodyPost_ret (v := .tuple #[.agg #[.string ⟨#[]⟩, .int .i64 2, .int .i64 0, .string tx], .int .i64 0]) (by simp [results, Tryz.results89, go_sem]) rfl (evP_s (f := ⟨⟨#[]⟩, 2, 0, tx⟩) hR.out (by repeat (first | with_reducible exact Ext.refl _ | with_reducible exact hE0 | with_reducible exact hE | with_reducible refine Ext.alloc ?_ _ | with_reducible refine Ext.drewN ?_ _ | with_reducible refine Ext.drew ?_ | ((with_reducible refine Ext.setCell ?_ ?side _); (case side => first | exact Nat.le_refl _ | (simp; done) | (simp; omega))))))
set_option maxRecDepth 8000 in
set_option maxHeartbeats 2000000 in
theorem rleaf3 (nm tx : ByteArray) (n : Int) (q : Option Addr) (cp : Nat) (w : World) (fv : Value) (l : List Feat) (hF : Feats w fv l) : Calls Tryz.prog 89 #[.agg #[.int .i64 3, .string nm, .string tx, .int .i64 n, .slice q 0 cp], fv, .slice none 0 0] w (EvP (evOp l nilS 3 nm tx n []) w) := by
  obtain ⟨f, hf⟩ : ∃ f, (findN l nm).getD fD = f := ⟨_, rfl⟩
  have hfo := featOf_eq l nm f hf
  have hR0 := Lib.hid (show evOp l nilS 3 nm tx n [] = some (featOf l nm) by simp [evOp])
  have kF := Lib.hid (fun w1 (h : Ext w w1) => rfind_ex w1 fv l nm (hF.ext h))
  unfold FindP at kF
  rw [hf] at kF
  generalize evOp l nilS 3 nm tx n [] = R at *
  generalize featOf l nm = g at *
  generalize (findN l nm).isSome = fb at *
  clear hf hF
  by_cases hk : f.kind = 2
  · have hR := Lib.hid (show R = some ⟨⟨#[]⟩, 2, 0, f.text⟩ by rw [hR0.out, hfo, if_pos hk]; rfl)
    have dk : (f.kind == 2) = true := by simpa using hk
    clear hR0 hfo hk
    go_enter Tryz.func89, Tryz.ntmps89
    go_wp2_with fail
    refine (kF.out _ (((Ext.refl w).alloc _).alloc _)).mono ?_
    rintro e w1 ⟨rfl, rfl⟩
    go_wp2
    exact bodyPost_ret (v := .tuple #[.agg #[.string ⟨#[]⟩, .int .i64 2, .int .i64 0, .string f.text], .int .i64 0]) (by simp [results, Tryz.results89, go_sem]) rfl (evP_s (f := ⟨⟨#[]⟩, 2, 0, f.text⟩) hR.out (by repeat (first | with_reducible exact Ext.refl _ | with_reducible exact hE0 | with_reducible exact hE | with_reducible refine Ext.alloc ?_ _ | with_reducible refine Ext.drewN ?_ _ | with_reducible refine Ext.drew ?_ | ((with_reducible refine Ext.setCell ?_ ?side _); (case side => first | exact Nat.le_refl _ | (simp; done) | (simp; omega))))))
  · have hR := Lib.hid (show R = some ⟨⟨#[]⟩, f.kind, f.n, ⟨#[]⟩⟩ by rw [hR0.out, hfo, if_neg hk]; rfl)
    have dk : (f.kind == 2) = false := by simpa using hk
    clear hR0 hfo hk
    go_enter Tryz.func89, Tryz.ntmps89
    go_wp2_with fail
    refine (kF.out _ (((Ext.refl w).alloc _).alloc _)).mono ?_
    rintro e w1 ⟨rfl, rfl⟩
    go_wp2
    exact bodyPost_ret (v := .tuple #[.agg #[.string ⟨#[]⟩, .int .i64 f.kind, .int .i64 f.n, .string ⟨#[]⟩], .int .i64 0]) (by simp [results, Tryz.results89, go_sem]) rfl (evP_s (f := ⟨⟨#[]⟩, f.kind, f.n, ⟨#[]⟩⟩) hR.out (by repeat (first | with_reducible exact Ext.refl _ | with_reducible exact hE0 | with_reducible exact hE | with_reducible refine Ext.alloc ?_ _ | with_reducible refine Ext.drewN ?_ _ | with_reducible refine Ext.drew ?_ | ((with_reducible refine Ext.setCell ?_ ?side _); (case side => first | exact Nat.le_refl _ | (simp; done) | (simp; omega))))))
set_option maxRecDepth 8000 in
set_option maxHeartbeats 2000000 in
theorem rleaf16 (nm tx : ByteArray) (n : Int) (q : Option Addr) (cp : Nat) (w : World) (fv : Value) (l : List Feat) (_hF : Feats w fv l) : Calls Tryz.prog 89 #[.agg #[.int .i64 16, .string nm, .string tx, .int .i64 n, .slice q 0 cp], fv, .slice none 0 0] w (EvP (evOp l nilS 16 nm tx n []) w) := by
  have hR := Lib.hid (show evOp l nilS 16 nm tx n [] = some (numF 0) by simp [evOp, nilS, nbrB])
  have kU := Lib.hid (fun w1 => rused_nil nm n w1)
  have kT := Lib.hid (fun w1 => rnum_any 0 w1)
  rw [show numO 0 = some (numF 0) by simp [numO, nbrB]] at kT
  generalize evOp l nilS 16 nm tx n [] = R at *
  generalize numF 0 = f at *
  clear _hF
  have kf2 : ∀ W : World, (Instr.field 122 (.agg #[.string ⟨#[]⟩, .int .i64 0, .int .i64 0, .int .i64 0]) 2).run Tryz.prog W = .ok (.int .i64 0) W := fun W => by kernel_rfl
  have kf3 : ∀ W : World, (Instr.field 122 (.agg #[.string ⟨#[]⟩, .int .i64 0, .int .i64 0, .int .i64 0]) 3).run Tryz.prog W = .ok (.int .i64 0) W := fun W => by kernel_rfl
  go_enter Tryz.func89, Tryz.ntmps89
  have hbx0 := (Blk.new w #[.int .i64 16, .string nm, .string tx, .int .i64 n, .slice q 0 cp] 24).alloc (.cells #[.string ⟨#[]⟩, .int .i64 0, .int .i64 0, .string ⟨#[]⟩] 36)
  have hbr0 := Blk.new' (w.alloc (.cells #[.int .i64 16, .string nm, .string tx, .int .i64 n, .slice q 0 cp] 24)) #[.string ⟨#[]⟩, .int .i64 0, .int .i64 0, .string ⟨#[]⟩] 36 (w.heap.size + 1) (by simp)
  have hE00 : Ext w ((w.alloc (.cells #[.int .i64 16, .string nm, .string tx, .int .i64 n, .slice q 0 cp] 24)).alloc (.cells #[.string ⟨#[]⟩, .int .i64 0, .int .i64 0, .string ⟨#[]⟩] 36)) := ((Ext.refl w).alloc _).alloc _
  go_wp2_with fail
  refine (kU.out _).mono ?_
  rintro e w0 ⟨rfl, hE0⟩
  go_wp2_with fail
  refine (kT.out _).mono ?_
  rintro e w1 hq
  obtain ⟨rfl, hE1⟩ := evP_some hq
  have hbr := Lib.hid (hbr0.ext (hE0.trans hE1))
  have hE : Ext w w1 := hE00.trans (hE0.trans hE1)
  clear hE0 hE1 hq hbr0 hbx0 hE00 kT kU
  have z0 : w1.cell? ⟨w.heap.size + 1, 0, none⟩ = some (.string ⟨#[]⟩) := (hbr.out.cell 0).trans rfl
  have z1 : w1.cell? ⟨w.heap.size + 1, 1, none⟩ = some (.int .i64 0) := (hbr.out.cell 1).trans rfl
  have z2 : w1.cell? ⟨w.heap.size + 1, 2, none⟩ = some (.int .i64 0) := (hbr.out.cell 2).trans rfl
  have z3 : w1.cell? ⟨w.heap.size + 1, 3, none⟩ = some (.string ⟨#[]⟩) := (hbr.out.cell 3).trans rfl
  have f0 := hbr.out.fz 0
  have f1 := hbr.out.fz 1
  have f2 := hbr.out.fz 2
  have f3 := hbr.out.fz 3
  have zl : w.heap.size + 1 < w1.heap.size := hbr.out.lt
  go_wp2
  exact bodyPost_ret (v := .tuple #[.agg #[.string f.name, .int .i64 f.kind, .int .i64 f.n, .string f.text], .int .i64 0]) (by first | (simp [results, Tryz.results89, go_sem, z0, z1, z2, z3]; done) | (simp [results, Tryz.results89, go_sem, z0, z1, z2, z3, zl]; done) | simp [results, Tryz.results89, go_sem]) rfl (evP_s (f := f) hR.out (by repeat (first | with_reducible exact Ext.refl _ | with_reducible exact hE0 | with_reducible exact hE | with_reducible refine Ext.alloc ?_ _ | with_reducible refine Ext.drewN ?_ _ | with_reducible refine Ext.drew ?_ | ((with_reducible refine Ext.setCell ?_ ?side _); (case side => first | exact Nat.le_refl _ | (simp; done) | (simp; omega))))))
set_option maxRecDepth 8000 in
set_option maxHeartbeats 2000000 in
theorem rleaf17 (nm tx : ByteArray) (n : Int) (q : Option Addr) (cp : Nat) (w : World) (fv : Value) (l : List Feat) (_hF : Feats w fv l) : Calls Tryz.prog 89 #[.agg #[.int .i64 17, .string nm, .string tx, .int .i64 n, .slice q 0 cp], fv, .slice none 0 0] w (EvP (evOp l nilS 17 nm tx n []) w) := by
  have hR := Lib.hid (show evOp l nilS 17 nm tx n [] = some (numF 0) by simp [evOp, nilS, nbrB])
  have kU := Lib.hid (fun w1 => rused_nil nm n w1)
  have kT := Lib.hid (fun w1 => rnum_any 0 w1)
  rw [show numO 0 = some (numF 0) by simp [numO, nbrB]] at kT
  generalize evOp l nilS 17 nm tx n [] = R at *
  generalize numF 0 = f at *
  clear _hF
  have kf2 : ∀ W : World, (Instr.field 122 (.agg #[.string ⟨#[]⟩, .int .i64 0, .int .i64 0, .int .i64 0]) 2).run Tryz.prog W = .ok (.int .i64 0) W := fun W => by kernel_rfl
  have kf3 : ∀ W : World, (Instr.field 122 (.agg #[.string ⟨#[]⟩, .int .i64 0, .int .i64 0, .int .i64 0]) 3).run Tryz.prog W = .ok (.int .i64 0) W := fun W => by kernel_rfl
  go_enter Tryz.func89, Tryz.ntmps89
  have hbx0 := (Blk.new w #[.int .i64 17, .string nm, .string tx, .int .i64 n, .slice q 0 cp] 24).alloc (.cells #[.string ⟨#[]⟩, .int .i64 0, .int .i64 0, .string ⟨#[]⟩] 36)
  have hbr0 := Blk.new' (w.alloc (.cells #[.int .i64 17, .string nm, .string tx, .int .i64 n, .slice q 0 cp] 24)) #[.string ⟨#[]⟩, .int .i64 0, .int .i64 0, .string ⟨#[]⟩] 36 (w.heap.size + 1) (by simp)
  have hE00 : Ext w ((w.alloc (.cells #[.int .i64 17, .string nm, .string tx, .int .i64 n, .slice q 0 cp] 24)).alloc (.cells #[.string ⟨#[]⟩, .int .i64 0, .int .i64 0, .string ⟨#[]⟩] 36)) := ((Ext.refl w).alloc _).alloc _
  go_wp2_with fail
  refine (kU.out _).mono ?_
  rintro e w0 ⟨rfl, hE0⟩
  go_wp2_with fail
  refine (kT.out _).mono ?_
  rintro e w1 hq
  obtain ⟨rfl, hE1⟩ := evP_some hq
  have hbr := Lib.hid (hbr0.ext (hE0.trans hE1))
  have hE : Ext w w1 := hE00.trans (hE0.trans hE1)
  clear hE0 hE1 hq hbr0 hbx0 hE00 kT kU
  have z0 : w1.cell? ⟨w.heap.size + 1, 0, none⟩ = some (.string ⟨#[]⟩) := (hbr.out.cell 0).trans rfl
  have z1 : w1.cell? ⟨w.heap.size + 1, 1, none⟩ = some (.int .i64 0) := (hbr.out.cell 1).trans rfl
  have z2 : w1.cell? ⟨w.heap.size + 1, 2, none⟩ = some (.int .i64 0) := (hbr.out.cell 2).trans rfl
  have z3 : w1.cell? ⟨w.heap.size + 1, 3, none⟩ = some (.string ⟨#[]⟩) := (hbr.out.cell 3).trans rfl
  have f0 := hbr.out.fz 0
  have f1 := hbr.out.fz 1
  have f2 := hbr.out.fz 2
  have f3 := hbr.out.fz 3
  have zl : w.heap.size + 1 < w1.heap.size := hbr.out.lt
  go_wp2
  exact bodyPost_ret (v := .tuple #[.agg #[.string f.name, .int .i64 f.kind, .int .i64 f.n, .string f.text], .int .i64 0]) (by first | (simp [results, Tryz.results89, go_sem, z0, z1, z2, z3]; done) | (simp [results, Tryz.results89, go_sem, z0, z1, z2, z3, zl]; done) | simp [results, Tryz.results89, go_sem]) rfl (evP_s (f := f) hR.out (by repeat (first | with_reducible exact Ext.refl _ | with_reducible exact hE0 | with_reducible exact hE | with_reducible refine Ext.alloc ?_ _ | with_reducible refine Ext.drewN ?_ _ | with_reducible refine Ext.drew ?_ | ((with_reducible refine Ext.setCell ?_ ?side _); (case side => first | exact Nat.le_refl _ | (simp; done) | (simp; omega))))))
/-- What a place that holds a part is good for, to the reference's eval. -/
def RKid (w : World) (fv : Value) (l : List Feat) (bb o : Nat) (y : Ex) : Prop :=
  ∃ q c, ExCells w bb o y (.slice q y.args.length c) ∧ ∀ w2, Ext w w2 → Calls Tryz.prog 74 #[exAgg y (.slice q y.args.length c), fv, .slice none 0 0] w2 (EvP (y.ev l nilS) w2)
set_option maxRecDepth 8000 in
set_option maxHeartbeats 2000000 in
theorem rev0 (op : Int) (nm tx : ByteArray) (n : Int) (q : Option Addr) (cp : Nat) (w : World) (fv : Value) (R : Option Feat) (kL : ∀ w1, Ext w w1 → Calls Tryz.prog 89 #[.agg #[.int .i64 op, .string nm, .string tx, .int .i64 n, .slice q 0 cp], fv, .slice none 0 0] w1 (EvP R w1)) : Calls Tryz.prog 74 #[.agg #[.int .i64 op, .string nm, .string tx, .int .i64 n, .slice q 0 cp], fv, .slice none 0 0] w (EvP R w) := by
  replace kL := Lib.hid kL
  cases R with
  | none =>
    go_enter Tryz.func74, Tryz.ntmps74
    have hbx0 := (Blk.new w #[.int .i64 op, .string nm, .string tx, .int .i64 n, .slice q 0 cp] 24).alloc (.cells #[.string ⟨#[]⟩, .int .i64 0, .int .i64 0, .string ⟨#[]⟩] 36)
    have hbr0 := Blk.new' (w.alloc (.cells #[.int .i64 op, .string nm, .string tx, .int .i64 n, .slice q 0 cp] 24)) #[.string ⟨#[]⟩, .int .i64 0, .int .i64 0, .string ⟨#[]⟩] 36 (w.heap.size + 1) (by simp)
    have hE00 : Ext w ((w.alloc (.cells #[.int .i64 op, .string nm, .string tx, .int .i64 n, .slice q 0 cp] 24)).alloc (.cells #[.string ⟨#[]⟩, .int .i64 0, .int .i64 0, .string ⟨#[]⟩] 36)) := ((Ext.refl w).alloc _).alloc _
    go_wp2_with fail
    refine (kL.out _ hE00).mono ?_
    rintro e w1 hq
    obtain ⟨rfl, hE1⟩ := evP_none hq
    have hbr := Lib.hid (hbr0.ext hE1)
    have hE : Ext w w1 := hE00.trans hE1
    clear hE1 hq hbr0 hbx0 hE00 kL
    have z0 : w1.cell? ⟨w.heap.size + 1, 0, none⟩ = some (.string ⟨#[]⟩) := (hbr.out.cell 0).trans rfl
    have z1 : w1.cell? ⟨w.heap.size + 1, 1, none⟩ = some (.int .i64 0) := (hbr.out.cell 1).trans rfl
    have z2 : w1.cell? ⟨w.heap.size + 1, 2, none⟩ = some (.int .i64 0) := (hbr.out.cell 2).trans rfl
    have z3 : w1.cell? ⟨w.heap.size + 1, 3, none⟩ = some (.string ⟨#[]⟩) := (hbr.out.cell 3).trans rfl
    have f0 := hbr.out.fz 0
    have f1 := hbr.out.fz 1
    have f2 := hbr.out.fz 2
    have f3 := hbr.out.fz 3
    have zl : w.heap.size + 1 < w1.heap.size := hbr.out.lt
    go_wp2
    exact bodyPost_ret (v := .tuple #[.agg #[.string ⟨#[]⟩, .int .i64 0, .int .i64 0, .string ⟨#[]⟩], .int .i64 4]) (by first | (simp [results, Tryz.results74, go_sem, z0, z1, z2, z3]; done) | (simp [results, Tryz.results74, go_sem, z0, z1, z2, z3, zl]; done) | simp [results, Tryz.results74, go_sem]) rfl (evP_n rfl (by repeat (first | with_reducible exact Ext.refl _ | with_reducible exact hE0 | with_reducible exact hE | with_reducible refine Ext.alloc ?_ _ | with_reducible refine Ext.drewN ?_ _ | with_reducible refine Ext.drew ?_ | ((with_reducible refine Ext.setCell ?_ ?side _); (case side => first | exact Nat.le_refl _ | (simp; done) | (simp; omega))))))
  | some f =>
    go_enter Tryz.func74, Tryz.ntmps74
    have hbx0 := (Blk.new w #[.int .i64 op, .string nm, .string tx, .int .i64 n, .slice q 0 cp] 24).alloc (.cells #[.string ⟨#[]⟩, .int .i64 0, .int .i64 0, .string ⟨#[]⟩] 36)
    have hbr0 := Blk.new' (w.alloc (.cells #[.int .i64 op, .string nm, .string tx, .int .i64 n, .slice q 0 cp] 24)) #[.string ⟨#[]⟩, .int .i64 0, .int .i64 0, .string ⟨#[]⟩] 36 (w.heap.size + 1) (by simp)
    have hE00 : Ext w ((w.alloc (.cells #[.int .i64 op, .string nm, .string tx, .int .i64 n, .slice q 0 cp] 24)).alloc (.cells #[.string ⟨#[]⟩, .int .i64 0, .int .i64 0, .string ⟨#[]⟩] 36)) := ((Ext.refl w).alloc _).alloc _
    go_wp2_with fail
    refine (kL.out _ hE00).mono ?_
    rintro e w1 hq
    obtain ⟨rfl, hE1⟩ := evP_some hq
    have hbr := Lib.hid (hbr0.ext hE1)
    have hE : Ext w w1 := hE00.trans hE1
    clear hE1 hq hbr0 hbx0 hE00 kL
    have z0 : w1.cell? ⟨w.heap.size + 1, 0, none⟩ = some (.string ⟨#[]⟩) := (hbr.out.cell 0).trans rfl
    have z1 : w1.cell? ⟨w.heap.size + 1, 1, none⟩ = some (.int .i64 0) := (hbr.out.cell 1).trans rfl
    have z2 : w1.cell? ⟨w.heap.size + 1, 2, none⟩ = some (.int .i64 0) := (hbr.out.cell 2).trans rfl
    have z3 : w1.cell? ⟨w.heap.size + 1, 3, none⟩ = some (.string ⟨#[]⟩) := (hbr.out.cell 3).trans rfl
    have f0 := hbr.out.fz 0
    have f1 := hbr.out.fz 1
    have f2 := hbr.out.fz 2
    have f3 := hbr.out.fz 3
    have zl : w.heap.size + 1 < w1.heap.size := hbr.out.lt
    go_wp2
    exact bodyPost_ret (v := .tuple #[.agg #[.string f.name, .int .i64 f.kind, .int .i64 f.n, .string f.text], .int .i64 0]) (by first | (simp [results, Tryz.results74, go_sem, z0, z1, z2, z3]; done) | (simp [results, Tryz.results74, go_sem, z0, z1, z2, z3, zl]; done) | simp [results, Tryz.results74, go_sem]) rfl (evP_s (f := f) rfl (by repeat (first | with_reducible exact Ext.refl _ | with_reducible exact hE0 | with_reducible exact hE | with_reducible refine Ext.alloc ?_ _ | with_reducible refine Ext.drewN ?_ _ | with_reducible refine Ext.drew ?_ | ((with_reducible refine Ext.setCell ?_ ?side _); (case side => first | exact Nat.le_refl _ | (simp; done) | (simp; omega))))))
set_option maxRecDepth 8000 in
set_option maxHeartbeats 2000000 in
theorem rev4 (nm tx : ByteArray) (n : Int) (bb off N cp : Nat) (hN : 1 ≤ N) (a : Ex) (w : World) (fv : Value) (l : List Feat) (k0 : RKid w fv l bb off a) (R : Option Feat) (h0 : a.ev l nilS = none → R = none) (h1 : ∀ f, a.ev l nilS = some f → R = some (truthF (decide (f.n = 0)))) : Calls Tryz.prog 74 #[.agg #[.int .i64 4, .string nm, .string tx, .int .i64 n, .slice (some ⟨bb, off, none⟩) N cp], fv, .slice none 0 0] w (EvP R w) := by
  obtain ⟨q0, c0, hc, k0⟩ := k0
  obtain ⟨y0, y1, y2, y3, y4⟩ := hc.five
  have dN : ((N : Int) == 0) = false := by simp; omega
  have hbl : bb < w.heap.size := cell_lt y0
  unfold exAgg at k0
  replace k0 := Lib.hid k0
  cases ha : a.ev l nilS with
  | none =>
    have hR := Lib.hid (h0 ha)
    clear h0 h1
    go_enter Tryz.func74, Tryz.ntmps74
    have hbx0 := (Blk.new w #[.int .i64 4, .string nm, .string tx, .int .i64 n, .slice (some ⟨bb, off, none⟩) N cp] 24).alloc (.cells #[.string ⟨#[]⟩, .int .i64 0, .int .i64 0, .string ⟨#[]⟩] 36)
    have hbr0 := Blk.new' (w.alloc (.cells #[.int .i64 4, .string nm, .string tx, .int .i64 n, .slice (some ⟨bb, off, none⟩) N cp] 24)) #[.string ⟨#[]⟩, .int .i64 0, .int .i64 0, .string ⟨#[]⟩] 36 (w.heap.size + 1) (by simp)
    have hE00 : Ext w ((w.alloc (.cells #[.int .i64 4, .string nm, .string tx, .int .i64 n, .slice (some ⟨bb, off, none⟩) N cp] 24)).alloc (.cells #[.string ⟨#[]⟩, .int .i64 0, .int .i64 0, .string ⟨#[]⟩] 36)) := ((Ext.refl w).alloc _).alloc _
    go_wp2_with fail
    refine (k0.out _ hE00).mono ?_
    rintro e w1 hq
    clear y0 y1 y2 y3 y4
    rw [ha] at hq
    obtain ⟨rfl, hE1⟩ := evP_none hq
    have hbr := Lib.hid (hbr0.ext hE1)
    have hbx := Lib.hid (hbx0.ext hE1)
    have hE : Ext w w1 := hE00.trans hE1
    clear hE1 hq hbr0 hbx0 hE00 k0
    have z0 : w1.cell? ⟨w.heap.size + 1, 0, none⟩ = some (.string ⟨#[]⟩) := (hbr.out.cell 0).trans rfl
    have z1 : w1.cell? ⟨w.heap.size + 1, 1, none⟩ = some (.int .i64 0) := (hbr.out.cell 1).trans rfl
    have z2 : w1.cell? ⟨w.heap.size + 1, 2, none⟩ = some (.int .i64 0) := (hbr.out.cell 2).trans rfl
    have z3 : w1.cell? ⟨w.heap.size + 1, 3, none⟩ = some (.string ⟨#[]⟩) := (hbr.out.cell 3).trans rfl
    have f0 := hbr.out.fz 0
    have f1 := hbr.out.fz 1
    have f2 := hbr.out.fz 2
    have f3 := hbr.out.fz 3
    have zl : w.heap.size + 1 < w1.heap.size := hbr.out.lt
    clear ha hbx
    go_wp2
    exact bodyPost_ret (v := .tuple #[.agg #[.string ⟨#[]⟩, .int .i64 0, .int .i64 0, .string ⟨#[]⟩], .int .i64 4]) (by first | (simp [results, Tryz.results74, go_sem]; done) | (simp [results, Tryz.results74, go_sem, z0, z1, z2, z3, zl]; done) | simp [results, Tryz.results74, go_sem]) rfl (evP_n hR.out (by repeat (first | with_reducible exact Ext.refl _ | with_reducible exact hE0 | with_reducible exact hE | with_reducible refine Ext.alloc ?_ _ | with_reducible refine Ext.drewN ?_ _ | with_reducible refine Ext.drew ?_ | ((with_reducible refine Ext.setCell ?_ ?side _); (case side => first | exact Nat.le_refl _ | (simp; done) | (simp; omega))))))
  | some f =>
    have hR := Lib.hid (h1 f ha)
    have kT := Lib.hid (fun w2 => rtruth_any (decide (f.n = 0)) w2)
    have dd : (f.n == 0) = decide (f.n = 0) := by by_cases h : f.n = 0 <;> simp [h]
    generalize truthF (decide (f.n = 0)) = g at *
    generalize decide (f.n = 0) = bb0 at *
    clear h0 h1
    go_enter Tryz.func74, Tryz.ntmps74
    have hbx0 := (Blk.new w #[.int .i64 4, .string nm, .string tx, .int .i64 n, .slice (some ⟨bb, off, none⟩) N cp] 24).alloc (.cells #[.string ⟨#[]⟩, .int .i64 0, .int .i64 0, .string ⟨#[]⟩] 36)
    have hbr0 := Blk.new' (w.alloc (.cells #[.int .i64 4, .string nm, .string tx, .int .i64 n, .slice (some ⟨bb, off, none⟩) N cp] 24)) #[.string ⟨#[]⟩, .int .i64 0, .int .i64 0, .string ⟨#[]⟩] 36 (w.heap.size + 1) (by simp)
    have hE00 : Ext w ((w.alloc (.cells #[.int .i64 4, .string nm, .string tx, .int .i64 n, .slice (some ⟨bb, off, none⟩) N cp] 24)).alloc (.cells #[.string ⟨#[]⟩, .int .i64 0, .int .i64 0, .string ⟨#[]⟩] 36)) := ((Ext.refl w).alloc _).alloc _
    go_wp2_with fail
    refine (k0.out _ hE00).mono ?_
    rintro e w1 hq
    clear y0 y1 y2 y3 y4
    rw [ha] at hq
    obtain ⟨rfl, hE1⟩ := evP_some hq
    have hbr := Lib.hid (hbr0.ext hE1)
    have hbx := Lib.hid (hbx0.ext hE1)
    have hE : Ext w w1 := hE00.trans hE1
    clear hE1 hq hbr0 hbx0 hE00 k0
    have x0 : w1.cell? ⟨w.heap.size, 0, none⟩ = some (.int .i64 4) := (hbx.out.cell 0).trans rfl
    have x4 : w1.cell? ⟨w.heap.size, 4, none⟩ = some (.slice (some ⟨bb, off, none⟩) N cp) := (hbx.out.cell 4).trans rfl
    have xl : w.heap.size < w1.heap.size := hbx.out.lt
    clear ha
    have hEa : Ext w1 (w1.alloc (.cells #[.string f.name, .int .i64 f.kind, .int .i64 f.n, .string f.text] 36)) := (Ext.refl _).alloc _
    go_wp2_with fail
    refine (kT.out _).mono ?_
    rintro e w2 hq
    obtain ⟨rfl, hE2⟩ := evP_some hq
    replace hbr := Lib.hid (hbr.out.ext (hEa.trans hE2))
    replace hE : Ext w w2 := hE.trans (hEa.trans hE2)
    clear hE2 hq kT hEa x0 x4 xl hbx
    have z0 : w2.cell? ⟨w.heap.size + 1, 0, none⟩ = some (.string ⟨#[]⟩) := (hbr.out.cell 0).trans rfl
    have z1 : w2.cell? ⟨w.heap.size + 1, 1, none⟩ = some (.int .i64 0) := (hbr.out.cell 1).trans rfl
    have z2 : w2.cell? ⟨w.heap.size + 1, 2, none⟩ = some (.int .i64 0) := (hbr.out.cell 2).trans rfl
    have z3 : w2.cell? ⟨w.heap.size + 1, 3, none⟩ = some (.string ⟨#[]⟩) := (hbr.out.cell 3).trans rfl
    have f0 := hbr.out.fz 0
    have f1 := hbr.out.fz 1
    have f2 := hbr.out.fz 2
    have f3 := hbr.out.fz 3
    have zl : w.heap.size + 1 < w2.heap.size := hbr.out.lt
    go_wp2
    exact bodyPost_ret (v := .tuple #[.agg #[.string g.name, .int .i64 g.kind, .int .i64 g.n, .string g.text], .int .i64 0]) (by first | (simp [results, Tryz.results74, go_sem, z0, z1, z2, z3]; done) | (simp [results, Tryz.results74, go_sem, z0, z1, z2, z3, zl]; done) | simp [results, Tryz.results74, go_sem]) rfl (evP_s (f := g) hR.out (by repeat (first | with_reducible exact Ext.refl _ | with_reducible exact hE0 | with_reducible exact hE | with_reducible refine Ext.alloc ?_ _ | with_reducible refine Ext.drewN ?_ _ | with_reducible refine Ext.drew ?_ | ((with_reducible refine Ext.setCell ?_ ?side _); (case side => first | exact Nat.le_refl _ | (simp; done) | (simp; omega))))))
set_option maxRecDepth 8000 in
set_option maxHeartbeats 2000000 in
theorem rev5 (nm tx : ByteArray) (n : Int) (bb off N cp : Nat) (hN : 1 ≤ N) (a : Ex) (w : World) (fv : Value) (l : List Feat) (k0 : RKid w fv l bb off a) (R : Option Feat) (h0 : a.ev l nilS = none → R = none) (h1 : ∀ f, a.ev l nilS = some f → R = some (numF (-f.n)) ∧ nbrB f.n = true) : Calls Tryz.prog 74 #[.agg #[.int .i64 5, .string nm, .string tx, .int .i64 n, .slice (some ⟨bb, off, none⟩) N cp], fv, .slice none 0 0] w (EvP R w) := by
  obtain ⟨q0, c0, hc, k0⟩ := k0
  obtain ⟨y0, y1, y2, y3, y4⟩ := hc.five
  have dN : ((N : Int) == 0) = false := by simp; omega
  have hbl : bb < w.heap.size := cell_lt y0
  unfold exAgg at k0
  replace k0 := Lib.hid k0
  cases ha : a.ev l nilS with
  | none =>
    have hR := Lib.hid (h0 ha)
    clear h0 h1
    go_enter Tryz.func74, Tryz.ntmps74
    have hbx0 := (Blk.new w #[.int .i64 5, .string nm, .string tx, .int .i64 n, .slice (some ⟨bb, off, none⟩) N cp] 24).alloc (.cells #[.string ⟨#[]⟩, .int .i64 0, .int .i64 0, .string ⟨#[]⟩] 36)
    have hbr0 := Blk.new' (w.alloc (.cells #[.int .i64 5, .string nm, .string tx, .int .i64 n, .slice (some ⟨bb, off, none⟩) N cp] 24)) #[.string ⟨#[]⟩, .int .i64 0, .int .i64 0, .string ⟨#[]⟩] 36 (w.heap.size + 1) (by simp)
    have hE00 : Ext w ((w.alloc (.cells #[.int .i64 5, .string nm, .string tx, .int .i64 n, .slice (some ⟨bb, off, none⟩) N cp] 24)).alloc (.cells #[.string ⟨#[]⟩, .int .i64 0, .int .i64 0, .string ⟨#[]⟩] 36)) := ((Ext.refl w).alloc _).alloc _
    go_wp2_with fail
    refine (k0.out _ hE00).mono ?_
    rintro e w1 hq
    clear y0 y1 y2 y3 y4
    rw [ha] at hq
    obtain ⟨rfl, hE1⟩ := evP_none hq
    have hbr := Lib.hid (hbr0.ext hE1)
    have hbx := Lib.hid (hbx0.ext hE1)
    have hE : Ext w w1 := hE00.trans hE1
    clear hE1 hq hbr0 hbx0 hE00 k0
    have z0 : w1.cell? ⟨w.heap.size + 1, 0, none⟩ = some (.string ⟨#[]⟩) := (hbr.out.cell 0).trans rfl
    have z1 : w1.cell? ⟨w.heap.size + 1, 1, none⟩ = some (.int .i64 0) := (hbr.out.cell 1).trans rfl
    have z2 : w1.cell? ⟨w.heap.size + 1, 2, none⟩ = some (.int .i64 0) := (hbr.out.cell 2).trans rfl
    have z3 : w1.cell? ⟨w.heap.size + 1, 3, none⟩ = some (.string ⟨#[]⟩) := (hbr.out.cell 3).trans rfl
    have f0 := hbr.out.fz 0
    have f1 := hbr.out.fz 1
    have f2 := hbr.out.fz 2
    have f3 := hbr.out.fz 3
    have zl : w.heap.size + 1 < w1.heap.size := hbr.out.lt
    clear ha hbx
    go_wp2
    exact bodyPost_ret (v := .tuple #[.agg #[.string ⟨#[]⟩, .int .i64 0, .int .i64 0, .string ⟨#[]⟩], .int .i64 4]) (by first | (simp [results, Tryz.results74, go_sem]; done) | (simp [results, Tryz.results74, go_sem, z0, z1, z2, z3, zl]; done) | simp [results, Tryz.results74, go_sem]) rfl (evP_n hR.out (by repeat (first | with_reducible exact Ext.refl _ | with_reducible exact hE0 | with_reducible exact hE | with_reducible refine Ext.alloc ?_ _ | with_reducible refine Ext.drewN ?_ _ | with_reducible refine Ext.drew ?_ | ((with_reducible refine Ext.setCell ?_ ?side _); (case side => first | exact Nat.le_refl _ | (simp; done) | (simp; omega))))))
  | some f =>
    obtain ⟨hR, hn⟩ := h1 f ha
    have hR := Lib.hid hR
    have e1 : wrap64 (-f.n) = -f.n := by rw [nbr_iff] at hn; exact wrap64_id _ (by omega) (by omega)
    have kT := Lib.hid (fun w2 => rnum_any (-f.n) w2)
    rw [show numO (-f.n) = some (numF (-f.n)) by unfold numO; rw [if_pos (nbr_neg hn)]] at kT
    generalize numF (-f.n) = g at *
    clear h0 h1 hn
    go_enter Tryz.func74, Tryz.ntmps74
    have hbx0 := (Blk.new w #[.int .i64 5, .string nm, .string tx, .int .i64 n, .slice (some ⟨bb, off, none⟩) N cp] 24).alloc (.cells #[.string ⟨#[]⟩, .int .i64 0, .int .i64 0, .string ⟨#[]⟩] 36)
    have hbr0 := Blk.new' (w.alloc (.cells #[.int .i64 5, .string nm, .string tx, .int .i64 n, .slice (some ⟨bb, off, none⟩) N cp] 24)) #[.string ⟨#[]⟩, .int .i64 0, .int .i64 0, .string ⟨#[]⟩] 36 (w.heap.size + 1) (by simp)
    have hE00 : Ext w ((w.alloc (.cells #[.int .i64 5, .string nm, .string tx, .int .i64 n, .slice (some ⟨bb, off, none⟩) N cp] 24)).alloc (.cells #[.string ⟨#[]⟩, .int .i64 0, .int .i64 0, .string ⟨#[]⟩] 36)) := ((Ext.refl w).alloc _).alloc _
    go_wp2_with fail
    refine (k0.out _ hE00).mono ?_
    rintro e w1 hq
    clear y0 y1 y2 y3 y4
    rw [ha] at hq
    obtain ⟨rfl, hE1⟩ := evP_some hq
    have hbr := Lib.hid (hbr0.ext hE1)
    have hbx := Lib.hid (hbx0.ext hE1)
    have hE : Ext w w1 := hE00.trans hE1
    clear hE1 hq hbr0 hbx0 hE00 k0
    have x0 : w1.cell? ⟨w.heap.size, 0, none⟩ = some (.int .i64 5) := (hbx.out.cell 0).trans rfl
    have x4 : w1.cell? ⟨w.heap.size, 4, none⟩ = some (.slice (some ⟨bb, off, none⟩) N cp) := (hbx.out.cell 4).trans rfl
    have xl : w.heap.size < w1.heap.size := hbx.out.lt
    clear ha
    have hEa : Ext w1 (w1.alloc (.cells #[.string f.name, .int .i64 f.kind, .int .i64 f.n, .string f.text] 36)) := (Ext.refl _).alloc _
    go_wp2_with fail
    refine (kT.out _).mono ?_
    rintro e w2 hq
    obtain ⟨rfl, hE2⟩ := evP_some hq
    replace hbr := Lib.hid (hbr.out.ext (hEa.trans hE2))
    replace hE : Ext w w2 := hE.trans (hEa.trans hE2)
    clear hE2 hq kT hEa x0 x4 xl hbx
    have z0 : w2.cell? ⟨w.heap.size + 1, 0, none⟩ = some (.string ⟨#[]⟩) := (hbr.out.cell 0).trans rfl
    have z1 : w2.cell? ⟨w.heap.size + 1, 1, none⟩ = some (.int .i64 0) := (hbr.out.cell 1).trans rfl
    have z2 : w2.cell? ⟨w.heap.size + 1, 2, none⟩ = some (.int .i64 0) := (hbr.out.cell 2).trans rfl
    have z3 : w2.cell? ⟨w.heap.size + 1, 3, none⟩ = some (.string ⟨#[]⟩) := (hbr.out.cell 3).trans rfl
    have f0 := hbr.out.fz 0
    have f1 := hbr.out.fz 1
    have f2 := hbr.out.fz 2
    have f3 := hbr.out.fz 3
    have zl : w.heap.size + 1 < w2.heap.size := hbr.out.lt
    go_wp2
    exact bodyPost_ret (v := .tuple #[.agg #[.string g.name, .int .i64 g.kind, .int .i64 g.n, .string g.text], .int .i64 0]) (by first | (simp [results, Tryz.results74, go_sem, z0, z1, z2, z3]; done) | (simp [results, Tryz.results74, go_sem, z0, z1, z2, z3, zl]; done) | simp [results, Tryz.results74, go_sem]) rfl (evP_s (f := g) hR.out (by repeat (first | with_reducible exact Ext.refl _ | with_reducible exact hE0 | with_reducible exact hE | with_reducible refine Ext.alloc ?_ _ | with_reducible refine Ext.drewN ?_ _ | with_reducible refine Ext.drew ?_ | ((with_reducible refine Ext.setCell ?_ ?side _); (case side => first | exact Nat.le_refl _ | (simp; done) | (simp; omega))))))
set_option maxRecDepth 8000 in
set_option maxHeartbeats 2000000 in
theorem rev2 (op : Int) (ho : 6 ≤ op ∧ op ≤ 14) (nm tx : ByteArray) (n : Int) (bb off cp : Nat) (a b : Ex) (w : World) (fv : Value) (l : List Feat) (k0 : RKid w fv l bb off a) (k1 : RKid w fv l bb (off + 5) b) (R : Option Feat) (h0 : a.ev l nilS = none → R = none) (h1 : ∀ f, a.ev l nilS = some f → ((op = 6 ∧ f.n = 0) ∨ (op = 7 ∧ f.n = 1)) → R = some f) (h2 : ∀ f, a.ev l nilS = some f → ¬ ((op = 6 ∧ f.n = 0) ∨ (op = 7 ∧ f.n = 1)) → b.ev l nilS = none → R = none) (h3 : ∀ f g, a.ev l nilS = some f → ¬ ((op = 6 ∧ f.n = 0) ∨ (op = 7 ∧ f.n = 1)) → b.ev l nilS = some g → R = comb op f g) (hn : ∀ f g, a.ev l nilS = some f → b.ev l nilS = some g → op = 12 ∨ op = 13 ∨ op = 14 → nbrB f.n = true ∧ nbrB g.n = true) : Calls Tryz.prog 74 #[.agg #[.int .i64 op, .string nm, .string tx, .int .i64 n, .slice (some ⟨bb, off, none⟩) 2 cp], fv, .slice none 0 0] w (EvP R w) := by
  obtain ⟨q0, c0, hc, k0⟩ := k0
  obtain ⟨y0, y1, y2, y3, y4⟩ := hc.five
  obtain ⟨q1, c1, hc1, k1⟩ := k1
  have hbl : bb < w.heap.size := cell_lt y0
  unfold exAgg at k0 k1
  replace k0 := Lib.hid k0
  replace k1 := Lib.hid k1
  replace hc1 := Lib.hid hc1
  have o4 : (op == 4) = false := by simp; omega
  have o5 : (op == 5) = false := by simp; omega
  have o15 : (op != 15) = true := by simp; omega
  cases ha : a.ev l nilS with
  | none =>
    have hR := Lib.hid (h0 ha)
    clear h0 h1 h2 h3 hn k1 hc1
    go_enter Tryz.func74, Tryz.ntmps74
    have hbx0 := (Blk.new w #[.int .i64 op, .string nm, .string tx, .int .i64 n, .slice (some ⟨bb, off, none⟩) 2 cp] 24).alloc (.cells #[.string ⟨#[]⟩, .int .i64 0, .int .i64 0, .string ⟨#[]⟩] 36)
    have hbr0 := Blk.new' (w.alloc (.cells #[.int .i64 op, .string nm, .string tx, .int .i64 n, .slice (some ⟨bb, off, none⟩) 2 cp] 24)) #[.string ⟨#[]⟩, .int .i64 0, .int .i64 0, .string ⟨#[]⟩] 36 (w.heap.size + 1) (by simp)
    have hE00 : Ext w ((w.alloc (.cells #[.int .i64 op, .string nm, .string tx, .int .i64 n, .slice (some ⟨bb, off, none⟩) 2 cp] 24)).alloc (.cells #[.string ⟨#[]⟩, .int .i64 0, .int .i64 0, .string ⟨#[]⟩] 36)) := ((Ext.refl w).alloc _).alloc _
    go_wp2_with fail
    refine (k0.out _ hE00).mono ?_
    rintro e w1 hq
    clear y0 y1 y2 y3 y4
    rw [ha] at hq
    obtain ⟨rfl, hE1⟩ := evP_none hq
    have hbr := Lib.hid (hbr0.ext hE1)
    have hbx := Lib.hid (hbx0.ext hE1)
    have hE : Ext w w1 := hE00.trans hE1
    clear hE1 hq hbr0 hbx0 hE00 k0
    have z0 : w1.cell? ⟨w.heap.size + 1, 0, none⟩ = some (.string ⟨#[]⟩) := (hbr.out.cell 0).trans rfl
    have z1 : w1.cell? ⟨w.heap.size + 1, 1, none⟩ = some (.int .i64 0) := (hbr.out.cell 1).trans rfl
    have z2 : w1.cell? ⟨w.heap.size + 1, 2, none⟩ = some (.int .i64 0) := (hbr.out.cell 2).trans rfl
    have z3 : w1.cell? ⟨w.heap.size + 1, 3, none⟩ = some (.string ⟨#[]⟩) := (hbr.out.cell 3).trans rfl
    have f0 := hbr.out.fz 0
    have f1 := hbr.out.fz 1
    have f2 := hbr.out.fz 2
    have f3 := hbr.out.fz 3
    have zl : w.heap.size + 1 < w1.heap.size := hbr.out.lt
    clear ha hbx
    go_wp2
    exact bodyPost_ret (v := .tuple #[.agg #[.string ⟨#[]⟩, .int .i64 0, .int .i64 0, .string ⟨#[]⟩], .int .i64 4]) (by first | (simp [results, Tryz.results74, go_sem]; done) | (simp [results, Tryz.results74, go_sem, z0, z1, z2, z3, zl]; done) | simp [results, Tryz.results74, go_sem]) rfl (evP_n hR.out (by repeat (first | with_reducible exact Ext.refl _ | with_reducible exact hE0 | with_reducible exact hE | with_reducible refine Ext.alloc ?_ _ | with_reducible refine Ext.drewN ?_ _ | with_reducible refine Ext.drew ?_ | ((with_reducible refine Ext.setCell ?_ ?side _); (case side => first | exact Nat.le_refl _ | (simp; done) | (simp; omega))))))
  | some f =>
    by_cases hs : (op = 6 ∧ f.n = 0) ∨ (op = 7 ∧ f.n = 1)
    · have hR := Lib.hid (h1 f ha hs)
      clear h0 h1 h2 h3 hn k1 hc1
      rcases hs with ⟨rfl, hz⟩ | ⟨rfl, hz⟩
      · have dz : (f.n == 0) = true := by simpa using hz
        clear hz
        go_enter Tryz.func74, Tryz.ntmps74
        have hbx0 := (Blk.new w #[.int .i64 6, .string nm, .string tx, .int .i64 n, .slice (some ⟨bb, off, none⟩) 2 cp] 24).alloc (.cells #[.string ⟨#[]⟩, .int .i64 0, .int .i64 0, .string ⟨#[]⟩] 36)
        have hbr0 := Blk.new' (w.alloc (.cells #[.int .i64 6, .string nm, .string tx, .int .i64 n, .slice (some ⟨bb, off, none⟩) 2 cp] 24)) #[.string ⟨#[]⟩, .int .i64 0, .int .i64 0, .string ⟨#[]⟩] 36 (w.heap.size + 1) (by simp)
        have hE00 : Ext w ((w.alloc (.cells #[.int .i64 6, .string nm, .string tx, .int .i64 n, .slice (some ⟨bb, off, none⟩) 2 cp] 24)).alloc (.cells #[.string ⟨#[]⟩, .int .i64 0, .int .i64 0, .string ⟨#[]⟩] 36)) := ((Ext.refl w).alloc _).alloc _
        go_wp2_with fail
        refine (k0.out _ hE00).mono ?_
        rintro e w1 hq
        clear y0 y1 y2 y3 y4
        rw [ha] at hq
        obtain ⟨rfl, hE1⟩ := evP_some hq
        have hbr := Lib.hid (hbr0.ext hE1)
        have hbx := Lib.hid (hbx0.ext hE1)
        have hE : Ext w w1 := hE00.trans hE1
        clear hE1 hq hbr0 hbx0 hE00 k0
        have x0 : w1.cell? ⟨w.heap.size, 0, none⟩ = some (.int .i64 6) := (hbx.out.cell 0).trans rfl
        have xl : w.heap.size < w1.heap.size := hbx.out.lt
        clear ha
        have z0 : w1.cell? ⟨w.heap.size + 1, 0, none⟩ = some (.string ⟨#[]⟩) := (hbr.out.cell 0).trans rfl
        have z1 : w1.cell? ⟨w.heap.size + 1, 1, none⟩ = some (.int .i64 0) := (hbr.out.cell 1).trans rfl
        have z2 : w1.cell? ⟨w.heap.size + 1, 2, none⟩ = some (.int .i64 0) := (hbr.out.cell 2).trans rfl
        have z3 : w1.cell? ⟨w.heap.size + 1, 3, none⟩ = some (.string ⟨#[]⟩) := (hbr.out.cell 3).trans rfl
        have f0 := hbr.out.fz 0
        have f1 := hbr.out.fz 1
        have f2 := hbr.out.fz 2
        have f3 := hbr.out.fz 3
        have zl : w.heap.size + 1 < w1.heap.size := hbr.out.lt
        go_wp2
        exact bodyPost_ret (v := .tuple #[.agg #[.string f.name, .int .i64 f.kind, .int .i64 f.n, .string f.text], .int .i64 0]) (by first | (simp [results, Tryz.results74, go_sem]; done) | (simp [results, Tryz.results74, go_sem, z0, z1, z2, z3, zl]; done) | simp [results, Tryz.results74, go_sem]) rfl (evP_s (f := f) hR.out (by repeat (first | with_reducible exact Ext.refl _ | with_reducible exact hE0 | with_reducible exact hE | with_reducible refine Ext.alloc ?_ _ | with_reducible refine Ext.drewN ?_ _ | with_reducible refine Ext.drew ?_ | ((with_reducible refine Ext.setCell ?_ ?side _); (case side => first | exact Nat.le_refl _ | (simp; done) | (simp; omega))))))
      · have dz : (f.n == 1) = true := by simpa using hz
        clear hz
        go_enter Tryz.func74, Tryz.ntmps74
        have hbx0 := (Blk.new w #[.int .i64 7, .string nm, .string tx, .int .i64 n, .slice (some ⟨bb, off, none⟩) 2 cp] 24).alloc (.cells #[.string ⟨#[]⟩, .int .i64 0, .int .i64 0, .string ⟨#[]⟩] 36)
        have hbr0 := Blk.new' (w.alloc (.cells #[.int .i64 7, .string nm, .string tx, .int .i64 n, .slice (some ⟨bb, off, none⟩) 2 cp] 24)) #[.string ⟨#[]⟩, .int .i64 0, .int .i64 0, .string ⟨#[]⟩] 36 (w.heap.size + 1) (by simp)
        have hE00 : Ext w ((w.alloc (.cells #[.int .i64 7, .string nm, .string tx, .int .i64 n, .slice (some ⟨bb, off, none⟩) 2 cp] 24)).alloc (.cells #[.string ⟨#[]⟩, .int .i64 0, .int .i64 0, .string ⟨#[]⟩] 36)) := ((Ext.refl w).alloc _).alloc _
        go_wp2_with fail
        refine (k0.out _ hE00).mono ?_
        rintro e w1 hq
        clear y0 y1 y2 y3 y4
        rw [ha] at hq
        obtain ⟨rfl, hE1⟩ := evP_some hq
        have hbr := Lib.hid (hbr0.ext hE1)
        have hbx := Lib.hid (hbx0.ext hE1)
        have hE : Ext w w1 := hE00.trans hE1
        clear hE1 hq hbr0 hbx0 hE00 k0
        have x0 : w1.cell? ⟨w.heap.size, 0, none⟩ = some (.int .i64 7) := (hbx.out.cell 0).trans rfl
        have xl : w.heap.size < w1.heap.size := hbx.out.lt
        clear ha
        have z0 : w1.cell? ⟨w.heap.size + 1, 0, none⟩ = some (.string ⟨#[]⟩) := (hbr.out.cell 0).trans rfl
        have z1 : w1.cell? ⟨w.heap.size + 1, 1, none⟩ = some (.int .i64 0) := (hbr.out.cell 1).trans rfl
        have z2 : w1.cell? ⟨w.heap.size + 1, 2, none⟩ = some (.int .i64 0) := (hbr.out.cell 2).trans rfl
        have z3 : w1.cell? ⟨w.heap.size + 1, 3, none⟩ = some (.string ⟨#[]⟩) := (hbr.out.cell 3).trans rfl
        have f0 := hbr.out.fz 0
        have f1 := hbr.out.fz 1
        have f2 := hbr.out.fz 2
        have f3 := hbr.out.fz 3
        have zl : w.heap.size + 1 < w1.heap.size := hbr.out.lt
        go_wp2
        exact bodyPost_ret (v := .tuple #[.agg #[.string f.name, .int .i64 f.kind, .int .i64 f.n, .string f.text], .int .i64 0]) (by first | (simp [results, Tryz.results74, go_sem]; done) | (simp [results, Tryz.results74, go_sem, z0, z1, z2, z3, zl]; done) | simp [results, Tryz.results74, go_sem]) rfl (evP_s (f := f) hR.out (by repeat (first | with_reducible exact Ext.refl _ | with_reducible exact hE0 | with_reducible exact hE | with_reducible refine Ext.alloc ?_ _ | with_reducible refine Ext.drewN ?_ _ | with_reducible refine Ext.drew ?_ | ((with_reducible refine Ext.setCell ?_ ?side _); (case side => first | exact Nat.le_refl _ | (simp; done) | (simp; omega))))))
    · have kb2 := Lib.hid (h2 f ha hs)
      have kb3 := Lib.hid (fun g h => h3 f g ha hs h)
      have hnn := Lib.hid (fun g h => hn f g ha h)
      have t6 : ((op == 6) = false ∨ ((op == 6) = true ∧ (f.n == 0) = false)) ∧ ((op == 7) = false ∨ ((op == 7) = true ∧ (f.n == 1) = false)) := by
        refine ⟨?_, ?_⟩
        · by_cases h : op = 6
          · exact Or.inr ⟨by simpa using h, by have : ¬ f.n = 0 := fun h9 => hs (Or.inl ⟨h, h9⟩); simpa using this⟩
          · exact Or.inl (by simpa using h)
        · by_cases h : op = 7
          · exact Or.inr ⟨by simpa using h, by have : ¬ f.n = 1 := fun h9 => hs (Or.inr ⟨h, h9⟩); simpa using this⟩
          · exact Or.inl (by simpa using h)
      have kT := Lib.hid (fun g w2 h => rtwo_any op f g w2 ho h)
      clear h0 h1 h2 h3 hn hs
      obtain ⟨t6, t7⟩ := t6
      rcases t6 with t6 | ⟨t6, t6'⟩ <;> rcases t7 with t7 | ⟨t7, t7'⟩
      · skip
        go_enter Tryz.func74, Tryz.ntmps74
        have hbx0 := (Blk.new w #[.int .i64 op, .string nm, .string tx, .int .i64 n, .slice (some ⟨bb, off, none⟩) 2 cp] 24).alloc (.cells #[.string ⟨#[]⟩, .int .i64 0, .int .i64 0, .string ⟨#[]⟩] 36)
        have hbr0 := Blk.new' (w.alloc (.cells #[.int .i64 op, .string nm, .string tx, .int .i64 n, .slice (some ⟨bb, off, none⟩) 2 cp] 24)) #[.string ⟨#[]⟩, .int .i64 0, .int .i64 0, .string ⟨#[]⟩] 36 (w.heap.size + 1) (by simp)
        have hE00 : Ext w ((w.alloc (.cells #[.int .i64 op, .string nm, .string tx, .int .i64 n, .slice (some ⟨bb, off, none⟩) 2 cp] 24)).alloc (.cells #[.string ⟨#[]⟩, .int .i64 0, .int .i64 0, .string ⟨#[]⟩] 36)) := ((Ext.refl w).alloc _).alloc _
        go_wp2_with fail
        refine (k0.out _ hE00).mono ?_
        rintro e w1 hq
        clear y0 y1 y2 y3 y4
        rw [ha] at hq
        obtain ⟨rfl, hE1⟩ := evP_some hq
        have hbr := Lib.hid (hbr0.ext hE1)
        have hbx := Lib.hid (hbx0.ext hE1)
        have hE : Ext w w1 := hE00.trans hE1
        clear hE1 hq hbr0 hbx0 hE00 k0
        have x0 : w1.cell? ⟨w.heap.size, 0, none⟩ = some (.int .i64 op) := (hbx.out.cell 0).trans rfl
        have x4 : w1.cell? ⟨w.heap.size, 4, none⟩ = some (.slice (some ⟨bb, off, none⟩) 2 cp) := (hbx.out.cell 4).trans rfl
        have xl : w.heap.size < w1.heap.size := hbx.out.lt
        have hb8 := Blk.new w1 #[.string f.name, .int .i64 f.kind, .int .i64 f.n, .string f.text] 36
        have hEa : Ext w1 (w1.alloc (.cells #[.string f.name, .int .i64 f.kind, .int .i64 f.n, .string f.text] 36)) := (Ext.refl _).alloc _
        go_wp2_with fail
        replace hbx := Lib.hid (hbx.out.ext hEa)
        replace hbr := Lib.hid (hbr.out.ext hEa)
        replace hE := hE.trans hEa
        clear x0 x4 xl
        generalize w1.alloc (.cells #[.string f.name, .int .i64 f.kind, .int .i64 f.n, .string f.text] 36) = w2 at *
        replace hb8 := Lib.hid hb8
        clear hEa
        go_loopw [10] (fun i wr => i = .int .i64 1 ∧ wr = w2) (fun _ _ => 0)
        case atStart => exact ⟨rfl, rfl⟩
        case round =>
          obtain ⟨rfl, rfl⟩ := hrel
          have x0 : wr.cell? ⟨w.heap.size, 0, none⟩ = some (.int .i64 op) := (hbx.out.cell 0).trans rfl
          have x4 : wr.cell? ⟨w.heap.size, 4, none⟩ = some (.slice (some ⟨bb, off, none⟩) 2 cp) := (hbx.out.cell 4).trans rfl
          have xl : w.heap.size < wr.heap.size := hbx.out.lt
          obtain ⟨v0, v1, v2, v3, v4⟩ := (hc1.out.ext hE).five
          go_wp2_with fail
          refine (k1.out _ hE).mono ?_
          rintro e w3 hq
          clear x0 x4 xl v0 v1 v2 v3 v4
          cases hb : b.ev l nilS with
          | none =>
            have hR := Lib.hid (kb2.out hb)
            rw [hb] at hq
            obtain ⟨rfl, hE3⟩ := evP_none hq
            replace hbr := Lib.hid (hbr.out.ext hE3)
            replace hE := hE.trans hE3
            clear hE3 hq hb
            have z0 : w3.cell? ⟨w.heap.size + 1, 0, none⟩ = some (.string ⟨#[]⟩) := (hbr.out.cell 0).trans rfl
            have z1 : w3.cell? ⟨w.heap.size + 1, 1, none⟩ = some (.int .i64 0) := (hbr.out.cell 1).trans rfl
            have z2 : w3.cell? ⟨w.heap.size + 1, 2, none⟩ = some (.int .i64 0) := (hbr.out.cell 2).trans rfl
            have z3 : w3.cell? ⟨w.heap.size + 1, 3, none⟩ = some (.string ⟨#[]⟩) := (hbr.out.cell 3).trans rfl
            have f0 := hbr.out.fz 0
            have f1 := hbr.out.fz 1
            have f2 := hbr.out.fz 2
            have f3 := hbr.out.fz 3
            have zl : w.heap.size + 1 < w3.heap.size := hbr.out.lt
            go_wp2
            exact bodyPost_ret (v := .tuple #[.agg #[.string ⟨#[]⟩, .int .i64 0, .int .i64 0, .string ⟨#[]⟩], .int .i64 4]) (by first | (simp [results, Tryz.results74, go_sem]; done) | (simp [results, Tryz.results74, go_sem, z0, z1, z2, z3, zl]; done) | simp [results, Tryz.results74, go_sem]) rfl (evP_n hR.out (by repeat (first | with_reducible exact Ext.refl _ | with_reducible exact hE0 | with_reducible exact hE | with_reducible refine Ext.alloc ?_ _ | with_reducible refine Ext.drewN ?_ _ | with_reducible refine Ext.drew ?_ | ((with_reducible refine Ext.setCell ?_ ?side _); (case side => first | exact Nat.le_refl _ | (simp; done) | (simp; omega))))))
          | some g =>
            have hR := Lib.hid (kb3.out g hb)
            have kT2 := Lib.hid (fun w2 => kT.out g w2 (hnn.out g hb))
            rw [hb] at hq
            obtain ⟨rfl, hE3⟩ := evP_some hq
            replace hbr := Lib.hid (hbr.out.ext hE3)
            replace hbx := Lib.hid (hbx.out.ext hE3)
            replace hb8 := Lib.hid (hb8.out.ext hE3)
            replace hE := hE.trans hE3
            clear hE3 hq hb kT hnn
            generalize comb op f g = C at *
            have x0 : w3.cell? ⟨w.heap.size, 0, none⟩ = some (.int .i64 op) := (hbx.out.cell 0).trans rfl
            have xl : w.heap.size < w3.heap.size := hbx.out.lt
            have u0 : w3.cell? ⟨w1.heap.size, 0, none⟩ = some (.string f.name) := (hb8.out.cell 0).trans rfl
            have u1 : w3.cell? ⟨w1.heap.size, 1, none⟩ = some (.int .i64 f.kind) := (hb8.out.cell 1).trans rfl
            have u2 : w3.cell? ⟨w1.heap.size, 2, none⟩ = some (.int .i64 f.n) := (hb8.out.cell 2).trans rfl
            have u3 : w3.cell? ⟨w1.heap.size, 3, none⟩ = some (.string f.text) := (hb8.out.cell 3).trans rfl
            have ul : w1.heap.size < w3.heap.size := hb8.out.lt
            have hEb : Ext w3 (w3.alloc (.cells #[.string g.name, .int .i64 g.kind, .int .i64 g.n, .string g.text] 36)) := (Ext.refl _).alloc _
            cases C with
            | none =>
              go_wp2_with fail
              refine (kT2.out _).mono ?_
              rintro e w4 hq
              obtain ⟨rfl, hE4⟩ := evP_none hq
              replace hbr := Lib.hid (hbr.out.ext (hEb.trans hE4))
              replace hE := hE.trans (hEb.trans hE4)
              clear hE4 hq hEb x0 xl u0 u1 u2 u3 ul kT2
              have z0 : w4.cell? ⟨w.heap.size + 1, 0, none⟩ = some (.string ⟨#[]⟩) := (hbr.out.cell 0).trans rfl
              have z1 : w4.cell? ⟨w.heap.size + 1, 1, none⟩ = some (.int .i64 0) := (hbr.out.cell 1).trans rfl
              have z2 : w4.cell? ⟨w.heap.size + 1, 2, none⟩ = some (.int .i64 0) := (hbr.out.cell 2).trans rfl
              have z3 : w4.cell? ⟨w.heap.size + 1, 3, none⟩ = some (.string ⟨#[]⟩) := (hbr.out.cell 3).trans rfl
              have f0 := hbr.out.fz 0
              have f1 := hbr.out.fz 1
              have f2 := hbr.out.fz 2
              have f3 := hbr.out.fz 3
              have zl : w.heap.size + 1 < w4.heap.size := hbr.out.lt
              go_wp2
              exact bodyPost_ret (v := .tuple #[.agg #[.string ⟨#[]⟩, .int .i64 0, .int .i64 0, .string ⟨#[]⟩], .int .i64 4]) (by first | (simp [results, Tryz.results74, go_sem, z0, z1, z2, z3]; done) | (simp [results, Tryz.results74, go_sem, z0, z1, z2, z3, zl]; done) | simp [results, Tryz.results74, go_sem]) rfl (evP_n hR.out (by repeat (first | with_reducible exact Ext.refl _ | with_reducible exact hE0 | with_reducible exact hE | with_reducible refine Ext.alloc ?_ _ | with_reducible refine Ext.drewN ?_ _ | with_reducible refine Ext.drew ?_ | ((with_reducible refine Ext.setCell ?_ ?side _); (case side => first | exact Nat.le_refl _ | (simp; done) | (simp; omega))))))
            | some h =>
              go_wp2_with fail
              refine (kT2.out _).mono ?_
              rintro e w4 hq
              obtain ⟨rfl, hE4⟩ := evP_some hq
              replace hbr := Lib.hid (hbr.out.ext (hEb.trans hE4))
              replace hE := hE.trans (hEb.trans hE4)
              clear hE4 hq hEb x0 xl u0 u1 u2 u3 ul kT2
              have z0 : w4.cell? ⟨w.heap.size + 1, 0, none⟩ = some (.string ⟨#[]⟩) := (hbr.out.cell 0).trans rfl
              have z1 : w4.cell? ⟨w.heap.size + 1, 1, none⟩ = some (.int .i64 0) := (hbr.out.cell 1).trans rfl
              have z2 : w4.cell? ⟨w.heap.size + 1, 2, none⟩ = some (.int .i64 0) := (hbr.out.cell 2).trans rfl
              have z3 : w4.cell? ⟨w.heap.size + 1, 3, none⟩ = some (.string ⟨#[]⟩) := (hbr.out.cell 3).trans rfl
              have f0 := hbr.out.fz 0
              have f1 := hbr.out.fz 1
              have f2 := hbr.out.fz 2
              have f3 := hbr.out.fz 3
              have zl : w.heap.size + 1 < w4.heap.size := hbr.out.lt
              go_wp2
              exact bodyPost_ret (v := .tuple #[.agg #[.string h.name, .int .i64 h.kind, .int .i64 h.n, .string h.text], .int .i64 0]) (by first | (simp [results, Tryz.results74, go_sem, z0, z1, z2, z3]; done) | (simp [results, Tryz.results74, go_sem, z0, z1, z2, z3, zl]; done) | simp [results, Tryz.results74, go_sem]) rfl (evP_s (f := h) hR.out (by repeat (first | with_reducible exact Ext.refl _ | with_reducible exact hE0 | with_reducible exact hE | with_reducible refine Ext.alloc ?_ _ | with_reducible refine Ext.drewN ?_ _ | with_reducible refine Ext.drew ?_ | ((with_reducible refine Ext.setCell ?_ ?side _); (case side => first | exact Nat.le_refl _ | (simp; done) | (simp; omega))))))
      · skip
        go_enter Tryz.func74, Tryz.ntmps74
        have hbx0 := (Blk.new w #[.int .i64 op, .string nm, .string tx, .int .i64 n, .slice (some ⟨bb, off, none⟩) 2 cp] 24).alloc (.cells #[.string ⟨#[]⟩, .int .i64 0, .int .i64 0, .string ⟨#[]⟩] 36)
        have hbr0 := Blk.new' (w.alloc (.cells #[.int .i64 op, .string nm, .string tx, .int .i64 n, .slice (some ⟨bb, off, none⟩) 2 cp] 24)) #[.string ⟨#[]⟩, .int .i64 0, .int .i64 0, .string ⟨#[]⟩] 36 (w.heap.size + 1) (by simp)
        have hE00 : Ext w ((w.alloc (.cells #[.int .i64 op, .string nm, .string tx, .int .i64 n, .slice (some ⟨bb, off, none⟩) 2 cp] 24)).alloc (.cells #[.string ⟨#[]⟩, .int .i64 0, .int .i64 0, .string ⟨#[]⟩] 36)) := ((Ext.refl w).alloc _).alloc _
        go_wp2_with fail
        refine (k0.out _ hE00).mono ?_
        rintro e w1 hq
        clear y0 y1 y2 y3 y4
        rw [ha] at hq
        obtain ⟨rfl, hE1⟩ := evP_some hq
        have hbr := Lib.hid (hbr0.ext hE1)
        have hbx := Lib.hid (hbx0.ext hE1)
        have hE : Ext w w1 := hE00.trans hE1
        clear hE1 hq hbr0 hbx0 hE00 k0
        have x0 : w1.cell? ⟨w.heap.size, 0, none⟩ = some (.int .i64 op) := (hbx.out.cell 0).trans rfl
        have x4 : w1.cell? ⟨w.heap.size, 4, none⟩ = some (.slice (some ⟨bb, off, none⟩) 2 cp) := (hbx.out.cell 4).trans rfl
        have xl : w.heap.size < w1.heap.size := hbx.out.lt
        have hb8 := Blk.new w1 #[.string f.name, .int .i64 f.kind, .int .i64 f.n, .string f.text] 36
        have hEa : Ext w1 (w1.alloc (.cells #[.string f.name, .int .i64 f.kind, .int .i64 f.n, .string f.text] 36)) := (Ext.refl _).alloc _
        go_wp2_with fail
        replace hbx := Lib.hid (hbx.out.ext hEa)
        replace hbr := Lib.hid (hbr.out.ext hEa)
        replace hE := hE.trans hEa
        clear x0 x4 xl
        generalize w1.alloc (.cells #[.string f.name, .int .i64 f.kind, .int .i64 f.n, .string f.text] 36) = w2 at *
        replace hb8 := Lib.hid hb8
        clear hEa
        go_loopw [10] (fun i wr => i = .int .i64 1 ∧ wr = w2) (fun _ _ => 0)
        case atStart => exact ⟨rfl, rfl⟩
        case round =>
          obtain ⟨rfl, rfl⟩ := hrel
          have x0 : wr.cell? ⟨w.heap.size, 0, none⟩ = some (.int .i64 op) := (hbx.out.cell 0).trans rfl
          have x4 : wr.cell? ⟨w.heap.size, 4, none⟩ = some (.slice (some ⟨bb, off, none⟩) 2 cp) := (hbx.out.cell 4).trans rfl
          have xl : w.heap.size < wr.heap.size := hbx.out.lt
          obtain ⟨v0, v1, v2, v3, v4⟩ := (hc1.out.ext hE).five
          go_wp2_with fail
          refine (k1.out _ hE).mono ?_
          rintro e w3 hq
          clear x0 x4 xl v0 v1 v2 v3 v4
          cases hb : b.ev l nilS with
          | none =>
            have hR := Lib.hid (kb2.out hb)
            rw [hb] at hq
            obtain ⟨rfl, hE3⟩ := evP_none hq
            replace hbr := Lib.hid (hbr.out.ext hE3)
            replace hE := hE.trans hE3
            clear hE3 hq hb
            have z0 : w3.cell? ⟨w.heap.size + 1, 0, none⟩ = some (.string ⟨#[]⟩) := (hbr.out.cell 0).trans rfl
            have z1 : w3.cell? ⟨w.heap.size + 1, 1, none⟩ = some (.int .i64 0) := (hbr.out.cell 1).trans rfl
            have z2 : w3.cell? ⟨w.heap.size + 1, 2, none⟩ = some (.int .i64 0) := (hbr.out.cell 2).trans rfl
            have z3 : w3.cell? ⟨w.heap.size + 1, 3, none⟩ = some (.string ⟨#[]⟩) := (hbr.out.cell 3).trans rfl
            have f0 := hbr.out.fz 0
            have f1 := hbr.out.fz 1
            have f2 := hbr.out.fz 2
            have f3 := hbr.out.fz 3
            have zl : w.heap.size + 1 < w3.heap.size := hbr.out.lt
            go_wp2
            exact bodyPost_ret (v := .tuple #[.agg #[.string ⟨#[]⟩, .int .i64 0, .int .i64 0, .string ⟨#[]⟩], .int .i64 4]) (by first | (simp [results, Tryz.results74, go_sem]; done) | (simp [results, Tryz.results74, go_sem, z0, z1, z2, z3, zl]; done) | simp [results, Tryz.results74, go_sem]) rfl (evP_n hR.out (by repeat (first | with_reducible exact Ext.refl _ | with_reducible exact hE0 | with_reducible exact hE | with_reducible refine Ext.alloc ?_ _ | with_reducible refine Ext.drewN ?_ _ | with_reducible refine Ext.drew ?_ | ((with_reducible refine Ext.setCell ?_ ?side _); (case side => first | exact Nat.le_refl _ | (simp; done) | (simp; omega))))))
          | some g =>
            have hR := Lib.hid (kb3.out g hb)
            have kT2 := Lib.hid (fun w2 => kT.out g w2 (hnn.out g hb))
            rw [hb] at hq
            obtain ⟨rfl, hE3⟩ := evP_some hq
            replace hbr := Lib.hid (hbr.out.ext hE3)
            replace hbx := Lib.hid (hbx.out.ext hE3)
            replace hb8 := Lib.hid (hb8.out.ext hE3)
            replace hE := hE.trans hE3
            clear hE3 hq hb kT hnn
            generalize comb op f g = C at *
            have x0 : w3.cell? ⟨w.heap.size, 0, none⟩ = some (.int .i64 op) := (hbx.out.cell 0).trans rfl
            have xl : w.heap.size < w3.heap.size := hbx.out.lt
            have u0 : w3.cell? ⟨w1.heap.size, 0, none⟩ = some (.string f.name) := (hb8.out.cell 0).trans rfl
            have u1 : w3.cell? ⟨w1.heap.size, 1, none⟩ = some (.int .i64 f.kind) := (hb8.out.cell 1).trans rfl
            have u2 : w3.cell? ⟨w1.heap.size, 2, none⟩ = some (.int .i64 f.n) := (hb8.out.cell 2).trans rfl
            have u3 : w3.cell? ⟨w1.heap.size, 3, none⟩ = some (.string f.text) := (hb8.out.cell 3).trans rfl
            have ul : w1.heap.size < w3.heap.size := hb8.out.lt
            have hEb : Ext w3 (w3.alloc (.cells #[.string g.name, .int .i64 g.kind, .int .i64 g.n, .string g.text] 36)) := (Ext.refl _).alloc _
            cases C with
            | none =>
              go_wp2_with fail
              refine (kT2.out _).mono ?_
              rintro e w4 hq
              obtain ⟨rfl, hE4⟩ := evP_none hq
              replace hbr := Lib.hid (hbr.out.ext (hEb.trans hE4))
              replace hE := hE.trans (hEb.trans hE4)
              clear hE4 hq hEb x0 xl u0 u1 u2 u3 ul kT2
              have z0 : w4.cell? ⟨w.heap.size + 1, 0, none⟩ = some (.string ⟨#[]⟩) := (hbr.out.cell 0).trans rfl
              have z1 : w4.cell? ⟨w.heap.size + 1, 1, none⟩ = some (.int .i64 0) := (hbr.out.cell 1).trans rfl
              have z2 : w4.cell? ⟨w.heap.size + 1, 2, none⟩ = some (.int .i64 0) := (hbr.out.cell 2).trans rfl
              have z3 : w4.cell? ⟨w.heap.size + 1, 3, none⟩ = some (.string ⟨#[]⟩) := (hbr.out.cell 3).trans rfl
              have f0 := hbr.out.fz 0
              have f1 := hbr.out.fz 1
              have f2 := hbr.out.fz 2
              have f3 := hbr.out.fz 3
              have zl : w.heap.size + 1 < w4.heap.size := hbr.out.lt
              go_wp2
              exact bodyPost_ret (v := .tuple #[.agg #[.string ⟨#[]⟩, .int .i64 0, .int .i64 0, .string ⟨#[]⟩], .int .i64 4]) (by first | (simp [results, Tryz.results74, go_sem, z0, z1, z2, z3]; done) | (simp [results, Tryz.results74, go_sem, z0, z1, z2, z3, zl]; done) | simp [results, Tryz.results74, go_sem]) rfl (evP_n hR.out (by repeat (first | with_reducible exact Ext.refl _ | with_reducible exact hE0 | with_reducible exact hE | with_reducible refine Ext.alloc ?_ _ | with_reducible refine Ext.drewN ?_ _ | with_reducible refine Ext.drew ?_ | ((with_reducible refine Ext.setCell ?_ ?side _); (case side => first | exact Nat.le_refl _ | (simp; done) | (simp; omega))))))
            | some h =>
              go_wp2_with fail
              refine (kT2.out _).mono ?_
              rintro e w4 hq
              obtain ⟨rfl, hE4⟩ := evP_some hq
              replace hbr := Lib.hid (hbr.out.ext (hEb.trans hE4))
              replace hE := hE.trans (hEb.trans hE4)
              clear hE4 hq hEb x0 xl u0 u1 u2 u3 ul kT2
              have z0 : w4.cell? ⟨w.heap.size + 1, 0, none⟩ = some (.string ⟨#[]⟩) := (hbr.out.cell 0).trans rfl
              have z1 : w4.cell? ⟨w.heap.size + 1, 1, none⟩ = some (.int .i64 0) := (hbr.out.cell 1).trans rfl
              have z2 : w4.cell? ⟨w.heap.size + 1, 2, none⟩ = some (.int .i64 0) := (hbr.out.cell 2).trans rfl
              have z3 : w4.cell? ⟨w.heap.size + 1, 3, none⟩ = some (.string ⟨#[]⟩) := (hbr.out.cell 3).trans rfl
              have f0 := hbr.out.fz 0
              have f1 := hbr.out.fz 1
              have f2 := hbr.out.fz 2
              have f3 := hbr.out.fz 3
              have zl : w.heap.size + 1 < w4.heap.size := hbr.out.lt
              go_wp2
              exact bodyPost_ret (v := .tuple #[.agg #[.string h.name, .int .i64 h.kind, .int .i64 h.n, .string h.text], .int .i64 0]) (by first | (simp [results, Tryz.results74, go_sem, z0, z1, z2, z3]; done) | (simp [results, Tryz.results74, go_sem, z0, z1, z2, z3, zl]; done) | simp [results, Tryz.results74, go_sem]) rfl (evP_s (f := h) hR.out (by repeat (first | with_reducible exact Ext.refl _ | with_reducible exact hE0 | with_reducible exact hE | with_reducible refine Ext.alloc ?_ _ | with_reducible refine Ext.drewN ?_ _ | with_reducible refine Ext.drew ?_ | ((with_reducible refine Ext.setCell ?_ ?side _); (case side => first | exact Nat.le_refl _ | (simp; done) | (simp; omega))))))
      · skip
        go_enter Tryz.func74, Tryz.ntmps74
        have hbx0 := (Blk.new w #[.int .i64 op, .string nm, .string tx, .int .i64 n, .slice (some ⟨bb, off, none⟩) 2 cp] 24).alloc (.cells #[.string ⟨#[]⟩, .int .i64 0, .int .i64 0, .string ⟨#[]⟩] 36)
        have hbr0 := Blk.new' (w.alloc (.cells #[.int .i64 op, .string nm, .string tx, .int .i64 n, .slice (some ⟨bb, off, none⟩) 2 cp] 24)) #[.string ⟨#[]⟩, .int .i64 0, .int .i64 0, .string ⟨#[]⟩] 36 (w.heap.size + 1) (by simp)
        have hE00 : Ext w ((w.alloc (.cells #[.int .i64 op, .string nm, .string tx, .int .i64 n, .slice (some ⟨bb, off, none⟩) 2 cp] 24)).alloc (.cells #[.string ⟨#[]⟩, .int .i64 0, .int .i64 0, .string ⟨#[]⟩] 36)) := ((Ext.refl w).alloc _).alloc _
        go_wp2_with fail
        refine (k0.out _ hE00).mono ?_
        rintro e w1 hq
        clear y0 y1 y2 y3 y4
        rw [ha] at hq
        obtain ⟨rfl, hE1⟩ := evP_some hq
        have hbr := Lib.hid (hbr0.ext hE1)
        have hbx := Lib.hid (hbx0.ext hE1)
        have hE : Ext w w1 := hE00.trans hE1
        clear hE1 hq hbr0 hbx0 hE00 k0
        have x0 : w1.cell? ⟨w.heap.size, 0, none⟩ = some (.int .i64 op) := (hbx.out.cell 0).trans rfl
        have x4 : w1.cell? ⟨w.heap.size, 4, none⟩ = some (.slice (some ⟨bb, off, none⟩) 2 cp) := (hbx.out.cell 4).trans rfl
        have xl : w.heap.size < w1.heap.size := hbx.out.lt
        have hb8 := Blk.new w1 #[.string f.name, .int .i64 f.kind, .int .i64 f.n, .string f.text] 36
        have hEa : Ext w1 (w1.alloc (.cells #[.string f.name, .int .i64 f.kind, .int .i64 f.n, .string f.text] 36)) := (Ext.refl _).alloc _
        go_wp2_with fail
        replace hbx := Lib.hid (hbx.out.ext hEa)
        replace hbr := Lib.hid (hbr.out.ext hEa)
        replace hE := hE.trans hEa
        clear x0 x4 xl
        generalize w1.alloc (.cells #[.string f.name, .int .i64 f.kind, .int .i64 f.n, .string f.text] 36) = w2 at *
        replace hb8 := Lib.hid hb8
        clear hEa
        go_loopw [10] (fun i wr => i = .int .i64 1 ∧ wr = w2) (fun _ _ => 0)
        case atStart => exact ⟨rfl, rfl⟩
        case round =>
          obtain ⟨rfl, rfl⟩ := hrel
          have x0 : wr.cell? ⟨w.heap.size, 0, none⟩ = some (.int .i64 op) := (hbx.out.cell 0).trans rfl
          have x4 : wr.cell? ⟨w.heap.size, 4, none⟩ = some (.slice (some ⟨bb, off, none⟩) 2 cp) := (hbx.out.cell 4).trans rfl
          have xl : w.heap.size < wr.heap.size := hbx.out.lt
          obtain ⟨v0, v1, v2, v3, v4⟩ := (hc1.out.ext hE).five
          go_wp2_with fail
          refine (k1.out _ hE).mono ?_
          rintro e w3 hq
          clear x0 x4 xl v0 v1 v2 v3 v4
          cases hb : b.ev l nilS with
          | none =>
            have hR := Lib.hid (kb2.out hb)
            rw [hb] at hq
            obtain ⟨rfl, hE3⟩ := evP_none hq
            replace hbr := Lib.hid (hbr.out.ext hE3)
            replace hE := hE.trans hE3
            clear hE3 hq hb
            have z0 : w3.cell? ⟨w.heap.size + 1, 0, none⟩ = some (.string ⟨#[]⟩) := (hbr.out.cell 0).trans rfl
            have z1 : w3.cell? ⟨w.heap.size + 1, 1, none⟩ = some (.int .i64 0) := (hbr.out.cell 1).trans rfl
            have z2 : w3.cell? ⟨w.heap.size + 1, 2, none⟩ = some (.int .i64 0) := (hbr.out.cell 2).trans rfl
            have z3 : w3.cell? ⟨w.heap.size + 1, 3, none⟩ = some (.string ⟨#[]⟩) := (hbr.out.cell 3).trans rfl
            have f0 := hbr.out.fz 0
            have f1 := hbr.out.fz 1
            have f2 := hbr.out.fz 2
            have f3 := hbr.out.fz 3
            have zl : w.heap.size + 1 < w3.heap.size := hbr.out.lt
            go_wp2
            exact bodyPost_ret (v := .tuple #[.agg #[.string ⟨#[]⟩, .int .i64 0, .int .i64 0, .string ⟨#[]⟩], .int .i64 4]) (by first | (simp [results, Tryz.results74, go_sem]; done) | (simp [results, Tryz.results74, go_sem, z0, z1, z2, z3, zl]; done) | simp [results, Tryz.results74, go_sem]) rfl (evP_n hR.out (by repeat (first | with_reducible exact Ext.refl _ | with_reducible exact hE0 | with_reducible exact hE | with_reducible refine Ext.alloc ?_ _ | with_reducible refine Ext.drewN ?_ _ | with_reducible refine Ext.drew ?_ | ((with_reducible refine Ext.setCell ?_ ?side _); (case side => first | exact Nat.le_refl _ | (simp; done) | (simp; omega))))))
          | some g =>
            have hR := Lib.hid (kb3.out g hb)
            have kT2 := Lib.hid (fun w2 => kT.out g w2 (hnn.out g hb))
            rw [hb] at hq
            obtain ⟨rfl, hE3⟩ := evP_some hq
            replace hbr := Lib.hid (hbr.out.ext hE3)
            replace hbx := Lib.hid (hbx.out.ext hE3)
            replace hb8 := Lib.hid (hb8.out.ext hE3)
            replace hE := hE.trans hE3
            clear hE3 hq hb kT hnn
            generalize comb op f g = C at *
            have x0 : w3.cell? ⟨w.heap.size, 0, none⟩ = some (.int .i64 op) := (hbx.out.cell 0).trans rfl
            have xl : w.heap.size < w3.heap.size := hbx.out.lt
            have u0 : w3.cell? ⟨w1.heap.size, 0, none⟩ = some (.string f.name) := (hb8.out.cell 0).trans rfl
            have u1 : w3.cell? ⟨w1.heap.size, 1, none⟩ = some (.int .i64 f.kind) := (hb8.out.cell 1).trans rfl
            have u2 : w3.cell? ⟨w1.heap.size, 2, none⟩ = some (.int .i64 f.n) := (hb8.out.cell 2).trans rfl
            have u3 : w3.cell? ⟨w1.heap.size, 3, none⟩ = some (.string f.text) := (hb8.out.cell 3).trans rfl
            have ul : w1.heap.size < w3.heap.size := hb8.out.lt
            have hEb : Ext w3 (w3.alloc (.cells #[.string g.name, .int .i64 g.kind, .int .i64 g.n, .string g.text] 36)) := (Ext.refl _).alloc _
            cases C with
            | none =>
              go_wp2_with fail
              refine (kT2.out _).mono ?_
              rintro e w4 hq
              obtain ⟨rfl, hE4⟩ := evP_none hq
              replace hbr := Lib.hid (hbr.out.ext (hEb.trans hE4))
              replace hE := hE.trans (hEb.trans hE4)
              clear hE4 hq hEb x0 xl u0 u1 u2 u3 ul kT2
              have z0 : w4.cell? ⟨w.heap.size + 1, 0, none⟩ = some (.string ⟨#[]⟩) := (hbr.out.cell 0).trans rfl
              have z1 : w4.cell? ⟨w.heap.size + 1, 1, none⟩ = some (.int .i64 0) := (hbr.out.cell 1).trans rfl
              have z2 : w4.cell? ⟨w.heap.size + 1, 2, none⟩ = some (.int .i64 0) := (hbr.out.cell 2).trans rfl
              have z3 : w4.cell? ⟨w.heap.size + 1, 3, none⟩ = some (.string ⟨#[]⟩) := (hbr.out.cell 3).trans rfl
              have f0 := hbr.out.fz 0
              have f1 := hbr.out.fz 1
              have f2 := hbr.out.fz 2
              have f3 := hbr.out.fz 3
              have zl : w.heap.size + 1 < w4.heap.size := hbr.out.lt
              go_wp2
              exact bodyPost_ret (v := .tuple #[.agg #[.string ⟨#[]⟩, .int .i64 0, .int .i64 0, .string ⟨#[]⟩], .int .i64 4]) (by first | (simp [results, Tryz.results74, go_sem, z0, z1, z2, z3]; done) | (simp [results, Tryz.results74, go_sem, z0, z1, z2, z3, zl]; done) | simp [results, Tryz.results74, go_sem]) rfl (evP_n hR.out (by repeat (first | with_reducible exact Ext.refl _ | with_reducible exact hE0 | with_reducible exact hE | with_reducible refine Ext.alloc ?_ _ | with_reducible refine Ext.drewN ?_ _ | with_reducible refine Ext.drew ?_ | ((with_reducible refine Ext.setCell ?_ ?side _); (case side => first | exact Nat.le_refl _ | (simp; done) | (simp; omega))))))
            | some h =>
              go_wp2_with fail
              refine (kT2.out _).mono ?_
              rintro e w4 hq
              obtain ⟨rfl, hE4⟩ := evP_some hq
              replace hbr := Lib.hid (hbr.out.ext (hEb.trans hE4))
              replace hE := hE.trans (hEb.trans hE4)
              clear hE4 hq hEb x0 xl u0 u1 u2 u3 ul kT2
              have z0 : w4.cell? ⟨w.heap.size + 1, 0, none⟩ = some (.string ⟨#[]⟩) := (hbr.out.cell 0).trans rfl
              have z1 : w4.cell? ⟨w.heap.size + 1, 1, none⟩ = some (.int .i64 0) := (hbr.out.cell 1).trans rfl
              have z2 : w4.cell? ⟨w.heap.size + 1, 2, none⟩ = some (.int .i64 0) := (hbr.out.cell 2).trans rfl
              have z3 : w4.cell? ⟨w.heap.size + 1, 3, none⟩ = some (.string ⟨#[]⟩) := (hbr.out.cell 3).trans rfl
              have f0 := hbr.out.fz 0
              have f1 := hbr.out.fz 1
              have f2 := hbr.out.fz 2
              have f3 := hbr.out.fz 3
              have zl : w.heap.size + 1 < w4.heap.size := hbr.out.lt
              go_wp2
              exact bodyPost_ret (v := .tuple #[.agg #[.string h.name, .int .i64 h.kind, .int .i64 h.n, .string h.text], .int .i64 0]) (by first | (simp [results, Tryz.results74, go_sem, z0, z1, z2, z3]; done) | (simp [results, Tryz.results74, go_sem, z0, z1, z2, z3, zl]; done) | simp [results, Tryz.results74, go_sem]) rfl (evP_s (f := h) hR.out (by repeat (first | with_reducible exact Ext.refl _ | with_reducible exact hE0 | with_reducible exact hE | with_reducible refine Ext.alloc ?_ _ | with_reducible refine Ext.drewN ?_ _ | with_reducible refine Ext.drew ?_ | ((with_reducible refine Ext.setCell ?_ ?side _); (case side => first | exact Nat.le_refl _ | (simp; done) | (simp; omega))))))
      · skip
        go_enter Tryz.func74, Tryz.ntmps74
        have hbx0 := (Blk.new w #[.int .i64 op, .string nm, .string tx, .int .i64 n, .slice (some ⟨bb, off, none⟩) 2 cp] 24).alloc (.cells #[.string ⟨#[]⟩, .int .i64 0, .int .i64 0, .string ⟨#[]⟩] 36)
        have hbr0 := Blk.new' (w.alloc (.cells #[.int .i64 op, .string nm, .string tx, .int .i64 n, .slice (some ⟨bb, off, none⟩) 2 cp] 24)) #[.string ⟨#[]⟩, .int .i64 0, .int .i64 0, .string ⟨#[]⟩] 36 (w.heap.size + 1) (by simp)
        have hE00 : Ext w ((w.alloc (.cells #[.int .i64 op, .string nm, .string tx, .int .i64 n, .slice (some ⟨bb, off, none⟩) 2 cp] 24)).alloc (.cells #[.string ⟨#[]⟩, .int .i64 0, .int .i64 0, .string ⟨#[]⟩] 36)) := ((Ext.refl w).alloc _).alloc _
        go_wp2_with fail
        refine (k0.out _ hE00).mono ?_
        rintro e w1 hq
        clear y0 y1 y2 y3 y4
        rw [ha] at hq
        obtain ⟨rfl, hE1⟩ := evP_some hq
        have hbr := Lib.hid (hbr0.ext hE1)
        have hbx := Lib.hid (hbx0.ext hE1)
        have hE : Ext w w1 := hE00.trans hE1
        clear hE1 hq hbr0 hbx0 hE00 k0
        have x0 : w1.cell? ⟨w.heap.size, 0, none⟩ = some (.int .i64 op) := (hbx.out.cell 0).trans rfl
        have x4 : w1.cell? ⟨w.heap.size, 4, none⟩ = some (.slice (some ⟨bb, off, none⟩) 2 cp) := (hbx.out.cell 4).trans rfl
        have xl : w.heap.size < w1.heap.size := hbx.out.lt
        have hb8 := Blk.new w1 #[.string f.name, .int .i64 f.kind, .int .i64 f.n, .string f.text] 36
        have hEa : Ext w1 (w1.alloc (.cells #[.string f.name, .int .i64 f.kind, .int .i64 f.n, .string f.text] 36)) := (Ext.refl _).alloc _
        go_wp2_with fail
        replace hbx := Lib.hid (hbx.out.ext hEa)
        replace hbr := Lib.hid (hbr.out.ext hEa)
        replace hE := hE.trans hEa
        clear x0 x4 xl
        generalize w1.alloc (.cells #[.string f.name, .int .i64 f.kind, .int .i64 f.n, .string f.text] 36) = w2 at *
        replace hb8 := Lib.hid hb8
        clear hEa
        go_loopw [10] (fun i wr => i = .int .i64 1 ∧ wr = w2) (fun _ _ => 0)
        case atStart => exact ⟨rfl, rfl⟩
        case round =>
          obtain ⟨rfl, rfl⟩ := hrel
          have x0 : wr.cell? ⟨w.heap.size, 0, none⟩ = some (.int .i64 op) := (hbx.out.cell 0).trans rfl
          have x4 : wr.cell? ⟨w.heap.size, 4, none⟩ = some (.slice (some ⟨bb, off, none⟩) 2 cp) := (hbx.out.cell 4).trans rfl
          have xl : w.heap.size < wr.heap.size := hbx.out.lt
          obtain ⟨v0, v1, v2, v3, v4⟩ := (hc1.out.ext hE).five
          go_wp2_with fail
          refine (k1.out _ hE).mono ?_
          rintro e w3 hq
          clear x0 x4 xl v0 v1 v2 v3 v4
          cases hb : b.ev l nilS with
          | none =>
            have hR := Lib.hid (kb2.out hb)
            rw [hb] at hq
            obtain ⟨rfl, hE3⟩ := evP_none hq
            replace hbr := Lib.hid (hbr.out.ext hE3)
            replace hE := hE.trans hE3
            clear hE3 hq hb
            have z0 : w3.cell? ⟨w.heap.size + 1, 0, none⟩ = some (.string ⟨#[]⟩) := (hbr.out.cell 0).trans rfl
            have z1 : w3.cell? ⟨w.heap.size + 1, 1, none⟩ = some (.int .i64 0) := (hbr.out.cell 1).trans rfl
            have z2 : w3.cell? ⟨w.heap.size + 1, 2, none⟩ = some (.int .i64 0) := (hbr.out.cell 2).trans rfl
            have z3 : w3.cell? ⟨w.heap.size + 1, 3, none⟩ = some (.string ⟨#[]⟩) := (hbr.out.cell 3).trans rfl
            have f0 := hbr.out.fz 0
            have f1 := hbr.out.fz 1
            have f2 := hbr.out.fz 2
            have f3 := hbr.out.fz 3
            have zl : w.heap.size + 1 < w3.heap.size := hbr.out.lt
            go_wp2
            exact bodyPost_ret (v := .tuple #[.agg #[.string ⟨#[]⟩, .int .i64 0, .int .i64 0, .string ⟨#[]⟩], .int .i64 4]) (by first | (simp [results, Tryz.results74, go_sem]; done) | (simp [results, Tryz.results74, go_sem, z0, z1, z2, z3, zl]; done) | simp [results, Tryz.results74, go_sem]) rfl (evP_n hR.out (by repeat (first | with_reducible exact Ext.refl _ | with_reducible exact hE0 | with_reducible exact hE | with_reducible refine Ext.alloc ?_ _ | with_reducible refine Ext.drewN ?_ _ | with_reducible refine Ext.drew ?_ | ((with_reducible refine Ext.setCell ?_ ?side _); (case side => first | exact Nat.le_refl _ | (simp; done) | (simp; omega))))))
          | some g =>
            have hR := Lib.hid (kb3.out g hb)
            have kT2 := Lib.hid (fun w2 => kT.out g w2 (hnn.out g hb))
            rw [hb] at hq
            obtain ⟨rfl, hE3⟩ := evP_some hq
            replace hbr := Lib.hid (hbr.out.ext hE3)
            replace hbx := Lib.hid (hbx.out.ext hE3)
            replace hb8 := Lib.hid (hb8.out.ext hE3)
            replace hE := hE.trans hE3
            clear hE3 hq hb kT hnn
            generalize comb op f g = C at *
            have x0 : w3.cell? ⟨w.heap.size, 0, none⟩ = some (.int .i64 op) := (hbx.out.cell 0).trans rfl
            have xl : w.heap.size < w3.heap.size := hbx.out.lt
            have u0 : w3.cell? ⟨w1.heap.size, 0, none⟩ = some (.string f.name) := (hb8.out.cell 0).trans rfl
            have u1 : w3.cell? ⟨w1.heap.size, 1, none⟩ = some (.int .i64 f.kind) := (hb8.out.cell 1).trans rfl
            have u2 : w3.cell? ⟨w1.heap.size, 2, none⟩ = some (.int .i64 f.n) := (hb8.out.cell 2).trans rfl
            have u3 : w3.cell? ⟨w1.heap.size, 3, none⟩ = some (.string f.text) := (hb8.out.cell 3).trans rfl
            have ul : w1.heap.size < w3.heap.size := hb8.out.lt
            have hEb : Ext w3 (w3.alloc (.cells #[.string g.name, .int .i64 g.kind, .int .i64 g.n, .string g.text] 36)) := (Ext.refl _).alloc _
            cases C with
            | none =>
              go_wp2_with fail
              refine (kT2.out _).mono ?_
              rintro e w4 hq
              obtain ⟨rfl, hE4⟩ := evP_none hq
              replace hbr := Lib.hid (hbr.out.ext (hEb.trans hE4))
              replace hE := hE.trans (hEb.trans hE4)
              clear hE4 hq hEb x0 xl u0 u1 u2 u3 ul kT2
              have z0 : w4.cell? ⟨w.heap.size + 1, 0, none⟩ = some (.string ⟨#[]⟩) := (hbr.out.cell 0).trans rfl
              have z1 : w4.cell? ⟨w.heap.size + 1, 1, none⟩ = some (.int .i64 0) := (hbr.out.cell 1).trans rfl
              have z2 : w4.cell? ⟨w.heap.size + 1, 2, none⟩ = some (.int .i64 0) := (hbr.out.cell 2).trans rfl
              have z3 : w4.cell? ⟨w.heap.size + 1, 3, none⟩ = some (.string ⟨#[]⟩) := (hbr.out.cell 3).trans rfl
              have f0 := hbr.out.fz 0
              have f1 := hbr.out.fz 1
              have f2 := hbr.out.fz 2
              have f3 := hbr.out.fz 3
              have zl : w.heap.size + 1 < w4.heap.size := hbr.out.lt
              go_wp2
              exact bodyPost_ret (v := .tuple #[.agg #[.string ⟨#[]⟩, .int .i64 0, .int .i64 0, .string ⟨#[]⟩], .int .i64 4]) (by first | (simp [results, Tryz.results74, go_sem, z0, z1, z2, z3]; done) | (simp [results, Tryz.results74, go_sem, z0, z1, z2, z3, zl]; done) | simp [results, Tryz.results74, go_sem]) rfl (evP_n hR.out (by repeat (first | with_reducible exact Ext.refl _ | with_reducible exact hE0 | with_reducible exact hE | with_reducible refine Ext.alloc ?_ _ | with_reducible refine Ext.drewN ?_ _ | with_reducible refine Ext.drew ?_ | ((with_reducible refine Ext.setCell ?_ ?side _); (case side => first | exact Nat.le_refl _ | (simp; done) | (simp; omega))))))
            | some h =>
              go_wp2_with fail
              refine (kT2.out _).mono ?_
              rintro e w4 hq
              obtain ⟨rfl, hE4⟩ := evP_some hq
              replace hbr := Lib.hid (hbr.out.ext (hEb.trans hE4))
              replace hE := hE.trans (hEb.trans hE4)
              clear hE4 hq hEb x0 xl u0 u1 u2 u3 ul kT2
              have z0 : w4.cell? ⟨w.heap.size + 1, 0, none⟩ = some (.string ⟨#[]⟩) := (hbr.out.cell 0).trans rfl
              have z1 : w4.cell? ⟨w.heap.size + 1, 1, none⟩ = some (.int .i64 0) := (hbr.out.cell 1).trans rfl
              have z2 : w4.cell? ⟨w.heap.size + 1, 2, none⟩ = some (.int .i64 0) := (hbr.out.cell 2).trans rfl
              have z3 : w4.cell? ⟨w.heap.size + 1, 3, none⟩ = some (.string ⟨#[]⟩) := (hbr.out.cell 3).trans rfl
              have f0 := hbr.out.fz 0
              have f1 := hbr.out.fz 1
              have f2 := hbr.out.fz 2
              have f3 := hbr.out.fz 3
              have zl : w.heap.size + 1 < w4.heap.size := hbr.out.lt
              go_wp2
              exact bodyPost_ret (v := .tuple #[.agg #[.string h.name, .int .i64 h.kind, .int .i64 h.n, .string h.text], .int .i64 0]) (by first | (simp [results, Tryz.results74, go_sem, z0, z1, z2, z3]; done) | (simp [results, Tryz.results74, go_sem, z0, z1, z2, z3, zl]; done) | simp [results, Tryz.results74, go_sem]) rfl (evP_s (f := h) hR.out (by repeat (first | with_reducible exact Ext.refl _ | with_reducible exact hE0 | with_reducible exact hE | with_reducible refine Ext.alloc ?_ _ | with_reducible refine Ext.drewN ?_ _ | with_reducible refine Ext.drew ?_ | ((with_reducible refine Ext.setCell ?_ ?side _); (case side => first | exact Nat.le_refl _ | (simp; done) | (simp; omega))))))
set_option maxRecDepth 8000 in
set_option maxHeartbeats 2000000 in
theorem rev15 (nm tx : ByteArray) (n : Int) (bb off cp : Nat) (a : Ex) (r : List Ex) (w : World) (fv : Value) (l : List Feat) (hr : r.length ≤ 100) (k0 : RKid w fv l bb off a) (kr : ∀ i, i < r.length → RKid w fv l bb (off + (i + 1) * 5) (r.getD i exD)) (R : Option Feat) (h0 : a.ev l nilS = none → R = none) (h1 : ∀ f, a.ev l nilS = some f → R = inV f (r.map fun x => x.ev l nilS)) : Calls Tryz.prog 74 #[.agg #[.int .i64 15, .string nm, .string tx, .int .i64 n, .slice (some ⟨bb, off, none⟩) (r.length + 1) cp], fv, .slice none 0 0] w (EvP R w) := by
  obtain ⟨q0, c0, hc, k0⟩ := k0
  obtain ⟨y0, y1, y2, y3, y4⟩ := hc.five
  have hbl : bb < w.heap.size := cell_lt y0
  unfold exAgg at k0
  replace k0 := Lib.hid k0
  replace kr := Lib.hid kr
  have dN : (((r.length + 1 : Nat) : Int) == 0) = false := by simp; omega
  obtain ⟨N, hN⟩ : ∃ N, N = r.length + 1 := ⟨_, rfl⟩
  rw [← hN] at dN ⊢
  have hN1 : 1 ≤ N := by omega
  replace hN := Lib.hid hN
  cases ha : a.ev l nilS with
  | none =>
    have hR := Lib.hid (h0 ha)
    clear h0 h1 kr
    go_enter Tryz.func74, Tryz.ntmps74
    have hbx0 := (Blk.new w #[.int .i64 15, .string nm, .string tx, .int .i64 n, .slice (some ⟨bb, off, none⟩) N cp] 24).alloc (.cells #[.string ⟨#[]⟩, .int .i64 0, .int .i64 0, .string ⟨#[]⟩] 36)
    have hbr0 := Blk.new' (w.alloc (.cells #[.int .i64 15, .string nm, .string tx, .int .i64 n, .slice (some ⟨bb, off, none⟩) N cp] 24)) #[.string ⟨#[]⟩, .int .i64 0, .int .i64 0, .string ⟨#[]⟩] 36 (w.heap.size + 1) (by simp)
    have hE00 : Ext w ((w.alloc (.cells #[.int .i64 15, .string nm, .string tx, .int .i64 n, .slice (some ⟨bb, off, none⟩) N cp] 24)).alloc (.cells #[.string ⟨#[]⟩, .int .i64 0, .int .i64 0, .string ⟨#[]⟩] 36)) := ((Ext.refl w).alloc _).alloc _
    go_wp2_with fail
    refine (k0.out _ hE00).mono ?_
    rintro e w1 hq
    clear y0 y1 y2 y3 y4
    rw [ha] at hq
    obtain ⟨rfl, hE1⟩ := evP_none hq
    have hbr := Lib.hid (hbr0.ext hE1)
    have hbx := Lib.hid (hbx0.ext hE1)
    have hE : Ext w w1 := hE00.trans hE1
    clear hE1 hq hbr0 hbx0 hE00 k0
    have z0 : w1.cell? ⟨w.heap.size + 1, 0, none⟩ = some (.string ⟨#[]⟩) := (hbr.out.cell 0).trans rfl
    have z1 : w1.cell? ⟨w.heap.size + 1, 1, none⟩ = some (.int .i64 0) := (hbr.out.cell 1).trans rfl
    have z2 : w1.cell? ⟨w.heap.size + 1, 2, none⟩ = some (.int .i64 0) := (hbr.out.cell 2).trans rfl
    have z3 : w1.cell? ⟨w.heap.size + 1, 3, none⟩ = some (.string ⟨#[]⟩) := (hbr.out.cell 3).trans rfl
    have f0 := hbr.out.fz 0
    have f1 := hbr.out.fz 1
    have f2 := hbr.out.fz 2
    have f3 := hbr.out.fz 3
    have zl : w.heap.size + 1 < w1.heap.size := hbr.out.lt
    clear ha hbx
    go_wp2
    exact bodyPost_ret (v := .tuple #[.agg #[.string ⟨#[]⟩, .int .i64 0, .int .i64 0, .string ⟨#[]⟩], .int .i64 4]) (by first | (simp [results, Tryz.results74, go_sem]; done) | (simp [results, Tryz.results74, go_sem, z0, z1, z2, z3, zl]; done) | simp [results, Tryz.results74, go_sem]) rfl (evP_n hR.out (by repeat (first | with_reducible exact Ext.refl _ | with_reducible exact hE0 | with_reducible exact hE | with_reducible refine Ext.alloc ?_ _ | with_reducible refine Ext.drewN ?_ _ | with_reducible refine Ext.drew ?_ | ((with_reducible refine Ext.setCell ?_ ?side _); (case side => first | exact Nat.le_refl _ | (simp; done) | (simp; omega))))))
  | some f =>
    have hR0 := Lib.hid (h1 f ha)
    clear h0 h1
    have hq1 := fun (g : Feat) (w : World) => featEq f g w
    replace hq1 := Lib.hid hq1
    have kT := Lib.hid (fun b w2 => rtruth_any b w2)
    go_enter Tryz.func74, Tryz.ntmps74
    have hbx0 := (Blk.new w #[.int .i64 15, .string nm, .string tx, .int .i64 n, .slice (some ⟨bb, off, none⟩) N cp] 24).alloc (.cells #[.string ⟨#[]⟩, .int .i64 0, .int .i64 0, .string ⟨#[]⟩] 36)
    have hbr0 := Blk.new' (w.alloc (.cells #[.int .i64 15, .string nm, .string tx, .int .i64 n, .slice (some ⟨bb, off, none⟩) N cp] 24)) #[.string ⟨#[]⟩, .int .i64 0, .int .i64 0, .string ⟨#[]⟩] 36 (w.heap.size + 1) (by simp)
    have hE00 : Ext w ((w.alloc (.cells #[.int .i64 15, .string nm, .string tx, .int .i64 n, .slice (some ⟨bb, off, none⟩) N cp] 24)).alloc (.cells #[.string ⟨#[]⟩, .int .i64 0, .int .i64 0, .string ⟨#[]⟩] 36)) := ((Ext.refl w).alloc _).alloc _
    go_wp2_with fail
    refine (k0.out _ hE00).mono ?_
    rintro e w1 hq
    clear y0 y1 y2 y3 y4
    rw [ha] at hq
    obtain ⟨rfl, hE1⟩ := evP_some hq
    have hbr := Lib.hid (hbr0.ext hE1)
    have hbx := Lib.hid (hbx0.ext hE1)
    have hE : Ext w w1 := hE00.trans hE1
    clear hE1 hq hbr0 hbx0 hE00 k0
    have x0 : w1.cell? ⟨w.heap.size, 0, none⟩ = some (.int .i64 15) := (hbx.out.cell 0).trans rfl
    have x4 : w1.cell? ⟨w.heap.size, 4, none⟩ = some (.slice (some ⟨bb, off, none⟩) N cp) := (hbx.out.cell 4).trans rfl
    have xl : w.heap.size < w1.heap.size := hbx.out.lt
    have hb8 := Blk.new w1 #[.string f.name, .int .i64 f.kind, .int .i64 f.n, .string f.text] 36
    have hEa : Ext w1 (w1.alloc (.cells #[.string f.name, .int .i64 f.kind, .int .i64 f.n, .string f.text] 36)) := (Ext.refl _).alloc _
    clear ha
    go_wp2_with fail
    replace hbx := Lib.hid (hbx.out.ext hEa)
    replace hbr := Lib.hid (hbr.out.ext hEa)
    replace hE := hE.trans hEa
    clear x0 x4 xl
    generalize w1.alloc (.cells #[.string f.name, .int .i64 f.kind, .int .i64 f.n, .string f.text] 36) = w2 at *
    replace hb8 := Lib.hid hb8
    clear hEa
    go_loopw [10] (fun i wr => ∃ k : Nat, k ≤ r.length ∧ i = .int .i64 ((k : Int) + 1) ∧ R = inV f ((r.drop k).map fun x => x.ev l nilS) ∧ Ext w2 wr) (fun i _ => r.length + 1 - (intOf i).toNat)
    case atStart => exact ⟨0, Nat.zero_le _, rfl, hR0.out, Ext.refl _⟩
    case round =>
      obtain ⟨k, hk, rfl, hR, hEr⟩ := hrel
      replace hbx := Lib.hid (hbx.out.ext hEr)
      replace hbr := Lib.hid (hbr.out.ext hEr)
      replace hb8 := Lib.hid (hb8.out.ext hEr)
      have hE0 := hE
      replace hE := hE.trans hEr
      have x0 : wr.cell? ⟨w.heap.size, 0, none⟩ = some (.int .i64 15) := (hbx.out.cell 0).trans rfl
      have x4 : wr.cell? ⟨w.heap.size, 4, none⟩ = some (.slice (some ⟨bb, off, none⟩) N cp) := (hbx.out.cell 4).trans rfl
      have xl : w.heap.size < wr.heap.size := hbx.out.lt
      by_cases hlt : k < r.length
      · obtain ⟨q1, c1, hc1, k1⟩ := kr.out k hlt
        have hd : r.drop k = r.getD k exD :: r.drop (k + 1) := by
          rw [List.drop_eq_getElem_cons hlt]
          simp [List.getD_eq_getElem?_getD, hlt]
        rw [hd, List.map_cons] at hR
        replace hR := Lib.hid hR
        unfold exAgg at k1
        replace k1 := Lib.hid k1
        clear hd
        generalize r.getD k exD = b at *
        have dl : decide ((k : Int) + 1 < (N : Int)) = true := decide_eq_true (by have := hN.out; omega)
        have hbw : bb < wr.heap.size := by have := hE.size; omega
        have hkN : k + 1 < N := by have := hN.out; omega
        obtain ⟨v0, v1, v2, v3, v4⟩ := (hc1.ext hE).five
        clear hc1
        go_wp2_with fail
        refine (k1.out _ hE).mono ?_
        rintro e w3 hq
        clear x0 x4 xl v0 v1 v2 v3 v4
        cases hb : b.ev l nilS with
        | none =>
          have hR2 := Lib.hid (show R = none by rw [hR.out, hb]; rfl)
          rw [hb] at hq
          obtain ⟨rfl, hE3⟩ := evP_none hq
          replace hbr := Lib.hid (hbr.out.ext hE3)
          replace hE := hE.trans hE3
          clear hE3 hq hb hE0
          have z0 : w3.cell? ⟨w.heap.size + 1, 0, none⟩ = some (.string ⟨#[]⟩) := (hbr.out.cell 0).trans rfl
          have z1 : w3.cell? ⟨w.heap.size + 1, 1, none⟩ = some (.int .i64 0) := (hbr.out.cell 1).trans rfl
          have z2 : w3.cell? ⟨w.heap.size + 1, 2, none⟩ = some (.int .i64 0) := (hbr.out.cell 2).trans rfl
          have z3 : w3.cell? ⟨w.heap.size + 1, 3, none⟩ = some (.string ⟨#[]⟩) := (hbr.out.cell 3).trans rfl
          have f0 := hbr.out.fz 0
          have f1 := hbr.out.fz 1
          have f2 := hbr.out.fz 2
          have f3 := hbr.out.fz 3
          have zl : w.heap.size + 1 < w3.heap.size := hbr.out.lt
          go_wp2
          exact bodyPost_ret (v := .tuple #[.agg #[.string ⟨#[]⟩, .int .i64 0, .int .i64 0, .string ⟨#[]⟩], .int .i64 4]) (by first | (simp [results, Tryz.results74, go_sem]; done) | (simp [results, Tryz.results74, go_sem, z0, z1, z2, z3, zl]; done) | simp [results, Tryz.results74, go_sem]) rfl (evP_n hR2.out (by repeat (first | with_reducible exact Ext.refl _ | with_reducible exact hE0 | with_reducible exact hE | with_reducible refine Ext.alloc ?_ _ | with_reducible refine Ext.drewN ?_ _ | with_reducible refine Ext.drew ?_ | ((with_reducible refine Ext.setCell ?_ ?side _); (case side => first | exact Nat.le_refl _ | (simp; done) | (simp; omega))))))
        | some g =>
          have hR2 := Lib.hid (show R = if g = f then some (truthF true) else inV f ((r.drop (k + 1)).map fun x => x.ev l nilS) by rw [hR.out, hb, inV])
          rw [hb] at hq
          obtain ⟨rfl, hE3⟩ := evP_some hq
          replace hbr := Lib.hid (hbr.out.ext hE3)
          replace hbx := Lib.hid (hbx.out.ext hE3)
          replace hb8 := Lib.hid (hb8.out.ext hE3)
          replace hEr := hEr.trans hE3
          replace hE := hE.trans hE3
          have x0 : w3.cell? ⟨w.heap.size, 0, none⟩ = some (.int .i64 15) := (hbx.out.cell 0).trans rfl
          have xl : w.heap.size < w3.heap.size := hbx.out.lt
          have u0 : w3.cell? ⟨w1.heap.size, 0, none⟩ = some (.string f.name) := (hb8.out.cell 0).trans rfl
          have u1 : w3.cell? ⟨w1.heap.size, 1, none⟩ = some (.int .i64 f.kind) := (hb8.out.cell 1).trans rfl
          have u2 : w3.cell? ⟨w1.heap.size, 2, none⟩ = some (.int .i64 f.n) := (hb8.out.cell 2).trans rfl
          have u3 : w3.cell? ⟨w1.heap.size, 3, none⟩ = some (.string f.text) := (hb8.out.cell 3).trans rfl
          have ul : w1.heap.size < w3.heap.size := hb8.out.lt
          have hq2 := hq1.out g
          by_cases hgf : g = f
          · have hR3 := Lib.hid (hR2.out.trans (if_pos hgf))
            rw [decide_eq_true hgf.symm] at hq2
            have kT2 := Lib.hid (fun w2 => kT.out true w2)
            have hEb : Ext w3 (w3.alloc (.cells #[.string g.name, .int .i64 g.kind, .int .i64 g.n, .string g.text] 36)) := (Ext.refl _).alloc _
            generalize truthF true = h at *
            clear hgf hR2 hR hE3 hq hb hE0 kT hEr
            go_wp2_with fail
            refine (kT2.out _).mono ?_
            rintro e w4 hq
            obtain ⟨rfl, hE4⟩ := evP_some hq
            replace hbr := Lib.hid (hbr.out.ext (hEb.trans hE4))
            replace hE := hE.trans (hEb.trans hE4)
            clear hE4 hq hEb x0 xl u0 u1 u2 u3 ul kT2 hq2
            have z0 : w4.cell? ⟨w.heap.size + 1, 0, none⟩ = some (.string ⟨#[]⟩) := (hbr.out.cell 0).trans rfl
            have z1 : w4.cell? ⟨w.heap.size + 1, 1, none⟩ = some (.int .i64 0) := (hbr.out.cell 1).trans rfl
            have z2 : w4.cell? ⟨w.heap.size + 1, 2, none⟩ = some (.int .i64 0) := (hbr.out.cell 2).trans rfl
            have z3 : w4.cell? ⟨w.heap.size + 1, 3, none⟩ = some (.string ⟨#[]⟩) := (hbr.out.cell 3).trans rfl
            have f0 := hbr.out.fz 0
            have f1 := hbr.out.fz 1
            have f2 := hbr.out.fz 2
            have f3 := hbr.out.fz 3
            have zl : w.heap.size + 1 < w4.heap.size := hbr.out.lt
            go_wp2
            exact bodyPost_ret (v := .tuple #[.agg #[.string h.name, .int .i64 h.kind, .int .i64 h.n, .string h.text], .int .i64 0]) (by first | (simp [results, Tryz.results74, go_sem, z0, z1, z2, z3]; done) | (simp [results, Tryz.results74, go_sem, z0, z1, z2, z3, zl]; done) | simp [results, Tryz.results74, go_sem]) rfl (evP_s (f := h) hR3.out (by repeat (first | with_reducible exact Ext.refl _ | with_reducible exact hE0 | with_reducible exact hE | with_reducible refine Ext.alloc ?_ _ | with_reducible refine Ext.drewN ?_ _ | with_reducible refine Ext.drew ?_ | ((with_reducible refine Ext.setCell ?_ ?side _); (case side => first | exact Nat.le_refl _ | (simp; done) | (simp; omega))))))
          · have hR3 := Lib.hid (hR2.out.trans (if_neg hgf))
            rw [decide_eq_false (fun h => hgf h.symm)] at hq2
            clear hgf hR2 hR hE3 hq hb hE0
            go_wp2
            go_roundw
            case rel => exact ⟨k + 1, by omega, by go_num, hR3.out, hEr.alloc _⟩
            case measure => simp [intOf]; omega
      · have hk2 : k = r.length := by omega
        have hd : r.drop k = [] := by rw [hk2]; exact List.drop_length
        rw [hd] at hR
        have hR3 := Lib.hid (show R = some (truthF false) by rw [hR]; rfl)
        have kT2 := Lib.hid (fun w2 => kT.out false w2)
        have dl : decide ((k : Int) + 1 < (N : Int)) = false := decide_eq_false (by have := hN.out; omega)
        generalize truthF false = h at *
        clear hd hk2 hR hE0 kT
        go_wp2_with fail
        refine (kT2.out _).mono ?_
        rintro e w4 hq
        obtain ⟨rfl, hE4⟩ := evP_some hq
        replace hbr := Lib.hid (hbr.out.ext hE4)
        replace hE := hE.trans hE4
        clear hE4 hq x0 x4 xl kT2
        have z0 : w4.cell? ⟨w.heap.size + 1, 0, none⟩ = some (.string ⟨#[]⟩) := (hbr.out.cell 0).trans rfl
        have z1 : w4.cell? ⟨w.heap.size + 1, 1, none⟩ = some (.int .i64 0) := (hbr.out.cell 1).trans rfl
        have z2 : w4.cell? ⟨w.heap.size + 1, 2, none⟩ = some (.int .i64 0) := (hbr.out.cell 2).trans rfl
        have z3 : w4.cell? ⟨w.heap.size + 1, 3, none⟩ = some (.string ⟨#[]⟩) := (hbr.out.cell 3).trans rfl
        have f0 := hbr.out.fz 0
        have f1 := hbr.out.fz 1
        have f2 := hbr.out.fz 2
        have f3 := hbr.out.fz 3
        have zl : w.heap.size + 1 < w4.heap.size := hbr.out.lt
        go_wp2
        exact bodyPost_ret (v := .tuple #[.agg #[.string h.name, .int .i64 h.kind, .int .i64 h.n, .string h.text], .int .i64 0]) (by first | (simp [results, Tryz.results74, go_sem, z0, z1, z2, z3]; done) | (simp [results, Tryz.results74, go_sem, z0, z1, z2, z3, zl]; done) | simp [results, Tryz.results74, go_sem]) rfl (evP_s (f := h) hR3.out (by repeat (first | with_reducible exact Ext.refl _ | with_reducible exact hE0 | with_reducible exact hE | with_reducible refine Ext.alloc ?_ _ | with_reducible refine Ext.drewN ?_ _ | with_reducible refine Ext.drew ?_ | ((with_reducible refine Ext.setCell ?_ ?side _); (case side => first | exact Nat.le_refl _ | (simp; done) | (simp; omega))))))
set_option maxHeartbeats 1000000 in
theorem reval_any {w : World} {v : Value} {l0 : List Ex} (h : ExS w v l0) (fv : Value) (l : List Feat) (hF : Feats w fv l) (hN : namesE [] l = 0) : ∀ x : Ex, x.args = l0 → ∀ w', Ext w w' → x.formed = true → (x.ty l).2 = 0 → Calls Tryz.prog 74 #[exAgg x v, fv, .slice none 0 0] w' (EvP (x.ev l nilS) w') := by
  refine ExS.ind (P := fun x v => ∀ w', Ext w w' → x.formed = true → (x.ty l).2 = 0 → Calls Tryz.prog 74 #[exAgg x v, fv, .slice none 0 0] w' (EvP (x.ev l nilS) w')) ?_ h
  clear h
  intro x v hS hK w' hE hf ht
  obtain ⟨op, nm, tx, n, args⟩ := x
  obtain ⟨q, cp, rfl⟩ := hS.form
  simp only [Ex.args] at hS hK ⊢
  rw [formed_eq] at hf
  simp only [Bool.and_eq_true, List.all_eq_true] at hf
  obtain ⟨hfv, hfa⟩ := hf
  obtain ⟨hta, fk, hfk, hb, -⟩ := ty_inv ht
  have hty : ∀ a ∈ args, ∀ f, a.ev l nilS = some f → WellF (a.ty l).1 f := fun a ha f hv => ev_typed l hN nilS a (hfa a ha) (hta a ha) f hv
  have hkid : 0 < args.length → ∃ bb off, q = some ⟨bb, off, none⟩ ∧ ∀ i, i < args.length → RKid w' fv l bb (off + i * 5) (args.getD i exD) := by
    intro h0
    obtain ⟨bb, off, rfl, sv, hk⟩ := hK _ _ rfl h0
    refine ⟨bb, off, rfl, fun i hi => ?_⟩
    obtain ⟨h1, h2, h3⟩ := hk i hi
    obtain ⟨qi, ci, hform⟩ := h2.form
    have hmem : args.getD i exD ∈ args := by
      rw [List.getD_eq_getElem?_getD, List.getElem?_eq_getElem hi, Option.getD_some]
      exact List.getElem_mem hi
    rw [hform] at h1 h3
    exact ⟨qi, ci, h1.ext hE, fun w2 hE2 => h3 w2 (hE.trans hE2) (hfa _ hmem) (hta _ hmem)⟩
  rw [exAgg_mk]
  rcases fv_cut hfv with ⟨ho, hl⟩ | ⟨ho, hl⟩ | ⟨⟨ho, ho'⟩, hl⟩ | ⟨ho, hl, hl'⟩
  · obtain rfl := List.length_eq_zero_iff.1 hl
    refine rev0 op nm tx n q cp w' fv _ (fun w1 h1 => ?_)
    rw [ev_mk]
    have hF1 := hF.ext (hE.trans h1)
    rcases ho with rfl | rfl | rfl | rfl | rfl
    · exact rleaf1 nm tx n q cp w1 (by unfold hasFv at hfv; rw [if_pos rfl] at hfv; simp only [Bool.and_eq_true] at hfv; exact hfv.1.1.1) fv l hF1
    · exact rleaf2 nm tx n q cp w1 fv l hF1
    · exact rleaf3 nm tx n q cp w1 fv l hF1
    · exact rleaf16 nm tx n q cp w1 fv l hF1
    · exact rleaf17 nm tx n q cp w1 fv l hF1
  · obtain ⟨a, rfl⟩ := len1 hl
    obtain ⟨bb, off, rfl, hk⟩ := hkid (by simp)
    have k0 : RKid w' fv l bb off a := hk 0 (by simp)
    simp only [List.map_cons, List.map_nil] at hb
    rcases byK_one ho hb with ⟨rfl, e1, -⟩ | ⟨rfl, e1, -⟩
    · exact rev4 nm tx n bb off 1 cp (by omega) a w' fv l k0 _ (fun h => by rw [ev_one (Or.inl rfl), h]) (fun f h => by rw [ev_one (Or.inl rfl), h]; simp)
    · refine rev5 nm tx n bb off 1 cp (by omega) a w' fv l k0 _ (fun h => by rw [ev_one (Or.inr rfl), h]) (fun f h => ⟨by rw [ev_one (Or.inr rfl), h]; simp, ?_⟩)
      have hw := hty a (by simp) f h
      rw [e1] at hw
      rcases hw.2.2 with h | h | h
      · exact h.2.1
      · exact absurd h.1 (by omega)
      · exact absurd h.1 (by omega)
  · obtain ⟨a, c, rfl⟩ := len2 hl
    obtain ⟨bb, off, rfl, hk⟩ := hkid (by simp)
    have k0 : RKid w' fv l bb off a := hk 0 (by simp)
    have k1 : RKid w' fv l bb (off + 5) c := hk 1 (by simp)
    simp only [List.map_cons, List.map_nil] at hb
    have hn : ∀ f g, a.ev l nilS = some f → c.ev l nilS = some g → op = 12 ∨ op = 13 ∨ op = 14 → nbrB f.n = true ∧ nbrB g.n = true := by
      intro f g h1 h2 h3
      have w1 := hty a (by simp) f h1
      have w2 := hty c (by simp) g h2
      rcases byK_two ho ho' hb with ⟨h, _⟩ | ⟨h, _⟩ | ⟨h, _⟩ | ⟨h, e1, e2, _⟩
      · omega
      · omega
      · omega
      · rw [e1] at w1
        rw [e2] at w2
        refine ⟨?_, ?_⟩
        · rcases w1.2.2 with h | h | h
          · exact h.2.1
          · exact absurd h.1 (by omega)
          · exact absurd h.1 (by omega)
        · rcases w2.2.2 with h | h | h
          · exact h.2.1
          · exact absurd h.1 (by omega)
          · exact absurd h.1 (by omega)
    exact rev2 op ⟨ho, ho'⟩ nm tx n bb off cp a c w' fv l k0 k1 _ (fun h => by rw [ev_two ho ho', h]) (fun f h hc => by rw [ev_two ho ho', h]; simp only [if_pos hc]) (fun f h hc h2 => by rw [ev_two ho ho', h]; simp only [if_neg hc, h2]) (fun f g h hc h2 => by rw [ev_two ho ho', h]; simp only [if_neg hc, h2]) hn
  · subst ho
    cases args with
    | nil => simp at hl
    | cons a r =>
      obtain ⟨bb, off, rfl, hk⟩ := hkid (by simp)
      have k0 : RKid w' fv l bb off a := hk 0 (by simp)
      simp only [List.length_cons] at hl hl'
      exact rev15 nm tx n bb off cp a r w' fv l (by omega) k0 (fun i hi => by have := hk (i + 1) (by simp; omega); simpa using this) _ (fun h => by rw [ev_in, h]) (fun f h => by rw [ev_in, h]; rfl)
set_option maxRecDepth 8000 in
set_option maxHeartbeats 4000000 in
theorem rEval_any {w : World} {v : Value} (x : Ex) (hS : ExS w v x.args) (hok : StrOk [x]) (hpt : x.parts.length ≤ 1000000) (fp : Option Addr) (fc : Nat) (l : List Feat) (hF : Feats w (.slice fp l.length fc) l) (hcap : l.length ≤ fc) (hs : ∀ i, i < l.length → (l.getD i fD).name.size ≤ 140737488355328) : Calls Tryz.prog 46 #[exAgg x v, .slice fp l.length fc, .slice none 0 0] w (EvalPost (evalV x l nilS) w) := by
  obtain ⟨q, cp, rfl⟩ := hS.form
  have kC := Lib.hid (fun w1 (h : Ext w w1) => rcheck_any x (hS.ext h) hok hpt fp fc l (hF.ext h) hcap hs)
  have kE := Lib.hid (fun w1 (h : Ext w w1) (hc : (checkV x l).2 = 0) => by
    obtain ⟨h1, h2, h3, h4⟩ := checkV_ok (x := x) (l := l) hc
    exact reval_any hS (.slice fp l.length fc) l hF h1 x rfl w1 h h3 h4)
  obtain ⟨R, hR⟩ : ∃ R, R = evalV x l nilS := ⟨_, rfl⟩
  rw [← hR]
  unfold evalV at hR
  unfold TyPost at kC
  unfold EvalPost
  generalize x.ev l nilS = ev at *
  generalize checkV x l = cv at *
  obtain ⟨c1, c2⟩ := cv
  simp only at kC kE hR
  obtain ⟨op, nm, tx, n, args⟩ := x
  simp only [exAgg_mk, Ex.args] at kC kE ⊢
  replace hR := Lib.hid hR
  clear hS hF hok hpt hs
  by_cases hc : c2 = 0
  · subst hc
    have kE2 := Lib.hid (fun w1 h => kE.out w1 h rfl)
    have hR2 := Lib.hid (hR.out.trans (if_neg (by simp)))
    clear hR kE
    cases ev with
    | none =>
      have hR3 := Lib.hid (show R = (fD, 4) from hR2.out)
      go_enter Tryz.func46, Tryz.ntmps46
      have hbx0 := (Blk.new w #[.int .i64 op, .string nm, .string tx, .int .i64 n, .slice q args.length cp] 24).alloc (.cells #[.string ⟨#[]⟩, .int .i64 0, .int .i64 0, .string ⟨#[]⟩] 36)
      have hbr0 := Blk.new' (w.alloc (.cells #[.int .i64 op, .string nm, .string tx, .int .i64 n, .slice q args.length cp] 24)) #[.string ⟨#[]⟩, .int .i64 0, .int .i64 0, .string ⟨#[]⟩] 36 (w.heap.size + 1) (by simp)
      have hE00 : Ext w ((w.alloc (.cells #[.int .i64 op, .string nm, .string tx, .int .i64 n, .slice q args.length cp] 24)).alloc (.cells #[.string ⟨#[]⟩, .int .i64 0, .int .i64 0, .string ⟨#[]⟩] 36)) := ((Ext.refl w).alloc _).alloc _
      go_wp2_with fail
      refine (kC.out _ hE00).mono ?_
      rintro e w1 ⟨rfl, hE1⟩
      have hbx := Lib.hid (hbx0.ext hE1)
      have hbr := Lib.hid (hbr0.ext hE1)
      have hE : Ext w w1 := hE00.trans hE1
      have x0 : w1.cell? ⟨w.heap.size, 0, none⟩ = some (.int .i64 op) := (hbx.out.cell 0).trans rfl
      have x1 : w1.cell? ⟨w.heap.size, 1, none⟩ = some (.string nm) := (hbx.out.cell 1).trans rfl
      have x2 : w1.cell? ⟨w.heap.size, 2, none⟩ = some (.string tx) := (hbx.out.cell 2).trans rfl
      have x3 : w1.cell? ⟨w.heap.size, 3, none⟩ = some (.int .i64 n) := (hbx.out.cell 3).trans rfl
      have x4 : w1.cell? ⟨w.heap.size, 4, none⟩ = some (.slice q args.length cp) := (hbx.out.cell 4).trans rfl
      clear hE1 hbr0 hbx0 hE00 kC
      go_wp2_with fail
      refine (kE2.out _ hE).mono ?_
      rintro e w2 hq
      obtain ⟨rfl, hE2⟩ := evP_none hq
      replace hbr := Lib.hid (hbr.out.ext hE2)
      replace hE := hE.trans hE2
      clear hE2 hq kE2 x0 x1 x2 x3 x4
      have z0 : w2.cell? ⟨w.heap.size + 1, 0, none⟩ = some (.string ⟨#[]⟩) := (hbr.out.cell 0).trans rfl
      have z1 : w2.cell? ⟨w.heap.size + 1, 1, none⟩ = some (.int .i64 0) := (hbr.out.cell 1).trans rfl
      have z2 : w2.cell? ⟨w.heap.size + 1, 2, none⟩ = some (.int .i64 0) := (hbr.out.cell 2).trans rfl
      have z3 : w2.cell? ⟨w.heap.size + 1, 3, none⟩ = some (.string ⟨#[]⟩) := (hbr.out.cell 3).trans rfl
      have f0 := hbr.out.fz 0
      have f1 := hbr.out.fz 1
      have f2 := hbr.out.fz 2
      have f3 := hbr.out.fz 3
      have zl : w.heap.size + 1 < w2.heap.size := hbr.out.lt
      go_wp2
      exact bodyPost_ret (v := .tuple #[.agg #[.string ⟨#[]⟩, .int .i64 0, .int .i64 0, .string ⟨#[]⟩], .int .i64 4]) (by first | (simp [results, Tryz.results46, go_sem, z0, z1, z2, z3]; done) | (simp [results, Tryz.results46, go_sem, z0, z1, z2, z3, zl]; done) | simp [results, Tryz.results46, go_sem]) rfl ⟨by first | (rw [hR3.out]; done) | (rw [hR3.out]; rfl), (by repeat (first | with_reducible exact Ext.refl _ | with_reducible exact hE0 | with_reducible exact hE | with_reducible refine Ext.alloc ?_ _ | with_reducible refine Ext.drewN ?_ _ | with_reducible refine Ext.drew ?_ | ((with_reducible refine Ext.setCell ?_ ?side _); (case side => first | exact Nat.le_refl _ | (simp; done) | (simp; omega)))))⟩
    | some f =>
      have hR3 := Lib.hid (show R = (f, 0) from hR2.out)
      go_enter Tryz.func46, Tryz.ntmps46
      have hbx0 := (Blk.new w #[.int .i64 op, .string nm, .string tx, .int .i64 n, .slice q args.length cp] 24).alloc (.cells #[.string ⟨#[]⟩, .int .i64 0, .int .i64 0, .string ⟨#[]⟩] 36)
      have hbr0 := Blk.new' (w.alloc (.cells #[.int .i64 op, .string nm, .string tx, .int .i64 n, .slice q args.length cp] 24)) #[.string ⟨#[]⟩, .int .i64 0, .int .i64 0, .string ⟨#[]⟩] 36 (w.heap.size + 1) (by simp)
      have hE00 : Ext w ((w.alloc (.cells #[.int .i64 op, .string nm, .string tx, .int .i64 n, .slice q args.length cp] 24)).alloc (.cells #[.string ⟨#[]⟩, .int .i64 0, .int .i64 0, .string ⟨#[]⟩] 36)) := ((Ext.refl w).alloc _).alloc _
      go_wp2_with fail
      refine (kC.out _ hE00).mono ?_
      rintro e w1 ⟨rfl, hE1⟩
      have hbx := Lib.hid (hbx0.ext hE1)
      have hbr := Lib.hid (hbr0.ext hE1)
      have hE : Ext w w1 := hE00.trans hE1
      have x0 : w1.cell? ⟨w.heap.size, 0, none⟩ = some (.int .i64 op) := (hbx.out.cell 0).trans rfl
      have x1 : w1.cell? ⟨w.heap.size, 1, none⟩ = some (.string nm) := (hbx.out.cell 1).trans rfl
      have x2 : w1.cell? ⟨w.heap.size, 2, none⟩ = some (.string tx) := (hbx.out.cell 2).trans rfl
      have x3 : w1.cell? ⟨w.heap.size, 3, none⟩ = some (.int .i64 n) := (hbx.out.cell 3).trans rfl
      have x4 : w1.cell? ⟨w.heap.size, 4, none⟩ = some (.slice q args.length cp) := (hbx.out.cell 4).trans rfl
      clear hE1 hbr0 hbx0 hE00 kC
      go_wp2_with fail
      refine (kE2.out _ hE).mono ?_
      rintro e w2 hq
      obtain ⟨rfl, hE2⟩ := evP_some hq
      replace hbr := Lib.hid (hbr.out.ext hE2)
      replace hE := hE.trans hE2
      clear hE2 hq kE2 x0 x1 x2 x3 x4
      have z0 : w2.cell? ⟨w.heap.size + 1, 0, none⟩ = some (.string ⟨#[]⟩) := (hbr.out.cell 0).trans rfl
      have z1 : w2.cell? ⟨w.heap.size + 1, 1, none⟩ = some (.int .i64 0) := (hbr.out.cell 1).trans rfl
      have z2 : w2.cell? ⟨w.heap.size + 1, 2, none⟩ = some (.int .i64 0) := (hbr.out.cell 2).trans rfl
      have z3 : w2.cell? ⟨w.heap.size + 1, 3, none⟩ = some (.string ⟨#[]⟩) := (hbr.out.cell 3).trans rfl
      have f0 := hbr.out.fz 0
      have f1 := hbr.out.fz 1
      have f2 := hbr.out.fz 2
      have f3 := hbr.out.fz 3
      have zl : w.heap.size + 1 < w2.heap.size := hbr.out.lt
      go_wp2
      exact bodyPost_ret (v := .tuple #[.agg #[.string f.name, .int .i64 f.kind, .int .i64 f.n, .string f.text], .int .i64 0]) (by first | (simp [results, Tryz.results46, go_sem, z0, z1, z2, z3]; done) | (simp [results, Tryz.results46, go_sem, z0, z1, z2, z3, zl]; done) | simp [results, Tryz.results46, go_sem]) rfl ⟨by first | (rw [hR3.out]; done) | (rw [hR3.out]; rfl), (by repeat (first | with_reducible exact Ext.refl _ | with_reducible exact hE0 | with_reducible exact hE | with_reducible refine Ext.alloc ?_ _ | with_reducible refine Ext.drewN ?_ _ | with_reducible refine Ext.drew ?_ | ((with_reducible refine Ext.setCell ?_ ?side _); (case side => first | exact Nat.le_refl _ | (simp; done) | (simp; omega)))))⟩
  · have dc : (c2 != 0) = true := by simpa using hc
    have hR3 := Lib.hid (show R = (fD, c2) from hR.out.trans (if_pos hc))
    clear hR kE hc
    go_enter Tryz.func46, Tryz.ntmps46
    have hbx0 := (Blk.new w #[.int .i64 op, .string nm, .string tx, .int .i64 n, .slice q args.length cp] 24).alloc (.cells #[.string ⟨#[]⟩, .int .i64 0, .int .i64 0, .string ⟨#[]⟩] 36)
    have hbr0 := Blk.new' (w.alloc (.cells #[.int .i64 op, .string nm, .string tx, .int .i64 n, .slice q args.length cp] 24)) #[.string ⟨#[]⟩, .int .i64 0, .int .i64 0, .string ⟨#[]⟩] 36 (w.heap.size + 1) (by simp)
    have hE00 : Ext w ((w.alloc (.cells #[.int .i64 op, .string nm, .string tx, .int .i64 n, .slice q args.length cp] 24)).alloc (.cells #[.string ⟨#[]⟩, .int .i64 0, .int .i64 0, .string ⟨#[]⟩] 36)) := ((Ext.refl w).alloc _).alloc _
    go_wp2_with fail
    refine (kC.out _ hE00).mono ?_
    rintro e w1 ⟨rfl, hE1⟩
    have hbr := Lib.hid (hbr0.ext hE1)
    have hE : Ext w w1 := hE00.trans hE1
    clear hE1 hbr0 hbx0 hE00 kC
    have z0 : w1.cell? ⟨w.heap.size + 1, 0, none⟩ = some (.string ⟨#[]⟩) := (hbr.out.cell 0).trans rfl
    have z1 : w1.cell? ⟨w.heap.size + 1, 1, none⟩ = some (.int .i64 0) := (hbr.out.cell 1).trans rfl
    have z2 : w1.cell? ⟨w.heap.size + 1, 2, none⟩ = some (.int .i64 0) := (hbr.out.cell 2).trans rfl
    have z3 : w1.cell? ⟨w.heap.size + 1, 3, none⟩ = some (.string ⟨#[]⟩) := (hbr.out.cell 3).trans rfl
    have f0 := hbr.out.fz 0
    have f1 := hbr.out.fz 1
    have f2 := hbr.out.fz 2
    have f3 := hbr.out.fz 3
    have zl : w.heap.size + 1 < w1.heap.size := hbr.out.lt
    go_wp2
    exact bodyPost_ret (v := .tuple #[.agg #[.string ⟨#[]⟩, .int .i64 0, .int .i64 0, .string ⟨#[]⟩], .int .i64 c2]) (by first | (simp [results, Tryz.results46, go_sem, z0, z1, z2, z3]; done) | (simp [results, Tryz.results46, go_sem, z0, z1, z2, z3, zl]; done) | simp [results, Tryz.results46, go_sem]) rfl ⟨by first | (rw [hR3.out]; done) | (rw [hR3.out]; rfl), (by repeat (first | with_reducible exact Ext.refl _ | with_reducible exact hE0 | with_reducible exact hE | with_reducible refine Ext.alloc ?_ _ | with_reducible refine Ext.drewN ?_ _ | with_reducible refine Ext.drew ?_ | ((with_reducible refine Ext.setCell ?_ ?side _); (case side => first | exact Nat.le_refl _ | (simp; done) | (simp; omega)))))⟩
end Go.Proofs.YtnppbeajemhjeaaGreat
