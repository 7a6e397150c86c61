/- Contract of forward's Ack (walk; printed by gen/h76.py). -/
import Derived.Test.YtkggloeaojkhaaaGreatDoorPf
namespace Go.Proofs.YtkggloeaojkhaaaGreatDoor
open Go.RowKit
/-- What Ack does. -/
def ackV (d : QueD) (key : ByteArray) : QueD × Int := if fwIdx key 0 d.items < 0 then (d, 6) else (⟨d.retry, d.known, d.items.take (fwIdx key 0 d.items).toNat ++ d.items.drop ((fwIdx key 0 d.items).toNat + 1)⟩, 0)
def FwAckP (B Q M : Nat) (d : QueD) (key : ByteArray) (w : World) (e : Ending) (w' : World) : Prop := e = .returned (.int .i64 (ackV d key).2) ∧ QueM w' B Q M (ackV d key).1 ∧ Chg (Typ qTs [M] B w) w w'
/-- x[k:]. -/
theorem slice_from {T e : TypeId} {i : TypeInfo} (hT : Tryz.prog.underlying T = some (.slice e)) (hi : Tryz.prog.info? e = some i) (g off n c k : Nat) (hk : k ≤ n) (hn : n ≤ c) : ∃ ad, (k < n → ad = ⟨g, off + k * i.size, none⟩) ∧ ad.block = g ∧ ∀ w : World, (Instr.slice T (.slice (some ⟨g, off, none⟩) n c) (some (.int .i64 k)) none none).run Tryz.prog w = .ok (.slice (some ad) (n - k) (c - k)) w := by
 have h1 : (k : Int) ≤ n := by omega
 by_cases hc : c = k
 · refine ⟨⟨g, off, none⟩, fun h => by omega, rfl, fun w => ?_⟩
   simp [Instr.slice, run_underlying hT, Instr.sliceBounds, Instr.sliceBound, asIntOf, sizeOf, typeInfo, hi, hc]
   intro h3
   omega
 · refine ⟨⟨g, off + k * i.size, none⟩, fun _ => rfl, rfl, fun w => ?_⟩
   simp [Instr.slice, run_underlying hT, Instr.sliceBounds, Instr.sliceBound, asIntOf, sizeOf, typeInfo, hi, hk, hc, Addr.add_lit]
/-- Behind the append and the store. -/
theorem fwAck_row {w w2 w3 : World} {B Q M g off n c k : Nat} {p' : Option Addr} {c' : Nat} {d : QueD} (h : QueX w B Q M (.slice (some ⟨g, off, none⟩) n c) d) (hn : d.items.length = n) (hk : k < n)
 (hg : w.grownBy w2 (some g)) (hown : OwnC w2 B 134 4 (.slice p' (k + (n - (k + 1))) c') (k + (n - (k + 1))) (fwL.flat (d.items.take k) ++ fwL.flat (d.items.drop (k + 1)))) (hE : Ext (w2.setCell ⟨Q, 2, none⟩ (.slice p' (k + (n - (k + 1))) c')) w3) :
 QueX w3 B Q M (.slice p' (k + (n - (k + 1))) c') ⟨d.retry, d.known, d.items.take k ++ d.items.drop (k + 1)⟩ ∧ Chg (Typ qTs [M] B w) w w3 := by
 have hC : Chg (fun k => g = k) w w2 := (Chg.ofGrown hg).mono fun k _ e => (Option.some.inj e).symm
 obtain ⟨hgB, -, cs, hcs⟩ := h.r.blk (k := g) rfl
 have hq2 := h.q.chg hC (fun e => by subst e; exact absurd (blk_ty h.q hcs) (by decide))
 have hm2 : SMap 9 w2 M d.known.length (knownF d.known) := h.m.at (hC.block M h.m.lt fun e => by
  subst e
  exact blk_map hcs h.m.isMap)
 have e1 : (d.items.take k).length = k := by rw [List.length_take]; omega
 have e2 : (d.items.drop (k + 1)).length = n - (k + 1) := by rw [List.length_drop]; omega
 have hr2 : RowR fwL 134 w2 B (.slice p' (k + (n - (k + 1))) c') (d.items.take k ++ d.items.drop (k + 1)) := RowR.app (L := fwL) (by have := h.r.1; omega) (by rw [e1, e2]; exact hown)
 have hS : Chg (fun k => k = Q) w2 (w2.setCell ⟨Q, 2, none⟩ (.slice p' (k + (n - (k + 1))) c')) := Chg.setCell (F := fun k => k = Q) (Chg.refl _ _) (p := ⟨Q, 2, none⟩) (Or.inl rfl) _
 have hX : QueX (w2.setCell ⟨Q, 2, none⟩ (.slice p' (k + (n - (k + 1))) c')) B Q M (.slice p' (k + (n - (k + 1))) c') ⟨d.retry, d.known, d.items.take k ++ d.items.drop (k + 1)⟩ := by
  refine ⟨hq2.set 2 _, hm2.at (hS.block M hm2.lt fun e => ?_), hr2.chg hS fun b hb e => ?_, h.bq, h.bm, h.few, h.re⟩
  · subst e
    exact blk_map hq2 hm2.isMap
  · subst e
    exact hr2.sepB hq2 (by decide) hb
 refine ⟨hX.ext hE, (Typ.step (Typ.step (Chg.ofExt (Ext.refl _)) hC fun i _ e => ?_) hS fun i _ e => ?_).ext hE⟩
 · subst e
   exact Typ.of hcs hgB (by decide)
 · subst e
   exact Typ.of hq2 h.bq (by decide)
set_option maxRecDepth 8000 in
set_option maxHeartbeats 8000000 in
theorem fwAck_any (B Q M : Nat) (d : QueD) (key : ByteArray) (w : World) (h : QueM w B Q M d) (hB : B ≤ w.heap.size) : Calls Tryz.prog 75 #[.pointer (some ⟨Q, 0, none⟩), .string key] w (FwAckP B Q M d key w) := by
 have kF := Lib.hid (fwFind_any B Q M d key w h)
 rcases fwIdx_lt key 0 d.items with h1 | ⟨k, h1, x, hx, -⟩
 · have hend := Lib.hid (fun w' (hE : Ext w w') => show FwAckP B Q M d key w (.returned (.int .i64 6)) w' from by
    have e : ackV d key = (d, 6) := by unfold ackV; rw [h1]; rfl
    unfold FwAckP
    rw [e]
    exact ⟨rfl, h.ext hE, Chg.ofExt hE⟩)
   generalize FwAckP B Q M d key w = PP at *
   rw [h1] at kF
   clear h h1
   go_enter Tryz.func75, Tryz.ntmps75
   go_wp2_with fail
   refine kF.out.mono ?_
   rintro e w1 ⟨rfl, hE⟩
   go_wp2_with fail
   try go_ret
   exact hend.out _ hE
 rw [Nat.zero_add] at h1
 rw [h1] at kF
 have hkl : k < d.items.length := (List.getElem?_eq_some_iff.1 hx).1
 have hack := Lib.hid (show ackV d key = (⟨d.retry, d.known, d.items.take k ++ d.items.drop (k + 1)⟩, 0) from by unfold ackV; rw [h1, if_neg (by omega)]; rfl)
 clear h1 hx
 obtain ⟨qv, h⟩ := h
 have hll := h.r.1
 rcases h.r.lie with ⟨-, hnil⟩ | ⟨g, off, c, hv, hgB, hgl, hcap, hcm, -, -⟩
 · rw [hnil] at hkl; cases hkl
 subst hv
 obtain ⟨i0, hI, hz0, hz1, hz2⟩ := info_partsE infoFwE
 have hsl1 := slice_cut Tryz.underlying125 hI (some ⟨g, off, none⟩) d.items.length k c (by omega)
 obtain ⟨ad, had, hab, hsl2⟩ := slice_from Tryz.underlying125 hI g off d.items.length c (k + 1) (by omega) hcap
 rw [show (((k + 1 : Nat)) : Int) = (k : Int) + 1 by omega] at hsl2
 rw [hz1] at had
 have hnews := Lib.hid (fun (W : World) (hE : Ext w W) => show ∀ j u, (fwL.flat (d.items.drop (k + 1)))[j]? = some u → W.cell? (ad.add j) = some u from by
  intro j u hj
  have hjl : j < (fwL.flat (d.items.drop (k + 1))).length := (List.getElem?_eq_some_iff.1 hj).1
  rw [fwL.flat_len, List.length_drop] at hjl
  have hlt : k + 1 < d.items.length := by
   by_cases hh : k + 1 < d.items.length
   · exact hh
   · rw [show d.items.length - (k + 1) = 0 by omega, Nat.zero_mul] at hjl; omega
  rw [had hlt]
  have hT := (h.r.ext hE).tail (k := k + 1) (by omega)
  obtain ⟨-, -, ⟨r1, -⟩ | ⟨g2, o2, c2, cur, r1, -, r2, -, -, -, r3⟩⟩ := hT
  · cases r1
  · injection r1 with r1
    injection r1 with r1
    injection r1 with r1 r4 _
    subst r1
    have hb' : Blk W g cur 134 := r2
    have e1 : (⟨g, off + (k + 1) * 4, none⟩ : Addr).add j = ⟨g, off + (k + 1) * 4 + j, none⟩ := Addr.add_lit _ _ _
    have r5 : o2 = off + (k + 1) * 4 := r4.symm
    subst r5
    rw [e1, hb'.cell, ← Array.getElem?_toList, ← hj, ← r3, List.getElem?_take_of_lt (by rw [List.length_drop]; exact hjl), List.getElem?_drop])
 have hcut := Lib.hid (fun (W : World) (hE : Ext w W) => show OwnC W B 134 4 (.slice (some ⟨g, off, none⟩) k k) k (fwL.flat (d.items.take k)) from by
  have h7 := ((h.r.ext hE).cut (k := k) (c := k) (by omega) (Nat.le_refl _) (by omega)).2
  rw [show (d.items.take k).length = k by rw [List.length_take]; omega] at h7
  exact h7)
 have hfl := fwL.flat_len (d.items.drop (k + 1))
 rw [List.length_drop] at hfl
 replace hfl := Lib.hid hfl
 have hone := Lib.hid (show ∀ u ∈ fwL.flat (d.items.drop (k + 1)), u.oneCell' = true from by
  intro u hu
  unfold Lay.flat at hu
  obtain ⟨x, -, hx⟩ := List.mem_flatMap.1 hu
  exact fw_one x u hx)
 have hdone := Lib.hid (fun (W w2 w3 : World) (hE : Ext w W) (p' : Option Addr) (c' : Nat) hg hown hE3 => fwAck_row (w := W) (w2 := w2) (w3 := w3) (p' := p') (c' := c') (k := k) (h.ext hE) rfl hkl hg hown hE3)
 have hat := Lib.hid (fun (W w2 : World) (hE : Ext w W) (hg : W.grownBy w2 (some g)) => show w2.frozen? ⟨Q, 2, none⟩ = false ∧ ∃ u, w2.cell? ⟨Q, 2, none⟩ = some u from by
  have h2 := h.ext hE
  have hb := h2.q.chg ((Chg.ofGrown hg).mono fun k _ e => e.symm) (h2.r.sepB h2.q (by decide))
  exact ⟨hb.fz 2, _, (hb.cell 2).trans rfl⟩)
 have y2 : w.cell? ⟨Q, 2, none⟩ = some (.slice (some ⟨g, off, none⟩) d.items.length c) := h.q.cell 2
 have hend := Lib.hid (fun (W w' : World) (hE : Ext w W) (h1 : QueM w' B Q M ⟨d.retry, d.known, d.items.take k ++ d.items.drop (k + 1)⟩) (h2 : Chg (Typ qTs [M] B W) W w') => show FwAckP B Q M d key w (.returned (.int .i64 0)) w' from by
  unfold FwAckP
  rw [hack.out]
  exact ⟨rfl, h1, Typ.trans (Chg.ofExt hE) (by exact h2)⟩)
 have hlQ := h.q.lt
 replace hI := Lib.hid hI
 replace hz0 := Lib.hid hz0
 replace hz1 := Lib.hid hz1
 replace hz2 := Lib.hid hz2
 generalize FwAckP B Q M d key w = PP at *
 clear h hack had hab hgB
 generalize d.items.length = n at *
 have hwr : IntKind.i64.wrap ((k : Int) + 1) = (k : Int) + 1 := by rw [IntKind.wrap_i64] <;> omega
 obtain ⟨P, hP⟩ : ∃ P : Option Addr, P = some ⟨g, off, none⟩ := ⟨_, rfl⟩
 have hob : Value.ownBlock (.slice P k k) = some g := by rw [hP]; rfl
 rw [← hP] at hsl1 hsl2 hcut y2
 replace hob := Lib.hid hob
 clear hP
 go_enter Tryz.func75, Tryz.ntmps75
 go_wp2_with fail
 refine kF.out.mono ?_
 rintro e w1 ⟨rfl, hE1⟩
 replace y2 := hE1.get y2
 have hB1 := Lib.hid (Nat.le_trans hB hE1.size)
 have z2 := hlQ
 clear kF
 go_wp2_with fail
 go_region_law ((refine step_append_cut _ (by rfl) _ _ _ (by rfl) B 134 i0 (.agg #[.string ⟨#[]⟩, .string ⟨#[]⟩, .int .i64 0, .int .i64 0]) 4 48 Tryz.underlying125 hI.out hz0.out hz1.out hz2.out rfl (by omega) (.slice P k k) k (fwL.flat (d.items.take k)) (by rfl) (hcut.out _ xt) ad (n - (k + 1)) (c - (k + 1)) (fwL.flat (d.items.drop (k + 1))) (by rfl) hfl.out (hnews.out _ xt) hone.out (by unfold maxLen; omega) (by omega) (by have := hB1.out; simp; omega) ?_; intro p' c' w5 hown5 hgrow5 _hat5; rw [hob.out] at hgrow5; have hg5 := Lib.hid hgrow5; have ho5 := Lib.hid hown5; obtain ⟨z2, u2, x2⟩ := hat.out w1 w5 hE1 (by first | exact grown_undrew hgrow5 | exact hgrow5); clear hown5 hgrow5 _hat5))
 all_goals
  go_wp2
  try go_ret
  obtain ⟨r1, r2⟩ := hdone.out w1 w5 _ hE1 p' c' (by first | exact grown_undrew hg5.out | exact hg5.out) ho5.out (Ext.refl _)
  exact hend.out _ _ hE1 ⟨_, r1⟩ r2
end Go.Proofs.YtkggloeaojkhaaaGreatDoor
