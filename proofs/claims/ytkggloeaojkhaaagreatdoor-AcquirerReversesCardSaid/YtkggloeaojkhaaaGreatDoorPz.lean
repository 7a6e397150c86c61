/- Contract of slices.Delete that takes the first n of acquirer's entries (walk; printed by gen/h91.py). -/
import Derived.Test.YtkggloeaojkhaaaGreatDoorPy
namespace Go.Proofs.YtkggloeaojkhaaaGreatDoor
open Go.RowKit
section
variable {P : Program}
theorem step_append_run {ops : Array Oper} {o : Oper} {a : Act} {w : World} {K : Act → World → Prop} {Q : Exit → Act → World → Prop} {E : Prop} (hgd : o.guard = none) (d s : Operand) (dT sT : TypeId)
 (ho : o.op = .call { callee := .builtin .append, args := #[d, s], argTypes := #[dT, sT] }) (v u : Value) (hd : a.eval d = v) (hs : a.eval s = u) {v' : Value} {w' : World} (hr : ∀ ty, (Builtin.append_ #[dT, sT] ty #[v, u]).run P w = .ok v' w') (h : K (a.put o.dst v') w') :
 if Region.wanted o (yielded ops a.tmps) = true then Oper.wp P o a w K Q else E := by
 have hw : Region.wanted o (yielded ops a.tmps) = true := by simp [Region.wanted, hgd]
 rw [if_pos hw]
 unfold Oper.wp
 simp [execOp, ho, resolve, invoke, builtin, hd, hs, hr, Result.andThen]
 exact h
theorem zeroCells_lenA (z : Array Value) (n : Nat) : (Builtin.zeroCells z n).toList.length = n * z.size := by simp [Builtin.zeroCells]
theorem zeroCells_oneA (z : Array Value) (n : Nat) (h : ∀ v ∈ z, v.oneCell' = true) : ∀ v ∈ (Builtin.zeroCells z n).toList, v.oneCell' = true := by
 intro v hv
 simp [Builtin.zeroCells] at hv
 obtain ⟨i, hi, rfl⟩ := hv
 have hz : 0 < z.size := by rcases Nat.eq_zero_or_pos z.size with h0 | h0; rw [h0, Nat.mul_zero] at hi; omega; exact h0
 have hm : i % z.size < z.size := Nat.mod_lt _ hz
 rw [getElem!_pos z _ hm]
 exact h _ (Array.getElem_mem hm)
theorem run_clear_at (w : World) (t e : TypeId) (z : Value) (ht : P.underlying t = some (.slice e)) (hv : ∀ w, (zeroValue e).run P w = .ok z w) (h1 : ∀ v ∈ z.cells, v.oneCell' = true) (g o n c : Nat) (cur : Array Value) (T : TypeId) (hn : 0 < n)
 (hg : w.heap[g]? = some (.cells cur T (0, 0))) (hfit : o + n * z.cells.size ≤ cur.size) (ty : TypeId) :
 (Builtin.clear_ #[t] ty #[.slice (some ⟨g, o, none⟩) n c]).run P w = .ok (.tuple #[]) (w.setRow g (cur.toList.take o ++ (Builtin.zeroCells z.cells n).toList ++ cur.toList.drop (o + (Builtin.zeroCells z.cells n).toList.length)).toArray) := by
 have hzl := zeroCells_lenA z.cells n
 have hst := run_storeCells_at P g o T (Builtin.zeroCells z.cells n).toList 0 cur w hg (by rw [hzl]; simpa using hfit) (zeroCells_oneA _ _ h1)
 obtain ⟨m, rfl⟩ : ∃ m, n = m + 1 := ⟨n - 1, by omega⟩
 simp only [Nat.add_zero] at hst
 simp [Builtin.clear_, run_underlying ht, hv, hst]
/-- append in place: the row as it is then. -/
theorem run_append_place (w : World) (t ty e : TypeId) (i : TypeInfo) (ht : P.underlying t = some (.slice e)) (hi : P.info? e = some i) (g off sLen sCap : Nat) (cur : Array Value) (hg : w.heap[g]? = some (.cells cur e (0, 0)))
 (a : Addr) (m c : Nat) (news : List Value) (hl : news.length = m * i.size) (hnews : ∀ j u, news[j]? = some u → w.cell? (a.add j) = some u) (h1 : ∀ u ∈ news, u.oneCell' = true) (hroom : sLen + m ≤ sCap) (hfit : off + sLen * i.size + news.length ≤ cur.size) :
 (Builtin.append_ #[t, t] ty #[.slice (some ⟨g, off, none⟩) sLen sCap, .slice (some a) m c]).run P w = .ok (.slice (some ⟨g, off, none⟩) (sLen + m) sCap) (w.setRow g (cur.toList.take (off + sLen * i.size) ++ news ++ cur.toList.drop (off + sLen * i.size + news.length)).toArray) := by
 have hf := run_firstCells_some (P := P) w i.size m a m c news hl hnews
 have hst := run_storeCells_at P g (off + sLen * i.size) e news 0 cur w hg (by simpa using hfit) h1
 simp only [Nat.add_zero] at hst
 simp [Builtin.append_, run_underlying ht, sizeOf, typeInfo, hi, Builtin.lenOf, hroom, hf, Addr.add_lit, hst]
end
theorem zeroEnt (w : World) : (zeroValue 159).run Tryz.prog w = .ok (.agg #[.int .i64 0, .string ⟨#[]⟩, .string ⟨#[]⟩, .string ⟨#[]⟩, .string ⟨#[]⟩, .string ⟨#[]⟩, .string ⟨#[]⟩, .int .i64 0, .string ⟨#[]⟩, .int .i64 0, .int .i64 0, .bool false, .string ⟨#[]⟩]) w := by kernel_rfl
theorem Chg.setRow {F : Nat → Prop} {w w' : World} (h : Chg F w w') {g : Nat} (hg : F g ∨ w.heap.size ≤ g) (cs : Array Value) : Chg F w (w'.setRow g cs) := by
 refine ⟨h.os, h.tape, h.output, Nat.le_trans h.size (by simp [World.setRow]), fun k hk hf => ?_⟩
 rw [setRow_other w' g k cs (fun e => by rcases hg with hg | hg; exact hf (e ▸ hg); omega)]
 exact h.block k hk hf
def Del0P (B : Nat) (v : Value) (l : List EntD) (n : Nat) (w : World) (e : Ending) (w' : World) : Prop := ∃ v', e = .returned v' ∧ RowR entL 159 w' B v' (l.drop n) ∧ Chg (fun k => v.ownBlock = some k) w w'
set_option maxRecDepth 8000 in
set_option maxHeartbeats 8000000 in
theorem del0_any (B : Nat) (v : Value) (l : List EntD) (n : Nat) (w : World) (hU : RowR entL 159 w B v l) (hn : 0 < n ∧ n ≤ l.length) : Calls Tryz.prog 79 #[v, .int .i64 0, .int .i64 n] w (Del0P B v l n w) := by
 have hU0 := hU
 obtain ⟨hl6, hvl, ⟨rfl, hl0⟩ | ⟨g, off, cap, cur, rfl, hB, hb, hcap, hcm, hcs, htk⟩⟩ := hU
 · omega
 obtain ⟨i0, hI, hz0, hz1, hz2⟩ := info_partsE infoEntE
 obtain ⟨L, hL⟩ : ∃ L, l.length = L := ⟨_, rfl⟩
 have e13 : entL.sz = 13 := rfl
 rw [hL] at hn hl6 hcap htk ⊢
 rw [e13] at hcs htk
 obtain ⟨ad, had, -, hslj⟩ := slice_from Tryz.underlying76 hI g off L cap n hn.2 hcap
 rw [hz1] at had
 -- the cells that move
 have hnl : (entL.flat (l.drop n)).length = (L - n) * 13 := by rw [entL.flat_len, List.length_drop, hL]; rfl
 have hb' : Blk w g cur 159 := hb
 have hmul : n * 13 + (L - n) * 13 = L * 13 := by rw [← Nat.add_mul]; congr 1; omega
 have hcl : L * 13 ≤ cap * 13 := Nat.mul_le_mul_right _ hcap
 have hflat : entL.flat (l.drop n) = ((cur.toList.drop off).take (L * 13)).drop (n * 13) := by
  rw [htk]
  conv => rhs; rw [← List.take_append_drop n l]
  rw [entL.flat_append, List.drop_left' (by rw [entL.flat_len, List.length_take, hL, e13, Nat.min_eq_left hn.2])]
 have hnews : ∀ (W : World), Blk W g cur 159 → ∀ j u, (entL.flat (l.drop n))[j]? = some u → W.cell? (ad.add j) = some u := by
  intro W hW j u hj
  have hjl : j < (L - n) * 13 := by rw [← hnl]; exact (List.getElem?_eq_some_iff.1 hj).1
  have hlt : n < L := by
   by_cases hh : n < L
   · exact hh
   · rw [show L - n = 0 by omega, Nat.zero_mul] at hjl; omega
  rw [had hlt, Addr.add_lit, hW.cell, ← Array.getElem?_toList, ← hj, hflat, List.getElem?_drop, List.getElem?_take_of_lt (by omega), List.getElem?_drop]
  congr 1
  omega
 have hone : ∀ u ∈ entL.flat (l.drop n), u.oneCell' = true := by
  intro u hu
  unfold Lay.flat at hu
  obtain ⟨x, -, hx⟩ := List.mem_flatMap.1 hu
  exact ent_one x u hx
 have hap := fun (W : World) (hW : Blk W g cur 159) ty => run_append_place (P := Tryz.prog) W 76 ty 159 i0 Tryz.underlying76 hI g off 0 cap cur hW ad (L - n) (cap - n) (entL.flat (l.drop n)) (by rw [hz1]; exact hnl) (hnews W hW) hone (by omega) (by rw [hnl]; omega)
 simp only [Nat.zero_mul, Nat.add_zero, Nat.zero_add] at hap
 obtain ⟨cur2, hc2⟩ : ∃ cur2, cur2 = (cur.toList.take off ++ entL.flat (l.drop n) ++ cur.toList.drop (off + (entL.flat (l.drop n)).length)).toArray := ⟨_, rfl⟩
 rw [← hc2] at hap
 have hsz2 : cur2.size = cur.size := by rw [hc2]; simp only [List.size_toArray, List.length_append, List.length_take, List.length_drop, Array.length_toList, hnl]; omega
 have htk2 : (cur2.toList.drop off).take ((L - n) * 13) = entL.flat (l.drop n) := by
  rw [hc2]
  simp only [List.append_assoc]
  rw [List.drop_append_of_le_length (by rw [List.length_take, Array.length_toList]; omega), List.drop_take, Nat.sub_self, List.take_zero, List.nil_append, ← hnl]
  exact List.take_left
 have hclr := fun (W : World) (hW : Blk W g cur2 159) ty => run_clear_at (P := Tryz.prog) W 76 159 (.agg #[.int .i64 0, .string ⟨#[]⟩, .string ⟨#[]⟩, .string ⟨#[]⟩, .string ⟨#[]⟩, .string ⟨#[]⟩, .string ⟨#[]⟩, .int .i64 0, .string ⟨#[]⟩, .int .i64 0, .int .i64 0, .bool false, .string ⟨#[]⟩]) Tryz.underlying76 zeroEnt (by intro v hv; simp [Value.cells] at hv; (rcases hv with hv | hv | hv | hv | hv | hv | hv) <;> (rw [hv]; rfl)) g (off + (L - n) * 13) n (cap - (L - n)) cur2 159 hn.1 hW (by rw [hsz2, show ((.agg #[.int .i64 0, .string ⟨#[]⟩, .string ⟨#[]⟩, .string ⟨#[]⟩, .string ⟨#[]⟩, .string ⟨#[]⟩, .string ⟨#[]⟩, .int .i64 0, .string ⟨#[]⟩, .int .i64 0, .int .i64 0, .bool false, .string ⟨#[]⟩]) : Value).cells.size = 13 from rfl]; omega) ty
 obtain ⟨zs, hzs⟩ : ∃ zs, zs = (Builtin.zeroCells ((.agg #[.int .i64 0, .string ⟨#[]⟩, .string ⟨#[]⟩, .string ⟨#[]⟩, .string ⟨#[]⟩, .string ⟨#[]⟩, .string ⟨#[]⟩, .int .i64 0, .string ⟨#[]⟩, .int .i64 0, .int .i64 0, .bool false, .string ⟨#[]⟩]) : Value).cells n).toList := ⟨_, rfl⟩
 have hzl : zs.length = n * 13 := by rw [hzs]; exact zeroCells_lenA _ n
 rw [← hzs] at hclr
 obtain ⟨cur3, hc3⟩ : ∃ cur3, cur3 = (cur2.toList.take (off + (L - n) * 13) ++ zs ++ cur2.toList.drop (off + (L - n) * 13 + zs.length)).toArray := ⟨_, rfl⟩
 rw [← hc3] at hclr
 have hsz3 : cur3.size = cur.size := by rw [hc3]; simp only [List.size_toArray, List.length_append, List.length_take, List.length_drop, Array.length_toList, hzl]; omega
 have htk3 : (cur3.toList.drop off).take ((L - n) * 13) = entL.flat (l.drop n) := by
  rw [hc3]
  simp only [List.append_assoc]
  have h1 : (cur2.toList.take (off + (L - n) * 13)).drop off = (cur2.toList.drop off).take ((L - n) * 13) := by rw [List.drop_take, Nat.add_sub_cancel_left]
  rw [List.drop_append_of_le_length (by rw [List.length_take, Array.length_toList]; omega), h1, htk2, List.take_append_of_le_length (by rw [hnl]; exact Nat.le_refl _)]
  exact List.take_of_length_le (by rw [hnl]; exact Nat.le_refl _)
 have hend := Lib.hid (fun (wd w2 w3 : World) (hE : Ext w wd) (h2 : w2 = wd.setRow g cur2) (hE2 : Ext w2 w3) => show Blk w2 g cur2 159 ∧ Blk w3 g cur2 159 ∧ ∀ w4, Ext (w3.setRow g cur3) w4 → Del0P B (.slice (some ⟨g, off, none⟩) L cap) l n w (.returned (.slice (some ⟨g, off, none⟩) (L - n) cap)) w4 from by
  subst h2
  have b2 : Blk (wd.setRow g cur2) g cur2 159 := setRow_heap wd g _ _ _ _ (hE.block _ hb'.lt |>.trans hb)
  have b3 := b2.ext hE2
  refine ⟨b2, b3, fun w4 hE4 => ?_⟩
  have b4 : Blk (w3.setRow g cur3) g cur3 159 := setRow_heap w3 g _ _ _ _ b3
  have b5 := b4.ext hE4
  have el : (l.drop n).length = L - n := by rw [List.length_drop, hL]
  refine ⟨_, rfl, ⟨by omega, by rw [entL.flat_len], Or.inr ⟨g, off, cap, cur3, by rw [el], hB, b5, by omega, hcm, by rw [hsz3]; exact hcs, by rw [el]; exact htk3⟩⟩, ?_⟩
  exact (Chg.setRow (F := fun k => some g = some k) ((Chg.setRow (F := fun k => some g = some k) (Chg.ofExt hE) (Or.inl rfl) cur2).ext hE2) (Or.inl rfl) cur3).ext hE4)
 generalize Del0P B (.slice (some ⟨g, off, none⟩) L cap) l n w = PP at *
 have hap' := Lib.hid hap
 have hclr' := Lib.hid hclr
 have hbb := Lib.hid hb'
 -- the slices
 obtain ⟨PA, hPA⟩ : ∃ PA : Option Addr, PA = some ⟨g, off, none⟩ := ⟨_, rfl⟩
 have hs1 : ∀ W : World, (Instr.slice 76 (.slice PA L cap) (some (.int .i64 0)) (some (.int .i64 n)) (some (.int .i64 L))).run Tryz.prog W = .ok (.slice PA n L) W := by
  intro W
  have a1 : (L : Int) ≤ cap := by omega
  have a2 : (n : Int) ≤ L := by omega
  rw [hPA]
  simp [Instr.slice, run_underlying Tryz.underlying76, Instr.sliceBounds, Instr.sliceBound, asIntOf, sizeOf, typeInfo, hI, hcap, hn.2, Addr.add_lit]
 have hs2 : ∀ W : World, (Instr.slice 76 (.slice PA L cap) none (some (.int .i64 0)) none).run Tryz.prog W = .ok (.slice PA 0 cap) W := by
  intro W
  rw [hPA]
  simp [Instr.slice, run_underlying Tryz.underlying76, Instr.sliceBounds, Instr.sliceBound, asIntOf, sizeOf, typeInfo, hI, Addr.add_lit]
 have hs3 : ∀ W : World, (Instr.slice 76 (.slice PA (L - n) cap) (some (.int .i64 ((L - n : Nat) : Int))) (some (.int .i64 L)) none).run Tryz.prog W = .ok (.slice (some ⟨g, off + (L - n) * 13, none⟩) n (cap - (L - n))) W := by
  intro W
  rw [hPA]
  have a1 : L ≤ cap := hcap
  have a2 : L - n ≤ L := by omega
  have a3 : ¬ cap = L - n := by omega
  have a4 : L - (L - n) = n := by omega
  simp [Instr.slice, run_underlying Tryz.underlying76, Instr.sliceBounds, Instr.sliceBound, asIntOf, sizeOf, typeInfo, hI, hz1, a1, a3, a4, Addr.add_lit]
 rw [← hPA] at hslj hap' ⊢
 simp only [← hPA] at hend
 have hq : ((0 : Int) == (n : Int)) = false := by simp; omega
 clear hap hclr hb' hb htk hcs hU0 hnews hone hflat hmul hcl had hI hz0 hz1 hz2 htk2 htk3 hsz2 hsz3 hc2 hc3 hzl hzs hvl hl6 hPA hL e13 hnl
 go_enter Tryz.func79, Tryz.ntmps79
 go_wp2_with fail
 obtain ⟨w2, hw2⟩ : ∃ w2 : World, w.drew.setRow g cur2 = w2 := ⟨_, rfl⟩
 have hbd := Lib.hid (Blk.ext hbb.out (Ext.refl w).drew)
 go_region_law (refine step_append_run rfl (.tmp 22) (.tmp 25) 76 76 rfl (.slice PA 0 cap) (.slice (some ad) (L - n) (cap - n)) (by simp [Act.eval, Act.put]) (by simp [Act.eval, Act.put]) (fun ty => hw2 ▸ hap'.out w.drew hbd.out ty) ?_)
 all_goals replace hend := Lib.hid (hend.out w.drew w2 w2 (Ext.refl w).drew hw2.symm (Ext.refl w2))
 all_goals have hcl2 := fun ty => hclr'.out w2 hend.out.1 ty
 all_goals replace hend := Lib.hid (hend.out.2.2 _ (Ext.refl _))
 all_goals generalize w2.setRow g cur3 = w3 at *
 all_goals go_wp2_with fail
 all_goals exact hend.out
end Go.Proofs.YtkggloeaojkhaaaGreatDoor
