/- The contract of slices.DeleteFunc in add (walk; printed by gen/h42.py). -/
import Derived.Test.YtangdoidkcelfaaGreatDoorKu
namespace Go.Proofs.YtangdoidkcelfaaGreatDoor
open Go.RowKit
def keepB (now hor : Int) (u : UseV) : Bool := !oldB now hor u
/-- What DeleteFunc leaves. -/
def DelP (B : Nat) (now hor : Int) (v : Value) (l : List UseV) (w : World) (e : Ending) (w' : World) : Prop :=
 ∃ v', e = .returned v' ∧ UsesR 135 w' B v' (l.filter (keepB now hor)) ∧ Chg (fun k => v.ownBlock = some k) w w' ∧ v'.ownBlock = v.ownBlock
theorem bool_decN (a b : Int) : (a == b) = decide (a = b) := by
 by_cases h : a = b
 · rw [decide_eq_true h, h]; exact beq_self_eq_true b
 · rw [decide_eq_false h]; simpa using h
theorem del_cell {cur cur0 : Array Value} {l : List UseV} {j : Nat} (hd : cur.toList.drop (j * 3) = cur0.toList.drop (j * 3)) (ht : cur0.toList.take (l.length * 3) = useFlat l) (hj : j < l.length) (c : Nat) (hc : c < 3) : cur[j * 3 + c]? = (useCells (l.getD j useD))[c]? := by
 have h1 : cur.toList[j * 3 + c]? = (cur.toList.drop (j * 3))[c]? := by rw [List.getElem?_drop]
 have h2 : cur0.toList[j * 3 + c]? = (cur0.toList.drop (j * 3))[c]? := by rw [List.getElem?_drop]
 rw [← Array.getElem?_toList, h1, hd, ← h2, ← useFlat_get l j hj c hc, ← ht, List.getElem?_take_of_lt (by omega)]
theorem run_clear_wide2 {P : Program} (w : World) (t e : TypeId) (z : Value) (ht : P.underlying t = some (.slice e)) (hv : ∀ w, (zeroValue e).run P w = .ok z w) (h1 : ∀ v ∈ z.cells, v.oneCell' = true) (g o n c : Nat) (cur : Array Value) (T : TypeId) (hn : 0 < n)
 (hg : w.heap[g]? = some (.cells cur T (0, 0))) (hfit : o + n * z.cells.size ≤ cur.size) (ty : TypeId) :
 (Builtin.clear_ #[t] ty #[.slice (some ⟨g, o, none⟩) n c]).run P w = .ok (.tuple #[]) (w.setRow g (cur.toList.take o ++ (Builtin.zeroCells z.cells n).toList ++ cur.toList.drop (o + (Builtin.zeroCells z.cells n).toList.length)).toArray) := by
 have hzl := zeroCells_len z.cells n
 have hst := run_storeCells_at P g o T (Builtin.zeroCells z.cells n).toList 0 cur w hg (by rw [hzl]; simpa using hfit) (zeroCells_one _ _ h1)
 obtain ⟨m, rfl⟩ : ∃ m, n = m + 1 := ⟨n - 1, by omega⟩
 simp only [Nat.add_zero] at hst
 simp [Builtin.clear_, run_underlying ht, hv, hst]
/-- DeleteFunc's loop: j uses are looked at, those of acc are kept. -/
def DelI (w : World) (g cap : Nat) (now hor : Int) (l : List UseV) (cur0 : Array Value) (j : Nat) (acc : List UseV) (wr : World) : Prop :=
 j ≤ l.length ∧ acc = (l.take j).filter (keepB now hor) ∧ acc.length < j ∧ Chg (fun k => some g = some k) w wr ∧ ∃ cur : Array Value, Blk wr g cur 135 ∧ cur.size = cap * 3 ∧ cur.toList.take (acc.length * 3) = useFlat acc ∧ cur.toList.drop (j * 3) = cur0.toList.drop (j * 3)
theorem del_keep {w wr w2 : World} {g cap j : Nat} {now hor : Int} {l acc : List UseV} {cur0 : Array Value} {u : UseV} (h : DelI w g cap now hor l cur0 j acc wr) (hE : Ext wr w2) (hj : j < l.length) (hcap : l.length ≤ cap) (hu : l.getD j useD = u) (hb : keepB now hor u = true) :
 DelI w g cap now hor l cur0 (j + 1) (acc ++ [u]) (((w2.setCell ⟨g, acc.length * 3, none⟩ (.string u.key)).setCell ⟨g, acc.length * 3 + 1, none⟩ (.int .i64 u.t)).setCell ⟨g, acc.length * 3 + 2, none⟩ (.int .i64 u.amt)) := by
 obtain ⟨h1, h2, h3, h4, cur, h5, h6, h7, h8⟩ := h
 refine ⟨by omega, ?_, by simp; omega, (((h4.ext hE).setCell (p := ⟨g, _, none⟩) (Or.inl rfl) _).setCell (p := ⟨g, _, none⟩) (Or.inl rfl) _).setCell (p := ⟨g, _, none⟩) (Or.inl rfl) _, _, (((h5.ext hE).set _ _).set _ _).set _ _, by simp [h6], ?_, ?_⟩
 · rw [use_take2 hj, List.filter_append, ← h2, hu]
   congr 1
   rw [List.filter_cons_of_pos hb, List.filter_nil]
 · have e : (acc ++ [u]).length * 3 = acc.length * 3 + 3 := by simp; omega
   rw [e, set3_take _ _ _ _ _ (by omega), h7, useFlat_snoc]
   rfl
 · rw [set3_drop _ _ _ _ _ _ (by omega), show (j + 1) * 3 = j * 3 + 3 by omega, ← List.drop_drop, h8, List.drop_drop]
theorem del_skip {w wr w2 : World} {g cap j : Nat} {now hor : Int} {l acc : List UseV} {cur0 : Array Value} {u : UseV} (h : DelI w g cap now hor l cur0 j acc wr) (hE : Ext wr w2) (hj : j < l.length) (hu : l.getD j useD = u) (hb : keepB now hor u = false) :
 DelI w g cap now hor l cur0 (j + 1) acc w2 := by
 obtain ⟨h1, h2, h3, h4, cur, h5, h6, h7, h8⟩ := h
 refine ⟨by omega, ?_, by omega, h4.ext hE, cur, h5.ext hE, h6, h7, ?_⟩
 · rw [use_take2 hj, List.filter_append, ← h2, hu, List.filter_cons_of_neg (by rw [hb]; exact Bool.false_ne_true), List.filter_nil, List.append_nil]
 · rw [show (j + 1) * 3 = j * 3 + 3 by omega, ← List.drop_drop, h8, List.drop_drop]
/-- The end of the loop: the rest of the row is cleared. -/
theorem del_end {w wr w3 : World} {B g cap : Nat} {now hor : Int} {l acc : List UseV} {cur0 cur : Array Value} {zs : List Value} (h : DelI w g cap now hor l cur0 l.length acc wr) (hl : l.length ≤ 1000000) (hcap : l.length ≤ cap) (hcm : cap ≤ maxLen) (hB : B ≤ g) (hc : Blk wr g cur 135) (hz : zs.length = (l.length - acc.length) * 3)
 (hw : w3 = wr.setRow g (cur.toList.take (acc.length * 3) ++ zs ++ cur.toList.drop (acc.length * 3 + zs.length)).toArray) :
 UsesR 135 w3 B (.slice (some ⟨g, 0, none⟩) acc.length cap) (l.filter (keepB now hor)) ∧ Chg (fun k => some g = some k) w w3 := by
 obtain ⟨-, h2, h3, h4, cur', h5, h6, h7, -⟩ := h
 obtain rfl : cur = cur' := by
  unfold Blk at hc h5
  rw [hc] at h5
  injection h5 with h5
  injection h5
 rw [List.take_length] at h2
 subst hw
 refine ⟨?_, h4.setRow (Or.inl rfl) _⟩
 rw [← h2]
 refine ⟨by omega, by rw [useFlat_len], Or.inr ⟨g, cap, (cur.toList.take (acc.length * 3) ++ zs ++ cur.toList.drop (acc.length * 3 + zs.length)).toArray, rfl, hB, ?_, by omega, hcm, ?_, ?_⟩⟩
 · exact setRow_heap wr g _ _ _ _ hc
 · simp only [List.size_toArray, List.length_append, List.length_take, List.length_drop, Array.length_toList]
   omega
 · rw [List.append_assoc, List.take_append_of_le_length (by simp; omega)]
   rw [List.take_take, Nat.min_self]
   exact h7
set_option maxRecDepth 8000 in
set_option maxHeartbeats 4000000 in
theorem deleteFunc_any (P5 P4 X B : Nat) (now hor : Int) (v : Value) (l : List UseV) (w : World) (hU : UsesR 135 w B v l) (hC : CapM w P5 P4 X now hor) (hn : timeB now = true) (hh : 1 ≤ hor ∧ hor ≤ 10000000) (h5 : v.ownBlock ≠ some P5) (h4 : v.ownBlock ≠ some P4) (hX : v.ownBlock ≠ some X) : Calls Tryz.prog 64 #[v, .func (.func 65) #[] #[.pointer (some ⟨P5, 0, none⟩), .pointer (some ⟨P4, 0, none⟩)]] w (DelP B now hor v l w) := by
 have kI := Lib.hid (index_any P5 P4 X B now hor v l w hU hC hn hh)
 unfold IdxP at kI
 have hll := hU.1
 have hU2 := hU
 obtain ⟨-, hvl, ⟨rfl, hl0⟩ | ⟨g, cap, cur0, rfl, hB, hb0, hcap, hcm, hcs, htk⟩⟩ := hU2
 · obtain rfl := List.length_eq_zero_iff.1 hl0
   have hend := Lib.hid (fun w' (hE : Ext w w') => show DelP B now hor (.slice none 0 0) [] w (.returned (.slice none 0 0)) w' from ⟨_, rfl, UsesR.nil _ _ _, Chg.ofExt hE, rfl⟩)
   clear hC hU hn hh h5 h4 hX
   go_enter Tryz.func64, Tryz.ntmps64
   go_wp2_with fail
   refine kI.out.mono ?_
   rintro e w1 ⟨hE1, ⟨rfl, -⟩ | ⟨k, hk, -⟩⟩
   · go_wp2
     go_ret
     exact hend.out _ hE1
   · exact absurd hk (by simp)
 · have hend1 := Lib.hid (fun w' (hE : Ext w w') (hf : l.filter (fun u => !oldB now hor u) = l) => show DelP B now hor (.slice (some ⟨g, 0, none⟩) l.length cap) l w (.returned (.slice (some ⟨g, 0, none⟩) l.length cap)) w' from ⟨_, rfl, by rw [show l.filter (keepB now hor) = l from hf]; exact hU.ext hE, Chg.ofExt hE, rfl⟩)
   have hend2 := Lib.hid (fun wr w3 acc cur zs (h : DelI w g cap now hor l cur0 l.length acc wr) (hc : Blk wr g cur 135) (hz : zs.length = (l.length - acc.length) * 3) (hw : w3 = wr.setRow g (cur.toList.take (acc.length * 3) ++ zs ++ cur.toList.drop (acc.length * 3 + zs.length)).toArray) => show DelP B now hor (.slice (some ⟨g, 0, none⟩) l.length cap) l w (.returned (.slice (some ⟨g, 0, none⟩) acc.length cap)) w3 from by
    obtain ⟨q1, q2⟩ := del_end h hll hcap hcm hB hc hz hw
    exact ⟨_, rfl, q1, q2, rfl⟩)
   generalize DelP B now hor (.slice (some ⟨g, 0, none⟩) l.length cap) l w = PP at *
   have kA := Lib.hid (fun u w1 (k : Chg (fun k => some g = some k) w w1) w2 (hE : Ext w1 w2) => add1_any P5 P4 X now hor u w2 ((hC.chg k h5 h4 hX).ext hE) hn hh)
   unfold OneQ useAgg at kA
   have hzr := zeroU
   clear hC hU hn hh h5 h4 hX hvl
   go_enter Tryz.func64, Tryz.ntmps64
   go_wp2_with fail
   refine kI.out.mono ?_
   rintro e w1 ⟨hE1, ⟨rfl, hf⟩ | ⟨k, hk, rfl, hf, ho⟩⟩
   · have hf := Lib.hid hf
     clear hend2 kI
     go_wp2
     try go_ret
     exact hend1.out _ hE1 hf.out
   have e0 : ((k : Int) == -1) = false := by rw [bool_decN]; exact decide_eq_false (by omega)
   have e1 : IntKind.i64.wrap ((k : Int) + 1) = ((k + 1 : Nat) : Int) := by rw [IntKind.wrap_i64]; omega
   have hst : Hid (DelI w g cap now hor l cur0 (k + 1) (l.take k) w1) := Lib.hid (by
    refine ⟨by omega, ?_, by simp; omega, Chg.ofExt hE1, cur0, Blk.ext hb0 hE1, hcs, ?_, rfl⟩
    · rw [use_take2 hk, List.filter_append, List.filter_cons_of_neg (by unfold keepB; rw [ho]; exact Bool.false_ne_true), List.filter_nil, List.append_nil]
      exact hf.symm
    · rw [List.length_take, Nat.min_eq_left (by omega)]
      have e2 : useFlat (l.take k) = (useFlat l).take (k * 3) := by
       have q := congrArg useFlat (List.take_append_drop k l)
       rw [useFlat_append] at q
       have q2 : (useFlat (l.take k)).length = k * 3 := by rw [useFlat_len, List.length_take, Nat.min_eq_left (by omega)]
       rw [← q, List.take_left' q2]
      rw [e2, ← htk, List.take_take, Nat.min_eq_left (by omega)])
   have hkl : Hid ((l.take k).length = k) := Lib.hid (by rw [List.length_take]; omega)
   replace htk := Lib.hid htk
   replace hf := Lib.hid hf
   clear hend1 kI ho hb0 hB
   go_wp2_with fail
   go_loopw [5, 6] (fun i j wr => ∃ (m : Nat) (acc : List UseV), i = .int .i64 acc.length ∧ j = .int .i64 m ∧ DelI w g cap now hor l cur0 m acc wr) (fun _ j _ => l.length - (intOf j).toNat)
   case atStart => exact ⟨k + 1, l.take k, by rw [hkl.out], by go_num, hst.out⟩
   case round =>
    obtain ⟨m, acc, rfl, rfl, hD⟩ := hrel
    clear hst hkl e1
    have hml := hD.1
    have hal := hD.2.2.1
    obtain ⟨cur, hbl, hcz⟩ : ∃ cur : Array Value, Blk wr g cur 135 ∧ cur.size = cap * 3 := by
     obtain ⟨-, -, -, -, cur, a1, a2, -⟩ := hD
     exact ⟨cur, a1, a2⟩
    by_cases hlt : m < l.length
    · have hkeep := Lib.hid (fun w2 (hE : Ext wr w2) hb => del_keep hD hE hlt hcap rfl hb)
      have hskip := Lib.hid (fun w2 (hE : Ext wr w2) hb => del_skip hD hE hlt rfl hb)
      obtain ⟨x0, x1, x2⟩ : wr.cell? ⟨g, m * 3, none⟩ = some (.string (l.getD m useD).key) ∧ wr.cell? ⟨g, m * 3 + 1, none⟩ = some (.int .i64 (l.getD m useD).t) ∧ wr.cell? ⟨g, m * 3 + 2, none⟩ = some (.int .i64 (l.getD m useD).amt) := by
       obtain ⟨-, -, -, -, cur', a1, -, -, a4⟩ := hD
       have q := del_cell a4 htk.out hlt
       exact ⟨(a1.cell _).trans (q 0 (by omega)), (a1.cell _).trans (q 1 (by omega)), (a1.cell _).trans (q 2 (by omega))⟩
      replace kA := Lib.hid (kA.out (l.getD m useD) wr hD.2.2.2.1)
      clear hD hend2 htk hcs
      generalize l.getD m useD = u at *
      have hla : Hid ((acc ++ [u]).length = acc.length + 1) := Lib.hid (by simp)
      generalize acc ++ [u] = acc' at *
      have haccl : acc.length < l.length := by omega
      have hs0 : acc.length * 3 < cur.size := by omega
      have hs1 : acc.length * 3 + 1 < cur.size := by omega
      have hs2 : acc.length * 3 + 2 < cur.size := by omega
      go_wp2_with fail
      have hE3 : Ext wr (wr.alloc (.cells #[.string u.key, .int .i64 u.t, .int .i64 u.amt] 135)) := (Ext.refl wr).alloc _
      refine (kA.out _ hE3).mono ?_
      rintro e w2 ⟨rfl, hE2⟩
      have bv := (Blk.new wr #[.string u.key, .int .i64 u.t, .int .i64 u.amt] 135).ext hE2
      replace hE3 := hE3.trans hE2
      have hb2 := hbl.ext hE3
      have y0 : w2.cell? ⟨wr.heap.size, 0, none⟩ = some (.string u.key) := (bv.cell 0).trans rfl
      have y1 : w2.cell? ⟨wr.heap.size, 1, none⟩ = some (.int .i64 u.t) := (bv.cell 1).trans rfl
      have y2 : w2.cell? ⟨wr.heap.size, 2, none⟩ = some (.int .i64 u.amt) := (bv.cell 2).trans rfl
      have c0 : w2.cell? ⟨g, acc.length * 3, none⟩ = some (cur[acc.length * 3]'hs0) := (hb2.cell _).trans (Array.getElem?_eq_getElem hs0)
      have c1 : w2.cell? ⟨g, acc.length * 3 + 1, none⟩ = some (cur[acc.length * 3 + 1]'hs1) := (hb2.cell _).trans (Array.getElem?_eq_getElem hs1)
      have c2 : w2.cell? ⟨g, acc.length * 3 + 2, none⟩ = some (cur[acc.length * 3 + 2]'hs2) := (hb2.cell _).trans (Array.getElem?_eq_getElem hs2)
      have z0 : w2.frozen? ⟨g, acc.length * 3, none⟩ = false := hb2.fz _
      have z1 : w2.frozen? ⟨g, acc.length * 3 + 1, none⟩ = false := hb2.fz _
      have z2 : w2.frozen? ⟨g, acc.length * 3 + 2, none⟩ = false := hb2.fz _
      have lg := hb2.lt
      generalize cur[acc.length * 3]'hs0 = cv0 at *
      generalize cur[acc.length * 3 + 1]'hs1 = cv1 at *
      generalize cur[acc.length * 3 + 2]'hs2 = cv2 at *
      clear kA x0 x1 x2 hE2 bv hb2 hbl hs0 hs1 hs2 hcz
      cases hb : oldB now hor u with
      | true =>
       have hs := Lib.hid (hskip.out w2 hE3 (by unfold keepB; rw [hb]; rfl))
       clear hkeep hskip hb
       go_wp2
       go_roundw
       case rel => exact ⟨m + 1, acc, rfl, by go_num, hs.out⟩
       case measure => simp [intOf]; omega
      | false =>
       have hs := Lib.hid (hkeep.out w2 hE3 (by unfold keepB; rw [hb]; rfl))
       clear hkeep hskip hb
       go_wp2
       go_roundw
       case rel => exact ⟨m + 1, acc', by rw [hla.out]; go_num, by go_num, hs.out⟩
       case measure => simp [intOf]; omega
    · obtain rfl : m = l.length := by omega
      have hzl := zeroCells_len (Value.agg #[.string ⟨#[]⟩, .int .i64 0, .int .i64 0]).cells (l.length - acc.length)
      have hrun := run_clear_wide2 (P := Tryz.prog) wr 87 135 (.agg #[.string ⟨#[]⟩, .int .i64 0, .int .i64 0]) Tryz.underlying87 zeroU (by intro v hv; simp [Value.cells] at hv; rcases hv with rfl | rfl | rfl <;> rfl) g (acc.length * 3) (l.length - acc.length) (cap - acc.length) cur 135 (by omega) hbl (by simp [Value.cells]; omega)
      generalize (Builtin.zeroCells (Value.agg #[.string ⟨#[]⟩, .int .i64 0, .int .i64 0]).cells (l.length - acc.length)).toList = zs at *
      have hE9 := Lib.hid (fun w3 hw3 => hend2.out wr w3 acc cur zs hD hbl (by rw [hzl]; rfl) hw3)
      generalize hw3 : wr.setRow g (cur.toList.take (acc.length * 3) ++ zs ++ cur.toList.drop (acc.length * 3 + zs.length)).toArray = w3 at *
      replace hE9 := Lib.hid (hE9.out w3 rfl)
      have k1 : acc.length ≤ l.length := by omega
      have k2 : acc.length ≤ cap := by omega
      have k4 : ¬ cap = acc.length := by omega
      clear hw3 hD kA hend2 hzl htk hcs
      go_wp2_with fail
      exact hE9.out
end Go.Proofs.YtangdoidkcelfaaGreatDoor
