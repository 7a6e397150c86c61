/- What Decode of messages returns: plain functions and facts. Contract of the reference's Decode of messages (walk). Contract of bitmap.List with the ownership of its result (walk). Contract of message.Decode (walk). -/
import Derived.Test.YtkggloeaojkhaaaGreatDoorQj
import Derived.Deep.RegionLaw
import Derived.Deep.AppendLies
import Derived.Test.YtkggloeaojkhaaaGreatDoorQi
import Derived.StillTailTactics
namespace Go.Proofs.YtkggloeaojkhaaaGreatDoor
open Go.RowKit
def bmT (s : ByteArray) : List UInt8 := s.data.toList.drop 4
def rsT (s : ByteArray) : ByteArray := ⟨((bmT s).drop (bmN (bmT s))).toArray⟩
def dR (s : ByteArray) : Int × List El × ByteArray := decEs (blist (bmA (bmT s)) (bmB (bmT s)) 129) [] (rsT s)
def tyT (s : ByteArray) : Int := numL (s.data.toList.take 4)
def decW (s : ByteArray) : Int × Int × List El :=
 if s.size < 4 then (1, 0, []) else if (s.data.toList.take 4).all digB = false then (2, 0, []) else if bmE (bmT s) ≠ 0 then (bmE (bmT s), 0, []) else
 if (dR s).1 ≠ 0 then ((dR s).1, 0, []) else if mchk (tyT s) (dR s).2.1 ≠ 0 then (mchk (tyT s) (dR s).2.1, 0, []) else if (dR s).2.2.size ≠ 0 then (3, 0, []) else (0, tyT s, (dR s).2.1)
theorem decW_1 {s : ByteArray} (h : s.size < 4) : decW s = (1, 0, []) := by unfold decW; rw [if_pos h]
theorem decW_2 {s : ByteArray} (h : ¬ s.size < 4) (h2 : (s.data.toList.take 4).all digB = false) : decW s = (2, 0, []) := by unfold decW; rw [if_neg h, if_pos h2]
theorem decW_3 {s : ByteArray} (h : ¬ s.size < 4) (h2 : (s.data.toList.take 4).all digB = true) (h3 : bmE (bmT s) ≠ 0) : decW s = (bmE (bmT s), 0, []) := by unfold decW; rw [if_neg h, if_neg (by rw [h2]; decide), if_pos h3]
theorem decW_4 {s : ByteArray} (h : ¬ s.size < 4) (h2 : (s.data.toList.take 4).all digB = true) (h3 : bmE (bmT s) = 0) : decW s = if (dR s).1 ≠ 0 then ((dR s).1, 0, []) else if mchk (tyT s) (dR s).2.1 ≠ 0 then (mchk (tyT s) (dR s).2.1, 0, []) else if (dR s).2.2.size ≠ 0 then (3, 0, []) else (0, tyT s, (dR s).2.1) := by
 unfold decW; rw [if_neg h, if_neg (by rw [h2]; decide), if_neg (by rw [h3]; decide)]
theorem decEs_bad (n : Int) (l : List Int) (acc : List El) (r : ByteArray) (h : decC n r ≠ 0) : (decEs (n :: l) acc r).1 = decC n r := by rw [decEs, if_pos h]
theorem decEs_good (n : Int) (l : List Int) (acc : List El) (r : ByteArray) (h : decC n r = 0) : decEs (n :: l) acc r = decEs l (acc ++ [(n, decV n r)]) (decR n r) := by rw [decEs, if_neg (by rw [h]; decide)]
theorem drop_at (l : List Int) (k : Nat) (hk : k < l.length) : l.drop k = l.getD k 0 :: l.drop (k + 1) := by
 rw [List.drop_eq_getElem_cons hk]; simp [List.getElem?_eq_getElem hk]
theorem decR_size (n : Int) (s : ByteArray) : (decR n s).size ≤ s.size := by
 by_cases h : decC n s = 0
 · obtain ⟨k, _, _, _, _, _, hr⟩ := dec_goodC h
   rw [← len_list, hr, List.length_drop, len_list]; omega
 · rw [(dec_badC h).2]; exact Nat.zero_le _
theorem decV_size (n : Int) (s : ByteArray) : (decV n s).size ≤ 300 := by
 by_cases h : decC n s = 0
 · obtain ⟨k, _, hk, hz, hr, hv, _⟩ := dec_goodC h
   have := (only_enc k hk s (decV n s) hz hr hv).1
   have h1 := (chk_zero k _ this).1
   have hb := (row_bd k hk).1.2
   omega
 · rw [(dec_badC h).1]; decide
/-- v is a slice of elements of a row that was made behind w0. -/
def OwnEls (w0 w : World) (v : Value) (es : List El) : Prop := ∃ B, w0.heap.size ≤ B ∧ w.ownsRow B 97 2 v es.length (elCells es)
theorem OwnEls.nil (w0 w : World) : OwnEls w0 w (.slice none 0 0) [] := ⟨w0.heap.size, Nat.le_refl _, by simp [elCells], Or.inl ⟨rfl, rfl⟩⟩
theorem OwnEls.elems {w0 w : World} {v : Value} {es : List El} (h : OwnEls w0 w v es) : Elems w v es := by
 obtain ⟨B, -, h⟩ := h
 exact elems_of_owns h
/-- What the decoders of messages return. -/
def DecMPost (s : ByteArray) (w : World) (e : Ending) (w' : World) : Prop := ∃ v, e = .returned (.tuple #[msgAgg (decW s).2.1 v, .int .i64 (decW s).1]) ∧ OwnEls w w' v (decW s).2.2 ∧ Ext w w'
theorem elems_nil (w : World) : Elems w (.slice none 0 0) [] := ⟨none, 0, rfl, fun h => by simp at h⟩
theorem ExtBut.cell {r : Nat} {a b : World} (h : ExtBut r a b) {p : Addr} {v : Value} (hc : a.cell? p = some v) (hp : p.block ≠ r) : b.cell? p = some v := by
 have hb := h.block p.block (cell_lt hc) hp
 unfold World.cell? at hc ⊢
 rw [hb]; exact hc
theorem ExtBut.grown {r : Nat} {a b c : World} {row : Option Nat} (h : ExtBut r a b) (hg : b.grownBy c row) (hr : ∀ k, row = some k → a.heap.size ≤ k) : ExtBut r a c :=
 ⟨hg.os.trans h.os, hg.tape.trans h.tape, hg.output.trans h.output, Nat.le_trans h.size hg.size, fun k hk hkr => (hg.block k (Nat.lt_of_lt_of_le hk h.size) (fun e => by have := hr k e.symm; omega)).trans (h.block k hk hkr)⟩
end Go.Proofs.YtkggloeaojkhaaaGreatDoor
namespace Go.Proofs.YtkggloeaojkhaaaGreatDoor
open Go.RowKit
theorem Wd_bmA (l : List UInt8) : Wd (bmA l) := by unfold bmA; split; exact Wd_clr _; unfold Wd; decide
theorem Wd_bmB (l : List UInt8) : Wd (bmB l) := by
 by_cases h : bmE l = 0
 · exact (bm_back l h).2.1
 · unfold bmB; rw [if_neg (fun k => h k.1)]; unfold Wd; decide
theorem bmN_le (l : List UInt8) : bmN l ≤ 32 := by unfold bmN; split; split; all_goals omega
theorem rest_eq (s : ByteArray) : s.extract (4 + bmN (bmT s)) s.size = rsT s := by
 apply Go.WideShapes.bytes_inj
 rw [drop_list]
 unfold rsT bmT
 show _ = List.drop _ (List.drop 4 _)
 rw [List.drop_drop]
/-- The elements that the loop has read. -/
structure Got (s : ByteArray) (L : List Int) (k : Nat) (acc : List El) (r : ByteArray) : Prop where
 len : acc.length = k
 small : ∀ j, j < acc.length → (acc.getD j elD).2.size ≤ 300
 rest : r.size ≤ s.size
 run : dR s = decEs (L.drop k) acc r
theorem Got.zero (s : ByteArray) : Got s (blist (bmA (bmT s)) (bmB (bmT s)) 129) 0 [] (rsT s) :=
 ⟨rfl, fun j hj => by simp at hj, by
  rw [← rest_eq, ByteArray.size_extract]; omega, rfl⟩
theorem Got.bad {s : ByteArray} {L : List Int} {k : Nat} {acc : List El} {r : ByteArray} (h : Got s L k acc r) (hk : k < L.length) (hc : decC (L.getD k 0) r ≠ 0) : (dR s).1 = decC (L.getD k 0) r := by
 rw [h.run, drop_at L k hk, decEs_bad _ _ _ _ hc]
theorem Got.next {s : ByteArray} {L : List Int} {k : Nat} {acc : List El} {r : ByteArray} (h : Got s L k acc r) (hk : k < L.length) (hc : decC (L.getD k 0) r = 0) : Got s L (k + 1) (acc ++ [(L.getD k 0, decV (L.getD k 0) r)]) (decR (L.getD k 0) r) := by
 refine ⟨by rw [List.length_append, h.len]; rfl, fun j hj => ?_, Nat.le_trans (decR_size _ _) h.rest, ?_⟩
 · by_cases e : j < acc.length
   · have := h.small j e
     simp only [List.getD_eq_getElem?_getD] at this ⊢
     rw [List.getElem?_append_left e]; exact this
   · have e' : j = acc.length := by rw [List.length_append] at hj; simp at hj; omega
     simp only [List.getD_eq_getElem?_getD]
     rw [List.getElem?_append_right (by omega), e']
     simp
     exact decV_size _ _
 · rw [h.run, drop_at L k hk, decEs_good _ _ _ _ hc]
theorem Got.done {s : ByteArray} {L : List Int} {acc : List El} {r : ByteArray} (h : Got s L L.length acc r) : dR s = (0, acc, r) := by
 rw [h.run, List.drop_length]; rfl
theorem Got.smallV {s : ByteArray} {L : List Int} {k : Nat} {acc : List El} {r : ByteArray} (h : Got s L k acc r) : SmallV acc := fun j hj => by have := h.small j hj; omega
theorem two_one (m : Int) (s : ByteArray) : ∀ u ∈ [Value.int .i64 m, Value.string s], u.oneCell' = true := by
 intro u hu
 rcases List.mem_cons.1 hu with rfl | hu
 · rfl
 · rw [List.mem_singleton.1 hu]; rfl
theorem Blk.grown {w w' : World} {B : Nat} {cs : Array Value} {T : TypeId} {row : Option Nat} (h : Blk w B cs T) (hg : w.grownBy w' row) (hne : some B ≠ row) : Blk w' B cs T := by
 have := h.lt; unfold Blk at *; rw [hg.block _ this hne, h]
theorem Blk.but {w w' : World} {B r : Nat} {cs : Array Value} {T : TypeId} (h : Blk w B cs T) (k : ExtBut r w w') (hne : B ≠ r) : Blk w' B cs T := by
 have := h.lt; unfold Blk at *; rw [k.block _ this hne, h]
end Go.Proofs.YtkggloeaojkhaaaGreatDoor
namespace Go.Proofs.YtkggloeaojkhaaaGreatDoor
open Go.RowKit
def LOwn (zs : List Int) (w : World) (e : Ending) (w' : World) : Prop := ∃ v, e = .returned v ∧ w'.ownsRow w.heap.size 3 1 v zs.length (zs.map (Value.int .i64)) ∧ Ext w w'
set_option maxRecDepth 4000 in
set_option maxHeartbeats 1000000 in
theorem list_own (a b : Nat) (w : World) (ha : Wd a) (hb : Wd b) :
 Calls Tryz.prog 66 #[.agg #[.int .u64 a, .int .u64 b]] w (LOwn (blist a b 129) w) := by
 obtain ⟨i0, hi, hz0, hz1, hz2⟩ := info_parts infoInt
 have hI := Lib.hid hi
 have hZ0 := Lib.hid hz0
 have hZ1 := Lib.hid hz1
 have hZ2 := Lib.hid hz2
 clear hi hz0 hz1 hz2
 go_enter Tryz.func66, Tryz.ntmps66
 go_wp2_with fail
 refine (count_any a b _ ha hb).mono ?_
 rintro e w1 ⟨c, hc, rfl, hE⟩
 have hs1 := hE.size
 simp only [World.size_alloc] at hs1
 go_wp2_with (at_make; refine wpList_make_own _ rfl _ _ 98 rfl (w.heap.size + 1) 3 i0 (.int .i64 0) 1 Tryz.underlying98 hI.out hZ0.out hZ1.out _ _ _ c rfl rfl rfl ?_ ?_ ?_ ?_)
 · rw [hZ2.out]; omega
 · unfold maxLen; omega
 · omega
 intro w2 hown hgrow
 have hB : Below (w.heap.size + 1) (w.alloc (.cells #[.int .u64 a, .int .u64 b] 141)) w2 := Below.grown (Below.mono hE (by simp)) hgrow (by omega) (fun k hk => by cases hk)
 clear hgrow hE
 go_wp2
 go_loopw [3, 4] (fun v i wr => ∃ n : Nat, 2 ≤ n ∧ n ≤ 129 ∧ i = .int .i64 n ∧ wr.ownsRow (w.heap.size + 1) 3 1 v (blist a b n).length ((blist a b n).map (Value.int .i64)) ∧ Below (w.heap.size + 1) (w.alloc (.cells #[.int .u64 a, .int .u64 b] 141)) wr) (fun _ i _ => 129 - (intOf i).toNat)
 case atStart => exact ⟨2, by omega, by omega, rfl, hown, hB⟩
 case round =>
  obtain ⟨n, hn1, hn2, rfl, hownr, hBr⟩ := hrel
  have hbl : Blk wr w.heap.size #[.int .u64 a, .int .u64 b] 141 := by unfold Blk; rw [hBr.block _ (by omega)]; exact Blk.new w _ _
  have c0 : wr.cell? ⟨w.heap.size, 0, none⟩ = some (.int .u64 a) := hbl.cell 0
  have c1 : wr.cell? ⟨w.heap.size, 1, none⟩ = some (.int .u64 b) := hbl.cell 1
  clear hown hB hbl
  by_cases hlt : n ≤ 128
  · by_cases h64 : n ≤ 64
    · by_cases ht : a.testBit (64 - n) = true
      · have hbm : bmem a b n = true := by unfold bmem; rw [if_pos h64]; exact ht
        have hS := Lib.hid (blist_succ a b n hn1)
        have hand := bits_and a (pw (64 - n)) ha (Wd_pw _ (by omega))
        have hne : (((a &&& pw (64 - n) : Nat) : Int) != 0) = true := int_ne0_true ((and_pw_ne _ _).2 ht)
        have hM := Lib.hid hbm
        clear hbm ht
        go_wp2_with (first | (go_at_call 112; refine (place_lo n _ (by omega) (by omega)).mono ?_; rintro e w3 ⟨rfl, k1, rfl⟩; generalize hw0 : wr.drewN k1 = w0; obtain ⟨hz, hE0⟩ := draw_eq hw0; have hB0 := hBr.trans (Below.mono hE0 (by have := hBr.size; simp at this; omega)); have c0 : w0.cell? ⟨w.heap.size, 0, none⟩ = some (.int .u64 a) := hE0.get c0; have hown0 : w0.ownsRow (w.heap.size + 1) 3 1 u3 (blist a b n).length ((blist a b n).map (Value.int .i64)) := (by rw [← hw0]; exact hownr); clear hw0 hz) | (at_builtin; refine wpList_append_own _ rfl _ _ 98 rfl (w.heap.size + 1) 3 i0 (.int .i64 0) 1 8 Tryz.underlying98 hI.out hZ0.out hZ1.out hZ2.out rfl (by decide) _ _ _ rfl (hown0.alloc _) ⟨w0.heap.size, 0, none⟩ 1 1 [.int .i64 n] rfl rfl ?_ ?_ ?_ ?_ ?_ ?_))
        · exact cell_one_new _ _ _
        · intro u hu; rw [List.mem_singleton.1 hu]; rfl
        · unfold maxLen; have := blist_len a b n; omega
        · have := blist_len a b n; omega
        · have := hB0.size; simp at this ⊢; omega
        intro v' w4 hown4 hgrow4 _
        go_wp2
        go_roundw
        case rel => exact ⟨n + 1, by omega, by omega, by go_num, by rw [hS.out, hM.out]; simpa using hown4, Below.grown (Below.alloc hB0 (by have := hB0.size; simp at this; omega) _) hgrow4 (by have := hB0.size; simp at this ⊢; omega) (fun k hk => (hown0.lt k hk).1)⟩
        case measure => simp [intOf]; omega
      · have hbm : bmem a b n = false := by unfold bmem; rw [if_pos h64]; exact Bool.eq_false_iff.2 ht
        have hS := Lib.hid (blist_succ a b n hn1)
        have hand := bits_and a (pw (64 - n)) ha (Wd_pw _ (by omega))
        have hne : (((a &&& pw (64 - n) : Nat) : Int) != 0) = false := int_ne0_false (fun h => ht ((and_pw_ne _ _).1 h))
        have hM := Lib.hid hbm
        clear hbm ht
        go_wp2_with (first | (go_at_call 112; refine (place_lo n _ (by omega) (by omega)).mono ?_; rintro e w3 ⟨rfl, k1, rfl⟩; generalize hw0 : wr.drewN k1 = w0; obtain ⟨hz, hE0⟩ := draw_eq hw0; have hB0 := hBr.trans (Below.mono hE0 (by have := hBr.size; simp at this; omega)); have c0 : w0.cell? ⟨w.heap.size, 0, none⟩ = some (.int .u64 a) := hE0.get c0; have hown0 : w0.ownsRow (w.heap.size + 1) 3 1 u3 (blist a b n).length ((blist a b n).map (Value.int .i64)) := (by rw [← hw0]; exact hownr); clear hw0 hz))
        go_roundw
        case rel => exact ⟨n + 1, by omega, by omega, by go_num, by rw [hS.out, hM.out]; simpa using hown0, hB0⟩
        case measure => simp [intOf]; omega
    · by_cases ht : b.testBit (128 - n) = true
      · have hbm : bmem a b n = true := by unfold bmem; rw [if_neg h64]; exact ht
        have hS := Lib.hid (blist_succ a b n hn1)
        have hand := bits_and b (pw (128 - n)) hb (Wd_pw _ (by omega))
        have hne : (((b &&& pw (128 - n) : Nat) : Int) != 0) = true := int_ne0_true ((and_pw_ne _ _).2 ht)
        have hM := Lib.hid hbm
        clear hbm ht
        go_wp2_with (first | (go_at_call 112; refine (place_hi n _ (by omega) (by omega)).mono ?_; rintro e w3 ⟨rfl, k1, rfl⟩; generalize hw0 : wr.drewN k1 = w0; obtain ⟨hz, hE0⟩ := draw_eq hw0; have hB0 := hBr.trans (Below.mono hE0 (by have := hBr.size; simp at this; omega)); have c0 : w0.cell? ⟨w.heap.size, 1, none⟩ = some (.int .u64 b) := hE0.get c1; have hown0 : w0.ownsRow (w.heap.size + 1) 3 1 u3 (blist a b n).length ((blist a b n).map (Value.int .i64)) := (by rw [← hw0]; exact hownr); clear hw0 hz) | (at_builtin; refine wpList_append_own _ rfl _ _ 98 rfl (w.heap.size + 1) 3 i0 (.int .i64 0) 1 8 Tryz.underlying98 hI.out hZ0.out hZ1.out hZ2.out rfl (by decide) _ _ _ rfl (hown0.alloc _) ⟨w0.heap.size, 0, none⟩ 1 1 [.int .i64 n] rfl rfl ?_ ?_ ?_ ?_ ?_ ?_))
        · exact cell_one_new _ _ _
        · intro u hu; rw [List.mem_singleton.1 hu]; rfl
        · unfold maxLen; have := blist_len a b n; omega
        · have := blist_len a b n; omega
        · have := hB0.size; simp at this ⊢; omega
        intro v' w4 hown4 hgrow4 _
        go_wp2
        go_roundw
        case rel => exact ⟨n + 1, by omega, by omega, by go_num, by rw [hS.out, hM.out]; simpa using hown4, Below.grown (Below.alloc hB0 (by have := hB0.size; simp at this; omega) _) hgrow4 (by have := hB0.size; simp at this ⊢; omega) (fun k hk => (hown0.lt k hk).1)⟩
        case measure => simp [intOf]; omega
      · have hbm : bmem a b n = false := by unfold bmem; rw [if_neg h64]; exact Bool.eq_false_iff.2 ht
        have hS := Lib.hid (blist_succ a b n hn1)
        have hand := bits_and b (pw (128 - n)) hb (Wd_pw _ (by omega))
        have hne : (((b &&& pw (128 - n) : Nat) : Int) != 0) = false := int_ne0_false (fun h => ht ((and_pw_ne _ _).1 h))
        have hM := Lib.hid hbm
        clear hbm ht
        go_wp2_with (first | (go_at_call 112; refine (place_hi n _ (by omega) (by omega)).mono ?_; rintro e w3 ⟨rfl, k1, rfl⟩; generalize hw0 : wr.drewN k1 = w0; obtain ⟨hz, hE0⟩ := draw_eq hw0; have hB0 := hBr.trans (Below.mono hE0 (by have := hBr.size; simp at this; omega)); have c0 : w0.cell? ⟨w.heap.size, 1, none⟩ = some (.int .u64 b) := hE0.get c1; have hown0 : w0.ownsRow (w.heap.size + 1) 3 1 u3 (blist a b n).length ((blist a b n).map (Value.int .i64)) := (by rw [← hw0]; exact hownr); clear hw0 hz))
        go_roundw
        case rel => exact ⟨n + 1, by omega, by omega, by go_num, by rw [hS.out, hM.out]; simpa using hown0, hB0⟩
        case measure => simp [intOf]; omega
  · obtain rfl : n = 129 := by omega
    go_wp2
    go_ret
    exact ⟨_, rfl, own_less hownr (by omega), ((Ext.refl w).alloc _).trans (Below.mono hBr (by simp))⟩
end Go.Proofs.YtkggloeaojkhaaaGreatDoor
namespace Go.Proofs.YtkggloeaojkhaaaGreatDoor
open Go.RowKit
theorem rest_eq2 (s : ByteArray) : (s.extract 4 s.size).extract (bmN (bmT s)) (s.size - 4) = rsT s := by
 apply Go.WideShapes.bytes_inj
 have e : (s.extract 4 s.size).size = s.size - 4 := by rw [ByteArray.size_extract]; omega
 rw [← e, drop_list, drop_list]
 rfl
set_option maxRecDepth 8000 in
set_option maxHeartbeats 4000000 in
theorem mdecode_any (s : ByteArray) (w : World) (g : Gl w) (hs : s.size ≤ 1000000) :
 Calls Tryz.prog 29 #[.string s] w (DecMPost s w) := by
 by_cases h4 : s.size < 4
 · have hD := Lib.hid (decW_1 h4)
   go_enter Tryz.func29, Tryz.ntmps29
   go_wp2
   refine bodyPost_ret (v := .tuple #[msgAgg 0 (.slice none 0 0), .int .i64 1]) ?_ rfl ⟨.slice none 0 0, by rw [hD.out], by rw [hD.out]; exact OwnEls.nil _ _, xt⟩
   simp [results, Tryz.results29, go_sem, msgAgg]
 · have hx4 : (s.extract 0 4).size ≤ 15 := by rw [ByteArray.size_extract]; omega
   go_enter Tryz.func29, Tryz.ntmps29
   go_wp2_with fail
   refine (areDigits_any (s.extract 0 4) _ (by omega)).mono ?_
   rintro e w1 ⟨rfl, rfl⟩
   have hall : allS digB (s.extract 0 4) = (s.data.toList.take 4).all digB := by unfold allS; rw [extract_list, List.drop_zero]
   have hsz4 : decide (0 < (s.extract 0 4).size) = true := by rw [ByteArray.size_extract]; simp; omega
   rw [hall, hsz4, Bool.and_true]
   clear hall hsz4
   cases hdig : (s.data.toList.take 4).all digB with
   | false =>
    have hD := Lib.hid (decW_2 h4 hdig)
    clear hdig
    go_wp2
    refine bodyPost_ret (v := .tuple #[msgAgg 0 (.slice none 0 0), .int .i64 2]) ?_ rfl ⟨.slice none 0 0, by rw [hD.out], by rw [hD.out]; exact OwnEls.nil _ _, xt⟩
    simp [results, Tryz.results29, go_sem, msgAgg]
   | true =>
    have hDig := Lib.hid hdig
    have hbx := Lib.hid (bdec_any (s.extract 4 s.size))
    rw [drop_list] at hbx
    have hx5 : (s.extract 4 s.size).size ≤ 1000000 := by rw [ByteArray.size_extract]; omega
    clear hdig
    go_wp2
    go_loopw [26] (fun i wr => ∃ k : Nat, k ≤ 4 ∧ i = .int .i64 k ∧ Blk wr w.heap.size #[.int .i64 0, .slice none 0 0] 29 ∧ Blk wr (w.heap.size + 1) #[.int .i64 (numL (s.data.toList.take k)), .slice none 0 0] 29 ∧ Ext w wr) (fun i _ => 4 - (intOf i).toNat)
    case atStart => exact ⟨0, by omega, rfl, (Blk.new _ _ _).alloc _, Blk.new' _ _ _ _ (by simp), xt⟩
    case round =>
     obtain ⟨k, hk, rfl, hR, hM, hE0⟩ := hrel
     by_cases hlt : k < 4
     · have hks : k < s.size := by omega
       have hda : (s.data.toList.take k).all digB = true := by
        have := hDig.out
        rw [← List.take_append_drop k (s.data.toList.take 4), List.all_append, Bool.and_eq_true, List.take_take, Nat.min_eq_left (by omega)] at this
        exact this.1
       have hb := numL_bd15 _ hda (by rw [List.length_take]; omega)
       have hb4 := numL_bd _ hda
       have hb5 : numL (s.data.toList.take k) ≤ 10000 := by
        have : (10 : Int) ^ (s.data.toList.take k).length ≤ 10 ^ 4 := by
         have h := Nat.pow_le_pow_right (show 0 < 10 by decide) (show (s.data.toList.take k).length ≤ 4 by rw [List.length_take]; omega)
         exact_mod_cast h
        omega
       have hdk : digB s[k] = true := by
        have := hDig.out
        rw [List.all_eq_true] at this
        refine this s[k] ?_
        have e : (s.data.toList.take 4)[k]? = some s[k] := by rw [List.getElem?_take, if_pos hlt, List.getElem?_eq_getElem (by rw [len_list]; omega)]; rfl
        exact List.mem_of_getElem? e
       have hc1 : 48 ≤ s[k].toNat ∧ s[k].toNat ≤ 57 := by unfold digB at hdk; simpa using hdk
       have hsn := Lib.hid ((congrArg numL (take_snoc s k hks)).trans (numL_snoc _ _))
       have hx0 := hb.1
       clear hda hb hb4 hdk
       generalize numL (s.data.toList.take k) = x at *
       have w1e : IntKind.i64.wrap (10 * x) = 10 * x := by rw [IntKind.wrap_i64] <;> omega
       have w2e : IntKind.u8.wrap ((s[k].toNat : Int) - 48) = (s[k].toNat : Int) - 48 := by rw [IntKind.wrap_u8]; omega
       have w3e : IntKind.i64.wrap ((s[k].toNat : Int) - 48) = (s[k].toNat : Int) - 48 := by rw [IntKind.wrap_i64] <;> omega
       have w4e : IntKind.i64.wrap (10 * x + ((s[k].toNat : Int) - 48)) = 10 * x + ((s[k].toNat : Int) - 48) := by rw [IntKind.wrap_i64] <;> omega
       have m0 := hM.cell 0
       have g0 := hM.fz 0
       simp at m0
       have hki : (k : Int) < s.size := by omega
       go_wp2
       refine wp_region_still_tail 10 (by kernel_rfl) (by kernel_rfl) ?_
       simp only [List.take_succ_cons, List.take_zero, List.drop_succ_cons, List.drop_zero]
       repeat still_step
       refine wpStill_nil ?_
       change wpList _ _ _ _ _ wr.drew
       clear w1e w2e w3e w4e
       go_wp2
       go_roundw
       case rel => exact ⟨k + 1, by omega, by go_num, hR.other 0 _ (by omega), by rw [hsn.out]; exact hM.set 0 _, (hE0.setCell (by simp) _).drew⟩
       case measure => simp [intOf]; omega
     · obtain rfl : k = 4 := by omega
       generalize hn : numL (s.data.toList.take 4) = n at *
       have hNum : Hid (tyT s = n) := Lib.hid hn
       clear hn
       go_wp2_with fail
       refine (hbx.out _ hx5).mono ?_
       rintro e w1 ⟨rfl, hE1⟩
       clear hbx
       have hT : s.data.toList.drop 4 = bmT s := rfl
       rw [hT]
       clear hT
       have hR := hR.ext hE1
       have hM := hM.ext hE1
       have hE0 := hE0.trans hE1
       clear hE1
       unfold bdV
       have r0 := hR.cell 0
       have r1 := hR.cell 1
       have f0 := hR.fz 0
       have f1 := hR.fz 1
       have rl := hR.lt
       simp at r0 r1
       by_cases hbe : bmE (bmT s) = 0
       · have hD4 := Lib.hid (decW_4 h4 hDig.out hbe)
         have hbk := bm_back _ hbe
         have hN1 : 4 + bmN (bmT s) ≤ s.size := by
          have := hbk.2.2.2
          unfold bmT at this ⊢
          rw [List.length_drop, len_list] at this
          omega
         have hN2 := bmN_le (bmT s)
         have hre := rest_eq2 s
         have hRe := Lib.hid hre
         have hwa := Wd_bmA (bmT s)
         have hwb := Wd_bmB (bmT s)
         have hGot := Got.zero s
         have hin := Lib.hid (in_blist (bmA (bmT s)) (bmB (bmT s)))
         have hLl := blist_len (bmA (bmT s)) (bmB (bmT s)) 129
         rw [hbe]
         clear hbk hbe hre
         generalize bmA (bmT s) = pa at *
         generalize bmB (bmT s) = pb at *
         generalize bmN (bmT s) = nn at *
         go_wp2_with fail
         refine (list_own pa pb _ hwa hwb).mono ?_
         rintro e w2 ⟨lv, rfl, hlo, hE2⟩
         have hli := ints_of_owns hlo
         obtain ⟨lp, lc, rfl, hlp⟩ : ∃ p c, lv = .slice p (blist pa pb 129).length c ∧ (0 < (blist pa pb 129).length → ∃ b off, p = some ⟨b, off, none⟩ ∧ ∀ i, i < (blist pa pb 129).length → w2.cell? ⟨b, off + i, none⟩ = some (.int .i64 ((blist pa pb 129).getD i 0))) := by
          rcases hli with ⟨rfl, h0⟩ | ⟨b, off, cap, rfl, hc⟩
          · exact ⟨none, 0, by rw [h0]; rfl, fun h => by rw [h0] at h; simp at h⟩
          · exact ⟨_, cap, rfl, fun _ => ⟨b, off, rfl, hc⟩⟩
         have hLp := Lib.hid hlp
         have hE12 := ((Ext.refl w1).alloc _).trans hE2
         have hR2 := hR.ext hE12
         have hM2 := hM.ext hE12
         have hE02 := hE0.trans hE12
         have hm2 := hM2.lt
         have hlb : Hid (∀ b off : Nat, lp = some ⟨b, off, none⟩ → b ≠ w.heap.size + 1) := by
          refine Lib.hid (fun b off e => ?_)
          rcases hlo.2 with ⟨h, _⟩ | ⟨g', cap', cur', hv', hg', _⟩
          · rw [e] at h; cases h
          · rw [e] at hv'
            simp only [Value.slice.injEq, Option.some.injEq, Addr.mk.injEq] at hv'
            have h1 := hM.lt
            simp only [World.size_alloc] at hg'
            omega
         rw [hRe.out]
         clear hlp hli hlo hE2 hE12 hR hM r0 r1 f0 f1 rl hRe
         generalize blist pa pb 129 = L at *
         generalize rsT s = r00 at *
         go_wp2
         obtain ⟨i0, hi, hz0, hz1, hz2⟩ := info_parts infoEl
         have hI := Lib.hid hi
         have hZ0 := Lib.hid hz0
         have hZ1 := Lib.hid hz1
         have hZ2 := Lib.hid hz2
         clear hi hz0 hz1 hz2
         go_loopw [6, 58] (fun u i wr => ∃ (k : Nat) (acc : List El) (r : ByteArray) (vv : Value), k ≤ L.length ∧ i = .int .i64 k ∧ u = .string r ∧ Got s L k acc r ∧ Blk wr (w.heap.size + 1) #[.int .i64 n, vv] 29 ∧ wr.ownsRow w2.heap.size 97 2 vv acc.length (elCells acc) ∧ ExtBut (w.heap.size + 1) w2 wr) (fun _ i _ => L.length - (intOf i).toNat)
         case atStart => exact ⟨0, [], r00, .slice none 0 0, by omega, rfl, rfl, hGot, hM2, ⟨rfl, Or.inl ⟨rfl, rfl⟩⟩, ExtBut.refl _ _⟩
         case round =>
          obtain ⟨k, acc, r, vv, hk, rfl, rfl, hgot, hMr, hown, hEb⟩ := hrel
          have hGt := Lib.hid hgot
          have hrs := hgot.rest
          have hal := hgot.len
          have hal2 : acc.length ≤ 129 := by omega
          have hEw : Ext w wr := ExtBut.after hE02 hEb (by omega)
          have hsz := hEb.size
          clear hgot hal
          by_cases hlt : k < L.length
          · obtain ⟨b, off, rfl, hcs⟩ := hLp.out (by omega)
            have hbne := hlb.out b off rfl
            have c0 := hEb.cell (hcs k hlt) hbne
            have hk1 : (k : Int) < L.length := by omega
            have hin1 := Lib.hid (hin.out (L.getD k 0))
            clear hcs
            have hGb := Lib.hid (And.intro (@Got.bad s L k acc r hGt.out hlt) (@Got.next s L k acc r hGt.out hlt))
            generalize L.getD k 0 = m at *
            go_wp2_with fail
            refine (decodeF m r _ (g.ext hEw) (by omega)).mono ?_
            rintro e w3 ⟨rfl, hE3⟩
            have hM3 := hMr.ext hE3
            have hown3 := owns_ext hown hE3
            have hEb3 := hEb.trans (ExtBut.of_ext hE3)
            have hE03 := hEw.trans hE3
            have c3 := hE3.get c0
            have hs3 := hEb3.size
            clear hE3 hMr hown hEb hEw c0 hsz
            have m0 := hM3.cell 0
            have m1 := hM3.cell 1
            have g0 := hM3.fz 0
            have g1 := hM3.fz 1
            have ml := hM3.lt
            simp at m0 m1
            have hR3 := hR2.but hEb3 (by omega)
            have q0 := hR3.cell 0
            have q1 := hR3.cell 1
            have k0 := hR3.fz 0
            have k1 := hR3.fz 1
            have ql := hR3.lt
            simp at q0 q1
            by_cases hc : decC m r = 0
            · rw [hc]
              have hGn := Lib.hid (hGb.out.2 hc)
              clear hc hGb
              generalize decV m r = dv at *
              generalize decR m r = dr at *
              obtain ⟨vp, vc, rfl⟩ := owns_form hown3
              go_wp2_with (at_builtin; refine wpList_append_own _ rfl _ _ 27 rfl w2.heap.size 97 i0 (.agg #[.int .i64 0, .string ⟨#[]⟩]) 2 24 Tryz.underlying27 hI.out hZ0.out hZ1.out hZ2.out rfl (by decide) (.slice vp acc.length vc) _ _ rfl (hown3.alloc _) ⟨w3.heap.size, 0, none⟩ 1 1 [.int .i64 m, .string dv] rfl rfl ?_ ?_ ?_ ?_ ?_ ?_)
              · exact cell_two_new' _ _ _ _ _ rfl
              · exact two_one _ _
              · unfold maxLen; omega
              · omega
              · simp; omega
              intro v' w5 hown5 hgrow5 _
              have hM5 : Blk w5 (w.heap.size + 1) #[.int .i64 n, .slice vp acc.length vc] 29 := Blk.grown (hM3.alloc (.cells #[.int .i64 m, .string dv] 97)) hgrow5 (fun e => by have := (hown3.lt _ e.symm).1; omega)
              have s1 := hM5.cell 1
              have s2 := hM5.fz 1
              have s3 := hM5.lt
              simp at s1
              obtain ⟨vp', vc', rfl⟩ := owns_form hown5
              have hEb5 : ExtBut (w.heap.size + 1) w2 w5 := ExtBut.grown (b := w3.alloc (.cells #[.int .i64 m, .string dv] 97)) (hEb3.alloc _) hgrow5 (fun k hk => (hown3.lt k hk).1)
              go_wp2
              go_roundw
              case rel => exact ⟨k + 1, _, dr, _, by omega, by go_num, rfl, hGn.out, hM5.set 1 _, by rw [elCells_snoc]; simpa using owns_set hown5 (by omega), hEb5.setCell 1 _⟩
              case measure => simp [intOf]; omega
            · have hcb : (decC m r != 0) = true := by simpa using hc
              have hdr := hGb.out.1 hc
              have hD := Lib.hid (hD4.out.trans (by rw [hdr, if_pos hc]))
              clear hdr hc hGb
              generalize decC m r = dc at *
              go_wp2
              refine bodyPost_ret (v := .tuple #[msgAgg 0 (.slice none 0 0), .int .i64 dc]) ?_ rfl ⟨.slice none 0 0, by rw [hD.out], by rw [hD.out]; exact OwnEls.nil _ _, ?_⟩
              · simp [results, Tryz.results29, go_sem, msgAgg, q0, q1]
              · exact (hE03.setCell (by simp) _).setCell (by simp) _
          · obtain rfl : k = L.length := by omega
            have hdr := hGt.out.done
            have hD5 := hD4.out
            rw [hdr, hNum.out] at hD5
            simp only [ne_eq, not_true_eq_false, if_false] at hD5
            have HD := Lib.hid hD5
            have hsv := Lib.hid hGt.out.smallV
            have hel := Lib.hid (elems_of_owns hown)
            clear hdr hD5 hD4
            obtain ⟨vp, vc, rfl⟩ := owns_form hown
            have hR3 := hR2.but hEb (by omega)
            have m0 := hMr.cell 0
            have m1 := hMr.cell 1
            simp at m0 m1
            go_wp2_with fail
            refine (mcheck_any n _ acc _ (g.ext hEw) hel.out (by omega) hsv.out).mono ?_
            rintro e w4 ⟨rfl, hE4⟩
            have hE04 := hEw.trans hE4
            have hM4 := hMr.ext hE4
            have hR4 := hR3.ext hE4
            have hown4 := Lib.hid (owns_ext hown hE4)
            clear hE4 hMr hR3 m0 m1 hown
            have m0 := hM4.cell 0
            have m1 := hM4.cell 1
            have q0 := hR4.cell 0
            have q1 := hR4.cell 1
            have k0 := hR4.fz 0
            have k1 := hR4.fz 1
            have ql := hR4.lt
            have ml := hM4.lt
            simp at m0 m1 q0 q1
            by_cases hmc : mchk n acc = 0
            · rw [hmc]
              by_cases hrz : r.size = 0
              · have hD : decW s = (0, n, acc) := by rw [HD.out]; simp [hmc, hrz]
                have hD := Lib.hid hD
                have hre0 : r = ⟨#[]⟩ := by
                 apply Go.WideShapes.bytes_inj
                 exact List.eq_nil_of_length_eq_zero (by rw [len_list]; exact hrz)
                subst hre0
                clear hmc hrz HD
                go_wp2
                refine bodyPost_ret (v := .tuple #[msgAgg n (.slice vp acc.length vc), .int .i64 0]) ?_ rfl ⟨.slice vp acc.length vc, by rw [hD.out], ?_, ?_⟩
                · simp [results, Tryz.results29, go_sem, msgAgg, q0, q1]
                · rw [hD.out]
                  exact ⟨_, by first | exact Nat.le_refl _ | (simp; done) | omega, owns_set (owns_set hown4.out (by omega)) (by omega)⟩
                · exact (hE04.setCell (by simp) _).setCell (by simp) _
              · have hD : decW s = (3, 0, []) := by rw [HD.out]; simp [hmc, hrz]
                have hD := Lib.hid hD
                have hne : (!r.toList.isEmpty) = true := by rw [ne_empty]; simp; omega
                clear hmc hrz HD
                go_wp2
                refine bodyPost_ret (v := .tuple #[msgAgg 0 (.slice none 0 0), .int .i64 3]) ?_ rfl ⟨.slice none 0 0, by rw [hD.out], by rw [hD.out]; exact OwnEls.nil _ _, ?_⟩
                · simp [results, Tryz.results29, go_sem, msgAgg, q0, q1]
                · exact (hE04.setCell (by simp) _).setCell (by simp) _
            · have hcb : (mchk n acc != 0) = true := by simpa using hmc
              have hD : decW s = (mchk n acc, 0, []) := by rw [HD.out]; simp [hmc]
              have hD := Lib.hid hD
              clear hmc HD
              generalize mchk n acc = mc at *
              go_wp2
              refine bodyPost_ret (v := .tuple #[msgAgg 0 (.slice none 0 0), .int .i64 mc]) ?_ rfl ⟨.slice none 0 0, by rw [hD.out], by rw [hD.out]; exact OwnEls.nil _ _, ?_⟩
              · simp [results, Tryz.results29, go_sem, msgAgg, q0, q1]
              · exact (hE04.setCell (by simp) _).setCell (by simp) _
       · have hbb : (bmE (bmT s) != 0) = true := by simpa using hbe
         have hD := Lib.hid (decW_3 h4 hDig.out hbe)
         generalize bmE (bmT s) = be at *
         clear hbe
         go_wp2
         refine bodyPost_ret (v := .tuple #[msgAgg 0 (.slice none 0 0), .int .i64 be]) ?_ rfl ⟨.slice none 0 0, by rw [hD.out], by rw [hD.out]; exact OwnEls.nil _ _, ?_⟩
         · simp [results, Tryz.results29, go_sem, msgAgg, r0, r1, rl]
         · (repeat (first | with_reducible exact Ext.refl _ | with_reducible exact hE0 | with_reducible exact hE | with_reducible refine Ext.alloc ?_ _ | with_reducible refine Ext.drewN ?_ _ | with_reducible refine Ext.drew ?_ | ((with_reducible refine Ext.setCell ?_ ?side _); (case side => first | exact Nat.le_refl _ | (simp; done) | (simp; omega)))))
end Go.Proofs.YtkggloeaojkhaaaGreatDoor
