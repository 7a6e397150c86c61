/- Contracts of strconv.Itoa and fraud.Explain (walks; printed by gen/h41.py). -/
import Derived.Test.YtangdoidkcelfaaGreatDoorKd
import Derived.Test.YtangdoidkcelfaaGreatDoorKv
import Derived.Test.YtangdoidkcelfaaGreatDoorKz
namespace Go.Proofs.YtangdoidkcelfaaGreatDoor
open Go.RowKit
/-- A verdict in words. -/
def frdT (l : List ByteArray) : List UInt8 := l.flatMap fun s => 32 :: s.data.toList
def actW (n : Int) : List UInt8 := if n = 0 then [112, 97, 115, 115, 32] else if n = 1 then [114, 101, 102, 101, 114, 32] else [100, 101, 99, 108, 105, 110, 101, 32]
def explV (v : VerD) : List UInt8 := if v.act = 0 ∨ v.act = 1 ∨ v.act = 2 then actW v.act ++ Lib.itoa v.score ++ frdT v.fired else []
theorem frd_len (l : List ByteArray) (h : ∀ s ∈ l, s.size ≤ 1000000) (k : Nat) : (frdT (l.take k)).length ≤ k * 1000001 := by
 induction k with
 | zero => simp [frdT]
 | succ k ih =>
  have e0 : (k + 1) * 1000001 = k * 1000001 + 1000001 := Nat.succ_mul k 1000001
  by_cases hk : k < l.length
  · have h2 := h l[k] (List.getElem_mem hk)
    unfold frdT at *
    rw [List.take_add_one, List.getElem?_eq_getElem hk, List.flatMap_append, List.length_append, e0]
    simp only [Option.toList, List.flatMap_cons, List.flatMap_nil, List.append_nil, List.length_cons, list_len]
    exact Nat.add_le_add ih (Nat.succ_le_succ h2)
  · have e1 : l.take (k + 1) = l := List.take_of_length_le (by omega)
    have e2 : l.take k = l := List.take_of_length_le (by omega)
    rw [e1, e0]
    rw [e2] at ih
    exact Nat.le_trans ih (Nat.le_add_right _ _)
theorem frd_step {l : List ByteArray} {k : Nat} (hk : k < l.length) : frdT (l.take (k + 1)) = frdT (l.take k) ++ 32 :: (l.getD k ⟨#[]⟩).data.toList := by
 unfold frdT
 rw [List.take_add_one, List.flatMap_append, List.getD_eq_getElem?_getD, List.getElem?_eq_getElem hk]
 simp
def ItoP (n : Int) (w : World) (e : Ending) (w' : World) : Prop := e = .returned (.string ⟨(Lib.itoa n).toArray⟩) ∧ Ext w w'
set_option maxHeartbeats 1000000 in
theorem fritoa_any (n : Int) (h0 : -9223372036854775808 ≤ n) (h1 : n ≤ 9223372036854775807) (w : World) (g : Gw w) : Calls Tryz.prog 25 #[.int .i64 n] w (ItoP n w) := by
 refine (Tryz.strconv_Itoa n h0 h1 w g).mono ?_
 rintro e w' ⟨rfl, k, os, rfl⟩
 exact ⟨rfl, ((Ext.refl w).drewN k).growO os⟩
def ExplP (v : VerD) (w : World) (e : Ending) (w' : World) : Prop := ∃ r : ByteArray, e = .returned (.string r) ∧ r.data.toList = explV v ∧ Ext w w'
set_option maxRecDepth 8000 in
set_option maxHeartbeats 8000000 in
theorem frexplain_any (v : VerD) (fv : Value) (w : World) (g : Gw w) (hK : KysM w fv v.fired) (h0 : -9223372036854775808 ≤ v.score) (h1 : v.score ≤ 9223372036854775807) (hl : v.fired.length ≤ 1000) (hz : ∀ s ∈ v.fired, s.size ≤ 1000000) : Calls Tryz.prog 8 #[.agg #[.int .i64 v.act, .int .i64 v.score, fv]] w (ExplP v w) := by
 obtain ⟨act, sc, fl⟩ := v
 simp only at hK h0 h1 hl hz ⊢
 obtain ⟨p, c, rfl, -, hcs⟩ := hK
 have kI := Lib.hid (fun w1 (h : Ext w w1) => fritoa_any sc h0 h1 w1 (g.ext h))
 unfold ItoP at kI
 have hfl := Lib.hid (frd_len fl hz)
 have hend := Lib.hid (fun r w' (hr : r.data.toList = explV ⟨act, sc, fl⟩) (hE : Ext w w') => show ExplP ⟨act, sc, fl⟩ w (.returned (.string r)) w' from ⟨r, rfl, hr, hE⟩)
 generalize ExplP ⟨act, sc, fl⟩ w = PP at *
 replace hcs := Lib.hid hcs
 have hz := itoa_len20 sc h0 h1
 by_cases a0 : act = 0
 · subst a0
   have hT := Lib.hid (show explV ⟨0, sc, fl⟩ = [112, 97, 115, 115, 32] ++ Lib.itoa sc ++ frdT fl from rfl)
   generalize explV ⟨0, sc, fl⟩ = T at *
   obtain ⟨ns, hns⟩ : ∃ ns : ByteArray, ns = ⟨(Lib.itoa sc).toArray⟩ := ⟨_, rfl⟩
   have hnl : Lib.itoa sc = ns.data.toList := by rw [hns]
   rw [← hns] at kI
   rw [hnl] at hT hz
   have hnz : ns.size ≤ 21 := by rw [← list_len]; exact hz
   clear hns hnl hz
   go_enter Tryz.func8, Tryz.ntmps8
   go_wp2_with fail
   have hbx := (Blk.new w #[.int .i64 0, .int .i64 sc, .slice p fl.length c] 24).alloc (.cells #[.pointer none, .slice none 0 0] 72)
   have hE : Ext w ((w.alloc (.cells #[.int .i64 0, .int .i64 sc, .slice p fl.length c] 24)).alloc (.cells #[.pointer none, .slice none 0 0] 72)) := xt
   have hs : (w.alloc (.cells #[.int .i64 0, .int .i64 sc, .slice p fl.length c] 24)).heap.size = w.heap.size + 1 := by simp
   have hB : Bl (w.heap.size + 1) [] ((w.alloc (.cells #[.int .i64 0, .int .i64 sc, .slice p fl.length c] 24)).alloc (.cells #[.pointer none, .slice none 0 0] 72)) := by
    have h := Lib.fresh_isBuilder 72 5 (w.alloc (.cells #[.int .i64 0, .int .i64 sc, .slice p fl.length c] 24))
    rw [hs] at h
    exact h
   have hW := WrP.nil hB (Ext.refl _)
   obtain ⟨b, hb⟩ : ∃ b, b = w.heap.size + 1 := ⟨_, rfl⟩
   obtain ⟨A, hA⟩ : ∃ A, A = w.heap.size := ⟨_, rfl⟩
   have hAb : A ≠ b := by omega
   have hwb : w.heap.size ≤ b := by omega
   rw [← hb] at hW ⊢
   rw [← hA] at hbx ⊢
   clear hs hB hb hA
   generalize ((w.alloc (.cells #[.int .i64 0, .int .i64 sc, .slice p fl.length c] 24)).alloc (.cells #[.pointer none, .slice none 0 0] 72)) = w0 at *
   replace hbx := Lib.hid hbx
   replace hE := Lib.hid hE
   refine (wr_any b _ ⟨#[112, 97, 115, 115, 32]⟩ w0 hW.1 (by simp only [List.length_nil, ByteArray.size, List.size_toArray, List.length_cons]; omega) (Nat.le_of_lt hW.1.lt)).mono ?_
   rintro e w1 ⟨n1, rfl, hW1⟩
   replace hW := hW.trans hW1
   clear hW1
   have x1 : w1.cell? ⟨A, 1, none⟩ = some (.int .i64 sc) := ((hW.blk hbx.out hAb (by decide)).cell 1).trans rfl
   go_wp2_with fail
   refine (kI.out w1 (Below.trans hE.out (Below.mono hW.2.1 hwb))).mono ?_
   rintro e w2 ⟨rfl, hE2⟩
   replace hW := hW.ext hE2
   clear hE2 x1
   go_wp2_with fail
   refine (wr_any b _ ns w2 hW.1 (by simp only [List.length_nil, List.length_append, List.length_cons]; omega) (Nat.le_of_lt hW.1.lt)).mono ?_
   rintro e w3 ⟨n2, rfl, hW3⟩
   replace hW := hW.trans hW3
   clear hW3
   have x2 : w3.cell? ⟨A, 2, none⟩ = some (.slice p fl.length c) := ((hW.blk hbx.out hAb (by decide)).cell 2).trans rfl
   go_wp2_with fail
   clear hbx x2 kI hAb
   go_loopw [24] (fun i wr => ∃ k : Nat, k ≤ fl.length ∧ i = .int .i64 k ∧ WrP b ([112, 97, 115, 115, 32] ++ ns.data.toList ++ frdT (fl.take k)) w0 wr) (fun i _ => fl.length - (intOf i).toNat)
   case atStart => exact ⟨0, Nat.zero_le _, rfl, by simpa [frdT] using hW⟩
   case round =>
    obtain ⟨k, hk, rfl, hW⟩ := hrel
    have hEr : Ext w wr := Below.trans hE.out (Below.mono hW.2.1 hwb)
    by_cases hlt : k < fl.length
    · obtain ⟨b1, off, rfl, hce⟩ := hcs.out (by omega)
      have c0 := hEr.get (hce k hlt)
      have hst := Lib.hid (frd_step hlt)
      have hnz2 : (fl.getD k ⟨#[]⟩).size ≤ 1000000 := hz _ (by rw [List.getD_eq_getElem?_getD, List.getElem?_eq_getElem hlt, Option.getD_some]; exact List.getElem_mem hlt)
      have hfk := hfl.out k
      clear hcs hce hfl hend hz hT
      generalize frdT (fl.take k) = F1 at *
      generalize fl.getD k ⟨#[]⟩ = nm at *
      have q1 : ¬ 9223372036854775807 < 1 + nm.size := by omega
      go_wp2_with fail
      refine (wr_any b _ _ wr hW.1 (by rw [ByteArray.size_append]; simp only [List.length_append, List.length_cons, List.length_nil, list_len, show (⟨#[32]⟩ : ByteArray).size = 1 from rfl]; omega) (Nat.le_of_lt hW.1.lt)).mono ?_
      rintro e w4 ⟨n3, rfl, hW4⟩
      have hW5 := Lib.hid (hW.trans hW4)
      clear hW4 hW
      go_wp2
      go_roundw
      case rel => exact ⟨k + 1, by omega, by go_num, by rw [hst.out]; simpa [app_list] using hW5.out⟩
      case measure => simp [intOf]; omega
    · obtain rfl : k = fl.length := by omega
      rw [List.take_length] at hW
      clear hcs hfl hz
      go_wp2_with fail
      refine (bldStr b b _ _ hW.1 (Nat.le_of_lt hW.1.lt)).mono ?_
      rintro e w9 ⟨r, rfl, hr, hb9, -⟩
      have hE9 := Below.trans hE.out (Below.mono (Below.trans hW.2.1 hb9) hwb)
      have hrT := Lib.hid (show r.data.toList = T by rw [hr, hT.out])
      clear hr hW
      go_wp2
      exact hend.out r _ hrT.out hE9
 by_cases a1 : act = 1
 · subst a1
   have hT := Lib.hid (show explV ⟨1, sc, fl⟩ = [114, 101, 102, 101, 114, 32] ++ Lib.itoa sc ++ frdT fl from rfl)
   generalize explV ⟨1, sc, fl⟩ = T at *
   obtain ⟨ns, hns⟩ : ∃ ns : ByteArray, ns = ⟨(Lib.itoa sc).toArray⟩ := ⟨_, rfl⟩
   have hnl : Lib.itoa sc = ns.data.toList := by rw [hns]
   rw [← hns] at kI
   rw [hnl] at hT hz
   have hnz : ns.size ≤ 21 := by rw [← list_len]; exact hz
   clear hns hnl hz
   go_enter Tryz.func8, Tryz.ntmps8
   go_wp2_with fail
   have hbx := (Blk.new w #[.int .i64 1, .int .i64 sc, .slice p fl.length c] 24).alloc (.cells #[.pointer none, .slice none 0 0] 72)
   have hE : Ext w ((w.alloc (.cells #[.int .i64 1, .int .i64 sc, .slice p fl.length c] 24)).alloc (.cells #[.pointer none, .slice none 0 0] 72)) := xt
   have hs : (w.alloc (.cells #[.int .i64 1, .int .i64 sc, .slice p fl.length c] 24)).heap.size = w.heap.size + 1 := by simp
   have hB : Bl (w.heap.size + 1) [] ((w.alloc (.cells #[.int .i64 1, .int .i64 sc, .slice p fl.length c] 24)).alloc (.cells #[.pointer none, .slice none 0 0] 72)) := by
    have h := Lib.fresh_isBuilder 72 5 (w.alloc (.cells #[.int .i64 1, .int .i64 sc, .slice p fl.length c] 24))
    rw [hs] at h
    exact h
   have hW := WrP.nil hB (Ext.refl _)
   obtain ⟨b, hb⟩ : ∃ b, b = w.heap.size + 1 := ⟨_, rfl⟩
   obtain ⟨A, hA⟩ : ∃ A, A = w.heap.size := ⟨_, rfl⟩
   have hAb : A ≠ b := by omega
   have hwb : w.heap.size ≤ b := by omega
   rw [← hb] at hW ⊢
   rw [← hA] at hbx ⊢
   clear hs hB hb hA
   generalize ((w.alloc (.cells #[.int .i64 1, .int .i64 sc, .slice p fl.length c] 24)).alloc (.cells #[.pointer none, .slice none 0 0] 72)) = w0 at *
   replace hbx := Lib.hid hbx
   replace hE := Lib.hid hE
   refine (wr_any b _ ⟨#[114, 101, 102, 101, 114, 32]⟩ w0 hW.1 (by simp only [List.length_nil, ByteArray.size, List.size_toArray, List.length_cons]; omega) (Nat.le_of_lt hW.1.lt)).mono ?_
   rintro e w1 ⟨n1, rfl, hW1⟩
   replace hW := hW.trans hW1
   clear hW1
   have x1 : w1.cell? ⟨A, 1, none⟩ = some (.int .i64 sc) := ((hW.blk hbx.out hAb (by decide)).cell 1).trans rfl
   go_wp2_with fail
   refine (kI.out w1 (Below.trans hE.out (Below.mono hW.2.1 hwb))).mono ?_
   rintro e w2 ⟨rfl, hE2⟩
   replace hW := hW.ext hE2
   clear hE2 x1
   go_wp2_with fail
   refine (wr_any b _ ns w2 hW.1 (by simp only [List.length_nil, List.length_append, List.length_cons]; omega) (Nat.le_of_lt hW.1.lt)).mono ?_
   rintro e w3 ⟨n2, rfl, hW3⟩
   replace hW := hW.trans hW3
   clear hW3
   have x2 : w3.cell? ⟨A, 2, none⟩ = some (.slice p fl.length c) := ((hW.blk hbx.out hAb (by decide)).cell 2).trans rfl
   go_wp2_with fail
   clear hbx x2 kI hAb
   go_loopw [24] (fun i wr => ∃ k : Nat, k ≤ fl.length ∧ i = .int .i64 k ∧ WrP b ([114, 101, 102, 101, 114, 32] ++ ns.data.toList ++ frdT (fl.take k)) w0 wr) (fun i _ => fl.length - (intOf i).toNat)
   case atStart => exact ⟨0, Nat.zero_le _, rfl, by simpa [frdT] using hW⟩
   case round =>
    obtain ⟨k, hk, rfl, hW⟩ := hrel
    have hEr : Ext w wr := Below.trans hE.out (Below.mono hW.2.1 hwb)
    by_cases hlt : k < fl.length
    · obtain ⟨b1, off, rfl, hce⟩ := hcs.out (by omega)
      have c0 := hEr.get (hce k hlt)
      have hst := Lib.hid (frd_step hlt)
      have hnz2 : (fl.getD k ⟨#[]⟩).size ≤ 1000000 := hz _ (by rw [List.getD_eq_getElem?_getD, List.getElem?_eq_getElem hlt, Option.getD_some]; exact List.getElem_mem hlt)
      have hfk := hfl.out k
      clear hcs hce hfl hend hz hT
      generalize frdT (fl.take k) = F1 at *
      generalize fl.getD k ⟨#[]⟩ = nm at *
      have q1 : ¬ 9223372036854775807 < 1 + nm.size := by omega
      go_wp2_with fail
      refine (wr_any b _ _ wr hW.1 (by rw [ByteArray.size_append]; simp only [List.length_append, List.length_cons, List.length_nil, list_len, show (⟨#[32]⟩ : ByteArray).size = 1 from rfl]; omega) (Nat.le_of_lt hW.1.lt)).mono ?_
      rintro e w4 ⟨n3, rfl, hW4⟩
      have hW5 := Lib.hid (hW.trans hW4)
      clear hW4 hW
      go_wp2
      go_roundw
      case rel => exact ⟨k + 1, by omega, by go_num, by rw [hst.out]; simpa [app_list] using hW5.out⟩
      case measure => simp [intOf]; omega
    · obtain rfl : k = fl.length := by omega
      rw [List.take_length] at hW
      clear hcs hfl hz
      go_wp2_with fail
      refine (bldStr b b _ _ hW.1 (Nat.le_of_lt hW.1.lt)).mono ?_
      rintro e w9 ⟨r, rfl, hr, hb9, -⟩
      have hE9 := Below.trans hE.out (Below.mono (Below.trans hW.2.1 hb9) hwb)
      have hrT := Lib.hid (show r.data.toList = T by rw [hr, hT.out])
      clear hr hW
      go_wp2
      exact hend.out r _ hrT.out hE9
 by_cases a2 : act = 2
 · subst a2
   have hT := Lib.hid (show explV ⟨2, sc, fl⟩ = [100, 101, 99, 108, 105, 110, 101, 32] ++ Lib.itoa sc ++ frdT fl from rfl)
   generalize explV ⟨2, sc, fl⟩ = T at *
   obtain ⟨ns, hns⟩ : ∃ ns : ByteArray, ns = ⟨(Lib.itoa sc).toArray⟩ := ⟨_, rfl⟩
   have hnl : Lib.itoa sc = ns.data.toList := by rw [hns]
   rw [← hns] at kI
   rw [hnl] at hT hz
   have hnz : ns.size ≤ 21 := by rw [← list_len]; exact hz
   clear hns hnl hz
   go_enter Tryz.func8, Tryz.ntmps8
   go_wp2_with fail
   have hbx := (Blk.new w #[.int .i64 2, .int .i64 sc, .slice p fl.length c] 24).alloc (.cells #[.pointer none, .slice none 0 0] 72)
   have hE : Ext w ((w.alloc (.cells #[.int .i64 2, .int .i64 sc, .slice p fl.length c] 24)).alloc (.cells #[.pointer none, .slice none 0 0] 72)) := xt
   have hs : (w.alloc (.cells #[.int .i64 2, .int .i64 sc, .slice p fl.length c] 24)).heap.size = w.heap.size + 1 := by simp
   have hB : Bl (w.heap.size + 1) [] ((w.alloc (.cells #[.int .i64 2, .int .i64 sc, .slice p fl.length c] 24)).alloc (.cells #[.pointer none, .slice none 0 0] 72)) := by
    have h := Lib.fresh_isBuilder 72 5 (w.alloc (.cells #[.int .i64 2, .int .i64 sc, .slice p fl.length c] 24))
    rw [hs] at h
    exact h
   have hW := WrP.nil hB (Ext.refl _)
   obtain ⟨b, hb⟩ : ∃ b, b = w.heap.size + 1 := ⟨_, rfl⟩
   obtain ⟨A, hA⟩ : ∃ A, A = w.heap.size := ⟨_, rfl⟩
   have hAb : A ≠ b := by omega
   have hwb : w.heap.size ≤ b := by omega
   rw [← hb] at hW ⊢
   rw [← hA] at hbx ⊢
   clear hs hB hb hA
   generalize ((w.alloc (.cells #[.int .i64 2, .int .i64 sc, .slice p fl.length c] 24)).alloc (.cells #[.pointer none, .slice none 0 0] 72)) = w0 at *
   replace hbx := Lib.hid hbx
   replace hE := Lib.hid hE
   refine (wr_any b _ ⟨#[100, 101, 99, 108, 105, 110, 101, 32]⟩ w0 hW.1 (by simp only [List.length_nil, ByteArray.size, List.size_toArray, List.length_cons]; omega) (Nat.le_of_lt hW.1.lt)).mono ?_
   rintro e w1 ⟨n1, rfl, hW1⟩
   replace hW := hW.trans hW1
   clear hW1
   have x1 : w1.cell? ⟨A, 1, none⟩ = some (.int .i64 sc) := ((hW.blk hbx.out hAb (by decide)).cell 1).trans rfl
   go_wp2_with fail
   refine (kI.out w1 (Below.trans hE.out (Below.mono hW.2.1 hwb))).mono ?_
   rintro e w2 ⟨rfl, hE2⟩
   replace hW := hW.ext hE2
   clear hE2 x1
   go_wp2_with fail
   refine (wr_any b _ ns w2 hW.1 (by simp only [List.length_nil, List.length_append, List.length_cons]; omega) (Nat.le_of_lt hW.1.lt)).mono ?_
   rintro e w3 ⟨n2, rfl, hW3⟩
   replace hW := hW.trans hW3
   clear hW3
   have x2 : w3.cell? ⟨A, 2, none⟩ = some (.slice p fl.length c) := ((hW.blk hbx.out hAb (by decide)).cell 2).trans rfl
   go_wp2_with fail
   clear hbx x2 kI hAb
   go_loopw [24] (fun i wr => ∃ k : Nat, k ≤ fl.length ∧ i = .int .i64 k ∧ WrP b ([100, 101, 99, 108, 105, 110, 101, 32] ++ ns.data.toList ++ frdT (fl.take k)) w0 wr) (fun i _ => fl.length - (intOf i).toNat)
   case atStart => exact ⟨0, Nat.zero_le _, rfl, by simpa [frdT] using hW⟩
   case round =>
    obtain ⟨k, hk, rfl, hW⟩ := hrel
    have hEr : Ext w wr := Below.trans hE.out (Below.mono hW.2.1 hwb)
    by_cases hlt : k < fl.length
    · obtain ⟨b1, off, rfl, hce⟩ := hcs.out (by omega)
      have c0 := hEr.get (hce k hlt)
      have hst := Lib.hid (frd_step hlt)
      have hnz2 : (fl.getD k ⟨#[]⟩).size ≤ 1000000 := hz _ (by rw [List.getD_eq_getElem?_getD, List.getElem?_eq_getElem hlt, Option.getD_some]; exact List.getElem_mem hlt)
      have hfk := hfl.out k
      clear hcs hce hfl hend hz hT
      generalize frdT (fl.take k) = F1 at *
      generalize fl.getD k ⟨#[]⟩ = nm at *
      have q1 : ¬ 9223372036854775807 < 1 + nm.size := by omega
      go_wp2_with fail
      refine (wr_any b _ _ wr hW.1 (by rw [ByteArray.size_append]; simp only [List.length_append, List.length_cons, List.length_nil, list_len, show (⟨#[32]⟩ : ByteArray).size = 1 from rfl]; omega) (Nat.le_of_lt hW.1.lt)).mono ?_
      rintro e w4 ⟨n3, rfl, hW4⟩
      have hW5 := Lib.hid (hW.trans hW4)
      clear hW4 hW
      go_wp2
      go_roundw
      case rel => exact ⟨k + 1, by omega, by go_num, by rw [hst.out]; simpa [app_list] using hW5.out⟩
      case measure => simp [intOf]; omega
    · obtain rfl : k = fl.length := by omega
      rw [List.take_length] at hW
      clear hcs hfl hz
      go_wp2_with fail
      refine (bldStr b b _ _ hW.1 (Nat.le_of_lt hW.1.lt)).mono ?_
      rintro e w9 ⟨r, rfl, hr, hb9, -⟩
      have hE9 := Below.trans hE.out (Below.mono (Below.trans hW.2.1 hb9) hwb)
      have hrT := Lib.hid (show r.data.toList = T by rw [hr, hT.out])
      clear hr hW
      go_wp2
      exact hend.out r _ hrT.out hE9
 · have d0 : (act == 0) = false := by simpa using a0
   have d1 : (act == 1) = false := by simpa using a1
   have d2 : (act == 2) = false := by simpa using a2
   have hT := Lib.hid (show ([] : List UInt8) = explV ⟨act, sc, fl⟩ by unfold explV; rw [if_neg (by rintro (h | h | h); exact a0 h; exact a1 h; exact a2 h)])
   clear a0 a1 a2 kI hcs hfl hz h0 h1 hl
   go_enter Tryz.func8, Tryz.ntmps8
   go_wp2_with fail
   exact hend.out ⟨#[]⟩ _ hT.out xt
end Go.Proofs.YtangdoidkcelfaaGreatDoor
