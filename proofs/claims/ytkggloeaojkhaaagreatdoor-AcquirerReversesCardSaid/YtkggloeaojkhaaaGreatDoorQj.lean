/- Contracts of (*strings.Builder).copyCheck and WriteString over this dump (walks). Contract of message.Encode (walk). Contract of message.Encode (walk). -/
import Derived.Test.YtkggloeaojkhaaaGreatDoorQa
import Derived.Lib.Builder
import Derived.Lib.AppendStr
import Derived.Shelf.Strings.Builder1
import Derived.OwnWalk
import Derived.Test.YtkggloeaojkhaaaGreatDoorQi
import Derived.Lib.OthersKept
namespace Go.Proofs.YtkggloeaojkhaaaGreatDoor
open Go.RowKit
theorem sizeBld : (Tryz.prog.info? 190).map (·.size) = some 2 := by kernel_rfl
theorem liesBld : liesAt Tryz.prog Tryz.prog.depth 190 (2 / Tryz.prog.cellsOf 190) 0 190 1 = true := by kernel_rfl
theorem infoByte : (Tryz.prog.info? 5).map (fun i => (i.zero, i.size, i.bytes)) = some (some (.int .u8 0), 1, 1) := by kernel_rfl
set_option maxRecDepth 100000 in
set_option maxHeartbeats 1000000 in
theorem bldUsed (b : Nat) (w : World) (h0 : w.cell? ⟨b, 0, none⟩ = some (.pointer (some ⟨b, 0, none⟩))) :
 Calls Tryz.prog 146 #[.pointer (some ⟨b, 0, none⟩)] w fun e w' => e = .returned (.tuple #[]) ∧ w' = w := by
 obtain ⟨j, hj, _⟩ := Option.map_eq_some_iff.1 sizeBld
 go_enter Tryz.func146, Tryz.ntmps146
 go_wp2
 rw [Lib.run_neq_ptr_same w _ Tryz.underlying187 hj]
 go_wp2
 go_end0
 exact ⟨rfl, rfl⟩
set_option maxRecDepth 100000 in
set_option maxHeartbeats 1000000 in
theorem bldFresh (b : Nat) (w : World) (h0 : w.cell? ⟨b, 0, none⟩ = some (.pointer none)) (hsh : w.shape? b = some (190, 2)) (hfz : w.frozen? ⟨b, 0, none⟩ = false) :
 Calls Tryz.prog 146 #[.pointer (some ⟨b, 0, none⟩)] w fun e w' => e = .returned (.tuple #[]) ∧ w' = w.setCell ⟨b, 0, none⟩ (.pointer (some ⟨b, 0, none⟩)) := by
 obtain ⟨j, hj, hjs⟩ := Option.map_eq_some_iff.1 sizeBld
 go_enter Tryz.func146, Tryz.ntmps146
 go_wp2
 rw [Lib.run_to_unsafe w ⟨b, 0, none⟩ Tryz.underlying187 Tryz.underlying266 hj (by rw [hjs]; decide) hsh (Nat.zero_lt_succ 1)]
 simp only [Result.andThen]
 rw [Oper.upon_value]
 go_wp2
 rw [run_callFunc_extern Tryz.func182 (by kernel_rfl) (by kernel_rfl) (by kernel_rfl) (e := Extern.AbiNoEscape.same) (by kernel_rfl)]
 rw [Lib.run_noEscape]
 simp only [Result.andThen]
 rw [Oper.upon_value]
 go_wp2
 rw [Lib.run_from_unsafe w ⟨b, 0, none⟩ Tryz.underlying266 Tryz.underlying187 hj hsh liesBld]
 simp only [Result.andThen]
 rw [Oper.upon_value]
 go_wp2
 go_end0
 exact ⟨rfl, rfl⟩
theorem bldCopy (B b : Nat) (bs : List Value) (w : World) (h : Lib.IsBuilder 190 5 B b bs w) :
 Calls Tryz.prog 146 #[.pointer (some ⟨b, 0, none⟩)] w fun e w' => e = .returned (.tuple #[]) ∧ (Lib.BuilderAt 190 5 B b (.pointer (some ⟨b, 0, none⟩)) bs w' ∧ Below B w w') := by
 rcases h with h | h
 · refine (bldFresh b w h.cell0 h.shape h.frozen0).mono ?_
   rintro e w' ⟨rfl, rfl⟩
   exact ⟨rfl, h.used _, (Below.refl B w).setCell (p := ⟨b, 0, none⟩) h.1 _⟩
 · refine (bldUsed b w h.cell0).mono ?_
   rintro e w' ⟨rfl, rfl⟩
   exact ⟨rfl, h, Below.refl B _⟩
set_option maxRecDepth 100000 in
set_option maxHeartbeats 1000000 in
theorem bldWrite (B b : Nat) (bs : List Value) (s : ByteArray) (w : World) (h : Lib.IsBuilder 190 5 B b bs w) (hlen : bs.length + s.size ≤ 140737488355328) (hBw : B ≤ w.heap.size) :
 Calls Tryz.prog 105 #[.pointer (some ⟨b, 0, none⟩), .string s] w fun e w' => e = .returned (.tuple #[.int .i64 s.size, .nilIface]) ∧ (Lib.BuilderAt 190 5 B b (.pointer (some ⟨b, 0, none⟩)) (bs ++ Lib.strCells s) w' ∧ Below B w w') := by
 obtain ⟨i0, hi, hz0, hz1, hz2⟩ := info_parts infoByte
 go_enter Tryz.func105, Tryz.ntmps105
 go_wp2_with fail
 refine (bldCopy B b bs _ h).mono ?_
 rintro e w1 ⟨rfl, h1, hb1⟩
 obtain ⟨hB, v, hbk, hown, hne⟩ := h1
 have c0 : w1.cell? ⟨b, 0, none⟩ = some (.pointer (some ⟨b, 0, none⟩)) := by rw [Lib.cell_of_heap hbk]; rfl
 have c1 : w1.cell? ⟨b, 1, none⟩ = some v := by rw [Lib.cell_of_heap hbk]; rfl
 go_wp2_with (at_builtin; refine Lib.wpList_append_own_string _ rfl _ _ 188 9 rfl B 5 i0 Tryz.underlying188 Tryz.underlying9 hi hz0 hz1 hz2 _ _ _ rfl hown s rfl ?_ ?_ ?_ ?_)
 · unfold maxLen; omega
 · omega
 · have := hb1.size; omega
 intro v' w2 hown' hgrow _
 have hlt : b < w1.heap.size := (Array.getElem?_eq_some_iff.1 hbk).1
 have hb2 : w2.heap[b]? = some (.cells #[.pointer (some ⟨b, 0, none⟩), v] 190 (0, 0)) := by
  rw [hgrow.block b hlt (fun e => hne e.symm)]
  exact hbk
 have d0 : w2.cell? ⟨b, 0, none⟩ = some (.pointer (some ⟨b, 0, none⟩)) := by rw [Lib.cell_of_heap hb2]; rfl
 have d1 : w2.cell? ⟨b, 1, none⟩ = some v := by rw [Lib.cell_of_heap hb2]; rfl
 have f1 : w2.frozen? ⟨b, 1, none⟩ = false := Lib.frozen_of_heap hb2 1
 obtain ⟨ao, n', cap, rfl⟩ : ∃ ao n' cap, v' = .slice ao n' cap := by
  rcases hown'.2 with ⟨hv, _⟩ | ⟨g, cap, cur, hv, _⟩
  · exact ⟨_, _, _, hv⟩
  · exact ⟨_, _, _, hv⟩
 go_wp2
 go_ret2
 refine ⟨rfl, ?_, ?_⟩
 · exact Lib.BuilderAt.put (T := 190) (e := 5) hB hb2 (bs' := bs ++ Lib.strCells s) (by simpa [Lib.strCells_length] using hown') (by decide)
 · exact (hb1.grown hgrow (by have := hb1.size; omega) (fun k hk => (hown.lt k hk).1)).setCell (p := ⟨b, 1, none⟩) hB _
/-- A builder while other blocks are written and new ones are made. -/
theorem bld_grown {T e : TypeId} {B b : Nat} {p : Value} {bs : List Value} {w w' : World} {row : Option Nat} (h : Lib.BuilderAt T e B b p bs w) (hg : w.grownBy w' row) (hr : ∀ k, row = some k → k < B) : Lib.BuilderAt T e B b p bs w' := by
 have hlt := h.lt
 obtain ⟨hB, v, hb, hown, hne⟩ := h
 have hrb : some b ≠ row := fun e => by have := hr b e.symm; omega
 refine ⟨hB, v, (hg.block b hlt hrb).trans hb, ?_, hne⟩
 obtain ⟨h1, h | ⟨g, cap, cur, hv, hgB, hgb, h2⟩⟩ := hown
 · exact ⟨h1, Or.inl h⟩
 · exact ⟨h1, Or.inr ⟨g, cap, cur, hv, hgB, (hg.block g (Array.getElem?_eq_some_iff.1 hgb).1 (fun e => by have := hr g e.symm; omega)).trans hgb, h2⟩⟩
theorem bldI_grown {T e : TypeId} {B b : Nat} {bs : List Value} {w w' : World} {row : Option Nat} (h : Lib.IsBuilder T e B b bs w) (hg : w.grownBy w' row) (hr : ∀ k, row = some k → k < B) : Lib.IsBuilder T e B b bs w' :=
 h.elim (fun h => Or.inl (bld_grown h hg hr)) (fun h => Or.inr (bld_grown h hg hr))
theorem bldI_ext {T e : TypeId} {B b : Nat} {bs : List Value} {w w' : World} (h : Lib.IsBuilder T e B b bs w) (k : Ext w w') : Lib.IsBuilder T e B b bs w' :=
 bldI_grown (row := none) h ⟨Below.os k, Below.tape k, Below.output k, k.size, fun i hi _ => k.block i hi⟩ (fun _ h => by cases h)
end Go.Proofs.YtkggloeaojkhaaaGreatDoor
namespace Go.Proofs.YtkggloeaojkhaaaGreatDoor
open Go.RowKit
theorem itoa_4 (n : Nat) (h : 1000 ≤ n) (h' : n < 10000) : Lib.itoa n = [UInt8.ofNat (48 + n / 1000), UInt8.ofNat (48 + n / 100 % 10), UInt8.ofNat (48 + n / 10 % 10), UInt8.ofNat (48 + n % 10)] := by
 unfold Lib.itoa; rw [if_neg (by omega), Int.toNat_natCast, Lib.decDigits, dif_neg (by omega), Lib.decDigits, dif_neg (by omega), Lib.decDigits, dif_neg (by omega), Lib.decDigits, dif_pos (by omega)]; simp [Nat.div_div_eq_div_mul]
theorem pad4 (n : Nat) (h : 1 ≤ n) (h' : n ≤ 9999) : (Lib.itoa n).length ≤ 4 ∧ 1 ≤ (Lib.itoa n).length ∧ List.replicate (4 - (Lib.itoa n).length) 48 ++ Lib.itoa n = dig4 n := by
 unfold dig4
 by_cases a : n < 10
 · rw [itoa_1 n a]
   refine ⟨by simp, by simp, ?_⟩
   rw [show n / 1000 = 0 by omega, show n / 10 = 0 by omega, show n / 100 = 0 by omega, show n % 10 = n by omega]; rfl
 · by_cases b : n < 100
   · rw [itoa_2 n (by omega) b]
     refine ⟨by simp, by simp, ?_⟩
     rw [show n / 1000 = 0 by omega, show n / 100 = 0 by omega, show n / 10 % 10 = n / 10 by omega]; rfl
   · by_cases c : n < 1000
     · rw [itoa_3 n (by omega) c]
       refine ⟨by simp, by simp, ?_⟩
       rw [show n / 1000 = 0 by omega, show n / 100 % 10 = n / 100 by omega]; rfl
     · rw [itoa_4 n (by omega) (by omega)]
       exact ⟨by simp, by simp, by simp⟩
theorem enc300 (n : Int) (s : ByteArray) : (encS n s).size ≤ 300 := by
 by_cases h : chkC n s = 0
 · obtain ⟨k, _, hk, hc, _, hz⟩ := enc_good h
   rw [hz]
   obtain ⟨h1, _, _, _⟩ := chk_zero k s hc
   have hb := (row_bd k hk).1.2
   have hs : s.data.toList.length = s.size := len_list s
   unfold encL
   split
   · rw [List.length_append, hs]
     have : (lenDig (dVar k).toNat s.size).length ≤ 3 := by unfold lenDig; split <;> simp
     omega
   · split
     · rw [List.length_append, hs, List.length_replicate]; omega
     · rw [hs]; omega
 · rw [enc_bad h]; decide
theorem encEs_len (es : List El) : (encEs es).length ≤ 300 * es.length := by
 induction es with
 | nil => simp [encEs]
 | cons x l ih =>
  have h := enc300 x.1 x.2
  have e : encEs (x :: l) = (encS x.1 x.2).data.toList ++ encEs l := rfl
  rw [e, List.length_append, len_list, List.length_cons]
  omega
theorem in128_nums (es : List El) (h : errL es = 0) : In128 (numsL es) := by
 intro n hn
 unfold numsL at hn
 rw [List.mem_map] at hn
 obtain ⟨x, hx, rfl⟩ := hn
 obtain ⟨k, hr, hk, _⟩ := enc_good (errL_zero es h x hx)
 have := (rowOf_spec hr).2
 have hd : 2 ≤ dNum k ∧ dNum k ≤ 128 := below23 (P := fun k => 2 ≤ dNum k ∧ dNum k ≤ 128) (by decide) k hk
 omega
theorem own_at {w w' : World} {B : Nat} {T : TypeId} {sz g n c : Nat} {xs : List Value} (h : w.ownsRow B T sz (.slice (some ⟨g, 0, none⟩) n c) n xs) (hb : w'.heap[g]? = w.heap[g]?) : w'.ownsRow B T sz (.slice (some ⟨g, 0, none⟩) n c) n xs := by
 obtain ⟨h1, h | ⟨g', cap, cur, hv, hg, hgb, h2⟩⟩ := h
 · exact ⟨h1, Or.inl h⟩
 · refine ⟨h1, Or.inr ⟨g', cap, cur, hv, hg, ?_, h2⟩⟩
   have e : g = g' := by cases hv; rfl
   subst e
   rw [hb, hgb]
theorem rep0 (c : Nat) (w : World) (hc : c ≤ 4) : Calls Tryz.prog 103 #[.string ⟨#[48]⟩, .int .i64 c] w fun e w' => ∃ r : ByteArray, e = .returned (.string r) ∧ r.data.toList = List.replicate c 48 ∧ r.size ≤ 4 ∧ Ext w w' := by
 refine (Tryz.strings_Repeat ⟨#[48]⟩ c w (by omega) (by simp [ByteArray.size]; omega)).mono ?_
 rintro e w1 ⟨rfl, hb⟩
 have hd : (⟨(Lib.repeatL [48] c).toArray⟩ : ByteArray).data.toList = List.replicate c 48 := by rw [repeatL_one]
 exact ⟨_, rfl, hd, by rw [← len_list]; show (Lib.repeatL [48] c).length ≤ 4; rw [repeatL_one, List.length_replicate]; exact hc, hb⟩
theorem itoaE (n : Nat) (w : World) (g : Gl w) (h1 : 1 ≤ n) (h2 : n ≤ 9999) : Calls Tryz.prog 77 #[.int .i64 n] w fun e w' => ∃ r : ByteArray, e = .returned (.string r) ∧ r.data.toList = Lib.itoa n ∧ 1 ≤ r.size ∧ r.size ≤ 4 ∧ Ext w w' := by
 refine (Tryz.strconv_Itoa n (by omega) (by omega) w g.pow).mono ?_
 rintro e w1 ⟨rfl, k, os, rfl⟩
 have hp := pad4 n h1 h2
 refine ⟨_, rfl, rfl, ?_, ?_, ((Ext.refl w).drewN _).grow _⟩
 · rw [← len_list]; exact hp.2.1
 · rw [← len_list]; exact hp.1
theorem byteCells_app (a b : List UInt8) : Lib.byteCells (a ++ b) = Lib.byteCells a ++ Lib.byteCells b := by simp [Lib.byteCells]
theorem strCells_eq (s : ByteArray) : Lib.strCells s = Lib.byteCells s.data.toList := by rfl
theorem bldStr (B b : Nat) (l : List UInt8) (w : World) (h : Lib.IsBuilder 190 5 B b (Lib.byteCells l) w) (hBw : B ≤ w.heap.size) :
 Calls Tryz.prog 108 #[.pointer (some ⟨b, 0, none⟩)] w fun e w' => ∃ r : ByteArray, e = .returned (.string r) ∧ r.data.toList = l ∧ Below B w w' ∧ Lib.OthersKept 5 (some b) w w' := by
 refine (Tryz.Builder_String_any_k B b l w (Lib.IsBuilderF.of h) hBw).mono ?_
 rintro e w1 ⟨rfl, _, hb, hk⟩
 exact ⟨_, rfl, rfl, hb, hk⟩
end Go.Proofs.YtkggloeaojkhaaaGreatDoor
namespace Go.Proofs.YtkggloeaojkhaaaGreatDoor
open Go.RowKit
theorem bmS_size (a b : Nat) : (bmS a b).size ≤ 32 := by
 rw [← len_list]
 show (bmL a b).length ≤ 32
 unfold bmL
 split
 · rw [hexN_len]; omega
 · rw [List.length_append, hexN_len, hexN_len]; omega
theorem enc_final (ty : Int) (es : List El) (n : Nat) (hn : ty = n) (h1 : 1 ≤ n) (h2 : n ≤ 9999) (hz : mchk ty es = 0) (r0 dg vs : ByteArray) (c : Nat) (hc : 4 - (Lib.itoa n).length = c)
 (hr : r0.data.toList = List.replicate c 48) (hd : dg.data.toList = Lib.itoa n) (hv : vs.data.toList = encEs es) :
 r0 ++ dg ++ bmS (bof (numsL es) (0, 0)).1 (bof (numsL es) (0, 0)).2 ++ vs = encMS ty es := by
 apply Go.WideShapes.bytes_inj
 rw [app_data', app_data', app_data', hr, hd, hv]
 unfold encMS encM
 rw [if_pos hz]
 show _ = dig4 ty.toNat ++ _
 rw [show ty.toNat = n by omega, ← (pad4 n h1 h2).2.2, hc]
 unfold bmS
 simp
set_option maxRecDepth 8000 in
set_option maxHeartbeats 4000000 in
theorem mencode_any (ty : Int) (v : Value) (es : List El) (w : World) (g : Gl w) (hv : Elems w v es) (hl : es.length ≤ 1000) (hsv : SmallV es) :
 Calls Tryz.prog 60 #[msgAgg ty v] w (OneV (.tuple #[.string (encMS ty es), .int .i64 (mchk ty es)]) w) := by
 have hV := Lib.hid hv
 have hSV := Lib.hid hsv
 obtain ⟨q, cp, rfl, hp⟩ := hv
 have hP := Lib.hid hp
 clear hp hsv
 obtain ⟨i0, hi, hz0, hz1, hz2⟩ := info_parts infoInt
 have hI := Lib.hid hi
 have hZ0 := Lib.hid hz0
 have hZ1 := Lib.hid hz1
 have hZ2 := Lib.hid hz2
 clear hi hz0 hz1 hz2
 unfold msgAgg
 go_enter Tryz.func60, Tryz.ntmps60
 go_wp2_with fail
 refine (mcheck_any ty _ es _ (g.ext ((Ext.refl w).alloc _)) (hV.out.ext xt) (by omega) hSV.out).mono ?_
 rintro e w1 ⟨rfl, hE1⟩
 have hB1 := (Blk.new w _ _).ext hE1
 have hE01 : Ext w w1 := ((Ext.refl w).alloc _).trans hE1
 clear hE1
 have z0 := hB1.cell 0
 have z1 := hB1.cell 1
 simp at z0 z1
 by_cases hz : mchk ty es = 0
 · obtain ⟨hty1, hty2, _, herr, _⟩ := mchk_zero hz
   have hErr := Lib.hid herr
   have hZ := Lib.hid hz
   have hin := Lib.hid (in128_nums es herr)
   rw [hz]
   clear hz herr
   obtain ⟨tn, rfl⟩ : ∃ tn : Nat, ty = tn := ⟨ty.toNat, by omega⟩
   have ht1 : 1 ≤ tn := by omega
   have ht2 : tn ≤ 9999 := by omega
   have hpad := pad4 tn ht1 ht2
   have hPad := Lib.hid hpad
   clear hpad
   go_wp2_with fail
   refine (itoaE tn _ (g.ext hE01) ht1 ht2).mono ?_
   rintro e w2 ⟨dg, rfl, hdg, hdg1, hdg2, hE2⟩
   have hDg := Lib.hid hdg
   have hdl : (Lib.itoa tn).length = dg.size := by rw [← hdg, len_list]
   have hDl := Lib.hid hdl
   obtain ⟨c, hc⟩ : ∃ c : Nat, 4 - (Lib.itoa tn).length = c := ⟨_, rfl⟩
   have hwr : IntKind.i64.wrap (4 - (dg.size : Int)) = (c : Int) := by rw [IntKind.wrap_i64] <;> omega
   have hc4 : c ≤ 4 := by omega
   have hC := Lib.hid hc
   have hWr := Lib.hid hwr
   clear hdg hdl hc hwr
   have hB2 := hB1.ext hE2
   have hE02 := hE01.trans hE2
   have hlt2 := hB2.lt
   clear hE2 hB1 z0 z1
   have z0 := hB2.cell 0
   have z1 := hB2.cell 1
   simp at z0 z1
   go_wp2_with (at_make; refine wpList_make_own _ rfl _ _ 98 rfl w2.heap.size 3 i0 (.int .i64 0) 1 Tryz.underlying98 hI.out hZ0.out hZ1.out _ _ _ es.length rfl rfl rfl ?_ ?_ ?_ ?_)
   · rw [hZ2.out]; omega
   · unfold maxLen; omega
   · exact Nat.le_refl _
   intro w3 hown3 hgrow3
   have hE3 : Ext w2 w3 := Below.grown (Below.refl _ _) hgrow3 (Nat.le_refl _) (fun k hk => by cases hk)
   have hg3 : w2.heap.size < w3.heap.size := by
    rcases hown3.2 with ⟨h, _⟩ | ⟨g', cap, cur, hv', _, hb', _⟩
    · cases h
    · cases hv'; exact (Array.getElem?_eq_some_iff.1 hb').1
   clear hgrow3
   have hB3 := hB2.ext hE3
   have y0 := hB3.cell 0
   have y1 := hB3.cell 1
   have hlt3 := hB3.lt
   simp at y0 y1
   clear z0 z1
   go_wp2
   have hbd : Lib.IsBuilder 190 5 w3.heap.size w3.heap.size (Lib.byteCells (encEs (es.take 0))) (w3.alloc (.cells #[.pointer none, .slice none 0 0] 190)) :=
    Or.inl ⟨Nat.le_refl _, _, Blk.new w3 _ _, ⟨rfl, Or.inl ⟨rfl, rfl⟩⟩, by simp [Value.ownBlock]⟩
   go_loopw [6, 29] (fun u i wr => ∃ k : Nat, k ≤ es.length ∧ i = .int .i64 k ∧ u = .slice (some ⟨w2.heap.size, 0, none⟩) k es.length ∧ wr.ownsRow w2.heap.size 3 1 (.slice (some ⟨w2.heap.size, 0, none⟩) k es.length) k ((numsL (es.take k)).map (Value.int .i64)) ∧ Lib.IsBuilder 190 5 w3.heap.size w3.heap.size (Lib.byteCells (encEs (es.take k))) wr ∧ Ext w2 wr ∧ w3.heap.size < wr.heap.size) (fun _ i _ => es.length - (intOf i).toNat)
   case atStart => exact ⟨0, by omega, rfl, rfl, hown3.alloc _, hbd, hE3.alloc _, by simp⟩
   case round =>
    obtain ⟨k, hk, rfl, rfl, hown, hbl, hE, hwl⟩ := hrel
    have hBl := Lib.hid hbl
    clear hbl
    by_cases hlt : k < es.length
    · obtain ⟨b, off, rfl, hcs⟩ := hP.out (by omega)
      have hEw := hE02.trans hE
      have c0 := hEw.get (hcs k hlt).1
      have c1 := hEw.get (hcs k hlt).2
      have hs1 := hSV.out k hlt
      have gk := g.ext hEw
      have hS1 := Lib.hid (nums_snoc es k hlt)
      have hS2 := Lib.hid (encEs_snoc es k hlt)
      have hLn := encEs_len (es.take k)
      rw [List.length_take] at hLn
      have hzk := errL_zero es hErr.out (es.getD k elD) (by rw [List.getD_eq_getElem?_getD, List.getElem?_eq_getElem hlt]; exact List.getElem_mem hlt)
      clear hcs
      generalize es.getD k elD = x at *
      obtain ⟨n, s⟩ := x
      have he3 := enc300 n s
      simp only at c0 c1 hs1 hzk
      go_wp2_with fail
      refine (encodeF n s _ (gk.ext xt) hs1).mono ?_
      rintro e w4 ⟨rfl, hE4⟩
      rw [hzk]
      clear hzk
      have hX := (Blk.new wr _ _).ext hE4
      have x0 := hX.cell 0
      simp at x0
      have hE4' : Ext wr w4 := ((Ext.refl wr).alloc _).trans hE4
      have hown4 := owns_ext hown hE4'
      have hBl4 := Lib.hid (bldI_ext hBl.out hE4')
      have hs4 := hE4'.size
      have hxl := hX.lt
      clear hE4 hX hown
      generalize encS n s = es1 at *
      go_wp2_with (at_builtin; refine wpList_append_fits _ rfl _ _ 98 rfl w2.heap.size 3 i0 1 Tryz.underlying98 hI.out hZ1.out w2.heap.size k es.length _ rfl (hown4.alloc _) ⟨w4.heap.size, 0, none⟩ 1 1 [.int .i64 n] rfl rfl ?_ ?_ ?_ ?_)
      · exact cell_one_new _ _ _
      · intro u hu; rw [List.mem_singleton.1 hu]; rfl
      · omega
      intro w5 hown5 hgrow5
      have hE5 : Below w2.heap.size w4 w5 := Below.grown (Below.alloc (Below.refl _ _) (by omega) _) hgrow5 (by simp; omega) (fun k hk => by cases hk; exact Nat.le_refl _)
      have hBl5 := Lib.hid (bldI_grown (bldI_ext hBl4.out ((Ext.refl w4).alloc (.cells #[.int .i64 n] 3))) hgrow5 (fun k hk => by cases hk; exact hg3))
      have hs5 := hE5.size
      clear hgrow5
      go_wp2_with fail
      refine (bldWrite w3.heap.size w3.heap.size _ es1 _ hBl5.out (by rw [Lib.byteCells_length]; omega) (by omega)).mono ?_
      rintro e w6 ⟨rfl, hb6, hW6⟩
      have hs6 := hW6.size
      have hown6 := own_at hown5 (hW6.block w2.heap.size hg3)
      have hE6 : Ext w2 w6 := ((hE.trans hE4').below.trans hE5).trans (Below.mono hW6 (by omega))
      clear hW6 hE5 hown5
      go_wp2
      go_roundw
      case rel => exact ⟨k + 1, by omega, by go_num, by go_num, by rw [hS1.out]; simpa using hown6, by rw [hS2.out, byteCells_app, ← strCells_eq]; exact Or.inr hb6, hE6, by omega⟩
      case measure => simp [intOf]; omega
    · obtain rfl : k = es.length := by omega
      have htk : es.take es.length = es := List.take_of_length_le (Nat.le_refl _)
      rw [htk] at hBl hown
      have hEw := hE02.trans hE
      have hcells : ∀ i, i < (numsL es).length → wr.cell? ⟨w2.heap.size, 0 + i, none⟩ = some (.int .i64 ((numsL es).getD i 0)) := by
       have hI2 : Ints wr (.slice (some ⟨w2.heap.size, 0, none⟩) es.length es.length) (numsL es) := ints_of_owns (by rw [show (numsL es).length = es.length by unfold numsL; simp]; exact hown)
       rcases hI2 with ⟨h, _⟩ | ⟨b', off', cap', hv', hc'⟩
       · cases h
       · simp only [Value.slice.injEq, Option.some.injEq, Addr.mk.injEq] at hv'
         rw [← hv'.1.1, ← hv'.1.2.1] at hc'; exact hc'
      have hOf := Lib.hid (of_some w2.heap.size 0 es.length (numsL es) wr (by unfold numsL; simp; omega) hin.out hcells)
      rw [show (numsL es).length = es.length by unfold numsL; simp] at hOf
      clear hcells hown
      have hwd := Wd_bof (numsL es) hin.out (0, 0) (by unfold Wd; decide) (by unfold Wd; decide)
      have hFin := Lib.hid (enc_final (tn : Int) es tn rfl ht1 ht2 hZ.out)
      have hel := encEs_len es
      have hbz := bmS_size (bof (numsL es) (0, 0)).1 (bof (numsL es) (0, 0)).2
      go_wp2_with fail
      refine hOf.out.mono ?_
      rintro e w7 ⟨rfl, hE7⟩
      clear hOf
      generalize (bof (numsL es) (0, 0)).1 = pa at *
      generalize (bof (numsL es) (0, 0)).2 = pb at *
      have hBl := Lib.hid (bldI_ext hBl.out hE7)
      have hE0 := hEw.trans hE7
      have hws : w3.heap.size ≤ w7.heap.size := Nat.le_trans (Nat.le_of_lt hwl) hE7.size
      have hwl7 : w3.heap.size < w7.heap.size := Nat.lt_of_lt_of_le hwl hE7.size
      have hwr := hWr.out
      clear hE7
      go_wp2_with fail
      obtain ⟨BB, hBB⟩ : ∃ BB, BB = w7.heap.size := ⟨_, rfl⟩
      rw [← hBB]
      have hBb : Blk (w7.alloc (.cells #[.int .u64 pa, .int .u64 pb] 141)) BB #[.int .u64 pa, .int .u64 pb] 141 := by rw [hBB]; exact Blk.new w7 _ _
      have hBBl : w3.heap.size < BB := by omega
      have hE0 : Ext w (w7.alloc (.cells #[.int .u64 pa, .int .u64 pb] 141)) := hE0.alloc _
      have hBl := Lib.hid (bldI_ext hBl.out ((Ext.refl w7).alloc (.cells #[.int .u64 pa, .int .u64 pb] 141)))
      have hws : w3.heap.size ≤ (w7.alloc (.cells #[.int .u64 pa, .int .u64 pb] 141)).heap.size := by simp; omega
      have hww : w.heap.size ≤ w3.heap.size := by omega
      generalize w7.alloc (.cells #[.int .u64 pa, .int .u64 pb] 141) = w8 at *
      clear hBB
      have x0 : w8.cell? ⟨BB, 0, none⟩ = some (.int .u64 pa) := hBb.cell 0
      have x1 : w8.cell? ⟨BB, 1, none⟩ = some (.int .u64 pb) := hBb.cell 1
      go_region_held3 (fun w' => w'.cell? ⟨BB, 0, none⟩ = some (.int .u64 pa) ∧ w'.cell? ⟨BB, 1, none⟩ = some (.int .u64 pb)) (first | exact ⟨by assumption, by assumption⟩ | exact ⟨x0, x1⟩) (first | (go_at_call 103; refine (rep0 c _ hc4).mono ?_; rintro e w1 ⟨r0, rfl, hr0, hr0s, hE1⟩; have hR0 := Lib.hid hr0; clear hr0; have hq1 : ¬ 9223372036854775807 < r0.size + dg.size := (by omega); have hq2 : ¬ 9223372036854775807 < r0.size + dg.size + (bmS pa pb).size := (by omega); (try (have hq3 : ¬ 9223372036854775807 < r0.size + dg.size + (bmS pa pb).size + vs.size := by omega)); have hS := ext_at hE0 (by first | exact hE1 | exact Ext.undrew hE1); have hE0 := hE0.trans hS; have x0 := hS.get x0; have x1 := hS.get x1; have hBl := Lib.hid (bldI_ext hBl.out hS); have hws := Nat.le_trans hws hS.size; have hBb := hBb.ext hS; clear hE1 hS) | (go_at_call 107; refine (bencode_any pa pb _ hwd.1 hwd.2).mono ?_; rintro e w1 ⟨rfl, hE1⟩; have hS := ext_at hE0 (by first | exact hE1 | exact Ext.undrew hE1); have hE0 := hE0.trans hS; have x0 := hS.get x0; have x1 := hS.get x1; have hBl := Lib.hid (bldI_ext hBl.out hS); have hws := Nat.le_trans hws hS.size; have hBb := hBb.ext hS; clear hE1 hS) | (go_at_call 108; refine (bldStr w3.heap.size w3.heap.size (encEs es) _ (by first | exact hBl.out | exact bldI_ext hBl.out (Ext.refl _).drew) (by first | exact hws | (simp; exact hws))).mono ?_; rintro e w1 ⟨vs, rfl, hvs, hbS, hoS⟩; have hVs := Lib.hid hvs; have hvz : vs.size ≤ 300000 := (by rw [← len_list, hvs]; omega); clear hvs; have hE0 : Ext w w1 := Below.trans hE0 (Below.mono hbS (by omega)); have hBb : Blk w1 BB #[.int .u64 pa, .int .u64 pb] 141 := (by first | exact hoS BB _ hBb (by simp; omega) (fun _ _ h => by cases h)); have x0 : w1.cell? ⟨BB, 0, none⟩ = some (.int .u64 pa) := hBb.cell 0; have x1 : w1.cell? ⟨BB, 1, none⟩ = some (.int .u64 pb) := hBb.cell 1; clear hbS hoS; (try (have hq3 : ¬ 9223372036854775807 < r0.size + dg.size + (bmS pa pb).size + vs.size := by omega))))
      all_goals go_wp2
      all_goals go_ret2
      all_goals (rw [hZ.out, ← hFin.out r0 dg vs c hC.out hR0.out hDg.out hVs.out])
      all_goals exact ⟨rfl, hE0⟩
 · have hzb : (mchk ty es != 0) = true := by simpa using hz
   have hS : encMS ty es = ⟨#[]⟩ := by unfold encMS encM; rw [if_neg hz]
   have HS := Lib.hid hS
   clear hz hS
   generalize mchk ty es = ec at *
   go_wp2
   go_ret2
   rw [HS.out]
   exact ⟨rfl, hE01⟩
end Go.Proofs.YtkggloeaojkhaaaGreatDoor
