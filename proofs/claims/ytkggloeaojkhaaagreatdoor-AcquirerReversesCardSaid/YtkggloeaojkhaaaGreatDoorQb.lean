/- Contracts of the package bitmap: place, clean, Set, Count (walks). Contracts of bitmap.Of and bitmap.List (walks). Contract of bitmap.List (walk). Plain facts on hexadecimal digits. Contracts of element.Required and of the reference's Required (walks), a case a kind. Written by gen/required.py. -/
import Derived.Test.YtkggloeaojkhaaaGreatDoorQa
import Derived.Outline
import Derived.BigQuiet
import Derived.Deep.QuietTactic
import Derived.Deep.RegionWith
import Derived.LoopTactic
import Derived.OwnWalk
import Derived.Laws.OwnMore
namespace Go.Proofs.YtkggloeaojkhaaaGreatDoor
open Go.RowKit

theorem tup2 {a b c d : Value} (h1 : a = c) (h2 : b = d) : Ending.returned (.tuple #[a, b]) = .returned (.tuple #[c, d]) := by rw [h1, h2]
theorem u64_eq {a b : Int} (h : a = b) : Value.int .u64 a = .int .u64 b := by rw [h]
theorem i64_eq {a b : Int} (h : a = b) : Value.int .i64 a = .int .i64 b := by rw [h]

set_option maxHeartbeats 400000 in
theorem place_lo (n : Nat) (w : World) (h1 : 2 ≤ n) (h2 : n ≤ 64) :
 Calls Tryz.prog 112 #[.int .i64 n] w fun e w' => e = .returned (.tuple #[.int .i64 0, .int .u64 (pw (64 - n))]) ∧ ∃ k, w' = w.drewN k := by
 go_enter Tryz.func112, Tryz.ntmps112
 go_wp2
 go_quiet (fail)
 go_wp2
 go_ret2
 refine ⟨tup2 (i64_eq (by omega)) (u64_eq ?_), _, rfl⟩
 rw [wrap_pw _ (by omega)]
 congr 2; omega
set_option maxHeartbeats 400000 in
theorem place_hi (n : Nat) (w : World) (h1 : 65 ≤ n) (h2 : n ≤ 128) :
 Calls Tryz.prog 112 #[.int .i64 n] w fun e w' => e = .returned (.tuple #[.int .i64 1, .int .u64 (pw (128 - n))]) ∧ ∃ k, w' = w.drewN k := by
 go_enter Tryz.func112, Tryz.ntmps112
 go_wp2
 go_quiet (fail)
 go_wp2
 go_ret2
 refine ⟨tup2 (i64_eq (by omega)) (u64_eq ?_), _, rfl⟩
 rw [wrap_pw _ (by omega)]
 congr 2; omega

set_option maxHeartbeats 400000 in
theorem isNumber_yes (n : Int) (w : World) (h0 : 2 ≤ n) (h1 : n ≤ 128) :
 Calls Tryz.prog 183 #[.int .i64 n] w fun e w' => e = .returned (.bool true) ∧ w = w' := by
 go_enter Tryz.func183, Tryz.ntmps183
 go_wp2
 go_ret
 exact ⟨by simp, rfl⟩
def AggPost (a b : Nat) (w : World) (e : Ending) (w' : World) : Prop := e = .returned (.agg #[.int .u64 a, .int .u64 b]) ∧ ∃ o1 o2, w' = (w.alloc (.cells o1 141)).alloc (.cells o2 141)
set_option maxHeartbeats 400000 in
theorem clean_any (a b : Nat) (w : World) (ha : Wd a) (_hb : Wd b) :
 Calls Tryz.prog 110 #[.agg #[.int .u64 a, .int .u64 b]] w (AggPost (clr a) b w) := by
 have hc := bits_clr a ha
 go_enter Tryz.func110, Tryz.ntmps110
 go_wp2
 exact bodyPost_ret (v := .agg #[.int .u64 (clr a), .int .u64 b]) (by simp [results, Tryz.results110, go_sem]) rfl ⟨rfl, _, _, rfl⟩

theorem ones_key (x : Int) : ∃ c : Nat, c ≤ 127 ∧ Ending.returned (.int .i64 (bits .and .i64 x 127)) = .returned (.int .i64 c) := by
 obtain ⟨c, h, e⟩ := and_i64 x
 exact ⟨c, h, by rw [e]⟩
set_option maxHeartbeats 400000 in
theorem onesCount_any (x : Int) (w : World) :
 Calls Tryz.prog 149 #[.int .u64 x] w fun e w' => (∃ c : Nat, c ≤ 127 ∧ e = .returned (.int .i64 c)) ∧ w = w' := by
 go_enter Tryz.func149, Tryz.ntmps149
 go_wp2
 go_ret
 exact ⟨ones_key _, rfl⟩

def bset (a b n : Nat) : Nat × Nat := if n ≤ 64 then (clr a ||| pw (64 - n), b) else (clr a, b ||| pw (128 - n))
theorem Wd_bset (a b n : Nat) (hb : Wd b) (h1 : 2 ≤ n) (h2 : n ≤ 128) : Wd (bset a b n).1 ∧ Wd (bset a b n).2 := by
 unfold bset
 split
 · exact ⟨Wd_or (Wd_clr a) (Wd_pw _ (by omega)), hb⟩
 · exact ⟨Wd_clr a, Wd_or hb (Wd_pw _ (by omega))⟩
def SetPost (a b : Nat) (w : World) (e : Ending) (w' : World) : Prop := e = .returned (.tuple #[.agg #[.int .u64 a, .int .u64 b], .int .i64 0]) ∧ Ext w w'
set_option maxHeartbeats 400000 in
theorem set_lo (a b n : Nat) (w : World) (ha : Wd a) (hb : Wd b) (h1 : 2 ≤ n) (h2 : n ≤ 64) :
 Calls Tryz.prog 147 #[.agg #[.int .u64 a, .int .u64 b], .int .i64 n] w (SetPost (bset a b n).1 (bset a b n).2 w) := by
 have ho := Lib.hid (bits_or (clr a) (pw (64 - n)) (Wd_clr a) (Wd_pw _ (by omega)))
 go_enter Tryz.func147, Tryz.ntmps147
 go_wp2_with (first | (go_at_call 183; refine (isNumber_yes _ _ (by omega) (by omega)).mono ?_; rintro e w1 ⟨rfl, rfl⟩) | (go_at_call 112; refine (place_lo n _ h1 h2).mono ?_; rintro e w1 ⟨rfl, k1, rfl⟩; simp only [alloc_drewN]; generalize hw0 : w.drewN k1 = w0; obtain ⟨hz, hE0⟩ := draw_eq hw0; rw [hz]; clear hw0 hz))
 refine (clean_any a b _ ha hb).mono ?_
 rintro e w1 ⟨rfl, o1, o2, rfl⟩
 have ho := ho.out
 go_wp2
 exact bodyPost_ret (v := .tuple #[.agg #[.int .u64 (bset a b n).1, .int .u64 (bset a b n).2], .int .i64 0]) (by simp [results, Tryz.results147, go_sem, bset, h2]) rfl ⟨rfl, xt⟩
set_option maxHeartbeats 400000 in
theorem set_hi (a b n : Nat) (w : World) (ha : Wd a) (hb : Wd b) (h1 : 65 ≤ n) (h2 : n ≤ 128) :
 Calls Tryz.prog 147 #[.agg #[.int .u64 a, .int .u64 b], .int .i64 n] w (SetPost (bset a b n).1 (bset a b n).2 w) := by
 have ho := Lib.hid (bits_or b (pw (128 - n)) hb (Wd_pw _ (by omega)))
 go_enter Tryz.func147, Tryz.ntmps147
 go_wp2_with (first | (go_at_call 183; refine (isNumber_yes _ _ (by omega) (by omega)).mono ?_; rintro e w1 ⟨rfl, rfl⟩) | (go_at_call 112; refine (place_hi n _ h1 h2).mono ?_; rintro e w1 ⟨rfl, k1, rfl⟩; simp only [alloc_drewN]; generalize hw0 : w.drewN k1 = w0; obtain ⟨hz, hE0⟩ := draw_eq hw0; rw [hz]; clear hw0 hz))
 refine (clean_any a b _ ha hb).mono ?_
 rintro e w1 ⟨rfl, o1, o2, rfl⟩
 have ho := ho.out
 go_wp2
 exact bodyPost_ret (v := .tuple #[.agg #[.int .u64 (bset a b n).1, .int .u64 (bset a b n).2], .int .i64 0]) (by simp [results, Tryz.results147, go_sem, bset, show ¬ n ≤ 64 by omega]) rfl ⟨rfl, xt⟩

theorem set_any (a b n : Nat) (w : World) (ha : Wd a) (hb : Wd b) (h1 : 2 ≤ n) (h2 : n ≤ 128) :
 Calls Tryz.prog 147 #[.agg #[.int .u64 a, .int .u64 b], .int .i64 n] w (SetPost (bset a b n).1 (bset a b n).2 w) := by
 by_cases h : n ≤ 64
 · exact set_lo a b n w ha hb h1 h
 · exact set_hi a b n w ha hb (by omega) h2
def CountPost (w : World) (e : Ending) (w' : World) : Prop := ∃ c : Nat, c ≤ 254 ∧ e = .returned (.int .i64 c) ∧ Ext w w'
set_option maxHeartbeats 400000 in
theorem count_any (a b : Nat) (w : World) (ha : Wd a) (hb : Wd b) :
 Calls Tryz.prog 111 #[.agg #[.int .u64 a, .int .u64 b]] w (CountPost w) := by
 go_enter Tryz.func111, Tryz.ntmps111
 go_wp2_with fail
 refine (clean_any a b _ ha hb).mono ?_
 rintro e w1 ⟨rfl, o1, o2, rfl⟩
 go_wp2_with (go_at_call 149; refine (onesCount_any _ _).mono ?_; rintro e w2 ⟨⟨c, hc, rfl⟩, rfl⟩)
 go_region_with (go_at_call 149; refine (onesCount_any _ _).mono ?_; rintro e w2 ⟨⟨c, hc, rfl⟩, rfl⟩)
 all_goals (go_wp2; go_ret)
 all_goals (rename_i c1 hc1; refine ⟨c1 + c, by omega, ?_, xt⟩; simp [Act.put, go_sem]; rw [IntKind.wrap_i64] <;> omega)
end Go.Proofs.YtkggloeaojkhaaaGreatDoor
namespace Go.Proofs.YtkggloeaojkhaaaGreatDoor
open Go.RowKit

/-- The bitmap of a list of numbers. -/
def bof : List Int → Nat × Nat → Nat × Nat
 | [], p => p
 | n :: l, p => bof l (bset p.1 p.2 n.toNat)
theorem bof_snoc (l : List Int) (n : Int) (p : Nat × Nat) : bof (l ++ [n]) p = bset (bof l p).1 (bof l p).2 n.toNat := by
 induction l generalizing p with
 | nil => rfl
 | cons m l ih => simp only [List.cons_append, bof]; exact ih _
def In128 (l : List Int) : Prop := ∀ n ∈ l, 2 ≤ n ∧ n ≤ 128
theorem Wd_bof (l : List Int) (h : In128 l) (p : Nat × Nat) (h1 : Wd p.1) (h2 : Wd p.2) : Wd (bof l p).1 ∧ Wd (bof l p).2 := by
 induction l generalizing p with
 | nil => exact ⟨h1, h2⟩
 | cons m l ih =>
  have hm := h m (by simp)
  have := Wd_bset p.1 p.2 m.toNat h2 (by omega) (by omega)
  exact ih (fun n hn => h n (by simp [hn])) _ this.1 this.2
def OfPost (p : Nat × Nat) (w : World) (e : Ending) (w' : World) : Prop := e = .returned (.tuple #[.agg #[.int .u64 p.1, .int .u64 p.2], .int .i64 0]) ∧ Ext w w'

theorem of_step (zs : List Int) (k : Nat) (hlt : k < zs.length) (hin : In128 zs) : ∃ n : Nat, zs.getD k 0 = (n : Int) ∧ 2 ≤ n ∧ n ≤ 128 ∧ bof (zs.take (k + 1)) (0, 0) = bset (bof (zs.take k) (0, 0)).1 (bof (zs.take k) (0, 0)).2 n ∧ Wd (bof (zs.take k) (0, 0)).1 ∧ Wd (bof (zs.take k) (0, 0)).2 := by
 have hm := hin (zs[k]) (List.getElem_mem hlt)
 have hw := Wd_bof (zs.take k) (fun n hn => hin n (List.mem_of_mem_take hn)) (0, 0) (by unfold Wd; decide) (by unfold Wd; decide)
 refine ⟨zs[k].toNat, ?_, by omega, by omega, ?_, hw.1, hw.2⟩
 · rw [List.getD_eq_getElem?_getD, List.getElem?_eq_getElem hlt]; simp only [Option.getD_some]; omega
 · rw [List.take_succ_eq_append_getElem hlt, bof_snoc]

set_option maxHeartbeats 400000 in
theorem of_nil (w : World) : Calls Tryz.prog 106 #[.slice none 0 0] w (OfPost (bof [] (0, 0)) w) := by
 go_enter Tryz.func106, Tryz.ntmps106
 go_wp2
 go_loop [12] (fun i => i = .int .i64 0) (fun _ => 0)
 case atStart => rfl
 case round =>
  subst hrel
  go_wp2
  exact bodyPost_ret (v := .tuple #[.agg #[.int .u64 0, .int .u64 0], .int .i64 0]) (by simp [results, Tryz.results106, go_sem]) rfl ⟨rfl, xt⟩

set_option maxHeartbeats 1000000 in
theorem of_some (b off cap : Nat) (zs : List Int) (w : World) (hl : zs.length ≤ 1000000) (hin : In128 zs) (hc : ∀ i, i < zs.length → w.cell? ⟨b, off + i, none⟩ = some (.int .i64 (zs.getD i 0))) :
 Calls Tryz.prog 106 #[.slice (some ⟨b, off, none⟩) zs.length cap] w (OfPost (bof zs (0, 0)) w) := by
 have hc := Lib.hid hc
 have hin := Lib.hid hin
 go_enter Tryz.func106, Tryz.ntmps106
 go_wp2
 go_loopw [12] (fun i wr => ∃ k : Nat, k ≤ zs.length ∧ i = .int .i64 k ∧ Ext w wr ∧ Blk wr w.heap.size #[.int .u64 0, .int .u64 0] 141 ∧ Blk wr (w.heap.size + 1) #[.int .u64 (bof (zs.take k) (0, 0)).1, .int .u64 (bof (zs.take k) (0, 0)).2] 141) (fun i _ => zs.length - (intOf i).toNat)
 case atStart => exact ⟨0, Nat.zero_le _, rfl, xt, (Blk.new _ _ _).alloc _, Blk.new' _ _ _ _ (by simp)⟩
 case round =>
  obtain ⟨k, hk, rfl, hE, hB0, hB1⟩ := hrel
  by_cases hlt : k < zs.length
  · obtain ⟨n, hz, hn1, hn2, hs, hwa, hwb⟩ := of_step zs k hlt hin.out
    have hcell : wr.cell? ⟨b, off + k, none⟩ = some (.int .i64 n) := by rw [← hz]; exact hE.get (hc.out k hlt)
    clear hz
    have hS := Lib.hid hs
    clear hs
    generalize (bof (zs.take k) (0, 0)).1 = pa at *
    generalize (bof (zs.take k) (0, 0)).2 = pb at *
    have c0 : wr.cell? ⟨w.heap.size + 1, 0, none⟩ = some (.int .u64 pa) := hB1.cell 0
    have c1 : wr.cell? ⟨w.heap.size + 1, 1, none⟩ = some (.int .u64 pb) := hB1.cell 1
    go_wp2_with fail
    refine (set_any pa pb n _ hwa hwb hn1 hn2).mono ?_
    rintro e w1 ⟨rfl, hE1⟩
    have hB0' := hB0.ext hE1
    have hB1' := hB1.ext hE1
    have hlt1 := hB1'.lt
    have c0 : w1.cell? ⟨w.heap.size + 1, 0, none⟩ = some (.int .u64 pa) := hB1'.cell 0
    have c1 : w1.cell? ⟨w.heap.size + 1, 1, none⟩ = some (.int .u64 pb) := hB1'.cell 1
    have f0 : w1.frozen? ⟨w.heap.size + 1, 0, none⟩ = false := hB1'.fz 0
    have f1 : w1.frozen? ⟨w.heap.size + 1, 1, none⟩ = false := hB1'.fz 1
    have hE0 := hE.trans hE1
    go_wp2_with fail
    go_roundw
    case rel => exact ⟨k + 1, by omega, by go_num, xt, ((hB0'.other 0 _ (by omega)).other 1 _ (by omega)).alloc _, by rw [hS.out]; exact ((hB1'.set 0 _).set 1 _).alloc _⟩
    case measure => simp [intOf]; omega
  · have hkk : zs.take k = zs := List.take_of_length_le (by omega)
    rw [hkk] at hB1
    have c0 := hB1.cell 0
    have c1 := hB1.cell 1
    have d0 := hB0.cell 0
    have d1 := hB0.cell 1
    have f0 := hB0.fz 0
    have f1 := hB0.fz 1
    go_wp2_with fail
    exact bodyPost_ret (v := .tuple #[.agg #[.int .u64 (bof zs (0, 0)).1, .int .u64 (bof zs (0, 0)).2], .int .i64 0]) (by simp [results, Tryz.results106, go_sem, d0, d1]) rfl ⟨rfl, by repeat (first | exact hE | refine Ext.setCell ?_ (by simp) _)⟩
end Go.Proofs.YtkggloeaojkhaaaGreatDoor
namespace Go.Proofs.YtkggloeaojkhaaaGreatDoor
open Go.RowKit

/-- Whether a number is in a bitmap. -/
def bmem (a b n : Nat) : Bool := if n ≤ 64 then a.testBit (64 - n) else b.testBit (128 - n)
/-- The numbers from 2 on and below n that are in a bitmap. -/
def blist (a b n : Nat) : List Int := ((List.range' 2 (n - 2)).filter (bmem a b)).map Int.ofNat
theorem blist_succ (a b n : Nat) (h : 2 ≤ n) : blist a b (n + 1) = blist a b n ++ if bmem a b n then [(n : Int)] else [] := by
 unfold blist
 rw [show n + 1 - 2 = (n - 2) + 1 by omega, List.range'_concat, List.filter_append, List.map_append]
 congr 1
 rw [show 2 + 1 * (n - 2) = n by omega, List.filter_cons]
 split <;> rfl
theorem blist_len (a b n : Nat) : (blist a b n).length ≤ n := by
 unfold blist
 rw [List.length_map]
 have := List.length_filter_le (bmem a b) (List.range' 2 (n - 2))
 rw [List.length_range'] at this
 omega
theorem int_ne0_true {x : Int} (h : x ≠ 0) : (x != 0) = true := by simpa using h
theorem int_ne0_false {x : Int} (h : ¬ x ≠ 0) : (x != 0) = false := by simpa using h

theorem infoInt : (Tryz.prog.info? 3).map (fun i => (i.zero, i.size, i.bytes)) = some (some (.int .i64 0), 1, 8) := by kernel_rfl
theorem ints_of_owns {w : World} {B : Nat} {v : Value} {zs : List Int} (h : w.ownsRow B 3 1 v zs.length (zs.map (Value.int .i64))) : Ints w v zs := by
 obtain ⟨_, h | ⟨g, cap, cur, rfl, _, hb, _, _, _, hx⟩⟩ := h
 · exact Or.inl ⟨h.1, List.length_eq_zero_iff.1 h.2⟩
 · refine Or.inr ⟨g, 0, cap, rfl, fun i hi => ?_⟩
   have h1 : cur.toList[i]? = some (.int .i64 (zs.getD i 0)) := by
    have := congrArg (fun l => l[i]?) hx
    simp only [List.getElem?_take, List.getElem?_map] at this
    rw [if_pos (by omega)] at this
    rw [this, List.getD_eq_getElem?_getD, List.getElem?_eq_getElem hi]; rfl
   unfold World.cell?
   simp only [hb, Nat.zero_add]
   simpa using h1
def ListPost (zs : List Int) (w : World) (e : Ending) (w' : World) : Prop := ∃ v, e = .returned v ∧ Ints w' v zs ∧ Ext w w'

set_option maxRecDepth 4000 in
set_option maxHeartbeats 1000000 in
theorem list_any (a b : Nat) (w : World) (ha : Wd a) (hb : Wd b) :
 Calls Tryz.prog 66 #[.agg #[.int .u64 a, .int .u64 b]] w (ListPost (blist a b 129) w) := by
 obtain ⟨i0, hi, hz0, hz1, hz2⟩ := info_parts infoInt
 have hI := Lib.hid hi
 have hZ0 := Lib.hid hz0
 have hZ1 := Lib.hid hz1
 have hZ2 := Lib.hid hz2
 clear hi hz0 hz1 hz2
 go_enter Tryz.func66, Tryz.ntmps66
 go_wp2_with fail
 refine (count_any a b _ ha hb).mono ?_
 rintro e w1 ⟨c, hc, rfl, hE⟩
 have hs1 := hE.size
 simp only [World.size_alloc] at hs1
 go_wp2_with (at_make; refine wpList_make_own _ rfl _ _ 98 rfl (w.heap.size + 1) 3 i0 (.int .i64 0) 1 Tryz.underlying98 hI.out hZ0.out hZ1.out _ _ _ c rfl rfl rfl ?_ ?_ ?_ ?_)
 · rw [hZ2.out]; omega
 · unfold maxLen; omega
 · omega
 intro w2 hown hgrow
 have hB : Below (w.heap.size + 1) (w.alloc (.cells #[.int .u64 a, .int .u64 b] 141)) w2 := Below.grown (Below.mono hE (by simp)) hgrow (by omega) (fun k hk => by cases hk)
 clear hgrow hE
 go_wp2
 go_loopw [3, 4] (fun v i wr => ∃ n : Nat, 2 ≤ n ∧ n ≤ 129 ∧ i = .int .i64 n ∧ wr.ownsRow (w.heap.size + 1) 3 1 v (blist a b n).length ((blist a b n).map (Value.int .i64)) ∧ Below (w.heap.size + 1) (w.alloc (.cells #[.int .u64 a, .int .u64 b] 141)) wr) (fun _ i _ => 129 - (intOf i).toNat)
 case atStart => exact ⟨2, by omega, by omega, rfl, hown, hB⟩
 case round =>
  obtain ⟨n, hn1, hn2, rfl, hownr, hBr⟩ := hrel
  have hbl : Blk wr w.heap.size #[.int .u64 a, .int .u64 b] 141 := by unfold Blk; rw [hBr.block _ (by omega)]; exact Blk.new w _ _
  have c0 : wr.cell? ⟨w.heap.size, 0, none⟩ = some (.int .u64 a) := hbl.cell 0
  have c1 : wr.cell? ⟨w.heap.size, 1, none⟩ = some (.int .u64 b) := hbl.cell 1
  clear hown hB hbl
  by_cases hlt : n ≤ 128
  · by_cases h64 : n ≤ 64
    · by_cases ht : a.testBit (64 - n) = true
      · have hbm : bmem a b n = true := by unfold bmem; rw [if_pos h64]; exact ht
        have hS := Lib.hid (blist_succ a b n hn1)
        have hand := bits_and a (pw (64 - n)) ha (Wd_pw _ (by omega))
        have hne : (((a &&& pw (64 - n) : Nat) : Int) != 0) = true := int_ne0_true ((and_pw_ne _ _).2 ht)
        have hM := Lib.hid hbm
        clear hbm ht
        go_wp2_with (first | (go_at_call 112; refine (place_lo n _ (by omega) (by omega)).mono ?_; rintro e w3 ⟨rfl, k1, rfl⟩; generalize hw0 : wr.drewN k1 = w0; obtain ⟨hz, hE0⟩ := draw_eq hw0; have hB0 := hBr.trans (Below.mono hE0 (by have := hBr.size; simp at this; omega)); have c0 : w0.cell? ⟨w.heap.size, 0, none⟩ = some (.int .u64 a) := hE0.get c0; have hown0 : w0.ownsRow (w.heap.size + 1) 3 1 u3 (blist a b n).length ((blist a b n).map (Value.int .i64)) := (by rw [← hw0]; exact hownr); clear hw0 hz) | (at_builtin; refine wpList_append_own _ rfl _ _ 98 rfl (w.heap.size + 1) 3 i0 (.int .i64 0) 1 8 Tryz.underlying98 hI.out hZ0.out hZ1.out hZ2.out rfl (by decide) _ _ _ rfl (hown0.alloc _) ⟨w0.heap.size, 0, none⟩ 1 1 [.int .i64 n] rfl rfl ?_ ?_ ?_ ?_ ?_ ?_))
        · exact cell_one_new _ _ _
        · intro u hu; rw [List.mem_singleton.1 hu]; rfl
        · unfold maxLen; have := blist_len a b n; omega
        · have := blist_len a b n; omega
        · have := hB0.size; simp at this ⊢; omega
        intro v' w4 hown4 hgrow4 _
        go_wp2
        go_roundw
        case rel => exact ⟨n + 1, by omega, by omega, by go_num, by rw [hS.out, hM.out]; simpa using hown4, Below.grown (Below.alloc hB0 (by have := hB0.size; simp at this; omega) _) hgrow4 (by have := hB0.size; simp at this ⊢; omega) (fun k hk => (hown0.lt k hk).1)⟩
        case measure => simp [intOf]; omega
      · have hbm : bmem a b n = false := by unfold bmem; rw [if_pos h64]; exact Bool.eq_false_iff.2 ht
        have hS := Lib.hid (blist_succ a b n hn1)
        have hand := bits_and a (pw (64 - n)) ha (Wd_pw _ (by omega))
        have hne : (((a &&& pw (64 - n) : Nat) : Int) != 0) = false := int_ne0_false (fun h => ht ((and_pw_ne _ _).1 h))
        have hM := Lib.hid hbm
        clear hbm ht
        go_wp2_with (first | (go_at_call 112; refine (place_lo n _ (by omega) (by omega)).mono ?_; rintro e w3 ⟨rfl, k1, rfl⟩; generalize hw0 : wr.drewN k1 = w0; obtain ⟨hz, hE0⟩ := draw_eq hw0; have hB0 := hBr.trans (Below.mono hE0 (by have := hBr.size; simp at this; omega)); have c0 : w0.cell? ⟨w.heap.size, 0, none⟩ = some (.int .u64 a) := hE0.get c0; have hown0 : w0.ownsRow (w.heap.size + 1) 3 1 u3 (blist a b n).length ((blist a b n).map (Value.int .i64)) := (by rw [← hw0]; exact hownr); clear hw0 hz))
        go_roundw
        case rel => exact ⟨n + 1, by omega, by omega, by go_num, by rw [hS.out, hM.out]; simpa using hown0, hB0⟩
        case measure => simp [intOf]; omega
    · by_cases ht : b.testBit (128 - n) = true
      · have hbm : bmem a b n = true := by unfold bmem; rw [if_neg h64]; exact ht
        have hS := Lib.hid (blist_succ a b n hn1)
        have hand := bits_and b (pw (128 - n)) hb (Wd_pw _ (by omega))
        have hne : (((b &&& pw (128 - n) : Nat) : Int) != 0) = true := int_ne0_true ((and_pw_ne _ _).2 ht)
        have hM := Lib.hid hbm
        clear hbm ht
        go_wp2_with (first | (go_at_call 112; refine (place_hi n _ (by omega) (by omega)).mono ?_; rintro e w3 ⟨rfl, k1, rfl⟩; generalize hw0 : wr.drewN k1 = w0; obtain ⟨hz, hE0⟩ := draw_eq hw0; have hB0 := hBr.trans (Below.mono hE0 (by have := hBr.size; simp at this; omega)); have c0 : w0.cell? ⟨w.heap.size, 1, none⟩ = some (.int .u64 b) := hE0.get c1; have hown0 : w0.ownsRow (w.heap.size + 1) 3 1 u3 (blist a b n).length ((blist a b n).map (Value.int .i64)) := (by rw [← hw0]; exact hownr); clear hw0 hz) | (at_builtin; refine wpList_append_own _ rfl _ _ 98 rfl (w.heap.size + 1) 3 i0 (.int .i64 0) 1 8 Tryz.underlying98 hI.out hZ0.out hZ1.out hZ2.out rfl (by decide) _ _ _ rfl (hown0.alloc _) ⟨w0.heap.size, 0, none⟩ 1 1 [.int .i64 n] rfl rfl ?_ ?_ ?_ ?_ ?_ ?_))
        · exact cell_one_new _ _ _
        · intro u hu; rw [List.mem_singleton.1 hu]; rfl
        · unfold maxLen; have := blist_len a b n; omega
        · have := blist_len a b n; omega
        · have := hB0.size; simp at this ⊢; omega
        intro v' w4 hown4 hgrow4 _
        go_wp2
        go_roundw
        case rel => exact ⟨n + 1, by omega, by omega, by go_num, by rw [hS.out, hM.out]; simpa using hown4, Below.grown (Below.alloc hB0 (by have := hB0.size; simp at this; omega) _) hgrow4 (by have := hB0.size; simp at this ⊢; omega) (fun k hk => (hown0.lt k hk).1)⟩
        case measure => simp [intOf]; omega
      · have hbm : bmem a b n = false := by unfold bmem; rw [if_neg h64]; exact Bool.eq_false_iff.2 ht
        have hS := Lib.hid (blist_succ a b n hn1)
        have hand := bits_and b (pw (128 - n)) hb (Wd_pw _ (by omega))
        have hne : (((b &&& pw (128 - n) : Nat) : Int) != 0) = false := int_ne0_false (fun h => ht ((and_pw_ne _ _).1 h))
        have hM := Lib.hid hbm
        clear hbm ht
        go_wp2_with (first | (go_at_call 112; refine (place_hi n _ (by omega) (by omega)).mono ?_; rintro e w3 ⟨rfl, k1, rfl⟩; generalize hw0 : wr.drewN k1 = w0; obtain ⟨hz, hE0⟩ := draw_eq hw0; have hB0 := hBr.trans (Below.mono hE0 (by have := hBr.size; simp at this; omega)); have c0 : w0.cell? ⟨w.heap.size, 1, none⟩ = some (.int .u64 b) := hE0.get c1; have hown0 : w0.ownsRow (w.heap.size + 1) 3 1 u3 (blist a b n).length ((blist a b n).map (Value.int .i64)) := (by rw [← hw0]; exact hownr); clear hw0 hz))
        go_roundw
        case rel => exact ⟨n + 1, by omega, by omega, by go_num, by rw [hS.out, hM.out]; simpa using hown0, hB0⟩
        case measure => simp [intOf]; omega
  · obtain rfl : n = 129 := by omega
    go_wp2
    go_ret
    exact ⟨_, rfl, ints_of_owns hownr, ((Ext.refl w).alloc _).trans (Below.mono hBr (by simp))⟩
end Go.Proofs.YtkggloeaojkhaaaGreatDoor
namespace Go.Proofs.YtkggloeaojkhaaaGreatDoor
open Go

/-- A hexadecimal digit. -/
def hexD (m : Nat) : UInt8 := if m < 10 then UInt8.ofNat (48 + m) else UInt8.ofNat (87 + m)
/-- The last n hexadecimal digits of x. -/
def hexN (x : Nat) : Nat → List UInt8
 | 0 => []
 | n + 1 => hexD (x / 16 ^ n % 16) :: hexN x n
theorem hexN_len (x n : Nat) : (hexN x n).length = n := by
 induction n with
 | zero => rfl
 | succ n ih => simp [hexN, ih]
theorem hexN_at (x n i : Nat) (h : i < n) : (hexN x n)[i]? = some (hexD (x / 16 ^ (n - 1 - i) % 16)) := by
 induction n generalizing i with
 | zero => omega
 | succ n ih =>
  cases i with
  | zero => simp [hexN]
  | succ i =>
   rw [hexN, List.getElem?_cons_succ, ih i (by omega)]
   congr 5
   omega
/-- The value of a hexadecimal digit. -/
def hxB (c : UInt8) : Bool := (decide (48 ≤ c.toNat) && decide (c.toNat ≤ 57)) || (decide (97 ≤ c.toNat) && decide (c.toNat ≤ 102))
def hexV (c : UInt8) : Nat := if c.toNat ≤ 57 then c.toNat - 48 else c.toNat - 87
def hexNum (l : List UInt8) : Nat := l.foldl (fun n c => n * 16 + hexV c) 0
theorem hexNum_snoc (l : List UInt8) (c : UInt8) : hexNum (l ++ [c]) = hexNum l * 16 + hexV c := by
 unfold hexNum; rw [List.foldl_append]; rfl
theorem hexV_lt (c : UInt8) (h : hxB c = true) : hexV c < 16 := by
 unfold hxB at h; unfold hexV
 simp only [Bool.or_eq_true, Bool.and_eq_true, decide_eq_true_eq] at h
 split <;> omega
theorem hexFold (l : List UInt8) (a : Nat) : l.foldl (fun n c => n * 16 + hexV c) a = a * 16 ^ l.length + hexNum l := by
 induction l generalizing a with
 | nil => simp [hexNum]
 | cons c l ih =>
  unfold hexNum
  rw [List.foldl_cons, List.foldl_cons, ih, ih (0 * 16 + hexV c), List.length_cons, Nat.pow_succ]
  simp only [Nat.add_mul, Nat.zero_mul, Nat.zero_add]
  rw [Nat.mul_assoc, Nat.mul_comm 16, Nat.add_assoc]
theorem hexNum_cons (c : UInt8) (l : List UInt8) : hexNum (c :: l) = hexV c * 16 ^ l.length + hexNum l := by
 show List.foldl _ _ _ = _
 rw [List.foldl_cons, hexFold]; simp
theorem hexNum_lt (l : List UInt8) (h : l.all hxB = true) : hexNum l < 16 ^ l.length := by
 induction l with
 | nil => decide
 | cons c l ih =>
  rw [List.all_cons, Bool.and_eq_true] at h
  have h1 := ih h.2
  have h2 := hexV_lt c h.1
  rw [hexNum_cons, List.length_cons, Nat.pow_succ]
  have h3 : (hexV c + 1) * 16 ^ l.length ≤ 16 * 16 ^ l.length := Nat.mul_le_mul_right _ (by omega)
  rw [Nat.add_mul, Nat.one_mul] at h3
  omega
theorem hexD_spec (m : Nat) (h : m < 16) : hxB (hexD m) = true ∧ hexV (hexD m) = m := by
 have key : ∀ m : Fin 16, hxB (hexD m.val) = true ∧ hexV (hexD m.val) = m.val := by decide
 exact key ⟨m, h⟩
theorem hexV_back (c : UInt8) (h : hxB c = true) : hexD (hexV c) = c := by
 have key : ∀ c : Fin 256, hxB (UInt8.ofNat c.val) = true → hexD (hexV (UInt8.ofNat c.val)) = UInt8.ofNat c.val := by decide +kernel
 have := key ⟨c.toNat, c.toNat_lt⟩
 simpa using this (by simpa using h)
theorem hexN_all (x n : Nat) : (hexN x n).all hxB = true := by
 induction n with
 | zero => rfl
 | succ n ih => simp only [hexN, List.all_cons, ih, Bool.and_true]; exact (hexD_spec _ (Nat.mod_lt _ (by decide))).1
theorem hexN_num (x n : Nat) : hexNum (hexN x n) = x % 16 ^ n := by
 induction n with
 | zero => simp [hexN, hexNum, Nat.mod_one]
 | succ n ih =>
  have : hexNum (hexN x (n + 1)) = hexV (hexD (x / 16 ^ n % 16)) * 16 ^ n + hexNum (hexN x n) := by
   rw [hexN]
   show List.foldl _ _ _ = _
   rw [List.foldl_cons, hexFold, hexN_len]
   simp
  rw [this, ih, (hexD_spec _ (Nat.mod_lt _ (by decide))).2, Nat.pow_succ, Nat.mod_mul, Nat.mul_comm, Nat.add_comm]
theorem hexNum_back (l : List UInt8) (h : l.all hxB = true) : hexN (hexNum l) l.length = l := by
 induction l with
 | nil => rfl
 | cons c l ih =>
  simp only [List.all_cons, Bool.and_eq_true] at h
  have hl := hexNum_lt l h.2
  have e : hexNum (c :: l) = hexV c * 16 ^ l.length + hexNum l := by
   show List.foldl _ _ _ = _
   rw [List.foldl_cons, hexFold]; simp
  have hmod : ∀ n x y, hexN (x * 16 ^ n + y) n = hexN y n := by
   intro n
   have aux : ∀ m n x y, m ≤ n → hexN (x * 16 ^ n + y) m = hexN y m := by
    intro m
    induction m with
    | zero => intros; rfl
    | succ m ihm =>
     intro n x y hmn
     rw [hexN, hexN, ihm n x y (by omega)]
     congr 2
     obtain ⟨d, rfl⟩ : ∃ d, n = m + 1 + d := ⟨n - (m + 1), by omega⟩
     have : x * 16 ^ (m + 1 + d) + y = 16 ^ m * (16 * (x * 16 ^ d)) + y := by
      rw [Nat.pow_add, Nat.pow_succ]
      congr 1
      rw [← Nat.mul_assoc (16 ^ m), ← Nat.mul_assoc, Nat.mul_comm x, Nat.mul_assoc, Nat.mul_assoc]
     rw [this, Nat.mul_add_div (Nat.pow_pos (by decide)), Nat.mul_add_mod]
   intro x y
   exact aux n n x y (Nat.le_refl _)
  rw [List.length_cons, hexN, e, hmod, ih h.2]
  congr 1
  rw [Nat.mul_comm, Nat.mul_add_div (Nat.pow_pos (by decide)), Nat.div_eq_of_lt hl, Nat.add_zero, Nat.mod_eq_of_lt (hexV_lt c h.1)]
  exact hexV_back c h.1
/-- The hexadecimal digits of a bitmap. -/
def bmL (a b : Nat) : List UInt8 := if b = 0 then hexN (clr a) 16 else hexN (clr a + 2 ^ 63) 16 ++ hexN b 16
/-- The error of a bitmap at the beginning of a text. -/
def bmE (l : List UInt8) : Int :=
 if l.length < 16 then 1 else if (l.take 16).all hxB = false then 2 else if hexNum (l.take 16) < 2 ^ 63 then 0 else
 if l.length < 32 then 1 else if ((l.drop 16).take 16).all hxB = false then 2 else if hexNum ((l.drop 16).take 16) = 0 then 2 else 0
def bmA (l : List UInt8) : Nat := if bmE l = 0 then clr (hexNum (l.take 16)) else 0
def bmB (l : List UInt8) : Nat := if bmE l = 0 ∧ 2 ^ 63 ≤ hexNum (l.take 16) then hexNum ((l.drop 16).take 16) else 0
def bmN (l : List UInt8) : Nat := if bmE l = 0 then (if hexNum (l.take 16) < 2 ^ 63 then 16 else 32) else 0
end Go.Proofs.YtkggloeaojkhaaaGreatDoor
namespace Go.Proofs.YtkggloeaojkhaaaGreatDoor
open Go.RowKit
def reqL (k : Int) : List Int := if k = 100 then [2, 3, 4, 7, 11, 32, 37, 41, 42, 49] else if k = 110 then [37, 39] else if k = 130 then [37, 39] else if k = 120 then [2, 3, 4, 7, 11, 32, 37, 39, 41, 42, 49] else if k = 400 then [2, 4, 11, 32, 37, 49, 56] else if k = 420 then [2, 4, 11, 32, 37, 49, 56] else if k = 410 then [37, 39, 56] else if k = 430 then [37, 39, 56] else if k = 800 then [11, 70] else if k = 810 then [11, 39] else []
def litInts (l : List Int) : Array Value := (l.map (Value.int .i64)).toArray
theorem lit_cell (w : World) (l : List Int) (i : Nat) (hi : i < l.length) : (w.alloc (.cells (litInts l) 3)).cell? ⟨w.heap.size, 0 + i, none⟩ = some (.int .i64 (l.getD i 0)) := by
 rw [(Blk.new w (litInts l) 3).cell, Nat.zero_add]
 unfold litInts
 simp [List.getElem?_map, List.getElem?_eq_getElem hi]
theorem ints_lit (w : World) (l : List Int) (c : Nat) : Ints (w.alloc (.cells (litInts l) 3)) (.slice (some ⟨w.heap.size, 0, none⟩) l.length c) l :=
 Or.inr ⟨_, 0, c, rfl, fun i hi => lit_cell w l i hi⟩
theorem back_of (l : List Int) (h : (blist (bof l (0, 0)).1 (bof l (0, 0)).2 129 == l) = true) : blist (bof l (0, 0)).1 (bof l (0, 0)).2 129 = l := by simpa using h


set_option maxRecDepth 8000 in
set_option maxHeartbeats 1000000 in
theorem required_100 (w : World) : Calls Tryz.prog 71 #[.int .i64 100] w (ListPost [2, 3, 4, 7, 11, 32, 37, 41, 42, 49] w) := by
 go_enter Tryz.func71, Tryz.ntmps71
 go_wp2_with fail
 refine (of_some w.heap.size 0 10 [2, 3, 4, 7, 11, 32, 37, 41, 42, 49] (w.alloc (.cells (litInts [2, 3, 4, 7, 11, 32, 37, 41, 42, 49]) 3)) (by decide) (by intro n hn; simp only [List.mem_cons, List.not_mem_nil, or_false] at hn; omega) (fun i hi => lit_cell w _ i hi)).mono ?_
 rintro e w1 ⟨rfl, hE1⟩
 have hwd := Wd_bof [2, 3, 4, 7, 11, 32, 37, 41, 42, 49] (by intro n hn; simp only [List.mem_cons, List.not_mem_nil, or_false] at hn; omega) (0, 0) (by unfold Wd; decide) (by unfold Wd; decide)
 have hback := Lib.hid (back_of [2, 3, 4, 7, 11, 32, 37, 41, 42, 49] (by decide +kernel))
 generalize (bof [2, 3, 4, 7, 11, 32, 37, 41, 42, 49] (0, 0)).1 = pa at *
 generalize (bof [2, 3, 4, 7, 11, 32, 37, 41, 42, 49] (0, 0)).2 = pb at *
 go_wp2_with fail
 refine (list_any pa pb _ hwd.1 hwd.2).mono ?_
 rintro e w2 ⟨v, rfl, hi, hE2⟩
 rw [hback.out] at hi
 go_wp2
 go_ret
 exact ⟨_, rfl, hi, (((Ext.refl w).alloc _).trans hE1).trans (((Ext.refl w1).alloc _).trans hE2)⟩
set_option maxHeartbeats 1000000 in
theorem rRequired_100 (w : World) : Calls Tryz.prog 32 #[.int .i64 100] w (ListPost [2, 3, 4, 7, 11, 32, 37, 41, 42, 49] w) := by
 go_enter Tryz.func32, Tryz.ntmps32
 go_wp2
 go_ret
 exact ⟨_, rfl, ints_lit w [2, 3, 4, 7, 11, 32, 37, 41, 42, 49] 10, (Ext.refl w).alloc _⟩

set_option maxRecDepth 8000 in
set_option maxHeartbeats 1000000 in
theorem required_110 (w : World) : Calls Tryz.prog 71 #[.int .i64 110] w (ListPost [37, 39] w) := by
 go_enter Tryz.func71, Tryz.ntmps71
 go_wp2_with fail
 refine (of_some w.heap.size 0 2 [37, 39] (w.alloc (.cells (litInts [37, 39]) 3)) (by decide) (by intro n hn; simp only [List.mem_cons, List.not_mem_nil, or_false] at hn; omega) (fun i hi => lit_cell w _ i hi)).mono ?_
 rintro e w1 ⟨rfl, hE1⟩
 have hwd := Wd_bof [37, 39] (by intro n hn; simp only [List.mem_cons, List.not_mem_nil, or_false] at hn; omega) (0, 0) (by unfold Wd; decide) (by unfold Wd; decide)
 have hback := Lib.hid (back_of [37, 39] (by decide +kernel))
 generalize (bof [37, 39] (0, 0)).1 = pa at *
 generalize (bof [37, 39] (0, 0)).2 = pb at *
 go_wp2_with fail
 refine (list_any pa pb _ hwd.1 hwd.2).mono ?_
 rintro e w2 ⟨v, rfl, hi, hE2⟩
 rw [hback.out] at hi
 go_wp2
 go_ret
 exact ⟨_, rfl, hi, (((Ext.refl w).alloc _).trans hE1).trans (((Ext.refl w1).alloc _).trans hE2)⟩
set_option maxHeartbeats 1000000 in
theorem rRequired_110 (w : World) : Calls Tryz.prog 32 #[.int .i64 110] w (ListPost [37, 39] w) := by
 go_enter Tryz.func32, Tryz.ntmps32
 go_wp2
 go_ret
 exact ⟨_, rfl, ints_lit w [37, 39] 2, (Ext.refl w).alloc _⟩

set_option maxRecDepth 8000 in
set_option maxHeartbeats 1000000 in
theorem required_130 (w : World) : Calls Tryz.prog 71 #[.int .i64 130] w (ListPost [37, 39] w) := by
 go_enter Tryz.func71, Tryz.ntmps71
 go_wp2_with fail
 refine (of_some w.heap.size 0 2 [37, 39] (w.alloc (.cells (litInts [37, 39]) 3)) (by decide) (by intro n hn; simp only [List.mem_cons, List.not_mem_nil, or_false] at hn; omega) (fun i hi => lit_cell w _ i hi)).mono ?_
 rintro e w1 ⟨rfl, hE1⟩
 have hwd := Wd_bof [37, 39] (by intro n hn; simp only [List.mem_cons, List.not_mem_nil, or_false] at hn; omega) (0, 0) (by unfold Wd; decide) (by unfold Wd; decide)
 have hback := Lib.hid (back_of [37, 39] (by decide +kernel))
 generalize (bof [37, 39] (0, 0)).1 = pa at *
 generalize (bof [37, 39] (0, 0)).2 = pb at *
 go_wp2_with fail
 refine (list_any pa pb _ hwd.1 hwd.2).mono ?_
 rintro e w2 ⟨v, rfl, hi, hE2⟩
 rw [hback.out] at hi
 go_wp2
 go_ret
 exact ⟨_, rfl, hi, (((Ext.refl w).alloc _).trans hE1).trans (((Ext.refl w1).alloc _).trans hE2)⟩
set_option maxHeartbeats 1000000 in
theorem rRequired_130 (w : World) : Calls Tryz.prog 32 #[.int .i64 130] w (ListPost [37, 39] w) := by
 go_enter Tryz.func32, Tryz.ntmps32
 go_wp2
 go_ret
 exact ⟨_, rfl, ints_lit w [37, 39] 2, (Ext.refl w).alloc _⟩

set_option maxRecDepth 8000 in
set_option maxHeartbeats 1000000 in
theorem required_120 (w : World) : Calls Tryz.prog 71 #[.int .i64 120] w (ListPost [2, 3, 4, 7, 11, 32, 37, 39, 41, 42, 49] w) := by
 go_enter Tryz.func71, Tryz.ntmps71
 go_wp2_with fail
 refine (of_some w.heap.size 0 11 [2, 3, 4, 7, 11, 32, 37, 39, 41, 42, 49] (w.alloc (.cells (litInts [2, 3, 4, 7, 11, 32, 37, 39, 41, 42, 49]) 3)) (by decide) (by intro n hn; simp only [List.mem_cons, List.not_mem_nil, or_false] at hn; omega) (fun i hi => lit_cell w _ i hi)).mono ?_
 rintro e w1 ⟨rfl, hE1⟩
 have hwd := Wd_bof [2, 3, 4, 7, 11, 32, 37, 39, 41, 42, 49] (by intro n hn; simp only [List.mem_cons, List.not_mem_nil, or_false] at hn; omega) (0, 0) (by unfold Wd; decide) (by unfold Wd; decide)
 have hback := Lib.hid (back_of [2, 3, 4, 7, 11, 32, 37, 39, 41, 42, 49] (by decide +kernel))
 generalize (bof [2, 3, 4, 7, 11, 32, 37, 39, 41, 42, 49] (0, 0)).1 = pa at *
 generalize (bof [2, 3, 4, 7, 11, 32, 37, 39, 41, 42, 49] (0, 0)).2 = pb at *
 go_wp2_with fail
 refine (list_any pa pb _ hwd.1 hwd.2).mono ?_
 rintro e w2 ⟨v, rfl, hi, hE2⟩
 rw [hback.out] at hi
 go_wp2
 go_ret
 exact ⟨_, rfl, hi, (((Ext.refl w).alloc _).trans hE1).trans (((Ext.refl w1).alloc _).trans hE2)⟩
set_option maxHeartbeats 1000000 in
theorem rRequired_120 (w : World) : Calls Tryz.prog 32 #[.int .i64 120] w (ListPost [2, 3, 4, 7, 11, 32, 37, 39, 41, 42, 49] w) := by
 go_enter Tryz.func32, Tryz.ntmps32
 go_wp2
 go_ret
 exact ⟨_, rfl, ints_lit w [2, 3, 4, 7, 11, 32, 37, 39, 41, 42, 49] 11, (Ext.refl w).alloc _⟩

set_option maxRecDepth 8000 in
set_option maxHeartbeats 1000000 in
theorem required_400 (w : World) : Calls Tryz.prog 71 #[.int .i64 400] w (ListPost [2, 4, 11, 32, 37, 49, 56] w) := by
 go_enter Tryz.func71, Tryz.ntmps71
 go_wp2_with fail
 refine (of_some w.heap.size 0 7 [2, 4, 11, 32, 37, 49, 56] (w.alloc (.cells (litInts [2, 4, 11, 32, 37, 49, 56]) 3)) (by decide) (by intro n hn; simp only [List.mem_cons, List.not_mem_nil, or_false] at hn; omega) (fun i hi => lit_cell w _ i hi)).mono ?_
 rintro e w1 ⟨rfl, hE1⟩
 have hwd := Wd_bof [2, 4, 11, 32, 37, 49, 56] (by intro n hn; simp only [List.mem_cons, List.not_mem_nil, or_false] at hn; omega) (0, 0) (by unfold Wd; decide) (by unfold Wd; decide)
 have hback := Lib.hid (back_of [2, 4, 11, 32, 37, 49, 56] (by decide +kernel))
 generalize (bof [2, 4, 11, 32, 37, 49, 56] (0, 0)).1 = pa at *
 generalize (bof [2, 4, 11, 32, 37, 49, 56] (0, 0)).2 = pb at *
 go_wp2_with fail
 refine (list_any pa pb _ hwd.1 hwd.2).mono ?_
 rintro e w2 ⟨v, rfl, hi, hE2⟩
 rw [hback.out] at hi
 go_wp2
 go_ret
 exact ⟨_, rfl, hi, (((Ext.refl w).alloc _).trans hE1).trans (((Ext.refl w1).alloc _).trans hE2)⟩
set_option maxHeartbeats 1000000 in
theorem rRequired_400 (w : World) : Calls Tryz.prog 32 #[.int .i64 400] w (ListPost [2, 4, 11, 32, 37, 49, 56] w) := by
 go_enter Tryz.func32, Tryz.ntmps32
 go_wp2
 go_ret
 exact ⟨_, rfl, ints_lit w [2, 4, 11, 32, 37, 49, 56] 7, (Ext.refl w).alloc _⟩

set_option maxRecDepth 8000 in
set_option maxHeartbeats 1000000 in
theorem required_420 (w : World) : Calls Tryz.prog 71 #[.int .i64 420] w (ListPost [2, 4, 11, 32, 37, 49, 56] w) := by
 go_enter Tryz.func71, Tryz.ntmps71
 go_wp2_with fail
 refine (of_some w.heap.size 0 7 [2, 4, 11, 32, 37, 49, 56] (w.alloc (.cells (litInts [2, 4, 11, 32, 37, 49, 56]) 3)) (by decide) (by intro n hn; simp only [List.mem_cons, List.not_mem_nil, or_false] at hn; omega) (fun i hi => lit_cell w _ i hi)).mono ?_
 rintro e w1 ⟨rfl, hE1⟩
 have hwd := Wd_bof [2, 4, 11, 32, 37, 49, 56] (by intro n hn; simp only [List.mem_cons, List.not_mem_nil, or_false] at hn; omega) (0, 0) (by unfold Wd; decide) (by unfold Wd; decide)
 have hback := Lib.hid (back_of [2, 4, 11, 32, 37, 49, 56] (by decide +kernel))
 generalize (bof [2, 4, 11, 32, 37, 49, 56] (0, 0)).1 = pa at *
 generalize (bof [2, 4, 11, 32, 37, 49, 56] (0, 0)).2 = pb at *
 go_wp2_with fail
 refine (list_any pa pb _ hwd.1 hwd.2).mono ?_
 rintro e w2 ⟨v, rfl, hi, hE2⟩
 rw [hback.out] at hi
 go_wp2
 go_ret
 exact ⟨_, rfl, hi, (((Ext.refl w).alloc _).trans hE1).trans (((Ext.refl w1).alloc _).trans hE2)⟩
set_option maxHeartbeats 1000000 in
theorem rRequired_420 (w : World) : Calls Tryz.prog 32 #[.int .i64 420] w (ListPost [2, 4, 11, 32, 37, 49, 56] w) := by
 go_enter Tryz.func32, Tryz.ntmps32
 go_wp2
 go_ret
 exact ⟨_, rfl, ints_lit w [2, 4, 11, 32, 37, 49, 56] 7, (Ext.refl w).alloc _⟩

set_option maxRecDepth 8000 in
set_option maxHeartbeats 1000000 in
theorem required_410 (w : World) : Calls Tryz.prog 71 #[.int .i64 410] w (ListPost [37, 39, 56] w) := by
 go_enter Tryz.func71, Tryz.ntmps71
 go_wp2_with fail
 refine (of_some w.heap.size 0 3 [37, 39, 56] (w.alloc (.cells (litInts [37, 39, 56]) 3)) (by decide) (by intro n hn; simp only [List.mem_cons, List.not_mem_nil, or_false] at hn; omega) (fun i hi => lit_cell w _ i hi)).mono ?_
 rintro e w1 ⟨rfl, hE1⟩
 have hwd := Wd_bof [37, 39, 56] (by intro n hn; simp only [List.mem_cons, List.not_mem_nil, or_false] at hn; omega) (0, 0) (by unfold Wd; decide) (by unfold Wd; decide)
 have hback := Lib.hid (back_of [37, 39, 56] (by decide +kernel))
 generalize (bof [37, 39, 56] (0, 0)).1 = pa at *
 generalize (bof [37, 39, 56] (0, 0)).2 = pb at *
 go_wp2_with fail
 refine (list_any pa pb _ hwd.1 hwd.2).mono ?_
 rintro e w2 ⟨v, rfl, hi, hE2⟩
 rw [hback.out] at hi
 go_wp2
 go_ret
 exact ⟨_, rfl, hi, (((Ext.refl w).alloc _).trans hE1).trans (((Ext.refl w1).alloc _).trans hE2)⟩
set_option maxHeartbeats 1000000 in
theorem rRequired_410 (w : World) : Calls Tryz.prog 32 #[.int .i64 410] w (ListPost [37, 39, 56] w) := by
 go_enter Tryz.func32, Tryz.ntmps32
 go_wp2
 go_ret
 exact ⟨_, rfl, ints_lit w [37, 39, 56] 3, (Ext.refl w).alloc _⟩

set_option maxRecDepth 8000 in
set_option maxHeartbeats 1000000 in
theorem required_430 (w : World) : Calls Tryz.prog 71 #[.int .i64 430] w (ListPost [37, 39, 56] w) := by
 go_enter Tryz.func71, Tryz.ntmps71
 go_wp2_with fail
 refine (of_some w.heap.size 0 3 [37, 39, 56] (w.alloc (.cells (litInts [37, 39, 56]) 3)) (by decide) (by intro n hn; simp only [List.mem_cons, List.not_mem_nil, or_false] at hn; omega) (fun i hi => lit_cell w _ i hi)).mono ?_
 rintro e w1 ⟨rfl, hE1⟩
 have hwd := Wd_bof [37, 39, 56] (by intro n hn; simp only [List.mem_cons, List.not_mem_nil, or_false] at hn; omega) (0, 0) (by unfold Wd; decide) (by unfold Wd; decide)
 have hback := Lib.hid (back_of [37, 39, 56] (by decide +kernel))
 generalize (bof [37, 39, 56] (0, 0)).1 = pa at *
 generalize (bof [37, 39, 56] (0, 0)).2 = pb at *
 go_wp2_with fail
 refine (list_any pa pb _ hwd.1 hwd.2).mono ?_
 rintro e w2 ⟨v, rfl, hi, hE2⟩
 rw [hback.out] at hi
 go_wp2
 go_ret
 exact ⟨_, rfl, hi, (((Ext.refl w).alloc _).trans hE1).trans (((Ext.refl w1).alloc _).trans hE2)⟩
set_option maxHeartbeats 1000000 in
theorem rRequired_430 (w : World) : Calls Tryz.prog 32 #[.int .i64 430] w (ListPost [37, 39, 56] w) := by
 go_enter Tryz.func32, Tryz.ntmps32
 go_wp2
 go_ret
 exact ⟨_, rfl, ints_lit w [37, 39, 56] 3, (Ext.refl w).alloc _⟩

set_option maxRecDepth 8000 in
set_option maxHeartbeats 1000000 in
theorem required_800 (w : World) : Calls Tryz.prog 71 #[.int .i64 800] w (ListPost [11, 70] w) := by
 go_enter Tryz.func71, Tryz.ntmps71
 go_wp2_with fail
 refine (of_some w.heap.size 0 2 [11, 70] (w.alloc (.cells (litInts [11, 70]) 3)) (by decide) (by intro n hn; simp only [List.mem_cons, List.not_mem_nil, or_false] at hn; omega) (fun i hi => lit_cell w _ i hi)).mono ?_
 rintro e w1 ⟨rfl, hE1⟩
 have hwd := Wd_bof [11, 70] (by intro n hn; simp only [List.mem_cons, List.not_mem_nil, or_false] at hn; omega) (0, 0) (by unfold Wd; decide) (by unfold Wd; decide)
 have hback := Lib.hid (back_of [11, 70] (by decide +kernel))
 generalize (bof [11, 70] (0, 0)).1 = pa at *
 generalize (bof [11, 70] (0, 0)).2 = pb at *
 go_wp2_with fail
 refine (list_any pa pb _ hwd.1 hwd.2).mono ?_
 rintro e w2 ⟨v, rfl, hi, hE2⟩
 rw [hback.out] at hi
 go_wp2
 go_ret
 exact ⟨_, rfl, hi, (((Ext.refl w).alloc _).trans hE1).trans (((Ext.refl w1).alloc _).trans hE2)⟩
set_option maxHeartbeats 1000000 in
theorem rRequired_800 (w : World) : Calls Tryz.prog 32 #[.int .i64 800] w (ListPost [11, 70] w) := by
 go_enter Tryz.func32, Tryz.ntmps32
 go_wp2
 go_ret
 exact ⟨_, rfl, ints_lit w [11, 70] 2, (Ext.refl w).alloc _⟩

set_option maxRecDepth 8000 in
set_option maxHeartbeats 1000000 in
theorem required_810 (w : World) : Calls Tryz.prog 71 #[.int .i64 810] w (ListPost [11, 39] w) := by
 go_enter Tryz.func71, Tryz.ntmps71
 go_wp2_with fail
 refine (of_some w.heap.size 0 2 [11, 39] (w.alloc (.cells (litInts [11, 39]) 3)) (by decide) (by intro n hn; simp only [List.mem_cons, List.not_mem_nil, or_false] at hn; omega) (fun i hi => lit_cell w _ i hi)).mono ?_
 rintro e w1 ⟨rfl, hE1⟩
 have hwd := Wd_bof [11, 39] (by intro n hn; simp only [List.mem_cons, List.not_mem_nil, or_false] at hn; omega) (0, 0) (by unfold Wd; decide) (by unfold Wd; decide)
 have hback := Lib.hid (back_of [11, 39] (by decide +kernel))
 generalize (bof [11, 39] (0, 0)).1 = pa at *
 generalize (bof [11, 39] (0, 0)).2 = pb at *
 go_wp2_with fail
 refine (list_any pa pb _ hwd.1 hwd.2).mono ?_
 rintro e w2 ⟨v, rfl, hi, hE2⟩
 rw [hback.out] at hi
 go_wp2
 go_ret
 exact ⟨_, rfl, hi, (((Ext.refl w).alloc _).trans hE1).trans (((Ext.refl w1).alloc _).trans hE2)⟩
set_option maxHeartbeats 1000000 in
theorem rRequired_810 (w : World) : Calls Tryz.prog 32 #[.int .i64 810] w (ListPost [11, 39] w) := by
 go_enter Tryz.func32, Tryz.ntmps32
 go_wp2
 go_ret
 exact ⟨_, rfl, ints_lit w [11, 39] 2, (Ext.refl w).alloc _⟩

set_option maxRecDepth 8000 in
set_option maxHeartbeats 1000000 in
theorem required_none (k : Int) (w : World) (h100 : k ≠ 100) (h110 : k ≠ 110) (h130 : k ≠ 130) (h120 : k ≠ 120) (h400 : k ≠ 400) (h420 : k ≠ 420) (h410 : k ≠ 410) (h430 : k ≠ 430) (h800 : k ≠ 800) (h810 : k ≠ 810) : Calls Tryz.prog 71 #[.int .i64 k] w (ListPost [] w) := by
 have b100 : (k == 100) = false := by simpa using h100
 have b110 : (k == 110) = false := by simpa using h110
 have b130 : (k == 130) = false := by simpa using h130
 have b120 : (k == 120) = false := by simpa using h120
 have b400 : (k == 400) = false := by simpa using h400
 have b420 : (k == 420) = false := by simpa using h420
 have b410 : (k == 410) = false := by simpa using h410
 have b430 : (k == 430) = false := by simpa using h430
 have b800 : (k == 800) = false := by simpa using h800
 have b810 : (k == 810) = false := by simpa using h810
 go_enter Tryz.func71, Tryz.ntmps71
 go_wp2_with fail
 refine (of_nil _).mono ?_
 rintro e w1 ⟨rfl, hE1⟩
 go_wp2_with fail
 refine (list_any 0 0 _ (by unfold Wd; decide) (by unfold Wd; decide)).mono ?_
 rintro e w2 ⟨v, rfl, hi, hE2⟩
 have hnil : blist 0 0 129 = [] := by decide +kernel
 rw [hnil] at hi
 go_wp2
 go_ret
 exact ⟨_, rfl, hi, hE1.trans (((Ext.refl w1).alloc _).trans hE2)⟩
set_option maxHeartbeats 1000000 in
theorem rRequired_none (k : Int) (w : World) (h100 : k ≠ 100) (h110 : k ≠ 110) (h130 : k ≠ 130) (h120 : k ≠ 120) (h400 : k ≠ 400) (h420 : k ≠ 420) (h410 : k ≠ 410) (h430 : k ≠ 430) (h800 : k ≠ 800) (h810 : k ≠ 810) : Calls Tryz.prog 32 #[.int .i64 k] w (ListPost [] w) := by
 have b100 : (k == 100) = false := by simpa using h100
 have b110 : (k == 110) = false := by simpa using h110
 have b130 : (k == 130) = false := by simpa using h130
 have b120 : (k == 120) = false := by simpa using h120
 have b400 : (k == 400) = false := by simpa using h400
 have b420 : (k == 420) = false := by simpa using h420
 have b410 : (k == 410) = false := by simpa using h410
 have b430 : (k == 430) = false := by simpa using h430
 have b800 : (k == 800) = false := by simpa using h800
 have b810 : (k == 810) = false := by simpa using h810
 go_enter Tryz.func32, Tryz.ntmps32
 go_wp2
 go_ret
 exact ⟨_, rfl, Or.inl ⟨rfl, rfl⟩, Ext.refl w⟩


theorem required_any (k : Int) (w : World) : Calls Tryz.prog 71 #[.int .i64 k] w (ListPost (reqL k) w) := by
 by_cases h100 : k = 100
 · subst h100; exact required_100 w
 by_cases h110 : k = 110
 · subst h110; exact required_110 w
 by_cases h130 : k = 130
 · subst h130; exact required_130 w
 by_cases h120 : k = 120
 · subst h120; exact required_120 w
 by_cases h400 : k = 400
 · subst h400; exact required_400 w
 by_cases h420 : k = 420
 · subst h420; exact required_420 w
 by_cases h410 : k = 410
 · subst h410; exact required_410 w
 by_cases h430 : k = 430
 · subst h430; exact required_430 w
 by_cases h800 : k = 800
 · subst h800; exact required_800 w
 by_cases h810 : k = 810
 · subst h810; exact required_810 w
 have e : reqL k = [] := by unfold reqL; simp only [h100, h110, h130, h120, h400, h420, h410, h430, h800, h810, if_false]
 rw [e]
 exact required_none k w h100 h110 h130 h120 h400 h420 h410 h430 h800 h810

theorem rRequired_any (k : Int) (w : World) : Calls Tryz.prog 32 #[.int .i64 k] w (ListPost (reqL k) w) := by
 by_cases h100 : k = 100
 · subst h100; exact rRequired_100 w
 by_cases h110 : k = 110
 · subst h110; exact rRequired_110 w
 by_cases h130 : k = 130
 · subst h130; exact rRequired_130 w
 by_cases h120 : k = 120
 · subst h120; exact rRequired_120 w
 by_cases h400 : k = 400
 · subst h400; exact rRequired_400 w
 by_cases h420 : k = 420
 · subst h420; exact rRequired_420 w
 by_cases h410 : k = 410
 · subst h410; exact rRequired_410 w
 by_cases h430 : k = 430
 · subst h430; exact rRequired_430 w
 by_cases h800 : k = 800
 · subst h800; exact rRequired_800 w
 by_cases h810 : k = 810
 · subst h810; exact rRequired_810 w
 have e : reqL k = [] := by unfold reqL; simp only [h100, h110, h130, h120, h400, h420, h410, h430, h800, h810, if_false]
 rw [e]
 exact rRequired_none k w h100 h110 h130 h120 h400 h420 h410 h430 h800 h810
end Go.Proofs.YtkggloeaojkhaaaGreatDoor
