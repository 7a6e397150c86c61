/- Contracts of the reference's Of, Has, List, Union and Encode of bitmaps (walks). Contracts of the reference's Union (with the empty bitmap) and Encode of bitmaps (walks). Contract of the reference's Encode of bitmaps (walk). -/
import Derived.Test.YthokhncdpfaifaaGreatDoorBmx
import Derived.Deep.RegionWith
import Derived.StillTailTactics
namespace Go.Proofs.YthokhncdpfaifaaGreatDoor
open Go.RowKit
/-- The bitmap of numbers, as the reference makes it: no bit is cleared. -/
def rset (a b n : Nat) : Nat × Nat := if n ≤ 64 then (a ||| pw (64 - n), b) else (a, b ||| pw (128 - n))
theorem bof_snoc63 (l : List Int) (hl : In128 l) (k : Nat) (hk : k < l.length) : ∃ n : Nat, l.getD k 0 = (n : Int) ∧ 2 ≤ n ∧ n ≤ 128 ∧ bof (l.take (k + 1)) (0, 0) = rset (bof (l.take k) (0, 0)).1 (bof (l.take k) (0, 0)).2 n ∧ Wd (bof (l.take k) (0, 0)).1 ∧ Wd (bof (l.take k) (0, 0)).2 := by
  obtain ⟨n, h1, h2, h3, h4, h5, h6⟩ := of_step l k hk hl
  refine ⟨n, h1, h2, h3, ?_, h5, h6⟩
  have ht := bof_top (l.take k) (fun x hx => hl x (List.mem_of_mem_take hx)) (0, 0) (by decide) (by unfold Wd; decide)
  rw [h4]
  unfold bset rset
  rw [show clr (bof (l.take k) (0, 0)).1 = (bof (l.take k) (0, 0)).1 from Nat.mod_eq_of_lt ht.1]
theorem idx_one (n : Nat) (h1 : 2 ≤ n) (h2 : n ≤ 128) : IntKind.i64.wrap ((n : Int) - 1) = (n : Int) - 1 := by rw [IntKind.wrap_i64] <;> omega
theorem idx_lo (n : Nat) (h1 : 2 ≤ n) (h2 : n ≤ 64) : IntKind.i64.wrap (((n : Int) - 1).tdiv 64) = 0 := by
  rw [Int.tdiv_eq_ediv_of_nonneg (by omega), IntKind.wrap_i64] <;> omega
theorem idx_hi (n : Nat) (h1 : 65 ≤ n) (h2 : n ≤ 128) : IntKind.i64.wrap (((n : Int) - 1).tdiv 64) = 1 := by
  rw [Int.tdiv_eq_ediv_of_nonneg (by omega), IntKind.wrap_i64] <;> omega
set_option maxRecDepth 4000 in
set_option maxHeartbeats 1000000 in
theorem rof_any (v : Value) (zs : List Int) (w : World) (hv : Ints w v zs) (hl : zs.length ≤ 1000000) (hin : In128 zs) :
    Calls Tryz.prog 39 #[v] w (OfPost (bof zs (0, 0)) w) := by
  obtain ⟨p, c, rfl, hp⟩ : ∃ p c, v = .slice p zs.length c ∧ (0 < zs.length → ∃ b off, p = some ⟨b, off, none⟩ ∧ ∀ i, i < zs.length → w.cell? ⟨b, off + i, none⟩ = some (.int .i64 (zs.getD i 0))) := by
    rcases hv with ⟨rfl, rfl⟩ | ⟨b, off, cap, rfl, hc⟩
    · exact ⟨none, 0, rfl, fun h => by simp at h⟩
    · exact ⟨_, cap, rfl, fun _ => ⟨b, off, rfl, hc⟩⟩
  have hP := Lib.hid hp
  have hin := Lib.hid hin
  clear hp hv
  go_enter Tryz.func39, Tryz.ntmps39
  go_wp2
  go_loopw [5] (fun i wr => ∃ k : Nat, k ≤ zs.length ∧ i = .int .i64 k ∧ Ext w wr ∧ Blk wr w.heap.size #[.int .u64 0, .int .u64 0] 61 ∧ Blk wr (w.heap.size + 1) #[.int .u64 (bof (zs.take k) (0, 0)).1, .int .u64 (bof (zs.take k) (0, 0)).2] 61) (fun i _ => zs.length - (intOf i).toNat)
  case atStart => exact ⟨0, Nat.zero_le _, rfl, (by repeat (first | with_reducible exact Ext.refl _ | with_reducible exact hE0 | with_reducible exact hE | with_reducible refine Ext.alloc ?_ _ | with_reducible refine Ext.drewN ?_ _ | with_reducible refine Ext.drew ?_ | ((with_reducible refine Ext.setCell ?_ ?side _); (case side => first | exact Nat.le_refl _ | (simp; done) | (simp; omega))))), (Blk.new _ _ _).alloc _, Blk.new' _ _ _ _ (by simp)⟩
  case round =>
    obtain ⟨k, hk, rfl, hE, hB0, hB1⟩ := hrel
    by_cases hlt : k < zs.length
    · obtain ⟨n, hz, hn1, hn2, hs, hwa, hwb⟩ := bof_snoc63 zs hin.out k hlt
      obtain ⟨b, off, rfl, hcs⟩ := hP.out (by omega)
      have hcell : wr.cell? ⟨b, off + k, none⟩ = some (.int .i64 n) := by rw [← hz]; exact hE.get (hcs k hlt)
      clear hz hcs
      have hS := Lib.hid hs
      clear hs
      generalize (bof (zs.take k) (0, 0)).1 = pa at *
      generalize (bof (zs.take k) (0, 0)).2 = pb at *
      have c0 : wr.cell? ⟨w.heap.size + 1, 0, none⟩ = some (.int .u64 pa) := hB1.cell 0
      have c1 : wr.cell? ⟨w.heap.size + 1, 1, none⟩ = some (.int .u64 pb) := hB1.cell 1
      have f0 : wr.frozen? ⟨w.heap.size + 1, 0, none⟩ = false := hB1.fz 0
      have f1 : wr.frozen? ⟨w.heap.size + 1, 1, none⟩ = false := hB1.fz 1
      by_cases h64 : n ≤ 64
      · have hor := bits_or pa (pw (64 - n)) hwa (Wd_pw _ (by omega))
        have hi1 : IntKind.i64.wrap (((n : Int) - 1).tdiv 64) = 0 := idx_lo n hn1 h64
        have hi0 : IntKind.i64.wrap ((n : Int) - 1) = (n : Int) - 1 := idx_one n hn1 hn2
        have hbn := bitN_lo n (by omega) h64
        have hRS := Lib.hid (show rset pa pb n = (pa ||| pw (64 - n), pb) by unfold rset; rw [if_pos h64])
        go_wp2
        refine wp_region_still_tail 15 (by kernel_rfl) (by kernel_rfl) ?_
        simp only [List.take_succ_cons, List.take_zero, List.drop_succ_cons, List.drop_zero]
        repeat still_step
        still_call ((rbit_any n _ (by omega) hn2).mono fun e w' h => ⟨h.1, h.2.symm⟩)
        repeat still_step
        refine wpStill_nil ?_
        change wpList _ _ _ _ _ wr.drew
        clear hi0 hi1
        go_wp2
        go_roundw
        case rel => exact ⟨k + 1, by omega, by go_num, (hE.setCell (by simp) _).drew, hB0.other 0 _ (by omega), by rw [hS.out, hRS.out]; exact hB1.set 0 _⟩
        case measure => simp [intOf]; omega
      · have hor := bits_or pb (pw (128 - n)) hwb (Wd_pw _ (by omega))
        have hi1 : IntKind.i64.wrap (((n : Int) - 1).tdiv 64) = 1 := idx_hi n (by omega) hn2
        have hi0 : IntKind.i64.wrap ((n : Int) - 1) = (n : Int) - 1 := idx_one n hn1 hn2
        have hbn := bitN_hi n (by omega) hn2
        have hRS := Lib.hid (show rset pa pb n = (pa, pb ||| pw (128 - n)) by unfold rset; rw [if_neg h64])
        go_wp2
        refine wp_region_still_tail 15 (by kernel_rfl) (by kernel_rfl) ?_
        simp only [List.take_succ_cons, List.take_zero, List.drop_succ_cons, List.drop_zero]
        repeat still_step
        still_call ((rbit_any n _ (by omega) hn2).mono fun e w' h => ⟨h.1, h.2.symm⟩)
        repeat still_step
        refine wpStill_nil ?_
        change wpList _ _ _ _ _ wr.drew
        clear hi0 hi1
        go_wp2
        go_roundw
        case rel => exact ⟨k + 1, by omega, by go_num, (hE.setCell (by simp) _).drew, hB0.other 1 _ (by omega), by rw [hS.out, hRS.out]; exact hB1.set 1 _⟩
        case measure => simp [intOf]; omega
    · have hkk : zs.take k = zs := List.take_of_length_le (by omega)
      rw [hkk] at hB1
      have c0 := hB1.cell 0
      have c1 := hB1.cell 1
      have d0 := hB0.cell 0
      have d1 := hB0.cell 1
      have f0 := hB0.fz 0
      have f1 := hB0.fz 1
      go_wp2_with fail
      exact bodyPost_ret (v := .tuple #[.agg #[.int .u64 (bof zs (0, 0)).1, .int .u64 (bof zs (0, 0)).2], .int .i64 0]) (by simp [results, Tryz.results39, go_sem, d0, d1]) rfl ⟨rfl, by repeat (first | exact hE | refine Ext.setCell ?_ (by simp) _)⟩
set_option maxRecDepth 4000 in
set_option maxHeartbeats 1000000 in
theorem rhas_any (a b n : Nat) (w : World) (ha : Wd a) (hb : Wd b) (hn1 : 2 ≤ n) (hn2 : n ≤ 128) :
    Calls Tryz.prog 95 #[.agg #[.int .u64 a, .int .u64 b], .int .i64 n] w (OneV (.bool (bmem a b n)) w) := by
  have t1 : decide ((2 : Int) ≤ n) = true := by simp; omega
  have t2 : decide ((n : Int) ≤ 128) = true := by simp; omega
  have hi0 : IntKind.i64.wrap ((n : Int) - 1) = (n : Int) - 1 := idx_one n hn1 hn2
  by_cases h64 : n ≤ 64
  · have hi1 : IntKind.i64.wrap (((n : Int) - 1).tdiv 64) = 0 := idx_lo n hn1 h64
    have hbn := bitN_lo n (by omega) h64
    have hand := bits_and a (pw (64 - n)) ha (Wd_pw _ (by omega))
    have hM : (((a &&& pw (64 - n) : Nat) : Int) != 0) = bmem a b n := by
      unfold bmem; rw [if_pos h64, Bool.eq_iff_iff]; rw [← and_pw_ne]; simp
    have HM := Lib.hid hM
    clear hM
    go_enter Tryz.func95, Tryz.ntmps95
    go_wp2
    go_quiet ((go_at_call 79; exact Calls.quiet_of_same ((rbit_any n _ (by omega) hn2).mono fun e w' h => ⟨h.1, h.2.symm⟩)))
    go_wp2
    go_ret
    refine ⟨ret_bool ?_, Ext.drewN ((Ext.refl w).alloc _) _⟩
    rw [← HM.out]
  · have hi1 : IntKind.i64.wrap (((n : Int) - 1).tdiv 64) = 1 := idx_hi n (by omega) hn2
    have hbn := bitN_hi n (by omega) hn2
    have hand := bits_and b (pw (128 - n)) hb (Wd_pw _ (by omega))
    have hM : (((b &&& pw (128 - n) : Nat) : Int) != 0) = bmem a b n := by
      unfold bmem; rw [if_neg h64, Bool.eq_iff_iff]; rw [← and_pw_ne]; simp
    have HM := Lib.hid hM
    clear hM
    go_enter Tryz.func95, Tryz.ntmps95
    go_wp2
    go_quiet ((go_at_call 79; exact Calls.quiet_of_same ((rbit_any n _ (by omega) hn2).mono fun e w' h => ⟨h.1, h.2.symm⟩)))
    go_wp2
    go_ret
    refine ⟨ret_bool ?_, Ext.drewN ((Ext.refl w).alloc _) _⟩
    rw [← HM.out]
/-- What the reference's List returns. -/
def RListPost (zs : List Int) (w : World) (e : Ending) (w' : World) : Prop := ∃ v, e = .returned v ∧ w'.ownsRow w.heap.size 3 1 v zs.length (zs.map (Value.int .i64)) ∧ (zs = [] → v = .slice none 0 0) ∧ Ext w w'
theorem own_ext {w w' : World} {B : Nat} {T : TypeId} {sz : Nat} {v : Value} {n : Nat} {xs : List Value} (h : w.ownsRow B T sz v n xs) (k : Ext w w') : w'.ownsRow B T sz v n xs := by
  obtain ⟨h1, h | ⟨g, cap, cur, hv, hg, hb, h2⟩⟩ := h
  · exact ⟨h1, Or.inl h⟩
  · refine ⟨h1, Or.inr ⟨g, cap, cur, hv, hg, ?_, h2⟩⟩
    rw [k.block g (Array.getElem?_eq_some_iff.1 hb).1, hb]
theorem own_less {w : World} {B C : Nat} {T : TypeId} {sz : Nat} {v : Value} {n : Nat} {xs : List Value} (h : w.ownsRow B T sz v n xs) (hC : C ≤ B) : w.ownsRow C T sz v n xs := by
  obtain ⟨h1, h | ⟨g, cap, cur, hv, hg, h2⟩⟩ := h
  · exact ⟨h1, Or.inl h⟩
  · exact ⟨h1, Or.inr ⟨g, cap, cur, hv, by omega, h2⟩⟩
set_option maxRecDepth 4000 in
set_option maxHeartbeats 1000000 in
theorem rlist_any (a b : Nat) (w : World) (ha : Wd a) (hb : Wd b) :
    Calls Tryz.prog 54 #[.agg #[.int .u64 a, .int .u64 b]] w (RListPost (blist a b 129) w) := by
  obtain ⟨i0, hi, hz0, hz1, hz2⟩ := info_parts infoInt
  have hI := Lib.hid hi
  have hZ0 := Lib.hid hz0
  have hZ1 := Lib.hid hz1
  have hZ2 := Lib.hid hz2
  clear hi hz0 hz1 hz2
  go_enter Tryz.func54, Tryz.ntmps54
  go_wp2
  go_loopw [3, 4] (fun v i wr => ∃ n : Nat, 2 ≤ n ∧ n ≤ 129 ∧ i = .int .i64 n ∧ wr.ownsRow (w.heap.size + 1) 3 1 v (blist a b n).length ((blist a b n).map (Value.int .i64)) ∧ (blist a b n = [] → v = .slice none 0 0) ∧ Below (w.heap.size + 1) (w.alloc (.cells #[.int .u64 a, .int .u64 b] 61)) wr) (fun _ i _ => 129 - (intOf i).toNat)
  case atStart => exact ⟨2, by omega, by omega, rfl, ⟨rfl, Or.inl ⟨rfl, rfl⟩⟩, fun _ => rfl, Below.refl _ _⟩
  case round =>
    obtain ⟨n, hn1, hn2, rfl, hownr, hnil, hBr⟩ := hrel
    have hNil := Lib.hid hnil
    clear hnil
    have hbl : Blk wr w.heap.size #[.int .u64 a, .int .u64 b] 61 := by unfold Blk; rw [hBr.block _ (by omega)]; exact Blk.new w _ _
    have c0 : wr.cell? ⟨w.heap.size, 0, none⟩ = some (.int .u64 a) := hbl.cell 0
    have c1 : wr.cell? ⟨w.heap.size, 1, none⟩ = some (.int .u64 b) := hbl.cell 1
    have hbs := hBr.size
    simp only [World.size_alloc] at hbs
    clear hbl
    by_cases hlt : n ≤ 128
    · have hS := Lib.hid (blist_succ a b n hn1)
      have hLen := blist_len a b n
      go_wp2_with fail
      refine (rhas_any a b n _ ha hb hn1 hlt).mono ?_
      rintro e w0 ⟨rfl, hE0⟩
      have hown0 := own_ext hownr hE0
      have hB0 := hBr.trans (Below.mono hE0 hbs)
      have hs0 := hE0.size
      clear hE0 hownr hBr
      cases hbm : bmem a b n with
      | true =>
        have hM := Lib.hid hbm
        clear hbm
        go_wp2_with (at_builtin; refine wpList_append_own _ rfl _ _ 49 rfl (w.heap.size + 1) 3 i0 (.int .i64 0) 1 8 Tryz.underlying49 hI.out hZ0.out hZ1.out hZ2.out rfl (by decide) _ _ _ rfl (hown0.alloc _) ⟨w0.heap.size, 0, none⟩ 1 1 [.int .i64 n] rfl rfl ?_ ?_ ?_ ?_ ?_ ?_)
        · exact cell_one_new _ _ _
        · intro u hu; rw [List.mem_singleton.1 hu]; rfl
        · unfold maxLen; omega
        · omega
        · simp; omega
        intro v' w4 hown4 hgrow4 _
        go_wp2
        go_roundw
        case rel => exact ⟨n + 1, by omega, by omega, by go_num, by rw [hS.out, hM.out]; simpa using hown4, fun h => by rw [hS.out, hM.out] at h; simp at h, Below.grown (Below.alloc hB0 (by omega) _) hgrow4 (by simp; omega) (fun k hk => (hown0.lt k hk).1)⟩
        case measure => simp [intOf]; omega
      | false =>
        have hM := Lib.hid hbm
        clear hbm
        go_wp2
        go_roundw
        case rel => exact ⟨n + 1, by omega, by omega, by go_num, by rw [hS.out, hM.out]; simpa using hown0, fun h => hNil.out (by rw [hS.out, hM.out] at h; simpa using h), hB0⟩
        case measure => simp [intOf]; omega
    · obtain rfl : n = 129 := by omega
      go_wp2
      go_ret
      exact ⟨_, rfl, own_less hownr (by omega), hNil.out, ((Ext.refl w).alloc _).trans (Below.mono hBr (by simp))⟩
end Go.Proofs.YthokhncdpfaifaaGreatDoor
namespace Go.Proofs.YthokhncdpfaifaaGreatDoor
open Go.RowKit
theorem app_nil {w : World} {B : Nat} {v : Value} {n : Nat} {xs : List Value} (h : w.ownsRow B 3 1 v n xs) : ∀ w' : World, (Builtin.append_ #[49, 49] 49 #[v, .slice none 0 0]).run Tryz.prog w' = .ok v w' := by
  obtain ⟨i0, hi, _, _, _⟩ := info_parts infoInt
  intro w'
  rcases h.2 with ⟨rfl, rfl⟩ | ⟨g, cap, cur, rfl, _, _, hnc, _⟩
  · simp [Builtin.append_, run_underlying Tryz.underlying49, sizeOf, typeInfo, hi, Builtin.lenOf, Builtin.firstCells]
  · simp [Builtin.append_, run_underlying Tryz.underlying49, sizeOf, typeInfo, hi, Builtin.lenOf, Builtin.firstCells, hnc, storeCells]
theorem own_form {w : World} {B : Nat} {T : TypeId} {sz : Nat} {v : Value} {n : Nat} {xs : List Value} (h : w.ownsRow B T sz v n xs) : ∃ p c, v = .slice p n c := by
  obtain ⟨_, h | ⟨g, cap, cur, hv, _⟩⟩ := h
  · exact ⟨none, 0, by rw [h.1, h.2]⟩
  · exact ⟨_, _, hv⟩
theorem step_app_nil {P : Program} {ops : Array Oper} {o : Oper} {a : Act} {w : World} {K : Act → World → Prop} {Q : Exit → Act → World → Prop} {E : Prop}
    (hg : o.guard = none) (s x : Operand) (t : TypeId) (hop : o.op = Op.call { callee := Callee.builtin Builtin.append, args := #[s, x], argTypes := #[t, t] })
    (v : Value) (hs : a.eval s = v) (hx : a.eval x = .slice none 0 0) (hrun : ∀ w' : World, (Builtin.append_ #[t, t] o.type #[v, .slice none 0 0]).run P w' = .ok v w')
    (hK : K (a.put o.dst v) w) : if Region.wanted o (yielded ops a.tmps) = true then Oper.wp P o a w K Q else E := by
  have hw : Region.wanted o (yielded ops a.tmps) = true := by simp [Region.wanted, hg]
  rw [if_pos hw]
  unfold Oper.wp
  simp [execOp, hop, resolve, invoke, builtin, hs, hx, hrun w, Result.andThen]
  exact hK
theorem ext_at {w z u : World} (_ : Ext w z) (h : Ext z u) : Ext z u := h
theorem blist_zero : blist 0 0 129 = [] := by decide +kernel
theorem rlist_zero (w : World) : Calls Tryz.prog 54 #[.agg #[.int .u64 0, .int .u64 0]] w fun e w' => e = .returned (.slice none 0 0) ∧ Ext w w' := by
  refine (rlist_any 0 0 w (by unfold Wd; decide) (by unfold Wd; decide)).mono ?_
  rintro e w' ⟨v, rfl, _, h, hE⟩
  rw [h blist_zero]
  exact ⟨rfl, hE⟩
def UPost (p : Nat × Nat) (w : World) (e : Ending) (w' : World) : Prop := e = .returned (.agg #[.int .u64 p.1, .int .u64 p.2]) ∧ Ext w w'
theorem in_blist (a b : Nat) : In128 (blist a b 129) := fun x hx => by obtain ⟨m, rfl, h1, h2, _⟩ := (mem_blist a b x).1 hx; omega
set_option maxRecDepth 4000 in
set_option maxHeartbeats 2000000 in
theorem runion_any (a b : Nat) (w : World) (ha : Wd a) (hb : Wd b) :
    Calls Tryz.prog 80 #[.agg #[.int .u64 a, .int .u64 b], .agg #[.int .u64 0, .int .u64 0]] w (UPost (bof (blist a b 129) (0, 0)) w) := by
  have hin := Lib.hid (in_blist a b)
  have hln := blist_len a b 129
  generalize hzs : blist a b 129 = zs at *
  have hZS := Lib.hid hzs
  clear hzs
  go_enter Tryz.func80, Tryz.ntmps80
  go_wp2_with fail
  have hE0 : Ext w (((w.alloc (.cells #[.int .u64 a, .int .u64 b] 61)).alloc (.cells #[.int .u64 0, .int .u64 0] 61)).alloc (.cells #[.int .u64 0, .int .u64 0] 61)) := (by repeat (first | with_reducible exact Ext.refl _ | with_reducible exact hE0 | with_reducible exact hE | with_reducible refine Ext.alloc ?_ _ | with_reducible refine Ext.drewN ?_ _ | with_reducible refine Ext.drew ?_ | ((with_reducible refine Ext.setCell ?_ ?side _); (case side => first | exact Nat.le_refl _ | (simp; done) | (simp; omega)))))
  have x0 : (((w.alloc (.cells #[.int .u64 a, .int .u64 b] 61)).alloc (.cells #[.int .u64 0, .int .u64 0] 61)).alloc (.cells #[.int .u64 0, .int .u64 0] 61)).cell? ⟨w.heap.size, 0, none⟩ = some (.int .u64 a) := by simp [go_sem, World.cell?_alloc_past]
  have x1 : (((w.alloc (.cells #[.int .u64 a, .int .u64 b] 61)).alloc (.cells #[.int .u64 0, .int .u64 0] 61)).alloc (.cells #[.int .u64 0, .int .u64 0] 61)).cell? ⟨w.heap.size, 1, none⟩ = some (.int .u64 b) := by simp [go_sem, World.cell?_alloc_past]
  have x2 : (((w.alloc (.cells #[.int .u64 a, .int .u64 b] 61)).alloc (.cells #[.int .u64 0, .int .u64 0] 61)).alloc (.cells #[.int .u64 0, .int .u64 0] 61)).cell? ⟨w.heap.size + 1, 0, none⟩ = some (.int .u64 0) := by simp [go_sem, World.cell?_alloc_past]
  have x3 : (((w.alloc (.cells #[.int .u64 a, .int .u64 b] 61)).alloc (.cells #[.int .u64 0, .int .u64 0] 61)).alloc (.cells #[.int .u64 0, .int .u64 0] 61)).cell? ⟨w.heap.size + 1, 1, none⟩ = some (.int .u64 0) := by simp [go_sem, World.cell?_alloc_past]
  have hBr : Blk (((w.alloc (.cells #[.int .u64 a, .int .u64 b] 61)).alloc (.cells #[.int .u64 0, .int .u64 0] 61)).alloc (.cells #[.int .u64 0, .int .u64 0] 61)) (w.heap.size + 1 + 1) #[.int .u64 0, .int .u64 0] 61 := Blk.new' _ _ _ _ (by simp)
  generalize (((w.alloc (.cells #[.int .u64 a, .int .u64 b] 61)).alloc (.cells #[.int .u64 0, .int .u64 0] 61)).alloc (.cells #[.int .u64 0, .int .u64 0] 61)) = w0 at *
  go_region_held3 (fun w' => w'.cell? ⟨w.heap.size, 0, none⟩ = some (.int .u64 a) ∧ w'.cell? ⟨w.heap.size, 1, none⟩ = some (.int .u64 b) ∧ w'.cell? ⟨w.heap.size + 1, 0, none⟩ = some (.int .u64 0) ∧ w'.cell? ⟨w.heap.size + 1, 1, none⟩ = some (.int .u64 0)) (first | exact ⟨by assumption, by assumption, by assumption, by assumption⟩ | exact ⟨((Ext.refl _).alloc _).get x0, ((Ext.refl _).alloc _).get x1, ((Ext.refl _).alloc _).get x2, ((Ext.refl _).alloc _).get x3⟩ | exact ⟨(((Ext.refl _).alloc _).drew).get x0, (((Ext.refl _).alloc _).drew).get x1, (((Ext.refl _).alloc _).drew).get x2, (((Ext.refl _).alloc _).drew).get x3⟩ | exact ⟨(World.cell?_setCell_far _ _ _ _ (by simp; omega)).trans ((World.cell?_setCell_far _ _ _ _ (by simp; omega)).trans x0), (World.cell?_setCell_far _ _ _ _ (by simp; omega)).trans ((World.cell?_setCell_far _ _ _ _ (by simp; omega)).trans x1), (World.cell?_setCell_far _ _ _ _ (by simp; omega)).trans ((World.cell?_setCell_far _ _ _ _ (by simp; omega)).trans x2), (World.cell?_setCell_far _ _ _ _ (by simp; omega)).trans ((World.cell?_setCell_far _ _ _ _ (by simp; omega)).trans x3)⟩) (first | (go_at_call_of 54 (Value.agg #[.int .u64 0, .int .u64 0]); refine (rlist_zero _).mono ?_; rintro e w1 ⟨rfl, hE1⟩; have hl := hBr.lt; have hS := ext_at hE0 (by first | exact hE1 | exact Ext.undrew hE1 | exact ((Ext.refl _).alloc _).trans hE1 | exact ((Ext.refl _).alloc _).trans (Ext.undrew hE1)); have hE0 := hE0.trans hS; have x0 := hS.get x0; have x1 := hS.get x1; have x2 := hS.get x2; have x3 := hS.get x3; have hBr := hBr.ext hS; (try (have hO1 := Lib.hid (own_ext hO1.out hS))); (first | (have hN := (Blk.new _ _ _).ext hE1; have n0 := hN.cell 0; have n1 := hN.cell 1; have m0 := hN.fz 0; have m1 := hN.fz 1; have nl := hN.lt; simp at n0 n1) | (have hN := (Blk.new _ _ _).ext (Ext.undrew hE1); have n0 := hN.cell 0; have n1 := hN.cell 1; have m0 := hN.fz 0; have m1 := hN.fz 1; have nl := hN.lt; simp at n0 n1) | (have hN := hN.ext hS; have n0 := hN.cell 0; have n1 := hN.cell 1; have m0 := hN.fz 0; have m1 := hN.fz 1; have nl := hN.lt; simp at n0 n1) | skip); clear hE1 hS) | (go_at_call 54; refine (rlist_any a b _ ha hb).mono ?_; rintro e w1 ⟨v1, rfl, ho1, _, hE1⟩; have hl := hBr.lt; have hS := ext_at hE0 (by first | exact hE1 | exact Ext.undrew hE1 | exact ((Ext.refl _).alloc _).trans hE1 | exact ((Ext.refl _).alloc _).trans (Ext.undrew hE1)); have hE0 := hE0.trans hS; have x0 := hS.get x0; have x1 := hS.get x1; have x2 := hS.get x2; have x3 := hS.get x3; have hBr := hBr.ext hS; have hO1 := Lib.hid ho1; obtain ⟨p1, c1, rfl⟩ := own_form ho1; have happ := app_nil ho1; clear ho1; (first | (have hN := (Blk.new _ _ _).ext hE1; have n0 := hN.cell 0; have n1 := hN.cell 1; have m0 := hN.fz 0; have m1 := hN.fz 1; have nl := hN.lt; simp at n0 n1) | (have hN := (Blk.new _ _ _).ext (Ext.undrew hE1); have n0 := hN.cell 0; have n1 := hN.cell 1; have m0 := hN.fz 0; have m1 := hN.fz 1; have nl := hN.lt; simp at n0 n1) | (have hN := hN.ext hS; have n0 := hN.cell 0; have n1 := hN.cell 1; have m0 := hN.fz 0; have m1 := hN.fz 1; have nl := hN.lt; simp at n0 n1) | skip); clear hE1 hS) | (refine step_app_nil (by rfl) _ _ _ (by rfl) _ (by rfl) (by rfl) happ ?_) | (go_at_call 39; refine (rof_any _ zs _ ?_ (by omega) hin.out).mono ?_; (rw [← hZS.out]; first | exact ints_of_owns hO1.out | exact ints_of_owns (own_ext hO1.out (Ext.refl _).drew) | exact ints_of_owns (own_ext hO1.out ((Ext.refl _).alloc _)) | exact ints_of_owns (own_ext hO1.out ((Ext.refl _).alloc _).drew)); rintro e w1 ⟨rfl, hE1⟩; have hl := hBr.lt; have hS := ext_at hE0 (by first | exact hE1 | exact Ext.undrew hE1 | exact ((Ext.refl _).alloc _).trans hE1 | exact ((Ext.refl _).alloc _).trans (Ext.undrew hE1)); have hE0 := hE0.trans hS; have x0 := hS.get x0; have x1 := hS.get x1; have x2 := hS.get x2; have x3 := hS.get x3; have hBr := hBr.ext hS; (try (have hO1 := Lib.hid (own_ext hO1.out hS))); (first | (have hN := (Blk.new _ _ _).ext hE1; have n0 := hN.cell 0; have n1 := hN.cell 1; have m0 := hN.fz 0; have m1 := hN.fz 1; have nl := hN.lt; simp at n0 n1) | (have hN := (Blk.new _ _ _).ext (Ext.undrew hE1); have n0 := hN.cell 0; have n1 := hN.cell 1; have m0 := hN.fz 0; have m1 := hN.fz 1; have nl := hN.lt; simp at n0 n1) | (have hN := hN.ext hS; have n0 := hN.cell 0; have n1 := hN.cell 1; have m0 := hN.fz 0; have m1 := hN.fz 1; have nl := hN.lt; simp at n0 n1) | skip); clear hE1 hS))
  all_goals (have y0 := hBr.cell 0; have y1 := hBr.cell 1; have k0 := hBr.fz 0; have k1 := hBr.fz 1; have yl := hBr.lt; simp at y0 y1)
  all_goals go_wp2
  all_goals refine bodyPost_ret (v := .agg #[.int .u64 (bof zs (0, 0)).1, .int .u64 (bof zs (0, 0)).2]) ?_ rfl ⟨rfl, ?_⟩
  all_goals first | (simp [results, Tryz.results80, go_sem, y0, y1, yl]; done) | (simp [results, Tryz.results80, go_sem, y0, y1]; done) | ((repeat (first | with_reducible exact Ext.refl _ | with_reducible exact hE0 | with_reducible exact hE | with_reducible refine Ext.alloc ?_ _ | with_reducible refine Ext.drewN ?_ _ | with_reducible refine Ext.drew ?_ | ((with_reducible refine Ext.setCell ?_ ?side _); (case side => first | exact Nat.le_refl _ | (simp; done) | (simp; omega))))); done)
end Go.Proofs.YthokhncdpfaifaaGreatDoor
namespace Go.Proofs.YthokhncdpfaifaaGreatDoor
open Go.RowKit
set_option maxRecDepth 4000 in
set_option maxHeartbeats 1000000 in
theorem rbencode_any (a b : Nat) (w : World) (ha : a < 2 ^ 63) (hb : Wd b) :
    Calls Tryz.prog 42 #[.agg #[.int .u64 a, .int .u64 b]] w (OneV (.string (bmS a b)) w) := by
  have ha' : Wd a := by unfold Wd; omega
  have hcl : clr a = a := Nat.mod_eq_of_lt ha
  have hbb := bof_blist a b ha hb
  have hU := Lib.hid (runion_any a b)
  rw [hbb] at hU
  clear hbb
  by_cases h0 : b = 0
  · subst h0
    have hS : bmS a 0 = ⟨(hexN a 16).toArray⟩ := by unfold bmS bmL; rw [if_pos rfl, hcl]
    have HS := Lib.hid hS
    clear hS hcl
    go_enter Tryz.func42, Tryz.ntmps42
    go_wp2_with fail
    refine (hU.out _ ha' hb).mono ?_
    rintro e w1 ⟨rfl, hE1⟩
    have hB := (Blk.new w _ _).ext hE1
    have z0 := hB.cell 0
    have z1 := hB.cell 1
    have f0 := hB.fz 0
    have f1 := hB.fz 1
    have hlt := hB.lt
    simp at z0 z1
    have hE0 := ((by repeat (first | with_reducible exact Ext.refl _ | with_reducible exact hE0 | with_reducible exact hE | with_reducible refine Ext.alloc ?_ _ | with_reducible refine Ext.drewN ?_ _ | with_reducible refine Ext.drew ?_ | ((with_reducible refine Ext.setCell ?_ ?side _); (case side => first | exact Nat.le_refl _ | (simp; done) | (simp; omega))))) : Ext w _).trans hE1
    clear hE1 hB
    go_wp2_with fail
    refine (rhex_any a _ ha').mono ?_
    rintro e w1 ⟨rfl, rfl⟩
    go_wp2
    go_ret
    rw [HS.out]
    exact ⟨rfl, (by repeat (first | with_reducible exact Ext.refl _ | with_reducible exact hE0 | with_reducible exact hE | with_reducible refine Ext.alloc ?_ _ | with_reducible refine Ext.drewN ?_ _ | with_reducible refine Ext.drew ?_ | ((with_reducible refine Ext.setCell ?_ ?side _); (case side => first | exact Nat.le_refl _ | (simp; done) | (simp; omega)))))⟩
  · have hS : bmS a b = ⟨(hexN (a + 2 ^ 63) 16).toArray⟩ ++ ⟨(hexN b 16).toArray⟩ := by
      apply Go.WideShapes.bytes_inj
      rw [app_data']
      unfold bmS bmL; rw [if_neg h0, hcl]
    have HS := Lib.hid hS
    clear hS hcl
    have h0b : ((b : Int) == 0) = false := by rw [beq_eq_false_iff_ne]; omega
    have hor := or_top a ha
    have hwt : Wd (a + 2 ^ 63) := by unfold Wd; omega
    have hs1 : (⟨(hexN (a + 2 ^ 63) 16).toArray⟩ : ByteArray).size = 16 := hexS_size _
    have hs2 : (⟨(hexN b 16).toArray⟩ : ByteArray).size = 16 := hexS_size _
    clear h0
    go_enter Tryz.func42, Tryz.ntmps42
    go_wp2_with fail
    refine (hU.out _ ha' hb).mono ?_
    rintro e w1 ⟨rfl, hE1⟩
    have hB := (Blk.new w _ _).ext hE1
    have z0 := hB.cell 0
    have z1 := hB.cell 1
    have f0 := hB.fz 0
    have f1 := hB.fz 1
    have hlt := hB.lt
    simp at z0 z1
    have hE0 := ((by repeat (first | with_reducible exact Ext.refl _ | with_reducible exact hE0 | with_reducible exact hE | with_reducible refine Ext.alloc ?_ _ | with_reducible refine Ext.drewN ?_ _ | with_reducible refine Ext.drew ?_ | ((with_reducible refine Ext.setCell ?_ ?side _); (case side => first | exact Nat.le_refl _ | (simp; done) | (simp; omega))))) : Ext w _).trans hE1
    clear hE1 hB
    go_wp2_with fail
    go_quiet (first | (go_at_call 79; exact Calls.quiet_of_same ((rbit_one _).mono fun e w' h => ⟨h.1, h.2.symm⟩)) | (go_at_call 81; exact Calls.quiet_of_same ((rhex_any _ _ (by assumption)).mono fun e w' h => ⟨h.1, h.2.symm⟩)))
    go_wp2
    go_ret
    rw [HS.out]
    exact ⟨rfl, (by repeat (first | with_reducible exact Ext.refl _ | with_reducible exact hE0 | with_reducible exact hE | with_reducible refine Ext.alloc ?_ _ | with_reducible refine Ext.drewN ?_ _ | with_reducible refine Ext.drew ?_ | ((with_reducible refine Ext.setCell ?_ ?side _); (case side => first | exact Nat.le_refl _ | (simp; done) | (simp; omega)))))⟩
end Go.Proofs.YthokhncdpfaifaaGreatDoor
