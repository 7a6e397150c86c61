/- Contracts of the reference's Of, Has, List, Union and Encode of bitmaps (walks). Contracts of the reference's Union (with the empty bitmap) and Encode of bitmaps (walks). Contracts of the reference's numbers and Check of messages (walks). -/
import Derived.Test.YtkggloeaojkhaaaGreatDoorQh
import Derived.Deep.RegionWith
import Derived.StillTailTactics
import Derived.Test.YtkggloeaojkhaaaGreatDoorQs
namespace Go.Proofs.YtkggloeaojkhaaaGreatDoor
open Go.RowKit
theorem own_less {w : World} {B C : Nat} {T : TypeId} {sz : Nat} {v : Value} {n : Nat} {xs : List Value} (h : w.ownsRow B T sz v n xs) (hC : C ≤ B) : w.ownsRow C T sz v n xs := by
 obtain ⟨h1, h | ⟨g, cap, cur, hv, hg, h2⟩⟩ := h
 · exact ⟨h1, Or.inl h⟩
 · exact ⟨h1, Or.inr ⟨g, cap, cur, hv, by omega, h2⟩⟩
end Go.Proofs.YtkggloeaojkhaaaGreatDoor
namespace Go.Proofs.YtkggloeaojkhaaaGreatDoor
open Go.RowKit
theorem ext_at {w z u : World} (_ : Ext w z) (h : Ext z u) : Ext z u := h
theorem in_blist (a b : Nat) : In128 (blist a b 129) := fun x hx => by obtain ⟨m, rfl, h1, h2, _⟩ := (mem_blist a b x).1 hx; omega
end Go.Proofs.YtkggloeaojkhaaaGreatDoor
namespace Go.Proofs.YtkggloeaojkhaaaGreatDoor
open Go.RowKit
theorem nums_snoc (es : List El) (k : Nat) (hk : k < es.length) : numsL (es.take (k + 1)) = numsL (es.take k) ++ [(es.getD k elD).1] := by
 unfold numsL
 rw [List.take_succ_eq_append_getElem hk, List.map_append]
 simp [List.getElem?_eq_getElem hk]
theorem nums_len (es : List El) (k : Nat) (hk : k ≤ es.length) : (numsL (es.take k)).length = k := by unfold numsL; rw [List.length_map, List.length_take]; omega
theorem nums_at (es : List El) (k : Nat) (hk : k < es.length) : (numsL es).getD k 0 = (es.getD k elD).1 := by
 unfold numsL
 simp [List.getElem?_eq_getElem hk]
set_option maxRecDepth 8000 in
set_option maxHeartbeats 1000000 in
theorem numbers_any (ty : Int) (v : Value) (es : List El) (w : World) (hv : Elems w v es) (hl : es.length ≤ 1000000) :
 Calls Tryz.prog 30 #[msgAgg ty v] w (ListPost (numsL es) w) := by
 obtain ⟨q, cp, rfl, hp⟩ := hv
 have hP := Lib.hid hp
 clear hp
 obtain ⟨i0, hi, hz0, hz1, hz2⟩ := info_parts infoInt
 have hI := Lib.hid hi
 have hZ0 := Lib.hid hz0
 have hZ1 := Lib.hid hz1
 have hZ2 := Lib.hid hz2
 clear hi hz0 hz1 hz2
 unfold msgAgg
 go_enter Tryz.func30, Tryz.ntmps30
 go_wp2
 go_loopw [3, 4] (fun u i wr => ∃ k : Nat, k ≤ es.length ∧ i = .int .i64 k ∧ wr.ownsRow (w.heap.size + 1) 3 1 u (numsL (es.take k)).length ((numsL (es.take k)).map (Value.int .i64)) ∧ Below (w.heap.size + 1) (w.alloc (.cells #[.int .i64 ty, .slice q es.length cp] 29)) wr) (fun _ i _ => es.length - (intOf i).toNat)
 case atStart => exact ⟨0, by omega, rfl, ⟨rfl, Or.inl ⟨rfl, rfl⟩⟩, Below.refl _ _⟩
 case round =>
  obtain ⟨k, hk, rfl, hown, hBr⟩ := hrel
  have hE : Ext w wr := ((Ext.refl w).alloc _).trans (Below.mono hBr (by simp))
  have hbl : Blk wr w.heap.size #[.int .i64 ty, .slice q es.length cp] 29 := by unfold Blk; rw [hBr.block _ (by omega)]; exact Blk.new w _ _
  have z1 := hbl.cell 1
  simp at z1
  have hbs := hBr.size
  simp only [World.size_alloc] at hbs
  clear hbl
  by_cases hlt : k < es.length
  · obtain ⟨b, off, rfl, hcs⟩ := hP.out (by omega)
    have c0 := hE.get (hcs k hlt).1
    have hS := Lib.hid (nums_snoc es k hlt)
    have hLn := nums_len es k hk
    have hLn1 : (numsL (es.take k)).length ≤ es.length := by omega
    clear hcs hLn
    generalize hx : (es.getD k elD).1 = n at *
    clear hx
    generalize numsL (es.take k) = zs at *
    go_wp2_with (at_builtin; refine wpList_append_own _ rfl _ _ 98 rfl (w.heap.size + 1) 3 i0 (.int .i64 0) 1 8 Tryz.underlying98 hI.out hZ0.out hZ1.out hZ2.out rfl (by decide) _ _ _ rfl (hown.alloc _) ⟨wr.heap.size, 0, none⟩ 1 1 [.int .i64 n] rfl rfl ?_ ?_ ?_ ?_ ?_ ?_)
    · exact cell_one_new _ _ _
    · intro u hu; rw [List.mem_singleton.1 hu]; rfl
    · unfold maxLen; omega
    · omega
    · simp; omega
    intro v' w4 hown4 hgrow4 _
    go_wp2
    go_roundw
    case rel => exact ⟨k + 1, by omega, by go_num, by rw [hS.out]; simpa using hown4, Below.grown (Below.alloc hBr (by omega) _) hgrow4 (by simp; omega) (fun k hk => (hown.lt k hk).1)⟩
    case measure => simp [intOf]; omega
  · have hkk : es.take k = es := List.take_of_length_le (by omega)
    rw [hkk] at hown
    go_wp2
    go_ret
    exact ⟨_, rfl, ints_of_owns hown, hE⟩
theorem rCheckF (n : Int) (s : ByteArray) (w : World) (hs : s.size ≤ 1000000) : Calls Tryz.prog 31 #[.int .i64 n, .string s] w (One (.int .i64 (chkC n s)) w) := (rCheck_any n s w hs).mono fun _ _ h => h.one
set_option maxRecDepth 8000 in
set_option maxHeartbeats 4000000 in
theorem rmcheck_any (ty : Int) (v : Value) (es : List El) (w : World) (hv : Elems w v es) (hl : es.length ≤ 1000000) (hsv : SmallV es) :
 Calls Tryz.prog 10 #[msgAgg ty v] w (OneV (.int .i64 (mchk ty es)) w) := by
 have hV := Lib.hid hv
 have hSV := Lib.hid hsv
 obtain ⟨q, cp, rfl, hp⟩ := hv
 have hP := Lib.hid hp
 clear hp hsv
 unfold msgAgg
 by_cases hr : ty < 1 ∨ 9999 < ty
 · have hM := Lib.hid (mchk_range (es := es) hr)
   by_cases h1 : ty < 1
   · go_enter Tryz.func10, Tryz.ntmps10
     go_wp2
     go_ret
     rw [hM.out]
     exact ⟨rfl, xt⟩
   · have h2 : 9999 < ty := by omega
     go_enter Tryz.func10, Tryz.ntmps10
     go_wp2
     go_ret
     rw [hM.out]
     exact ⟨rfl, xt⟩
 · have hr1 : 1 ≤ ty := by omega
   have hr2 : ty ≤ 9999 := by omega
   have hR := Lib.hid hr
   clear hr
   go_enter Tryz.func10, Tryz.ntmps10
   go_wp2_with fail
   refine (numbers_any ty _ es _ (hV.out.ext xt) hl).mono ?_
   rintro e w1 ⟨nv, rfl, hn1, hE1⟩
   have hB1 := (Blk.new w _ _).ext hE1
   have hE01 : Ext w w1 := ((Ext.refl w).alloc _).trans hE1
   clear hE1
   have hnl : (numsL es).length = es.length := by unfold numsL; simp
   obtain ⟨np, nc, rfl, hnp⟩ : ∃ p c, nv = .slice p es.length c ∧ (0 < es.length → ∃ b off, p = some ⟨b, off, none⟩ ∧ ∀ i, i < es.length → w1.cell? ⟨b, off + i, none⟩ = some (.int .i64 (es.getD i elD).1)) := by
    rcases hn1 with ⟨rfl, h0⟩ | ⟨b, off, cap, rfl, hc⟩
    · have h00 : es.length = 0 := by rw [← hnl, h0]; rfl
      exact ⟨none, 0, by rw [h00], fun h => by omega⟩
    · rw [hnl] at hc ⊢
      exact ⟨_, cap, rfl, fun _ => ⟨b, off, rfl, fun i hi => by rw [← nums_at es i hi]; exact hc i hi⟩⟩
   have hNP := Lib.hid hnp
   clear hnp hn1 hnl
   go_wp2
   go_loopw [4] (fun i wr => ∃ k : Nat, 1 ≤ k ∧ (k ≤ es.length ∨ k = 1) ∧ i = .int .i64 k ∧ Ext w1 wr ∧ Blk wr w.heap.size #[.int .i64 ty, .slice q es.length cp] 29 ∧ ∀ j, j + 1 < k → (es.getD j elD).1 < (es.getD (j + 1) elD).1) (fun i _ => es.length + 1 - (intOf i).toNat)
   case atStart => exact ⟨1, by omega, Or.inr rfl, rfl, Ext.refl _, hB1, fun j hj => absurd hj (by omega)⟩
   case round =>
    obtain ⟨k, hk1, hk2, rfl, hE, hB, hasc⟩ := hrel
    have hA := Lib.hid hasc
    clear hasc
    have z0 := hB.cell 0
    have z1 := hB.cell 1
    simp at z0 z1
    by_cases hlt : k < es.length
    · obtain ⟨b, off, rfl, hcs⟩ := hNP.out (by omega)
      obtain ⟨km, hkm⟩ : ∃ km, k = km + 1 := ⟨k - 1, by omega⟩
      have c0 := hE.get (hcs k hlt)
      have c1 := hE.get (hcs km (by omega))
      have hsub : IntKind.i64.wrap ((k : Int) - 1) = (km : Int) := by rw [IntKind.wrap_i64] <;> omega
      have hb1 : (km : Int) < es.length := by omega
      have hb2 : (0 : Int) ≤ km := by omega
      have hKM := Lib.hid hkm
      clear hcs hkm
      generalize hx : (es.getD k elD).1 = n1 at *
      generalize hy : (es.getD km elD).1 = n0 at *
      have HX := Lib.hid (And.intro hx hy)
      clear hx hy
      by_cases hle : n1 ≤ n0
      · have hF := Lib.hid (asc_false (es := es) km (by have := hKM.out; omega) (by rw [← hKM.out, HX.out.1, HX.out.2]; exact hle))
        have hM := Lib.hid (mchk_asc hR.out hF.out)
        go_wp2
        go_quiet (fail)
        clear hsub
        go_wp2
        go_ret
        rw [hM.out]
        exact ⟨rfl, hE01.trans (hE.drewN _)⟩
      · go_wp2
        go_quiet (fail)
        clear hsub
        go_wp2
        go_roundw
        case rel => exact ⟨k + 1, by omega, Or.inl (by omega), by go_num, hE.drewN _, hB.drewN _, fun j hj => (by
         by_cases e : j = km
         · subst e; have h1 := HX.out; have h2 := hKM.out; rw [← h2, h1.1, h1.2]; omega
         · exact hA.out j (by have := hKM.out; omega))⟩
        case measure => simp [intOf]; omega
    · have hAsc := Lib.hid (asc_true (es := es) (fun j hj => hA.out j (by omega)))
      clear hA
      go_wp2
      obtain ⟨wo, rfl⟩ : ∃ wo : World, wo = wr := ⟨_, rfl⟩
      go_loopw [5] (fun i wr => ∃ m : Nat, m ≤ es.length ∧ i = .int .i64 m ∧ Ext w1 wr ∧ Blk wr w.heap.size #[.int .i64 ty, .slice q es.length cp] 29 ∧ ∀ j, j < m → chkC (es.getD j elD).1 (es.getD j elD).2 = 0) (fun i _ => es.length - (intOf i).toNat)
      case atStart => exact ⟨0, by omega, rfl, hE, hB, fun j hj => absurd hj (by omega)⟩
      case round =>
       obtain ⟨m, hm, rfl, hE2, hB2, hck⟩ := hrel
       have hCk := Lib.hid hck
       clear hck z0 z1
       have z0 := hB2.cell 0
       have z1 := hB2.cell 1
       simp at z0 z1
       by_cases hmt : m < es.length
       · obtain ⟨b, off, rfl, hcs⟩ := hP.out (by omega)
         obtain ⟨nb, noff, rfl, hns⟩ := hNP.out (by omega)
         have c0 := hE2.get (hns m hmt)
         have c1 := (hE01.trans hE2).get (hcs m hmt).2
         have hs1 := hSV.out m hmt
         have hm1 : (m : Int) < es.length := by omega
         clear hcs hns
         generalize hx : (es.getD m elD).1 = n at *
         generalize hy : (es.getD m elD).2 = s at *
         have HX := Lib.hid (And.intro hx hy)
         clear hx hy
         go_wp2_with fail
         go_region_held3 (fun w' => w'.cell? ⟨nb, noff + m, none⟩ = some (.int .i64 n) ∧ w'.cell? ⟨w.heap.size, 1, none⟩ = some (.slice (some ⟨b, off, none⟩) es.length cp) ∧ w'.cell? ⟨b, off + m * 2 + 1, none⟩ = some (.string s)) (first | exact ⟨c0, z1, c1⟩ | exact ⟨hE3.get c0, hE3.get z1, hE3.get c1⟩) ((go_at_call 31; refine (rCheckF n s _ hs1).mono ?_; rintro e w3 ⟨rfl, hE3⟩))
         have hE3 : Ext wr w3 := by first | exact hE3 | exact Ext.undrew hE3
         have hB3 := hB2.ext hE3
         have hE4 : Ext w1 w3 := hE2.trans hE3
         clear hE3
         by_cases hz : chkC n s = 0
         · rw [hz]
           have hZ := Lib.hid hz
           clear hz
           go_wp2
           go_roundw
           case rel => exact ⟨m + 1, by omega, by go_num, hE4, hB3, fun j hj => (by
            by_cases e : j = m
            · subst e; rw [HX.out.1, HX.out.2]; exact hZ.out
            · exact hCk.out j (by omega))⟩
           case measure => simp [intOf]; omega
         · have hzb : (chkC n s != 0) = true := by simpa using hz
           have hEr := errL_at es m hmt hCk.out (by rw [HX.out.1, HX.out.2]; exact hz)
           rw [HX.out.1, HX.out.2] at hEr
           have hM := Lib.hid ((mchk_err hR.out hAsc.out (by rw [hEr]; exact hz)).trans hEr)
           clear hEr hz
           generalize chkC n s = ec at *
           go_wp2
           go_ret
           rw [hM.out]
           exact ⟨rfl, hE01.trans hE4⟩
       · have hErr := Lib.hid (errL_none es (fun j hj => hCk.out j (by omega)))
         have hM := Lib.hid (mchk_req (ty := ty) hR.out hAsc.out hErr.out)
         clear hCk
         go_wp2_with fail
         refine (rRequired_any ty _).mono ?_
         rintro e w3 ⟨rv, rfl, hi3, hE3⟩
         have hB3 := hB2.ext hE3
         have hE4 : Ext w w3 := (hE01.trans hE2).trans hE3
         have hrl := reqL_len ty
         obtain ⟨p3, c3, rfl, hp3⟩ : ∃ p c, rv = .slice p (reqL ty).length c ∧ (0 < (reqL ty).length → ∃ b off, p = some ⟨b, off, none⟩ ∧ ∀ i, i < (reqL ty).length → w3.cell? ⟨b, off + i, none⟩ = some (.int .i64 ((reqL ty).getD i 0))) := by
          rcases hi3 with ⟨rfl, h0⟩ | ⟨b, off, cap, rfl, hc⟩
          · exact ⟨none, 0, by rw [h0]; rfl, fun h => by rw [h0] at h; simp at h⟩
          · exact ⟨_, cap, rfl, fun _ => ⟨b, off, rfl, hc⟩⟩
         have hP3 := Lib.hid hp3
         have hQ := Lib.hid (And.intro (@req_bad ty es) (@req_ok ty es))
         have hEc := Lib.hid hE4
         generalize reqL ty = rq at *
         clear hp3 hi3 hE3
         go_wp2
         obtain ⟨wo2, rfl⟩ : ∃ wo2 : World, wo2 = w3 := ⟨_, rfl⟩
         go_loopw [8] (fun i wr => ∃ r : Nat, r ≤ rq.length ∧ i = .int .i64 r ∧ Ext wo2 wr ∧ Blk wr w.heap.size #[.int .i64 ty, .slice q es.length cp] 29 ∧ ∀ j, j < r → getB (rq.getD j 0) es = true) (fun i _ => rq.length - (intOf i).toNat)
         case atStart => exact ⟨0, by omega, rfl, Ext.refl _, hB3, fun j hj => absurd hj (by omega)⟩
         case round =>
          obtain ⟨r, hr, rfl, hE5, hB5, hgt⟩ := hrel
          have hGt := Lib.hid hgt
          clear hgt z0 z1
          have z0 := hB5.cell 0
          have z1 := hB5.cell 1
          simp at z0 z1
          by_cases hrt : r < rq.length
          · obtain ⟨b3, off3, rfl, hc3⟩ := hP3.out (by omega)
            have d0 := hE5.get (hc3 r hrt)
            have hE6 := hEc.out.trans hE5
            clear hc3
            generalize hx : rq.getD r 0 = n at *
            have HX := Lib.hid hx
            clear hx
            have hr1 : (r : Int) < rq.length := by omega
            go_wp2_with fail
            go_region_held3 (fun w' => w'.cell? ⟨w.heap.size, 0, none⟩ = some (.int .i64 ty) ∧ w'.cell? ⟨w.heap.size, 1, none⟩ = some (.slice q es.length cp) ∧ w'.cell? ⟨b3, off3 + r, none⟩ = some (.int .i64 n)) (first | exact ⟨z0, z1, d0⟩ | exact ⟨hE7.get z0, hE7.get z1, hE7.get d0⟩) ((go_at_call 9; refine (rGet_any ty n _ es _ (by first | exact hV.out.ext hE6 | exact hV.out.ext hE6.drew) hl).mono ?_; rintro e w7 ⟨rfl, hE7⟩))
            have hE7 : Ext wr w7 := by first | exact hE7 | exact Ext.undrew hE7
            have hE8 := hE5.trans hE7
            have hB8 := hB5.ext hE7
            cases hgb : getB n es with
            | true =>
             have hG := Lib.hid hgb
             clear hgb
             go_wp2
             go_roundw
             case rel => exact ⟨r + 1, by omega, by go_num, hE8, hB8, fun j hj => (by
              by_cases e : j = r
              · subst e; rw [HX.out]; exact hG.out
              · exact hGt.out j (by omega))⟩
             case measure => simp [intOf]; omega
            | false =>
             have hRB := Lib.hid (hQ.out.1 r hrt (by rw [HX.out]; exact hgb))
             clear hgb
             go_wp2
             go_ret
             rw [hM.out, hRB.out]
             exact ⟨rfl, hEc.out.trans hE8⟩
          · have hRB := Lib.hid (hQ.out.2 (fun j hj => hGt.out j (by omega)))
            go_wp2
            go_ret
            rw [hM.out, hRB.out]
            exact ⟨rfl, hEc.out.trans hE5⟩
end Go.Proofs.YtkggloeaojkhaaaGreatDoor
