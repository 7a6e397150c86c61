/- The walk of the law MessageElements. -/
import Derived.Test.YthokhncdpfaifaaGreatDoorMsgrw
import Derived.Test.YthokhncdpfaifaaGreatDoorMsgnu
import Derived.Test.YthokhncdpfaifaaGreatDoorMplain
import Derived.Test.YthokhncdpfaifaaGreatDoorMlawc
namespace Go.Proofs.YthokhncdpfaifaaGreatDoor
open Go.RowKit
/-- The result is a message with these elements. -/
def MsgS (ty : Int) (es : List El) (w : World) (e : Ending) (w' : World) : Prop := ∃ p c, e = .returned (.agg #[.int .i64 ty, .slice p es.length c]) ∧ Elems w' (.slice p es.length c) es ∧ Ext w w'
theorem withoutS (ty n : Int) (p : Option Addr) (c : Nat) (es : List El) (w : World) (hv : Elems w (.slice p es.length c) es) (hl : es.length ≤ 1000000) :
    Calls Tryz.prog 28 #[.agg #[.int .i64 ty, .slice p es.length c], .int .i64 n] w (MsgS ty (keepL (fun m => m != n) es) w) := by
  refine (without_any ty n _ es w hv hl).mono ?_
  rintro e w' ⟨v, rfl, ho, hE⟩
  obtain ⟨p', c', rfl⟩ := owns_form ho
  exact ⟨p', c', rfl, elems_of_owns ho, hE⟩
theorem rWithoutS (ty n : Int) (p : Option Addr) (c : Nat) (es : List El) (w : World) (hv : Elems w (.slice p es.length c) es) (hl : es.length ≤ 1000000) :
    Calls Tryz.prog 29 #[.agg #[.int .i64 ty, .slice p es.length c], .int .i64 n] w (MsgS ty (keepL (fun m => m != n) es) w) := by
  refine (rWithout_any ty n _ es w hv hl).mono ?_
  rintro e w' ⟨v, rfl, ho, hE⟩
  obtain ⟨p', c', rfl⟩ := elems_form ho
  exact ⟨p', c', rfl, ho, hE⟩
theorem sameS (ta : Int) (p q : Option Addr) (c d : Nat) (es : List El) (w : World) (h1 : Elems w (.slice p es.length c) es) (h2 : Elems w (.slice q es.length d) es) (hl : es.length ≤ 1000000) :
    Calls Tryz.prog 17 #[.agg #[.int .i64 ta, .slice p es.length c], .agg #[.int .i64 ta, .slice q es.length d]] w (OneV (.bool true) w) := by
  refine (rSame_any ta ta _ _ es es w h1 h2 hl hl).mono ?_
  rintro e w' ⟨rfl, hE⟩
  rw [same_self]
  exact ⟨rfl, hE⟩
/-- What With returns, where the numbers ascend. -/
def wthT (ty n : Int) (val : ByteArray) : Int := if chkC n val = 0 then ty else 0
def wthL (n : Int) (val : ByteArray) (es : List El) : List El := if chkC n val = 0 then withL n val es else []
def WthS (ty n : Int) (val : ByteArray) (es : List El) (w : World) (e : Ending) (w' : World) : Prop := ∃ p c, e = .returned (.tuple #[.agg #[.int .i64 (wthT ty n val), .slice p (wthL n val es).length c], .int .i64 (chkC n val)]) ∧ Elems w' (.slice p (wthL n val es).length c) (wthL n val es) ∧ Ext w w'
theorem withS (ty n : Int) (val : ByteArray) (p : Option Addr) (c : Nat) (es : List El) (w : World) (g : Gl w) (hv : Elems w (.slice p es.length c) es) (hl : es.length ≤ 1000000) (hvs : val.size ≤ 1000000) :
    Calls Tryz.prog 24 #[.agg #[.int .i64 ty, .slice p es.length c], .int .i64 n, .string val] w (WthS ty n val es w) := by
  refine (with_any ty n val _ es w g hv hl hvs).mono ?_
  rintro e w' (⟨hc, rfl, hE⟩ | ⟨hc, v, rfl, he, hE⟩)
  · unfold WthS wthT wthL
    rw [if_neg hc, if_neg hc]
    exact ⟨none, 0, rfl, elems_nil _, hE⟩
  · obtain ⟨p', c', rfl⟩ := elems_form he
    unfold WthS wthT wthL
    rw [if_pos hc, if_pos hc, hc]
    exact ⟨p', c', rfl, he, hE⟩
theorem rWithS (ty n : Int) (val : ByteArray) (p : Option Addr) (c : Nat) (es : List El) (w : World) (ha : ascB es = true) (hv : Elems w (.slice p es.length c) es) (hl : es.length ≤ 100000) (hvs : val.size ≤ 1000000) :
    Calls Tryz.prog 30 #[.agg #[.int .i64 ty, .slice p es.length c], .int .i64 n, .string val] w (WthS ty n val es w) := by
  refine (rWith_any ty n val _ es w hv hl hvs).mono ?_
  rintro e w' (⟨hc, rfl, hE⟩ | ⟨hc, v, rfl, he, hE⟩)
  · unfold WthS wthT wthL
    rw [if_neg hc, if_neg hc]
    exact ⟨none, 0, rfl, elems_nil _, hE⟩
  · rw [rwL_asc n val es (asc_pair es ha)] at he
    obtain ⟨p', c', rfl⟩ := elems_form he
    unfold WthS wthT wthL
    rw [if_pos hc, if_pos hc, hc]
    exact ⟨p', c', rfl, he, hE⟩
theorem wthL_len (n : Int) (val : ByteArray) (es : List El) : (wthL n val es).length ≤ es.length + 1 := by
  unfold wthL
  split
  · exact withL_len n val es
  · simp
set_option maxRecDepth 8000 in
set_option maxHeartbeats 16000000 in
theorem law_elements (ty : Int) (v : Value) (es : List El) (n : Int) (val : ByteArray) (w : World) (g : Gl w) (hv : Okm w v es) (hcs : val.size ≤ 9223372036854775807) : Calls Tryz.prog 8 #[msgAgg ty v, .int .i64 n, .string val] w (LawPost w) := by
  obtain ⟨hv, hl, hsz⟩ := hv
  have hV := Lib.hid hv
  have hSz := Lib.hid hsz
  obtain ⟨q, cp, rfl⟩ := elems_form hv
  have hP := Lib.hid (elems_cells hv)
  clear hv hsz
  unfold msgAgg
  go_enter Tryz.func8, Tryz.ntmps8
  go_wp2_with fail
  refine (small_any ty _ es _ (hV.out.ext ((Ext.refl w).alloc _)) hl hSz.out).mono ?_
  rintro e w1 ⟨rfl, hE1⟩
  have hB1 := (Blk.new w _ _).ext hE1
  have hE01 : Ext w w1 := ((Ext.refl w).alloc _).trans hE1
  have z0 := hB1.cell 0
  have z1 := hB1.cell 1
  simp at z0 z1
  clear hE1
  cases hsm : smallB es with
  | false =>
    clear hsm
    go_wp2_with fail
    refine (awake_any _ (g.ext hE01)).mono ?_
    rintro e w4 ⟨rfl, hE⟩
    have hE04 := hE01.trans hE
    clear hE
    go_wp2
    go_ret
    exact ⟨rfl, hE04⟩
  | true =>
    obtain ⟨h60, _⟩ := small_yes hsm
    clear hsm
    by_cases hc : val.size ≤ 400
    · have hcb : decide ((400 : Int) < val.size) = false := by simp; omega
      have hG1 := Lib.hid (fun w hv => get_any ty n (.slice q es.length cp) es w hv (by omega))
      have hG2 := Lib.hid (fun w hv => rGet_any ty n (.slice q es.length cp) es w hv (by omega))
      have hN1 := Lib.hid (fun w hv => number_any ty n (.slice q es.length cp) es w hv (by omega))
      have hN2 := Lib.hid (fun w hv => rNumber_any ty n (.slice q es.length cp) es w hv (by omega))
      unfold msgAgg at hG1 hG2 hN1 hN2
      go_wp2_with fail
      refine (hG1.out _ (hV.out.ext hE01)).mono ?_
      rintro e w2 ⟨rfl, hE2⟩
      have hB2 := hB1.ext hE2
      have hE02 := hE01.trans hE2
      clear hE2 hB1 hE01 z0 z1 hG1
      have z0 := hB2.cell 0
      have z1 := hB2.cell 1
      simp at z0 z1
      go_wp2_with fail
      refine (hG2.out _ (hV.out.ext hE02)).mono ?_
      rintro e w3 ⟨rfl, hE3⟩
      have hB3 := hB2.ext hE3
      have hE03 := hE02.trans hE3
      clear hE3 hB2 hE02 z0 z1 hG2
      have z0 := hB3.cell 0
      have z1 := hB3.cell 1
      simp at z0 z1
      go_wp2_with fail
      refine (hN1.out _ (hV.out.ext hE03)).mono ?_
      rintro e w4 ⟨rfl, hE4⟩
      have hB4 := hB3.ext hE4
      have hE04 := hE03.trans hE4
      clear hE4 hB3 hE03 z0 z1 hN1
      have z0 := hB4.cell 0
      have z1 := hB4.cell 1
      simp at z0 z1
      go_wp2_with fail
      refine (hN2.out _ (hV.out.ext hE04)).mono ?_
      rintro e w5 ⟨rfl, hE5⟩
      have hB5 := hB4.ext hE5
      have hE0 := hE04.trans hE5
      clear hE5 hB4 hE04 z0 z1 hN2 hcb
      have x0 : w5.cell? ⟨w.heap.size, 0, none⟩ = some (.int .i64 ty) := hB5.cell 0
      have x1 : w5.cell? ⟨w.heap.size, 1, none⟩ = some (.slice q es.length cp) := hB5.cell 1
      have hlB := hB5.lt
      generalize getS n es = gs at *
      generalize getB n es = gb at *
      generalize numV n es = nv at *
      generalize numE n es = ne at *
      have k1 := Lib.hid (fun w hv => withoutS ty n q cp es w hv (by omega))
      have k2 := Lib.hid (fun w hv => rWithoutS ty n q cp es w hv (by omega))
      have hkl := keepL_len (fun m => m != n) es
      generalize keepL (fun m => m != n) es = kl at *
      have hVa := Lib.hid (hV.out.ext hE0)
      go_wp2_with fail
      go_region_held3 (fun w' => w'.cell? ⟨w.heap.size, 0, none⟩ = some (.int .i64 ty) ∧ w'.cell? ⟨w.heap.size, 1, none⟩ = some (.slice q es.length cp)) (first | exact ⟨by assumption, by assumption⟩ | exact ⟨x0, x1⟩) (first | (go_at_call 28; refine (k1.out _ (by first | exact hVa.out | exact hVa.out.ext (Ext.refl _).drew)).mono ?_; rintro e w6 ⟨pa, ca, rfl, hWa, hE6⟩; have hS := ext_at hE0 (by first | exact hE6 | exact Ext.undrew hE6); have hE0 := hE0.trans hS; have x0 := hS.get x0; have x1 := hS.get x1; have hB5 := hB5.ext hS; have hVa := Lib.hid (hVa.out.ext hS); (try have hWb := Lib.hid (hWb.out.ext hS)); have hWa := Lib.hid hWa; clear hE6 hS) | (go_at_call 29; refine (k2.out _ (by first | exact hVa.out | exact hVa.out.ext (Ext.refl _).drew)).mono ?_; rintro e w6 ⟨pb, cb, rfl, hWb, hE6⟩; have hS := ext_at hE0 (by first | exact hE6 | exact Ext.undrew hE6); have hE0 := hE0.trans hS; have x0 := hS.get x0; have x1 := hS.get x1; have hB5 := hB5.ext hS; have hVa := Lib.hid (hVa.out.ext hS); (try have hWa := Lib.hid (hWa.out.ext hS)); have hWb := Lib.hid hWb; clear hE6 hS) | (go_at_call 17; refine (sameS ty _ _ _ _ kl _ (by first | exact hWa.out | exact hWa.out.ext (Ext.refl _).drew) (by first | exact hWb.out | exact hWb.out.ext (Ext.refl _).drew) (by omega)).mono ?_; rintro e w6 ⟨rfl, hE6⟩; have hS := ext_at hE0 (by first | exact hE6 | exact Ext.undrew hE6); have hE0 := hE0.trans hS; have x0 := hS.get x0; have x1 := hS.get x1; have hB5 := hB5.ext hS; have hVa := Lib.hid (hVa.out.ext hS); clear hE6 hS))
      all_goals
        clear hWa hWb k1 k2 hkl
        go_wp2
        go_loopw [15] (fun i wr => ∃ k : Nat, 1 ≤ k ∧ (k ≤ es.length ∨ k = 1) ∧ i = .int .i64 k ∧ (∀ j, j + 1 < k → (es.getD j elD).1 < (es.getD (j + 1) elD).1) ∧ Ext w wr ∧ Blk wr w.heap.size #[.int .i64 ty, .slice q es.length cp] 24) (fun i _ => es.length + 1 - (intOf i).toNat)
        case atStart => exact ⟨1, by omega, Or.inr rfl, rfl, fun j hj => absurd hj (by omega), hE0, hB5⟩
        case round =>
          clear hE0 hB5 x0 x1 hVa
          obtain ⟨k, hk1, hk2, rfl, hno, hE, hB⟩ := hrel
          have hNo := Lib.hid hno
          clear hno
          have z0 := hB.cell 0
          have z1 := hB.cell 1
          simp at z0 z1
          by_cases hlt : k < es.length
          · obtain ⟨b, off, rfl, hcs⟩ := hP.out (by omega)
            obtain ⟨km, hkm⟩ : ∃ km, k = km + 1 := ⟨k - 1, by omega⟩
            have c0 := hE.get (hcs k hlt).1
            have c1 := hE.get (hcs km (by omega)).1
            have hsub : IntKind.i64.wrap ((k : Int) - 1) = (km : Int) := by rw [IntKind.wrap_i64] <;> omega
            have hb1 : (km : Int) < es.length := by omega
            have hb2 : (0 : Int) ≤ km := by omega
            have HX := Lib.hid (show (es.getD k elD).1 = (es.getD k elD).1 ∧ (es.getD km elD).1 = (es.getD km elD).1 from ⟨rfl, rfl⟩)
            generalize h1 : (es.getD k elD).1 = n1 at c0
            generalize h0 : (es.getD km elD).1 = n0 at c1
            have H1 := Lib.hid h1
            have H0 := Lib.hid h0
            have hKM := Lib.hid hkm
            clear hcs hkm h1 h0 HX
            by_cases hle : n1 ≤ n0
            · have hlb : decide (n1 ≤ n0) = true := by simpa using hle
              go_wp2
              go_quiet (fail)
              clear hsub
              go_wp2_with fail
              refine (awake_any _ (g.ext (hE.drewN _))).mono ?_
              rintro e w4 ⟨rfl, hE4⟩
              have hE04 := (hE.drewN _).trans hE4
              clear hE4
              go_wp2
              go_ret
              exact ⟨rfl, hE04⟩
            · have hlb : decide (n1 ≤ n0) = false := by simpa using hle
              have hLe := Lib.hid hle
              clear hle
              go_wp2
              go_quiet (fail)
              clear hsub
              go_wp2
              go_roundw
              case rel => exact ⟨k + 1, by omega, Or.inl (by omega), by go_num, fun j hj => (by
                by_cases e : j = km
                · have := hKM.out
                  have := hLe.out
                  rw [e, H0.out, ← hKM.out, H1.out]; omega
                · exact hNo.out j (by have := hKM.out; omega)), hE.drewN _, hB.drewN _⟩
              case measure => simp [intOf]; omega
          · have hasc := Lib.hid (asc_true (es := es) (fun j hj => hNo.out j (by omega)))
            have hW1 := Lib.hid (fun w g hv => withS ty n val q cp es w g hv (by omega) (by omega))
            have hW2 := Lib.hid (fun w hv => rWithS ty n val q cp es w hasc.out hv (by omega) (by omega))
            have hwl := wthL_len n val es
            unfold WthS at hW1 hW2
            generalize wthL n val es = ws at *
            generalize wthT ty n val = wt at *
            generalize chkC n val = cc at *
            clear hP
            go_wp2_with fail
            refine (hW1.out _ (g.ext hE) (hV.out.ext hE)).mono ?_
            rintro e w7 ⟨p7, c7, rfl, hv7, hE7⟩
            have hV7 := Lib.hid hv7
            have hB7 := hB.ext hE7
            have hE07 := hE.trans hE7
            clear hv7 hE7 hB hE z0 z1 hW1
            have z0 := hB7.cell 0
            have z1 := hB7.cell 1
            have hl7 := hB7.lt
            simp at z0 z1
            go_wp2_with fail
            refine (hW2.out _ (hV.out.ext (hE07.alloc _))).mono ?_
            rintro e w8 ⟨p8, c8, rfl, hv8, hE8⟩
            have hV8 := Lib.hid hv8
            have hN := (Blk.new w7 #[.int .i64 wt, .slice p7 ws.length c7] 24).ext hE8
            have hE78 : Ext w7 w8 := ((Ext.refl w7).alloc _).trans hE8
            have hV78 := Lib.hid (hV7.out.ext hE78)
            have hE08 := hE07.trans hE78
            clear hv8 hE8 hB7 hE07 z0 z1 hW2 hE78 hV7
            have z0 := hN.cell 0
            have z1 := hN.cell 1
            have hl8 := hN.lt
            simp at z0 z1
            go_wp2_with fail
            refine (sameS wt p7 p8 c7 c8 ws _ (hV78.out.ext ((Ext.refl w8).alloc _)) (hV8.out.ext ((Ext.refl w8).alloc _)) (by omega)).mono ?_
            rintro e w9 ⟨rfl, hE9⟩
            have hE09 : Ext w w9 := (hE08.alloc _).trans hE9
            clear hE9 hE08
            go_wp2_with fail
            refine (awake_any _ (g.ext hE09)).mono ?_
            rintro e w10 ⟨rfl, hE10⟩
            have hE010 := hE09.trans hE10
            clear hE10
            go_wp2
            go_ret
            exact ⟨rfl, hE010⟩
    · have hcb : decide ((400 : Int) < val.size) = true := by simp; omega
      go_wp2_with fail
      refine (awake_any _ (g.ext hE01)).mono ?_
      rintro e w4 ⟨rfl, hE⟩
      have hE04 := hE01.trans hE
      clear hE
      go_wp2
      go_ret
      exact ⟨rfl, hE04⟩
end Go.Proofs.YthokhncdpfaifaaGreatDoor
