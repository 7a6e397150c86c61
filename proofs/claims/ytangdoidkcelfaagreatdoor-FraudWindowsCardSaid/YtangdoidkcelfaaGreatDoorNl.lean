/- The law FraudTexts (walk; printed by gen/h52.py). -/
import Derived.Test.YtangdoidkcelfaaGreatDoorNi
import Derived.Test.YtangdoidkcelfaaGreatDoorNj
import Derived.Test.YtangdoidkcelfaaGreatDoorNk
namespace Go.Proofs.YtangdoidkcelfaaGreatDoor
open Go.RowKit
/-- The slice v reads as the texts (of any number). -/
def KysL (w : World) (v : Value) (ks : List ByteArray) : Prop :=
 ∃ p c, v = .slice p ks.length c ∧ (0 < ks.length → ∃ b off, p = some ⟨b, off, none⟩ ∧ ∀ i, i < ks.length → w.cell? ⟨b, off + i, none⟩ = some (.string (ks.getD i ⟨#[]⟩)))
theorem KysL.few {w : World} {v : Value} {ks : List ByteArray} (h : KysL w v ks) (hl : ks.length ≤ 1000000) : KysM w v ks := by
 obtain ⟨p, c, h1, h2⟩ := h
 exact ⟨p, c, h1, hl, h2⟩
theorem expl_val (act sc : Int) (fl : List ByteArray) (fv : Value) (w : World) (g : Gw w) (hK : KysM w fv fl) (h0 : -9223372036854775808 ≤ sc) (h1 : sc ≤ 9223372036854775807) (hl : fl.length ≤ 1000) (hz : ∀ s ∈ fl, s.size ≤ 1000000) : Calls Tryz.prog 8 #[.agg #[.int .i64 act, .int .i64 sc, fv]] w fun e w' => e = .returned (.string ⟨(explV ⟨act, sc, fl⟩).toArray⟩) ∧ Ext w w' :=
 (frexplain_any ⟨act, sc, fl⟩ fv w g hK h0 h1 hl hz).mono fun e w' ⟨r, he, hr, hE⟩ => ⟨by rw [he, str_of hr], hE⟩
theorem rexpl_val (act sc : Int) (fl : List ByteArray) (fv : Value) (w : World) (g : Gw w) (hK : KysM w fv fl) (h0 : -9223372036854775808 ≤ sc) (h1 : sc ≤ 9223372036854775807) (hl : fl.length ≤ 1000) (hz : ∀ s ∈ fl, s.size ≤ 1000000) : Calls Tryz.prog 9 #[.agg #[.int .i64 act, .int .i64 sc, fv]] w fun e w' => e = .returned (.string ⟨(explV ⟨act, sc, fl⟩).toArray⟩) ∧ Ext w w' :=
 (rexplain_any ⟨act, sc, fl⟩ fv w g hK h0 h1 hl hz).mono fun e w' ⟨r, he, hr, hE⟩ => ⟨by rw [he, str_of hr], hE⟩
def TrueP (w : World) (e : Ending) (w' : World) : Prop := e = .returned (.bool true) ∧ Ext w w'
set_option maxRecDepth 8000 in
set_option maxHeartbeats 16000000 in
theorem law_texts (act sc : Int) (fv : Value) (fl : List ByteArray) (ty : Int) (ev : Value) (es : List El) (w : World) (g : Gw w) (h0 : -9223372036854775808 ≤ sc) (h1 : sc ≤ 9223372036854775807) (hK : KysL w fv fl) (hm : Elems w ev es) : Calls Tryz.prog 3 #[.agg #[.int .i64 act, .int .i64 sc, fv], .agg #[.int .i64 ty, ev]] w (TrueP w) := by
 have hend := Lib.hid (fun w' (h : Ext w w') => show TrueP w (.returned (.bool true)) w' from ⟨rfl, h⟩)
 generalize TrueP w = PP at *
 have hK0 := Lib.hid hK
 have hm0 := Lib.hid hm
 obtain ⟨p, c, rfl, hkc⟩ := hK
 obtain ⟨q, cp, rfl, hmc⟩ := hm
 replace hkc := Lib.hid hkc
 replace hmc := Lib.hid hmc
 replace g := Lib.hid g
 go_enter Tryz.func3, Tryz.ntmps3
 go_wp2_with fail
 have bV := Lib.hid ((Blk.new w #[.int .i64 act, .int .i64 sc, .slice p fl.length c] 24).alloc (.cells #[.int .i64 ty, .slice q es.length cp] 27))
 have bM := Lib.hid (Blk.new' (w.alloc (.cells #[.int .i64 act, .int .i64 sc, .slice p fl.length c] 24)) #[.int .i64 ty, .slice q es.length cp] 27 (w.heap.size + 1) (by simp))
 have hE1 : Ext w ((w.alloc (.cells #[.int .i64 act, .int .i64 sc, .slice p fl.length c] 24)).alloc (.cells #[.int .i64 ty, .slice q es.length cp] 27)) := xt
 generalize ((w.alloc (.cells #[.int .i64 act, .int .i64 sc, .slice p fl.length c] 24)).alloc (.cells #[.int .i64 ty, .slice q es.length cp] 27)) = w1 at *
 have v2 : w1.cell? ⟨w.heap.size, 2, none⟩ = some (.slice p fl.length c) := (bV.out.cell 2).trans rfl
 go_loopw [5] (fun i wr => ∃ k : Nat, k ≤ fl.length ∧ k ≤ 70 ∧ i = .int .i64 k ∧ Hid (∀ j, j < k → (fl.getD j ⟨#[]⟩).size ≤ 100) ∧ Ext w1 wr) (fun i _ => fl.length - (intOf i).toNat)
 case atStart => exact ⟨0, Nat.zero_le _, by omega, rfl, Lib.hid (fun j hj => absurd hj (by omega)), Ext.refl _⟩
 case round =>
  obtain ⟨k, hk, hk70, rfl, hall, hE⟩ := hrel
  replace v2 := hE.get v2
  have hE2 := hE1.trans hE
  by_cases hlt : k < fl.length
  · obtain ⟨b, off, rfl, hce⟩ := hkc.out (by omega)
    have c0 := hE2.get (hce k hlt)
    have hnx := Lib.hid (fun (hs : (fl.getD k ⟨#[]⟩).size ≤ 100) j (hj : j < k + 1) => show (fl.getD j ⟨#[]⟩).size ≤ 100 by
     by_cases e : j = k
     · rw [e]; exact hs
     · exact hall.out j (by omega))
    clear hce hall hK0 hm0 bV bM
    generalize fl.getD k ⟨#[]⟩ = nm at *
    by_cases h7 : 70 ≤ k
    · have q0 : decide (70 ≤ (k : Int)) = true := decide_eq_true (by omega)
      clear hnx h7
      go_wp2_with fail
      refine (awake_any _ (g.out.ext hE2)).mono ?_
      rintro e w9 ⟨rfl, hE9⟩
      go_wp2
      try go_ret
      exact hend.out _ ((hE2).trans hE9)
    · have q0 : decide (70 ≤ (k : Int)) = false := decide_eq_false (by omega)
      by_cases hz : 100 < nm.size
      · have q1 : decide (100 < (nm.size : Int)) = true := decide_eq_true (by omega)
        clear hnx h7 hz
        go_wp2_with fail
        refine (awake_any _ (g.out.ext hE2)).mono ?_
        rintro e w9 ⟨rfl, hE9⟩
        go_wp2
        try go_ret
        exact hend.out _ ((hE2).trans hE9)
      · have q1 : decide (100 < (nm.size : Int)) = false := decide_eq_false (by omega)
        have hx2 := Lib.hid (hnx.out (by omega))
        clear hnx hz
        go_wp2
        go_roundw
        case rel => exact ⟨k + 1, by omega, by omega, by go_num, hx2, hE⟩
        case measure => simp [intOf]; omega
  · obtain rfl : k = fl.length := by omega
    rename World => w2
    have hsz : ∀ s ∈ fl, s.size ≤ 1000000 := fun s hs => by
     obtain ⟨j, hj, rfl⟩ := List.getElem_of_mem hs
     have h := hall.out j hj
     rw [List.getD_eq_getElem?_getD, List.getElem?_eq_getElem hj, Option.getD_some] at h
     omega
    replace hsz := Lib.hid hsz
    replace bV := Lib.hid (bV.out.ext hE)
    replace bM := Lib.hid (bM.out.ext hE)
    have m1 : w2.cell? ⟨w.heap.size + 1, 1, none⟩ = some (.slice q es.length cp) := (bM.out.cell 1).trans rfl
    clear hall hE hE1 hlt hk
    go_wp2_with fail
    go_loopw [6] (fun i wr => ∃ k : Nat, k ≤ es.length ∧ k ≤ 60 ∧ i = .int .i64 k ∧ Ext w2 wr) (fun i _ => es.length - (intOf i).toNat)
    case atStart => exact ⟨0, Nat.zero_le _, by omega, rfl, Ext.refl _⟩
    case round =>
     obtain ⟨k, hk, hk60, rfl, hE⟩ := hrel
     replace m1 := hE.get m1
     have hE3 := hE2.trans hE
     by_cases hlt : k < es.length
     · obtain ⟨b, off, rfl, hce⟩ := hmc.out (by omega)
       obtain ⟨c0, c1⟩ := hce k hlt
       replace c0 := hE3.get c0
       replace c1 := hE3.get c1
       clear hce hK0 hm0 bV bM hsz
       generalize es.getD k elD = x at *
       obtain ⟨xn, xs⟩ := x
       simp only at c0 c1
       by_cases h7 : 60 ≤ k
       · have q0 : decide (60 ≤ (k : Int)) = true := decide_eq_true (by omega)
         clear h7
         go_wp2_with fail
         refine (awake_any _ (g.out.ext hE3)).mono ?_
         rintro e w9 ⟨rfl, hE9⟩
         go_wp2
         try go_ret
         exact hend.out _ ((hE3).trans hE9)
       · have q0 : decide (60 ≤ (k : Int)) = false := decide_eq_false (by omega)
         by_cases hz : 400 < xs.size
         · have q1 : decide (400 < (xs.size : Int)) = true := decide_eq_true (by omega)
           clear h7 hz
           go_wp2_with fail
           refine (awake_any _ (g.out.ext hE3)).mono ?_
           rintro e w9 ⟨rfl, hE9⟩
           go_wp2
           try go_ret
           exact hend.out _ ((hE3).trans hE9)
         · have q1 : decide (400 < (xs.size : Int)) = false := decide_eq_false (by omega)
           clear hz
           go_wp2
           go_roundw
           case rel => exact ⟨k + 1, by omega, by omega, by go_num, hE⟩
           case measure => simp [intOf]; omega
     · obtain rfl : k = es.length := by omega
       rename World => w3
       replace bV := Lib.hid (bV.out.ext hE)
       replace bM := Lib.hid (bM.out.ext hE)
       have v0 : w3.cell? ⟨w.heap.size, 0, none⟩ = some (.int .i64 act) := (bV.out.cell 0).trans rfl
       have v1 : w3.cell? ⟨w.heap.size, 1, none⟩ = some (.int .i64 sc) := (bV.out.cell 1).trans rfl
       replace v2 : w3.cell? ⟨w.heap.size, 2, none⟩ = some (.slice p fl.length c) := (bV.out.cell 2).trans rfl
       have m0 : w3.cell? ⟨w.heap.size + 1, 0, none⟩ = some (.int .i64 ty) := (bM.out.cell 0).trans rfl
       have kE := Lib.hid (fun wx (h : Ext w wx) => expl_val act sc fl _ wx (g.out.ext h) ((hK0.out.few (by omega)).ext h) h0 h1 (by omega) hsz.out)
       have kR := Lib.hid (fun wx (h : Ext w wx) => rexpl_val act sc fl _ wx (g.out.ext h) ((hK0.out.few (by omega)).ext h) h0 h1 (by omega) hsz.out)
       have kF := Lib.hid (fun wx (h : Ext w wx) => features_any ty _ es wx (hm0.out.ext h) (by omega))
       have kG := Lib.hid (fun wx (h : Ext w wx) => rfeatures_any ty _ es wx (hm0.out.ext h) (by omega))
       have kA := Lib.hid (fun wx (h : Ext w wx) => awake_any wx (g.out.ext h))
       unfold FeaP at kF kG
       unfold msgAgg at kF
       unfold AwkP at kA
       generalize (⟨(explV ⟨act, sc, fl⟩).toArray⟩ : ByteArray) = S at *
       have h9 : (msgF es).length = 9 := rfl
       generalize msgF es = L at *
       replace hE := hE3
       clear hE2 hE3 bV bM hK0 hm0 hsz hkc hmc g hk hlt h0 h1
       go_wp2_with fail
       go_region_held3 (fun w' => w'.cell? ⟨w.heap.size, 0, none⟩ = some (.int .i64 act) ∧ w'.cell? ⟨w.heap.size, 1, none⟩ = some (.int .i64 sc) ∧ w'.cell? ⟨w.heap.size, 2, none⟩ = some (.slice p fl.length c) ∧ w'.cell? ⟨w.heap.size + 1, 0, none⟩ = some (.int .i64 ty) ∧ w'.cell? ⟨w.heap.size + 1, 1, none⟩ = some (.slice q es.length cp)) (first | exact ⟨v0, v1, v2, m0, m1⟩) (first
        | (go_at_call 8; refine (kE.out _ (by first | exact hE | exact hE.drew)).mono ?_; rintro e w6 ⟨rfl, hE6⟩; have hS := ext_atx hE (by first | exact hE6 | exact ext_undrew hE6); have v0 := hS.get v0; have v1 := hS.get v1; have v2 := hS.get v2; have m0 := hS.get m0; have m1 := hS.get m1; (try (replace hFa := Lib.hid (hFa.out.ext hS))); (try (replace hFb := Lib.hid (hFb.out.ext hS))); have hE := hE.trans hS; clear hS hE6)
        | (go_at_call 9; refine (kR.out _ (by first | exact hE | exact hE.drew)).mono ?_; rintro e w6 ⟨rfl, hE6⟩; have hS := ext_atx hE (by first | exact hE6 | exact ext_undrew hE6); have v0 := hS.get v0; have v1 := hS.get v1; have v2 := hS.get v2; have m0 := hS.get m0; have m1 := hS.get m1; (try (replace hFa := Lib.hid (hFa.out.ext hS))); (try (replace hFb := Lib.hid (hFb.out.ext hS))); have hE := hE.trans hS; clear hS hE6)
        | (go_at_call 11; refine (kF.out _ (by first | exact hE | exact hE.drew)).mono ?_; rintro e w6 ⟨fa, rfl, hFa, hE6⟩; replace hFa := Lib.hid hFa.feats; obtain ⟨fap, fac, rfl⟩ := hFa.out.form; rw [h9]; have hS := ext_atx hE (by first | exact hE6 | exact ext_undrew hE6); have v0 := hS.get v0; have v1 := hS.get v1; have v2 := hS.get v2; have m0 := hS.get m0; have m1 := hS.get m1; (try (replace hFb := Lib.hid (hFb.out.ext hS))); have hE := hE.trans hS; clear hS hE6)
        | (go_at_call 12; refine (kG.out _ (by first | exact hE | exact hE.drew)).mono ?_; rintro e w6 ⟨fb, rfl, hFb, hE6⟩; replace hFb := Lib.hid hFb.feats; obtain ⟨fbp, fbc, rfl⟩ := hFb.out.form; rw [h9]; have hS := ext_atx hE (by first | exact hE6 | exact ext_undrew hE6); have v0 := hS.get v0; have v1 := hS.get v1; have v2 := hS.get v2; have m0 := hS.get m0; have m1 := hS.get m1; (try (replace hFa := Lib.hid (hFa.out.ext hS))); have hE := hE.trans hS; clear hS hE6)
        | (go_at_call 10; refine (rsamef_any _ _ L _ (by first | exact (show _ from (h9 ▸ hFa.out)) | skip) (by first | exact (show _ from (h9 ▸ hFb.out)) | skip)).mono ?_; rintro e w6 ⟨rfl, hE6⟩; have hS := ext_atx hE (by first | exact hE6 | exact ext_undrew hE6); have v0 := hS.get v0; have v1 := hS.get v1; have v2 := hS.get v2; have m0 := hS.get m0; have m1 := hS.get m1; (try (replace hFa := Lib.hid (hFa.out.ext hS))); (try (replace hFb := Lib.hid (hFb.out.ext hS))); have hE := hE.trans hS; clear hS hE6)
        | (go_at_call 7; refine (kA.out _ (by first | exact hE | exact hE.drew)).mono ?_; rintro e w6 ⟨rfl, hE6⟩; have hS := ext_atx hE (by first | exact hE6 | exact ext_undrew hE6); have v0 := hS.get v0; have v1 := hS.get v1; have v2 := hS.get v2; have m0 := hS.get m0; have m1 := hS.get m1; (try (replace hFa := Lib.hid (hFa.out.ext hS))); (try (replace hFb := Lib.hid (hFb.out.ext hS))); have hE := hE.trans hS; clear hS hE6))
       all_goals go_wp2
       all_goals try go_ret
       all_goals exact hend.out _ hE
end Go.Proofs.YtangdoidkcelfaaGreatDoor
