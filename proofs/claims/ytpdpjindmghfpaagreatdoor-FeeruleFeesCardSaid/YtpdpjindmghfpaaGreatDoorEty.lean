/- Contract of typeOf (walks; printed by gen/ty.py). -/
import Derived.Test.YtpdpjindmghfpaaGreatDoorEal
namespace Go.Proofs.YtpdpjindmghfpaaGreatDoor
open Go.RowKit
theorem infoIntE : (Tryz.prog.info? 3).map (fun i => (i.zero, i.size, i.bytes)) = some (some (.int .i64 0), 1, 8) := by kernel_rfl
theorem info_partsE {o : Option TypeInfo} {z : Option Value} {s b : Nat} (h : o.map (fun i => (i.zero, i.size, i.bytes)) = some (z, s, b)) : ∃ i, o = some i ∧ i.zero = z ∧ i.size = s ∧ i.bytes = b := by
  cases o with
  | none => cases h
  | some i =>
    simp only [Option.map_some, Option.some.injEq, Prod.mk.injEq] at h
    exact ⟨i, rfl, h.1, h.2.1, h.2.2⟩
/-- What the list of kinds of the first arguments looks like in memory. -/
def KS (w : World) (g n k : Nat) (ks : List Int) : Prop := ks.length = k ∧ ∃ cur : Array Value, Blk w g cur 3 ∧ cur.size = n ∧ ∀ j, j < k → cur[j]? = some (.int .i64 (ks.getD j 0))
theorem KS.ext {w w' : World} {g n k : Nat} {ks : List Int} (h : KS w g n k ks) (e : Ext w w') : KS w' g n k ks := by
  obtain ⟨h1, cur, hb, h2, h3⟩ := h
  exact ⟨h1, cur, hb.ext e, h2, h3⟩
theorem KS.push {w : World} {g n k : Nat} {ks : List Int} (h : KS w g n k ks) (hk : k < n) (y : Int) : KS (w.setCell ⟨g, k, none⟩ (.int .i64 y)) g n (k + 1) (ks ++ [y]) := by
  obtain ⟨h1, cur, hb, h2, h3⟩ := h
  refine ⟨by simp [h1], _, hb.set k _, by simp [h2], ?_⟩
  intro j hj
  rw [Array.getElem?_setIfInBounds]
  by_cases e : k = j
  · subst e
    subst h1
    simp [h2, hk]
  · rw [if_neg e, h3 j (by omega)]
    simp only [List.getD_eq_getElem?_getD]
    rw [List.getElem?_append_left (by omega)]
theorem KS.cells {w : World} {g n : Nat} {ks : List Int} (h : KS w g n n ks) : ∀ i, i < n → w.cell? ⟨g, i, none⟩ = some (.int .i64 (ks.getD i 0)) := by
  obtain ⟨h1, cur, hb, h2, h3⟩ := h
  intro i hi
  rw [hb.cell i, h3 i hi]
theorem KS.cell {w : World} {g n k : Nat} {ks : List Int} (h : KS w g n k ks) (hk : k < n) : ∃ v, w.cell? ⟨g, k, none⟩ = some v ∧ w.frozen? ⟨g, k, none⟩ = false := by
  obtain ⟨h1, cur, hb, h2, h3⟩ := h
  have : k < cur.size := by omega
  exact ⟨cur[k], by rw [hb.cell k, Array.getElem?_eq_getElem this], hb.fz k⟩
theorem KS.of_row {w : World} {B g n : Nat} {xs : List Value} (h : w.ownsRow B 3 1 (.slice (some ⟨g, 0, none⟩) n n) n xs) : KS w g n 0 [] := by
  obtain ⟨_, h | ⟨g', cap, cur, hv, _, hb, _, _, hs, _⟩⟩ := h
  · cases h.1
  · injection hv with h1 h2 h3
    injection h1 with h1
    injection h1 with h1
    subst h1 h3
    exact ⟨rfl, cur, hb, by omega, fun j hj => by omega⟩

set_option maxRecDepth 8000 in
set_option maxHeartbeats 4000000 in
theorem typeOf_any {w : World} {v : Value} {l0 : List Ex} (h : ExS w v l0) (l : List Feat) (b : Nat) (hM : KM w b l) (hkd : ∀ nm f, findN l nm = some f → f.kind = 1 ∨ f.kind = 2 ∨ f.kind = 3) : ∀ (x : Ex), x.args = l0 → ∀ w', Ext w w' → x.formed = true → Calls Tryz.prog 89 #[exAgg x v, .map (some b)] w' (TyPost (x.ty l) w') := by
  refine ExS.ind (P := fun x v => ∀ w', Ext w w' → x.formed = true → Calls Tryz.prog 89 #[exAgg x v, .map (some b)] w' (TyPost (x.ty l) w')) ?_ h
  clear h
  intro x v hS hK w' hEx hfm
  obtain ⟨op, nm, tx, n, args⟩ := x
  obtain ⟨q, cp, rfl⟩ := hS.form
  rw [formed_eq] at hfm
  simp only [Bool.and_eq_true, List.all_eq_true] at hfm
  obtain ⟨hfv, hfa⟩ := hfm
  have hfk : ∀ k, k < args.length → (args.getD k exD).formed = true := by
    intro k hk
    refine hfa _ ?_
    rw [List.getD_eq_getElem?_getD, List.getElem?_eq_getElem hk, Option.getD_some]
    exact List.getElem_mem hk
  clear hfa
  replace hfk := Lib.hid hfk
  have hsz := fv_name hfv
  have hlen : args.length ≤ 17 := by have := fv_cut hfv; omega
  replace hK := Lib.hid hK
  replace hM := Lib.hid (hM.ext hEx)
  replace hkd := Lib.hid hkd
  replace hfv := Lib.hid hfv
  simp only [Ex.args] at hK ⊢
  have hte := Lib.hid (fun c => ty_err (l := l) (op := op) (nm := nm) (tx := tx) (n := n) (args := args) (c := c))
  have hto := Lib.hid (fun ks => ty_ok (l := l) (op := op) (nm := nm) (tx := tx) (n := n) (args := args) (ks := ks))
  generalize (Ex.mk op nm tx n args).ty l = R at *
  rw [exAgg_mk]
  clear hS
  obtain ⟨i0, hi, hz0, hz1, hz2⟩ := info_partsE infoIntE
  replace hi := Lib.hid hi
  replace hz0 := Lib.hid hz0
  replace hz1 := Lib.hid hz1
  replace hz2 := Lib.hid hz2
  go_enter Tryz.func89, Tryz.ntmps89
  go_wp2_with (at_make; refine wpList_make_full _ rfl _ _ 106 rfl (w'.heap.size + 1) 3 i0 (.int .i64 0) 1 Tryz.underlying106 hi.out hz0.out hz1.out _ _ _ _ args.length rfl rfl rfl rfl ?_ ?_ ?_ ?_)
  · rw [hz2.out]; omega
  · unfold maxLen; omega
  · simp
  intro w2 hown hgrow
  have hE : Ext (w'.alloc (.cells #[.int .i64 op, .string nm, .string tx, .int .i64 n, .slice q args.length cp] 24)) w2 := Below.grown (Below.refl _ _) hgrow (Nat.le_refl _) (fun k hk => by cases hk)
  have hks := KS.of_row hown
  clear hown hgrow hi hz0 hz1 hz2 i0
  have hb0 := Blk.new w' #[.int .i64 op, .string nm, .string tx, .int .i64 n, .slice q args.length cp] 24
  have x4 : w2.cell? ⟨w'.heap.size, 4, none⟩ = some (.slice q args.length cp) := ((hb0.ext hE).cell 4).trans rfl
  replace hb0 := Lib.hid hb0
  go_wp2_with fail
  clear x4
  generalize hw0 : (w'.alloc (.cells #[.int .i64 op, .string nm, .string tx, .int .i64 n, .slice q args.length cp] 24)) = w0 at *
  have hs0 : w0.heap.size = w'.heap.size + 1 := by rw [← hw0]; simp
  have hE0 : Ext w' w0 := by rw [← hw0]; exact (by repeat (first | with_reducible exact Ext.refl _ | with_reducible exact hE0 | with_reducible exact hE | with_reducible refine Ext.alloc ?_ _ | with_reducible refine Ext.drewN ?_ _ | with_reducible refine Ext.drew ?_ | ((with_reducible refine Ext.setCell ?_ ?side _); (case side => first | exact Nat.le_refl _ | (simp; done) | (simp; omega)))))
  clear hw0
  replace hs0 := Lib.hid hs0
  go_loopw [22] (fun i wr => ∃ k : Nat, ∃ ks : List Int, k ≤ args.length ∧ i = .int .i64 k ∧ Ex.ty.tyL l (args.take k) = .ok ks ∧ KS wr (w'.heap.size + 1) args.length k ks ∧ Ext w0 wr) (fun i _ => args.length - (intOf i).toNat)
  case atStart => exact ⟨0, [], Nat.zero_le _, rfl, rfl, hks, hE⟩
  case round =>
    clear hks hE
    obtain ⟨k, ks, hk, rfl, hT, hks, hEr⟩ := hrel
    by_cases hlt : k < args.length
    · obtain ⟨bb, off, rfl, sv, hkid⟩ := hK.out _ _ rfl (by omega)
      obtain ⟨hc, hsu, hP⟩ := hkid k hlt
      have hform := hsu.form
      obtain ⟨c0, c1, c2, c3, c4⟩ := (hc.ext ((hEx.trans hE0).trans hEr)).five
      have hsn := Lib.hid (tyL_snoc l args k hlt ks hT)
      have hbd := Lib.hid (tyL_bad l args k hlt ks hT)
      have hfy := hfk.out k hlt
      replace hP := Lib.hid hP
      replace hks := Lib.hid hks
      clear hc hkid hsu hT
      generalize args.getD k exD = y at *
      generalize sv k = u at *
      obtain ⟨uq, uc, rfl⟩ := hform
      replace hfy := Lib.hid hfy
      go_wp2_with fail
      refine (hP.out _ (((hEx.trans hE0).trans hEr).alloc _) hfy.out).mono ?_
      rintro e w3 ⟨rfl, hE1⟩
      have hE2 := (hEr.alloc _).trans hE1
      have hk2 := hks.out.ext (((Ext.refl _).alloc _).trans hE1)
      clear hE1 c0 c1 c2 c3 c4 hks
      obtain ⟨old, o1, o2⟩ := hk2.cell hlt
      generalize y.ty l = ry at *
      obtain ⟨r1, r2⟩ := ry
      simp only at hsn hbd ⊢
      by_cases h0 : r2 = 0
      · subst h0
        have hp := Lib.hid (hk2.push hlt r1)
        go_wp2
        go_roundw
        case rel => exact ⟨k + 1, ks ++ [r1], by omega, by go_num, hsn.out rfl, hp.out, hE2.setCell (by rw [hs0.out]; exact Nat.le_refl _) _⟩
        case measure => simp [intOf]; omega
      · have d1 : (r2 != 0) = true := by simp [h0]
        have hR := Lib.hid (hte.out _ (hbd.out h0))
        clear o1 o2 hk2
        go_wp2
        go_ret2
        exact ⟨by rw [hR.out]; rfl, hE0.trans hE2⟩
    · have hkk : args.take k = args := List.take_of_length_le (by omega)
      obtain rfl : k = args.length := by omega
      rw [hkk] at hT
      clear hkk hlt
      have hM2 := Lib.hid (hM.out.ext (hE0.trans hEr))
      have hC := Lib.hid hks.cells
      have hkl := Lib.hid hks.1
      have x1 : wr.cell? ⟨w'.heap.size, 1, none⟩ = some (.string nm) := ((hb0.out.ext hEr).cell 1).trans rfl
      have x0 : wr.cell? ⟨w'.heap.size, 0, none⟩ = some (.int .i64 op) := ((hb0.out.ext hEr).cell 0).trans rfl
      have hsz0 : w'.heap.size < wr.heap.size := cell_lt x0
      replace hT := Lib.hid (hto.out ks hT)
      clear hto hte hK hM hks
      have hE : Ext w' wr := hE0.trans hEr
      clear hEr hE0 hEx hb0 hs0
      have hop : 1 ≤ op ∧ op ≤ 17 := by have := fv_cut hfv.out; omega
      have h17 : op = 1 ∨ op = 2 ∨ op = 3 ∨ op = 4 ∨ op = 5 ∨ op = 6 ∨ op = 7 ∨ op = 8 ∨ op = 9 ∨ op = 10 ∨ op = 11 ∨ op = 12 ∨ op = 13 ∨ op = 14 ∨ op = 15 ∨ op = 16 ∨ op = 17 := by omega
      clear hop
      rcases h17 with rfl | rfl | rfl | rfl | rfl | rfl | rfl | rfl | rfl | rfl | rfl | rfl | rfl | rfl | rfl | rfl | rfl
      · have hR := Lib.hid (show R = (1, 0) by rw [hT.out]; simp [byK])
        go_wp2_with (at_lookup; refine wpList_lookF rfl _ _ rfl rfl hM2.out nm rfl (by omega) _ rfl ?_)
        go_ret2
        exact ⟨by rw [hR.out]; rfl, (by repeat (first | with_reducible exact Ext.refl _ | with_reducible exact hE0 | with_reducible exact hE | with_reducible refine Ext.alloc ?_ _ | with_reducible refine Ext.drewN ?_ _ | with_reducible refine Ext.drew ?_ | ((with_reducible refine Ext.setCell ?_ ?side _); (case side => first | exact Nat.le_refl _ | (simp; done) | (simp; omega)))))⟩
      · have hR := Lib.hid (show R = (2, 0) by rw [hT.out]; simp [byK])
        go_wp2_with (at_lookup; refine wpList_lookF rfl _ _ rfl rfl hM2.out nm rfl (by omega) _ rfl ?_)
        go_ret2
        exact ⟨by rw [hR.out]; rfl, (by repeat (first | with_reducible exact Ext.refl _ | with_reducible exact hE0 | with_reducible exact hE | with_reducible refine Ext.alloc ?_ _ | with_reducible refine Ext.drewN ?_ _ | with_reducible refine Ext.drew ?_ | ((with_reducible refine Ext.setCell ?_ ?side _); (case side => first | exact Nat.le_refl _ | (simp; done) | (simp; omega)))))⟩
      · cases hfd : findN l nm with
        | none =>
          have hR := Lib.hid (show R = (0, 6) by rw [hT.out]; simp [hfd])
          replace hfd := Lib.hid hfd
          go_wp2_with (at_lookup; refine wpList_lookF rfl _ _ rfl rfl hM2.out nm rfl (by omega) none hfd.out ?_)
          go_ret2
          exact ⟨by rw [hR.out]; rfl, (by repeat (first | with_reducible exact Ext.refl _ | with_reducible exact hE0 | with_reducible exact hE | with_reducible refine Ext.alloc ?_ _ | with_reducible refine Ext.drewN ?_ _ | with_reducible refine Ext.drew ?_ | ((with_reducible refine Ext.setCell ?_ ?side _); (case side => first | exact Nat.le_refl _ | (simp; done) | (simp; omega)))))⟩
        | some f =>
          have hk3 := hkd.out _ _ hfd
          have hne : ¬ f.kind = 0 := by omega
          have hR := Lib.hid (show R = (f.kind, 0) by rw [hT.out]; simp [byK, hfd, hne])
          clear hne hk3
          replace hfd := Lib.hid hfd
          go_wp2_with (at_lookup; refine wpList_lookF rfl _ _ rfl rfl hM2.out nm rfl (by omega) (some f) hfd.out ?_)
          go_ret2
          exact ⟨by rw [hR.out]; rfl, (by repeat (first | with_reducible exact Ext.refl _ | with_reducible exact hE0 | with_reducible exact hE | with_reducible refine Ext.alloc ?_ _ | with_reducible refine Ext.drewN ?_ _ | with_reducible refine Ext.drew ?_ | ((with_reducible refine Ext.setCell ?_ ?side _); (case side => first | exact Nat.le_refl _ | (simp; done) | (simp; omega)))))⟩
      · have hn0 : 0 < args.length := by have := fv_cut hfv.out; omega
        have hA := Lib.hid (fun w1 (hc : ∀ i, i < args.length → w1.cell? ⟨w'.heap.size + 1, i, none⟩ = some (.int .i64 (ks.getD i 0))) => all_any w1 (w'.heap.size + 1) args.length ks 3 hkl.out (by omega) hc)
        cases hal : allK ks 3 with
        | false =>
          have hR := Lib.hid (show R = (0, 28) by rw [hT.out]; simp only [byK]; simp [hal])
          go_wp2_with (at_lookup; refine wpList_lookF rfl _ _ rfl rfl hM2.out nm rfl (by omega) _ rfl ?_)
          refine (hA.out _ (fun i hi => by first | exact hC.out i hi | exact Ext.get ((Ext.refl _).alloc _) (hC.out i hi))).mono ?_
          rintro e w1 ⟨rfl, rfl⟩
          rw [hal]
          go_wp2
          go_ret2
          exact ⟨by rw [hR.out]; rfl, (by repeat (first | with_reducible exact Ext.refl _ | with_reducible exact hE0 | with_reducible exact hE | with_reducible refine Ext.alloc ?_ _ | with_reducible refine Ext.drewN ?_ _ | with_reducible refine Ext.drew ?_ | ((with_reducible refine Ext.setCell ?_ ?side _); (case side => first | exact Nat.le_refl _ | (simp; done) | (simp; omega)))))⟩
        | true =>
          have hR := Lib.hid (show R = (3, 0) by rw [hT.out]; simp only [byK]; simp [hal])
          go_wp2_with (at_lookup; refine wpList_lookF rfl _ _ rfl rfl hM2.out nm rfl (by omega) _ rfl ?_)
          refine (hA.out _ (fun i hi => by first | exact hC.out i hi | exact Ext.get ((Ext.refl _).alloc _) (hC.out i hi))).mono ?_
          rintro e w1 ⟨rfl, rfl⟩
          rw [hal]
          go_wp2
          go_ret2
          exact ⟨by rw [hR.out]; rfl, (by repeat (first | with_reducible exact Ext.refl _ | with_reducible exact hE0 | with_reducible exact hE | with_reducible refine Ext.alloc ?_ _ | with_reducible refine Ext.drewN ?_ _ | with_reducible refine Ext.drew ?_ | ((with_reducible refine Ext.setCell ?_ ?side _); (case side => first | exact Nat.le_refl _ | (simp; done) | (simp; omega)))))⟩
      · have hn0 : 0 < args.length := by have := fv_cut hfv.out; omega
        have hA := Lib.hid (fun w1 (hc : ∀ i, i < args.length → w1.cell? ⟨w'.heap.size + 1, i, none⟩ = some (.int .i64 (ks.getD i 0))) => all_any w1 (w'.heap.size + 1) args.length ks 1 hkl.out (by omega) hc)
        cases hal : allK ks 1 with
        | false =>
          have hR := Lib.hid (show R = (0, 28) by rw [hT.out]; simp only [byK]; simp [hal])
          go_wp2_with (at_lookup; refine wpList_lookF rfl _ _ rfl rfl hM2.out nm rfl (by omega) _ rfl ?_)
          refine (hA.out _ (fun i hi => by first | exact hC.out i hi | exact Ext.get ((Ext.refl _).alloc _) (hC.out i hi))).mono ?_
          rintro e w1 ⟨rfl, rfl⟩
          rw [hal]
          go_wp2
          go_ret2
          exact ⟨by rw [hR.out]; rfl, (by repeat (first | with_reducible exact Ext.refl _ | with_reducible exact hE0 | with_reducible exact hE | with_reducible refine Ext.alloc ?_ _ | with_reducible refine Ext.drewN ?_ _ | with_reducible refine Ext.drew ?_ | ((with_reducible refine Ext.setCell ?_ ?side _); (case side => first | exact Nat.le_refl _ | (simp; done) | (simp; omega)))))⟩
        | true =>
          have hR := Lib.hid (show R = (1, 0) by rw [hT.out]; simp only [byK]; simp [hal])
          go_wp2_with (at_lookup; refine wpList_lookF rfl _ _ rfl rfl hM2.out nm rfl (by omega) _ rfl ?_)
          refine (hA.out _ (fun i hi => by first | exact hC.out i hi | exact Ext.get ((Ext.refl _).alloc _) (hC.out i hi))).mono ?_
          rintro e w1 ⟨rfl, rfl⟩
          rw [hal]
          go_wp2
          go_ret2
          exact ⟨by rw [hR.out]; rfl, (by repeat (first | with_reducible exact Ext.refl _ | with_reducible exact hE0 | with_reducible exact hE | with_reducible refine Ext.alloc ?_ _ | with_reducible refine Ext.drewN ?_ _ | with_reducible refine Ext.drew ?_ | ((with_reducible refine Ext.setCell ?_ ?side _); (case side => first | exact Nat.le_refl _ | (simp; done) | (simp; omega)))))⟩
      · have hn0 : 0 < args.length := by have := fv_cut hfv.out; omega
        have hA := Lib.hid (fun w1 (hc : ∀ i, i < args.length → w1.cell? ⟨w'.heap.size + 1, i, none⟩ = some (.int .i64 (ks.getD i 0))) => all_any w1 (w'.heap.size + 1) args.length ks 3 hkl.out (by omega) hc)
        cases hal : allK ks 3 with
        | false =>
          have hR := Lib.hid (show R = (0, 28) by rw [hT.out]; simp only [byK]; simp [hal])
          go_wp2_with (at_lookup; refine wpList_lookF rfl _ _ rfl rfl hM2.out nm rfl (by omega) _ rfl ?_)
          refine (hA.out _ (fun i hi => by first | exact hC.out i hi | exact Ext.get ((Ext.refl _).alloc _) (hC.out i hi))).mono ?_
          rintro e w1 ⟨rfl, rfl⟩
          rw [hal]
          go_wp2
          go_ret2
          exact ⟨by rw [hR.out]; rfl, (by repeat (first | with_reducible exact Ext.refl _ | with_reducible exact hE0 | with_reducible exact hE | with_reducible refine Ext.alloc ?_ _ | with_reducible refine Ext.drewN ?_ _ | with_reducible refine Ext.drew ?_ | ((with_reducible refine Ext.setCell ?_ ?side _); (case side => first | exact Nat.le_refl _ | (simp; done) | (simp; omega)))))⟩
        | true =>
          have hR := Lib.hid (show R = (3, 0) by rw [hT.out]; simp only [byK]; simp [hal])
          go_wp2_with (at_lookup; refine wpList_lookF rfl _ _ rfl rfl hM2.out nm rfl (by omega) _ rfl ?_)
          refine (hA.out _ (fun i hi => by first | exact hC.out i hi | exact Ext.get ((Ext.refl _).alloc _) (hC.out i hi))).mono ?_
          rintro e w1 ⟨rfl, rfl⟩
          rw [hal]
          go_wp2
          go_ret2
          exact ⟨by rw [hR.out]; rfl, (by repeat (first | with_reducible exact Ext.refl _ | with_reducible exact hE0 | with_reducible exact hE | with_reducible refine Ext.alloc ?_ _ | with_reducible refine Ext.drewN ?_ _ | with_reducible refine Ext.drew ?_ | ((with_reducible refine Ext.setCell ?_ ?side _); (case side => first | exact Nat.le_refl _ | (simp; done) | (simp; omega)))))⟩
      · have hn0 : 0 < args.length := by have := fv_cut hfv.out; omega
        have hA := Lib.hid (fun w1 (hc : ∀ i, i < args.length → w1.cell? ⟨w'.heap.size + 1, i, none⟩ = some (.int .i64 (ks.getD i 0))) => all_any w1 (w'.heap.size + 1) args.length ks 3 hkl.out (by omega) hc)
        cases hal : allK ks 3 with
        | false =>
          have hR := Lib.hid (show R = (0, 28) by rw [hT.out]; simp only [byK]; simp [hal])
          go_wp2_with (at_lookup; refine wpList_lookF rfl _ _ rfl rfl hM2.out nm rfl (by omega) _ rfl ?_)
          refine (hA.out _ (fun i hi => by first | exact hC.out i hi | exact Ext.get ((Ext.refl _).alloc _) (hC.out i hi))).mono ?_
          rintro e w1 ⟨rfl, rfl⟩
          rw [hal]
          go_wp2
          go_ret2
          exact ⟨by rw [hR.out]; rfl, (by repeat (first | with_reducible exact Ext.refl _ | with_reducible exact hE0 | with_reducible exact hE | with_reducible refine Ext.alloc ?_ _ | with_reducible refine Ext.drewN ?_ _ | with_reducible refine Ext.drew ?_ | ((with_reducible refine Ext.setCell ?_ ?side _); (case side => first | exact Nat.le_refl _ | (simp; done) | (simp; omega)))))⟩
        | true =>
          have hR := Lib.hid (show R = (3, 0) by rw [hT.out]; simp only [byK]; simp [hal])
          go_wp2_with (at_lookup; refine wpList_lookF rfl _ _ rfl rfl hM2.out nm rfl (by omega) _ rfl ?_)
          refine (hA.out _ (fun i hi => by first | exact hC.out i hi | exact Ext.get ((Ext.refl _).alloc _) (hC.out i hi))).mono ?_
          rintro e w1 ⟨rfl, rfl⟩
          rw [hal]
          go_wp2
          go_ret2
          exact ⟨by rw [hR.out]; rfl, (by repeat (first | with_reducible exact Ext.refl _ | with_reducible exact hE0 | with_reducible exact hE | with_reducible refine Ext.alloc ?_ _ | with_reducible refine Ext.drewN ?_ _ | with_reducible refine Ext.drew ?_ | ((with_reducible refine Ext.setCell ?_ ?side _); (case side => first | exact Nat.le_refl _ | (simp; done) | (simp; omega)))))⟩
      · have hn0 : 0 < args.length := by have := fv_cut hfv.out; omega
        have y0 := hC.out 0 hn0
        have hsz1 : w'.heap.size + 1 < wr.heap.size := cell_lt y0
        have hA := Lib.hid (fun w1 (hc : ∀ i, i < args.length → w1.cell? ⟨w'.heap.size + 1, i, none⟩ = some (.int .i64 (ks.getD i 0))) => all_any w1 (w'.heap.size + 1) args.length ks (ks.getD 0 0) hkl.out (by omega) hc)
        cases hal : allK ks (ks.getD 0 0) with
        | false =>
          have hR := Lib.hid (show R = (0, 28) by rw [hT.out]; simp only [byK]; generalize ks.getD 0 0 = k0 at *; simp [hal])
          generalize ks.getD 0 0 = k0 at *
          go_wp2_with (at_lookup; refine wpList_lookF rfl _ _ rfl rfl hM2.out nm rfl (by omega) _ rfl ?_)
          refine (hA.out _ (fun i hi => by first | exact hC.out i hi | exact Ext.get ((Ext.refl _).alloc _) (hC.out i hi))).mono ?_
          rintro e w1 ⟨rfl, rfl⟩
          rw [hal]
          go_wp2
          go_ret2
          exact ⟨by rw [hR.out]; rfl, (by repeat (first | with_reducible exact Ext.refl _ | with_reducible exact hE0 | with_reducible exact hE | with_reducible refine Ext.alloc ?_ _ | with_reducible refine Ext.drewN ?_ _ | with_reducible refine Ext.drew ?_ | ((with_reducible refine Ext.setCell ?_ ?side _); (case side => first | exact Nat.le_refl _ | (simp; done) | (simp; omega)))))⟩
        | true =>
          have hR := Lib.hid (show R = (3, 0) by rw [hT.out]; simp only [byK]; generalize ks.getD 0 0 = k0 at *; simp [hal])
          generalize ks.getD 0 0 = k0 at *
          go_wp2_with (at_lookup; refine wpList_lookF rfl _ _ rfl rfl hM2.out nm rfl (by omega) _ rfl ?_)
          refine (hA.out _ (fun i hi => by first | exact hC.out i hi | exact Ext.get ((Ext.refl _).alloc _) (hC.out i hi))).mono ?_
          rintro e w1 ⟨rfl, rfl⟩
          rw [hal]
          go_wp2
          go_ret2
          exact ⟨by rw [hR.out]; rfl, (by repeat (first | with_reducible exact Ext.refl _ | with_reducible exact hE0 | with_reducible exact hE | with_reducible refine Ext.alloc ?_ _ | with_reducible refine Ext.drewN ?_ _ | with_reducible refine Ext.drew ?_ | ((with_reducible refine Ext.setCell ?_ ?side _); (case side => first | exact Nat.le_refl _ | (simp; done) | (simp; omega)))))⟩
      · have hn0 : 0 < args.length := by have := fv_cut hfv.out; omega
        have y0 := hC.out 0 hn0
        have hsz1 : w'.heap.size + 1 < wr.heap.size := cell_lt y0
        have hA := Lib.hid (fun w1 (hc : ∀ i, i < args.length → w1.cell? ⟨w'.heap.size + 1, i, none⟩ = some (.int .i64 (ks.getD i 0))) => all_any w1 (w'.heap.size + 1) args.length ks (ks.getD 0 0) hkl.out (by omega) hc)
        cases hal : allK ks (ks.getD 0 0) with
        | false =>
          have hR := Lib.hid (show R = (0, 28) by rw [hT.out]; simp only [byK]; generalize ks.getD 0 0 = k0 at *; simp [hal])
          generalize ks.getD 0 0 = k0 at *
          go_wp2_with (at_lookup; refine wpList_lookF rfl _ _ rfl rfl hM2.out nm rfl (by omega) _ rfl ?_)
          refine (hA.out _ (fun i hi => by first | exact hC.out i hi | exact Ext.get ((Ext.refl _).alloc _) (hC.out i hi))).mono ?_
          rintro e w1 ⟨rfl, rfl⟩
          rw [hal]
          go_wp2
          go_ret2
          exact ⟨by rw [hR.out]; rfl, (by repeat (first | with_reducible exact Ext.refl _ | with_reducible exact hE0 | with_reducible exact hE | with_reducible refine Ext.alloc ?_ _ | with_reducible refine Ext.drewN ?_ _ | with_reducible refine Ext.drew ?_ | ((with_reducible refine Ext.setCell ?_ ?side _); (case side => first | exact Nat.le_refl _ | (simp; done) | (simp; omega)))))⟩
        | true =>
          have hR := Lib.hid (show R = (3, 0) by rw [hT.out]; simp only [byK]; generalize ks.getD 0 0 = k0 at *; simp [hal])
          generalize ks.getD 0 0 = k0 at *
          go_wp2_with (at_lookup; refine wpList_lookF rfl _ _ rfl rfl hM2.out nm rfl (by omega) _ rfl ?_)
          refine (hA.out _ (fun i hi => by first | exact hC.out i hi | exact Ext.get ((Ext.refl _).alloc _) (hC.out i hi))).mono ?_
          rintro e w1 ⟨rfl, rfl⟩
          rw [hal]
          go_wp2
          go_ret2
          exact ⟨by rw [hR.out]; rfl, (by repeat (first | with_reducible exact Ext.refl _ | with_reducible exact hE0 | with_reducible exact hE | with_reducible refine Ext.alloc ?_ _ | with_reducible refine Ext.drewN ?_ _ | with_reducible refine Ext.drew ?_ | ((with_reducible refine Ext.setCell ?_ ?side _); (case side => first | exact Nat.le_refl _ | (simp; done) | (simp; omega)))))⟩
      · have hn0 : 0 < args.length := by have := fv_cut hfv.out; omega
        have hA := Lib.hid (fun w1 (hc : ∀ i, i < args.length → w1.cell? ⟨w'.heap.size + 1, i, none⟩ = some (.int .i64 (ks.getD i 0))) => all_any w1 (w'.heap.size + 1) args.length ks 1 hkl.out (by omega) hc)
        cases hal : allK ks 1 with
        | false =>
          have hR := Lib.hid (show R = (0, 28) by rw [hT.out]; simp only [byK]; simp [hal])
          go_wp2_with (at_lookup; refine wpList_lookF rfl _ _ rfl rfl hM2.out nm rfl (by omega) _ rfl ?_)
          refine (hA.out _ (fun i hi => by first | exact hC.out i hi | exact Ext.get ((Ext.refl _).alloc _) (hC.out i hi))).mono ?_
          rintro e w1 ⟨rfl, rfl⟩
          rw [hal]
          go_wp2
          go_ret2
          exact ⟨by rw [hR.out]; rfl, (by repeat (first | with_reducible exact Ext.refl _ | with_reducible exact hE0 | with_reducible exact hE | with_reducible refine Ext.alloc ?_ _ | with_reducible refine Ext.drewN ?_ _ | with_reducible refine Ext.drew ?_ | ((with_reducible refine Ext.setCell ?_ ?side _); (case side => first | exact Nat.le_refl _ | (simp; done) | (simp; omega)))))⟩
        | true =>
          have hR := Lib.hid (show R = (3, 0) by rw [hT.out]; simp only [byK]; simp [hal])
          go_wp2_with (at_lookup; refine wpList_lookF rfl _ _ rfl rfl hM2.out nm rfl (by omega) _ rfl ?_)
          refine (hA.out _ (fun i hi => by first | exact hC.out i hi | exact Ext.get ((Ext.refl _).alloc _) (hC.out i hi))).mono ?_
          rintro e w1 ⟨rfl, rfl⟩
          rw [hal]
          go_wp2
          go_ret2
          exact ⟨by rw [hR.out]; rfl, (by repeat (first | with_reducible exact Ext.refl _ | with_reducible exact hE0 | with_reducible exact hE | with_reducible refine Ext.alloc ?_ _ | with_reducible refine Ext.drewN ?_ _ | with_reducible refine Ext.drew ?_ | ((with_reducible refine Ext.setCell ?_ ?side _); (case side => first | exact Nat.le_refl _ | (simp; done) | (simp; omega)))))⟩
      · have hn0 : 0 < args.length := by have := fv_cut hfv.out; omega
        have hA := Lib.hid (fun w1 (hc : ∀ i, i < args.length → w1.cell? ⟨w'.heap.size + 1, i, none⟩ = some (.int .i64 (ks.getD i 0))) => all_any w1 (w'.heap.size + 1) args.length ks 1 hkl.out (by omega) hc)
        cases hal : allK ks 1 with
        | false =>
          have hR := Lib.hid (show R = (0, 28) by rw [hT.out]; simp only [byK]; simp [hal])
          go_wp2_with (at_lookup; refine wpList_lookF rfl _ _ rfl rfl hM2.out nm rfl (by omega) _ rfl ?_)
          refine (hA.out _ (fun i hi => by first | exact hC.out i hi | exact Ext.get ((Ext.refl _).alloc _) (hC.out i hi))).mono ?_
          rintro e w1 ⟨rfl, rfl⟩
          rw [hal]
          go_wp2
          go_ret2
          exact ⟨by rw [hR.out]; rfl, (by repeat (first | with_reducible exact Ext.refl _ | with_reducible exact hE0 | with_reducible exact hE | with_reducible refine Ext.alloc ?_ _ | with_reducible refine Ext.drewN ?_ _ | with_reducible refine Ext.drew ?_ | ((with_reducible refine Ext.setCell ?_ ?side _); (case side => first | exact Nat.le_refl _ | (simp; done) | (simp; omega)))))⟩
        | true =>
          have hR := Lib.hid (show R = (3, 0) by rw [hT.out]; simp only [byK]; simp [hal])
          go_wp2_with (at_lookup; refine wpList_lookF rfl _ _ rfl rfl hM2.out nm rfl (by omega) _ rfl ?_)
          refine (hA.out _ (fun i hi => by first | exact hC.out i hi | exact Ext.get ((Ext.refl _).alloc _) (hC.out i hi))).mono ?_
          rintro e w1 ⟨rfl, rfl⟩
          rw [hal]
          go_wp2
          go_ret2
          exact ⟨by rw [hR.out]; rfl, (by repeat (first | with_reducible exact Ext.refl _ | with_reducible exact hE0 | with_reducible exact hE | with_reducible refine Ext.alloc ?_ _ | with_reducible refine Ext.drewN ?_ _ | with_reducible refine Ext.drew ?_ | ((with_reducible refine Ext.setCell ?_ ?side _); (case side => first | exact Nat.le_refl _ | (simp; done) | (simp; omega)))))⟩
      · have hn0 : 0 < args.length := by have := fv_cut hfv.out; omega
        have hA := Lib.hid (fun w1 (hc : ∀ i, i < args.length → w1.cell? ⟨w'.heap.size + 1, i, none⟩ = some (.int .i64 (ks.getD i 0))) => all_any w1 (w'.heap.size + 1) args.length ks 1 hkl.out (by omega) hc)
        cases hal : allK ks 1 with
        | false =>
          have hR := Lib.hid (show R = (0, 28) by rw [hT.out]; simp only [byK]; simp [hal])
          go_wp2_with (at_lookup; refine wpList_lookF rfl _ _ rfl rfl hM2.out nm rfl (by omega) _ rfl ?_)
          refine (hA.out _ (fun i hi => by first | exact hC.out i hi | exact Ext.get ((Ext.refl _).alloc _) (hC.out i hi))).mono ?_
          rintro e w1 ⟨rfl, rfl⟩
          rw [hal]
          go_wp2
          go_ret2
          exact ⟨by rw [hR.out]; rfl, (by repeat (first | with_reducible exact Ext.refl _ | with_reducible exact hE0 | with_reducible exact hE | with_reducible refine Ext.alloc ?_ _ | with_reducible refine Ext.drewN ?_ _ | with_reducible refine Ext.drew ?_ | ((with_reducible refine Ext.setCell ?_ ?side _); (case side => first | exact Nat.le_refl _ | (simp; done) | (simp; omega)))))⟩
        | true =>
          have hR := Lib.hid (show R = (1, 0) by rw [hT.out]; simp only [byK]; simp [hal])
          go_wp2_with (at_lookup; refine wpList_lookF rfl _ _ rfl rfl hM2.out nm rfl (by omega) _ rfl ?_)
          refine (hA.out _ (fun i hi => by first | exact hC.out i hi | exact Ext.get ((Ext.refl _).alloc _) (hC.out i hi))).mono ?_
          rintro e w1 ⟨rfl, rfl⟩
          rw [hal]
          go_wp2
          go_ret2
          exact ⟨by rw [hR.out]; rfl, (by repeat (first | with_reducible exact Ext.refl _ | with_reducible exact hE0 | with_reducible exact hE | with_reducible refine Ext.alloc ?_ _ | with_reducible refine Ext.drewN ?_ _ | with_reducible refine Ext.drew ?_ | ((with_reducible refine Ext.setCell ?_ ?side _); (case side => first | exact Nat.le_refl _ | (simp; done) | (simp; omega)))))⟩
      · have hn0 : 0 < args.length := by have := fv_cut hfv.out; omega
        have hA := Lib.hid (fun w1 (hc : ∀ i, i < args.length → w1.cell? ⟨w'.heap.size + 1, i, none⟩ = some (.int .i64 (ks.getD i 0))) => all_any w1 (w'.heap.size + 1) args.length ks 1 hkl.out (by omega) hc)
        cases hal : allK ks 1 with
        | false =>
          have hR := Lib.hid (show R = (0, 28) by rw [hT.out]; simp only [byK]; simp [hal])
          go_wp2_with (at_lookup; refine wpList_lookF rfl _ _ rfl rfl hM2.out nm rfl (by omega) _ rfl ?_)
          refine (hA.out _ (fun i hi => by first | exact hC.out i hi | exact Ext.get ((Ext.refl _).alloc _) (hC.out i hi))).mono ?_
          rintro e w1 ⟨rfl, rfl⟩
          rw [hal]
          go_wp2
          go_ret2
          exact ⟨by rw [hR.out]; rfl, (by repeat (first | with_reducible exact Ext.refl _ | with_reducible exact hE0 | with_reducible exact hE | with_reducible refine Ext.alloc ?_ _ | with_reducible refine Ext.drewN ?_ _ | with_reducible refine Ext.drew ?_ | ((with_reducible refine Ext.setCell ?_ ?side _); (case side => first | exact Nat.le_refl _ | (simp; done) | (simp; omega)))))⟩
        | true =>
          have hR := Lib.hid (show R = (1, 0) by rw [hT.out]; simp only [byK]; simp [hal])
          go_wp2_with (at_lookup; refine wpList_lookF rfl _ _ rfl rfl hM2.out nm rfl (by omega) _ rfl ?_)
          refine (hA.out _ (fun i hi => by first | exact hC.out i hi | exact Ext.get ((Ext.refl _).alloc _) (hC.out i hi))).mono ?_
          rintro e w1 ⟨rfl, rfl⟩
          rw [hal]
          go_wp2
          go_ret2
          exact ⟨by rw [hR.out]; rfl, (by repeat (first | with_reducible exact Ext.refl _ | with_reducible exact hE0 | with_reducible exact hE | with_reducible refine Ext.alloc ?_ _ | with_reducible refine Ext.drewN ?_ _ | with_reducible refine Ext.drew ?_ | ((with_reducible refine Ext.setCell ?_ ?side _); (case side => first | exact Nat.le_refl _ | (simp; done) | (simp; omega)))))⟩
      · have hn0 : 0 < args.length := by have := fv_cut hfv.out; omega
        have hA := Lib.hid (fun w1 (hc : ∀ i, i < args.length → w1.cell? ⟨w'.heap.size + 1, i, none⟩ = some (.int .i64 (ks.getD i 0))) => all_any w1 (w'.heap.size + 1) args.length ks 1 hkl.out (by omega) hc)
        cases hal : allK ks 1 with
        | false =>
          have hR := Lib.hid (show R = (0, 28) by rw [hT.out]; simp only [byK]; simp [hal])
          go_wp2_with (at_lookup; refine wpList_lookF rfl _ _ rfl rfl hM2.out nm rfl (by omega) _ rfl ?_)
          refine (hA.out _ (fun i hi => by first | exact hC.out i hi | exact Ext.get ((Ext.refl _).alloc _) (hC.out i hi))).mono ?_
          rintro e w1 ⟨rfl, rfl⟩
          rw [hal]
          go_wp2
          go_ret2
          exact ⟨by rw [hR.out]; rfl, (by repeat (first | with_reducible exact Ext.refl _ | with_reducible exact hE0 | with_reducible exact hE | with_reducible refine Ext.alloc ?_ _ | with_reducible refine Ext.drewN ?_ _ | with_reducible refine Ext.drew ?_ | ((with_reducible refine Ext.setCell ?_ ?side _); (case side => first | exact Nat.le_refl _ | (simp; done) | (simp; omega)))))⟩
        | true =>
          have hR := Lib.hid (show R = (1, 0) by rw [hT.out]; simp only [byK]; simp [hal])
          go_wp2_with (at_lookup; refine wpList_lookF rfl _ _ rfl rfl hM2.out nm rfl (by omega) _ rfl ?_)
          refine (hA.out _ (fun i hi => by first | exact hC.out i hi | exact Ext.get ((Ext.refl _).alloc _) (hC.out i hi))).mono ?_
          rintro e w1 ⟨rfl, rfl⟩
          rw [hal]
          go_wp2
          go_ret2
          exact ⟨by rw [hR.out]; rfl, (by repeat (first | with_reducible exact Ext.refl _ | with_reducible exact hE0 | with_reducible exact hE | with_reducible refine Ext.alloc ?_ _ | with_reducible refine Ext.drewN ?_ _ | with_reducible refine Ext.drew ?_ | ((with_reducible refine Ext.setCell ?_ ?side _); (case side => first | exact Nat.le_refl _ | (simp; done) | (simp; omega)))))⟩
      · have hn0 : 0 < args.length := by have := fv_cut hfv.out; omega
        have y0 := hC.out 0 hn0
        have hsz1 : w'.heap.size + 1 < wr.heap.size := cell_lt y0
        have hA := Lib.hid (fun w1 (hc : ∀ i, i < args.length → w1.cell? ⟨w'.heap.size + 1, i, none⟩ = some (.int .i64 (ks.getD i 0))) => all_any w1 (w'.heap.size + 1) args.length ks (ks.getD 0 0) hkl.out (by omega) hc)
        cases hal : allK ks (ks.getD 0 0) with
        | false =>
          have hR := Lib.hid (show R = (0, 28) by rw [hT.out]; simp only [byK]; generalize ks.getD 0 0 = k0 at *; simp [hal])
          generalize ks.getD 0 0 = k0 at *
          go_wp2_with (at_lookup; refine wpList_lookF rfl _ _ rfl rfl hM2.out nm rfl (by omega) _ rfl ?_)
          go_quiet ((go_at_call 113; exact Calls.quiet_of_same ((hA.out _ (fun i hi => by first | exact hC.out i hi | exact Ext.get ((Ext.refl _).alloc _) (hC.out i hi))).mono fun e w' h => ⟨h.1.trans (ret_boolE hal), h.2.symm⟩)))
          go_wp2
          go_ret2
          exact ⟨by rw [hR.out]; rfl, (by repeat (first | with_reducible exact Ext.refl _ | with_reducible exact hE0 | with_reducible exact hE | with_reducible refine Ext.alloc ?_ _ | with_reducible refine Ext.drewN ?_ _ | with_reducible refine Ext.drew ?_ | ((with_reducible refine Ext.setCell ?_ ?side _); (case side => first | exact Nat.le_refl _ | (simp; done) | (simp; omega)))))⟩
        | true =>
          by_cases h3 : ks.getD 0 0 = 3
          · have g3 : (ks.getD 0 0 != 3) = false := by rw [h3]; rfl
            have hR := Lib.hid (show R = (0, 28) by rw [hT.out]; simp only [byK]; generalize ks.getD 0 0 = k0 at *; simp [h3])
            clear h3
            generalize ks.getD 0 0 = k0 at *
            go_wp2_with (at_lookup; refine wpList_lookF rfl _ _ rfl rfl hM2.out nm rfl (by omega) _ rfl ?_)
            go_quiet ((go_at_call 113; exact Calls.quiet_of_same ((hA.out _ (fun i hi => by first | exact hC.out i hi | exact Ext.get ((Ext.refl _).alloc _) (hC.out i hi))).mono fun e w' h => ⟨h.1.trans (ret_boolE hal), h.2.symm⟩)))
            go_wp2
            go_ret2
            exact ⟨by rw [hR.out]; rfl, (by repeat (first | with_reducible exact Ext.refl _ | with_reducible exact hE0 | with_reducible exact hE | with_reducible refine Ext.alloc ?_ _ | with_reducible refine Ext.drewN ?_ _ | with_reducible refine Ext.drew ?_ | ((with_reducible refine Ext.setCell ?_ ?side _); (case side => first | exact Nat.le_refl _ | (simp; done) | (simp; omega)))))⟩
          · have g3 : (ks.getD 0 0 != 3) = true := by simpa using h3
            have hR := Lib.hid (show R = (3, 0) by rw [hT.out]; simp only [byK]; generalize ks.getD 0 0 = k0 at *; simp [hal, h3])
            clear h3
            generalize ks.getD 0 0 = k0 at *
            go_wp2_with (at_lookup; refine wpList_lookF rfl _ _ rfl rfl hM2.out nm rfl (by omega) _ rfl ?_)
            go_quiet ((go_at_call 113; exact Calls.quiet_of_same ((hA.out _ (fun i hi => by first | exact hC.out i hi | exact Ext.get ((Ext.refl _).alloc _) (hC.out i hi))).mono fun e w' h => ⟨h.1.trans (ret_boolE hal), h.2.symm⟩)))
            go_wp2
            go_ret2
            exact ⟨by rw [hR.out]; rfl, (by repeat (first | with_reducible exact Ext.refl _ | with_reducible exact hE0 | with_reducible exact hE | with_reducible refine Ext.alloc ?_ _ | with_reducible refine Ext.drewN ?_ _ | with_reducible refine Ext.drew ?_ | ((with_reducible refine Ext.setCell ?_ ?side _); (case side => first | exact Nat.le_refl _ | (simp; done) | (simp; omega)))))⟩
      · cases hfd : findN l nm with
        | none =>
          have hR := Lib.hid (show R = (0, 6) by rw [hT.out]; simp [hfd])
          replace hfd := Lib.hid hfd
          go_wp2_with (at_lookup; refine wpList_lookF rfl _ _ rfl rfl hM2.out nm rfl (by omega) none hfd.out ?_)
          go_ret2
          exact ⟨by rw [hR.out]; rfl, (by repeat (first | with_reducible exact Ext.refl _ | with_reducible exact hE0 | with_reducible exact hE | with_reducible refine Ext.alloc ?_ _ | with_reducible refine Ext.drewN ?_ _ | with_reducible refine Ext.drew ?_ | ((with_reducible refine Ext.setCell ?_ ?side _); (case side => first | exact Nat.le_refl _ | (simp; done) | (simp; omega)))))⟩
        | some f =>
          have hk3 := hkd.out _ _ hfd
          by_cases h2 : f.kind = 2
          · have g2 : (f.kind == 2) = true := by simp [h2]
            have hR := Lib.hid (show R = (1, 0) by rw [hT.out]; simp [byK, hfd, h2])
            clear hk3 h2
            replace hfd := Lib.hid hfd
            go_wp2_with (at_lookup; refine wpList_lookF rfl _ _ rfl rfl hM2.out nm rfl (by omega) (some f) hfd.out ?_)
            go_quiet (fail)
            go_wp2
            go_ret2
            exact ⟨by rw [hR.out]; rfl, (by repeat (first | with_reducible exact Ext.refl _ | with_reducible exact hE0 | with_reducible exact hE | with_reducible refine Ext.alloc ?_ _ | with_reducible refine Ext.drewN ?_ _ | with_reducible refine Ext.drew ?_ | ((with_reducible refine Ext.setCell ?_ ?side _); (case side => first | exact Nat.le_refl _ | (simp; done) | (simp; omega)))))⟩
          · have g2 : (f.kind == 2) = false := by simp [h2]
            have hR := Lib.hid (show R = (0, 28) by rw [hT.out]; simp [byK, hfd, h2])
            clear hk3 h2
            replace hfd := Lib.hid hfd
            go_wp2_with (at_lookup; refine wpList_lookF rfl _ _ rfl rfl hM2.out nm rfl (by omega) (some f) hfd.out ?_)
            go_quiet (fail)
            go_wp2
            go_ret2
            exact ⟨by rw [hR.out]; rfl, (by repeat (first | with_reducible exact Ext.refl _ | with_reducible exact hE0 | with_reducible exact hE | with_reducible refine Ext.alloc ?_ _ | with_reducible refine Ext.drewN ?_ _ | with_reducible refine Ext.drew ?_ | ((with_reducible refine Ext.setCell ?_ ?side _); (case side => first | exact Nat.le_refl _ | (simp; done) | (simp; omega)))))⟩
      · cases hfd : findN l nm with
        | none =>
          have hR := Lib.hid (show R = (0, 6) by rw [hT.out]; simp [hfd])
          replace hfd := Lib.hid hfd
          go_wp2_with (at_lookup; refine wpList_lookF rfl _ _ rfl rfl hM2.out nm rfl (by omega) none hfd.out ?_)
          go_ret2
          exact ⟨by rw [hR.out]; rfl, (by repeat (first | with_reducible exact Ext.refl _ | with_reducible exact hE0 | with_reducible exact hE | with_reducible refine Ext.alloc ?_ _ | with_reducible refine Ext.drewN ?_ _ | with_reducible refine Ext.drew ?_ | ((with_reducible refine Ext.setCell ?_ ?side _); (case side => first | exact Nat.le_refl _ | (simp; done) | (simp; omega)))))⟩
        | some f =>
          have hk3 := hkd.out _ _ hfd
          by_cases h2 : f.kind = 2
          · have g2 : (f.kind == 2) = true := by simp [h2]
            have hR := Lib.hid (show R = (1, 0) by rw [hT.out]; simp [byK, hfd, h2])
            clear hk3 h2
            replace hfd := Lib.hid hfd
            go_wp2_with (at_lookup; refine wpList_lookF rfl _ _ rfl rfl hM2.out nm rfl (by omega) (some f) hfd.out ?_)
            go_quiet (fail)
            go_wp2
            go_ret2
            exact ⟨by rw [hR.out]; rfl, (by repeat (first | with_reducible exact Ext.refl _ | with_reducible exact hE0 | with_reducible exact hE | with_reducible refine Ext.alloc ?_ _ | with_reducible refine Ext.drewN ?_ _ | with_reducible refine Ext.drew ?_ | ((with_reducible refine Ext.setCell ?_ ?side _); (case side => first | exact Nat.le_refl _ | (simp; done) | (simp; omega)))))⟩
          · have g2 : (f.kind == 2) = false := by simp [h2]
            have hR := Lib.hid (show R = (0, 28) by rw [hT.out]; simp [byK, hfd, h2])
            clear hk3 h2
            replace hfd := Lib.hid hfd
            go_wp2_with (at_lookup; refine wpList_lookF rfl _ _ rfl rfl hM2.out nm rfl (by omega) (some f) hfd.out ?_)
            go_quiet (fail)
            go_wp2
            go_ret2
            exact ⟨by rw [hR.out]; rfl, (by repeat (first | with_reducible exact Ext.refl _ | with_reducible exact hE0 | with_reducible exact hE | with_reducible refine Ext.alloc ?_ _ | with_reducible refine Ext.drewN ?_ _ | with_reducible refine Ext.drew ?_ | ((with_reducible refine Ext.setCell ?_ ?side _); (case side => first | exact Nat.le_refl _ | (simp; done) | (simp; omega)))))⟩
end Go.Proofs.YtpdpjindmghfpaaGreatDoor
