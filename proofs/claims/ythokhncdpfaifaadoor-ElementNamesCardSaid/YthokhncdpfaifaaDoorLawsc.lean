/- The walk of the law ElementNames. -/
import Derived.Test.YthokhncdpfaifaaDoorLawsb
namespace Go.Proofs.YthokhncdpfaifaaDoor
open Go.RowKit
theorem rowBy_name {n : Int} {k : Nat} (h : rowOf n = some k) : byV (dName k) = n ∧ (rowBy (dName k)).isSome = true := by
  obtain ⟨hk, hn⟩ := rowOf_spec h
  unfold byV
  rw [rowBy_some hk rfl]
  exact ⟨hn, rfl⟩
theorem num_range (k : Nat) (hk : k < 23) : 2 ≤ dNum k ∧ dNum k ≤ 128 := below23 (P := fun k => 2 ≤ dNum k ∧ dNum k ≤ 128) (by decide) k hk
/-- Every required element is in the dictionary, and the numbers ascend. -/
def goodL (l : List Int) : Bool := l.all (fun n => (rowOf n).isSome) && (List.range l.length).all (fun i => decide (i = 0 ∨ l.getD (i - 1) 0 < l.getD i 0))
theorem req_good (k : Int) : goodL (reqL k) = true := by
  unfold reqL
  repeat (split; decide +kernel)
  decide
theorem good_at {l : List Int} (h : goodL l = true) (i : Nat) (hi : i < l.length) : (rowOf (l.getD i 0)).isSome = true ∧ (0 < i → l.getD (i - 1) 0 < l.getD i 0) := by
  unfold goodL at h
  rw [Bool.and_eq_true] at h
  constructor
  · have := List.all_eq_true.1 h.1 (l[i]) (List.getElem_mem hi)
    simpa [List.getD_eq_getElem?_getD, List.getElem?_eq_getElem hi] using this
  · intro h0
    have := List.all_eq_true.1 h.2 i (List.mem_range.2 hi)
    rw [decide_eq_true_iff] at this
    omega
set_option maxRecDepth 8000 in
set_option maxHeartbeats 4000000 in
theorem law_names (a b kind : Int) (w : World) (g : Gl w) : Calls Tryd.prog 7 #[.int .i64 a, .int .i64 b, .int .i64 kind] w (LawPost w) := by
  obtain ⟨ya, yn, yk, yl, yv, hY⟩ := findV_form b
  have HY := Lib.hid hY
  clear hY
  cases hra : rowOf a with
  | none =>
    have hFa : findV a = specZero := by unfold findV; rw [hra]
    have HFa := Lib.hid hFa
    have HRa := Lib.hid hra
    clear hFa hra
    go_enter Tryd.func7, Tryd.ntmps7
    go_wp2_with fail
    refine (findF a _ g).mono ?_
    rintro e w1 ⟨rfl, hE1⟩
    rw [HFa.out, HRa.out]
    unfold specZero
    go_wp2_with fail
    refine (findF b _ (g.ext (hE1.alloc _))).mono ?_
    rintro e w2 ⟨rfl, hE⟩
    rw [HY.out]
    have hE2 := (hE1.alloc _).trans hE
    clear hE1 hE
    go_wp2_with fail
    refine (required_any kind _).mono ?_
    rintro e wA ⟨v, rfl, hi, hE⟩
    have hEA : Ext w wA := ((by first | exact hE2.alloc _ | exact hE2) : Ext w _).trans hE
    clear hE
    have hgood := Lib.hid (req_good kind)
    have hlb := reqL_bd kind
    generalize reqL kind = l at *
    obtain ⟨p, c, rfl, hp⟩ := hi.form
    have hP := Lib.hid hp
    clear hp hi
    go_wp2_with fail
    go_loopw [14] (fun i wr => ∃ j : Nat, j ≤ l.length ∧ i = .int .i64 j ∧ Ext wA wr) (fun i _ => l.length - (intOf i).toNat)
    case atStart => exact ⟨0, Nat.zero_le _, rfl, Ext.refl wA⟩
    case round =>
      obtain ⟨j, hj, rfl, hEr⟩ := hrel
      by_cases hlt : j < l.length
      · obtain ⟨B, off, rfl, hcs⟩ := hP.out (by omega)
        obtain ⟨hg1, hg2⟩ := good_at hgood.out j hlt
        have c1 := hEr.get (hcs j hlt)
        have c1H := Lib.hid (hcs j hlt)
        have c0H := Lib.hid (fun h : 0 < j => hcs (j - 1) (by omega))
        generalize hz : l.getD j 0 = z at *
        generalize hy : l.getD (j - 1) 0 = y at *
        clear hcs hz hy
        obtain ⟨fa, fn, fk, fl, fv, hF⟩ := findV_form z
        have HF := Lib.hid hF
        clear hF
        have HG := Lib.hid hg1
        have HL := Lib.hid hg2
        clear hg1 hg2
        go_wp2_with fail
        refine (findF z _ (g.ext (hEA.trans hEr))).mono ?_
        rintro e wB ⟨rfl, hE⟩
        rw [HF.out, HG.out]
        have hEB := hEr.trans hE
        clear hE
        by_cases h0 : 0 < j
        · have d1 := (hEB.alloc (.cells #[.int .i64 fa, .string fn, .int .i64 fk, .int .i64 fl, .int .i64 fv] 31)).get c1H.out
          have d0 := (hEB.alloc (.cells #[.int .i64 fa, .string fn, .int .i64 fk, .int .i64 fl, .int .i64 fv] 31)).get (c0H.out h0)
          have hyz : y < z := HL.out h0
          have hb0 : decide (0 < (j : Int)) = true := by simp; omega
          have hb1 : decide (z ≤ y) = false := by simp; omega
          have hto : ((j : Int) - 1).toNat = j - 1 := by omega
          have hj1 : j - 1 < l.length := by omega
          have hj2 : (j : Int) - 1 = ((j - 1 : Nat) : Int) := by omega
          clear c1 c1H c0H HL
          go_wp2
          go_quiet (fail)
          go_wp2
          go_roundw
          case rel => exact ⟨j + 1, by omega, by go_num, (hEB.alloc _).drewN _⟩
          case measure => simp [intOf]; omega
        · obtain rfl : j = 0 := by omega
          clear c1 c1H c0H HL h0
          go_wp2
          go_quiet (fail)
          go_wp2
          go_roundw
          case rel => exact ⟨1, by omega, by go_num, (hEB.alloc _).drewN _⟩
          case measure => simp [intOf]; omega
      · go_wp2_with fail
        refine (awake_any _ (g.ext (hEA.trans hEr))).mono ?_
        rintro e wC ⟨rfl, hE⟩
        have hEC := (hEA.trans hEr).trans hE
        clear hE
        go_wp2
        go_ret
        exact ⟨rfl, hEC⟩
  | some k =>
    have hFa : findV a = specAgg k := by unfold findV; rw [hra]
    obtain ⟨hk, hn⟩ := rowOf_spec hra
    obtain ⟨hby, hbs⟩ := rowBy_name hra
    have hrg := num_range k hk
    rw [hn] at hrg
    have HN := Lib.hid hn
    have HFa := Lib.hid hFa
    have HRa := Lib.hid hra
    have HBy := Lib.hid hby
    have HBs := Lib.hid hbs
    clear hFa hra hby hbs hn
    have hself : (a != a) = false := by simp
    have hselfN : (dNum k != a) = false := by rw [HN.out]; exact hself
    cases hrb : rowOf b with
    | none =>
      have HRb := Lib.hid hrb
      clear hrb
      go_enter Tryd.func7, Tryd.ntmps7
      go_wp2_with fail
      refine (findF a _ g).mono ?_
      rintro e w1 ⟨rfl, hE1⟩
      rw [HFa.out, HRa.out]
      unfold specAgg
      go_wp2_with fail
      refine (findF b _ (g.ext (hE1.alloc _))).mono ?_
      rintro e w2 ⟨rfl, hE⟩
      rw [HY.out, HRb.out]
      have hE2 := (hE1.alloc _).trans hE
      have hB := ((Blk.new w1 _ _).ext hE).alloc (.cells #[.int .i64 ya, .string yn, .int .i64 yk, .int .i64 yl, .int .i64 yv] 31)
      have z0 := hB.cell 0
      have z1 := hB.cell 1
      have hlt := hB.lt
      simp at z0 z1 hlt
      clear hE1 hE hB
      go_wp2_with fail
      refine (byF (dName k) _ (g.ext (hE2.alloc _))).mono ?_
      rintro e w3 ⟨rfl, hE3⟩
      rw [HBy.out, HBs.out]
      have u0 := hE3.get z0
      have u1 := hE3.get z1
      have hE4 := (hE2.alloc _).trans hE3
      clear hE2 hE3 z0 z1
      go_wp2_with fail
      refine (required_any kind _).mono ?_
      rintro e wA ⟨v, rfl, hi, hE⟩
      have hEA : Ext w wA := ((by exact hE4) : Ext w _).trans hE
      clear hE
      have hgood := Lib.hid (req_good kind)
      have hlb := reqL_bd kind
      generalize reqL kind = l at *
      obtain ⟨p, c, rfl, hp⟩ := hi.form
      have hP := Lib.hid hp
      clear hp hi
      go_wp2_with fail
      go_loopw [14] (fun i wr => ∃ j : Nat, j ≤ l.length ∧ i = .int .i64 j ∧ Ext wA wr) (fun i _ => l.length - (intOf i).toNat)
      case atStart => exact ⟨0, Nat.zero_le _, rfl, Ext.refl wA⟩
      case round =>
        obtain ⟨j, hj, rfl, hEr⟩ := hrel
        by_cases hlt : j < l.length
        · obtain ⟨B, off, rfl, hcs⟩ := hP.out (by omega)
          obtain ⟨hg1, hg2⟩ := good_at hgood.out j hlt
          have c1 := hEr.get (hcs j hlt)
          have c1H := Lib.hid (hcs j hlt)
          have c0H := Lib.hid (fun h : 0 < j => hcs (j - 1) (by omega))
          generalize hz : l.getD j 0 = z at *
          generalize hy : l.getD (j - 1) 0 = y at *
          clear hcs hz hy
          obtain ⟨fa, fn, fk, fl, fv, hF⟩ := findV_form z
          have HF := Lib.hid hF
          clear hF
          have HG := Lib.hid hg1
          have HL := Lib.hid hg2
          clear hg1 hg2
          go_wp2_with fail
          refine (findF z _ (g.ext (hEA.trans hEr))).mono ?_
          rintro e wB ⟨rfl, hE⟩
          rw [HF.out, HG.out]
          have hEB := hEr.trans hE
          clear hE
          by_cases h0 : 0 < j
          · have d1 := (hEB.alloc (.cells #[.int .i64 fa, .string fn, .int .i64 fk, .int .i64 fl, .int .i64 fv] 31)).get c1H.out
            have d0 := (hEB.alloc (.cells #[.int .i64 fa, .string fn, .int .i64 fk, .int .i64 fl, .int .i64 fv] 31)).get (c0H.out h0)
            have hyz : y < z := HL.out h0
            have hb0 : decide (0 < (j : Int)) = true := by simp; omega
            have hb1 : decide (z ≤ y) = false := by simp; omega
            have hto : ((j : Int) - 1).toNat = j - 1 := by omega
            have hj1 : j - 1 < l.length := by omega
            have hj2 : (j : Int) - 1 = ((j - 1 : Nat) : Int) := by omega
            clear c1 c1H c0H HL
            go_wp2
            go_quiet (fail)
            go_wp2
            go_roundw
            case rel => exact ⟨j + 1, by omega, by go_num, (hEB.alloc _).drewN _⟩
            case measure => simp [intOf]; omega
          · obtain rfl : j = 0 := by omega
            clear c1 c1H c0H HL h0
            go_wp2
            go_quiet (fail)
            go_wp2
            go_roundw
            case rel => exact ⟨1, by omega, by go_num, (hEB.alloc _).drewN _⟩
            case measure => simp [intOf]; omega
        · go_wp2_with fail
          refine (awake_any _ (g.ext (hEA.trans hEr))).mono ?_
          rintro e wC ⟨rfl, hE⟩
          have hEC := (hEA.trans hEr).trans hE
          clear hE
          go_wp2
          go_ret
          exact ⟨rfl, hEC⟩
    | some k2 =>
      have hFb : findV b = specAgg k2 := by unfold findV; rw [hrb]
      obtain ⟨hk2, hn2⟩ := rowOf_spec hrb
      have HFb := Lib.hid hFb
      have HRb := Lib.hid hrb
      by_cases hab : a = b
      · have hkk : k = k2 := by have h1 := HRa.out; rw [hab, hrb] at h1; exact (Option.some.inj h1).symm
        subst hkk; subst hab
        clear hFb hrb hn2
        go_enter Tryd.func7, Tryd.ntmps7
        go_wp2_with fail
        refine (findF a _ g).mono ?_
        rintro e w1 ⟨rfl, hE1⟩
        rw [HFa.out, HRa.out]
        unfold specAgg
        go_wp2_with fail
        refine (findF a _ (g.ext (hE1.alloc _))).mono ?_
        rintro e w2 ⟨rfl, hE⟩
        rw [HFb.out, HRb.out]
        unfold specAgg
        have hE2 := (hE1.alloc _).trans hE
        have hB := ((Blk.new w1 _ _).ext hE).alloc (.cells #[.int .i64 (dNum k), .string (dName k), .int .i64 (dKind k), .int .i64 (dLen k), .int .i64 (dVar k)] 31)
        have hC := Blk.new w2 #[.int .i64 (dNum k), .string (dName k), .int .i64 (dKind k), .int .i64 (dLen k), .int .i64 (dVar k)] 31
        have z0 := hB.cell 0
        have z1 := hB.cell 1
        have hlt := hB.lt
        simp at z0 z1 hlt
        clear hE1 hE hB
        go_wp2_with fail
        refine (byF (dName k) _ (g.ext (hE2.alloc _))).mono ?_
        rintro e w3 ⟨rfl, hE3⟩
        rw [HBy.out, HBs.out]
        have u0 := hE3.get z0
        have u1 := hE3.get z1
        have y1 := (hC.ext hE3).cell 1
        simp at y1
        have hE4 := (hE2.alloc _).trans hE3
        clear hE2 hE3 z0 z1 hC
        go_wp2_with fail
        refine (required_any kind _).mono ?_
        rintro e wA ⟨v, rfl, hi, hE⟩
        have hEA : Ext w wA := ((by first | exact hE4 | exact hE4.drewN _) : Ext w _).trans hE
        clear hE
        have hgood := Lib.hid (req_good kind)
        have hlb := reqL_bd kind
        generalize reqL kind = l at *
        obtain ⟨p, c, rfl, hp⟩ := hi.form
        have hP := Lib.hid hp
        clear hp hi
        go_wp2_with fail
        go_loopw [14] (fun i wr => ∃ j : Nat, j ≤ l.length ∧ i = .int .i64 j ∧ Ext wA wr) (fun i _ => l.length - (intOf i).toNat)
        case atStart => exact ⟨0, Nat.zero_le _, rfl, Ext.refl wA⟩
        case round =>
          obtain ⟨j, hj, rfl, hEr⟩ := hrel
          by_cases hlt : j < l.length
          · obtain ⟨B, off, rfl, hcs⟩ := hP.out (by omega)
            obtain ⟨hg1, hg2⟩ := good_at hgood.out j hlt
            have c1 := hEr.get (hcs j hlt)
            have c1H := Lib.hid (hcs j hlt)
            have c0H := Lib.hid (fun h : 0 < j => hcs (j - 1) (by omega))
            generalize hz : l.getD j 0 = z at *
            generalize hy : l.getD (j - 1) 0 = y at *
            clear hcs hz hy
            obtain ⟨fa, fn, fk, fl, fv, hF⟩ := findV_form z
            have HF := Lib.hid hF
            clear hF
            have HG := Lib.hid hg1
            have HL := Lib.hid hg2
            clear hg1 hg2
            go_wp2_with fail
            refine (findF z _ (g.ext (hEA.trans hEr))).mono ?_
            rintro e wB ⟨rfl, hE⟩
            rw [HF.out, HG.out]
            have hEB := hEr.trans hE
            clear hE
            by_cases h0 : 0 < j
            · have d1 := (hEB.alloc (.cells #[.int .i64 fa, .string fn, .int .i64 fk, .int .i64 fl, .int .i64 fv] 31)).get c1H.out
              have d0 := (hEB.alloc (.cells #[.int .i64 fa, .string fn, .int .i64 fk, .int .i64 fl, .int .i64 fv] 31)).get (c0H.out h0)
              have hyz : y < z := HL.out h0
              have hb0 : decide (0 < (j : Int)) = true := by simp; omega
              have hb1 : decide (z ≤ y) = false := by simp; omega
              have hto : ((j : Int) - 1).toNat = j - 1 := by omega
              have hj1 : j - 1 < l.length := by omega
              have hj2 : (j : Int) - 1 = ((j - 1 : Nat) : Int) := by omega
              clear c1 c1H c0H HL
              go_wp2
              go_quiet (fail)
              go_wp2
              go_roundw
              case rel => exact ⟨j + 1, by omega, by go_num, (hEB.alloc _).drewN _⟩
              case measure => simp [intOf]; omega
            · obtain rfl : j = 0 := by omega
              clear c1 c1H c0H HL h0
              go_wp2
              go_quiet (fail)
              go_wp2
              go_roundw
              case rel => exact ⟨1, by omega, by go_num, (hEB.alloc _).drewN _⟩
              case measure => simp [intOf]; omega
          · go_wp2_with fail
            refine (awake_any _ (g.ext (hEA.trans hEr))).mono ?_
            rintro e wC ⟨rfl, hE⟩
            have hEC := (hEA.trans hEr).trans hE
            clear hE
            go_wp2
            go_ret
            exact ⟨rfl, hEC⟩
      · have hkk : dName k ≠ dName k2 := fun h => hab (by have := dName_inj k k2 hk hk2 h; subst this; exact HN.out.symm.trans hn2)
        have hq1 := strNe hkk
        have hq2 : (a == b) = false := by simpa using hab
        clear hFb hrb hn2 hab hkk
        go_enter Tryd.func7, Tryd.ntmps7
        go_wp2_with fail
        refine (findF a _ g).mono ?_
        rintro e w1 ⟨rfl, hE1⟩
        rw [HFa.out, HRa.out]
        unfold specAgg
        go_wp2_with fail
        refine (findF b _ (g.ext (hE1.alloc _))).mono ?_
        rintro e w2 ⟨rfl, hE⟩
        rw [HFb.out, HRb.out]
        unfold specAgg
        have hE2 := (hE1.alloc _).trans hE
        have hB := ((Blk.new w1 _ _).ext hE).alloc (.cells #[.int .i64 (dNum k2), .string (dName k2), .int .i64 (dKind k2), .int .i64 (dLen k2), .int .i64 (dVar k2)] 31)
        have hC := Blk.new w2 #[.int .i64 (dNum k2), .string (dName k2), .int .i64 (dKind k2), .int .i64 (dLen k2), .int .i64 (dVar k2)] 31
        have z0 := hB.cell 0
        have z1 := hB.cell 1
        have hlt := hB.lt
        simp at z0 z1 hlt
        clear hE1 hE hB
        go_wp2_with fail
        refine (byF (dName k) _ (g.ext (hE2.alloc _))).mono ?_
        rintro e w3 ⟨rfl, hE3⟩
        rw [HBy.out, HBs.out]
        have u0 := hE3.get z0
        have u1 := hE3.get z1
        have y1 := (hC.ext hE3).cell 1
        simp at y1
        have hE4 := (hE2.alloc _).trans hE3
        clear hE2 hE3 z0 z1 hC
        go_wp2_with fail
        refine (required_any kind _).mono ?_
        rintro e wA ⟨v, rfl, hi, hE⟩
        have hEA : Ext w wA := ((by first | exact hE4 | exact hE4.drewN _) : Ext w _).trans hE
        clear hE
        have hgood := Lib.hid (req_good kind)
        have hlb := reqL_bd kind
        generalize reqL kind = l at *
        obtain ⟨p, c, rfl, hp⟩ := hi.form
        have hP := Lib.hid hp
        clear hp hi
        go_wp2_with fail
        go_loopw [14] (fun i wr => ∃ j : Nat, j ≤ l.length ∧ i = .int .i64 j ∧ Ext wA wr) (fun i _ => l.length - (intOf i).toNat)
        case atStart => exact ⟨0, Nat.zero_le _, rfl, Ext.refl wA⟩
        case round =>
          obtain ⟨j, hj, rfl, hEr⟩ := hrel
          by_cases hlt : j < l.length
          · obtain ⟨B, off, rfl, hcs⟩ := hP.out (by omega)
            obtain ⟨hg1, hg2⟩ := good_at hgood.out j hlt
            have c1 := hEr.get (hcs j hlt)
            have c1H := Lib.hid (hcs j hlt)
            have c0H := Lib.hid (fun h : 0 < j => hcs (j - 1) (by omega))
            generalize hz : l.getD j 0 = z at *
            generalize hy : l.getD (j - 1) 0 = y at *
            clear hcs hz hy
            obtain ⟨fa, fn, fk, fl, fv, hF⟩ := findV_form z
            have HF := Lib.hid hF
            clear hF
            have HG := Lib.hid hg1
            have HL := Lib.hid hg2
            clear hg1 hg2
            go_wp2_with fail
            refine (findF z _ (g.ext (hEA.trans hEr))).mono ?_
            rintro e wB ⟨rfl, hE⟩
            rw [HF.out, HG.out]
            have hEB := hEr.trans hE
            clear hE
            by_cases h0 : 0 < j
            · have d1 := (hEB.alloc (.cells #[.int .i64 fa, .string fn, .int .i64 fk, .int .i64 fl, .int .i64 fv] 31)).get c1H.out
              have d0 := (hEB.alloc (.cells #[.int .i64 fa, .string fn, .int .i64 fk, .int .i64 fl, .int .i64 fv] 31)).get (c0H.out h0)
              have hyz : y < z := HL.out h0
              have hb0 : decide (0 < (j : Int)) = true := by simp; omega
              have hb1 : decide (z ≤ y) = false := by simp; omega
              have hto : ((j : Int) - 1).toNat = j - 1 := by omega
              have hj1 : j - 1 < l.length := by omega
              have hj2 : (j : Int) - 1 = ((j - 1 : Nat) : Int) := by omega
              clear c1 c1H c0H HL
              go_wp2
              go_quiet (fail)
              go_wp2
              go_roundw
              case rel => exact ⟨j + 1, by omega, by go_num, (hEB.alloc _).drewN _⟩
              case measure => simp [intOf]; omega
            · obtain rfl : j = 0 := by omega
              clear c1 c1H c0H HL h0
              go_wp2
              go_quiet (fail)
              go_wp2
              go_roundw
              case rel => exact ⟨1, by omega, by go_num, (hEB.alloc _).drewN _⟩
              case measure => simp [intOf]; omega
          · go_wp2_with fail
            refine (awake_any _ (g.ext (hEA.trans hEr))).mono ?_
            rintro e wC ⟨rfl, hE⟩
            have hEC := (hEA.trans hEr).trans hE
            clear hE
            go_wp2
            go_ret
            exact ⟨rfl, hEC⟩
end Go.Proofs.YthokhncdpfaifaaDoor
