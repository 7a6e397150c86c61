/- Contracts of the reference's collect, Names (walks; printed by gen/g9.py). -/
import Derived.Test.YtnppbeajemhjeaaGreatG8
import Derived.Test.YtnppbeajemhjeaaGreatEk
namespace Go.Proofs.YtnppbeajemhjeaaGreat
open Go.RowKit
theorem foldA_len (xs : List Bs) : ∀ acc : List Bs, (xs.foldl addV acc).length ≤ acc.length + xs.length := by
  induction xs with
  | nil => intro acc; simp
  | cons s r ih =>
    intro acc
    have h1 := ih (addV acc s)
    have h2 := addV_len acc s
    rw [List.foldl_cons, List.length_cons]
    omega
/-- The names that collect adds of an expression. -/
def colV (c : Bool) (x : Ex) : List Bs := if c then x.wins else x.occ
def col1 (c : Bool) (x : Ex) : List Bs := if c then win1 x else occ1 x
theorem colV_mk (c : Bool) (op : Int) (nm tx : ByteArray) (n : Int) (args : List Ex) : colV c (.mk op nm tx n args) = col1 c (.mk op nm tx n args) ++ args.flatMap (colV c) := by
  cases c with
  | true => exact wins_mk op nm tx n args
  | false => exact occ_mk op nm tx n args
theorem colV_len (c : Bool) (x : Ex) : (colV c x).length ≤ x.parts.length := by
  cases c with
  | true =>
    show (x.parts.flatMap win1).length ≤ x.parts.length
    generalize x.parts = l
    induction l with
    | nil => simp
    | cons y r ih =>
      have h : (win1 y).length ≤ 1 := by unfold win1; split <;> simp
      simp only [List.flatMap_cons, List.length_append, List.length_cons]
      omega
  | false => exact occ_len _
theorem flat_snoc (c : Bool) (args : List Ex) (k : Nat) (hk : k < args.length) : (args.take (k + 1)).flatMap (colV c) = (args.take k).flatMap (colV c) ++ colV c (args.getD k exD) := by
  rw [take_snocD args exD k hk, List.flatMap_append]
  simp
theorem flat_len (c : Bool) : ∀ l : List Ex, (l.flatMap (colV c)).length ≤ (Ex.parts.partsL l).length
  | [] => by simp
  | x :: r => by
    have h1 := colV_len c x
    have h2 := flat_len c r
    simp only [List.flatMap_cons, List.length_append, Ex.parts.partsL]
    omega
theorem parts_take (args : List Ex) (k : Nat) : (Ex.parts.partsL (args.take k)).length ≤ (Ex.parts.partsL args).length := by
  have h : Ex.parts.partsL args = Ex.parts.partsL (args.take k) ++ Ex.parts.partsL (args.drop k) := by rw [← partsL_append, List.take_append_drop]
  rw [h, List.length_append]
  omega
set_option maxRecDepth 8000 in
set_option maxHeartbeats 4000000 in
theorem rcollect_any (c : Bool) {w : World} {v : Value} {l0 : List Ex} (h : ExS w v l0) : ∀ x : Ex, x.args = l0 → ∀ w', Ext w w' → ∀ (lv : Value) (ls : List Bs), StrsM w' lv ls → ls.length + x.parts.length ≤ 999999 → Calls Tryz.prog 26 #[lv, exAgg x v, .bool c] w' (NamesP ((colV c x).foldl addV ls) w') := by
  refine ExS.ind (P := fun x v => ∀ w', Ext w w' → ∀ (lv : Value) (ls : List Bs), StrsM w' lv ls → ls.length + x.parts.length ≤ 999999 → Calls Tryz.prog 26 #[lv, exAgg x v, .bool c] w' (NamesP ((colV c x).foldl addV ls) w')) ?_ h
  clear h
  intro x v hS hK w' hEx lv ls hls hpt
  obtain ⟨op, nm, tx, n, args⟩ := x
  obtain ⟨q, cp, rfl⟩ := hS.form
  have hlen := hS.len
  rw [parts_mk, List.length_cons] at hpt
  replace hK := Lib.hid hK
  simp only [Ex.args] at hK hlen ⊢
  rw [exAgg_mk, colV_mk, List.foldl_append]
  have kA := Lib.hid (fun w1 (h : StrsM w1 lv ls) => radd_any lv ls nm w1 h (by omega))
  unfold NamesP at kA
  obtain ⟨p0, c0, rfl, hls1, hls2⟩ := hls
  have hls := Lib.hid (show StrsM w' (.slice p0 ls.length c0) ls from ⟨p0, c0, rfl, hls1, hls2⟩)
  clear hS hls1 hls2
  obtain ⟨A, hA⟩ : ∃ A, A = (col1 c (.mk op nm tx n args)).foldl addV ls := ⟨_, rfl⟩
  have hAl : A.length ≤ ls.length + 1 := by
    rw [hA]
    refine Nat.le_trans (foldA_len _ _) ?_
    have : (col1 c (.mk op nm tx n args)).length ≤ 1 := by
      unfold col1 win1 occ1
      split
      · split <;> simp
      · split <;> simp
    omega
  rw [← hA]
  have hfl := fun k => Nat.le_trans (foldA_len ((args.take k).flatMap (colV c)) A) (Nat.add_le_add_left (Nat.le_trans (flat_len c _) (parts_take args k)) _)
  replace hfl := Lib.hid hfl
  cases c with
  | false =>
    by_cases hop : op = 3 ∨ op = 16 ∨ op = 17
    · have hA2 : A = addV ls (bts nm) := by rw [hA, show col1 false (.mk op nm tx n args) = [bts nm] by simp [col1, occ1, Ex.op, Ex.name, hop]]; rfl
      rcases hop with rfl | rfl | rfl
      · skip
        skip
        clear hA
        go_enter Tryz.func26, Tryz.ntmps26
        go_wp2_with fail
        have hb0 := Blk.new w' #[.int .i64 3, .string nm, .string tx, .int .i64 n, .slice q args.length cp] 24
        refine (kA.out _ (hls.out.ext ((Ext.refl _).alloc _))).mono ?_
        rintro e w0 ⟨nv, rfl, hnv, hE1⟩
        rw [← hA2] at hnv
        have hst := Lib.hid hnv
        have hE0 : Ext w' w0 := Ext.trans ((Ext.refl _).alloc _) hE1
        replace hb0 := Lib.hid (hb0.ext hE1)
        clear hE1 kA hnv hA2
        go_wp2_with fail
        go_loopw [0, 7] (fun lw i wr => ∃ k : Nat, ∃ cur : List Bs, k ≤ args.length ∧ i = .int .i64 k ∧ StrsM wr lw cur ∧ cur = ((args.take k).flatMap (colV false)).foldl addV A ∧ Ext w0 wr) (fun _ i _ => args.length - (intOf i).toNat)
        case atStart => exact ⟨0, A, Nat.zero_le _, rfl, hst.out, rfl, Ext.refl _⟩
        case round =>
          obtain ⟨k, cur, hk, rfl, hcur, hce, hEr⟩ := hrel
          have x4 : wr.cell? ⟨w'.heap.size, 4, none⟩ = some (.slice q args.length cp) := ((hb0.out.ext hEr).cell 4).trans rfl
          have hcl : cur.length ≤ A.length + (Ex.parts.partsL args).length := by rw [hce]; exact hfl.out k
          by_cases hlt : k < args.length
          · obtain ⟨b, off, rfl, sv, hkid⟩ := hK.out _ _ rfl (by omega)
            obtain ⟨hc, hsu, hP⟩ := hkid k hlt
            have hform := hsu.form
            have hEw := hEx.trans (hE0.trans hEr)
            obtain ⟨d0, d1, d2, d3, d4⟩ := (hc.ext hEw).five
            have hpy := partsL_len args k hlt
            have hcl2 : cur.length + (args.getD k exD).parts.length ≤ 999999 := by
              have h1 := foldA_len ((args.take k).flatMap (colV false)) A
              have h2 := flat_len false (args.take k)
              rw [← hce] at h1
              omega
            have hnx := Lib.hid (show (colV false (args.getD k exD)).foldl addV cur = ((args.take (k + 1)).flatMap (colV false)).foldl addV A by rw [flat_snoc false args k hlt, List.foldl_append, hce])
            replace hP := Lib.hid (hP _ hEw _ cur hcur hcl2)
            obtain ⟨p1, e1, rfl, -, -⟩ := hcur
            unfold NamesP at hP
            clear hc hkid hsu hce hcl2 hpy
            generalize args.getD k exD = y at *
            generalize (colV false y).foldl addV cur = nw at *
            generalize sv k = u at *
            obtain ⟨uq, uc, rfl⟩ := hform
            go_wp2_with fail
            refine hP.out.mono ?_
            rintro e w3 ⟨nv, rfl, hnv, hE3⟩
            replace hEr := hEr.trans hE3
            clear d0 d1 d2 d3 d4 x4 hEw hE3
            replace hnv := Lib.hid hnv
            go_wp2
            go_roundw
            case rel => exact ⟨k + 1, nw, by omega, by go_num, hnv.out, hnx.out, hEr⟩
            case measure => simp [intOf]; omega
          · have hkk : args.take k = args := List.take_of_length_le (by omega)
            rw [hkk] at hce
            have hce := Lib.hid hce
            obtain ⟨p1, e1, rfl, h1, h2⟩ := hcur
            have hcur := Lib.hid (show StrsM wr (.slice p1 cur.length e1) cur from ⟨p1, e1, rfl, h1, h2⟩)
            have hE9 := hE0.trans hEr
            clear hkk h1 h2
            go_wp2
            go_ret
            exact ⟨_, rfl, by rw [← hce.out]; exact hcur.out, hE9⟩
      · skip
        skip
        clear hA
        go_enter Tryz.func26, Tryz.ntmps26
        go_wp2_with fail
        have hb0 := Blk.new w' #[.int .i64 16, .string nm, .string tx, .int .i64 n, .slice q args.length cp] 24
        refine (kA.out _ (hls.out.ext ((Ext.refl _).alloc _))).mono ?_
        rintro e w0 ⟨nv, rfl, hnv, hE1⟩
        rw [← hA2] at hnv
        have hst := Lib.hid hnv
        have hE0 : Ext w' w0 := Ext.trans ((Ext.refl _).alloc _) hE1
        replace hb0 := Lib.hid (hb0.ext hE1)
        clear hE1 kA hnv hA2
        go_wp2_with fail
        go_loopw [0, 7] (fun lw i wr => ∃ k : Nat, ∃ cur : List Bs, k ≤ args.length ∧ i = .int .i64 k ∧ StrsM wr lw cur ∧ cur = ((args.take k).flatMap (colV false)).foldl addV A ∧ Ext w0 wr) (fun _ i _ => args.length - (intOf i).toNat)
        case atStart => exact ⟨0, A, Nat.zero_le _, rfl, hst.out, rfl, Ext.refl _⟩
        case round =>
          obtain ⟨k, cur, hk, rfl, hcur, hce, hEr⟩ := hrel
          have x4 : wr.cell? ⟨w'.heap.size, 4, none⟩ = some (.slice q args.length cp) := ((hb0.out.ext hEr).cell 4).trans rfl
          have hcl : cur.length ≤ A.length + (Ex.parts.partsL args).length := by rw [hce]; exact hfl.out k
          by_cases hlt : k < args.length
          · obtain ⟨b, off, rfl, sv, hkid⟩ := hK.out _ _ rfl (by omega)
            obtain ⟨hc, hsu, hP⟩ := hkid k hlt
            have hform := hsu.form
            have hEw := hEx.trans (hE0.trans hEr)
            obtain ⟨d0, d1, d2, d3, d4⟩ := (hc.ext hEw).five
            have hpy := partsL_len args k hlt
            have hcl2 : cur.length + (args.getD k exD).parts.length ≤ 999999 := by
              have h1 := foldA_len ((args.take k).flatMap (colV false)) A
              have h2 := flat_len false (args.take k)
              rw [← hce] at h1
              omega
            have hnx := Lib.hid (show (colV false (args.getD k exD)).foldl addV cur = ((args.take (k + 1)).flatMap (colV false)).foldl addV A by rw [flat_snoc false args k hlt, List.foldl_append, hce])
            replace hP := Lib.hid (hP _ hEw _ cur hcur hcl2)
            obtain ⟨p1, e1, rfl, -, -⟩ := hcur
            unfold NamesP at hP
            clear hc hkid hsu hce hcl2 hpy
            generalize args.getD k exD = y at *
            generalize (colV false y).foldl addV cur = nw at *
            generalize sv k = u at *
            obtain ⟨uq, uc, rfl⟩ := hform
            go_wp2_with fail
            refine hP.out.mono ?_
            rintro e w3 ⟨nv, rfl, hnv, hE3⟩
            replace hEr := hEr.trans hE3
            clear d0 d1 d2 d3 d4 x4 hEw hE3
            replace hnv := Lib.hid hnv
            go_wp2
            go_roundw
            case rel => exact ⟨k + 1, nw, by omega, by go_num, hnv.out, hnx.out, hEr⟩
            case measure => simp [intOf]; omega
          · have hkk : args.take k = args := List.take_of_length_le (by omega)
            rw [hkk] at hce
            have hce := Lib.hid hce
            obtain ⟨p1, e1, rfl, h1, h2⟩ := hcur
            have hcur := Lib.hid (show StrsM wr (.slice p1 cur.length e1) cur from ⟨p1, e1, rfl, h1, h2⟩)
            have hE9 := hE0.trans hEr
            clear hkk h1 h2
            go_wp2
            go_ret
            exact ⟨_, rfl, by rw [← hce.out]; exact hcur.out, hE9⟩
      · skip
        skip
        clear hA
        go_enter Tryz.func26, Tryz.ntmps26
        go_wp2_with fail
        have hb0 := Blk.new w' #[.int .i64 17, .string nm, .string tx, .int .i64 n, .slice q args.length cp] 24
        refine (kA.out _ (hls.out.ext ((Ext.refl _).alloc _))).mono ?_
        rintro e w0 ⟨nv, rfl, hnv, hE1⟩
        rw [← hA2] at hnv
        have hst := Lib.hid hnv
        have hE0 : Ext w' w0 := Ext.trans ((Ext.refl _).alloc _) hE1
        replace hb0 := Lib.hid (hb0.ext hE1)
        clear hE1 kA hnv hA2
        go_wp2_with fail
        go_loopw [0, 7] (fun lw i wr => ∃ k : Nat, ∃ cur : List Bs, k ≤ args.length ∧ i = .int .i64 k ∧ StrsM wr lw cur ∧ cur = ((args.take k).flatMap (colV false)).foldl addV A ∧ Ext w0 wr) (fun _ i _ => args.length - (intOf i).toNat)
        case atStart => exact ⟨0, A, Nat.zero_le _, rfl, hst.out, rfl, Ext.refl _⟩
        case round =>
          obtain ⟨k, cur, hk, rfl, hcur, hce, hEr⟩ := hrel
          have x4 : wr.cell? ⟨w'.heap.size, 4, none⟩ = some (.slice q args.length cp) := ((hb0.out.ext hEr).cell 4).trans rfl
          have hcl : cur.length ≤ A.length + (Ex.parts.partsL args).length := by rw [hce]; exact hfl.out k
          by_cases hlt : k < args.length
          · obtain ⟨b, off, rfl, sv, hkid⟩ := hK.out _ _ rfl (by omega)
            obtain ⟨hc, hsu, hP⟩ := hkid k hlt
            have hform := hsu.form
            have hEw := hEx.trans (hE0.trans hEr)
            obtain ⟨d0, d1, d2, d3, d4⟩ := (hc.ext hEw).five
            have hpy := partsL_len args k hlt
            have hcl2 : cur.length + (args.getD k exD).parts.length ≤ 999999 := by
              have h1 := foldA_len ((args.take k).flatMap (colV false)) A
              have h2 := flat_len false (args.take k)
              rw [← hce] at h1
              omega
            have hnx := Lib.hid (show (colV false (args.getD k exD)).foldl addV cur = ((args.take (k + 1)).flatMap (colV false)).foldl addV A by rw [flat_snoc false args k hlt, List.foldl_append, hce])
            replace hP := Lib.hid (hP _ hEw _ cur hcur hcl2)
            obtain ⟨p1, e1, rfl, -, -⟩ := hcur
            unfold NamesP at hP
            clear hc hkid hsu hce hcl2 hpy
            generalize args.getD k exD = y at *
            generalize (colV false y).foldl addV cur = nw at *
            generalize sv k = u at *
            obtain ⟨uq, uc, rfl⟩ := hform
            go_wp2_with fail
            refine hP.out.mono ?_
            rintro e w3 ⟨nv, rfl, hnv, hE3⟩
            replace hEr := hEr.trans hE3
            clear d0 d1 d2 d3 d4 x4 hEw hE3
            replace hnv := Lib.hid hnv
            go_wp2
            go_roundw
            case rel => exact ⟨k + 1, nw, by omega, by go_num, hnv.out, hnx.out, hEr⟩
            case measure => simp [intOf]; omega
          · have hkk : args.take k = args := List.take_of_length_le (by omega)
            rw [hkk] at hce
            have hce := Lib.hid hce
            obtain ⟨p1, e1, rfl, h1, h2⟩ := hcur
            have hcur := Lib.hid (show StrsM wr (.slice p1 cur.length e1) cur from ⟨p1, e1, rfl, h1, h2⟩)
            have hE9 := hE0.trans hEr
            clear hkk h1 h2
            go_wp2
            go_ret
            exact ⟨_, rfl, by rw [← hce.out]; exact hcur.out, hE9⟩
    · have hA2 : A = ls := by rw [hA, show col1 false (.mk op nm tx n args) = [] by simp [col1, occ1, Ex.op, hop]]; rfl
      have o3 : (op == 3) = false := by simp; omega
      have o16 : (op == 16) = false := by simp; omega
      have o17 : (op == 17) = false := by simp; omega
      clear hop
      skip
      have hst := Lib.hid (show StrsM (w'.alloc (.cells #[.int .i64 op, .string nm, .string tx, .int .i64 n, .slice q args.length cp] 24)) (.slice p0 ls.length c0) A by rw [hA2]; exact hls.out.ext ((Ext.refl _).alloc _))
      clear hA hA2 kA
      go_enter Tryz.func26, Tryz.ntmps26
      go_wp2_with fail
      have hb0 := Blk.new w' #[.int .i64 op, .string nm, .string tx, .int .i64 n, .slice q args.length cp] 24
      have hE0 : Ext w' (w'.alloc (.cells #[.int .i64 op, .string nm, .string tx, .int .i64 n, .slice q args.length cp] 24)) := (by repeat (first | with_reducible exact Ext.refl _ | with_reducible exact hE0 | with_reducible exact hE | with_reducible refine Ext.alloc ?_ _ | with_reducible refine Ext.drewN ?_ _ | with_reducible refine Ext.drew ?_ | ((with_reducible refine Ext.setCell ?_ ?side _); (case side => first | exact Nat.le_refl _ | (simp; done) | (simp; omega)))))
      generalize w'.alloc (.cells #[.int .i64 op, .string nm, .string tx, .int .i64 n, .slice q args.length cp] 24) = w0 at *
      replace hb0 := Lib.hid hb0
      go_loopw [0, 7] (fun lw i wr => ∃ k : Nat, ∃ cur : List Bs, k ≤ args.length ∧ i = .int .i64 k ∧ StrsM wr lw cur ∧ cur = ((args.take k).flatMap (colV false)).foldl addV A ∧ Ext w0 wr) (fun _ i _ => args.length - (intOf i).toNat)
      case atStart => exact ⟨0, A, Nat.zero_le _, rfl, hst.out, rfl, Ext.refl _⟩
      case round =>
        obtain ⟨k, cur, hk, rfl, hcur, hce, hEr⟩ := hrel
        have x4 : wr.cell? ⟨w'.heap.size, 4, none⟩ = some (.slice q args.length cp) := ((hb0.out.ext hEr).cell 4).trans rfl
        have hcl : cur.length ≤ A.length + (Ex.parts.partsL args).length := by rw [hce]; exact hfl.out k
        by_cases hlt : k < args.length
        · obtain ⟨b, off, rfl, sv, hkid⟩ := hK.out _ _ rfl (by omega)
          obtain ⟨hc, hsu, hP⟩ := hkid k hlt
          have hform := hsu.form
          have hEw := hEx.trans (hE0.trans hEr)
          obtain ⟨d0, d1, d2, d3, d4⟩ := (hc.ext hEw).five
          have hpy := partsL_len args k hlt
          have hcl2 : cur.length + (args.getD k exD).parts.length ≤ 999999 := by
            have h1 := foldA_len ((args.take k).flatMap (colV false)) A
            have h2 := flat_len false (args.take k)
            rw [← hce] at h1
            omega
          have hnx := Lib.hid (show (colV false (args.getD k exD)).foldl addV cur = ((args.take (k + 1)).flatMap (colV false)).foldl addV A by rw [flat_snoc false args k hlt, List.foldl_append, hce])
          replace hP := Lib.hid (hP _ hEw _ cur hcur hcl2)
          obtain ⟨p1, e1, rfl, -, -⟩ := hcur
          unfold NamesP at hP
          clear hc hkid hsu hce hcl2 hpy
          generalize args.getD k exD = y at *
          generalize (colV false y).foldl addV cur = nw at *
          generalize sv k = u at *
          obtain ⟨uq, uc, rfl⟩ := hform
          go_wp2_with fail
          refine hP.out.mono ?_
          rintro e w3 ⟨nv, rfl, hnv, hE3⟩
          replace hEr := hEr.trans hE3
          clear d0 d1 d2 d3 d4 x4 hEw hE3
          replace hnv := Lib.hid hnv
          go_wp2
          go_roundw
          case rel => exact ⟨k + 1, nw, by omega, by go_num, hnv.out, hnx.out, hEr⟩
          case measure => simp [intOf]; omega
        · have hkk : args.take k = args := List.take_of_length_le (by omega)
          rw [hkk] at hce
          have hce := Lib.hid hce
          obtain ⟨p1, e1, rfl, h1, h2⟩ := hcur
          have hcur := Lib.hid (show StrsM wr (.slice p1 cur.length e1) cur from ⟨p1, e1, rfl, h1, h2⟩)
          have hE9 := hE0.trans hEr
          clear hkk h1 h2
          go_wp2
          go_ret
          exact ⟨_, rfl, by rw [← hce.out]; exact hcur.out, hE9⟩
  | true =>
    by_cases hop : op = 16 ∨ op = 17
    · have hA2 : A = addV ls (bts nm) := by rw [hA, show col1 true (.mk op nm tx n args) = [bts nm] by simp [col1, win1, Ex.op, Ex.name, hop]]; rfl
      rcases hop with rfl | rfl
      · skip
        skip
        clear hA
        go_enter Tryz.func26, Tryz.ntmps26
        go_wp2_with fail
        have hb0 := Blk.new w' #[.int .i64 16, .string nm, .string tx, .int .i64 n, .slice q args.length cp] 24
        refine (kA.out _ (hls.out.ext ((Ext.refl _).alloc _))).mono ?_
        rintro e w0 ⟨nv, rfl, hnv, hE1⟩
        rw [← hA2] at hnv
        have hst := Lib.hid hnv
        have hE0 : Ext w' w0 := Ext.trans ((Ext.refl _).alloc _) hE1
        replace hb0 := Lib.hid (hb0.ext hE1)
        clear hE1 kA hnv hA2
        go_wp2_with fail
        go_loopw [0, 7] (fun lw i wr => ∃ k : Nat, ∃ cur : List Bs, k ≤ args.length ∧ i = .int .i64 k ∧ StrsM wr lw cur ∧ cur = ((args.take k).flatMap (colV true)).foldl addV A ∧ Ext w0 wr) (fun _ i _ => args.length - (intOf i).toNat)
        case atStart => exact ⟨0, A, Nat.zero_le _, rfl, hst.out, rfl, Ext.refl _⟩
        case round =>
          obtain ⟨k, cur, hk, rfl, hcur, hce, hEr⟩ := hrel
          have x4 : wr.cell? ⟨w'.heap.size, 4, none⟩ = some (.slice q args.length cp) := ((hb0.out.ext hEr).cell 4).trans rfl
          have hcl : cur.length ≤ A.length + (Ex.parts.partsL args).length := by rw [hce]; exact hfl.out k
          by_cases hlt : k < args.length
          · obtain ⟨b, off, rfl, sv, hkid⟩ := hK.out _ _ rfl (by omega)
            obtain ⟨hc, hsu, hP⟩ := hkid k hlt
            have hform := hsu.form
            have hEw := hEx.trans (hE0.trans hEr)
            obtain ⟨d0, d1, d2, d3, d4⟩ := (hc.ext hEw).five
            have hpy := partsL_len args k hlt
            have hcl2 : cur.length + (args.getD k exD).parts.length ≤ 999999 := by
              have h1 := foldA_len ((args.take k).flatMap (colV true)) A
              have h2 := flat_len true (args.take k)
              rw [← hce] at h1
              omega
            have hnx := Lib.hid (show (colV true (args.getD k exD)).foldl addV cur = ((args.take (k + 1)).flatMap (colV true)).foldl addV A by rw [flat_snoc true args k hlt, List.foldl_append, hce])
            replace hP := Lib.hid (hP _ hEw _ cur hcur hcl2)
            obtain ⟨p1, e1, rfl, -, -⟩ := hcur
            unfold NamesP at hP
            clear hc hkid hsu hce hcl2 hpy
            generalize args.getD k exD = y at *
            generalize (colV true y).foldl addV cur = nw at *
            generalize sv k = u at *
            obtain ⟨uq, uc, rfl⟩ := hform
            go_wp2_with fail
            refine hP.out.mono ?_
            rintro e w3 ⟨nv, rfl, hnv, hE3⟩
            replace hEr := hEr.trans hE3
            clear d0 d1 d2 d3 d4 x4 hEw hE3
            replace hnv := Lib.hid hnv
            go_wp2
            go_roundw
            case rel => exact ⟨k + 1, nw, by omega, by go_num, hnv.out, hnx.out, hEr⟩
            case measure => simp [intOf]; omega
          · have hkk : args.take k = args := List.take_of_length_le (by omega)
            rw [hkk] at hce
            have hce := Lib.hid hce
            obtain ⟨p1, e1, rfl, h1, h2⟩ := hcur
            have hcur := Lib.hid (show StrsM wr (.slice p1 cur.length e1) cur from ⟨p1, e1, rfl, h1, h2⟩)
            have hE9 := hE0.trans hEr
            clear hkk h1 h2
            go_wp2
            go_ret
            exact ⟨_, rfl, by rw [← hce.out]; exact hcur.out, hE9⟩
      · skip
        skip
        clear hA
        go_enter Tryz.func26, Tryz.ntmps26
        go_wp2_with fail
        have hb0 := Blk.new w' #[.int .i64 17, .string nm, .string tx, .int .i64 n, .slice q args.length cp] 24
        refine (kA.out _ (hls.out.ext ((Ext.refl _).alloc _))).mono ?_
        rintro e w0 ⟨nv, rfl, hnv, hE1⟩
        rw [← hA2] at hnv
        have hst := Lib.hid hnv
        have hE0 : Ext w' w0 := Ext.trans ((Ext.refl _).alloc _) hE1
        replace hb0 := Lib.hid (hb0.ext hE1)
        clear hE1 kA hnv hA2
        go_wp2_with fail
        go_loopw [0, 7] (fun lw i wr => ∃ k : Nat, ∃ cur : List Bs, k ≤ args.length ∧ i = .int .i64 k ∧ StrsM wr lw cur ∧ cur = ((args.take k).flatMap (colV true)).foldl addV A ∧ Ext w0 wr) (fun _ i _ => args.length - (intOf i).toNat)
        case atStart => exact ⟨0, A, Nat.zero_le _, rfl, hst.out, rfl, Ext.refl _⟩
        case round =>
          obtain ⟨k, cur, hk, rfl, hcur, hce, hEr⟩ := hrel
          have x4 : wr.cell? ⟨w'.heap.size, 4, none⟩ = some (.slice q args.length cp) := ((hb0.out.ext hEr).cell 4).trans rfl
          have hcl : cur.length ≤ A.length + (Ex.parts.partsL args).length := by rw [hce]; exact hfl.out k
          by_cases hlt : k < args.length
          · obtain ⟨b, off, rfl, sv, hkid⟩ := hK.out _ _ rfl (by omega)
            obtain ⟨hc, hsu, hP⟩ := hkid k hlt
            have hform := hsu.form
            have hEw := hEx.trans (hE0.trans hEr)
            obtain ⟨d0, d1, d2, d3, d4⟩ := (hc.ext hEw).five
            have hpy := partsL_len args k hlt
            have hcl2 : cur.length + (args.getD k exD).parts.length ≤ 999999 := by
              have h1 := foldA_len ((args.take k).flatMap (colV true)) A
              have h2 := flat_len true (args.take k)
              rw [← hce] at h1
              omega
            have hnx := Lib.hid (show (colV true (args.getD k exD)).foldl addV cur = ((args.take (k + 1)).flatMap (colV true)).foldl addV A by rw [flat_snoc true args k hlt, List.foldl_append, hce])
            replace hP := Lib.hid (hP _ hEw _ cur hcur hcl2)
            obtain ⟨p1, e1, rfl, -, -⟩ := hcur
            unfold NamesP at hP
            clear hc hkid hsu hce hcl2 hpy
            generalize args.getD k exD = y at *
            generalize (colV true y).foldl addV cur = nw at *
            generalize sv k = u at *
            obtain ⟨uq, uc, rfl⟩ := hform
            go_wp2_with fail
            refine hP.out.mono ?_
            rintro e w3 ⟨nv, rfl, hnv, hE3⟩
            replace hEr := hEr.trans hE3
            clear d0 d1 d2 d3 d4 x4 hEw hE3
            replace hnv := Lib.hid hnv
            go_wp2
            go_roundw
            case rel => exact ⟨k + 1, nw, by omega, by go_num, hnv.out, hnx.out, hEr⟩
            case measure => simp [intOf]; omega
          · have hkk : args.take k = args := List.take_of_length_le (by omega)
            rw [hkk] at hce
            have hce := Lib.hid hce
            obtain ⟨p1, e1, rfl, h1, h2⟩ := hcur
            have hcur := Lib.hid (show StrsM wr (.slice p1 cur.length e1) cur from ⟨p1, e1, rfl, h1, h2⟩)
            have hE9 := hE0.trans hEr
            clear hkk h1 h2
            go_wp2
            go_ret
            exact ⟨_, rfl, by rw [← hce.out]; exact hcur.out, hE9⟩
    · have hA2 : A = ls := by rw [hA, show col1 true (.mk op nm tx n args) = [] by simp [col1, win1, Ex.op, hop]]; rfl
      have o16 : (op == 16) = false := by simp; omega
      have o17 : (op == 17) = false := by simp; omega
      clear hop
      by_cases hop : op = 3
      · subst hop
        skip
        have hst := Lib.hid (show StrsM (w'.alloc (.cells #[.int .i64 3, .string nm, .string tx, .int .i64 n, .slice q args.length cp] 24)) (.slice p0 ls.length c0) A by rw [hA2]; exact hls.out.ext ((Ext.refl _).alloc _))
        clear hA hA2 kA
        go_enter Tryz.func26, Tryz.ntmps26
        go_wp2_with fail
        have hb0 := Blk.new w' #[.int .i64 3, .string nm, .string tx, .int .i64 n, .slice q args.length cp] 24
        have hE0 : Ext w' (w'.alloc (.cells #[.int .i64 3, .string nm, .string tx, .int .i64 n, .slice q args.length cp] 24)) := (by repeat (first | with_reducible exact Ext.refl _ | with_reducible exact hE0 | with_reducible exact hE | with_reducible refine Ext.alloc ?_ _ | with_reducible refine Ext.drewN ?_ _ | with_reducible refine Ext.drew ?_ | ((with_reducible refine Ext.setCell ?_ ?side _); (case side => first | exact Nat.le_refl _ | (simp; done) | (simp; omega)))))
        generalize w'.alloc (.cells #[.int .i64 3, .string nm, .string tx, .int .i64 n, .slice q args.length cp] 24) = w0 at *
        replace hb0 := Lib.hid hb0
        go_loopw [0, 7] (fun lw i wr => ∃ k : Nat, ∃ cur : List Bs, k ≤ args.length ∧ i = .int .i64 k ∧ StrsM wr lw cur ∧ cur = ((args.take k).flatMap (colV true)).foldl addV A ∧ Ext w0 wr) (fun _ i _ => args.length - (intOf i).toNat)
        case atStart => exact ⟨0, A, Nat.zero_le _, rfl, hst.out, rfl, Ext.refl _⟩
        case round =>
          obtain ⟨k, cur, hk, rfl, hcur, hce, hEr⟩ := hrel
          have x4 : wr.cell? ⟨w'.heap.size, 4, none⟩ = some (.slice q args.length cp) := ((hb0.out.ext hEr).cell 4).trans rfl
          have hcl : cur.length ≤ A.length + (Ex.parts.partsL args).length := by rw [hce]; exact hfl.out k
          by_cases hlt : k < args.length
          · obtain ⟨b, off, rfl, sv, hkid⟩ := hK.out _ _ rfl (by omega)
            obtain ⟨hc, hsu, hP⟩ := hkid k hlt
            have hform := hsu.form
            have hEw := hEx.trans (hE0.trans hEr)
            obtain ⟨d0, d1, d2, d3, d4⟩ := (hc.ext hEw).five
            have hpy := partsL_len args k hlt
            have hcl2 : cur.length + (args.getD k exD).parts.length ≤ 999999 := by
              have h1 := foldA_len ((args.take k).flatMap (colV true)) A
              have h2 := flat_len true (args.take k)
              rw [← hce] at h1
              omega
            have hnx := Lib.hid (show (colV true (args.getD k exD)).foldl addV cur = ((args.take (k + 1)).flatMap (colV true)).foldl addV A by rw [flat_snoc true args k hlt, List.foldl_append, hce])
            replace hP := Lib.hid (hP _ hEw _ cur hcur hcl2)
            obtain ⟨p1, e1, rfl, -, -⟩ := hcur
            unfold NamesP at hP
            clear hc hkid hsu hce hcl2 hpy
            generalize args.getD k exD = y at *
            generalize (colV true y).foldl addV cur = nw at *
            generalize sv k = u at *
            obtain ⟨uq, uc, rfl⟩ := hform
            go_wp2_with fail
            refine hP.out.mono ?_
            rintro e w3 ⟨nv, rfl, hnv, hE3⟩
            replace hEr := hEr.trans hE3
            clear d0 d1 d2 d3 d4 x4 hEw hE3
            replace hnv := Lib.hid hnv
            go_wp2
            go_roundw
            case rel => exact ⟨k + 1, nw, by omega, by go_num, hnv.out, hnx.out, hEr⟩
            case measure => simp [intOf]; omega
          · have hkk : args.take k = args := List.take_of_length_le (by omega)
            rw [hkk] at hce
            have hce := Lib.hid hce
            obtain ⟨p1, e1, rfl, h1, h2⟩ := hcur
            have hcur := Lib.hid (show StrsM wr (.slice p1 cur.length e1) cur from ⟨p1, e1, rfl, h1, h2⟩)
            have hE9 := hE0.trans hEr
            clear hkk h1 h2
            go_wp2
            go_ret
            exact ⟨_, rfl, by rw [← hce.out]; exact hcur.out, hE9⟩
      · have o3 : (op == 3) = false := by simpa using hop
        clear hop
        skip
        have hst := Lib.hid (show StrsM (w'.alloc (.cells #[.int .i64 op, .string nm, .string tx, .int .i64 n, .slice q args.length cp] 24)) (.slice p0 ls.length c0) A by rw [hA2]; exact hls.out.ext ((Ext.refl _).alloc _))
        clear hA hA2 kA
        go_enter Tryz.func26, Tryz.ntmps26
        go_wp2_with fail
        have hb0 := Blk.new w' #[.int .i64 op, .string nm, .string tx, .int .i64 n, .slice q args.length cp] 24
        have hE0 : Ext w' (w'.alloc (.cells #[.int .i64 op, .string nm, .string tx, .int .i64 n, .slice q args.length cp] 24)) := (by repeat (first | with_reducible exact Ext.refl _ | with_reducible exact hE0 | with_reducible exact hE | with_reducible refine Ext.alloc ?_ _ | with_reducible refine Ext.drewN ?_ _ | with_reducible refine Ext.drew ?_ | ((with_reducible refine Ext.setCell ?_ ?side _); (case side => first | exact Nat.le_refl _ | (simp; done) | (simp; omega)))))
        generalize w'.alloc (.cells #[.int .i64 op, .string nm, .string tx, .int .i64 n, .slice q args.length cp] 24) = w0 at *
        replace hb0 := Lib.hid hb0
        go_loopw [0, 7] (fun lw i wr => ∃ k : Nat, ∃ cur : List Bs, k ≤ args.length ∧ i = .int .i64 k ∧ StrsM wr lw cur ∧ cur = ((args.take k).flatMap (colV true)).foldl addV A ∧ Ext w0 wr) (fun _ i _ => args.length - (intOf i).toNat)
        case atStart => exact ⟨0, A, Nat.zero_le _, rfl, hst.out, rfl, Ext.refl _⟩
        case round =>
          obtain ⟨k, cur, hk, rfl, hcur, hce, hEr⟩ := hrel
          have x4 : wr.cell? ⟨w'.heap.size, 4, none⟩ = some (.slice q args.length cp) := ((hb0.out.ext hEr).cell 4).trans rfl
          have hcl : cur.length ≤ A.length + (Ex.parts.partsL args).length := by rw [hce]; exact hfl.out k
          by_cases hlt : k < args.length
          · obtain ⟨b, off, rfl, sv, hkid⟩ := hK.out _ _ rfl (by omega)
            obtain ⟨hc, hsu, hP⟩ := hkid k hlt
            have hform := hsu.form
            have hEw := hEx.trans (hE0.trans hEr)
            obtain ⟨d0, d1, d2, d3, d4⟩ := (hc.ext hEw).five
            have hpy := partsL_len args k hlt
            have hcl2 : cur.length + (args.getD k exD).parts.length ≤ 999999 := by
              have h1 := foldA_len ((args.take k).flatMap (colV true)) A
              have h2 := flat_len true (args.take k)
              rw [← hce] at h1
              omega
            have hnx := Lib.hid (show (colV true (args.getD k exD)).foldl addV cur = ((args.take (k + 1)).flatMap (colV true)).foldl addV A by rw [flat_snoc true args k hlt, List.foldl_append, hce])
            replace hP := Lib.hid (hP _ hEw _ cur hcur hcl2)
            obtain ⟨p1, e1, rfl, -, -⟩ := hcur
            unfold NamesP at hP
            clear hc hkid hsu hce hcl2 hpy
            generalize args.getD k exD = y at *
            generalize (colV true y).foldl addV cur = nw at *
            generalize sv k = u at *
            obtain ⟨uq, uc, rfl⟩ := hform
            go_wp2_with fail
            refine hP.out.mono ?_
            rintro e w3 ⟨nv, rfl, hnv, hE3⟩
            replace hEr := hEr.trans hE3
            clear d0 d1 d2 d3 d4 x4 hEw hE3
            replace hnv := Lib.hid hnv
            go_wp2
            go_roundw
            case rel => exact ⟨k + 1, nw, by omega, by go_num, hnv.out, hnx.out, hEr⟩
            case measure => simp [intOf]; omega
          · have hkk : args.take k = args := List.take_of_length_le (by omega)
            rw [hkk] at hce
            have hce := Lib.hid hce
            obtain ⟨p1, e1, rfl, h1, h2⟩ := hcur
            have hcur := Lib.hid (show StrsM wr (.slice p1 cur.length e1) cur from ⟨p1, e1, rfl, h1, h2⟩)
            have hE9 := hE0.trans hEr
            clear hkk h1 h2
            go_wp2
            go_ret
            exact ⟨_, rfl, by rw [← hce.out]; exact hcur.out, hE9⟩
theorem strs_nil (w : World) : StrsM w (.slice none 0 0) [] := ⟨none, 0, rfl, by simp, fun h => absurd h (by simp)⟩
set_option maxRecDepth 8000 in
theorem rNames_any {w : World} {v : Value} (x : Ex) (hS : ExS w v x.args) (hp : x.parts.length ≤ 999999) : Calls Tryz.prog 10 #[exAgg x v] w (NamesP (uniL x.occ) w) := by
  have kC := Lib.hid (fun w1 (h : Ext w w1) => rcollect_any false hS x rfl w1 h (.slice none 0 0) [] (strs_nil _) (by simpa using hp))
  rw [show colV false x = x.occ from rfl, fold_addV] at kC
  unfold NamesP at kC
  obtain ⟨q, cp, rfl⟩ := hS.form
  generalize uniL x.occ = U at *
  obtain ⟨op, nm, tx, n, args⟩ := x
  simp only [exAgg_mk, Ex.args] at kC ⊢
  clear hS
  go_enter Tryz.func10, Tryz.ntmps10
  go_wp2_with fail
  refine (kC.out _ ((Ext.refl _).alloc _)).mono ?_
  rintro e w1 ⟨nv, rfl, hnv, hE1⟩
  obtain ⟨p1, e1, rfl, h1, h2⟩ := hnv
  have hnv := Lib.hid (show StrsM w1 (.slice p1 U.length e1) U from ⟨p1, e1, rfl, h1, h2⟩)
  have hE : Ext w w1 := Ext.trans ((Ext.refl _).alloc _) hE1
  clear h1 h2 hE1
  go_wp2
  go_ret
  exact ⟨_, rfl, hnv.out, hE⟩
end Go.Proofs.YtnppbeajemhjeaaGreat
