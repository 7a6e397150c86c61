/- Contract of Check (a walk); facts on valid features. -/
import Derived.Test.YtpdpjindmghfpaaGreatDoorEty
import Derived.Test.YtpdpjindmghfpaaGreatDoorEdp
import Derived.Test.YtpdpjindmghfpaaGreatDoorEfm
namespace Go.Proofs.YtpdpjindmghfpaaGreatDoor
open Go.RowKit
theorem namesE_all : ∀ (l before : List Feat), namesE before l = 0 → ∀ f ∈ l, featE f = 0
  | [], _, _, f, hf => by cases hf
  | g :: l, before, h, f, hf => by
    rw [namesE] at h
    by_cases h1 : featE g ≠ 0
    · rw [if_pos h1] at h; exact absurd h h1
    · rw [if_neg h1] at h
      by_cases h2 : (findN before g.name).isSome = true
      · rw [if_pos h2] at h; cases h
      · rw [if_neg h2] at h
        rcases List.mem_cons.1 hf with e | e
        · subst e; omega
        · exact namesE_all l _ h f e
theorem findN_mem {l : List Feat} {nm : ByteArray} {f : Feat} (h : findN l nm = some f) : f ∈ l ∧ f.name = nm := by
  unfold findN at h
  exact ⟨List.mem_of_find?_eq_some h, by have := List.find?_some h; simpa using this⟩
theorem featE_ok {f : Feat} (h : featE f = 0) : nameB f.name = true ∧ (f.kind = 2 ∨ (f.kind = 1 ∧ nbrB f.n = true) ∨ (f.kind = 3 ∧ (f.n = 0 ∨ f.n = 1))) := by
  unfold featE at h
  split at h
  · cases h
  · rename_i h1
    split at h
    · rename_i h2; exact ⟨by simpa using h1, h2⟩
    · cases h
theorem kinds_ok {l : List Feat} (h : namesE [] l = 0) : ∀ nm f, findN l nm = some f → f.kind = 1 ∨ f.kind = 2 ∨ f.kind = 3 := by
  intro nm f hf
  have := (featE_ok (namesE_all l [] h f (findN_mem hf).1)).2
  omega
/-- What a new block of five cells holds later. -/
theorem new5 {w w1 : World} {c0 c1 c2 c3 c4 : Value} {T : TypeId} (B : Nat) (hB : B = w.heap.size) (hE : Ext (w.alloc (.cells #[c0, c1, c2, c3, c4] T)) w1) :
    (w1.cell? ⟨B, 0, none⟩ = some c0 ∧ w1.cell? ⟨B, 1, none⟩ = some c1 ∧ w1.cell? ⟨B, 2, none⟩ = some c2 ∧ w1.cell? ⟨B, 3, none⟩ = some c3 ∧ w1.cell? ⟨B, 4, none⟩ = some c4) ∧ (w1.frozen? ⟨B, 0, none⟩ = false ∧ w1.frozen? ⟨B, 1, none⟩ = false ∧ w1.frozen? ⟨B, 2, none⟩ = false ∧ w1.frozen? ⟨B, 3, none⟩ = false ∧ w1.frozen? ⟨B, 4, none⟩ = false) := by
  have h := (Blk.new' w #[c0, c1, c2, c3, c4] T B hB).ext hE
  exact ⟨⟨(h.cell 0).trans rfl, (h.cell 1).trans rfl, (h.cell 2).trans rfl, (h.cell 3).trans rfl, (h.cell 4).trans rfl⟩, h.fz 0, h.fz 1, h.fz 2, h.fz 3, h.fz 4⟩
set_option maxRecDepth 8000 in
set_option maxHeartbeats 2000000 in
theorem check_any {w : World} {v : Value} (x : Ex) (hS : ExS w v x.args) (fv : Value) (l : List Feat) (hF : Feats w fv l) : Calls Tryz.prog 67 #[exAgg x v, fv] w (TyPost (checkV x l) w) := by
  obtain ⟨q, cp, rfl⟩ := hS.form
  obtain ⟨op, nm, tx, n, args⟩ := x
  simp only [Ex.args] at hS
  replace hS := Lib.hid hS
  replace hF := Lib.hid hF
  obtain ⟨R, hR⟩ : ∃ R, R = checkV (.mk op nm tx n args) l := ⟨_, rfl⟩
  rw [← hR]
  unfold checkV at hR
  obtain ⟨N0, hN0⟩ : ∃ N0, N0 = namesE [] l := ⟨_, rfl⟩
  rw [← hN0] at hR
  replace hR := Lib.hid hR
  replace hN0 := Lib.hid hN0
  rw [exAgg_mk]
  simp only [Ex.args]
  go_enter Tryz.func67, Tryz.ntmps67
  go_wp2_with fail
  refine (names_any _ fv l (hF.out.ext (by repeat (first | with_reducible exact Ext.refl _ | with_reducible exact hE0 | with_reducible exact hE | with_reducible refine Ext.alloc ?_ _ | with_reducible refine Ext.drewN ?_ _ | with_reducible refine Ext.drew ?_ | ((with_reducible refine Ext.setCell ?_ ?side _); (case side => first | exact Nat.le_refl _ | (simp; done) | (simp; omega))))))).mono ?_
  rintro e w1 ⟨hE1, h⟩
  obtain ⟨⟨x0, x1, x2, x3, x4⟩, -⟩ := new5 w.heap.size rfl hE1
  have hE0 : Ext w w1 := Ext.trans (by repeat (first | with_reducible exact Ext.refl _ | with_reducible exact hE0 | with_reducible exact hE | with_reducible refine Ext.alloc ?_ _ | with_reducible refine Ext.drewN ?_ _ | with_reducible refine Ext.drew ?_ | ((with_reducible refine Ext.setCell ?_ ?side _); (case side => first | exact Nat.le_refl _ | (simp; done) | (simp; omega))))) hE1
  have hb1 := Lib.hid ((Blk.new w #[.int .i64 op, .string nm, .string tx, .int .i64 n, .slice q args.length cp] 24).ext hE1)
  clear hE1
  rcases h with ⟨h0, b, rfl, hbb, hM⟩ | ⟨hne, rfl⟩
  · have hR1 := Lib.hid (hR.out.trans (if_neg (by rw [hN0.out, h0]; simp)))
    have hk := Lib.hid (kinds_ok h0)
    replace hM := Lib.hid hM
    replace h0 := Lib.hid h0
    clear hR hN0
    go_wp2_with fail
    refine (deeper_any hS.out (.mk op nm tx n args) rfl _ hE0 8 (by omega) (by omega)).mono ?_
    rintro e w2 ⟨rfl, hE2⟩
    obtain ⟨hb2⟩ : Nonempty (Hid (Blk w2 w.heap.size #[.int .i64 op, .string nm, .string tx, .int .i64 n, .slice q args.length cp] 24)) := ⟨Lib.hid (hb1.out.ext hE2)⟩
    clear x0 x1 x2 x3 x4
    have x0 := (hb2.out.cell 0).trans (by rfl : _ = some (Value.int .i64 op))
    have x1 := (hb2.out.cell 1).trans (by rfl : _ = some (Value.string nm))
    have x2 := (hb2.out.cell 2).trans (by rfl : _ = some (Value.string tx))
    have x3 := (hb2.out.cell 3).trans (by rfl : _ = some (Value.int .i64 n))
    have x4 := (hb2.out.cell 4).trans (by rfl : _ = some (Value.slice q args.length cp))
    replace hE0 := hE0.trans hE2
    replace hM := Lib.hid (hM.out.ext hE2)
    clear hE2 hb1
    by_cases hd : 8 < (Ex.mk op nm tx n args).levels
    · have hR2 := Lib.hid (hR1.out.trans (if_pos hd))
      rw [show decide ((8 : Int) < ((Ex.mk op nm tx n args).levels : Int)) = true by simp; omega]
      clear hd hR1
      go_wp2
      go_ret2
      exact ⟨by rw [hR2.out]; rfl, hE0⟩
    · have hR2 := Lib.hid (hR1.out.trans (if_neg hd))
      rw [show decide ((8 : Int) < ((Ex.mk op nm tx n args).levels : Int)) = false by simp; omega]
      clear hd hR1
      go_wp2_with fail
      refine (formed_any hS.out (.mk op nm tx n args) rfl _ hE0).mono ?_
      rintro e w3 ⟨rfl, hE3⟩
      clear x0 x1 x2 x3 x4
      replace hb2 := Lib.hid (hb2.out.ext hE3)
      have x0 := (hb2.out.cell 0).trans (by rfl : _ = some (Value.int .i64 op))
      have x1 := (hb2.out.cell 1).trans (by rfl : _ = some (Value.string nm))
      have x2 := (hb2.out.cell 2).trans (by rfl : _ = some (Value.string tx))
      have x3 := (hb2.out.cell 3).trans (by rfl : _ = some (Value.int .i64 n))
      have x4 := (hb2.out.cell 4).trans (by rfl : _ = some (Value.slice q args.length cp))
      replace hE0 := hE0.trans hE3
      replace hM := Lib.hid (hM.out.ext hE3)
      clear hE3
      cases hf : (Ex.mk op nm tx n args).formed with
      | false =>
        have hR3 := Lib.hid (hR2.out.trans (if_pos hf))
        clear hf hR2
        go_wp2
        go_ret2
        exact ⟨by rw [hR3.out]; rfl, hE0⟩
      | true =>
        have hR3 := Lib.hid (hR2.out.trans (if_neg (by simp [hf])))
        replace hf := Lib.hid hf
        clear hR2
        go_wp2_with fail
        refine (typeOf_any (hS.out.ext hE0) l b hM.out hk.out (.mk op nm tx n args) rfl _ (Ext.refl _) hf.out).mono ?_
        rintro e w4 ⟨rfl, hE4⟩
        replace hE0 := hE0.trans hE4
        clear hE4 x0 x1 x2 x3 x4
        rw [← hR3.out]
        go_wp2
        go_ret2
        exact ⟨rfl, hE0⟩
  · have hR1 := Lib.hid (hR.out.trans (if_pos (by rw [hN0.out]; exact hne)))
    rw [← hN0.out] at hne ⊢
    have d1 : (N0 != 0) = true := by simpa using hne
    clear hR hne
    go_wp2
    go_ret2
    exact ⟨by rw [hR1.out]; rfl, hE0⟩
end Go.Proofs.YtpdpjindmghfpaaGreatDoor
