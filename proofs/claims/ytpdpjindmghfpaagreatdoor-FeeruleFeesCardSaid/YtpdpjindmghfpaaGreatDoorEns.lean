/- Contract of names (a walk). -/
import Derived.Test.YtpdpjindmghfpaaGreatDoorEmp
import Derived.Test.YtpdpjindmghfpaaGreatDoorEfp
import Derived.Carry
namespace Go.Proofs.YtpdpjindmghfpaaGreatDoor
open Go.RowKit
/-- The slice v reads as the features. -/
def Feats (w : World) (v : Value) (l : List Feat) : Prop :=
  l.length ≤ 1000000 ∧ ((∃ p c, v = .slice p 0 c ∧ l = []) ∨ ∃ b off c, v = .slice (some ⟨b, off, none⟩) l.length c ∧ ∀ i, i < l.length → (w.cell? ⟨b, off + i * 4, none⟩ = some (.string (l.getD i fD).name) ∧ w.cell? ⟨b, off + i * 4 + 1, none⟩ = some (.int .i64 (l.getD i fD).kind) ∧ w.cell? ⟨b, off + i * 4 + 1 + 1, none⟩ = some (.int .i64 (l.getD i fD).n) ∧ w.cell? ⟨b, off + i * 4 + 1 + 1 + 1, none⟩ = some (.string (l.getD i fD).text)))
theorem Feats.ext {w w' : World} {v : Value} {l : List Feat} (h : Feats w v l) (k : Ext w w') : Feats w' v l := by
  refine ⟨h.1, ?_⟩
  rcases h.2 with h | ⟨b, off, c, hv, hc⟩
  · exact Or.inl h
  · exact Or.inr ⟨b, off, c, hv, fun i hi => ⟨k.get (hc i hi).1, k.get (hc i hi).2.1, k.get (hc i hi).2.2.1, k.get (hc i hi).2.2.2⟩⟩
theorem Feats.form {w : World} {v : Value} {l : List Feat} (h : Feats w v l) : ∃ p c, v = .slice p l.length c := by
  rcases h.2 with ⟨p, c, hv, hl⟩ | ⟨b, off, c, hv, hc⟩
  · exact ⟨p, c, by rw [hv, hl]; rfl⟩
  · exact ⟨_, _, hv⟩
theorem Feats.at {w : World} {p : Option Addr} {c : Nat} {l : List Feat} (h : Feats w (.slice p l.length c) l) (h0 : 0 < l.length) : ∃ b off, p = some ⟨b, off, none⟩ ∧ ∀ i, i < l.length → (w.cell? ⟨b, off + i * 4, none⟩ = some (.string (l.getD i fD).name) ∧ w.cell? ⟨b, off + i * 4 + 1, none⟩ = some (.int .i64 (l.getD i fD).kind) ∧ w.cell? ⟨b, off + i * 4 + 1 + 1, none⟩ = some (.int .i64 (l.getD i fD).n) ∧ w.cell? ⟨b, off + i * 4 + 1 + 1 + 1, none⟩ = some (.string (l.getD i fD).text)) := by
  rcases h.2 with ⟨p', c', hv, hl⟩ | ⟨b, off, c', hv, hc⟩
  · rw [hl] at h0; cases h0
  · injection hv with h1 h2 h3
    exact ⟨b, off, h1, hc⟩
def NamesPost (l : List Feat) (w : World) (e : Ending) (w' : World) : Prop :=
  Ext w w' ∧ ((namesE [] l = 0 ∧ ∃ b, e = .returned (.tuple #[.map (some b), .int .i64 0]) ∧ w.heap.size ≤ b ∧ KM w' b l) ∨ (namesE [] l ≠ 0 ∧ e = .returned (.tuple #[.map none, .int .i64 (namesE [] l)])))
theorem names_step (l : List Feat) (k : Nat) (h : k < l.length) : namesE (l.take k) (l.drop k) = if featE (l.getD k fD) ≠ 0 then featE (l.getD k fD) else if (findN (l.take k) (l.getD k fD).name).isSome then 7 else namesE (l.take (k + 1)) (l.drop (k + 1)) := by
  have hg : l.getD k fD = l[k] := by rw [List.getD_eq_getElem?_getD, List.getElem?_eq_getElem h, Option.getD_some]
  rw [take_snocD l fD k h, hg, List.drop_eq_getElem_cons h, namesE]
theorem wpList_lookF {w : World} {ops : Array Oper} {rest : List Oper} {o : Oper} {a : Act} {Q : Exit → Act → World → Prop} {b : Nat} {l : List Feat}
    (hg : o.guard = none) (m x : Operand) (hop : o.op = Op.lookup 85 m x true) (hm : a.eval m = .map (some b)) (hk : KM w b l) (nm : ByteArray) (hx : a.eval x = .string nm) (hs : nm.size ≤ 1000000) (r : Option Feat) (hr : findN l nm = r)
    (hK : wpList Tryz.prog ops Q rest (a.put o.dst (.tuple #[.agg #[.string (r.getD fD).name, .int .i64 (r.getD fD).kind, .int .i64 (r.getD fD).n, .string (r.getD fD).text], .bool r.isSome])) w) :
    wpList Tryz.prog ops Q (o :: rest) a w := by
  refine wpList_plain hg fun K' hK' => ?_
  subst hr
  have hrun := hk.look nm hs
  unfold ftAgg at hrun
  unfold Oper.wp
  simp [execOp, hop, hm, hx, hrun, Result.andThen]
  exact hK' _ _ hK
theorem wpList_putF {w : World} {ops : Array Oper} {rest : List Oper} {o : Oper} {a : Act} {Q : Exit → Act → World → Prop} {b : Nat} {l : List Feat}
    (hg : o.guard = none) (m x v : Operand) (hop : o.op = Op.mapUpdate 85 m x v) (hm : a.eval m = .map (some b)) (hk : KM w b l) (f : Feat) (hx : a.eval x = .string f.name) (hv : a.eval v = .agg #[.string f.name, .int .i64 f.kind, .int .i64 f.n, .string f.text])
    (hs : f.name.size ≤ 1000000) (hl : l.length ≤ 1000000) (hno : findN l f.name = none)
    (hK : ∀ w', KM w' b (l ++ [f]) → w.grownBy w' (some b) → wpList Tryz.prog ops Q rest (a.put o.dst undef) w') :
    wpList Tryz.prog ops Q (o :: rest) a w := by
  refine wpList_plain hg fun K' hK' => ?_
  obtain ⟨w', hrun, r1, r2⟩ := hk.put f hs hl hno
  unfold ftAgg at hrun
  unfold Oper.wp
  simp [execOp, hop, hm, hx, hv, hrun, Result.andThen]
  exact hK' _ _ (hK w' r1 r2)
theorem nameB_size {s : ByteArray} (h : nameB s = true) : s.size ≤ 16 := by
  unfold nameB at h
  simp only [Bool.and_eq_true, decide_eq_true_eq] at h
  exact h.1.1.2
set_option maxRecDepth 8000 in
set_option maxHeartbeats 4000000 in
theorem names_any (w : World) (v : Value) (l : List Feat) (hF : Feats w v l) : Calls Tryz.prog 68 #[v] w (NamesPost l w) := by
  obtain ⟨p, c, rfl⟩ := hF.form
  have hlen := hF.1
  replace hF := Lib.hid hF
  have hmm := @run_makeMap Tryz.prog
  go_enter Tryz.func68, Tryz.ntmps68
  go_wp2_with fail
  clear hmm
  go_loopw [12] (fun i wr => ∃ k : Nat, k ≤ l.length ∧ i = .int .i64 k ∧ namesE [] l = namesE (l.take k) (l.drop k) ∧ KM wr w.heap.size (l.take k) ∧ Ext w wr) (fun i _ => l.length - (intOf i).toNat)
  case atStart => exact ⟨0, Nat.zero_le _, rfl, rfl, KM.made w, (by repeat (first | with_reducible exact Ext.refl _ | with_reducible exact hE0 | with_reducible exact hE | with_reducible refine Ext.alloc ?_ _ | with_reducible refine Ext.drewN ?_ _ | with_reducible refine Ext.drew ?_ | ((with_reducible refine Ext.setCell ?_ ?side _); (case side => first | exact Nat.le_refl _ | (simp; done) | (simp; omega)))))⟩
  case round =>
    obtain ⟨k, hk, rfl, hN, hM, hE⟩ := hrel
    replace hN := Lib.hid hN
    replace hM := Lib.hid hM
    by_cases hlt : k < l.length
    · obtain ⟨b, off, rfl, hat⟩ := hF.out.at (by omega)
      obtain ⟨c0, c1, c2, c3⟩ := hat k hlt
      have hst := Lib.hid (names_step l k hlt)
      have hsn := Lib.hid (take_snocD l fD k hlt)
      have hlk : (l.take k).length ≤ 1000000 := by rw [List.length_take]; omega
      replace hlk := Lib.hid hlk
      clear hat
      generalize hf : l.getD k fD = f at *
      clear hf
      replace c0 := hE.get c0
      replace c1 := hE.get c1
      replace c2 := hE.get c2
      replace c3 := hE.get c3
      go_wp2_with fail
      refine (isName_any f.name _).mono ?_
      rintro e w1 ⟨rfl, rfl⟩
      clear c0 c1 c2 c3
      cases hnm : nameB f.name with
      | false =>
        have hR := Lib.hid (show namesE [] l = 5 by rw [hN.out, hst.out]; simp [featE, hnm])
        go_wp2
        go_ret2
        exact ⟨(by repeat (first | with_reducible exact Ext.refl _ | with_reducible exact hE0 | with_reducible exact hE | with_reducible refine Ext.alloc ?_ _ | with_reducible refine Ext.drewN ?_ _ | with_reducible refine Ext.drew ?_ | ((with_reducible refine Ext.setCell ?_ ?side _); (case side => first | exact Nat.le_refl _ | (simp; done) | (simp; omega))))), Or.inr ⟨by rw [hR.out]; decide, by rw [hR.out]; rfl⟩⟩
      | true =>
        have hsz := nameB_size hnm
        by_cases hfe : featE f = 0
        · have hk4 : f.kind = 2 ∨ (f.kind = 1 ∧ nbrB f.n = true) ∨ (f.kind = 3 ∧ f.n = 0) ∨ (f.kind = 3 ∧ f.n = 1) := by
            unfold featE at hfe
            rw [if_neg (by simp [hnm])] at hfe
            split at hfe
            · rename_i h; rcases h with h | h | ⟨h, h2 | h2⟩ <;> simp [*]
            · cases hfe
          replace hfe := Lib.hid hfe
          rcases hk4 with h | h | h | h
          · have g2 : (f.kind == 2) = true := by simp [h]
            clear h
            cases hfd : findN (l.take k) f.name with
            | some g =>
              have hR := Lib.hid (show namesE [] l = 7 by rw [hN.out, hst.out, hfe.out, hfd]; simp)
              replace hfd := Lib.hid hfd
              go_wp2_with (at_lookup; refine wpList_lookF rfl _ _ rfl rfl (hM.out.ext ((Ext.refl _).alloc _)) f.name rfl (by omega) (some g) hfd.out ?_)
              go_ret2
              exact ⟨(by repeat (first | with_reducible exact Ext.refl _ | with_reducible exact hE0 | with_reducible exact hE | with_reducible refine Ext.alloc ?_ _ | with_reducible refine Ext.drewN ?_ _ | with_reducible refine Ext.drew ?_ | ((with_reducible refine Ext.setCell ?_ ?side _); (case side => first | exact Nat.le_refl _ | (simp; done) | (simp; omega))))), Or.inr ⟨by rw [hR.out]; decide, by rw [hR.out]; rfl⟩⟩
            | none =>
              have hR := Lib.hid (show namesE [] l = namesE (l.take (k + 1)) (l.drop (k + 1)) by rw [hN.out, hst.out, hfe.out, hfd]; simp)
              replace hfd := Lib.hid hfd
              go_wp2_with (first | (at_lookup; refine wpList_lookF rfl _ _ rfl rfl (hM.out.ext ((Ext.refl _).alloc _)) f.name rfl (by omega) none hfd.out ?_) | (at_mapUpdate; refine wpList_putF rfl _ _ _ rfl rfl (hM.out.ext (((Ext.refl _).alloc _).alloc _)) f rfl rfl (by omega) hlk.out hfd.out ?_; intro w1 hM1 hg1))
              have hE2 : Ext w w1 := Ext.grown (by repeat (first | with_reducible exact Ext.refl _ | with_reducible exact hE0 | with_reducible exact hE | with_reducible refine Ext.alloc ?_ _ | with_reducible refine Ext.drewN ?_ _ | with_reducible refine Ext.drew ?_ | ((with_reducible refine Ext.setCell ?_ ?side _); (case side => first | exact Nat.le_refl _ | (simp; done) | (simp; omega))))) hg1 (Nat.le_refl _)
              clear hg1
              try go_wp2
              go_roundw
              case rel => exact ⟨k + 1, by omega, by go_num, hR.out, by rw [hsn.out]; exact hM1, hE2⟩
              case measure => simp [intOf]; omega
          · have g2 : (f.kind == 2) = false := by simp [h.1]
            have g1 : (f.kind == 1) = true := by simp [h.1]
            have hnb := h.2
            clear h
            cases hfd : findN (l.take k) f.name with
            | some g =>
              have hR := Lib.hid (show namesE [] l = 7 by rw [hN.out, hst.out, hfe.out, hfd]; simp)
              replace hfd := Lib.hid hfd
              go_wp2_with fail
              refine (isNumber_any f.n _).mono ?_
              rintro e w1 ⟨rfl, rfl⟩
              rw [hnb]
              go_wp2_with (at_lookup; refine wpList_lookF rfl _ _ rfl rfl (hM.out.ext ((Ext.refl _).alloc _)) f.name rfl (by omega) (some g) hfd.out ?_)
              go_ret2
              exact ⟨(by repeat (first | with_reducible exact Ext.refl _ | with_reducible exact hE0 | with_reducible exact hE | with_reducible refine Ext.alloc ?_ _ | with_reducible refine Ext.drewN ?_ _ | with_reducible refine Ext.drew ?_ | ((with_reducible refine Ext.setCell ?_ ?side _); (case side => first | exact Nat.le_refl _ | (simp; done) | (simp; omega))))), Or.inr ⟨by rw [hR.out]; decide, by rw [hR.out]; rfl⟩⟩
            | none =>
              have hR := Lib.hid (show namesE [] l = namesE (l.take (k + 1)) (l.drop (k + 1)) by rw [hN.out, hst.out, hfe.out, hfd]; simp)
              replace hfd := Lib.hid hfd
              go_wp2_with fail
              refine (isNumber_any f.n _).mono ?_
              rintro e w1 ⟨rfl, rfl⟩
              rw [hnb]
              go_wp2_with (first | (at_lookup; refine wpList_lookF rfl _ _ rfl rfl (hM.out.ext ((Ext.refl _).alloc _)) f.name rfl (by omega) none hfd.out ?_) | (at_mapUpdate; refine wpList_putF rfl _ _ _ rfl rfl (hM.out.ext (((Ext.refl _).alloc _).alloc _)) f rfl rfl (by omega) hlk.out hfd.out ?_; intro w1 hM1 hg1))
              have hE2 : Ext w w1 := Ext.grown (by repeat (first | with_reducible exact Ext.refl _ | with_reducible exact hE0 | with_reducible exact hE | with_reducible refine Ext.alloc ?_ _ | with_reducible refine Ext.drewN ?_ _ | with_reducible refine Ext.drew ?_ | ((with_reducible refine Ext.setCell ?_ ?side _); (case side => first | exact Nat.le_refl _ | (simp; done) | (simp; omega))))) hg1 (Nat.le_refl _)
              clear hg1
              try go_wp2
              go_roundw
              case rel => exact ⟨k + 1, by omega, by go_num, hR.out, by rw [hsn.out]; exact hM1, hE2⟩
              case measure => simp [intOf]; omega
          · have g2 : (f.kind == 2) = false := by simp [h.1]
            have g1 : (f.kind == 1) = false := by simp [h.1]
            have g3 : (f.kind == 3) = true := by simp [h.1]
            have g0 : (f.n == 0) = true := by simp [h.2]
            clear h
            cases hfd : findN (l.take k) f.name with
            | some g =>
              have hR := Lib.hid (show namesE [] l = 7 by rw [hN.out, hst.out, hfe.out, hfd]; simp)
              replace hfd := Lib.hid hfd
              go_wp2_with (at_lookup; refine wpList_lookF rfl _ _ rfl rfl (hM.out.ext ((Ext.refl _).alloc _)) f.name rfl (by omega) (some g) hfd.out ?_)
              go_ret2
              exact ⟨(by repeat (first | with_reducible exact Ext.refl _ | with_reducible exact hE0 | with_reducible exact hE | with_reducible refine Ext.alloc ?_ _ | with_reducible refine Ext.drewN ?_ _ | with_reducible refine Ext.drew ?_ | ((with_reducible refine Ext.setCell ?_ ?side _); (case side => first | exact Nat.le_refl _ | (simp; done) | (simp; omega))))), Or.inr ⟨by rw [hR.out]; decide, by rw [hR.out]; rfl⟩⟩
            | none =>
              have hR := Lib.hid (show namesE [] l = namesE (l.take (k + 1)) (l.drop (k + 1)) by rw [hN.out, hst.out, hfe.out, hfd]; simp)
              replace hfd := Lib.hid hfd
              go_wp2_with (first | (at_lookup; refine wpList_lookF rfl _ _ rfl rfl (hM.out.ext ((Ext.refl _).alloc _)) f.name rfl (by omega) none hfd.out ?_) | (at_mapUpdate; refine wpList_putF rfl _ _ _ rfl rfl (hM.out.ext (((Ext.refl _).alloc _).alloc _)) f rfl rfl (by omega) hlk.out hfd.out ?_; intro w1 hM1 hg1))
              have hE2 : Ext w w1 := Ext.grown (by repeat (first | with_reducible exact Ext.refl _ | with_reducible exact hE0 | with_reducible exact hE | with_reducible refine Ext.alloc ?_ _ | with_reducible refine Ext.drewN ?_ _ | with_reducible refine Ext.drew ?_ | ((with_reducible refine Ext.setCell ?_ ?side _); (case side => first | exact Nat.le_refl _ | (simp; done) | (simp; omega))))) hg1 (Nat.le_refl _)
              clear hg1
              try go_wp2
              go_roundw
              case rel => exact ⟨k + 1, by omega, by go_num, hR.out, by rw [hsn.out]; exact hM1, hE2⟩
              case measure => simp [intOf]; omega
          · have g2 : (f.kind == 2) = false := by simp [h.1]
            have g1 : (f.kind == 1) = false := by simp [h.1]
            have g3 : (f.kind == 3) = true := by simp [h.1]
            have g0 : (f.n == 0) = false := by simp [h.2]
            have g01 : (f.n == 1) = true := by simp [h.2]
            clear h
            cases hfd : findN (l.take k) f.name with
            | some g =>
              have hR := Lib.hid (show namesE [] l = 7 by rw [hN.out, hst.out, hfe.out, hfd]; simp)
              replace hfd := Lib.hid hfd
              go_wp2_with (at_lookup; refine wpList_lookF rfl _ _ rfl rfl (hM.out.ext ((Ext.refl _).alloc _)) f.name rfl (by omega) (some g) hfd.out ?_)
              go_ret2
              exact ⟨(by repeat (first | with_reducible exact Ext.refl _ | with_reducible exact hE0 | with_reducible exact hE | with_reducible refine Ext.alloc ?_ _ | with_reducible refine Ext.drewN ?_ _ | with_reducible refine Ext.drew ?_ | ((with_reducible refine Ext.setCell ?_ ?side _); (case side => first | exact Nat.le_refl _ | (simp; done) | (simp; omega))))), Or.inr ⟨by rw [hR.out]; decide, by rw [hR.out]; rfl⟩⟩
            | none =>
              have hR := Lib.hid (show namesE [] l = namesE (l.take (k + 1)) (l.drop (k + 1)) by rw [hN.out, hst.out, hfe.out, hfd]; simp)
              replace hfd := Lib.hid hfd
              go_wp2_with (first | (at_lookup; refine wpList_lookF rfl _ _ rfl rfl (hM.out.ext ((Ext.refl _).alloc _)) f.name rfl (by omega) none hfd.out ?_) | (at_mapUpdate; refine wpList_putF rfl _ _ _ rfl rfl (hM.out.ext (((Ext.refl _).alloc _).alloc _)) f rfl rfl (by omega) hlk.out hfd.out ?_; intro w1 hM1 hg1))
              have hE2 : Ext w w1 := Ext.grown (by repeat (first | with_reducible exact Ext.refl _ | with_reducible exact hE0 | with_reducible exact hE | with_reducible refine Ext.alloc ?_ _ | with_reducible refine Ext.drewN ?_ _ | with_reducible refine Ext.drew ?_ | ((with_reducible refine Ext.setCell ?_ ?side _); (case side => first | exact Nat.le_refl _ | (simp; done) | (simp; omega))))) hg1 (Nat.le_refl _)
              clear hg1
              try go_wp2
              go_roundw
              case rel => exact ⟨k + 1, by omega, by go_num, hR.out, by rw [hsn.out]; exact hM1, hE2⟩
              case measure => simp [intOf]; omega
        · have hF4 : featE f = 4 := by
            unfold featE at hfe ⊢
            rw [if_neg (by simp [hnm])] at hfe ⊢
            split at hfe
            · exact absurd rfl hfe
            · rename_i h; rw [if_neg h]
          have hR := Lib.hid (show namesE [] l = 4 by rw [hN.out, hst.out, hF4]; rfl)
          have hb : ¬ f.kind = 2 ∧ (f.kind = 1 → nbrB f.n = false) ∧ (f.kind = 3 → ¬ f.n = 0 ∧ ¬ f.n = 1) := by
            unfold featE at hfe
            rw [if_neg (by simp [hnm])] at hfe
            split at hfe
            · exact absurd rfl hfe
            · rename_i h; refine ⟨fun e => h (Or.inl e), fun e => ?_, fun e => ⟨fun e2 => h (Or.inr (Or.inr ⟨e, Or.inl e2⟩)), fun e2 => h (Or.inr (Or.inr ⟨e, Or.inr e2⟩))⟩⟩
              cases hq : nbrB f.n with
              | false => rfl
              | true => exact absurd (Or.inr (Or.inl ⟨e, hq⟩)) h
          clear hfe hF4
          obtain ⟨h2, h1, h3⟩ := hb
          have g2 : (f.kind == 2) = false := by simp [h2]
          by_cases k1 : f.kind = 1
          · have hnb := h1 k1
            have g1 : (f.kind == 1) = true := by simp [k1]
            have g3 : (f.kind == 3) = false := by simp [k1]
            clear h1 h2 h3 k1
            go_wp2_with fail
            refine (isNumber_any f.n _).mono ?_
            rintro e w1 ⟨rfl, rfl⟩
            rw [hnb]
            go_wp2
            go_ret2
            exact ⟨(by repeat (first | with_reducible exact Ext.refl _ | with_reducible exact hE0 | with_reducible exact hE | with_reducible refine Ext.alloc ?_ _ | with_reducible refine Ext.drewN ?_ _ | with_reducible refine Ext.drew ?_ | ((with_reducible refine Ext.setCell ?_ ?side _); (case side => first | exact Nat.le_refl _ | (simp; done) | (simp; omega))))), Or.inr ⟨by rw [hR.out]; decide, by rw [hR.out]; rfl⟩⟩
          · have g1 : (f.kind == 1) = false := by simp [k1]
            by_cases k3 : f.kind = 3
            · have g3 : (f.kind == 3) = true := by simp [k3]
              have g4 : (f.n == 0) = false := by simp [(h3 k3).1]
              have g5 : (f.n == 1) = false := by simp [(h3 k3).2]
              clear h1 h2 h3 k1 k3
              go_wp2
              go_ret2
              exact ⟨(by repeat (first | with_reducible exact Ext.refl _ | with_reducible exact hE0 | with_reducible exact hE | with_reducible refine Ext.alloc ?_ _ | with_reducible refine Ext.drewN ?_ _ | with_reducible refine Ext.drew ?_ | ((with_reducible refine Ext.setCell ?_ ?side _); (case side => first | exact Nat.le_refl _ | (simp; done) | (simp; omega))))), Or.inr ⟨by rw [hR.out]; decide, by rw [hR.out]; rfl⟩⟩
            · have g3 : (f.kind == 3) = false := by simp [k3]
              clear h1 h2 h3 k1 k3
              go_wp2
              go_ret2
              exact ⟨(by repeat (first | with_reducible exact Ext.refl _ | with_reducible exact hE0 | with_reducible exact hE | with_reducible refine Ext.alloc ?_ _ | with_reducible refine Ext.drewN ?_ _ | with_reducible refine Ext.drew ?_ | ((with_reducible refine Ext.setCell ?_ ?side _); (case side => first | exact Nat.le_refl _ | (simp; done) | (simp; omega))))), Or.inr ⟨by rw [hR.out]; decide, by rw [hR.out]; rfl⟩⟩
    · have hkk : l.take k = l := List.take_of_length_le (by omega)
      have hdd : l.drop k = [] := List.drop_eq_nil_of_le (by omega)
      rw [hkk, hdd] at hN
      rw [hkk] at hM
      clear hkk hdd
      go_wp2
      go_ret2
      exact ⟨hE, Or.inl ⟨hN.out, _, rfl, Nat.le_refl _, hM.out⟩⟩
end Go.Proofs.YtpdpjindmghfpaaGreatDoor
