/- The map of features by name, and contracts about it. Contract of names (a walk). Features in memory, however many. Contract of all (a walk); facts on types. Contract of typeOf (walks; printed by gen/ty.py). -/
import Derived.Test.YtangdoidkcelfaaGreatDoorEb
import Derived.Maps.OwnSet
import Derived.Maps.Keyed
import Derived.Deep.RegionLaw
import Derived.StringKeys
import Derived.Carry
namespace Go.Proofs.YtangdoidkcelfaaGreatDoor
open Go.RowKit
def rdF (v : Value) : Option (DataW Value × List MemPlace) := some (.held v, [])
def kyB (s : ByteArray) : Lit := .string s.data.toList
/-- Block b is a map of the features by their names. -/
def KM (w : World) (b : Nat) (l : List Feat) : Prop :=
 ∃ n D, w.ownsMap Tryz.prog 9 rdF b n D ∧ n ≤ l.length ∧ (∀ nm : ByteArray, Maps.has D (kyB nm) = (findN l nm).isSome) ∧ ∀ nm : ByteArray, D.atKey (kyB nm) (.held (ftAgg fD)) = .held (ftAgg ((findN l nm).getD fD))
theorem kyB_inj {a b : ByteArray} (h : kyB a = kyB b) : a = b := by
 unfold kyB at h
 injection h with h
 exact Go.WideShapes.bytes_inj h
theorem zeroF (w : World) : (zeroValue 62).run Tryz.prog w = .ok (ftAgg fD) w := by
 kernel_rfl
theorem key_is (s : ByteArray) (hs : s.size ≤ 1000000) : keyOf Tryz.prog 9 (.string s) = some (kyB s) := Go.WideMaps.keyOf_string_mk Tryz.underlying9 (by unfold maxLen; omega)
theorem lawS : Maps.Keyed Tryz.prog 9 := Maps.string_keyed Tryz.underlying9
theorem KM.made (w : World) : KM (w.alloc (.map #[] 0)) w.heap.size [] :=
 ⟨0, .map [], World.ownsMap_made w _ _ _, Nat.le_refl _, fun _ => rfl, fun _ => rfl⟩
theorem KM.lt {w : World} {b : Nat} {l : List Feat} (h : KM w b l) : b < w.heap.size := by
 obtain ⟨n, D, ho, _⟩ := h
 exact ho.lt
theorem KM.ext {w w' : World} {b : Nat} {l : List Feat} (h : KM w b l) (k : Ext w w') : KM w' b l := by
 have hlt := h.lt
 obtain ⟨n, D, ⟨es, clock, hb, F, hs, hD⟩, h2, h3, h4⟩ := h
 exact ⟨n, D, ⟨es, clock, (k.block b hlt).trans hb, F, hs, hD⟩, h2, h3, h4⟩
theorem KM.look {w : World} {b : Nat} {l : List Feat} (h : KM w b l) (nm : ByteArray) (hs : nm.size ≤ 1000000) : (Instr.lookup 126 (.map (some b)) (.string nm) true).run Tryz.prog w = .ok (.tuple #[ftAgg ((findN l nm).getD fD), .bool (findN l nm).isSome]) w := by
 obtain ⟨n, D, ho, hn, hh, ha⟩ := h
 obtain ⟨v, ps, hrun, hv⟩ := ho.look_ok lawS Tryz.underlying126 (zeroF w) (zd := .held (ftAgg fD)) (zp := []) rfl (key_is nm hs)
 rw [ha nm] at hv
 simp only [rdF, Option.some.injEq, Prod.mk.injEq, DataW.held.injEq] at hv
 rw [hrun, hh nm, hv.1]
theorem KM.look1 {w : World} {b : Nat} {l : List Feat} (h : KM w b l) (nm : ByteArray) (hs : nm.size ≤ 1000000) : (Instr.lookup 126 (.map (some b)) (.string nm) false).run Tryz.prog w = .ok (ftAgg ((findN l nm).getD fD)) w := by
 obtain ⟨n, D, ho, hn, hh, ha⟩ := h
 obtain ⟨v, ps, hrun, hv⟩ := ho.lookup lawS Tryz.underlying126 (zeroF w) (zd := .held (ftAgg fD)) (zp := []) rfl (key_is nm hs)
 rw [ha nm] at hv
 simp only [rdF, Option.some.injEq, Prod.mk.injEq, DataW.held.injEq] at hv
 rw [hrun, hv.1]
theorem findN_snoc (l : List Feat) (f : Feat) (nm : ByteArray) : findN (l ++ [f]) nm = (findN l nm).or (if f.name = nm then some f else none) := by
 unfold findN
 rw [List.find?_append]
 congr 1
 by_cases h : f.name = nm <;> simp [h]
theorem KM.put {w : World} {b : Nat} {l : List Feat} (h : KM w b l) (f : Feat) (hs : f.name.size ≤ 1000000) (hl : l.length ≤ 1000000) (hno : findN l f.name = none) : ∃ w', (Instr.mapUpdate 126 (.map (some b)) (.string f.name) (ftAgg f)).run Tryz.prog w = .ok () w' ∧ KM w' b (l ++ [f]) ∧ w.grownBy w' (some b) := by
 obtain ⟨n, D, ho, hn, hh, ha⟩ := h
 have ht := (ho.tidy lawS)
 obtain ⟨w', hrun, ho', hg⟩ := ho.update lawS Tryz.underlying126 (by unfold maxLen; omega) (key_is f.name hs) (val := ftAgg f) (d := .held (ftAgg f)) (ps := []) rfl
 refine ⟨w', hrun, ⟨n + 1, _, ho', by simp; omega, ?_, ?_⟩, hg⟩
 · intro nm
   rw [findN_snoc]
   by_cases e : f.name = nm
   · subst e
     rw [Maps.has_put_same ho.isMap (lawS.key (key_is f.name hs)), hno]
     simp
   · rw [Maps.has_put_other (fun he => e (kyB_inj he).symm), hh nm, if_neg e]
     simp
 · intro nm
   rw [findN_snoc]
   by_cases e : f.name = nm
   · subst e
     rw [Maps.atKey_put_same ho.isMap (lawS.key (key_is f.name hs)), hno]
     simp
   · rw [Maps.atKey_put_other (fun he => e (kyB_inj he).symm), ha nm, if_neg e]
     simp
theorem Ext.grown {a w w' : World} {b : Nat} (h : Ext a w) (hg : w.grownBy w' (some b)) (hb : a.heap.size ≤ b) : Ext a w' := by
 refine ⟨?_, ?_, ?_, ?_, ?_⟩
 · rw [hg.os, h.os]
 · rw [hg.tape, h.tape]
 · rw [hg.output, h.output]
 · exact Nat.le_trans h.size hg.size
 · intro i hi
   rw [hg.block i (Nat.lt_of_lt_of_le hi h.size) (fun e => by injection e with e; omega), h.block i hi]
end Go.Proofs.YtangdoidkcelfaaGreatDoor
namespace Go.Proofs.YtangdoidkcelfaaGreatDoor
open Go.RowKit
/-- The slice v reads as the features. -/
def Feats (w : World) (v : Value) (l : List Feat) : Prop :=
 l.length ≤ 1000000 ∧ ((∃ p c, v = .slice p 0 c ∧ l = []) ∨ ∃ b off c, v = .slice (some ⟨b, off, none⟩) l.length c ∧ ∀ i, i < l.length → (w.cell? ⟨b, off + i * 4, none⟩ = some (.string (l.getD i fD).name) ∧ w.cell? ⟨b, off + i * 4 + 1, none⟩ = some (.int .i64 (l.getD i fD).kind) ∧ w.cell? ⟨b, off + i * 4 + 1 + 1, none⟩ = some (.int .i64 (l.getD i fD).n) ∧ w.cell? ⟨b, off + i * 4 + 1 + 1 + 1, none⟩ = some (.string (l.getD i fD).text)))
theorem Feats.ext {w w' : World} {v : Value} {l : List Feat} (h : Feats w v l) (k : Ext w w') : Feats w' v l := by
 refine ⟨h.1, ?_⟩
 rcases h.2 with h | ⟨b, off, c, hv, hc⟩
 · exact Or.inl h
 · exact Or.inr ⟨b, off, c, hv, fun i hi => ⟨k.get (hc i hi).1, k.get (hc i hi).2.1, k.get (hc i hi).2.2.1, k.get (hc i hi).2.2.2⟩⟩
theorem Feats.form {w : World} {v : Value} {l : List Feat} (h : Feats w v l) : ∃ p c, v = .slice p l.length c := by
 rcases h.2 with ⟨p, c, hv, hl⟩ | ⟨b, off, c, hv, hc⟩
 · exact ⟨p, c, by rw [hv, hl]; rfl⟩
 · exact ⟨_, _, hv⟩
theorem Feats.at {w : World} {p : Option Addr} {c : Nat} {l : List Feat} (h : Feats w (.slice p l.length c) l) (h0 : 0 < l.length) : ∃ b off, p = some ⟨b, off, none⟩ ∧ ∀ i, i < l.length → (w.cell? ⟨b, off + i * 4, none⟩ = some (.string (l.getD i fD).name) ∧ w.cell? ⟨b, off + i * 4 + 1, none⟩ = some (.int .i64 (l.getD i fD).kind) ∧ w.cell? ⟨b, off + i * 4 + 1 + 1, none⟩ = some (.int .i64 (l.getD i fD).n) ∧ w.cell? ⟨b, off + i * 4 + 1 + 1 + 1, none⟩ = some (.string (l.getD i fD).text)) := by
 rcases h.2 with ⟨p', c', hv, hl⟩ | ⟨b, off, c', hv, hc⟩
 · rw [hl] at h0; cases h0
 · injection hv with h1 h2 h3
   exact ⟨b, off, h1, hc⟩
def NamesPost (l : List Feat) (w : World) (e : Ending) (w' : World) : Prop :=
 Ext w w' ∧ ((namesE [] l = 0 ∧ ∃ b, e = .returned (.tuple #[.map (some b), .int .i64 0]) ∧ w.heap.size ≤ b ∧ KM w' b l) ∨ (namesE [] l ≠ 0 ∧ e = .returned (.tuple #[.map none, .int .i64 (namesE [] l)])))
theorem names_step (l : List Feat) (k : Nat) (h : k < l.length) : namesE (l.take k) (l.drop k) = if featE (l.getD k fD) ≠ 0 then featE (l.getD k fD) else if (findN (l.take k) (l.getD k fD).name).isSome then 7 else namesE (l.take (k + 1)) (l.drop (k + 1)) := by
 have hg : l.getD k fD = l[k] := by rw [List.getD_eq_getElem?_getD, List.getElem?_eq_getElem h, Option.getD_some]
 rw [take_snocD l fD k h, hg, List.drop_eq_getElem_cons h, namesE]
theorem wpList_lookF {w : World} {ops : Array Oper} {rest : List Oper} {o : Oper} {a : Act} {Q : Exit → Act → World → Prop} {b : Nat} {l : List Feat}
 (hg : o.guard = none) (m x : Operand) (hop : o.op = Op.lookup 126 m x true) (hm : a.eval m = .map (some b)) (hk : KM w b l) (nm : ByteArray) (hx : a.eval x = .string nm) (hs : nm.size ≤ 1000000) (r : Option Feat) (hr : findN l nm = r)
 (hK : wpList Tryz.prog ops Q rest (a.put o.dst (.tuple #[.agg #[.string (r.getD fD).name, .int .i64 (r.getD fD).kind, .int .i64 (r.getD fD).n, .string (r.getD fD).text], .bool r.isSome])) w) :
 wpList Tryz.prog ops Q (o :: rest) a w := by
 refine wpList_plain hg fun K' hK' => ?_
 subst hr
 have hrun := hk.look nm hs
 unfold ftAgg at hrun
 unfold Oper.wp
 simp [execOp, hop, hm, hx, hrun, Result.andThen]
 exact hK' _ _ hK
theorem wpList_putF {w : World} {ops : Array Oper} {rest : List Oper} {o : Oper} {a : Act} {Q : Exit → Act → World → Prop} {b : Nat} {l : List Feat}
 (hg : o.guard = none) (m x v : Operand) (hop : o.op = Op.mapUpdate 126 m x v) (hm : a.eval m = .map (some b)) (hk : KM w b l) (f : Feat) (hx : a.eval x = .string f.name) (hv : a.eval v = .agg #[.string f.name, .int .i64 f.kind, .int .i64 f.n, .string f.text])
 (hs : f.name.size ≤ 1000000) (hl : l.length ≤ 1000000) (hno : findN l f.name = none)
 (hK : ∀ w', KM w' b (l ++ [f]) → w.grownBy w' (some b) → wpList Tryz.prog ops Q rest (a.put o.dst undef) w') :
 wpList Tryz.prog ops Q (o :: rest) a w := by
 refine wpList_plain hg fun K' hK' => ?_
 obtain ⟨w', hrun, r1, r2⟩ := hk.put f hs hl hno
 unfold ftAgg at hrun
 unfold Oper.wp
 simp [execOp, hop, hm, hx, hv, hrun, Result.andThen]
 exact hK' _ _ (hK w' r1 r2)
theorem nameB_size {s : ByteArray} (h : nameB s = true) : s.size ≤ 16 := by
 unfold nameB at h
 simp only [Bool.and_eq_true, decide_eq_true_eq] at h
 exact h.1.1.2
set_option maxRecDepth 8000 in
set_option maxHeartbeats 4000000 in
theorem names_any (w : World) (v : Value) (l : List Feat) (hF : Feats w v l) : Calls Tryz.prog 62 #[v] w (NamesPost l w) := by
 obtain ⟨p, c, rfl⟩ := hF.form
 have hlen := hF.1
 replace hF := Lib.hid hF
 have hmm := @run_makeMap Tryz.prog
 go_enter Tryz.func62, Tryz.ntmps62
 go_wp2_with fail
 clear hmm
 go_loopw [12] (fun i wr => ∃ k : Nat, k ≤ l.length ∧ i = .int .i64 k ∧ namesE [] l = namesE (l.take k) (l.drop k) ∧ KM wr w.heap.size (l.take k) ∧ Ext w wr) (fun i _ => l.length - (intOf i).toNat)
 case atStart => exact ⟨0, Nat.zero_le _, rfl, rfl, KM.made w, xt⟩
 case round =>
  obtain ⟨k, hk, rfl, hN, hM, hE⟩ := hrel
  replace hN := Lib.hid hN
  replace hM := Lib.hid hM
  by_cases hlt : k < l.length
  · obtain ⟨b, off, rfl, hat⟩ := hF.out.at (by omega)
    obtain ⟨c0, c1, c2, c3⟩ := hat k hlt
    have hst := Lib.hid (names_step l k hlt)
    have hsn := Lib.hid (take_snocD l fD k hlt)
    have hlk : (l.take k).length ≤ 1000000 := by rw [List.length_take]; omega
    replace hlk := Lib.hid hlk
    clear hat
    generalize hf : l.getD k fD = f at *
    clear hf
    replace c0 := hE.get c0
    replace c1 := hE.get c1
    replace c2 := hE.get c2
    replace c3 := hE.get c3
    go_wp2_with fail
    refine (isName_any f.name _).mono ?_
    rintro e w1 ⟨rfl, rfl⟩
    clear c0 c1 c2 c3
    cases hnm : nameB f.name with
    | false =>
     have hR := Lib.hid (show namesE [] l = 5 by rw [hN.out, hst.out]; simp [featE, hnm])
     go_wp2
     go_ret2
     exact ⟨xt, Or.inr ⟨by rw [hR.out]; decide, by rw [hR.out]; rfl⟩⟩
    | true =>
     have hsz := nameB_size hnm
     by_cases hfe : featE f = 0
     · have hk4 : f.kind = 2 ∨ (f.kind = 1 ∧ nbrB f.n = true) ∨ (f.kind = 3 ∧ f.n = 0) ∨ (f.kind = 3 ∧ f.n = 1) := by
        unfold featE at hfe
        rw [if_neg (by simp [hnm])] at hfe
        split at hfe
        · rename_i h; rcases h with h | h | ⟨h, h2 | h2⟩ <;> simp [*]
        · cases hfe
       replace hfe := Lib.hid hfe
       rcases hk4 with h | h | h | h
       · have g2 : (f.kind == 2) = true := by simp [h]
         clear h
         cases hfd : findN (l.take k) f.name with
         | some g =>
          have hR := Lib.hid (show namesE [] l = 7 by rw [hN.out, hst.out, hfe.out, hfd]; simp)
          replace hfd := Lib.hid hfd
          go_wp2_with (at_lookup; refine wpList_lookF rfl _ _ rfl rfl (hM.out.ext ((Ext.refl _).alloc _)) f.name rfl (by omega) (some g) hfd.out ?_)
          go_ret2
          exact ⟨xt, Or.inr ⟨by rw [hR.out]; decide, by rw [hR.out]; rfl⟩⟩
         | none =>
          have hR := Lib.hid (show namesE [] l = namesE (l.take (k + 1)) (l.drop (k + 1)) by rw [hN.out, hst.out, hfe.out, hfd]; simp)
          replace hfd := Lib.hid hfd
          go_wp2_with (first | (at_lookup; refine wpList_lookF rfl _ _ rfl rfl (hM.out.ext ((Ext.refl _).alloc _)) f.name rfl (by omega) none hfd.out ?_) | (at_mapUpdate; refine wpList_putF rfl _ _ _ rfl rfl (hM.out.ext (((Ext.refl _).alloc _).alloc _)) f rfl rfl (by omega) hlk.out hfd.out ?_; intro w1 hM1 hg1))
          have hE2 : Ext w w1 := Ext.grown xt hg1 (Nat.le_refl _)
          clear hg1
          try go_wp2
          go_roundw
          case rel => exact ⟨k + 1, by omega, by go_num, hR.out, by rw [hsn.out]; exact hM1, hE2⟩
          case measure => simp [intOf]; omega
       · have g2 : (f.kind == 2) = false := by simp [h.1]
         have g1 : (f.kind == 1) = true := by simp [h.1]
         have hnb := h.2
         clear h
         cases hfd : findN (l.take k) f.name with
         | some g =>
          have hR := Lib.hid (show namesE [] l = 7 by rw [hN.out, hst.out, hfe.out, hfd]; simp)
          replace hfd := Lib.hid hfd
          go_wp2_with fail
          refine (isNumber_any f.n _).mono ?_
          rintro e w1 ⟨rfl, rfl⟩
          rw [hnb]
          go_wp2_with (at_lookup; refine wpList_lookF rfl _ _ rfl rfl (hM.out.ext ((Ext.refl _).alloc _)) f.name rfl (by omega) (some g) hfd.out ?_)
          go_ret2
          exact ⟨xt, Or.inr ⟨by rw [hR.out]; decide, by rw [hR.out]; rfl⟩⟩
         | none =>
          have hR := Lib.hid (show namesE [] l = namesE (l.take (k + 1)) (l.drop (k + 1)) by rw [hN.out, hst.out, hfe.out, hfd]; simp)
          replace hfd := Lib.hid hfd
          go_wp2_with fail
          refine (isNumber_any f.n _).mono ?_
          rintro e w1 ⟨rfl, rfl⟩
          rw [hnb]
          go_wp2_with (first | (at_lookup; refine wpList_lookF rfl _ _ rfl rfl (hM.out.ext ((Ext.refl _).alloc _)) f.name rfl (by omega) none hfd.out ?_) | (at_mapUpdate; refine wpList_putF rfl _ _ _ rfl rfl (hM.out.ext (((Ext.refl _).alloc _).alloc _)) f rfl rfl (by omega) hlk.out hfd.out ?_; intro w1 hM1 hg1))
          have hE2 : Ext w w1 := Ext.grown xt hg1 (Nat.le_refl _)
          clear hg1
          try go_wp2
          go_roundw
          case rel => exact ⟨k + 1, by omega, by go_num, hR.out, by rw [hsn.out]; exact hM1, hE2⟩
          case measure => simp [intOf]; omega
       · have g2 : (f.kind == 2) = false := by simp [h.1]
         have g1 : (f.kind == 1) = false := by simp [h.1]
         have g3 : (f.kind == 3) = true := by simp [h.1]
         have g0 : (f.n == 0) = true := by simp [h.2]
         clear h
         cases hfd : findN (l.take k) f.name with
         | some g =>
          have hR := Lib.hid (show namesE [] l = 7 by rw [hN.out, hst.out, hfe.out, hfd]; simp)
          replace hfd := Lib.hid hfd
          go_wp2_with (at_lookup; refine wpList_lookF rfl _ _ rfl rfl (hM.out.ext ((Ext.refl _).alloc _)) f.name rfl (by omega) (some g) hfd.out ?_)
          go_ret2
          exact ⟨xt, Or.inr ⟨by rw [hR.out]; decide, by rw [hR.out]; rfl⟩⟩
         | none =>
          have hR := Lib.hid (show namesE [] l = namesE (l.take (k + 1)) (l.drop (k + 1)) by rw [hN.out, hst.out, hfe.out, hfd]; simp)
          replace hfd := Lib.hid hfd
          go_wp2_with (first | (at_lookup; refine wpList_lookF rfl _ _ rfl rfl (hM.out.ext ((Ext.refl _).alloc _)) f.name rfl (by omega) none hfd.out ?_) | (at_mapUpdate; refine wpList_putF rfl _ _ _ rfl rfl (hM.out.ext (((Ext.refl _).alloc _).alloc _)) f rfl rfl (by omega) hlk.out hfd.out ?_; intro w1 hM1 hg1))
          have hE2 : Ext w w1 := Ext.grown xt hg1 (Nat.le_refl _)
          clear hg1
          try go_wp2
          go_roundw
          case rel => exact ⟨k + 1, by omega, by go_num, hR.out, by rw [hsn.out]; exact hM1, hE2⟩
          case measure => simp [intOf]; omega
       · have g2 : (f.kind == 2) = false := by simp [h.1]
         have g1 : (f.kind == 1) = false := by simp [h.1]
         have g3 : (f.kind == 3) = true := by simp [h.1]
         have g0 : (f.n == 0) = false := by simp [h.2]
         have g01 : (f.n == 1) = true := by simp [h.2]
         clear h
         cases hfd : findN (l.take k) f.name with
         | some g =>
          have hR := Lib.hid (show namesE [] l = 7 by rw [hN.out, hst.out, hfe.out, hfd]; simp)
          replace hfd := Lib.hid hfd
          go_wp2_with (at_lookup; refine wpList_lookF rfl _ _ rfl rfl (hM.out.ext ((Ext.refl _).alloc _)) f.name rfl (by omega) (some g) hfd.out ?_)
          go_ret2
          exact ⟨xt, Or.inr ⟨by rw [hR.out]; decide, by rw [hR.out]; rfl⟩⟩
         | none =>
          have hR := Lib.hid (show namesE [] l = namesE (l.take (k + 1)) (l.drop (k + 1)) by rw [hN.out, hst.out, hfe.out, hfd]; simp)
          replace hfd := Lib.hid hfd
          go_wp2_with (first | (at_lookup; refine wpList_lookF rfl _ _ rfl rfl (hM.out.ext ((Ext.refl _).alloc _)) f.name rfl (by omega) none hfd.out ?_) | (at_mapUpdate; refine wpList_putF rfl _ _ _ rfl rfl (hM.out.ext (((Ext.refl _).alloc _).alloc _)) f rfl rfl (by omega) hlk.out hfd.out ?_; intro w1 hM1 hg1))
          have hE2 : Ext w w1 := Ext.grown xt hg1 (Nat.le_refl _)
          clear hg1
          try go_wp2
          go_roundw
          case rel => exact ⟨k + 1, by omega, by go_num, hR.out, by rw [hsn.out]; exact hM1, hE2⟩
          case measure => simp [intOf]; omega
     · have hF4 : featE f = 4 := by
        unfold featE at hfe ⊢
        rw [if_neg (by simp [hnm])] at hfe ⊢
        split at hfe
        · exact absurd rfl hfe
        · rename_i h; rw [if_neg h]
       have hR := Lib.hid (show namesE [] l = 4 by rw [hN.out, hst.out, hF4]; rfl)
       have hb : ¬ f.kind = 2 ∧ (f.kind = 1 → nbrB f.n = false) ∧ (f.kind = 3 → ¬ f.n = 0 ∧ ¬ f.n = 1) := by
        unfold featE at hfe
        rw [if_neg (by simp [hnm])] at hfe
        split at hfe
        · exact absurd rfl hfe
        · rename_i h; refine ⟨fun e => h (Or.inl e), fun e => ?_, fun e => ⟨fun e2 => h (Or.inr (Or.inr ⟨e, Or.inl e2⟩)), fun e2 => h (Or.inr (Or.inr ⟨e, Or.inr e2⟩))⟩⟩
          cases hq : nbrB f.n with
          | false => rfl
          | true => exact absurd (Or.inr (Or.inl ⟨e, hq⟩)) h
       clear hfe hF4
       obtain ⟨h2, h1, h3⟩ := hb
       have g2 : (f.kind == 2) = false := by simp [h2]
       by_cases k1 : f.kind = 1
       · have hnb := h1 k1
         have g1 : (f.kind == 1) = true := by simp [k1]
         have g3 : (f.kind == 3) = false := by simp [k1]
         clear h1 h2 h3 k1
         go_wp2_with fail
         refine (isNumber_any f.n _).mono ?_
         rintro e w1 ⟨rfl, rfl⟩
         rw [hnb]
         go_wp2
         go_ret2
         exact ⟨xt, Or.inr ⟨by rw [hR.out]; decide, by rw [hR.out]; rfl⟩⟩
       · have g1 : (f.kind == 1) = false := by simp [k1]
         by_cases k3 : f.kind = 3
         · have g3 : (f.kind == 3) = true := by simp [k3]
           have g4 : (f.n == 0) = false := by simp [(h3 k3).1]
           have g5 : (f.n == 1) = false := by simp [(h3 k3).2]
           clear h1 h2 h3 k1 k3
           go_wp2
           go_ret2
           exact ⟨xt, Or.inr ⟨by rw [hR.out]; decide, by rw [hR.out]; rfl⟩⟩
         · have g3 : (f.kind == 3) = false := by simp [k3]
           clear h1 h2 h3 k1 k3
           go_wp2
           go_ret2
           exact ⟨xt, Or.inr ⟨by rw [hR.out]; decide, by rw [hR.out]; rfl⟩⟩
  · have hkk : l.take k = l := List.take_of_length_le (by omega)
    have hdd : l.drop k = [] := List.drop_eq_nil_of_le (by omega)
    rw [hkk, hdd] at hN
    rw [hkk] at hM
    clear hkk hdd
    go_wp2
    go_ret2
    exact ⟨hE, Or.inl ⟨hN.out, _, rfl, Nat.le_refl _, hM.out⟩⟩
end Go.Proofs.YtangdoidkcelfaaGreatDoor
namespace Go.Proofs.YtangdoidkcelfaaGreatDoor
open Go.RowKit
/-- The slice v reads as the features, however many. -/
def FeatsL (w : World) (v : Value) (l : List Feat) : Prop :=
 l.length ≤ 140737488355328 ∧ ((∃ p c, v = .slice p 0 c ∧ l = []) ∨ ∃ b off c, v = .slice (some ⟨b, off, none⟩) l.length c ∧ ∀ i, i < l.length → (w.cell? ⟨b, off + i * 4, none⟩ = some (.string (l.getD i fD).name) ∧ w.cell? ⟨b, off + i * 4 + 1, none⟩ = some (.int .i64 (l.getD i fD).kind) ∧ w.cell? ⟨b, off + i * 4 + 1 + 1, none⟩ = some (.int .i64 (l.getD i fD).n) ∧ w.cell? ⟨b, off + i * 4 + 1 + 1 + 1, none⟩ = some (.string (l.getD i fD).text)))
theorem FeatsL.few {w : World} {v : Value} {l : List Feat} (h : FeatsL w v l) (hl : l.length ≤ 1000000) : Feats w v l := ⟨hl, h.2⟩
theorem FeatsL.ext {w w' : World} {v : Value} {l : List Feat} (h : FeatsL w v l) (k : Ext w w') : FeatsL w' v l := by
 refine ⟨h.1, ?_⟩
 rcases h.2 with h | ⟨b, off, c, hv, hc⟩
 · exact Or.inl h
 · exact Or.inr ⟨b, off, c, hv, fun i hi => ⟨k.get (hc i hi).1, k.get (hc i hi).2.1, k.get (hc i hi).2.2.1, k.get (hc i hi).2.2.2⟩⟩
theorem FeatsL.form {w : World} {v : Value} {l : List Feat} (h : FeatsL w v l) : ∃ p c, v = .slice p l.length c := by
 rcases h.2 with ⟨p, c, hv, hl⟩ | ⟨b, off, c, hv, hc⟩
 · exact ⟨p, c, by rw [hv, hl]; rfl⟩
 · exact ⟨_, _, hv⟩
theorem FeatsL.at {w : World} {p : Option Addr} {c : Nat} {l : List Feat} (h : FeatsL w (.slice p l.length c) l) (h0 : 0 < l.length) : ∃ b off, p = some ⟨b, off, none⟩ ∧ ∀ i, i < l.length → (w.cell? ⟨b, off + i * 4, none⟩ = some (.string (l.getD i fD).name) ∧ w.cell? ⟨b, off + i * 4 + 1, none⟩ = some (.int .i64 (l.getD i fD).kind) ∧ w.cell? ⟨b, off + i * 4 + 1 + 1, none⟩ = some (.int .i64 (l.getD i fD).n) ∧ w.cell? ⟨b, off + i * 4 + 1 + 1 + 1, none⟩ = some (.string (l.getD i fD).text)) := by
 rcases h.2 with ⟨p', c', hv, hl⟩ | ⟨b, off, c', hv, hc⟩
 · rw [hl] at h0; cases h0
 · injection hv with h1 h2 h3
   exact ⟨b, off, h1, hc⟩
end Go.Proofs.YtangdoidkcelfaaGreatDoor
namespace Go.Proofs.YtangdoidkcelfaaGreatDoor
open Go.RowKit
set_option maxHeartbeats 1000000 in
theorem all_any (w : World) (g n : Nat) (ks : List Int) (k : Int) (hlen : ks.length = n) (hn : n ≤ 1000000) (hc : ∀ i, i < n → w.cell? ⟨g, i, none⟩ = some (.int .i64 (ks.getD i 0))) : Calls Tryz.prog 123 #[.slice (some ⟨g, 0, none⟩) n n, .int .i64 k] w (BlP (allK ks k) w) := by
 replace hc := Lib.hid hc
 replace hlen := Lib.hid hlen
 go_enter Tryz.func123, Tryz.ntmps123
 go_wp2
 go_loop [9] (fun i => ∃ j : Nat, j ≤ n ∧ i = .int .i64 j ∧ allK (ks.take j) k = true) (fun i => n - (intOf i).toNat)
 case atStart => exact ⟨0, Nat.zero_le _, rfl, rfl⟩
 case round =>
  obtain ⟨j, hj, rfl, hall⟩ := hrel
  replace hall := Lib.hid hall
  by_cases hlt : j < n
  · have c0 := hc.out j hlt
    have hl : j < ks.length := by rw [hlen.out]; exact hlt
    have hsn := Lib.hid (all_snocD (fun j => decide (j = k)) ks 0 j hl)
    have hbd := Lib.hid (all_badD (fun j => decide (j = k)) ks 0 j hl)
    clear hl
    generalize ks.getD j 0 = y at *
    by_cases hy : y = k
    · have d1 : (y != k) = false := by simp [hy]
      have d2 : (y == k) = true := by simp [hy]
      go_wp2
      go_round
      case rel => exact ⟨j + 1, by omega, by go_num, by unfold allK at *; rw [hsn.out, hall.out, decide_eq_true hy]; rfl⟩
      case measure => simp [intOf]; omega
    · have d1 : (y != k) = true := by simp [hy]
      have d2 : (y == k) = false := by simp [hy]
      go_wp2
      go_ret
      exact ⟨ret_boolE (by unfold allK; rw [hbd.out (decide_eq_false hy)]), rfl⟩
  · have hkk : ks.take j = ks := List.take_of_length_le (by rw [hlen.out]; omega)
    rw [hkk] at hall
    replace hall := Lib.hid hall.out
    clear hkk
    go_wp2
    go_ret
    exact ⟨ret_boolE hall.out.symm, rfl⟩
theorem tyL_append (l : List Feat) (a b : List Ex) : Ex.ty.tyL l (a ++ b) = match Ex.ty.tyL l a with | .error c => .error c | .ok ks => match Ex.ty.tyL l b with | .error c => .error c | .ok js => .ok (ks ++ js) := by
 induction a with
 | nil =>
  simp only [List.nil_append, Ex.ty.tyL]
  cases Ex.ty.tyL l b <;> rfl
 | cons x r ih =>
  simp only [List.cons_append, Ex.ty.tyL, ih]
  by_cases h : (x.ty l).2 ≠ 0
  · simp only [if_pos h]
  · simp only [if_neg h]
    cases Ex.ty.tyL l r with
    | error c => rfl
    | ok ks =>
     cases Ex.ty.tyL l b with
     | error c => rfl
     | ok js => rfl
theorem tyL_snoc (l : List Feat) (args : List Ex) (k : Nat) (h : k < args.length) (ks : List Int) (hk : Ex.ty.tyL l (args.take k) = .ok ks) (h0 : ((args.getD k exD).ty l).2 = 0) : Ex.ty.tyL l (args.take (k + 1)) = .ok (ks ++ [((args.getD k exD).ty l).1]) := by
 rw [take_snocD args exD k h, tyL_append, hk]
 simp only [Ex.ty.tyL, h0]
 simp
theorem tyL_bad (l : List Feat) (args : List Ex) (k : Nat) (h : k < args.length) (ks : List Int) (hk : Ex.ty.tyL l (args.take k) = .ok ks) (h0 : ((args.getD k exD).ty l).2 ≠ 0) : Ex.ty.tyL l args = .error ((args.getD k exD).ty l).2 := by
 have h1 : args = args.take (k + 1) ++ args.drop (k + 1) := (List.take_append_drop _ _).symm
 rw [h1, tyL_append, take_snocD args exD k h, tyL_append, hk]
 rw [← take_snocD args exD k h, ← h1]
 simp only [Ex.ty.tyL, if_pos h0]
theorem ty_err {l : List Feat} {op : Int} {nm tx : ByteArray} {n : Int} {args : List Ex} {c : Int} (h : Ex.ty.tyL l args = .error c) : (Ex.mk op nm tx n args).ty l = (0, c) := by
 rw [Ex.ty, h]
theorem ty_ok {l : List Feat} {op : Int} {nm tx : ByteArray} {n : Int} {args : List Ex} {ks : List Int} (h : Ex.ty.tyL l args = .ok ks) : (Ex.mk op nm tx n args).ty l = if op = 3 ∨ op = 16 ∨ op = 17 then (match findN l nm with | none => ((0 : Int), (6 : Int)) | some f => if byK op f.kind ks = 0 then ((0 : Int), (28 : Int)) else (byK op f.kind ks, (0 : Int))) else if byK op 0 ks = 0 then ((0 : Int), (28 : Int)) else (byK op 0 ks, (0 : Int)) := by
 simp only [Ex.ty, h]
 cases findN l nm <;> rfl
theorem fv_name {op : Int} {nm tx : ByteArray} {n : Int} {len : Nat} (h : hasFv op nm tx n len = true) : nm.size ≤ 16 := by
 by_cases hn : nameB nm = true
 · exact nameB_size hn
 · have he : empB nm = true := by
    rw [Bool.not_eq_true] at hn
    unfold hasFv at h
    rw [hn] at h
    simp only [Bool.false_and] at h
    split at h
    · simp only [Bool.and_eq_true] at h; exact h.1.1.2
    · split at h
      · simp only [Bool.and_eq_true] at h; exact h.1.1.2
      · split at h
        · cases h
        · split at h
          · cases h
          · split at h
            · cases h
            · rename_i hx
              rw [Bool.not_eq_false] at hx
              simp only [Bool.and_eq_true] at hx
              exact hx.1.1
   have : nm.size = 0 := by simpa [empB] using he
   omega
theorem fv_cut {op : Int} {nm tx : ByteArray} {n : Int} {len : Nat} (h : hasFv op nm tx n len = true) : (op = 1 ∨ op = 2 ∨ op = 3 ∨ op = 16 ∨ op = 17) ∧ len = 0 ∨ (op = 4 ∨ op = 5) ∧ len = 1 ∨ (6 ≤ op ∧ op ≤ 14) ∧ len = 2 ∨ op = 15 ∧ 2 ≤ len ∧ len ≤ 17 := by
 unfold hasFv at h
 split at h
 · simp only [Bool.and_eq_true, decide_eq_true_eq] at h; omega
 · split at h
   · simp only [Bool.and_eq_true, decide_eq_true_eq] at h; omega
   · split at h
     · simp only [Bool.and_eq_true, decide_eq_true_eq] at h; omega
     · split at h
       · simp only [Bool.and_eq_true, decide_eq_true_eq] at h; omega
       · split at h
         · cases h
         · split at h
           · simp only [decide_eq_true_eq] at h; omega
           · split at h
             · simp only [decide_eq_true_eq] at h; omega
             · split at h
               · simp only [Bool.and_eq_true, decide_eq_true_eq] at h; omega
               · cases h
def TyPost (r : Int × Int) (w : World) (e : Ending) (w' : World) : Prop := e = .returned (.tuple #[.int .i64 r.1, .int .i64 r.2]) ∧ Ext w w'
end Go.Proofs.YtangdoidkcelfaaGreatDoor
namespace Go.Proofs.YtangdoidkcelfaaGreatDoor
open Go.RowKit
theorem infoIntE : (Tryz.prog.info? 3).map (fun i => (i.zero, i.size, i.bytes)) = some (some (.int .i64 0), 1, 8) := by kernel_rfl
theorem info_partsE {o : Option TypeInfo} {z : Option Value} {s b : Nat} (h : o.map (fun i => (i.zero, i.size, i.bytes)) = some (z, s, b)) : ∃ i, o = some i ∧ i.zero = z ∧ i.size = s ∧ i.bytes = b := by
 cases o with
 | none => cases h
 | some i =>
  simp only [Option.map_some, Option.some.injEq, Prod.mk.injEq] at h
  exact ⟨i, rfl, h.1, h.2.1, h.2.2⟩
/-- What the list of kinds of the first arguments looks like in memory. -/
def KS (w : World) (g n k : Nat) (ks : List Int) : Prop := ks.length = k ∧ ∃ cur : Array Value, Blk w g cur 3 ∧ cur.size = n ∧ ∀ j, j < k → cur[j]? = some (.int .i64 (ks.getD j 0))
theorem KS.ext {w w' : World} {g n k : Nat} {ks : List Int} (h : KS w g n k ks) (e : Ext w w') : KS w' g n k ks := by
 obtain ⟨h1, cur, hb, h2, h3⟩ := h
 exact ⟨h1, cur, hb.ext e, h2, h3⟩
theorem KS.push {w : World} {g n k : Nat} {ks : List Int} (h : KS w g n k ks) (hk : k < n) (y : Int) : KS (w.setCell ⟨g, k, none⟩ (.int .i64 y)) g n (k + 1) (ks ++ [y]) := by
 obtain ⟨h1, cur, hb, h2, h3⟩ := h
 refine ⟨by simp [h1], _, hb.set k _, by simp [h2], ?_⟩
 intro j hj
 rw [Array.getElem?_setIfInBounds]
 by_cases e : k = j
 · subst e
   subst h1
   simp [h2, hk]
 · rw [if_neg e, h3 j (by omega)]
   simp only [List.getD_eq_getElem?_getD]
   rw [List.getElem?_append_left (by omega)]
theorem KS.cells {w : World} {g n : Nat} {ks : List Int} (h : KS w g n n ks) : ∀ i, i < n → w.cell? ⟨g, i, none⟩ = some (.int .i64 (ks.getD i 0)) := by
 obtain ⟨h1, cur, hb, h2, h3⟩ := h
 intro i hi
 rw [hb.cell i, h3 i hi]
theorem KS.cell {w : World} {g n k : Nat} {ks : List Int} (h : KS w g n k ks) (hk : k < n) : ∃ v, w.cell? ⟨g, k, none⟩ = some v ∧ w.frozen? ⟨g, k, none⟩ = false := by
 obtain ⟨h1, cur, hb, h2, h3⟩ := h
 have : k < cur.size := by omega
 exact ⟨cur[k], by rw [hb.cell k, Array.getElem?_eq_getElem this], hb.fz k⟩
theorem KS.of_row {w : World} {B g n : Nat} {xs : List Value} (h : w.ownsRow B 3 1 (.slice (some ⟨g, 0, none⟩) n n) n xs) : KS w g n 0 [] := by
 obtain ⟨_, h | ⟨g', cap, cur, hv, _, hb, _, _, hs, _⟩⟩ := h
 · cases h.1
 · injection hv with h1 h2 h3
   injection h1 with h1
   injection h1 with h1
   subst h1 h3
   exact ⟨rfl, cur, hb, by omega, fun j hj => by omega⟩

set_option maxRecDepth 8000 in
set_option maxHeartbeats 4000000 in
theorem typeOf_any {w : World} {v : Value} {l0 : List Ex} (h : ExS w v l0) (l : List Feat) (b : Nat) (hM : KM w b l) (hkd : ∀ nm f, findN l nm = some f → f.kind = 1 ∨ f.kind = 2 ∨ f.kind = 3) : ∀ (x : Ex), x.args = l0 → ∀ w', Ext w w' → x.formed = true → Calls Tryz.prog 86 #[exAgg x v, .map (some b)] w' (TyPost (x.ty l) w') := by
 refine ExS.ind (P := fun x v => ∀ w', Ext w w' → x.formed = true → Calls Tryz.prog 86 #[exAgg x v, .map (some b)] w' (TyPost (x.ty l) w')) ?_ h
 clear h
 intro x v hS hK w' hEx hfm
 obtain ⟨op, nm, tx, n, args⟩ := x
 obtain ⟨q, cp, rfl⟩ := hS.form
 rw [formed_eq] at hfm
 simp only [Bool.and_eq_true, List.all_eq_true] at hfm
 obtain ⟨hfv, hfa⟩ := hfm
 have hfk : ∀ k, k < args.length → (args.getD k exD).formed = true := by
  intro k hk
  refine hfa _ ?_
  rw [List.getD_eq_getElem?_getD, List.getElem?_eq_getElem hk, Option.getD_some]
  exact List.getElem_mem hk
 clear hfa
 replace hfk := Lib.hid hfk
 have hsz := fv_name hfv
 have hlen : args.length ≤ 17 := by have := fv_cut hfv; omega
 replace hK := Lib.hid hK
 replace hM := Lib.hid (hM.ext hEx)
 replace hkd := Lib.hid hkd
 replace hfv := Lib.hid hfv
 simp only [Ex.args] at hK ⊢
 have hte := Lib.hid (fun c => ty_err (l := l) (op := op) (nm := nm) (tx := tx) (n := n) (args := args) (c := c))
 have hto := Lib.hid (fun ks => ty_ok (l := l) (op := op) (nm := nm) (tx := tx) (n := n) (args := args) (ks := ks))
 generalize (Ex.mk op nm tx n args).ty l = R at *
 rw [exAgg_mk]
 clear hS
 obtain ⟨i0, hi, hz0, hz1, hz2⟩ := info_partsE infoIntE
 replace hi := Lib.hid hi
 replace hz0 := Lib.hid hz0
 replace hz1 := Lib.hid hz1
 replace hz2 := Lib.hid hz2
 go_enter Tryz.func86, Tryz.ntmps86
 go_wp2_with (at_make; refine wpList_make_full _ rfl _ _ 48 rfl (w'.heap.size + 1) 3 i0 (.int .i64 0) 1 Tryz.underlying48 hi.out hz0.out hz1.out _ _ _ _ args.length rfl rfl rfl rfl ?_ ?_ ?_ ?_)
 · rw [hz2.out]; omega
 · unfold maxLen; omega
 · simp
 intro w2 hown hgrow
 have hE : Ext (w'.alloc (.cells #[.int .i64 op, .string nm, .string tx, .int .i64 n, .slice q args.length cp] 40)) w2 := Below.grown (Below.refl _ _) hgrow (Nat.le_refl _) (fun k hk => by cases hk)
 have hks := KS.of_row hown
 clear hown hgrow hi hz0 hz1 hz2 i0
 have hb0 := Blk.new w' #[.int .i64 op, .string nm, .string tx, .int .i64 n, .slice q args.length cp] 40
 have x4 : w2.cell? ⟨w'.heap.size, 4, none⟩ = some (.slice q args.length cp) := ((hb0.ext hE).cell 4).trans rfl
 replace hb0 := Lib.hid hb0
 go_wp2_with fail
 clear x4
 generalize hw0 : (w'.alloc (.cells #[.int .i64 op, .string nm, .string tx, .int .i64 n, .slice q args.length cp] 40)) = w0 at *
 have hs0 : w0.heap.size = w'.heap.size + 1 := by rw [← hw0]; simp
 have hE0 : Ext w' w0 := by rw [← hw0]; exact xt
 clear hw0
 replace hs0 := Lib.hid hs0
 go_loopw [22] (fun i wr => ∃ k : Nat, ∃ ks : List Int, k ≤ args.length ∧ i = .int .i64 k ∧ Ex.ty.tyL l (args.take k) = .ok ks ∧ KS wr (w'.heap.size + 1) args.length k ks ∧ Ext w0 wr) (fun i _ => args.length - (intOf i).toNat)
 case atStart => exact ⟨0, [], Nat.zero_le _, rfl, rfl, hks, hE⟩
 case round =>
  clear hks hE
  obtain ⟨k, ks, hk, rfl, hT, hks, hEr⟩ := hrel
  by_cases hlt : k < args.length
  · obtain ⟨bb, off, rfl, sv, hkid⟩ := hK.out _ _ rfl (by omega)
    obtain ⟨hc, hsu, hP⟩ := hkid k hlt
    have hform := hsu.form
    obtain ⟨c0, c1, c2, c3, c4⟩ := (hc.ext ((hEx.trans hE0).trans hEr)).five
    have hsn := Lib.hid (tyL_snoc l args k hlt ks hT)
    have hbd := Lib.hid (tyL_bad l args k hlt ks hT)
    have hfy := hfk.out k hlt
    replace hP := Lib.hid hP
    replace hks := Lib.hid hks
    clear hc hkid hsu hT
    generalize args.getD k exD = y at *
    generalize sv k = u at *
    obtain ⟨uq, uc, rfl⟩ := hform
    replace hfy := Lib.hid hfy
    go_wp2_with fail
    refine (hP.out _ (((hEx.trans hE0).trans hEr).alloc _) hfy.out).mono ?_
    rintro e w3 ⟨rfl, hE1⟩
    have hE2 := (hEr.alloc _).trans hE1
    have hk2 := hks.out.ext (((Ext.refl _).alloc _).trans hE1)
    clear hE1 c0 c1 c2 c3 c4 hks
    obtain ⟨old, o1, o2⟩ := hk2.cell hlt
    generalize y.ty l = ry at *
    obtain ⟨r1, r2⟩ := ry
    simp only at hsn hbd ⊢
    by_cases h0 : r2 = 0
    · subst h0
      have hp := Lib.hid (hk2.push hlt r1)
      go_wp2
      go_roundw
      case rel => exact ⟨k + 1, ks ++ [r1], by omega, by go_num, hsn.out rfl, hp.out, hE2.setCell (by rw [hs0.out]; exact Nat.le_refl _) _⟩
      case measure => simp [intOf]; omega
    · have d1 : (r2 != 0) = true := by simp [h0]
      have hR := Lib.hid (hte.out _ (hbd.out h0))
      clear o1 o2 hk2
      go_wp2
      go_ret2
      exact ⟨by rw [hR.out]; rfl, hE0.trans hE2⟩
  · have hkk : args.take k = args := List.take_of_length_le (by omega)
    obtain rfl : k = args.length := by omega
    rw [hkk] at hT
    clear hkk hlt
    have hM2 := Lib.hid (hM.out.ext (hE0.trans hEr))
    have hC := Lib.hid hks.cells
    have hkl := Lib.hid hks.1
    have x1 : wr.cell? ⟨w'.heap.size, 1, none⟩ = some (.string nm) := ((hb0.out.ext hEr).cell 1).trans rfl
    have x0 : wr.cell? ⟨w'.heap.size, 0, none⟩ = some (.int .i64 op) := ((hb0.out.ext hEr).cell 0).trans rfl
    have hsz0 : w'.heap.size < wr.heap.size := cell_lt x0
    replace hT := Lib.hid (hto.out ks hT)
    clear hto hte hK hM hks
    have hE : Ext w' wr := hE0.trans hEr
    clear hEr hE0 hEx hb0 hs0
    have hop : 1 ≤ op ∧ op ≤ 17 := by have := fv_cut hfv.out; omega
    have h17 : op = 1 ∨ op = 2 ∨ op = 3 ∨ op = 4 ∨ op = 5 ∨ op = 6 ∨ op = 7 ∨ op = 8 ∨ op = 9 ∨ op = 10 ∨ op = 11 ∨ op = 12 ∨ op = 13 ∨ op = 14 ∨ op = 15 ∨ op = 16 ∨ op = 17 := by omega
    clear hop
    rcases h17 with rfl | rfl | rfl | rfl | rfl | rfl | rfl | rfl | rfl | rfl | rfl | rfl | rfl | rfl | rfl | rfl | rfl
    · have hR := Lib.hid (show R = (1, 0) by rw [hT.out]; simp [byK])
      go_wp2_with (at_lookup; refine wpList_lookF rfl _ _ rfl rfl hM2.out nm rfl (by omega) _ rfl ?_)
      go_ret2
      exact ⟨by rw [hR.out]; rfl, xt⟩
    · have hR := Lib.hid (show R = (2, 0) by rw [hT.out]; simp [byK])
      go_wp2_with (at_lookup; refine wpList_lookF rfl _ _ rfl rfl hM2.out nm rfl (by omega) _ rfl ?_)
      go_ret2
      exact ⟨by rw [hR.out]; rfl, xt⟩
    · cases hfd : findN l nm with
      | none =>
       have hR := Lib.hid (show R = (0, 6) by rw [hT.out]; simp [hfd])
       replace hfd := Lib.hid hfd
       go_wp2_with (at_lookup; refine wpList_lookF rfl _ _ rfl rfl hM2.out nm rfl (by omega) none hfd.out ?_)
       go_ret2
       exact ⟨by rw [hR.out]; rfl, xt⟩
      | some f =>
       have hk3 := hkd.out _ _ hfd
       have hne : ¬ f.kind = 0 := by omega
       have hR := Lib.hid (show R = (f.kind, 0) by rw [hT.out]; simp [byK, hfd, hne])
       clear hne hk3
       replace hfd := Lib.hid hfd
       go_wp2_with (at_lookup; refine wpList_lookF rfl _ _ rfl rfl hM2.out nm rfl (by omega) (some f) hfd.out ?_)
       go_ret2
       exact ⟨by rw [hR.out]; rfl, xt⟩
    · have hn0 : 0 < args.length := by have := fv_cut hfv.out; omega
      have hA := Lib.hid (fun w1 (hc : ∀ i, i < args.length → w1.cell? ⟨w'.heap.size + 1, i, none⟩ = some (.int .i64 (ks.getD i 0))) => all_any w1 (w'.heap.size + 1) args.length ks 3 hkl.out (by omega) hc)
      cases hal : allK ks 3 with
      | false =>
       have hR := Lib.hid (show R = (0, 28) by rw [hT.out]; simp only [byK]; simp [hal])
       go_wp2_with (at_lookup; refine wpList_lookF rfl _ _ rfl rfl hM2.out nm rfl (by omega) _ rfl ?_)
       refine (hA.out _ (fun i hi => by first | exact hC.out i hi | exact Ext.get ((Ext.refl _).alloc _) (hC.out i hi))).mono ?_
       rintro e w1 ⟨rfl, rfl⟩
       rw [hal]
       go_wp2
       go_ret2
       exact ⟨by rw [hR.out]; rfl, xt⟩
      | true =>
       have hR := Lib.hid (show R = (3, 0) by rw [hT.out]; simp only [byK]; simp [hal])
       go_wp2_with (at_lookup; refine wpList_lookF rfl _ _ rfl rfl hM2.out nm rfl (by omega) _ rfl ?_)
       refine (hA.out _ (fun i hi => by first | exact hC.out i hi | exact Ext.get ((Ext.refl _).alloc _) (hC.out i hi))).mono ?_
       rintro e w1 ⟨rfl, rfl⟩
       rw [hal]
       go_wp2
       go_ret2
       exact ⟨by rw [hR.out]; rfl, xt⟩
    · have hn0 : 0 < args.length := by have := fv_cut hfv.out; omega
      have hA := Lib.hid (fun w1 (hc : ∀ i, i < args.length → w1.cell? ⟨w'.heap.size + 1, i, none⟩ = some (.int .i64 (ks.getD i 0))) => all_any w1 (w'.heap.size + 1) args.length ks 1 hkl.out (by omega) hc)
      cases hal : allK ks 1 with
      | false =>
       have hR := Lib.hid (show R = (0, 28) by rw [hT.out]; simp only [byK]; simp [hal])
       go_wp2_with (at_lookup; refine wpList_lookF rfl _ _ rfl rfl hM2.out nm rfl (by omega) _ rfl ?_)
       refine (hA.out _ (fun i hi => by first | exact hC.out i hi | exact Ext.get ((Ext.refl _).alloc _) (hC.out i hi))).mono ?_
       rintro e w1 ⟨rfl, rfl⟩
       rw [hal]
       go_wp2
       go_ret2
       exact ⟨by rw [hR.out]; rfl, xt⟩
      | true =>
       have hR := Lib.hid (show R = (1, 0) by rw [hT.out]; simp only [byK]; simp [hal])
       go_wp2_with (at_lookup; refine wpList_lookF rfl _ _ rfl rfl hM2.out nm rfl (by omega) _ rfl ?_)
       refine (hA.out _ (fun i hi => by first | exact hC.out i hi | exact Ext.get ((Ext.refl _).alloc _) (hC.out i hi))).mono ?_
       rintro e w1 ⟨rfl, rfl⟩
       rw [hal]
       go_wp2
       go_ret2
       exact ⟨by rw [hR.out]; rfl, xt⟩
    · have hn0 : 0 < args.length := by have := fv_cut hfv.out; omega
      have hA := Lib.hid (fun w1 (hc : ∀ i, i < args.length → w1.cell? ⟨w'.heap.size + 1, i, none⟩ = some (.int .i64 (ks.getD i 0))) => all_any w1 (w'.heap.size + 1) args.length ks 3 hkl.out (by omega) hc)
      cases hal : allK ks 3 with
      | false =>
       have hR := Lib.hid (show R = (0, 28) by rw [hT.out]; simp only [byK]; simp [hal])
       go_wp2_with (at_lookup; refine wpList_lookF rfl _ _ rfl rfl hM2.out nm rfl (by omega) _ rfl ?_)
       refine (hA.out _ (fun i hi => by first | exact hC.out i hi | exact Ext.get ((Ext.refl _).alloc _) (hC.out i hi))).mono ?_
       rintro e w1 ⟨rfl, rfl⟩
       rw [hal]
       go_wp2
       go_ret2
       exact ⟨by rw [hR.out]; rfl, xt⟩
      | true =>
       have hR := Lib.hid (show R = (3, 0) by rw [hT.out]; simp only [byK]; simp [hal])
       go_wp2_with (at_lookup; refine wpList_lookF rfl _ _ rfl rfl hM2.out nm rfl (by omega) _ rfl ?_)
       refine (hA.out _ (fun i hi => by first | exact hC.out i hi | exact Ext.get ((Ext.refl _).alloc _) (hC.out i hi))).mono ?_
       rintro e w1 ⟨rfl, rfl⟩
       rw [hal]
       go_wp2
       go_ret2
       exact ⟨by rw [hR.out]; rfl, xt⟩
    · have hn0 : 0 < args.length := by have := fv_cut hfv.out; omega
      have hA := Lib.hid (fun w1 (hc : ∀ i, i < args.length → w1.cell? ⟨w'.heap.size + 1, i, none⟩ = some (.int .i64 (ks.getD i 0))) => all_any w1 (w'.heap.size + 1) args.length ks 3 hkl.out (by omega) hc)
      cases hal : allK ks 3 with
      | false =>
       have hR := Lib.hid (show R = (0, 28) by rw [hT.out]; simp only [byK]; simp [hal])
       go_wp2_with (at_lookup; refine wpList_lookF rfl _ _ rfl rfl hM2.out nm rfl (by omega) _ rfl ?_)
       refine (hA.out _ (fun i hi => by first | exact hC.out i hi | exact Ext.get ((Ext.refl _).alloc _) (hC.out i hi))).mono ?_
       rintro e w1 ⟨rfl, rfl⟩
       rw [hal]
       go_wp2
       go_ret2
       exact ⟨by rw [hR.out]; rfl, xt⟩
      | true =>
       have hR := Lib.hid (show R = (3, 0) by rw [hT.out]; simp only [byK]; simp [hal])
       go_wp2_with (at_lookup; refine wpList_lookF rfl _ _ rfl rfl hM2.out nm rfl (by omega) _ rfl ?_)
       refine (hA.out _ (fun i hi => by first | exact hC.out i hi | exact Ext.get ((Ext.refl _).alloc _) (hC.out i hi))).mono ?_
       rintro e w1 ⟨rfl, rfl⟩
       rw [hal]
       go_wp2
       go_ret2
       exact ⟨by rw [hR.out]; rfl, xt⟩
    · have hn0 : 0 < args.length := by have := fv_cut hfv.out; omega
      have y0 := hC.out 0 hn0
      have hsz1 : w'.heap.size + 1 < wr.heap.size := cell_lt y0
      have hA := Lib.hid (fun w1 (hc : ∀ i, i < args.length → w1.cell? ⟨w'.heap.size + 1, i, none⟩ = some (.int .i64 (ks.getD i 0))) => all_any w1 (w'.heap.size + 1) args.length ks (ks.getD 0 0) hkl.out (by omega) hc)
      cases hal : allK ks (ks.getD 0 0) with
      | false =>
       have hR := Lib.hid (show R = (0, 28) by rw [hT.out]; simp only [byK]; generalize ks.getD 0 0 = k0 at *; simp [hal])
       generalize ks.getD 0 0 = k0 at *
       go_wp2_with (at_lookup; refine wpList_lookF rfl _ _ rfl rfl hM2.out nm rfl (by omega) _ rfl ?_)
       refine (hA.out _ (fun i hi => by first | exact hC.out i hi | exact Ext.get ((Ext.refl _).alloc _) (hC.out i hi))).mono ?_
       rintro e w1 ⟨rfl, rfl⟩
       rw [hal]
       go_wp2
       go_ret2
       exact ⟨by rw [hR.out]; rfl, xt⟩
      | true =>
       have hR := Lib.hid (show R = (3, 0) by rw [hT.out]; simp only [byK]; generalize ks.getD 0 0 = k0 at *; simp [hal])
       generalize ks.getD 0 0 = k0 at *
       go_wp2_with (at_lookup; refine wpList_lookF rfl _ _ rfl rfl hM2.out nm rfl (by omega) _ rfl ?_)
       refine (hA.out _ (fun i hi => by first | exact hC.out i hi | exact Ext.get ((Ext.refl _).alloc _) (hC.out i hi))).mono ?_
       rintro e w1 ⟨rfl, rfl⟩
       rw [hal]
       go_wp2
       go_ret2
       exact ⟨by rw [hR.out]; rfl, xt⟩
    · have hn0 : 0 < args.length := by have := fv_cut hfv.out; omega
      have y0 := hC.out 0 hn0
      have hsz1 : w'.heap.size + 1 < wr.heap.size := cell_lt y0
      have hA := Lib.hid (fun w1 (hc : ∀ i, i < args.length → w1.cell? ⟨w'.heap.size + 1, i, none⟩ = some (.int .i64 (ks.getD i 0))) => all_any w1 (w'.heap.size + 1) args.length ks (ks.getD 0 0) hkl.out (by omega) hc)
      cases hal : allK ks (ks.getD 0 0) with
      | false =>
       have hR := Lib.hid (show R = (0, 28) by rw [hT.out]; simp only [byK]; generalize ks.getD 0 0 = k0 at *; simp [hal])
       generalize ks.getD 0 0 = k0 at *
       go_wp2_with (at_lookup; refine wpList_lookF rfl _ _ rfl rfl hM2.out nm rfl (by omega) _ rfl ?_)
       refine (hA.out _ (fun i hi => by first | exact hC.out i hi | exact Ext.get ((Ext.refl _).alloc _) (hC.out i hi))).mono ?_
       rintro e w1 ⟨rfl, rfl⟩
       rw [hal]
       go_wp2
       go_ret2
       exact ⟨by rw [hR.out]; rfl, xt⟩
      | true =>
       have hR := Lib.hid (show R = (3, 0) by rw [hT.out]; simp only [byK]; generalize ks.getD 0 0 = k0 at *; simp [hal])
       generalize ks.getD 0 0 = k0 at *
       go_wp2_with (at_lookup; refine wpList_lookF rfl _ _ rfl rfl hM2.out nm rfl (by omega) _ rfl ?_)
       refine (hA.out _ (fun i hi => by first | exact hC.out i hi | exact Ext.get ((Ext.refl _).alloc _) (hC.out i hi))).mono ?_
       rintro e w1 ⟨rfl, rfl⟩
       rw [hal]
       go_wp2
       go_ret2
       exact ⟨by rw [hR.out]; rfl, xt⟩
    · have hn0 : 0 < args.length := by have := fv_cut hfv.out; omega
      have hA := Lib.hid (fun w1 (hc : ∀ i, i < args.length → w1.cell? ⟨w'.heap.size + 1, i, none⟩ = some (.int .i64 (ks.getD i 0))) => all_any w1 (w'.heap.size + 1) args.length ks 1 hkl.out (by omega) hc)
      cases hal : allK ks 1 with
      | false =>
       have hR := Lib.hid (show R = (0, 28) by rw [hT.out]; simp only [byK]; simp [hal])
       go_wp2_with (at_lookup; refine wpList_lookF rfl _ _ rfl rfl hM2.out nm rfl (by omega) _ rfl ?_)
       refine (hA.out _ (fun i hi => by first | exact hC.out i hi | exact Ext.get ((Ext.refl _).alloc _) (hC.out i hi))).mono ?_
       rintro e w1 ⟨rfl, rfl⟩
       rw [hal]
       go_wp2
       go_ret2
       exact ⟨by rw [hR.out]; rfl, xt⟩
      | true =>
       have hR := Lib.hid (show R = (3, 0) by rw [hT.out]; simp only [byK]; simp [hal])
       go_wp2_with (at_lookup; refine wpList_lookF rfl _ _ rfl rfl hM2.out nm rfl (by omega) _ rfl ?_)
       refine (hA.out _ (fun i hi => by first | exact hC.out i hi | exact Ext.get ((Ext.refl _).alloc _) (hC.out i hi))).mono ?_
       rintro e w1 ⟨rfl, rfl⟩
       rw [hal]
       go_wp2
       go_ret2
       exact ⟨by rw [hR.out]; rfl, xt⟩
    · have hn0 : 0 < args.length := by have := fv_cut hfv.out; omega
      have hA := Lib.hid (fun w1 (hc : ∀ i, i < args.length → w1.cell? ⟨w'.heap.size + 1, i, none⟩ = some (.int .i64 (ks.getD i 0))) => all_any w1 (w'.heap.size + 1) args.length ks 1 hkl.out (by omega) hc)
      cases hal : allK ks 1 with
      | false =>
       have hR := Lib.hid (show R = (0, 28) by rw [hT.out]; simp only [byK]; simp [hal])
       go_wp2_with (at_lookup; refine wpList_lookF rfl _ _ rfl rfl hM2.out nm rfl (by omega) _ rfl ?_)
       refine (hA.out _ (fun i hi => by first | exact hC.out i hi | exact Ext.get ((Ext.refl _).alloc _) (hC.out i hi))).mono ?_
       rintro e w1 ⟨rfl, rfl⟩
       rw [hal]
       go_wp2
       go_ret2
       exact ⟨by rw [hR.out]; rfl, xt⟩
      | true =>
       have hR := Lib.hid (show R = (3, 0) by rw [hT.out]; simp only [byK]; simp [hal])
       go_wp2_with (at_lookup; refine wpList_lookF rfl _ _ rfl rfl hM2.out nm rfl (by omega) _ rfl ?_)
       refine (hA.out _ (fun i hi => by first | exact hC.out i hi | exact Ext.get ((Ext.refl _).alloc _) (hC.out i hi))).mono ?_
       rintro e w1 ⟨rfl, rfl⟩
       rw [hal]
       go_wp2
       go_ret2
       exact ⟨by rw [hR.out]; rfl, xt⟩
    · have hn0 : 0 < args.length := by have := fv_cut hfv.out; omega
      have hA := Lib.hid (fun w1 (hc : ∀ i, i < args.length → w1.cell? ⟨w'.heap.size + 1, i, none⟩ = some (.int .i64 (ks.getD i 0))) => all_any w1 (w'.heap.size + 1) args.length ks 1 hkl.out (by omega) hc)
      cases hal : allK ks 1 with
      | false =>
       have hR := Lib.hid (show R = (0, 28) by rw [hT.out]; simp only [byK]; simp [hal])
       go_wp2_with (at_lookup; refine wpList_lookF rfl _ _ rfl rfl hM2.out nm rfl (by omega) _ rfl ?_)
       refine (hA.out _ (fun i hi => by first | exact hC.out i hi | exact Ext.get ((Ext.refl _).alloc _) (hC.out i hi))).mono ?_
       rintro e w1 ⟨rfl, rfl⟩
       rw [hal]
       go_wp2
       go_ret2
       exact ⟨by rw [hR.out]; rfl, xt⟩
      | true =>
       have hR := Lib.hid (show R = (1, 0) by rw [hT.out]; simp only [byK]; simp [hal])
       go_wp2_with (at_lookup; refine wpList_lookF rfl _ _ rfl rfl hM2.out nm rfl (by omega) _ rfl ?_)
       refine (hA.out _ (fun i hi => by first | exact hC.out i hi | exact Ext.get ((Ext.refl _).alloc _) (hC.out i hi))).mono ?_
       rintro e w1 ⟨rfl, rfl⟩
       rw [hal]
       go_wp2
       go_ret2
       exact ⟨by rw [hR.out]; rfl, xt⟩
    · have hn0 : 0 < args.length := by have := fv_cut hfv.out; omega
      have hA := Lib.hid (fun w1 (hc : ∀ i, i < args.length → w1.cell? ⟨w'.heap.size + 1, i, none⟩ = some (.int .i64 (ks.getD i 0))) => all_any w1 (w'.heap.size + 1) args.length ks 1 hkl.out (by omega) hc)
      cases hal : allK ks 1 with
      | false =>
       have hR := Lib.hid (show R = (0, 28) by rw [hT.out]; simp only [byK]; simp [hal])
       go_wp2_with (at_lookup; refine wpList_lookF rfl _ _ rfl rfl hM2.out nm rfl (by omega) _ rfl ?_)
       refine (hA.out _ (fun i hi => by first | exact hC.out i hi | exact Ext.get ((Ext.refl _).alloc _) (hC.out i hi))).mono ?_
       rintro e w1 ⟨rfl, rfl⟩
       rw [hal]
       go_wp2
       go_ret2
       exact ⟨by rw [hR.out]; rfl, xt⟩
      | true =>
       have hR := Lib.hid (show R = (1, 0) by rw [hT.out]; simp only [byK]; simp [hal])
       go_wp2_with (at_lookup; refine wpList_lookF rfl _ _ rfl rfl hM2.out nm rfl (by omega) _ rfl ?_)
       refine (hA.out _ (fun i hi => by first | exact hC.out i hi | exact Ext.get ((Ext.refl _).alloc _) (hC.out i hi))).mono ?_
       rintro e w1 ⟨rfl, rfl⟩
       rw [hal]
       go_wp2
       go_ret2
       exact ⟨by rw [hR.out]; rfl, xt⟩
    · have hn0 : 0 < args.length := by have := fv_cut hfv.out; omega
      have hA := Lib.hid (fun w1 (hc : ∀ i, i < args.length → w1.cell? ⟨w'.heap.size + 1, i, none⟩ = some (.int .i64 (ks.getD i 0))) => all_any w1 (w'.heap.size + 1) args.length ks 1 hkl.out (by omega) hc)
      cases hal : allK ks 1 with
      | false =>
       have hR := Lib.hid (show R = (0, 28) by rw [hT.out]; simp only [byK]; simp [hal])
       go_wp2_with (at_lookup; refine wpList_lookF rfl _ _ rfl rfl hM2.out nm rfl (by omega) _ rfl ?_)
       refine (hA.out _ (fun i hi => by first | exact hC.out i hi | exact Ext.get ((Ext.refl _).alloc _) (hC.out i hi))).mono ?_
       rintro e w1 ⟨rfl, rfl⟩
       rw [hal]
       go_wp2
       go_ret2
       exact ⟨by rw [hR.out]; rfl, xt⟩
      | true =>
       have hR := Lib.hid (show R = (1, 0) by rw [hT.out]; simp only [byK]; simp [hal])
       go_wp2_with (at_lookup; refine wpList_lookF rfl _ _ rfl rfl hM2.out nm rfl (by omega) _ rfl ?_)
       refine (hA.out _ (fun i hi => by first | exact hC.out i hi | exact Ext.get ((Ext.refl _).alloc _) (hC.out i hi))).mono ?_
       rintro e w1 ⟨rfl, rfl⟩
       rw [hal]
       go_wp2
       go_ret2
       exact ⟨by rw [hR.out]; rfl, xt⟩
    · have hn0 : 0 < args.length := by have := fv_cut hfv.out; omega
      have y0 := hC.out 0 hn0
      have hsz1 : w'.heap.size + 1 < wr.heap.size := cell_lt y0
      have hA := Lib.hid (fun w1 (hc : ∀ i, i < args.length → w1.cell? ⟨w'.heap.size + 1, i, none⟩ = some (.int .i64 (ks.getD i 0))) => all_any w1 (w'.heap.size + 1) args.length ks (ks.getD 0 0) hkl.out (by omega) hc)
      cases hal : allK ks (ks.getD 0 0) with
      | false =>
       have hR := Lib.hid (show R = (0, 28) by rw [hT.out]; simp only [byK]; generalize ks.getD 0 0 = k0 at *; simp [hal])
       generalize ks.getD 0 0 = k0 at *
       go_wp2_with (at_lookup; refine wpList_lookF rfl _ _ rfl rfl hM2.out nm rfl (by omega) _ rfl ?_)
       go_quiet ((go_at_call 123; exact Calls.quiet_of_same ((hA.out _ (fun i hi => by first | exact hC.out i hi | exact Ext.get ((Ext.refl _).alloc _) (hC.out i hi))).mono fun e w' h => ⟨h.1.trans (ret_boolE hal), h.2.symm⟩)))
       go_wp2
       go_ret2
       exact ⟨by rw [hR.out]; rfl, xt⟩
      | true =>
       by_cases h3 : ks.getD 0 0 = 3
       · have g3 : (ks.getD 0 0 != 3) = false := by rw [h3]; rfl
         have hR := Lib.hid (show R = (0, 28) by rw [hT.out]; simp only [byK]; generalize ks.getD 0 0 = k0 at *; simp [h3])
         clear h3
         generalize ks.getD 0 0 = k0 at *
         go_wp2_with (at_lookup; refine wpList_lookF rfl _ _ rfl rfl hM2.out nm rfl (by omega) _ rfl ?_)
         go_quiet ((go_at_call 123; exact Calls.quiet_of_same ((hA.out _ (fun i hi => by first | exact hC.out i hi | exact Ext.get ((Ext.refl _).alloc _) (hC.out i hi))).mono fun e w' h => ⟨h.1.trans (ret_boolE hal), h.2.symm⟩)))
         go_wp2
         go_ret2
         exact ⟨by rw [hR.out]; rfl, xt⟩
       · have g3 : (ks.getD 0 0 != 3) = true := by simpa using h3
         have hR := Lib.hid (show R = (3, 0) by rw [hT.out]; simp only [byK]; generalize ks.getD 0 0 = k0 at *; simp [hal, h3])
         clear h3
         generalize ks.getD 0 0 = k0 at *
         go_wp2_with (at_lookup; refine wpList_lookF rfl _ _ rfl rfl hM2.out nm rfl (by omega) _ rfl ?_)
         go_quiet ((go_at_call 123; exact Calls.quiet_of_same ((hA.out _ (fun i hi => by first | exact hC.out i hi | exact Ext.get ((Ext.refl _).alloc _) (hC.out i hi))).mono fun e w' h => ⟨h.1.trans (ret_boolE hal), h.2.symm⟩)))
         go_wp2
         go_ret2
         exact ⟨by rw [hR.out]; rfl, xt⟩
    · cases hfd : findN l nm with
      | none =>
       have hR := Lib.hid (show R = (0, 6) by rw [hT.out]; simp [hfd])
       replace hfd := Lib.hid hfd
       go_wp2_with (at_lookup; refine wpList_lookF rfl _ _ rfl rfl hM2.out nm rfl (by omega) none hfd.out ?_)
       go_ret2
       exact ⟨by rw [hR.out]; rfl, xt⟩
      | some f =>
       have hk3 := hkd.out _ _ hfd
       by_cases h2 : f.kind = 2
       · have g2 : (f.kind == 2) = true := by simp [h2]
         have hR := Lib.hid (show R = (1, 0) by rw [hT.out]; simp [byK, hfd, h2])
         clear hk3 h2
         replace hfd := Lib.hid hfd
         go_wp2_with (at_lookup; refine wpList_lookF rfl _ _ rfl rfl hM2.out nm rfl (by omega) (some f) hfd.out ?_)
         go_quiet (fail)
         go_wp2
         go_ret2
         exact ⟨by rw [hR.out]; rfl, xt⟩
       · have g2 : (f.kind == 2) = false := by simp [h2]
         have hR := Lib.hid (show R = (0, 28) by rw [hT.out]; simp [byK, hfd, h2])
         clear hk3 h2
         replace hfd := Lib.hid hfd
         go_wp2_with (at_lookup; refine wpList_lookF rfl _ _ rfl rfl hM2.out nm rfl (by omega) (some f) hfd.out ?_)
         go_quiet (fail)
         go_wp2
         go_ret2
         exact ⟨by rw [hR.out]; rfl, xt⟩
    · cases hfd : findN l nm with
      | none =>
       have hR := Lib.hid (show R = (0, 6) by rw [hT.out]; simp [hfd])
       replace hfd := Lib.hid hfd
       go_wp2_with (at_lookup; refine wpList_lookF rfl _ _ rfl rfl hM2.out nm rfl (by omega) none hfd.out ?_)
       go_ret2
       exact ⟨by rw [hR.out]; rfl, xt⟩
      | some f =>
       have hk3 := hkd.out _ _ hfd
       by_cases h2 : f.kind = 2
       · have g2 : (f.kind == 2) = true := by simp [h2]
         have hR := Lib.hid (show R = (1, 0) by rw [hT.out]; simp [byK, hfd, h2])
         clear hk3 h2
         replace hfd := Lib.hid hfd
         go_wp2_with (at_lookup; refine wpList_lookF rfl _ _ rfl rfl hM2.out nm rfl (by omega) (some f) hfd.out ?_)
         go_quiet (fail)
         go_wp2
         go_ret2
         exact ⟨by rw [hR.out]; rfl, xt⟩
       · have g2 : (f.kind == 2) = false := by simp [h2]
         have hR := Lib.hid (show R = (0, 28) by rw [hT.out]; simp [byK, hfd, h2])
         clear hk3 h2
         replace hfd := Lib.hid hfd
         go_wp2_with (at_lookup; refine wpList_lookF rfl _ _ rfl rfl hM2.out nm rfl (by omega) (some f) hfd.out ?_)
         go_quiet (fail)
         go_wp2
         go_ret2
         exact ⟨by rw [hR.out]; rfl, xt⟩
end Go.Proofs.YtangdoidkcelfaaGreatDoor
