/- The map of features by name, and contracts about it. -/
import Derived.Test.YtpdpjindmghfpaaGreatDoorEnb
import Derived.Maps.OwnSet
import Derived.Maps.Keyed
import Derived.Deep.RegionLaw
import Derived.StringKeys
namespace Go.Proofs.YtpdpjindmghfpaaGreatDoor
open Go.RowKit
def rdF (v : Value) : Option (DataW Value × List MemPlace) := some (.held v, [])
def kyB (s : ByteArray) : Lit := .string s.data.toList
/-- Block b is a map of the features by their names. -/
def KM (w : World) (b : Nat) (l : List Feat) : Prop :=
  ∃ n D, w.ownsMap Tryz.prog 9 rdF b n D ∧ n ≤ l.length ∧ (∀ nm : ByteArray, Maps.has D (kyB nm) = (findN l nm).isSome) ∧ ∀ nm : ByteArray, D.atKey (kyB nm) (.held (ftAgg fD)) = .held (ftAgg ((findN l nm).getD fD))
theorem kyB_inj {a b : ByteArray} (h : kyB a = kyB b) : a = b := by
  unfold kyB at h
  injection h with h
  exact Go.WideShapes.bytes_inj h
theorem zeroF (w : World) : (zeroValue 43).run Tryz.prog w = .ok (ftAgg fD) w := by
  kernel_rfl
theorem key_is (s : ByteArray) (hs : s.size ≤ 1000000) : keyOf Tryz.prog 9 (.string s) = some (kyB s) := Go.WideMaps.keyOf_string_mk Tryz.underlying9 (by unfold maxLen; omega)
theorem lawS : Maps.Keyed Tryz.prog 9 := Maps.string_keyed Tryz.underlying9
theorem KM.made (w : World) : KM (w.alloc (.map #[] 0)) w.heap.size [] :=
  ⟨0, .map [], World.ownsMap_made w _ _ _, Nat.le_refl _, fun _ => rfl, fun _ => rfl⟩
theorem KM.lt {w : World} {b : Nat} {l : List Feat} (h : KM w b l) : b < w.heap.size := by
  obtain ⟨n, D, ho, _⟩ := h
  exact ho.lt
theorem KM.ext {w w' : World} {b : Nat} {l : List Feat} (h : KM w b l) (k : Ext w w') : KM w' b l := by
  have hlt := h.lt
  obtain ⟨n, D, ⟨es, clock, hb, F, hs, hD⟩, h2, h3, h4⟩ := h
  exact ⟨n, D, ⟨es, clock, (k.block b hlt).trans hb, F, hs, hD⟩, h2, h3, h4⟩
theorem KM.look {w : World} {b : Nat} {l : List Feat} (h : KM w b l) (nm : ByteArray) (hs : nm.size ≤ 1000000) : (Instr.lookup 85 (.map (some b)) (.string nm) true).run Tryz.prog w = .ok (.tuple #[ftAgg ((findN l nm).getD fD), .bool (findN l nm).isSome]) w := by
  obtain ⟨n, D, ho, hn, hh, ha⟩ := h
  obtain ⟨v, ps, hrun, hv⟩ := ho.look_ok lawS Tryz.underlying85 (zeroF w) (zd := .held (ftAgg fD)) (zp := []) rfl (key_is nm hs)
  rw [ha nm] at hv
  simp only [rdF, Option.some.injEq, Prod.mk.injEq, DataW.held.injEq] at hv
  rw [hrun, hh nm, hv.1]
theorem KM.look1 {w : World} {b : Nat} {l : List Feat} (h : KM w b l) (nm : ByteArray) (hs : nm.size ≤ 1000000) : (Instr.lookup 85 (.map (some b)) (.string nm) false).run Tryz.prog w = .ok (ftAgg ((findN l nm).getD fD)) w := by
  obtain ⟨n, D, ho, hn, hh, ha⟩ := h
  obtain ⟨v, ps, hrun, hv⟩ := ho.lookup lawS Tryz.underlying85 (zeroF w) (zd := .held (ftAgg fD)) (zp := []) rfl (key_is nm hs)
  rw [ha nm] at hv
  simp only [rdF, Option.some.injEq, Prod.mk.injEq, DataW.held.injEq] at hv
  rw [hrun, hv.1]
theorem findN_snoc (l : List Feat) (f : Feat) (nm : ByteArray) : findN (l ++ [f]) nm = (findN l nm).or (if f.name = nm then some f else none) := by
  unfold findN
  rw [List.find?_append]
  congr 1
  by_cases h : f.name = nm <;> simp [h]
theorem KM.put {w : World} {b : Nat} {l : List Feat} (h : KM w b l) (f : Feat) (hs : f.name.size ≤ 1000000) (hl : l.length ≤ 1000000) (hno : findN l f.name = none) : ∃ w', (Instr.mapUpdate 85 (.map (some b)) (.string f.name) (ftAgg f)).run Tryz.prog w = .ok () w' ∧ KM w' b (l ++ [f]) ∧ w.grownBy w' (some b) := by
  obtain ⟨n, D, ho, hn, hh, ha⟩ := h
  have ht := (ho.tidy lawS)
  obtain ⟨w', hrun, ho', hg⟩ := ho.update lawS Tryz.underlying85 (by unfold maxLen; omega) (key_is f.name hs) (val := ftAgg f) (d := .held (ftAgg f)) (ps := []) rfl
  refine ⟨w', hrun, ⟨n + 1, _, ho', by simp; omega, ?_, ?_⟩, hg⟩
  · intro nm
    rw [findN_snoc]
    by_cases e : f.name = nm
    · subst e
      rw [Maps.has_put_same ho.isMap (lawS.key (key_is f.name hs)), hno]
      simp
    · rw [Maps.has_put_other (fun he => e (kyB_inj he).symm), hh nm, if_neg e]
      simp
  · intro nm
    rw [findN_snoc]
    by_cases e : f.name = nm
    · subst e
      rw [Maps.atKey_put_same ho.isMap (lawS.key (key_is f.name hs)), hno]
      simp
    · rw [Maps.atKey_put_other (fun he => e (kyB_inj he).symm), ha nm, if_neg e]
      simp
theorem Ext.grown {a w w' : World} {b : Nat} (h : Ext a w) (hg : w.grownBy w' (some b)) (hb : a.heap.size ≤ b) : Ext a w' := by
  refine ⟨?_, ?_, ?_, ?_, ?_⟩
  · rw [hg.os, h.os]
  · rw [hg.tape, h.tape]
  · rw [hg.output, h.output]
  · exact Nat.le_trans h.size hg.size
  · intro i hi
    rw [hg.block i (Nat.lt_of_lt_of_le hi h.size) (fun e => by injection e with e; omega), h.block i hi]
end Go.Proofs.YtpdpjindmghfpaaGreatDoor
