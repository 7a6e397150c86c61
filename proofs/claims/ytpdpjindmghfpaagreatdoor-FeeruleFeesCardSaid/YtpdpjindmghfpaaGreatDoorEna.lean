/- Contracts of Names and Windows (walks; printed by gen/names2.py). -/
import Derived.Test.YtpdpjindmghfpaaGreatDoorEnc
import Derived.Deep.RegionHeld3
namespace Go.Proofs.YtpdpjindmghfpaaGreatDoor
open Go.RowKit Go.Sort
def sortL (l : List (List UInt8)) : List (List UInt8) := l.mergeSort fun x y => decide (x ≤ y)
def uniL (l : List (List UInt8)) : List (List UInt8) := Lib.compact (sortL l)
def Ex.occ (x : Ex) : List (List UInt8) := x.parts.flatMap occ1
def Ex.wins (x : Ex) : List (List UInt8) := x.parts.flatMap win1
def Ex.long (x : Ex) : Int := x.parts.foldl long1 0
/-- The slice v reads as the names. -/
def StrsM (w : World) (v : Value) (l : List (List UInt8)) : Prop :=
  ∃ p c, v = .slice p l.length c ∧ l.length ≤ 1000000 ∧ (0 < l.length → ∃ b off, p = some ⟨b, off, none⟩ ∧ ∀ i, i < l.length → w.cell? ⟨b, off + i, none⟩ = some (encStr (l.getD i [])))
theorem StrsM.ext {w w' : World} {v : Value} {l : List (List UInt8)} (h : StrsM w v l) (k : Ext w w') : StrsM w' v l := by
  obtain ⟨p, c, h1, h2, h3⟩ := h
  refine ⟨p, c, h1, h2, fun h0 => ?_⟩
  obtain ⟨b, off, h4, h5⟩ := h3 h0
  exact ⟨b, off, h4, fun i hi => k.get (h5 i hi)⟩
theorem foldl_flat (f : Ex → List (List UInt8)) : ∀ (l : List Ex) (acc : List (List UInt8)), l.foldl (fun acc y => acc ++ f y) acc = acc ++ l.flatMap f
  | [], acc => by simp
  | x :: l, acc => by rw [List.foldl_cons, foldl_flat f l]; simp
theorem foldl_win : ∀ (l : List Ex) (s : List (List UInt8) × Int), l.foldl winN s = (s.1 ++ l.flatMap win1, l.foldl long1 s.2)
  | [], s => by simp
  | x :: l, s => by rw [List.foldl_cons, foldl_win l]; simp [winN]
theorem sortL_len (l : List (List UInt8)) : (sortL l).length = l.length := List.length_mergeSort l
theorem compUp_len (d : Array (List UInt8)) : ∀ m, (Lib.compactUpTo d m).length ≤ m
  | 0 => by simp [Lib.compactUpTo]
  | m + 1 => by
    rw [Lib.compactUpTo_succ]
    have := compUp_len d m
    split <;> simp <;> omega
theorem compact_len (l : List (List UInt8)) : (Lib.compact l).length ≤ l.length := by
  unfold Lib.compact
  exact compUp_len _ _
theorem uniL_len (l : List (List UInt8)) : (uniL l).length ≤ l.length := Nat.le_trans (compact_len _) (by rw [sortL_len]; exact Nat.le_refl _)
theorem uniL_nil : uniL [] = [] := by
  have h := uniL_len []
  exact List.length_eq_zero_iff.1 (by simpa using h)
theorem grow_none (w : World) : grow w #[] = w := by
  cases w
  simp [grow]
/-- What Sort leaves of the variable. -/
theorem after_sort {w w2 : World} {B L g cap nn : Nat} {os : Array Obj} {acc : List (List UInt8)} {cur : Array Value} (hL : Blk w L #[.slice (some ⟨g, 0, none⟩) acc.length cap] 72) (hg : B ≤ g) (hb : w.heap[g]? = some (.cells cur 9 (0, 0))) (hc : cur.size = cap) (hn : acc.length ≤ cap)
    (e : w2 = grow (putRow encStr (Sort.ahead w nn) g 0 (sortL acc).toArray) os) :
    Blk w2 L #[.slice (some ⟨g, 0, none⟩) acc.length cap] 72 ∧ w.grownBy w2 (some g) ∧ Holds encStr w2 g 0 (sortL acc).toArray ∧ ∃ cur2 : Array Value, w2.heap[g]? = some (.cells cur2 9 (0, 0)) ∧ cur2.size = cap := by
  subst e
  have hG : w.grownBy (grow (putRow encStr (Sort.ahead w nn) g 0 (sortL acc).toArray) os) (some g) := grownBy_sorted _
  have hb2 := heap_sorted (n := nn) (os := os) (sortL acc).toArray hb
  refine ⟨blk_grown hG hL ?_, hG, holds_of_block hb2 (take_putCells cur (sortL acc) (by rw [sortL_len]; omega)), _, hb2, by simp [putCells, hc]⟩
  intro h
  injection h with h
  subst h
  unfold Blk at hL
  rw [hL] at hb
  injection hb with hb
  injection hb with _ h5
  exact absurd h5 (by decide)
/-- What Compact leaves. -/
theorem after_compact {w w3 : World} {B g cap q : Nat} {ss : List (List UInt8)} {cur : Array Value} (_hg : B ≤ g) (hb : w.heap[g]? = some (.cells cur 9 (0, 0))) (hc : cur.size = cap) (hn : ss.length ≤ cap) (hs : ss.length ≤ 1000000)
    (e : w3 = putRow encStr (Sort.ahead w q) g 0 (Lib.compact ss ++ List.replicate (ss.length - (Lib.compact ss).length) []).toArray) :
    w.grownBy w3 (some g) ∧ StrsM w3 (.slice (some ⟨g, 0, none⟩) (Lib.compact ss).length cap) (Lib.compact ss) := by
  rw [← grow_none (putRow _ _ _ _ _)] at e
  have hl := compact_len ss
  have hb3 := heap_sorted (n := q) (os := #[]) (Lib.compact ss ++ List.replicate (ss.length - (Lib.compact ss).length) []).toArray hb
  have hH : Holds encStr w3 g 0 (Lib.compact ss ++ List.replicate (ss.length - (Lib.compact ss).length) []).toArray := by
    rw [e]
    refine holds_of_block hb3 (take_putCells cur _ ?_)
    simp only [List.length_append, List.length_replicate]
    omega
  refine ⟨by rw [e]; exact grownBy_sorted _, _, _, rfl, by omega, fun h0 => ⟨g, 0, rfl, fun i hi => ?_⟩⟩
  have h := (hH i (by simp; omega)).1
  rw [h]
  have hd : (Lib.compact ss ++ List.replicate (ss.length - (Lib.compact ss).length) ([] : List UInt8)).toArray[i]! = (Lib.compact ss).getD i [] := by
    rw [getElem!_def, List.getElem?_toArray, List.getElem?_append_left hi]
    rw [List.getD_eq_getElem?_getD, List.getElem?_eq_getElem hi]
    rfl
  rw [hd]
theorem Ext.grownS {a w w' : World} {g : Nat} (h : Ext a w) (hg : w.grownBy w' (some g)) (hb : a.heap.size ≤ g) : Ext a w' := by
  refine ⟨?_, ?_, ?_, ?_, ?_⟩
  · rw [hg.os, h.os]
  · rw [hg.tape, h.tape]
  · rw [hg.output, h.output]
  · exact Nat.le_trans h.size hg.size
  · intro i hi
    rw [hg.block i (Nat.lt_of_lt_of_le hi h.size) (fun e => by injection e with e; omega), h.block i hi]
def NamesP (l : List (List UInt8)) (w : World) (e : Ending) (w' : World) : Prop := ∃ v, e = .returned v ∧ StrsM w' v l ∧ Ext w w'
def WinsP (l : List (List UInt8)) (m : Int) (w : World) (e : Ending) (w' : World) : Prop := ∃ v, e = .returned (.tuple #[v, .int .i64 m]) ∧ StrsM w' v l ∧ Ext w w'
theorem occ1_le (x : Ex) : (occ1 x).length ≤ 1 := by unfold occ1; split <;> simp
theorem win1_le (x : Ex) : (win1 x).length ≤ 1 := by unfold win1; split <;> simp
theorem occ_len (l : List Ex) : (l.flatMap occ1).length ≤ l.length := by
  induction l with
  | nil => simp
  | cons x l ih =>
    have h : (occ1 x).length ≤ 1 := by unfold occ1; split <;> simp
    simp only [List.flatMap_cons, List.length_append, List.length_cons]
    omega
theorem win_len (l : List Ex) : (l.flatMap win1).length ≤ l.length := by
  induction l with
  | nil => simp
  | cons x l ih =>
    have h : (win1 x).length ≤ 1 := by unfold win1; split <;> simp
    simp only [List.flatMap_cons, List.length_append, List.length_cons]
    omega
set_option maxRecDepth 8000 in
set_option maxHeartbeats 2000000 in
theorem names_fn {w : World} {v : Value} (x : Ex) (hS : ExS w v x.args) (hp : x.parts.length ≤ 1000000) : Calls Tryz.prog 49 #[exAgg x v] w (NamesP (uniL x.occ) w) := by
  have hmf : ∀ (fn : Fn) (first cap : Array Value) (w : World), (Instr.makeFunc fn first cap).run Tryz.prog w = .ok (.func fn first cap) w := fun _ _ _ _ => rfl
  obtain ⟨q, cp, rfl⟩ := hS.form
  have hV := Lib.hid (visit_n (w.heap.size + 1) (NS w.heap.size (w.heap.size + 1)) (fun acc y => acc ++ occ1 y) List.length w.heap.size (· = w.heap.size + 1) (fun w1 w2 s h k => h.ext k) (fun w1 s k h e => by subst e; exact ⟨h.1, by obtain ⟨_, _, v, h, _⟩ := h; exact h.lt⟩) (fun s x => by rw [List.length_append]; have := occ1_le x; omega) (fun w1 s x q len cp h1 h2 => names1_any w.heap.size (w.heap.size + 1) (fun k => k = w.heap.size + 1) rfl s x q len cp w1 h1 h2) hS (Nat.le_refl _) x rfl)
  have hol : x.occ.length ≤ 1000000 := Nat.le_trans (occ_len _) hp
  have hfl := Lib.hid (show x.parts.foldl (fun acc y => acc ++ occ1 y) [] = x.occ by rw [foldl_flat]; rfl)
  obtain ⟨op, nm, tx, n, args⟩ := x
  generalize (Ex.mk op nm tx n args).occ = acc at *
  have hpl := Lib.hid hp
  simp only [exAgg_mk, Ex.args] at hV ⊢
  clear hS hp
  go_enter Tryz.func49, Tryz.ntmps49
  go_wp2_with fail
  refine (hV.out _ [] (by repeat (first | with_reducible exact Ext.refl _ | with_reducible exact hE0 | with_reducible exact hE | with_reducible refine Ext.alloc ?_ _ | with_reducible refine Ext.drewN ?_ _ | with_reducible refine Ext.drew ?_ | ((with_reducible refine Ext.setCell ?_ ?side _); (case side => first | exact Nat.le_refl _ | (simp; done) | (simp; omega))))) ⟨by omega, by simp; omega, _, Blk.new' _ _ _ _ (by simp), ⟨rfl, Or.inl ⟨rfl, rfl⟩⟩⟩ (by have := hpl.out; simpa using this)).mono ?_
  rintro e w1 ⟨rfl, hN, hM⟩
  rw [hfl.out] at hN
  have hE : Ext w w1 := hM.ext (by repeat (first | with_reducible exact Ext.refl _ | with_reducible exact hE0 | with_reducible exact hE | with_reducible refine Ext.alloc ?_ _ | with_reducible refine Ext.drewN ?_ _ | with_reducible refine Ext.drew ?_ | ((with_reducible refine Ext.setCell ?_ ?side _); (case side => first | exact Nat.le_refl _ | (simp; done) | (simp; omega))))) (Nat.le_refl _) (fun k e => by subst e; omega)
  clear hM hV hfl hpl
  obtain ⟨-, -, v, hL, hrow⟩ := hN
  by_cases h0 : acc.length = 0
  · obtain rfl := List.length_eq_zero_iff.1 h0
    obtain ⟨p, c, rfl⟩ := owns_formE hrow
    have l0 : w1.cell? ⟨w.heap.size + 1, 0, none⟩ = some (.slice p 0 c) := (hL.cell 0).trans rfl
    clear hrow hL h0 hol
    go_wp2_with fail
    refine (Tryz.slices_Sort_string_none p c _).mono ?_
    rintro e w2 ⟨rfl, rfl⟩
    go_wp2_with fail
    refine (Tryz.slices_Compact_string_empty p c _).mono ?_
    rintro e w2 ⟨rfl, rfl⟩
    go_wp2
    go_ret
    refine ⟨_, rfl, ?_, hE⟩
    rw [uniL_nil]
    exact ⟨p, c, rfl, by simp, fun h => by simp at h⟩
  · obtain ⟨-, ⟨-, h⟩ | ⟨g, cap, cur, rfl, hg, hb, hn, hcm, hcs, htk⟩⟩ := hrow
    · exact absurd h h0
    · have l0 : w1.cell? ⟨w.heap.size + 1, 0, none⟩ = some (.slice (some ⟨g, 0, none⟩) acc.length cap) := (hL.cell 0).trans rfl
      rw [Nat.mul_one] at hcs htk
      have hH := holds_of_block hb htk
      have hS := Lib.hid (Tryz.slices_Sort_string g 0 cap acc w1 hH (Array.getElem?_eq_some_iff.1 hb).1 (by omega))
      have hA := Lib.hid (fun w2 nn os e => after_sort (w2 := w2) (nn := nn) (os := os) (B := w.heap.size) hL hg hb hcs hn e)
      replace hg := Lib.hid hg
      clear hL hb hcm hcs htk hH
      go_wp2_with fail
      refine hS.out.mono ?_
      rintro e w2 ⟨rfl, nn, os, hw2⟩
      obtain ⟨hL2, hG2, hH2, cur2, hb2, hc2⟩ := hA.out w2 nn os hw2
      have hE2 : Ext w w2 := hE.grownS hG2 hg.out
      have hC := Lib.hid (Tryz.slices_Compact_string g 0 cap (sortL acc) w2 hH2 (by rw [sortL_len]; omega) (by rw [sortL_len]; omega))
      rw [sortL_len] at hC
      have hD := Lib.hid (fun w3 q e => after_compact (w3 := w3) (q := q) (B := w.heap.size) (ss := sortL acc) hg.out hb2 hc2 (by rw [sortL_len]; omega) (by rw [sortL_len]; omega) e)
      replace l0 : w2.cell? ⟨w.heap.size + 1, 0, none⟩ = some (.slice (some ⟨g, 0, none⟩) acc.length cap) := (hL2.cell 0).trans rfl
      clear hw2 hG2 hH2 hb2 hc2 hL2 hS hA hE
      rw [sortL_len] at hD
      go_wp2_with fail
      refine hC.out.mono ?_
      rintro e w3 ⟨rfl, qq, hw3⟩
      obtain ⟨hG3, hS3⟩ := hD.out w3 qq hw3
      have hE3 : Ext w w3 := hE2.grownS hG3 hg.out
      clear hw3 hG3 hC hD
      go_wp2
      go_ret
      exact ⟨_, rfl, hS3, hE3⟩
theorem blk_ne {w : World} {k g : Nat} {cs cur : Array Value} {T : TypeId} {z : Nat × Nat} (h : Blk w k cs T) (hT : T ≠ 9) (hb : w.heap[g]? = some (.cells cur 9 z)) : some k ≠ some g := by
  intro e
  injection e with e
  subst e
  unfold Blk at h
  rw [h] at hb
  injection hb with hb
  injection hb with _ h5
  exact hT h5
end Go.Proofs.YtpdpjindmghfpaaGreatDoor
