/- The table of uses of the law: contracts of Count and Sum (walks). -/
import Derived.Test.YtpdpjindmghfpaaEas
import Derived.Test.YtpdpjindmghfpaaEcb
import Derived.StillTailTactics
namespace Go.Proofs.Ytpdpjindmghfpaa
open Go.RowKit
/-- What a source says about a name and a window. -/
structure UseD where
  name : ByteArray
  window : Int
  cnt : Int
  sm : Int
def uD : UseD := ⟨emS, 0, 0, 0⟩
/-- The first use of a name and a window. -/
def usedV (us : List UseD) (nm : ByteArray) (n : Int) : UseD := (us.find? fun u => decide (u.name = nm ∧ u.window = n)).getD uD
/-- The slice v reads as the uses. -/
def UsesM (w : World) (v : Value) (l : List UseD) : Prop :=
  l.length ≤ 1000000 ∧ ((∃ p c, v = .slice p 0 c ∧ l = []) ∨ ∃ b off c, v = .slice (some ⟨b, off, none⟩) l.length c ∧ ∀ i, i < l.length → (w.cell? ⟨b, off + i * 4, none⟩ = some (.string (l.getD i uD).name) ∧ w.cell? ⟨b, off + i * 4 + 1, none⟩ = some (.int .i64 (l.getD i uD).window) ∧ w.cell? ⟨b, off + i * 4 + 1 + 1, none⟩ = some (.int .i64 (l.getD i uD).cnt) ∧ w.cell? ⟨b, off + i * 4 + 1 + 1 + 1, none⟩ = some (.int .i64 (l.getD i uD).sm)))
theorem UsesM.ext {w w' : World} {v : Value} {l : List UseD} (h : UsesM w v l) (k : Ext w w') : UsesM w' v l := by
  refine ⟨h.1, ?_⟩
  rcases h.2 with h | ⟨b, off, c, hv, hc⟩
  · exact Or.inl h
  · exact Or.inr ⟨b, off, c, hv, fun i hi => ⟨k.get (hc i hi).1, k.get (hc i hi).2.1, k.get (hc i hi).2.2.1, k.get (hc i hi).2.2.2⟩⟩
theorem UsesM.form {w : World} {v : Value} {l : List UseD} (h : UsesM w v l) : ∃ p c, v = .slice p l.length c := by
  rcases h.2 with ⟨p, c, hv, hl⟩ | ⟨b, off, c, hv, hc⟩
  · exact ⟨p, c, by rw [hv, hl]; rfl⟩
  · exact ⟨_, _, hv⟩
theorem UsesM.at {w : World} {p : Option Addr} {c : Nat} {l : List UseD} (h : UsesM w (.slice p l.length c) l) (h0 : 0 < l.length) : ∃ b off, p = some ⟨b, off, none⟩ ∧ ∀ i, i < l.length → (w.cell? ⟨b, off + i * 4, none⟩ = some (.string (l.getD i uD).name) ∧ w.cell? ⟨b, off + i * 4 + 1, none⟩ = some (.int .i64 (l.getD i uD).window) ∧ w.cell? ⟨b, off + i * 4 + 1 + 1, none⟩ = some (.int .i64 (l.getD i uD).cnt) ∧ w.cell? ⟨b, off + i * 4 + 1 + 1 + 1, none⟩ = some (.int .i64 (l.getD i uD).sm)) := by
  rcases h.2 with ⟨p', c', hv, hl⟩ | ⟨b, off, c', hv, hc⟩
  · rw [hl] at h0; cases h0
  · injection hv with h1 h2 h3
    exact ⟨b, off, h1, hc⟩
theorem used_step (us : List UseD) (nm : ByteArray) (n : Int) (k : Nat) (h : k < us.length) : usedV (us.drop k) nm n = if (us.getD k uD).name = nm ∧ (us.getD k uD).window = n then us.getD k uD else usedV (us.drop (k + 1)) nm n := by
  have hg : us.getD k uD = us[k] := by rw [List.getD_eq_getElem?_getD, List.getElem?_eq_getElem h, Option.getD_some]
  rw [hg, List.drop_eq_getElem_cons h]
  unfold usedV
  rw [List.find?_cons]
  by_cases hc : us[k].name = nm ∧ us[k].window = n
  · simp [hc]
  · rw [if_neg hc, decide_eq_false hc]
set_option maxRecDepth 8000 in
set_option maxHeartbeats 1000000 in
theorem count_any (us : List UseD) (v : Value) (nm : ByteArray) (n : Int) (w : World) (hU : UsesM w v us) : Calls Try.prog 96 #[v, .string nm, .int .i64 n] w fun e w' => e = .returned (.int .i64 (usedV us nm n).cnt) ∧ w = w' := by
  obtain ⟨p, c, rfl⟩ := hU.form
  have hlen := hU.1
  replace hU := Lib.hid hU
  go_enter Try.func96, Try.ntmps96
  go_wp2
  go_loop [7] (fun i => ∃ k : Nat, k ≤ us.length ∧ i = .int .i64 k ∧ usedV us nm n = usedV (us.drop k) nm n) (fun i => us.length - (intOf i).toNat)
  case atStart => exact ⟨0, Nat.zero_le _, rfl, rfl⟩
  case round =>
    obtain ⟨k, hk, rfl, hR⟩ := hrel
    replace hR := Lib.hid hR
    by_cases hlt : k < us.length
    · obtain ⟨b, off, rfl, hat⟩ := hU.out.at (by omega)
      obtain ⟨c0, c1, c2, c3⟩ := hat k hlt
      have hst := Lib.hid (used_step us nm n k hlt)
      clear hat
      generalize us.getD k uD = u at *
      by_cases h1 : u.name = nm
      · by_cases h2 : u.window = n
        · have hV := Lib.hid (show usedV us nm n = u by rw [hR.out, hst.out, if_pos ⟨h1, h2⟩])
          have g1 := strEq h1
          have g2 : (u.window == n) = true := by simp [h2]
          subst h1
          clear h2
          go_wp2
          go_ret
          exact ⟨by rw [hV.out]; rfl, rfl⟩
        · have hV := Lib.hid (show usedV us nm n = usedV (us.drop (k + 1)) nm n by rw [hR.out, hst.out, if_neg (fun h => h2 h.2)])
          have g2 : (u.window == n) = false := by simp [h2]
          subst h1
          clear h2
          go_wp2
          go_round
          case rel => exact ⟨k + 1, by omega, by go_num, hV.out⟩
          case measure => simp [intOf]; omega
      · have hV := Lib.hid (show usedV us nm n = usedV (us.drop (k + 1)) nm n by rw [hR.out, hst.out, if_neg (fun h => h1 h.1)])
        have g1 := strNe h1
        have g3 := bytes_ne h1
        clear h1
        go_wp2
        go_round
        case rel => exact ⟨k + 1, by omega, by go_num, hV.out⟩
        case measure => simp [intOf]; omega
    · have hdd : us.drop k = [] := List.drop_eq_nil_of_le (by omega)
      have hV := Lib.hid (show (usedV us nm n).cnt = 0 by rw [hR.out, hdd]; rfl)
      clear hdd
      go_wp2
      go_ret
      exact ⟨by rw [hV.out]; rfl, rfl⟩

set_option maxRecDepth 8000 in
set_option maxHeartbeats 1000000 in
theorem tsum_any (us : List UseD) (v : Value) (nm : ByteArray) (n : Int) (w : World) (hU : UsesM w v us) : Calls Try.prog 97 #[v, .string nm, .int .i64 n] w fun e w' => e = .returned (.int .i64 (usedV us nm n).sm) ∧ w = w' := by
  obtain ⟨p, c, rfl⟩ := hU.form
  have hlen := hU.1
  replace hU := Lib.hid hU
  go_enter Try.func97, Try.ntmps97
  go_wp2
  go_loop [7] (fun i => ∃ k : Nat, k ≤ us.length ∧ i = .int .i64 k ∧ usedV us nm n = usedV (us.drop k) nm n) (fun i => us.length - (intOf i).toNat)
  case atStart => exact ⟨0, Nat.zero_le _, rfl, rfl⟩
  case round =>
    obtain ⟨k, hk, rfl, hR⟩ := hrel
    replace hR := Lib.hid hR
    by_cases hlt : k < us.length
    · obtain ⟨b, off, rfl, hat⟩ := hU.out.at (by omega)
      obtain ⟨c0, c1, c2, c3⟩ := hat k hlt
      have hst := Lib.hid (used_step us nm n k hlt)
      clear hat
      generalize us.getD k uD = u at *
      by_cases h1 : u.name = nm
      · by_cases h2 : u.window = n
        · have hV := Lib.hid (show usedV us nm n = u by rw [hR.out, hst.out, if_pos ⟨h1, h2⟩])
          have g1 := strEq h1
          have g2 : (u.window == n) = true := by simp [h2]
          subst h1
          clear h2
          go_wp2
          go_ret
          exact ⟨by rw [hV.out]; rfl, rfl⟩
        · have hV := Lib.hid (show usedV us nm n = usedV (us.drop (k + 1)) nm n by rw [hR.out, hst.out, if_neg (fun h => h2 h.2)])
          have g2 : (u.window == n) = false := by simp [h2]
          subst h1
          clear h2
          go_wp2
          go_round
          case rel => exact ⟨k + 1, by omega, by go_num, hV.out⟩
          case measure => simp [intOf]; omega
      · have hV := Lib.hid (show usedV us nm n = usedV (us.drop (k + 1)) nm n by rw [hR.out, hst.out, if_neg (fun h => h1 h.1)])
        have g1 := strNe h1
        have g3 := bytes_ne h1
        clear h1
        go_wp2
        go_round
        case rel => exact ⟨k + 1, by omega, by go_num, hV.out⟩
        case measure => simp [intOf]; omega
    · have hdd : us.drop k = [] := List.drop_eq_nil_of_le (by omega)
      have hV := Lib.hid (show (usedV us nm n).sm = 0 by rw [hR.out, hdd]; rfl)
      clear hdd
      go_wp2
      go_ret
      exact ⟨by rw [hV.out]; rfl, rfl⟩
theorem met_count (f : Nat) (v : Value) (w : World) : (method (f + 1) 40 v "Count").run Try.prog w = .ok (96, v) w := by kernel_rfl
theorem met_sum (f : Nat) (v : Value) (w : World) : (method (f + 1) 40 v "Sum").run Try.prog w = .ok (97, v) w := by kernel_rfl
set_option maxRecDepth 8000 in
set_option maxHeartbeats 1000000 in
theorem ask_c (m : Int) (E : Nat) (nm tx : ByteArray) (n : Int) (u : Value) (p : Option Addr) (len c : Nat) (w : World) (hs : w.cell? ⟨E, 1, none⟩ = some (.iface 40 (.slice p len c)))
    (hU : ∀ w1, Ext w w1 → Calls Try.prog 96 #[.slice p len c, .string nm, .int .i64 n] w1 fun e w' => e = .returned (.int .i64 m) ∧ w1 = w') : Calls Try.prog 40 #[.pointer (some ⟨E, 0, none⟩), .agg #[.int .i64 16, .string nm, .string tx, .int .i64 n, u]] w (AskPost (okN m) w) := by
  have hmf : ∀ (fn : Fn) (first cap : Array Value) (w : World), (Instr.makeFunc fn first cap).run Try.prog w = .ok (.func fn first cap) w := fun _ _ _ _ => rfl
  have hE : E < w.heap.size := cell_lt hs
  have hE1 : E < w.heap.size + 1 := by omega
  have hE2 : E < w.heap.size + 1 + 1 := by omega
  replace hU := Lib.hid hU
  have hq : ∀ (v : Value) (w : World), (binOp .eql 59 (.iface 40 v) .nilIface).run Try.prog w = .ok (.bool false) w := fun _ _ => rfl
  go_enter_defers Try.func40, Try.ntmps40
  go_wp2
  have hb0 : Blk ((((w.alloc (.cells #[.int .i64 16, .string nm, .string tx, .int .i64 n, u] 27)).alloc (.cells #[.int .i64 0] 2)).alloc (.cells #[.bool false] 4))) w.heap.size #[.int .i64 16, .string nm, .string tx, .int .i64 n, u] 27 := ((Blk.new _ _ _).alloc _).alloc _
  have hb1 : Blk ((((w.alloc (.cells #[.int .i64 16, .string nm, .string tx, .int .i64 n, u] 27)).alloc (.cells #[.int .i64 0] 2)).alloc (.cells #[.bool false] 4))) (w.heap.size + 1) #[.int .i64 0] 2 := (Blk.new' _ _ _ _ (by simp)).alloc _
  have hb2 : Blk ((((w.alloc (.cells #[.int .i64 16, .string nm, .string tx, .int .i64 n, u] 27)).alloc (.cells #[.int .i64 0] 2)).alloc (.cells #[.bool false] 4))) (w.heap.size + 1 + 1) #[.bool false] 4 := (Blk.new' _ _ _ _ (by simp))
  have hE9 : Ext w ((((w.alloc (.cells #[.int .i64 16, .string nm, .string tx, .int .i64 n, u] 27)).alloc (.cells #[.int .i64 0] 2)).alloc (.cells #[.bool false] 4))) := (by repeat (first | with_reducible exact Ext.refl _ | with_reducible exact hE0 | with_reducible exact hE | with_reducible refine Ext.alloc ?_ _ | with_reducible refine Ext.drewN ?_ _ | with_reducible refine Ext.drew ?_ | ((with_reducible refine Ext.setCell ?_ ?side _); (case side => first | exact Nat.le_refl _ | (simp; done) | (simp; omega)))))
  generalize ((((w.alloc (.cells #[.int .i64 16, .string nm, .string tx, .int .i64 n, u] 27)).alloc (.cells #[.int .i64 0] 2)).alloc (.cells #[.bool false] 4))) = w9 at *
  have s1 := hE9.get hs
  have x1 : w9.cell? ⟨w.heap.size, 1, none⟩ = some (.string nm) := (hb0.cell 1).trans rfl
  have x3 : w9.cell? ⟨w.heap.size, 3, none⟩ = some (.int .i64 n) := (hb0.cell 3).trans rfl
  have y0 : w9.cell? ⟨w.heap.size + 1, 0, none⟩ = some (.int .i64 0) := (hb1.cell 0).trans rfl
  have yf : w9.frozen? ⟨w.heap.size + 1, 0, none⟩ = false := hb1.fz 0
  have z0 : w9.cell? ⟨w.heap.size + 1 + 1, 0, none⟩ = some (.bool false) := (hb2.cell 0).trans rfl
  have zf : w9.frozen? ⟨w.heap.size + 1 + 1, 0, none⟩ = false := hb2.fz 0
  clear hs
  have hm := met_count
  refine wp_region_still_tail 9 (by kernel_rfl) (by kernel_rfl) ?_
  simp only [List.take_succ_cons, List.take_zero, List.drop_succ_cons, List.drop_zero]
  repeat still_step
  still_call ((hU.out _ hE9.drew).mono fun e w' h => ⟨h.1, h.2.symm⟩)
  clear hm
  repeat still_step
  refine wpStill_nil ?_
  go_wp2_with fail
  refine (isNumber_any m _).mono ?_
  rintro e w1 ⟨rfl, rfl⟩
  cases hn : nbrB m with
  | true =>
    have hO := Lib.hid (show okN m = some m by simp [okN, hn])
    go_wp2
    refine leaves_cons (f := 49) (args := #[.pointer (some ⟨w.heap.size + 1, 0, none⟩), .pointer (some ⟨w.heap.size + 1 + 1, 0, none⟩)]) (by simp) (by simp [go_sem]) ?_
    refine (ask1_idle _ _ _).mono ?_
    rintro e u' w'' ⟨rfl, rfl, rfl⟩
    simp [Leaves, settle, results, Try.results40, go_sem, y0, z0]
    exact ⟨by rw [hO.out]; rfl, (((hE9.setCell (by simp) _).setCell (by simp) _).setCell (by simp; omega) _).drew⟩
  | false =>
    have hO := Lib.hid (show okN m = none by simp [okN, hn])
    go_wp2
    refine leaves_cons (f := 49) (args := #[.pointer (some ⟨w.heap.size + 1, 0, none⟩), .pointer (some ⟨w.heap.size + 1 + 1, 0, none⟩)]) (by simp) (by simp [go_sem]) ?_
    refine (ask1_idle _ _ _).mono ?_
    rintro e u' w'' ⟨rfl, rfl, rfl⟩
    simp [Leaves, settle, results, Try.results40, go_sem, y0, z0]
    exact ⟨by rw [hO.out]; rfl, (((hE9.setCell (by simp) _).setCell (by simp) _).setCell (by simp; omega) _).drew⟩
set_option maxRecDepth 8000 in
set_option maxHeartbeats 1000000 in
theorem ask_s (m : Int) (E : Nat) (nm tx : ByteArray) (n : Int) (u : Value) (p : Option Addr) (len c : Nat) (w : World) (hs : w.cell? ⟨E, 1, none⟩ = some (.iface 40 (.slice p len c)))
    (hU : ∀ w1, Ext w w1 → Calls Try.prog 97 #[.slice p len c, .string nm, .int .i64 n] w1 fun e w' => e = .returned (.int .i64 m) ∧ w1 = w') : Calls Try.prog 40 #[.pointer (some ⟨E, 0, none⟩), .agg #[.int .i64 17, .string nm, .string tx, .int .i64 n, u]] w (AskPost (okN m) w) := by
  have hmf : ∀ (fn : Fn) (first cap : Array Value) (w : World), (Instr.makeFunc fn first cap).run Try.prog w = .ok (.func fn first cap) w := fun _ _ _ _ => rfl
  have hE : E < w.heap.size := cell_lt hs
  have hE1 : E < w.heap.size + 1 := by omega
  have hE2 : E < w.heap.size + 1 + 1 := by omega
  replace hU := Lib.hid hU
  have hq : ∀ (v : Value) (w : World), (binOp .eql 59 (.iface 40 v) .nilIface).run Try.prog w = .ok (.bool false) w := fun _ _ => rfl
  go_enter_defers Try.func40, Try.ntmps40
  go_wp2
  have hb0 : Blk ((((w.alloc (.cells #[.int .i64 17, .string nm, .string tx, .int .i64 n, u] 27)).alloc (.cells #[.int .i64 0] 2)).alloc (.cells #[.bool false] 4))) w.heap.size #[.int .i64 17, .string nm, .string tx, .int .i64 n, u] 27 := ((Blk.new _ _ _).alloc _).alloc _
  have hb1 : Blk ((((w.alloc (.cells #[.int .i64 17, .string nm, .string tx, .int .i64 n, u] 27)).alloc (.cells #[.int .i64 0] 2)).alloc (.cells #[.bool false] 4))) (w.heap.size + 1) #[.int .i64 0] 2 := (Blk.new' _ _ _ _ (by simp)).alloc _
  have hb2 : Blk ((((w.alloc (.cells #[.int .i64 17, .string nm, .string tx, .int .i64 n, u] 27)).alloc (.cells #[.int .i64 0] 2)).alloc (.cells #[.bool false] 4))) (w.heap.size + 1 + 1) #[.bool false] 4 := (Blk.new' _ _ _ _ (by simp))
  have hE9 : Ext w ((((w.alloc (.cells #[.int .i64 17, .string nm, .string tx, .int .i64 n, u] 27)).alloc (.cells #[.int .i64 0] 2)).alloc (.cells #[.bool false] 4))) := (by repeat (first | with_reducible exact Ext.refl _ | with_reducible exact hE0 | with_reducible exact hE | with_reducible refine Ext.alloc ?_ _ | with_reducible refine Ext.drewN ?_ _ | with_reducible refine Ext.drew ?_ | ((with_reducible refine Ext.setCell ?_ ?side _); (case side => first | exact Nat.le_refl _ | (simp; done) | (simp; omega)))))
  generalize ((((w.alloc (.cells #[.int .i64 17, .string nm, .string tx, .int .i64 n, u] 27)).alloc (.cells #[.int .i64 0] 2)).alloc (.cells #[.bool false] 4))) = w9 at *
  have s1 := hE9.get hs
  have x1 : w9.cell? ⟨w.heap.size, 1, none⟩ = some (.string nm) := (hb0.cell 1).trans rfl
  have x3 : w9.cell? ⟨w.heap.size, 3, none⟩ = some (.int .i64 n) := (hb0.cell 3).trans rfl
  have y0 : w9.cell? ⟨w.heap.size + 1, 0, none⟩ = some (.int .i64 0) := (hb1.cell 0).trans rfl
  have yf : w9.frozen? ⟨w.heap.size + 1, 0, none⟩ = false := hb1.fz 0
  have z0 : w9.cell? ⟨w.heap.size + 1 + 1, 0, none⟩ = some (.bool false) := (hb2.cell 0).trans rfl
  have zf : w9.frozen? ⟨w.heap.size + 1 + 1, 0, none⟩ = false := hb2.fz 0
  clear hs
  have hm := met_sum
  refine wp_region_still_tail 9 (by kernel_rfl) (by kernel_rfl) ?_
  simp only [List.take_succ_cons, List.take_zero, List.drop_succ_cons, List.drop_zero]
  repeat still_step
  still_call ((hU.out _ hE9.drew).mono fun e w' h => ⟨h.1, h.2.symm⟩)
  clear hm
  repeat still_step
  refine wpStill_nil ?_
  go_wp2_with fail
  refine (isNumber_any m _).mono ?_
  rintro e w1 ⟨rfl, rfl⟩
  cases hn : nbrB m with
  | true =>
    have hO := Lib.hid (show okN m = some m by simp [okN, hn])
    go_wp2
    refine leaves_cons (f := 49) (args := #[.pointer (some ⟨w.heap.size + 1, 0, none⟩), .pointer (some ⟨w.heap.size + 1 + 1, 0, none⟩)]) (by simp) (by simp [go_sem]) ?_
    refine (ask1_idle _ _ _).mono ?_
    rintro e u' w'' ⟨rfl, rfl, rfl⟩
    simp [Leaves, settle, results, Try.results40, go_sem, y0, z0]
    exact ⟨by rw [hO.out]; rfl, (((hE9.setCell (by simp) _).setCell (by simp) _).setCell (by simp; omega) _).drew⟩
  | false =>
    have hO := Lib.hid (show okN m = none by simp [okN, hn])
    go_wp2
    refine leaves_cons (f := 49) (args := #[.pointer (some ⟨w.heap.size + 1, 0, none⟩), .pointer (some ⟨w.heap.size + 1 + 1, 0, none⟩)]) (by simp) (by simp [go_sem]) ?_
    refine (ask1_idle _ _ _).mono ?_
    rintro e u' w'' ⟨rfl, rfl, rfl⟩
    simp [Leaves, settle, results, Try.results40, go_sem, y0, z0]
    exact ⟨by rw [hO.out]; rfl, (((hE9.setCell (by simp) _).setCell (by simp) _).setCell (by simp; omega) _).drew⟩
def tabS (us : List UseD) (b : Bool) (nm : ByteArray) (n : Int) : Int := if b then (usedV us nm n).cnt else (usedV us nm n).sm
theorem asker_tab {w : World} {E : Nat} {tv : Value} {us : List UseD} (hs : w.cell? ⟨E, 1, none⟩ = some (.iface 40 tv)) (hU : UsesM w tv us) : Asker w E (tabS us) := by
  intro w' hE op nm tx n u hop
  obtain ⟨p, c, rfl⟩ := hU.form
  rcases hop with rfl | rfl
  · exact ask_c (usedV us nm n).cnt E nm tx n u p us.length c w' (hE.get hs) (fun w1 h1 => count_any us _ nm n w1 (hU.ext (hE.trans h1)))
  · exact ask_s (usedV us nm n).sm E nm tx n u p us.length c w' (hE.get hs) (fun w1 h1 => tsum_any us _ nm n w1 (hU.ext (hE.trans h1)))
end Go.Proofs.Ytpdpjindmghfpaa
