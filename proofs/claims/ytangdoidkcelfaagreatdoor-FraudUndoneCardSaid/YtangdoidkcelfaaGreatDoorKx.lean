/- What an evaluator is told by the source of Judge (walks; printed by gen/h37.py). -/
import Derived.Test.YtangdoidkcelfaaGreatDoorKv
import Derived.StillTailTactics
namespace Go.Proofs.YtangdoidkcelfaaGreatDoor
open Go.RowKit Go.Sort
theorem metS_count (f : Nat) (v : Value) (w : World) : (method (f + 1) 102 v "Count").run Tryz.prog w = .ok (174, v) w := by kernel_rfl
theorem metS_sum (f : Nat) (v : Value) (w : World) : (method (f + 1) 102 v "Sum").run Tryz.prog w = .ok (175, v) w := by kernel_rfl
theorem ext_atv {w z u : World} (_ : Ext w z) (h : Ext z u) : Ext z u := h
theorem ext_undrewv {a b : World} (h : Ext a.drew b) : Ext a b := Ext.trans (Ext.refl _).drew h
set_option maxRecDepth 8000 in
set_option maxHeartbeats 4000000 in
theorem askS_c (m : Int) (E : Nat) (nm tx : ByteArray) (n : Int) (u sv : Value) (w : World) (hs : w.cell? ⟨E, 1, none⟩ = some (.iface 102 sv))
 (hU : ∀ w1, Ext w w1 → Calls Tryz.prog 174 #[sv, .string nm, .int .i64 n] w1 (OneQ (.int .i64 m) w1)) : Calls Tryz.prog 101 #[.pointer (some ⟨E, 0, none⟩), .agg #[.int .i64 16, .string nm, .string tx, .int .i64 n, u]] w (AskPost (okN m) w) := by
 have hmf : ∀ (fn : Fn) (first cap : Array Value) (w : World), (Instr.makeFunc fn first cap).run Tryz.prog w = .ok (.func fn first cap) w := fun _ _ _ _ => rfl
 have hE : E < w.heap.size := cell_lt hs
 have hE1 : E < w.heap.size + 1 := by omega
 have hE2 : E < w.heap.size + 1 + 1 := by omega
 unfold OneQ at hU
 replace hU := Lib.hid hU
 have hq : ∀ (v : Value) (w : World), (binOp .eql 125 (.iface 102 v) .nilIface).run Tryz.prog w = .ok (.bool false) w := fun _ _ => rfl
 go_enter_defers Tryz.func101, Tryz.ntmps101
 go_wp2
 have hb0 : Blk ((((w.alloc (.cells #[.int .i64 16, .string nm, .string tx, .int .i64 n, u] 40)).alloc (.cells #[.int .i64 0] 2)).alloc (.cells #[.bool false] 4))) w.heap.size #[.int .i64 16, .string nm, .string tx, .int .i64 n, u] 40 := ((Blk.new _ _ _).alloc _).alloc _
 have hb1 : Blk ((((w.alloc (.cells #[.int .i64 16, .string nm, .string tx, .int .i64 n, u] 40)).alloc (.cells #[.int .i64 0] 2)).alloc (.cells #[.bool false] 4))) (w.heap.size + 1) #[.int .i64 0] 2 := (Blk.new' _ _ _ _ (by simp)).alloc _
 have hb2 : Blk ((((w.alloc (.cells #[.int .i64 16, .string nm, .string tx, .int .i64 n, u] 40)).alloc (.cells #[.int .i64 0] 2)).alloc (.cells #[.bool false] 4))) (w.heap.size + 1 + 1) #[.bool false] 4 := (Blk.new' _ _ _ _ (by simp))
 have hE9 : Ext w ((((w.alloc (.cells #[.int .i64 16, .string nm, .string tx, .int .i64 n, u] 40)).alloc (.cells #[.int .i64 0] 2)).alloc (.cells #[.bool false] 4))) := xt
 generalize ((((w.alloc (.cells #[.int .i64 16, .string nm, .string tx, .int .i64 n, u] 40)).alloc (.cells #[.int .i64 0] 2)).alloc (.cells #[.bool false] 4))) = w9 at *
 have s1 := hE9.get hs
 have x1 : w9.cell? ⟨w.heap.size, 1, none⟩ = some (.string nm) := (hb0.cell 1).trans rfl
 have x3 : w9.cell? ⟨w.heap.size, 3, none⟩ = some (.int .i64 n) := (hb0.cell 3).trans rfl
 have hB0 : w.heap.size ≤ w.heap.size + 1 := by omega
 have hB3 : w.heap.size + 1 ≠ w.heap.size := by omega
 have hB45 : w.heap.size + 1 ≠ w.heap.size + 1 + 1 := by omega
 obtain ⟨B5, hB5⟩ : ∃ B5, B5 = w.heap.size + 1 + 1 := ⟨_, rfl⟩
 rw [← hB5] at hb2 hB45 hE2 ⊢
 have hB05 : w.heap.size ≤ B5 := by omega
 clear hB5
 obtain ⟨B4, hB4⟩ : ∃ B4, B4 = w.heap.size + 1 := ⟨_, rfl⟩
 rw [← hB4] at hb1 hB45 hB0 hB3 hE1 ⊢
 clear hB4 hb0 hs
 have y0 : w9.cell? ⟨B4, 0, none⟩ = some (.int .i64 0) := (hb1.cell 0).trans rfl
 have yf : w9.frozen? ⟨B4, 0, none⟩ = false := hb1.fz 0
 have z0 : w9.cell? ⟨B5, 0, none⟩ = some (.bool false) := (hb2.cell 0).trans rfl
 have zf : w9.frozen? ⟨B5, 0, none⟩ = false := hb2.fz 0
 have hl4 := hb1.lt
 have hl5 := hb2.lt
 replace hb1 := Lib.hid hb1
 replace hb2 := Lib.hid hb2
 have hm := metS_count
 go_region_held3 (fun w' => w'.cell? ⟨E, 1, none⟩ = some (.iface 102 sv) ∧ w'.cell? ⟨w.heap.size, 1, none⟩ = some (.string nm) ∧ w'.cell? ⟨w.heap.size, 3, none⟩ = some (.int .i64 n)) (first | exact ⟨s1, x1, x3⟩ | exact ⟨(World.cell?_setCell_far _ _ _ _ (show B4 ≠ E by omega)).trans s1, (World.cell?_setCell_far _ _ _ _ hB3).trans x1, (World.cell?_setCell_far _ _ _ _ hB3).trans x3⟩) ((go_at_call 174; refine (hU.out _ (by first | exact hE9 | exact hE9.drew)).mono ?_; rintro e w6 ⟨rfl, hE6⟩; have hS := ext_atv hE9 (by first | exact hE6 | exact ext_undrewv hE6); have s1 := hS.get s1; have x1 := hS.get x1; have x3 := hS.get x3; replace hb1 := Lib.hid (hb1.out.ext hS); replace hb2 := Lib.hid (hb2.out.ext hS); have y0 : w6.cell? ⟨B4, 0, none⟩ = some (.int .i64 0) := (hb1.out.cell 0).trans rfl; have yf : w6.frozen? ⟨B4, 0, none⟩ = false := hb1.out.fz 0; have z0 : w6.cell? ⟨B5, 0, none⟩ = some (.bool false) := (hb2.out.cell 0).trans rfl; have zf : w6.frozen? ⟨B5, 0, none⟩ = false := hb2.out.fz 0; have hl4 := hb1.out.lt; have hl5 := hb2.out.lt; have hE9 := hE9.trans hS; clear hS hE6))
 all_goals
  clear hm hU s1 x1 x3
  go_wp2_with fail
  refine (isNumber_any m _).mono ?_
  rintro e w1 ⟨rfl, rfl⟩
  cases hn : nbrB m with
  | true =>
   have hO := Lib.hid (show okN m = some m by simp [okN, hn])
   go_wp2
   refine leaves_cons (f := 130) (args := #[.pointer (some ⟨B4, 0, none⟩), .pointer (some ⟨B5, 0, none⟩)]) (by simp) (by simp [go_sem]) ?_
   refine (ask1_idle _ _ _).mono ?_
   rintro e u' w'' ⟨rfl, rfl, rfl⟩
   simp [Leaves, settle, results, Tryz.results101, go_sem, y0, z0]
   exact ⟨by rw [hO.out]; rfl, ((hE9.setCell hB0 _).setCell hB0 _).setCell hB05 _⟩
  | false =>
   have hO := Lib.hid (show okN m = none by simp [okN, hn])
   go_wp2
   refine leaves_cons (f := 130) (args := #[.pointer (some ⟨B4, 0, none⟩), .pointer (some ⟨B5, 0, none⟩)]) (by simp) (by simp [go_sem]) ?_
   refine (ask1_idle _ _ _).mono ?_
   rintro e u' w'' ⟨rfl, rfl, rfl⟩
   simp [Leaves, settle, results, Tryz.results101, go_sem, y0, z0]
   exact ⟨by rw [hO.out]; rfl, ((hE9.setCell hB0 _).setCell hB0 _).setCell hB05 _⟩
set_option maxRecDepth 8000 in
set_option maxHeartbeats 4000000 in
theorem askS_s (m : Int) (E : Nat) (nm tx : ByteArray) (n : Int) (u sv : Value) (w : World) (hs : w.cell? ⟨E, 1, none⟩ = some (.iface 102 sv))
 (hU : ∀ w1, Ext w w1 → Calls Tryz.prog 175 #[sv, .string nm, .int .i64 n] w1 (OneQ (.int .i64 m) w1)) : Calls Tryz.prog 101 #[.pointer (some ⟨E, 0, none⟩), .agg #[.int .i64 17, .string nm, .string tx, .int .i64 n, u]] w (AskPost (okN m) w) := by
 have hmf : ∀ (fn : Fn) (first cap : Array Value) (w : World), (Instr.makeFunc fn first cap).run Tryz.prog w = .ok (.func fn first cap) w := fun _ _ _ _ => rfl
 have hE : E < w.heap.size := cell_lt hs
 have hE1 : E < w.heap.size + 1 := by omega
 have hE2 : E < w.heap.size + 1 + 1 := by omega
 unfold OneQ at hU
 replace hU := Lib.hid hU
 have hq : ∀ (v : Value) (w : World), (binOp .eql 125 (.iface 102 v) .nilIface).run Tryz.prog w = .ok (.bool false) w := fun _ _ => rfl
 go_enter_defers Tryz.func101, Tryz.ntmps101
 go_wp2
 have hb0 : Blk ((((w.alloc (.cells #[.int .i64 17, .string nm, .string tx, .int .i64 n, u] 40)).alloc (.cells #[.int .i64 0] 2)).alloc (.cells #[.bool false] 4))) w.heap.size #[.int .i64 17, .string nm, .string tx, .int .i64 n, u] 40 := ((Blk.new _ _ _).alloc _).alloc _
 have hb1 : Blk ((((w.alloc (.cells #[.int .i64 17, .string nm, .string tx, .int .i64 n, u] 40)).alloc (.cells #[.int .i64 0] 2)).alloc (.cells #[.bool false] 4))) (w.heap.size + 1) #[.int .i64 0] 2 := (Blk.new' _ _ _ _ (by simp)).alloc _
 have hb2 : Blk ((((w.alloc (.cells #[.int .i64 17, .string nm, .string tx, .int .i64 n, u] 40)).alloc (.cells #[.int .i64 0] 2)).alloc (.cells #[.bool false] 4))) (w.heap.size + 1 + 1) #[.bool false] 4 := (Blk.new' _ _ _ _ (by simp))
 have hE9 : Ext w ((((w.alloc (.cells #[.int .i64 17, .string nm, .string tx, .int .i64 n, u] 40)).alloc (.cells #[.int .i64 0] 2)).alloc (.cells #[.bool false] 4))) := xt
 generalize ((((w.alloc (.cells #[.int .i64 17, .string nm, .string tx, .int .i64 n, u] 40)).alloc (.cells #[.int .i64 0] 2)).alloc (.cells #[.bool false] 4))) = w9 at *
 have s1 := hE9.get hs
 have x1 : w9.cell? ⟨w.heap.size, 1, none⟩ = some (.string nm) := (hb0.cell 1).trans rfl
 have x3 : w9.cell? ⟨w.heap.size, 3, none⟩ = some (.int .i64 n) := (hb0.cell 3).trans rfl
 have hB0 : w.heap.size ≤ w.heap.size + 1 := by omega
 have hB3 : w.heap.size + 1 ≠ w.heap.size := by omega
 have hB45 : w.heap.size + 1 ≠ w.heap.size + 1 + 1 := by omega
 obtain ⟨B5, hB5⟩ : ∃ B5, B5 = w.heap.size + 1 + 1 := ⟨_, rfl⟩
 rw [← hB5] at hb2 hB45 hE2 ⊢
 have hB05 : w.heap.size ≤ B5 := by omega
 clear hB5
 obtain ⟨B4, hB4⟩ : ∃ B4, B4 = w.heap.size + 1 := ⟨_, rfl⟩
 rw [← hB4] at hb1 hB45 hB0 hB3 hE1 ⊢
 clear hB4 hb0 hs
 have y0 : w9.cell? ⟨B4, 0, none⟩ = some (.int .i64 0) := (hb1.cell 0).trans rfl
 have yf : w9.frozen? ⟨B4, 0, none⟩ = false := hb1.fz 0
 have z0 : w9.cell? ⟨B5, 0, none⟩ = some (.bool false) := (hb2.cell 0).trans rfl
 have zf : w9.frozen? ⟨B5, 0, none⟩ = false := hb2.fz 0
 have hl4 := hb1.lt
 have hl5 := hb2.lt
 replace hb1 := Lib.hid hb1
 replace hb2 := Lib.hid hb2
 have hm := metS_sum
 go_region_held3 (fun w' => w'.cell? ⟨E, 1, none⟩ = some (.iface 102 sv) ∧ w'.cell? ⟨w.heap.size, 1, none⟩ = some (.string nm) ∧ w'.cell? ⟨w.heap.size, 3, none⟩ = some (.int .i64 n)) (first | exact ⟨s1, x1, x3⟩ | exact ⟨(World.cell?_setCell_far _ _ _ _ (show B4 ≠ E by omega)).trans s1, (World.cell?_setCell_far _ _ _ _ hB3).trans x1, (World.cell?_setCell_far _ _ _ _ hB3).trans x3⟩) ((go_at_call 175; refine (hU.out _ (by first | exact hE9 | exact hE9.drew)).mono ?_; rintro e w6 ⟨rfl, hE6⟩; have hS := ext_atv hE9 (by first | exact hE6 | exact ext_undrewv hE6); have s1 := hS.get s1; have x1 := hS.get x1; have x3 := hS.get x3; replace hb1 := Lib.hid (hb1.out.ext hS); replace hb2 := Lib.hid (hb2.out.ext hS); have y0 : w6.cell? ⟨B4, 0, none⟩ = some (.int .i64 0) := (hb1.out.cell 0).trans rfl; have yf : w6.frozen? ⟨B4, 0, none⟩ = false := hb1.out.fz 0; have z0 : w6.cell? ⟨B5, 0, none⟩ = some (.bool false) := (hb2.out.cell 0).trans rfl; have zf : w6.frozen? ⟨B5, 0, none⟩ = false := hb2.out.fz 0; have hl4 := hb1.out.lt; have hl5 := hb2.out.lt; have hE9 := hE9.trans hS; clear hS hE6))
 all_goals
  clear hm hU s1 x1 x3
  go_wp2_with fail
  refine (isNumber_any m _).mono ?_
  rintro e w1 ⟨rfl, rfl⟩
  cases hn : nbrB m with
  | true =>
   have hO := Lib.hid (show okN m = some m by simp [okN, hn])
   go_wp2
   refine leaves_cons (f := 130) (args := #[.pointer (some ⟨B4, 0, none⟩), .pointer (some ⟨B5, 0, none⟩)]) (by simp) (by simp [go_sem]) ?_
   refine (ask1_idle _ _ _).mono ?_
   rintro e u' w'' ⟨rfl, rfl, rfl⟩
   simp [Leaves, settle, results, Tryz.results101, go_sem, y0, z0]
   exact ⟨by rw [hO.out]; rfl, ((hE9.setCell hB0 _).setCell hB0 _).setCell hB05 _⟩
  | false =>
   have hO := Lib.hid (show okN m = none by simp [okN, hn])
   go_wp2
   refine leaves_cons (f := 130) (args := #[.pointer (some ⟨B4, 0, none⟩), .pointer (some ⟨B5, 0, none⟩)]) (by simp) (by simp [go_sem]) ?_
   refine (ask1_idle _ _ _).mono ?_
   rintro e u' w'' ⟨rfl, rfl, rfl⟩
   simp [Leaves, settle, results, Tryz.results101, go_sem, y0, z0]
   exact ⟨by rw [hO.out]; rfl, ((hE9.setCell hB0 _).setCell hB0 _).setCell hB05 _⟩
/-- The map of the source: the keys of the names that have one. -/
def srcF (names : List (List UInt8)) (l : List Feat) : ByteArray → Option Value := fun s => if names.any (fun m => decide (m = s.data.toList)) && keyB l s then some (.string (keyS l s)) else none
theorem srcF_ok (d : VelD) (names : List (List UInt8)) (l : List Feat) (now win : Int) (c : Bool) (nm : ByteArray) : (∃ k, srcF names l nm = some (.string k) ∧ srcS d names l now c nm win = if c then velCount d k now win else velSum d k now win) ∨ (srcF names l nm = none ∧ srcS d names l now c nm win = 0) := by
 unfold srcF srcS
 by_cases h1 : nm.data.toList ∈ names
 · have h3 : names.any (fun m => decide (m = nm.data.toList)) = true := List.any_eq_true.2 ⟨_, h1, decide_eq_true rfl⟩
   cases h2 : keyB l nm with
   | true => exact Or.inl ⟨keyS l nm, by rw [h3]; rfl, by rw [if_pos ⟨h1, rfl⟩]⟩
   | false => exact Or.inr ⟨by rw [h3]; rfl, by rw [if_neg (by rintro ⟨-, h⟩; cases h)]⟩
 · have h3 : names.any (fun m => decide (m = nm.data.toList)) = false := by
    rw [List.any_eq_false]
    intro x hx
    simp only [decide_eq_true_eq]
    intro e
    exact h1 (e ▸ hx)
   exact Or.inr ⟨by rw [h3]; rfl, by rw [if_neg (fun h => h1 h.1)]⟩
def srcV (V b : Nat) (now : Int) : Value := .agg #[.pointer (some ⟨V, 0, none⟩), .int .i64 now, .map (some b)]
theorem asker_src {w : World} {E B V b n : Nat} {v : Value} {d : VelD} {names : List (List UInt8)} {l : List Feat} {now : Int} (hs : w.cell? ⟨E, 1, none⟩ = some (.iface 102 (srcV V b now))) (hV : VelM w B V v d) (hK : KV w b n (srcF names l)) (hh : 1 ≤ d.hor ∧ d.hor ≤ 10000000) (hl : d.uses.length ≤ 1000) (ha : AmtB d.uses) : Asker w E (srcS d names l now) := by
 intro w' hE op nm tx win u hop hnm
 rcases hop with rfl | rfl
 · have h := srcF_ok d names l now win true nm
   exact askS_c (srcS d names l now true nm win) E nm tx win u _ w' (hE.get hs) (fun w1 h1 => srcCount_any B V b n v d (srcF names l) nm now win _ w1 (hV.ext (hE.trans h1)) (hK.ext (hE.trans h1)) hh hl ha (by omega) h)
 · have h := srcF_ok d names l now win false nm
   exact askS_s (srcS d names l now false nm win) E nm tx win u _ w' (hE.get hs) (fun w1 h1 => srcSum_any B V b n v d (srcF names l) nm now win _ w1 (hV.ext (hE.trans h1)) (hK.ext (hE.trans h1)) hh hl ha (by omega) h)
end Go.Proofs.YtangdoidkcelfaaGreatDoor
