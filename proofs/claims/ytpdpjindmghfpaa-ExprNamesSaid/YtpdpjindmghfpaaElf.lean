/- The walk of the law ExprFolds (printed by gen/elf.py). -/
import Derived.Test.YtpdpjindmghfpaaEaw
import Derived.Test.YtpdpjindmghfpaaEss
import Derived.Test.YtpdpjindmghfpaaEsz
import Derived.Test.YtpdpjindmghfpaaEopu
namespace Go.Proofs.Ytpdpjindmghfpaa
open Go.RowKit
theorem featNe (a : Feat) (w : World) : (binOp .neq 23 (.agg #[.string a.name, .int .i64 a.kind, .int .i64 a.n, .string a.text]) (.agg #[.string a.name, .int .i64 a.kind, .int .i64 a.n, .string a.text])).run Try.prog w = .ok (.bool false) w := by
  go_simp
theorem parts_pos (x : Ex) : 1 ≤ x.parts.length := by cases x; simp [parts_mk]
theorem parts_len_mk (op : Int) (nm tx : ByteArray) (n : Int) (args : List Ex) : (Ex.mk op nm tx n args).parts.length = 1 + (Ex.parts.partsL args).length := by rw [parts_mk, List.length_cons]; omega
theorem levels_parts : ∀ x : Ex, x.levels ≤ x.parts.length := by
  refine Ex.indOn ?_
  intro op nm tx n args ih
  rw [parts_len_mk]
  simp only [Ex.levels]
  have h : ∀ l : List Ex, (∀ a ∈ l, a.levels ≤ a.parts.length) → Ex.levels.levelsL l ≤ (Ex.parts.partsL l).length := by
    intro l
    induction l with
    | nil => intro _; simp [Ex.levels.levelsL]
    | cons a r ihl =>
      intro hl
      have h1 := hl a (List.mem_cons_self ..)
      have h2 := ihl (fun b hb => hl b (List.mem_cons_of_mem _ hb))
      simp only [Ex.levels.levelsL, Ex.parts.partsL, List.length_append]
      omega
  have := h args ih
  omega
theorem litE_parts (v : Feat) : (litE v).parts.length ≤ 3 := by
  unfold litE
  split
  · simp [leafN, parts_mk, Ex.parts.partsL]
  · split
    · simp [parts_mk, Ex.parts.partsL]
    · simp [leafN, parts_mk, Ex.parts.partsL]
theorem fold_parts : ∀ x : Ex, x.foldV.parts.length ≤ 3 * x.parts.length := by
  refine Ex.indOn ?_
  intro op nm tx n args ih
  rw [foldV_mk]
  by_cases hc : constB (.mk op nm tx n args) = true
  · rw [if_pos hc]
    have h1 := litE_parts (evalV (.mk op nm tx n args) [] nilS).1
    have h2 := parts_pos (.mk op nm tx n args)
    omega
  · rw [if_neg hc, parts_len_mk, parts_len_mk]
    have h : ∀ l : List Ex, (∀ a ∈ l, a.foldV.parts.length ≤ 3 * a.parts.length) → (Ex.parts.partsL (l.map Ex.foldV)).length ≤ 3 * (Ex.parts.partsL l).length := by
      intro l
      induction l with
      | nil => intro _; simp [Ex.parts.partsL]
      | cons a r ihl =>
        intro hl
        have h1 := hl a (List.mem_cons_self ..)
        have h2 := ihl (fun b hb => hl b (List.mem_cons_of_mem _ hb))
        simp only [List.map_cons, Ex.parts.partsL, List.length_append]
        omega
    have := h args ih
    omega
theorem foldTop_parts (x : Ex) : (foldTop x).parts.length ≤ 3 * x.parts.length := by
  unfold foldTop
  split
  · omega
  · exact fold_parts x
set_option maxRecDepth 8000 in
set_option maxHeartbeats 8000000 in
theorem law_folds (x : Ex) (u : Value) (fv : Value) (l : List Feat) (tv : Value) (us : List UseD) (w : World) (hX0 : ExS w u x.args) (_ : StrOk [x]) (hF : FeatsL w fv l) (_ : FtOk fv l) (hU : UsesL w tv us) (_ : ∀ f ∈ us, f.name.size ≤ 140737488355328) : Calls Try.prog 4 #[exAgg x u, fv, tv] w (OneV (.bool true) w) := by
  obtain ⟨q, cp, rfl⟩ := hX0.form
  obtain ⟨fp, fc, rfl⟩ := hF.form
  obtain ⟨tp, tc, rfl⟩ := hU.form
  have hSm := Lib.hid (fun w1 (h : Ext w w1) => small_any x (hX0.ext h) _ l (hF.ext h))
  have hfew := Lib.hid hF.few
  have hufew := Lib.hid hU.few
  have hul := hU.1
  have hX0 := Lib.hid hX0
  clear hF hU
  obtain ⟨hy1, hy2, hy3, hy4, hy5, hy6, hy7⟩ := foldTop_ok x
  have hy8 := foldTop_parts x
  have hlp := levels_parts x
  unfold exAgg
  go_enter Try.func4, Try.ntmps4
  go_wp2_with fail
  refine (hSm.out _ (by repeat (first | with_reducible exact Ext.refl _ | with_reducible exact hE0 | with_reducible exact hE | with_reducible refine Ext.alloc ?_ _ | with_reducible refine Ext.drewN ?_ _ | with_reducible refine Ext.drew ?_ | ((with_reducible refine Ext.setCell ?_ ?side _); (case side => first | exact Nat.le_refl _ | (simp; done) | (simp; omega)))))).mono ?_
  rintro e w1 ⟨b, rfl, hb, hE1⟩
  have hBx := Lib.hid ((Blk.new w #[.int .i64 x.op, .string x.name, .string x.text, .int .i64 x.n, .slice q x.args.length cp] 27).ext hE1)
  have hE : Ext w w1 := Ext.trans (by repeat (first | with_reducible exact Ext.refl _ | with_reducible exact hE0 | with_reducible exact hE | with_reducible refine Ext.alloc ?_ _ | with_reducible refine Ext.drewN ?_ _ | with_reducible refine Ext.drew ?_ | ((with_reducible refine Ext.setCell ?_ ?side _); (case side => first | exact Nat.le_refl _ | (simp; done) | (simp; omega))))) hE1
  clear hE1 hSm
  cases b with
  | false =>
    clear hb
    go_wp2_with fail
    refine (awake_any _).mono ?_
    rintro e w2 ⟨rfl, hE9⟩
    replace hE := hE.trans hE9
    go_wp2
    go_ret
    exact ⟨rfl, hE⟩
  | true =>
    obtain ⟨hp, hl⟩ := hb rfl
    clear hb
    by_cases hu : 30 < us.length
    · have d1 : decide ((30 : Int) < (us.length : Int)) = true := by simp; omega
      have d2 : decide (30 < us.length) = true := by simp; omega
      go_wp2_with fail
      refine (awake_any _).mono ?_
      rintro e w2 ⟨rfl, hE9⟩
      replace hE := hE.trans hE9
      go_wp2
      go_ret
      exact ⟨rfl, hE⟩
    · have d1 : decide ((30 : Int) < (us.length : Int)) = false := by simp; omega
      have d2 : decide (30 < us.length) = false := by simp; omega
      have hF := Lib.hid ((hfew.out (by omega)).ext hE)
      have hU := Lib.hid ((hufew.out (by omega)).ext hE)
      replace hX0 := Lib.hid (hX0.out.ext hE)
      clear hfew hufew hul hu hl
      have hpy : (foldTop x).parts.length ≤ 1000000 := by omega
      have hpx : x.parts.length ≤ 1000000 := by omega
      have hlx : x.levels ≤ 1000000 := by omega
      have hly : (foldTop x).levels ≤ 1000000 := by omega
      clear hp hy8 hlp
      have kF := Lib.hid (fun w1 h => Fold_fn (w := w1) (v := .slice q x.args.length cp) x h hpx)
      have x0 := hBx.out.cell 0
      have x1 := hBx.out.cell 1
      have x2 := hBx.out.cell 2
      have x3 := hBx.out.cell 3
      have x4 := hBx.out.cell 4
      have xs := hBx.out.lt
      simp at x0 x1 x2 x3 x4
      go_wp2_with fail
      refine (kF.out _ hX0.out).mono ?_
      rintro e w2 ⟨py, cy, rfl, hY, hE9⟩
      clear x0 x1 x2 x3 x4 xs
      clear d1 d2 kF
      replace hY := Lib.hid hY.toS
      replace hF := Lib.hid (hF.out.ext hE9)
      replace hU := Lib.hid (hU.out.ext hE9)
      replace hX0 := Lib.hid (hX0.out.ext hE9)
      replace hBx := Lib.hid (hBx.out.ext hE9)
      replace hE := hE.trans hE9
      clear hE9
      generalize foldTop x = y at *
      have k1 := Lib.hid (fun w1 h1 h2 => check_any (w := w1) (v := .slice q x.args.length cp) x h1 (.slice fp l.length fc) l h2)
      have k2 := Lib.hid (fun w1 h1 h2 => check_any (w := w1) (v := .slice py y.args.length cy) y h1 (.slice fp l.length fc) l h2)
      rw [hy1 l] at k2
      have k3 := Lib.hid (fun w1 h1 h2 h3 => eval_src 40 (.slice tp us.length tc) (w := w1) (v := .slice q x.args.length cp) x h1 (.slice fp l.length fc) l h2 (tabS us) h3)
      have k4 := Lib.hid (fun w1 h1 h2 h3 => eval_src 40 (.slice tp us.length tc) (w := w1) (v := .slice py y.args.length cy) y h1 (.slice fp l.length fc) l h2 (tabS us) h3)
      rw [hy2 l (tabS us)] at k4
      unfold TyPost at k1 k2
      unfold EvalPost at k3 k4
      generalize checkV x l = C at *
      generalize evalV x l (tabS us) = V at *
      obtain ⟨C1, C2⟩ := C
      obtain ⟨vf, vc⟩ := V
      simp only at k1 k2 k3 k4
      clear hy1 hy2
      have x0 := hBx.out.cell 0
      have x1 := hBx.out.cell 1
      have x2 := hBx.out.cell 2
      have x3 := hBx.out.cell 3
      have x4 := hBx.out.cell 4
      have xs := hBx.out.lt
      simp at x0 x1 x2 x3 x4
      have hN : Ext w2 (w2.alloc (.cells #[.int .i64 y.op, .string y.name, .string y.text, .int .i64 y.n, .slice py y.args.length cy] 27)) := (Ext.refl _).alloc _
      go_wp2_with fail
      refine (k1.out _ (hX0.out.ext hN) (hF.out.ext hN)).mono ?_
      rintro e w3 ⟨rfl, hE9⟩
      clear x0 x1 x2 x3 x4 xs
      have hBy := Lib.hid ((Blk.new w2 #[.int .i64 y.op, .string y.name, .string y.text, .int .i64 y.n, .slice py y.args.length cy] 27).ext hE9)
      replace hE9 := hN.trans hE9
      clear hN k1
      replace hF := Lib.hid (hF.out.ext hE9)
      replace hU := Lib.hid (hU.out.ext hE9)
      replace hX0 := Lib.hid (hX0.out.ext hE9)
      replace hY := Lib.hid (hY.out.ext hE9)
      replace hBx := Lib.hid (hBx.out.ext hE9)
      replace hE := hE.trans hE9
      clear hE9
      obtain ⟨BY, hBYe⟩ : ∃ BY, BY = w2.heap.size := ⟨_, rfl⟩
      rw [← hBYe] at hBy ⊢
      clear hBYe
      have y0 := hBy.out.cell 0
      have y1 := hBy.out.cell 1
      have y2 := hBy.out.cell 2
      have y3 := hBy.out.cell 3
      have y4 := hBy.out.cell 4
      have ys := hBy.out.lt
      simp at y0 y1 y2 y3 y4
      go_wp2_with fail
      refine (k2.out _ hY.out hF.out).mono ?_
      rintro e w4 ⟨rfl, hE9⟩
      clear y0 y1 y2 y3 y4 ys
      clear k2
      replace hF := Lib.hid (hF.out.ext hE9)
      replace hU := Lib.hid (hU.out.ext hE9)
      replace hX0 := Lib.hid (hX0.out.ext hE9)
      replace hY := Lib.hid (hY.out.ext hE9)
      replace hBx := Lib.hid (hBx.out.ext hE9)
      replace hBy := Lib.hid (hBy.out.ext hE9)
      replace hE := hE.trans hE9
      clear hE9
      have x0 := hBx.out.cell 0
      have x1 := hBx.out.cell 1
      have x2 := hBx.out.cell 2
      have x3 := hBx.out.cell 3
      have x4 := hBx.out.cell 4
      have xs := hBx.out.lt
      simp at x0 x1 x2 x3 x4
      go_wp2_with fail
      refine (k3.out _ hX0.out hF.out (fun w9 E h9 hc => asker_tab hc (hU.out.ext h9))).mono ?_
      rintro e w5 ⟨rfl, hE9⟩
      clear x0 x1 x2 x3 x4 xs
      clear k3
      replace hF := Lib.hid (hF.out.ext hE9)
      replace hU := Lib.hid (hU.out.ext hE9)
      replace hX0 := Lib.hid (hX0.out.ext hE9)
      replace hY := Lib.hid (hY.out.ext hE9)
      replace hBx := Lib.hid (hBx.out.ext hE9)
      replace hBy := Lib.hid (hBy.out.ext hE9)
      replace hE := hE.trans hE9
      clear hE9
      have y0 := hBy.out.cell 0
      have y1 := hBy.out.cell 1
      have y2 := hBy.out.cell 2
      have y3 := hBy.out.cell 3
      have y4 := hBy.out.cell 4
      have ys := hBy.out.lt
      simp at y0 y1 y2 y3 y4
      have hN : Ext w5 (w5.alloc (.cells #[.string vf.name, .int .i64 vf.kind, .int .i64 vf.n, .string vf.text] 23)) := (Ext.refl _).alloc _
      go_wp2_with fail
      refine (k4.out _ (hY.out.ext hN) (hF.out.ext hN) (fun w9 E h9 hc => asker_tab hc (hU.out.ext (hN.trans h9)))).mono ?_
      rintro e w6 ⟨rfl, hE9⟩
      clear y0 y1 y2 y3 y4 ys
      have hBa := Lib.hid ((Blk.new w5 #[.string vf.name, .int .i64 vf.kind, .int .i64 vf.n, .string vf.text] 23).ext hE9)
      replace hE9 := hN.trans hE9
      clear hN k4
      clear hF hU
      replace hX0 := Lib.hid (hX0.out.ext hE9)
      replace hY := Lib.hid (hY.out.ext hE9)
      replace hBx := Lib.hid (hBx.out.ext hE9)
      replace hBy := Lib.hid (hBy.out.ext hE9)
      replace hE := hE.trans hE9
      clear hE9
      obtain ⟨BA, hBAe⟩ : ∃ BA, BA = w5.heap.size := ⟨_, rfl⟩
      rw [← hBAe] at hBa ⊢
      clear hBAe
      go_wp2_with fail
      have hN : Ext w6 (w6.alloc (.cells #[.string vf.name, .int .i64 vf.kind, .int .i64 vf.n, .string vf.text] 23)) := (Ext.refl _).alloc _
      have hE0 := hE.trans hN
      have hBb := Blk.new w6 #[.string vf.name, .int .i64 vf.kind, .int .i64 vf.n, .string vf.text] 23
      replace hX0 := Lib.hid (hX0.out.ext hN)
      replace hY := Lib.hid (hY.out.ext hN)
      replace hBx := hBx.out.ext hN
      replace hBy := hBy.out.ext hN
      replace hBa := hBa.out.ext hN
      obtain ⟨BB, hBBe⟩ : ∃ BB, BB = w6.heap.size := ⟨_, rfl⟩
      rw [← hBBe] at hBb ⊢
      generalize w6.alloc (.cells #[.string vf.name, .int .i64 vf.kind, .int .i64 vf.n, .string vf.text] 23) = w7 at *
      clear hBBe hN hE
      have x0 : w7.cell? ⟨w.heap.size, 0, none⟩ = some (.int .i64 x.op) := hBx.cell 0
      have x1 : w7.cell? ⟨w.heap.size, 1, none⟩ = some (.string x.name) := hBx.cell 1
      have x2 : w7.cell? ⟨w.heap.size, 2, none⟩ = some (.string x.text) := hBx.cell 2
      have x3 : w7.cell? ⟨w.heap.size, 3, none⟩ = some (.int .i64 x.n) := hBx.cell 3
      have x4 : w7.cell? ⟨w.heap.size, 4, none⟩ = some (.slice q x.args.length cp) := hBx.cell 4
      have y0 : w7.cell? ⟨BY, 0, none⟩ = some (.int .i64 y.op) := hBy.cell 0
      have y1 : w7.cell? ⟨BY, 1, none⟩ = some (.string y.name) := hBy.cell 1
      have y2 : w7.cell? ⟨BY, 2, none⟩ = some (.string y.text) := hBy.cell 2
      have y3 : w7.cell? ⟨BY, 3, none⟩ = some (.int .i64 y.n) := hBy.cell 3
      have y4 : w7.cell? ⟨BY, 4, none⟩ = some (.slice py y.args.length cy) := hBy.cell 4
      have a0 : w7.cell? ⟨BA, 0, none⟩ = some (.string vf.name) := hBa.cell 0
      have a1 : w7.cell? ⟨BA, 1, none⟩ = some (.int .i64 vf.kind) := hBa.cell 1
      have a2 : w7.cell? ⟨BA, 2, none⟩ = some (.int .i64 vf.n) := hBa.cell 2
      have a3 : w7.cell? ⟨BA, 3, none⟩ = some (.string vf.text) := hBa.cell 3
      have b0 : w7.cell? ⟨BB, 0, none⟩ = some (.string vf.name) := hBb.cell 0
      have b1 : w7.cell? ⟨BB, 1, none⟩ = some (.int .i64 vf.kind) := hBb.cell 1
      have b2 : w7.cell? ⟨BB, 2, none⟩ = some (.int .i64 vf.n) := hBb.cell 2
      have b3 : w7.cell? ⟨BB, 3, none⟩ = some (.string vf.text) := hBb.cell 3
      clear hBx hBy hBa hBb
      have hq := featNe vf
      have kF := Lib.hid (fun w1 h => Fold_fn (w := w1) (v := .slice py y.args.length cy) y h hpy)
      rw [hy3] at kF
      have kS := Lib.hid (fun w1 p c (h1 : ExS w1 (.slice p y.args.length c) y.args) (h2 : ExS w1 (.slice py y.args.length cy) y.args) => rsame_any h1 y rfl y (.slice py y.args.length cy) h2 w1 (Ext.refl _))
      rw [same_refl] at kS
      have kL1 := Lib.hid (fun w1 (h : ExS w1 (.slice py y.args.length cy) y.args) => levels_any h y rfl w1 (Ext.refl _) hly)
      have kL2 := Lib.hid (fun w1 (h : ExS w1 (.slice q x.args.length cp) x.args) => levels_any h x rfl w1 (Ext.refl _) hlx)
      have dl : decide ((x.levels : Int) < (y.levels : Int)) = false := by simp; omega
      have dl2 : decide (x.levels < y.levels) = false := by simp; omega
      clear hy4
      unfold exAgg at kL1 kL2
      go_region_held3 (fun w' => w'.cell? ⟨w.heap.size, 0, none⟩ = some (.int .i64 x.op) ∧ w'.cell? ⟨w.heap.size, 1, none⟩ = some (.string x.name) ∧ w'.cell? ⟨w.heap.size, 2, none⟩ = some (.string x.text) ∧ w'.cell? ⟨w.heap.size, 3, none⟩ = some (.int .i64 x.n) ∧ w'.cell? ⟨w.heap.size, 4, none⟩ = some (.slice q x.args.length cp) ∧ w'.cell? ⟨BY, 0, none⟩ = some (.int .i64 y.op) ∧ w'.cell? ⟨BY, 1, none⟩ = some (.string y.name) ∧ w'.cell? ⟨BY, 2, none⟩ = some (.string y.text) ∧ w'.cell? ⟨BY, 3, none⟩ = some (.int .i64 y.n) ∧ w'.cell? ⟨BY, 4, none⟩ = some (.slice py y.args.length cy) ∧ w'.cell? ⟨BA, 0, none⟩ = some (.string vf.name) ∧ w'.cell? ⟨BA, 1, none⟩ = some (.int .i64 vf.kind) ∧ w'.cell? ⟨BA, 2, none⟩ = some (.int .i64 vf.n) ∧ w'.cell? ⟨BA, 3, none⟩ = some (.string vf.text) ∧ w'.cell? ⟨BB, 0, none⟩ = some (.string vf.name) ∧ w'.cell? ⟨BB, 1, none⟩ = some (.int .i64 vf.kind) ∧ w'.cell? ⟨BB, 2, none⟩ = some (.int .i64 vf.n) ∧ w'.cell? ⟨BB, 3, none⟩ = some (.string vf.text)) (first | exact ⟨by assumption, by assumption, by assumption, by assumption, by assumption, by assumption, by assumption, by assumption, by assumption, by assumption, by assumption, by assumption, by assumption, by assumption, by assumption, by assumption, by assumption, by assumption⟩ | exact ⟨x0, x1, x2, x3, x4, y0, y1, y2, y3, y4, a0, a1, a2, a3, b0, b1, b2, b3⟩) (first | (go_at_call 11; ((refine (kF.out _ (by first | exact hY.out | exact hY.out.ext (Ext.refl _).drew)).mono ?_); rintro e w6 ⟨p8, c8, rfl, hZ, hE6⟩; replace hZ := Lib.hid hZ.toS; have hS := ext_at hE0 (by first | exact hE6 | exact Ext.undrew hE6); have hE0 := hE0.trans hS; have x0 := hS.get x0; have x1 := hS.get x1; have x2 := hS.get x2; have x3 := hS.get x3; have x4 := hS.get x4; have y0 := hS.get y0; have y1 := hS.get y1; have y2 := hS.get y2; have y3 := hS.get y3; have y4 := hS.get y4; have a0 := hS.get a0; have a1 := hS.get a1; have a2 := hS.get a2; have a3 := hS.get a3; have b0 := hS.get b0; have b1 := hS.get b1; have b2 := hS.get b2; have b3 := hS.get b3; have hX0 := Lib.hid (hX0.out.ext hS); have hY := Lib.hid (hY.out.ext hS); clear hE6 hS)) | (go_at_call 14; ((refine (kS.out _ p8 c8 (by first | exact hZ.out | exact hZ.out.ext (Ext.refl _).drew) (by first | exact hY.out | exact hY.out.ext (Ext.refl _).drew)).mono ?_); rintro e w6 ⟨rfl, hE6⟩; have hS := ext_at hE0 (by first | exact hE6 | exact Ext.undrew hE6); have hE0 := hE0.trans hS; have x0 := hS.get x0; have x1 := hS.get x1; have x2 := hS.get x2; have x3 := hS.get x3; have x4 := hS.get x4; have y0 := hS.get y0; have y1 := hS.get y1; have y2 := hS.get y2; have y3 := hS.get y3; have y4 := hS.get y4; have a0 := hS.get a0; have a1 := hS.get a1; have a2 := hS.get a2; have a3 := hS.get a3; have b0 := hS.get b0; have b1 := hS.get b1; have b2 := hS.get b2; have b3 := hS.get b3; have hX0 := Lib.hid (hX0.out.ext hS); have hY := Lib.hid (hY.out.ext hS); clear hE6 hS)) | (go_at_call 15; ((with_reducible refine (kL1.out _ (by first | exact hY.out | exact hY.out.ext (Ext.refl _).drew)).mono ?_); rintro e w6 ⟨rfl, hE6⟩; have hS := ext_at hE0 (by first | exact hE6 | exact Ext.undrew hE6); have hE0 := hE0.trans hS; have x0 := hS.get x0; have x1 := hS.get x1; have x2 := hS.get x2; have x3 := hS.get x3; have x4 := hS.get x4; have y0 := hS.get y0; have y1 := hS.get y1; have y2 := hS.get y2; have y3 := hS.get y3; have y4 := hS.get y4; have a0 := hS.get a0; have a1 := hS.get a1; have a2 := hS.get a2; have a3 := hS.get a3; have b0 := hS.get b0; have b1 := hS.get b1; have b2 := hS.get b2; have b3 := hS.get b3; have hX0 := Lib.hid (hX0.out.ext hS); have hY := Lib.hid (hY.out.ext hS); clear hE6 hS)) | (go_at_call 15; ((with_reducible refine (kL2.out _ (by first | exact hX0.out | exact hX0.out.ext (Ext.refl _).drew)).mono ?_); rintro e w6 ⟨rfl, hE6⟩; have hS := ext_at hE0 (by first | exact hE6 | exact Ext.undrew hE6); have hE0 := hE0.trans hS; have x0 := hS.get x0; have x1 := hS.get x1; have x2 := hS.get x2; have x3 := hS.get x3; have x4 := hS.get x4; have y0 := hS.get y0; have y1 := hS.get y1; have y2 := hS.get y2; have y3 := hS.get y3; have y4 := hS.get y4; have a0 := hS.get a0; have a1 := hS.get a1; have a2 := hS.get a2; have a3 := hS.get a3; have b0 := hS.get b0; have b1 := hS.get b1; have b2 := hS.get b2; have b3 := hS.get b3; have hX0 := Lib.hid (hX0.out.ext hS); have hY := Lib.hid (hY.out.ext hS); clear hE6 hS)))
      go_wp2_with fail
      clear kF kS kL1 kL2 dl dl2 hq hZ a0 a1 a2 a3 b0 b1 b2 b3
      have kW2 := Lib.hid (fun w1 h => windows_fn (w := w1) (v := .slice py y.args.length cy) y h hpy)
      rw [hy6, hy7] at kW2
      have kN2 := Lib.hid (fun w1 h => names_fn (w := w1) (v := .slice py y.args.length cy) y h hpy)
      rw [hy5] at kN2
      have kN1 := Lib.hid (fun w1 h => names_fn (w := w1) (v := .slice q x.args.length cp) x h hpx)
      refine (windows_fn (v := .slice q x.args.length cp) x hX0.out hpx).mono ?_
      rintro e w8 ⟨vA, rfl, hA, hE9⟩
      have hA2 := hA
      obtain ⟨pA, cA, rfl, -, -⟩ := hA2
      replace hA := Lib.hid hA
      replace x0 := hE9.get x0
      replace x1 := hE9.get x1
      replace x2 := hE9.get x2
      replace x3 := hE9.get x3
      replace x4 := hE9.get x4
      replace y0 := hE9.get y0
      replace y1 := hE9.get y1
      replace y2 := hE9.get y2
      replace y3 := hE9.get y3
      replace y4 := hE9.get y4
      replace hX0 := Lib.hid (hX0.out.ext hE9)
      replace hY := Lib.hid (hY.out.ext hE9)
      replace hE0 := hE0.trans hE9
      clear hE9
      go_wp2_with fail
      refine (kW2.out _ hY.out).mono ?_
      rintro e w9 ⟨vB, rfl, hB, hE9⟩
      have hB2 := hB
      obtain ⟨pB, cB, rfl, -, -⟩ := hB2
      clear kW2
      replace hB := Lib.hid hB
      replace x0 := hE9.get x0
      replace x1 := hE9.get x1
      replace x2 := hE9.get x2
      replace x3 := hE9.get x3
      replace x4 := hE9.get x4
      replace y0 := hE9.get y0
      replace y1 := hE9.get y1
      replace y2 := hE9.get y2
      replace y3 := hE9.get y3
      replace y4 := hE9.get y4
      replace hX0 := Lib.hid (hX0.out.ext hE9)
      replace hY := Lib.hid (hY.out.ext hE9)
      replace hA := Lib.hid (hA.out.ext hE9)
      replace hE0 := hE0.trans hE9
      clear hE9
      have kS1 := Lib.hid (fun w1 v1 v2 (h1 : StrsM w1 v1 (uniL x.occ)) (h2 : StrsM w1 v2 (uniL x.occ)) => sameS_any v1 v2 _ _ w1 h1 h2)
      have kS2 := Lib.hid (fun w1 (h1 : StrsM w1 (.slice pA (uniL x.wins).length cA) (uniL x.wins)) (h2 : StrsM w1 (.slice pB (uniL x.wins).length cB) (uniL x.wins)) => sameS_any _ _ _ _ w1 h1 h2)
      rw [decide_eq_true rfl] at kS1 kS2
      unfold exAgg at kN1 kN2
      generalize uniL x.occ = on at *
      generalize uniL x.wins = wn at *
      generalize x.long = lg at *
      clear hy3 hy5 hy6 hy7
      go_wp2_with fail
      go_region_held3 (fun w' => w'.cell? ⟨w.heap.size, 0, none⟩ = some (.int .i64 x.op) ∧ w'.cell? ⟨w.heap.size, 1, none⟩ = some (.string x.name) ∧ w'.cell? ⟨w.heap.size, 2, none⟩ = some (.string x.text) ∧ w'.cell? ⟨w.heap.size, 3, none⟩ = some (.int .i64 x.n) ∧ w'.cell? ⟨w.heap.size, 4, none⟩ = some (.slice q x.args.length cp) ∧ w'.cell? ⟨BY, 0, none⟩ = some (.int .i64 y.op) ∧ w'.cell? ⟨BY, 1, none⟩ = some (.string y.name) ∧ w'.cell? ⟨BY, 2, none⟩ = some (.string y.text) ∧ w'.cell? ⟨BY, 3, none⟩ = some (.int .i64 y.n) ∧ w'.cell? ⟨BY, 4, none⟩ = some (.slice py y.args.length cy)) (first | exact ⟨by assumption, by assumption, by assumption, by assumption, by assumption, by assumption, by assumption, by assumption, by assumption, by assumption⟩ | exact ⟨x0, x1, x2, x3, x4, y0, y1, y2, y3, y4⟩) (first | (go_at_call 18; ((with_reducible refine (kN1.out _ (by first | exact hX0.out | exact hX0.out.ext (Ext.refl _).drew)).mono ?_); rintro e w6 ⟨v8, rfl, hN1, hE6⟩; replace hN1 := Lib.hid hN1; have hS := ext_at hE0 (by first | exact hE6 | exact Ext.undrew hE6); have hE0 := hE0.trans hS; have x0 := hS.get x0; have x1 := hS.get x1; have x2 := hS.get x2; have x3 := hS.get x3; have x4 := hS.get x4; have y0 := hS.get y0; have y1 := hS.get y1; have y2 := hS.get y2; have y3 := hS.get y3; have y4 := hS.get y4; have hX0 := Lib.hid (hX0.out.ext hS); have hY := Lib.hid (hY.out.ext hS); have hA := Lib.hid (hA.out.ext hS); have hB := Lib.hid (hB.out.ext hS); clear hE6 hS)) | (go_at_call 18; ((with_reducible refine (kN2.out _ (by first | exact hY.out | exact hY.out.ext (Ext.refl _).drew)).mono ?_); rintro e w6 ⟨v9, rfl, hN2, hE6⟩; replace hN2 := Lib.hid hN2; replace hN1 := Lib.hid (hN1.out.ext (by first | exact hE6 | exact Ext.undrew hE6)); have hS := ext_at hE0 (by first | exact hE6 | exact Ext.undrew hE6); have hE0 := hE0.trans hS; have x0 := hS.get x0; have x1 := hS.get x1; have x2 := hS.get x2; have x3 := hS.get x3; have x4 := hS.get x4; have y0 := hS.get y0; have y1 := hS.get y1; have y2 := hS.get y2; have y3 := hS.get y3; have y4 := hS.get y4; have hX0 := Lib.hid (hX0.out.ext hS); have hY := Lib.hid (hY.out.ext hS); have hA := Lib.hid (hA.out.ext hS); have hB := Lib.hid (hB.out.ext hS); clear hE6 hS)) | (go_at_call 17; ((with_reducible refine (kS2.out _ (by first | exact hA.out | exact hA.out.ext (Ext.refl _).drew) (by first | exact hB.out | exact hB.out.ext (Ext.refl _).drew)).mono ?_); rintro e w6 ⟨rfl, hE6⟩; have hS := ext_at hE0 (by first | exact hE6 | exact Ext.undrew hE6); have hE0 := hE0.trans hS; have x0 := hS.get x0; have x1 := hS.get x1; have x2 := hS.get x2; have x3 := hS.get x3; have x4 := hS.get x4; have y0 := hS.get y0; have y1 := hS.get y1; have y2 := hS.get y2; have y3 := hS.get y3; have y4 := hS.get y4; have hX0 := Lib.hid (hX0.out.ext hS); have hY := Lib.hid (hY.out.ext hS); have hA := Lib.hid (hA.out.ext hS); have hB := Lib.hid (hB.out.ext hS); clear hE6 hS)) | (go_at_call 17; ((refine (kS1.out _ _ _ (by first | exact hN1.out | exact hN1.out.ext (Ext.refl _).drew) (by first | exact hN2.out | exact hN2.out.ext (Ext.refl _).drew)).mono ?_); rintro e w6 ⟨rfl, hE6⟩; have hS := ext_at hE0 (by first | exact hE6 | exact Ext.undrew hE6); have hE0 := hE0.trans hS; have x0 := hS.get x0; have x1 := hS.get x1; have x2 := hS.get x2; have x3 := hS.get x3; have x4 := hS.get x4; have y0 := hS.get y0; have y1 := hS.get y1; have y2 := hS.get y2; have y3 := hS.get y3; have y4 := hS.get y4; have hX0 := Lib.hid (hX0.out.ext hS); have hY := Lib.hid (hY.out.ext hS); have hA := Lib.hid (hA.out.ext hS); have hB := Lib.hid (hB.out.ext hS); clear hE6 hS)) | (go_at_call 9; ((refine (awake_any _).mono ?_); rintro e w6 ⟨rfl, hE6⟩; have hS := ext_at hE0 (by first | exact hE6 | exact Ext.undrew hE6); have hE0 := hE0.trans hS; have x0 := hS.get x0; have x1 := hS.get x1; have x2 := hS.get x2; have x3 := hS.get x3; have x4 := hS.get x4; have y0 := hS.get y0; have y1 := hS.get y1; have y2 := hS.get y2; have y3 := hS.get y3; have y4 := hS.get y4; have hX0 := Lib.hid (hX0.out.ext hS); have hY := Lib.hid (hY.out.ext hS); have hA := Lib.hid (hA.out.ext hS); have hB := Lib.hid (hB.out.ext hS); clear hE6 hS)))
      all_goals go_wp2
      all_goals go_ret
      all_goals exact ⟨rfl, hE0⟩
end Go.Proofs.Ytpdpjindmghfpaa
