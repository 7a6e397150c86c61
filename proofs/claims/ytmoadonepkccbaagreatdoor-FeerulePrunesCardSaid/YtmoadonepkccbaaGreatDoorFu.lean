/- The contract of feerule's Prune (walk). -/
import Derived.Test.YtmoadonepkccbaaGreatDoorFk
namespace Go.Proofs.YtmoadonepkccbaaGreatDoor
open Go.RowKit
def ruCells (r : RuleD) (u : Value) : List Value := [.string r.name, .int .i64 r.when.op, .string r.when.name, .string r.when.text, .int .i64 r.when.n, u, .int .i64 r.bps, .int .i64 r.fixed, .int .i64 r.mn, .int .i64 r.mx]
/-- The cells of a list of rules whose lists of arguments are us. -/
def ruFlat : List RuleD → List Value → List Value
  | y :: ys, u :: us => ruCells y u ++ ruFlat ys us
  | _, _ => []
theorem ruFlat_snoc : ∀ (ys : List RuleD) (us : List Value) (y : RuleD) (u : Value), us.length = ys.length → ruFlat (ys ++ [y]) (us ++ [u]) = ruFlat ys us ++ ruCells y u
  | [], [], _, _, _ => by simp [ruFlat]
  | _ :: ys, _ :: us, y, u, h => by
    simp only [List.cons_append, ruFlat, ruFlat_snoc ys us y u (by simpa using h), List.append_assoc]
  | [], _ :: _, _, _, h => by simp at h
  | _ :: _, [], _, _, h => by simp at h
theorem ruFlat_len : ∀ (ys : List RuleD) (us : List Value), us.length = ys.length → (ruFlat ys us).length = ys.length * 10
  | [], [], _ => rfl
  | _ :: ys, _ :: us, h => by
    simp only [ruFlat, List.length_append, ruFlat_len ys us (by simpa using h), List.length_cons, ruCells, List.length_nil]
    omega
  | [], _ :: _, h => by simp at h
  | _ :: _, [], h => by simp at h
theorem ruFlat_get : ∀ (ys : List RuleD) (us : List Value), us.length = ys.length → ∀ i, i < ys.length → ∀ c, c < 10 → (ruFlat ys us)[i * 10 + c]? = (ruCells (ys.getD i rD) (us.getD i (.slice none 0 0)))[c]?
  | [], _, _, i, hi, _, _ => by simp at hi
  | y :: ys, [], h, _, _, _, _ => by simp at h
  | y :: ys, u :: us, h, 0, _, c, hc => by
    simp only [ruFlat]
    rw [List.getElem?_append_left (by simp only [ruCells, List.length_cons, List.length_nil]; omega)]
    simp
  | y :: ys, u :: us, h, i + 1, hi, c, hc => by
    have ih := ruFlat_get ys us (by simpa using h) i (by simpa using hi) c hc
    simp only [ruFlat, List.getD_cons_succ]
    rw [← ih, List.getElem?_append_right (by simp only [ruCells, List.length_cons, List.length_nil]; omega)]
    congr 1
    simp only [ruCells, List.length_cons, List.length_nil]
    omega
/-- v is a slice that a call made, from block B on, and reads as the rules ys. -/
def RL (w : World) (B : Nat) (v : Value) (ys : List RuleD) : Prop :=
  ys.length ≤ 1000000 ∧ ∃ us : List Value, us.length = ys.length ∧ w.ownsRow B 42 10 v ys.length (ruFlat ys us) ∧ ∀ i, i < ys.length → ExB w (fun j => B ≤ j ∧ v.ownBlock ≠ some j) (us.getD i (.slice none 0 0)) (ys.getD i rD).when.args
theorem RL.nil (w : World) (B : Nat) : RL w B (.slice none 0 0) [] := ⟨by simp, [], rfl, ⟨rfl, Or.inl ⟨rfl, rfl⟩⟩, fun i hi => by cases hi⟩
theorem RL.form {w : World} {B : Nat} {v : Value} {ys : List RuleD} (h : RL w B v ys) : ∃ p c, v = .slice p ys.length c := by
  obtain ⟨_, us, _, h, _⟩ := h
  obtain ⟨_, ⟨h, h0⟩ | ⟨g, cap, cur, hv, _⟩⟩ := h
  · exact ⟨none, 0, by rw [h0]; exact h⟩
  · exact ⟨_, _, hv⟩
theorem RL.ext {w w' : World} {B : Nat} {v : Value} {ys : List RuleD} (h : RL w B v ys) (k : Ext w w') : RL w' B v ys := by
  obtain ⟨h0, us, h1, h2, h3⟩ := h
  exact ⟨h0, us, h1, ownsRow_extE h2 k, fun i hi => (h3 i hi).ext k⟩
/-- What an append of one rule leaves. -/
theorem RL.push {w w' : World} {B g cap : Nat} {v u : Value} {ys : List RuleD} {us : List Value} {y : RuleD} (hl : ys.length < 1000000) (hus : us.length = ys.length) (hk : ∀ i, i < ys.length → ExB w (fun j => B ≤ j ∧ v.ownBlock ≠ some j) (us.getD i (.slice none 0 0)) (ys.getD i rD).when.args)
    (hy : ExB w (fun j => B ≤ j ∧ v.ownBlock ≠ some j) u y.when.args)
    (hown : w'.ownsRow B 42 10 (.slice (some ⟨g, 0, none⟩) (ys.length + 1) cap) (ys.length + 1) (ruFlat ys us ++ ruCells y u)) (hg : w.grownBy w' v.ownBlock) (hat : v.ownBlock = some g ∨ g = w.heap.size) : RL w' B (.slice (some ⟨g, 0, none⟩) (ys.length + 1) cap) (ys ++ [y]) := by
  have hmv : ∀ {z : Value} {l : List Ex}, ExB w (fun j => B ≤ j ∧ v.ownBlock ≠ some j) z l → ExB w' (fun j => B ≤ j ∧ Value.ownBlock (.slice (some ⟨g, 0, none⟩) (ys.length + 1) cap) ≠ some j) z l := by
    intro z l h
    have h1 : ExB w (fun j => (B ≤ j ∧ v.ownBlock ≠ some j) ∧ (B ≤ j ∧ Value.ownBlock (.slice (some ⟨g, 0, none⟩) (ys.length + 1) cap) ≠ some j)) z l := by
      refine h.imp fun j hj hlt => ⟨hj, hj.1, ?_⟩
      simp only [Value.ownBlock, ne_eq, Option.some.injEq]
      rcases hat with hat | hat
      · intro e; subst e; exact hj.2 hat
      · omega
    have h2 := h1.move (w' := w') fun j hj hlt => hg.block j hlt (fun e => hj.1.2 e.symm)
    exact h2.imp fun j hj _ => hj.2
  refine ⟨by simp; omega, us ++ [u], by simp [hus], ?_, ?_⟩
  · rw [ruFlat_snoc ys us y u hus]
    simpa using hown
  · intro i hi
    by_cases hlt : i < ys.length
    · have e1 : (us ++ [u]).getD i (.slice none 0 0) = us.getD i (.slice none 0 0) := by
        simp only [List.getD_eq_getElem?_getD]; rw [List.getElem?_append_left (by omega)]
      have e2 : (ys ++ [y]).getD i rD = ys.getD i rD := by
        simp only [List.getD_eq_getElem?_getD]; rw [List.getElem?_append_left hlt]
      rw [e1, e2]
      exact hmv (hk i hlt)
    · have hi2 : i = ys.length := by simp at hi; omega
      subst hi2
      have e1 : (us ++ [u]).getD ys.length (.slice none 0 0) = u := by
        simp only [List.getD_eq_getElem?_getD]; rw [List.getElem?_append_right (by omega)]; simp [hus]
      have e2 : (ys ++ [y]).getD ys.length rD = y := by
        simp only [List.getD_eq_getElem?_getD]; rw [List.getElem?_append_right (by omega)]; simp
      rw [e1, e2]
      exact hmv hy
theorem RL.done {w : World} {B : Nat} {v : Value} {ys : List RuleD} (h : RL w B v ys) : RulesM w v ys := by
  obtain ⟨h0, us, h1, h2, h3⟩ := h
  obtain ⟨h4, ⟨hv, hn⟩ | ⟨g, cap, cur, hv, hg, hb, hcap, hcm, hcs, htk⟩⟩ := h2
  · obtain rfl := List.length_eq_zero_iff.1 hn
    exact ⟨by simp, Or.inl ⟨none, 0, hv, rfl⟩⟩
  · subst hv
    refine ⟨by omega, Or.inr ⟨g, 0, cap, fun i => us.getD i (.slice none 0 0), rfl, hcap, fun i hi => ⟨?_, (h3 i hi).toS⟩⟩⟩
    have hcell : ∀ c u, c < 10 → (ruCells (ys.getD i rD) (us.getD i (.slice none 0 0)))[c]? = some u → w.cell? ⟨g, 0 + i * 10 + c, none⟩ = some u := by
      intro c u hc hj
      have hb' : Blk w g cur 42 := hb
      rw [Nat.zero_add, hb'.cell, ← Array.getElem?_toList, ← hj, ← ruFlat_get ys us h1 i hi c hc, ← htk]
      rw [List.getElem?_take_of_lt (by omega)]
    exact ⟨hcell 0 _ (by omega) rfl, hcell 1 _ (by omega) rfl, hcell 2 _ (by omega) rfl, hcell 3 _ (by omega) rfl, hcell 4 _ (by omega) rfl, hcell 5 _ (by omega) rfl, hcell 6 _ (by omega) rfl, hcell 7 _ (by omega) rfl, hcell 8 _ (by omega) rfl, hcell 9 _ (by omega) rfl⟩
theorem infoRuE : (Tryz.prog.info? 42).map (fun i => (i.zero, i.size, i.bytes)) = some (some (.agg #[.string ⟨#[]⟩, .int .i64 0, .string ⟨#[]⟩, .string ⟨#[]⟩, .int .i64 0, .slice none 0 0, .int .i64 0, .int .i64 0, .int .i64 0, .int .i64 0]), 10, 120) := by kernel_rfl
theorem ru_one (r : RuleD) (p : Option Addr) (m c : Nat) : ∀ u ∈ ruCells r (.slice p m c), u.oneCell' = true := by
  intro u hu
  simp only [ruCells, List.mem_cons, List.not_mem_nil, or_false] at hu
  rcases hu with rfl | rfl | rfl | rfl | rfl | rfl | rfl | rfl | rfl | rfl <;> rfl
theorem cell_ten_new {W : World} {c0 c1 c2 c3 c4 c5 c6 c7 c8 c9 : Value} {T : TypeId} {B : Nat} (h : Blk W B #[c0, c1, c2, c3, c4, c5, c6, c7, c8, c9] T) : ∀ j u, [c0, c1, c2, c3, c4, c5, c6, c7, c8, c9][j]? = some u → W.cell? ((⟨B, 0, none⟩ : Addr).add j) = some u := by
  intro j u hj
  have e : (⟨B, 0, none⟩ : Addr).add j = ⟨B, j, none⟩ := by
    simp [Addr.add]
    exact fun h => h.symm
  rw [e, h.cell j]
  simpa using hj
theorem RL.step {B gg cap vc : Nat} {ys : List RuleD} {vp : Option Addr} {us : List Value} {wr W w5 : World} {y : RuleD} {u : Value} (hl : ys.length < 1000000) (hus : us.length = ys.length)
    (hks : ∀ i, i < ys.length → ExB wr (fun j => B ≤ j ∧ Value.ownBlock (.slice vp ys.length vc) ≠ some j) (us.getD i (.slice none 0 0)) (ys.getD i rD).when.args) (hX : ExB W (fun j => wr.heap.size < j) u y.when.args) (hB : B ≤ wr.heap.size) (hr : ∀ j, Value.ownBlock (.slice vp ys.length vc) = some j → B ≤ j ∧ j < wr.heap.size) (hSW : Ext wr W)
    (hown : w5.ownsRow B 42 10 (.slice (some ⟨gg, 0, none⟩) (ys.length + 1) cap) (ys.length + 1) (ruFlat ys us ++ ruCells y u)) (hg : W.grownBy w5 (Value.ownBlock (.slice vp ys.length vc))) (hat : Value.ownBlock (.slice vp ys.length vc) = some gg ∨ gg = W.heap.size) : RL w5 B (.slice (some ⟨gg, 0, none⟩) (ys.length + 1) cap) (ys ++ [y]) :=
  RL.push hl hus (fun i hi => (hks i hi).ext hSW) (hX.imp fun j hj _ => ⟨by omega, fun e => by have := (hr j e).2; omega⟩) hown hg hat
/-- What Prune leaves. -/
def PruneP (l : List RuleD) (w : World) (e : Ending) (w' : World) : Prop := ∃ p c, e = .returned (.slice p (pruneV l).length c) ∧ RulesM w' (.slice p (pruneV l).length c) (pruneV l) ∧ Ext w w'
theorem pruneP {l ys : List RuleD} {v : Value} {B : Nat} {w w' : World} (h : RL w' B v ys) (he : ys = pruneV l) (hE : Ext w w') : PruneP l w (.returned v) w' := by
  subst he
  obtain ⟨p, c, rfl⟩ := h.form
  exact ⟨p, c, rfl, h.done, hE⟩
set_option maxRecDepth 8000 in
set_option maxHeartbeats 4000000 in
theorem Prune_fn (lv : Value) (l : List RuleD) (w : World) (hR : RulesM w lv l) (hl : l.length ≤ 1000000) (hp : ∀ i, i < l.length → (l.getD i rD).when.parts.length ≤ 1000000) : Calls Tryz.prog 23 #[lv] w (PruneP l w) := by
  obtain ⟨lp, lc, rfl⟩ := hR.form
  have hfin := Lib.hid (fun (ys : List RuleD) (v : Value) (w2 : World) (h : RL w2 w.heap.size v ys) (he : ys = pruneV l) (hE : Ext w w2) => pruneP (l := l) h he hE)
  replace hR := Lib.hid hR
  replace hp := Lib.hid hp
  obtain ⟨i0, hi, hz0, hz1, hz2⟩ := info_partsE infoRuE
  replace hi := Lib.hid hi
  replace hz0 := Lib.hid hz0
  replace hz1 := Lib.hid hz1
  replace hz2 := Lib.hid hz2
  go_enter Tryz.func23, Tryz.ntmps23
  go_wp2_with fail
  go_loopw [3, 9] (fun vv i wr => ∃ k : Nat, ∃ ys : List RuleD, k ≤ l.length ∧ i = .int .i64 k ∧ ys.length ≤ k ∧ RL wr w.heap.size vv ys ∧ ys ++ pruneV (l.drop k) = pruneV l ∧ Ext w wr) (fun _ i _ => l.length - (intOf i).toNat)
  case atStart => exact ⟨0, [], Nat.zero_le _, rfl, Nat.zero_le _, RL.nil _ _, rfl, Ext.refl _⟩
  case round =>
    obtain ⟨k, ys, hk, rfl, hyl, hrl, hpr, hEr⟩ := hrel
    by_cases hlt : k < l.length
    · obtain ⟨b, off, rfl, sv, hkid⟩ := hR.out.at (by omega)
      obtain ⟨hc, hsu⟩ := hkid k hlt
      obtain ⟨h0, h1, h2, h3, h4, h5, h6, h7, h8, h9⟩ := hc.ext hEr
      replace hsu := hsu.ext hEr
      obtain ⟨uq, uc, huv⟩ := hsu.form
      rw [prune_step l k hlt] at hpr
      have hpk := hp.out k hlt
      clear hc hkid
      generalize l.getD k rD = r at *
      rw [huv] at hsu h5
      clear huv
      have hbl : b < wr.heap.size := cell_lt h0
      replace hpr := Lib.hid hpr
      replace hsu := Lib.hid hsu
      replace hrl := Lib.hid hrl
      have kN := Lib.hid (fun w1 (h : Ext wr w1) => never_any r uq uc w1 (hsu.out.ext h) hpk)
      have kA := Lib.hid (fun w1 (h : Ext wr w1) => always_any r uq uc w1 (hsu.out.ext h) hpk)
      have kC := Lib.hid (fun w1 (h : Ext wr w1) => fclone_any hsu.out r.when rfl w1 h hpk)
      unfold ruleAgg at kN kA
      unfold exAgg at kC
      go_wp2_with fail
      have hB0 := Blk.new wr #[.string r.name, .int .i64 r.when.op, .string r.when.name, .string r.when.text, .int .i64 r.when.n, .slice uq r.when.args.length uc, .int .i64 r.bps, .int .i64 r.fixed, .int .i64 r.mn, .int .i64 r.mx] 42
      refine (kN.out _ ((Ext.refl _).alloc _)).mono ?_
      rintro e w1 ⟨rfl, hE1⟩
      have hS : Ext wr w1 := Ext.trans ((Ext.refl _).alloc _) hE1
      have hB1 := Lib.hid (hB0.ext hE1)
      clear hB0 hE1 h0 h1 h2 h3 h4 h5 h6 h7 h8 h9 kN
      cases hn : nevB r with
      | true =>
        have hpr2 := Lib.hid (show ys ++ pruneV (l.drop (k + 1)) = pruneV l by have := hpr.out; rwa [if_pos hn] at this)
        clear hn hpr
        go_wp2
        go_roundw
        case rel => exact ⟨k + 1, ys, by omega, by go_num, by omega, hrl.out.ext hS, hpr2.out, hEr.trans hS⟩
        case measure => simp [intOf]; omega
      | false =>
        have hpr2 := Lib.hid (show ys ++ (if alwB r then [r] else r :: pruneV (l.drop (k + 1))) = pruneV l by have := hpr.out; rwa [if_neg (by rw [hn]; simp)] at this)
        clear hn hpr
        have x0 := hB1.out.cell 0
        have x1 := hB1.out.cell 1
        have x2 := hB1.out.cell 2
        have x3 := hB1.out.cell 3
        have x4 := hB1.out.cell 4
        have x5 := hB1.out.cell 5
        have x6 := hB1.out.cell 6
        have x7 := hB1.out.cell 7
        have x8 := hB1.out.cell 8
        have x9 := hB1.out.cell 9
        simp at x0 x1 x2 x3 x4 x5 x6 x7 x8 x9
        go_wp2_with fail
        refine (kA.out _ hS).mono ?_
        rintro e w2 ⟨rfl, hE2⟩
        have hS2 := hS.trans hE2
        have hB2 := Lib.hid (hB1.out.ext hE2)
        clear x0 x1 x2 x3 x4 x5 x6 x7 x8 x9 hE2 hS kA hB1
        have x1 := hB2.out.cell 1
        have x2 := hB2.out.cell 2
        have x3 := hB2.out.cell 3
        have x4 := hB2.out.cell 4
        have x5 := hB2.out.cell 5
        simp at x1 x2 x3 x4 x5
        go_wp2_with fail
        refine (kC.out _ hS2).mono ?_
        rintro e w3 ⟨p1, q1, rfl, hX, hE3⟩
        have hS3 := hS2.trans hE3
        have hB3 := Lib.hid (hB2.out.ext hE3)
        have hw2 : wr.heap.size < w2.heap.size := hB2.out.lt
        clear x1 x2 x3 x4 x5 hE3 hS2 kC hB2
        have x0 := hB3.out.cell 0
        have x1 := hB3.out.cell 1
        have x2 := hB3.out.cell 2
        have x3 := hB3.out.cell 3
        have x4 := hB3.out.cell 4
        have x5 := hB3.out.cell 5
        have x6 := hB3.out.cell 6
        have x7 := hB3.out.cell 7
        have x8 := hB3.out.cell 8
        have x9 := hB3.out.cell 9
        have f1 := hB3.out.fz 1
        have f2 := hB3.out.fz 2
        have f3 := hB3.out.fz 3
        have f4 := hB3.out.fz 4
        have f5 := hB3.out.fz 5
        simp at x0 x1 x2 x3 x4 x5 x6 x7 x8 x9
        have hlt3 : wr.heap.size < w3.heap.size := hB3.out.lt
        obtain ⟨vp, vc, hvv⟩ := hrl.out.form
        subst hvv
        obtain ⟨-, us, hus, hrow, hks⟩ := hrl.out
        have hrB : ∀ j, Value.ownBlock (.slice vp ys.length vc) = some j → w.heap.size ≤ j ∧ j < wr.heap.size := fun j e => hrow.lt j e
        have hX2 := Lib.hid ((hX.imp (ok' := fun j => wr.heap.size < j) fun j hj _ => by omega))
        replace hus := Lib.hid hus
        replace hks := Lib.hid hks
        replace hrow := Lib.hid hrow
        replace hrB := Lib.hid hrB
        have hwz := Lib.hid hEr.size
        clear hX hrl
        go_wp2_with (at_builtin; refine wpList_append_lies _ rfl _ _ 22 rfl w.heap.size 42 i0 (.agg #[.string ⟨#[]⟩, .int .i64 0, .string ⟨#[]⟩, .string ⟨#[]⟩, .int .i64 0, .slice none 0 0, .int .i64 0, .int .i64 0, .int .i64 0, .int .i64 0]) 10 120 Tryz.underlying22 hi.out hz0.out hz1.out hz2.out rfl (by decide) _ _ _ rfl (ownsRow_extE hrow.out (by repeat (first | with_reducible exact hS3 | with_reducible refine Ext.alloc ?_ _ | with_reducible refine Ext.setCell ?_ (Nat.le_refl _) _))) ⟨w3.heap.size, 0, none⟩ 1 1 (ruCells r (.slice p1 r.when.args.length q1)) rfl rfl ?_ ?_ (by decide) ?_ ?_ ?_ (w3.heap.size + 1) ?_ ?_)
        · exact cell_ten_new (Blk.new' _ _ _ _ (by simp))
        · exact ru_one _ _ _ _
        · unfold maxLen; omega
        · omega
        · have := hwz.out; have := hS3.size; simp; omega
        · simp
        intro gg cap w5 hown5 hgrow5 hat5 hgl5
        have hSW : Ext wr ((((((w3.setCell ⟨wr.heap.size, 1, none⟩ (.int .i64 r.when.op)).setCell ⟨wr.heap.size, 2, none⟩ (.string r.when.name)).setCell ⟨wr.heap.size, 3, none⟩ (.string r.when.text)).setCell ⟨wr.heap.size, 4, none⟩ (.int .i64 r.when.n)).setCell ⟨wr.heap.size, 5, none⟩ (.slice p1 r.when.args.length q1)).alloc (.cells #[.string r.name, .int .i64 r.when.op, .string r.when.name, .string r.when.text, .int .i64 r.when.n, .slice p1 r.when.args.length q1, .int .i64 r.bps, .int .i64 r.fixed, .int .i64 r.mn, .int .i64 r.mx] 42)) := by repeat (first | with_reducible exact hS3 | with_reducible refine Ext.alloc ?_ _ | with_reducible refine Ext.setCell ?_ (Nat.le_refl _) _)
        have hXW : ExB ((((((w3.setCell ⟨wr.heap.size, 1, none⟩ (.int .i64 r.when.op)).setCell ⟨wr.heap.size, 2, none⟩ (.string r.when.name)).setCell ⟨wr.heap.size, 3, none⟩ (.string r.when.text)).setCell ⟨wr.heap.size, 4, none⟩ (.int .i64 r.when.n)).setCell ⟨wr.heap.size, 5, none⟩ (.slice p1 r.when.args.length q1)).alloc (.cells #[.string r.name, .int .i64 r.when.op, .string r.when.name, .string r.when.text, .int .i64 r.when.n, .slice p1 r.when.args.length q1, .int .i64 r.bps, .int .i64 r.fixed, .int .i64 r.mn, .int .i64 r.mx] 42)) (fun j => wr.heap.size < j) (.slice p1 r.when.args.length q1) r.when.args := hX2.out.move fun j hj hjl => (Ext.block ((Ext.refl _).alloc _) j (by simpa using hjl)).trans (by rw [Below.heap_setCell _ _ _ _ (show j ≠ wr.heap.size by omega), Below.heap_setCell _ _ _ _ (show j ≠ wr.heap.size by omega), Below.heap_setCell _ _ _ _ (show j ≠ wr.heap.size by omega), Below.heap_setCell _ _ _ _ (show j ≠ wr.heap.size by omega), Below.heap_setCell _ _ _ _ (show j ≠ wr.heap.size by omega)])
        have hrl5 := Lib.hid (RL.step (by omega) hus.out hks.out hXW hwz.out hrB.out hSW hown5 hgrow5 (by simpa using hat5))
        have hE5 : Ext w w5 := Below.grown (hEr.trans hSW) hgrow5 (hEr.trans hSW).size (fun k hk => (hrB.out k hk).1)
        clear hSW hXW hown5 hgrow5 hat5 hgl5 hS3 hB3 x0 x1 x2 x3 x4 x5 x6 x7 x8 x9 f1 f2 f3 f4 f5 hks hus hrow hrB hX2
        cases ha : alwB r with
        | true =>
          have he := Lib.hid (show ys ++ [r] = pruneV l by have := hpr2.out; rwa [if_pos ha] at this)
          clear ha hpr2
          go_wp2
          go_ret
          exact hfin.out (ys ++ [r]) _ _ hrl5.out he.out hE5
        | false =>
          have he := Lib.hid (show (ys ++ [r]) ++ pruneV (l.drop (k + 1)) = pruneV l by have := hpr2.out; rw [if_neg (by rw [ha]; simp)] at this; simpa using this)
          clear ha hpr2
          go_wp2
          go_roundw
          case rel => exact ⟨k + 1, ys ++ [r], by omega, by go_num, by simp; omega, hrl5.out, he.out, hE5⟩
          case measure => simp [intOf]; omega
    · have hkl : k = l.length := by omega
      have hd : l.drop k = [] := by rw [hkl]; exact List.drop_length
      rw [hd] at hpr
      have he := Lib.hid (show ys = pruneV l by simpa [pruneV] using hpr)
      clear hd hkl hpr
      replace hrl := Lib.hid hrl
      go_wp2
      go_ret
      exact hfin.out ys _ _ hrl.out he.out hEr
end Go.Proofs.YtmoadonepkccbaaGreatDoor
