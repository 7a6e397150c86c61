/- Contracts of law36's reference: Total, Prune (walks; printed by gen/g13.py). -/
import Derived.Test.YtmoadonepkccbaaGreatDoorGd
import Derived.Test.YtmoadonepkccbaaGreatDoorFu
namespace Go.Proofs.YtmoadonepkccbaaGreatDoor
open Go.RowKit
/-- v is a slice that a call made, from block B on, and reads as the rules ys, whose lists of arguments lie in w0. -/
def RS (w0 w : World) (B : Nat) (v : Value) (ys : List RuleD) : Prop :=
  ys.length ≤ 1000000 ∧ ∃ us : List Value, us.length = ys.length ∧ w.ownsRow B 42 10 v ys.length (ruFlat ys us) ∧ ∀ i, i < ys.length → ExS w0 (us.getD i (.slice none 0 0)) (ys.getD i rD).when.args
theorem RS.nil (w0 w : World) (B : Nat) : RS w0 w B (.slice none 0 0) [] := ⟨by simp, [], rfl, ⟨rfl, Or.inl ⟨rfl, rfl⟩⟩, fun i hi => by cases hi⟩
theorem RS.form {w0 w : World} {B : Nat} {v : Value} {ys : List RuleD} (h : RS w0 w B v ys) : ∃ p c, v = .slice p ys.length c := by
  obtain ⟨_, us, _, h, _⟩ := h
  obtain ⟨_, ⟨h, h0⟩ | ⟨g, cap, cur, hv, _⟩⟩ := h
  · exact ⟨none, 0, by rw [h0]; exact h⟩
  · exact ⟨_, _, hv⟩
theorem RS.ext {w0 w w' : World} {B : Nat} {v : Value} {ys : List RuleD} (h : RS w0 w B v ys) (k : Ext w w') : RS w0 w' B v ys := by
  obtain ⟨h0, us, h1, h2, h3⟩ := h
  exact ⟨h0, us, h1, ownsRow_extE h2 k, h3⟩
theorem RS.push {w0 w' : World} {B g cap : Nat} {u : Value} {ys : List RuleD} {us : List Value} {y : RuleD} (hl : ys.length < 1000000) (hus : us.length = ys.length) (hk : ∀ i, i < ys.length → ExS w0 (us.getD i (.slice none 0 0)) (ys.getD i rD).when.args) (hy : ExS w0 u y.when.args)
    (hown : w'.ownsRow B 42 10 (.slice (some ⟨g, 0, none⟩) (ys.length + 1) cap) (ys.length + 1) (ruFlat ys us ++ ruCells y u)) : RS w0 w' B (.slice (some ⟨g, 0, none⟩) (ys.length + 1) cap) (ys ++ [y]) := by
  refine ⟨by simp; omega, us ++ [u], by simp [hus], ?_, ?_⟩
  · rw [ruFlat_snoc ys us y u hus]
    simpa using hown
  · intro i hi
    by_cases hlt : i < ys.length
    · have e1 : (us ++ [u]).getD i (.slice none 0 0) = us.getD i (.slice none 0 0) := by
        simp only [List.getD_eq_getElem?_getD]; rw [List.getElem?_append_left (by omega)]
      have e2 : (ys ++ [y]).getD i rD = ys.getD i rD := by
        simp only [List.getD_eq_getElem?_getD]; rw [List.getElem?_append_left hlt]
      rw [e1, e2]
      exact hk i hlt
    · have hi2 : i = ys.length := by simp at hi; omega
      subst hi2
      have e1 : (us ++ [u]).getD ys.length (.slice none 0 0) = u := by
        simp only [List.getD_eq_getElem?_getD]; rw [List.getElem?_append_right (by omega)]; simp [hus]
      have e2 : (ys ++ [y]).getD ys.length rD = y := by
        simp only [List.getD_eq_getElem?_getD]; rw [List.getElem?_append_right (by omega)]; simp
      rw [e1, e2]
      exact hy
theorem RS.done {w0 w : World} {B : Nat} {v : Value} {ys : List RuleD} (h : RS w0 w B v ys) (hE : Ext w0 w) : RulesM w v ys := by
  obtain ⟨h0, us, h1, h2, h3⟩ := h
  obtain ⟨h4, ⟨hv, hn⟩ | ⟨g, cap, cur, hv, hg, hb, hcap, hcm, hcs, htk⟩⟩ := h2
  · obtain rfl := List.length_eq_zero_iff.1 hn
    exact ⟨by simp, Or.inl ⟨none, 0, hv, rfl⟩⟩
  · subst hv
    refine ⟨by omega, Or.inr ⟨g, 0, cap, fun i => us.getD i (.slice none 0 0), rfl, hcap, fun i hi => ⟨?_, (h3 i hi).ext hE⟩⟩⟩
    have hcell : ∀ c u, c < 10 → (ruCells (ys.getD i rD) (us.getD i (.slice none 0 0)))[c]? = some u → w.cell? ⟨g, 0 + i * 10 + c, none⟩ = some u := by
      intro c u hc hj
      have hb' : Blk w g cur 42 := hb
      rw [Nat.zero_add, hb'.cell, ← Array.getElem?_toList, ← hj, ← ruFlat_get ys us h1 i hi c hc, ← htk]
      rw [List.getElem?_take_of_lt (by omega)]
    exact ⟨hcell 0 _ (by omega) rfl, hcell 1 _ (by omega) rfl, hcell 2 _ (by omega) rfl, hcell 3 _ (by omega) rfl, hcell 4 _ (by omega) rfl, hcell 5 _ (by omega) rfl, hcell 6 _ (by omega) rfl, hcell 7 _ (by omega) rfl, hcell 8 _ (by omega) rfl, hcell 9 _ (by omega) rfl⟩
theorem pruneS {l ys : List RuleD} {v : Value} {B : Nat} {w w' : World} (h : RS w w' B v ys) (he : ys = pruneV l) (hE : Ext w w') : PruneP l w (.returned v) w' := by
  subst he
  obtain ⟨p, c, rfl⟩ := h.form
  exact ⟨p, c, rfl, h.done hE, hE⟩
/-- What is known of a rule, for the reference's Fold. -/
def FoIn (l : List RuleD) : Prop := ∀ i, i < l.length → StrOk [(l.getD i rD).when] ∧ (l.getD i rD).when.parts.length ≤ 999999
set_option maxRecDepth 8000 in
set_option maxHeartbeats 4000000 in
theorem rtotal_any (lv : Value) (l : List RuleD) (w : World) (hR : RulesM w lv l) (hI : FoIn l) (hl : l.length ≤ 1000000) : Calls Tryz.prog 21 #[lv] w (OneV (.bool (totB l)) w) := by
  obtain ⟨lp, lc, rfl⟩ := hR.form
  have hst := Lib.hid (fun k (h : k < l.length) => idx_step alwB l k h)
  have htot : totB l = (idxF alwB 0 (l.drop 0)).isSome := rfl
  generalize totB l = R at *
  replace hR := Lib.hid hR
  replace hI := Lib.hid hI
  replace htot := Lib.hid htot
  go_enter Tryz.func21, Tryz.ntmps21
  go_wp2_with fail
  go_loopw [3] (fun i wr => ∃ k : Nat, k ≤ l.length ∧ i = .int .i64 k ∧ R = (idxF alwB k (l.drop k)).isSome ∧ Ext w wr) (fun i _ => l.length - (intOf i).toNat)
  case atStart => exact ⟨0, Nat.zero_le _, rfl, htot.out, Ext.refl _⟩
  case round =>
    obtain ⟨k, hk, rfl, hRk, hEr⟩ := hrel
    by_cases hlt : k < l.length
    · obtain ⟨b, off, rfl, sv, hkid⟩ := hR.out.at (by omega)
      obtain ⟨hc, hsu⟩ := hkid k hlt
      obtain ⟨h0, h1, h2, h3, h4, h5, h6, h7, h8, h9⟩ := hc.ext hEr
      replace hsu := hsu.ext hEr
      obtain ⟨uq, uc, huv⟩ := hsu.form
      rw [hst.out k hlt] at hRk
      obtain ⟨hok, hpt⟩ := hI.out k hlt
      clear hc hkid
      generalize l.getD k rD = r at *
      rw [huv] at hsu h5
      clear huv
      replace hRk := Lib.hid hRk
      have kA := Lib.hid (fun w1 (h : Ext wr w1) => folds_any r.when 1 uq uc w1 (hsu.ext h) hok hpt (by have := levels_parts r.when; omega))
      change Hid (∀ w1, Ext wr w1 → Calls Tryz.prog 59 #[exAgg r.when (.slice uq r.when.args.length uc), .int .i64 1] w1 (OneV (.bool (alwB r)) w1)) at kA
      unfold exAgg at kA
      clear hsu hok hpt h0 h6 h7 h8 h9
      go_wp2_with fail
      refine (kA.out _ (Ext.refl _)).mono ?_
      rintro e w1 ⟨rfl, hE1⟩
      have hE := hEr.trans hE1
      clear hE1 kA hEr h1 h2 h3 h4 h5
      cases ha : alwB r with
      | true =>
        have hR2 := Lib.hid (show R = true by have := hRk.out; rw [if_pos ha] at this; exact this)
        clear ha hRk
        go_wp2
        go_ret
        rw [hR2.out]; exact ⟨rfl, hE⟩
      | false =>
        have hR2 := Lib.hid (show R = (idxF alwB (k + 1) (l.drop (k + 1))).isSome by have := hRk.out; rwa [if_neg (by rw [ha]; simp)] at this)
        clear ha hRk
        go_wp2
        go_roundw
        case rel => exact ⟨k + 1, by omega, by go_num, hR2.out, hE⟩
        case measure => simp [intOf]; omega
    · have hd : l.drop k = [] := List.drop_eq_nil_of_le (by omega)
      rw [hd] at hRk
      have hR2 := Lib.hid (show R = false from hRk)
      clear hd hRk
      go_wp2
      go_ret
      rw [hR2.out]; exact ⟨rfl, hEr⟩
set_option maxRecDepth 8000 in
set_option maxHeartbeats 4000000 in
theorem rPrune_fn (lv : Value) (l : List RuleD) (w : World) (hR : RulesM w lv l) (hI : FoIn l) (hl : l.length ≤ 1000000) : Calls Tryz.prog 24 #[lv] w (PruneP l w) := by
  obtain ⟨lp, lc, rfl⟩ := hR.form
  have hfin := Lib.hid (fun (ys : List RuleD) (v : Value) (w2 : World) (h : RS w w2 w.heap.size v ys) (he : ys = pruneV l) (hE : Ext w w2) => pruneS (l := l) h he hE)
  replace hR := Lib.hid hR
  replace hI := Lib.hid hI
  obtain ⟨i0, hi, hz0, hz1, hz2⟩ := info_partsE infoRuE
  replace hi := Lib.hid hi
  replace hz0 := Lib.hid hz0
  replace hz1 := Lib.hid hz1
  replace hz2 := Lib.hid hz2
  go_enter Tryz.func24, Tryz.ntmps24
  go_wp2_with fail
  go_loopw [3, 4] (fun vv i wr => ∃ k : Nat, ∃ ys : List RuleD, k ≤ l.length ∧ i = .int .i64 k ∧ ys.length ≤ k ∧ RS w wr w.heap.size vv ys ∧ ys ++ pruneV (l.drop k) = pruneV l ∧ Ext w wr) (fun _ i _ => l.length - (intOf i).toNat)
  case atStart => exact ⟨0, [], Nat.zero_le _, rfl, Nat.zero_le _, RS.nil _ _ _, rfl, Ext.refl _⟩
  case round =>
    obtain ⟨k, ys, hk, rfl, hyl, hrl, hpr, hEr⟩ := hrel
    by_cases hlt : k < l.length
    · obtain ⟨b, off, rfl, sv, hkid⟩ := hR.out.at (by omega)
      obtain ⟨hc, hsu⟩ := hkid k hlt
      obtain ⟨uq, uc, huv⟩ := hsu.form
      rw [prune_step l k hlt] at hpr
      obtain ⟨hok, hpt⟩ := hI.out k hlt
      clear hkid
      generalize l.getD k rD = r at *
      rw [huv] at hsu hc
      clear huv
      replace hpr := Lib.hid hpr
      replace hrl := Lib.hid hrl
      have kN := Lib.hid (fun w1 (h : Ext w w1) => folds_any r.when 2 uq uc w1 (hsu.ext h) hok hpt (by have := levels_parts r.when; omega))
      change Hid (∀ w1, Ext w w1 → Calls Tryz.prog 59 #[exAgg r.when (.slice uq r.when.args.length uc), .int .i64 2] w1 (OneV (.bool (nevB r)) w1)) at kN
      have kA := Lib.hid (fun w1 (h : Ext w w1) => folds_any r.when 1 uq uc w1 (hsu.ext h) hok hpt (by have := levels_parts r.when; omega))
      change Hid (∀ w1, Ext w w1 → Calls Tryz.prog 59 #[exAgg r.when (.slice uq r.when.args.length uc), .int .i64 1] w1 (OneV (.bool (alwB r)) w1)) at kA
      unfold exAgg at kN kA
      obtain ⟨h0, h1, h2, h3, h4, h5, h6, h7, h8, h9⟩ := hc.ext hEr
      have hc := Lib.hid hc
      have hsu := Lib.hid hsu
      clear hok hpt h0 h6 h7 h8 h9
      go_wp2_with fail
      refine (kN.out _ hEr).mono ?_
      rintro e w1 ⟨rfl, hE1⟩
      replace hrl := Lib.hid (hrl.out.ext hE1)
      have hE := hEr.trans hE1
      clear hE1 hEr kN h1 h2 h3 h4 h5
      obtain ⟨h0, h1, h2, h3, h4, h5, h6, h7, h8, h9⟩ := hc.out.ext hE
      cases hn : nevB r with
      | true =>
        have hpr2 := Lib.hid (show ys ++ pruneV (l.drop (k + 1)) = pruneV l by have := hpr.out; rwa [if_pos hn] at this)
        rw [nev_alw hn] at kA
        clear hn hpr h0 h6 h7 h8 h9
        go_wp2_with fail
        refine (kA.out _ hE).mono ?_
        rintro e w2 ⟨rfl, hE2⟩
        replace hrl := Lib.hid (hrl.out.ext hE2)
        replace hE := hE.trans hE2
        clear hE2 kA h1 h2 h3 h4 h5
        go_wp2
        go_roundw
        case rel => exact ⟨k + 1, ys, by omega, by go_num, by omega, hrl.out, hpr2.out, hE⟩
        case measure => simp [intOf]; omega
      | false =>
        have hpr2 := Lib.hid (show ys ++ (if alwB r then [r] else r :: pruneV (l.drop (k + 1))) = pruneV l by have := hpr.out; rwa [if_neg (by rw [hn]; simp)] at this)
        clear hn hpr
        obtain ⟨vp, vc, hvv⟩ := hrl.out.form
        subst hvv
        obtain ⟨-, us, hus, hrow, hks⟩ := hrl.out
        have hrB : ∀ j, Value.ownBlock (.slice vp ys.length vc) = some j → w.heap.size ≤ j := fun j e => (hrow.lt j e).1
        replace hus := Lib.hid hus
        replace hks := Lib.hid hks
        replace hrow := Lib.hid hrow
        replace hrB := Lib.hid hrB
        have hwz := Lib.hid hE.size
        clear hrl
        go_wp2_with (at_builtin; refine wpList_append_lies _ rfl _ _ 22 rfl w.heap.size 42 i0 (.agg #[.string ⟨#[]⟩, .int .i64 0, .string ⟨#[]⟩, .string ⟨#[]⟩, .int .i64 0, .slice none 0 0, .int .i64 0, .int .i64 0, .int .i64 0, .int .i64 0]) 10 120 Tryz.underlying22 hi.out hz0.out hz1.out hz2.out rfl (by decide) _ _ _ rfl (ownsRow_extE hrow.out ((Ext.refl _).alloc _)) ⟨w1.heap.size, 0, none⟩ 1 1 (ruCells r (.slice uq r.when.args.length uc)) rfl rfl ?_ ?_ (by decide) ?_ ?_ ?_ (w1.heap.size + 1) ?_ ?_)
        · exact cell_ten_new (Blk.new _ _ _)
        · exact ru_one _ _ _ _
        · unfold maxLen; omega
        · omega
        · have := hwz.out; simp; omega
        · simp
        intro gg cap w5 hown5 hgrow5 hat5 hgl5
        have hrl5 := Lib.hid (RS.push (y := r) (by omega) hus.out hks.out hsu.out hown5)
        have hE5 : Ext w w5 := Below.grown (hE.alloc _) hgrow5 (by have := hwz.out; first | (simp; done) | (simp; omega)) (fun k hk => hrB.out k hk)
        clear hown5 hgrow5 hat5 hgl5 hks hus hrow hrB h0 h1 h2 h3 h4 h5 h6 h7 h8 h9 hE
        obtain ⟨h0, h1, h2, h3, h4, h5, h6, h7, h8, h9⟩ := hc.out.ext hE5
        clear h0 h6 h7 h8 h9
        go_wp2_with fail
        refine (kA.out _ hE5).mono ?_
        rintro e w6 ⟨rfl, hE6⟩
        replace hrl5 := Lib.hid (hrl5.out.ext hE6)
        have hE := hE5.trans hE6
        clear hE6 hE5 kA h1 h2 h3 h4 h5
        cases ha : alwB r with
        | true =>
          have he := Lib.hid (show ys ++ [r] = pruneV l by have := hpr2.out; rwa [if_pos ha] at this)
          clear ha hpr2
          go_wp2
          go_ret
          exact hfin.out (ys ++ [r]) _ _ hrl5.out he.out hE
        | false =>
          have he := Lib.hid (show (ys ++ [r]) ++ pruneV (l.drop (k + 1)) = pruneV l by have := hpr2.out; rw [if_neg (by rw [ha]; simp)] at this; simpa using this)
          clear ha hpr2
          go_wp2
          go_roundw
          case rel => exact ⟨k + 1, ys ++ [r], by omega, by go_num, by simp; omega, hrl5.out, he.out, hE⟩
          case measure => simp [intOf]; omega
    · have hkl : k = l.length := by omega
      have hd : l.drop k = [] := by rw [hkl]; exact List.drop_length
      rw [hd] at hpr
      have he := Lib.hid (show ys = pruneV l by simpa [pruneV] using hpr)
      clear hd hkl hpr
      replace hrl := Lib.hid hrl
      go_wp2
      go_ret
      exact hfin.out ys _ _ hrl.out he.out hEr
end Go.Proofs.YtmoadonepkccbaaGreatDoor
