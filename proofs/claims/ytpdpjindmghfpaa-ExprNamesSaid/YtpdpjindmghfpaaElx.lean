/- The walk of the law ExprNames (printed by gen/elx.py). -/
import Derived.Test.YtpdpjindmghfpaaElf
namespace Go.Proofs.Ytpdpjindmghfpaa
open Go.RowKit
def ftCells (f : Feat) : List Value := [.string f.name, .int .i64 f.kind, .int .i64 f.n, .string f.text]
theorem ftFlat_len : ∀ l : List Feat, (l.flatMap ftCells).length = l.length * 4
  | [] => rfl
  | f :: r => by rw [List.flatMap_cons, List.length_append, ftFlat_len r, List.length_cons]; simp [ftCells]; omega
theorem ftFlat_get : ∀ (l : List Feat) (j : Nat), j < l.length → (l.flatMap ftCells)[j * 4]? = some (.string (l.getD j fD).name) ∧ (l.flatMap ftCells)[j * 4 + 1]? = some (.int .i64 (l.getD j fD).kind) ∧ (l.flatMap ftCells)[j * 4 + 2]? = some (.int .i64 (l.getD j fD).n) ∧ (l.flatMap ftCells)[j * 4 + 3]? = some (.string (l.getD j fD).text)
  | [], _, h => by simp at h
  | f :: r, 0, _ => by simp [ftCells]
  | f :: r, j + 1, h => by
    have ih := ftFlat_get r j (by simpa using h)
    have e : ∀ o, (List.flatMap ftCells (f :: r))[(j + 1) * 4 + o]? = (r.flatMap ftCells)[j * 4 + o]? := by
      intro o
      rw [List.flatMap_cons, List.getElem?_append_right (by simp [ftCells]; omega)]
      congr 1
      simp [ftCells]; omega
    have e0 := e 0
    simp only [Nat.add_zero] at e0
    rw [e0, e 1, e 2, e 3]
    simpa using ih
/-- The cells hold the features. -/
def FtRow (cur : Array Value) (l : List Feat) : Prop :=
  ∀ j, j < l.length → cur[j * 4]? = some (.string (l.getD j fD).name) ∧ cur[j * 4 + 1]? = some (.int .i64 (l.getD j fD).kind) ∧ cur[j * 4 + 2]? = some (.int .i64 (l.getD j fD).n) ∧ cur[j * 4 + 3]? = some (.string (l.getD j fD).text)
theorem FtRow.of_take {cur : Array Value} {l : List Feat} (h : cur.toList.take (l.length * 4) = l.flatMap ftCells) : FtRow cur l := by
  intro j hj
  have e : ∀ o, o < 4 → cur[j * 4 + o]? = (l.flatMap ftCells)[j * 4 + o]? := by
    intro o ho
    rw [← h, List.getElem?_take_of_lt (by omega), Array.getElem?_toList]
  have := ftFlat_get l j hj
  have e0 := e 0 (by omega)
  simp only [Nat.add_zero] at e0
  rw [e0, e 1 (by omega), e 2 (by omega), e 3 (by omega)]
  exact this
theorem set_getD {l : List Feat} {k j : Nat} (f : Feat) (hk : k < l.length) (_ : j < l.length) : (l.set k f).getD j fD = if j = k then f else l.getD j fD := by
  by_cases h : j = k
  · subst h; simp [List.getD_eq_getElem?_getD, hk]
  · rw [if_neg h]
    simp [List.getD_eq_getElem?_getD, List.getElem?_set, Ne.symm h]
theorem FtRow.set {cur : Array Value} {l : List Feat} (h : FtRow cur l) {k : Nat} (hk : k < l.length) (hs : l.length * 4 ≤ cur.size) (f : Feat) :
    FtRow ((((cur.setIfInBounds (k * 4) (.string f.name)).setIfInBounds (k * 4 + 1) (.int .i64 f.kind)).setIfInBounds (k * 4 + 1 + 1) (.int .i64 f.n)).setIfInBounds (k * 4 + 1 + 1 + 1) (.string f.text)) (l.set k f) := by
  intro j hj
  have hj : j < l.length := by simpa using hj
  rw [set_getD f hk hj]
  by_cases e : j = k
  · subst e
    rw [if_pos rfl]
    refine ⟨?_, ?_, ?_, ?_⟩
    all_goals simp only [Array.getElem?_setIfInBounds, Array.size_setIfInBounds]
    · rw [if_neg (by omega), if_neg (by omega), if_neg (by omega), if_pos (by first | trivial | omega), if_pos (by omega)]
    · rw [if_neg (by omega), if_neg (by omega), if_pos (by first | trivial | omega), if_pos (by omega)]
    · rw [if_neg (by omega), if_pos (by first | trivial | omega), if_pos (by omega)]
    · rw [if_pos (by first | trivial | omega), if_pos (by omega)]
  · rw [if_neg e]
    have := h j hj
    refine ⟨?_, ?_, ?_, ?_⟩
    all_goals simp only [Array.getElem?_setIfInBounds]
    · rw [if_neg (by omega), if_neg (by omega), if_neg (by omega), if_neg (by omega)]; exact this.1
    · rw [if_neg (by omega), if_neg (by omega), if_neg (by omega), if_neg (by omega)]; exact this.2.1
    · rw [if_neg (by omega), if_neg (by omega), if_neg (by omega), if_neg (by omega)]; exact this.2.2.1
    · rw [if_neg (by omega), if_neg (by omega), if_neg (by omega), if_neg (by omega)]; exact this.2.2.2
theorem FtRow.feats {w : World} {g cap : Nat} {cur : Array Value} {T : TypeId} {l : List Feat} (hb : Blk w g cur T) (h : FtRow cur l) (hl : l.length ≤ 1000000) : Feats w (.slice (some ⟨g, 0, none⟩) l.length cap) l := by
  refine ⟨hl, Or.inr ⟨g, 0, cap, rfl, fun i hi => ?_⟩⟩
  have := h i hi
  refine ⟨?_, ?_, ?_, ?_⟩
  · rw [hb.cell, show 0 + i * 4 = i * 4 by omega]; exact this.1
  · rw [hb.cell, show 0 + i * 4 + 1 = i * 4 + 1 by omega]; exact this.2.1
  · rw [hb.cell, show 0 + i * 4 + 1 + 1 = i * 4 + 2 by omega]; exact this.2.2.1
  · rw [hb.cell, show 0 + i * 4 + 1 + 1 + 1 = i * 4 + 3 by omega]; exact this.2.2.2
/-- The features behind k rounds. -/
def mixF (used : List (List UInt8)) (n : Int) (l : List Feat) (k : Nat) : List Feat := (l.take k).map (swapF used n) ++ l.drop k
theorem mix_len (used : List (List UInt8)) (n : Int) (l : List Feat) (k : Nat) (h : k ≤ l.length) : (mixF used n l k).length = l.length := by
  unfold mixF; rw [List.length_append, List.length_map, List.length_take, List.length_drop]; omega
theorem mix_zero (used : List (List UInt8)) (n : Int) (l : List Feat) : mixF used n l 0 = l := by simp [mixF]
theorem mix_all (used : List (List UInt8)) (n : Int) (l : List Feat) : mixF used n l l.length = l.map (swapF used n) := by simp [mixF]
theorem mix_at (used : List (List UInt8)) (n : Int) (l : List Feat) (k : Nat) (h : k < l.length) : (mixF used n l k).getD k fD = l.getD k fD := by
  unfold mixF
  rw [List.getD_eq_getElem?_getD, List.getElem?_append_right (by simp; omega), List.length_map, List.length_take, show k - min k l.length = 0 by omega, List.getElem?_drop, List.getD_eq_getElem?_getD]
  rfl
theorem mix_step (used : List (List UInt8)) (n : Int) (l : List Feat) (k : Nat) (h : k < l.length) : mixF used n l (k + 1) = (mixF used n l k).set k (swapF used n (l.getD k fD)) := by
  unfold mixF
  have hd : l.drop k = l.getD k fD :: l.drop (k + 1) := by
    rw [List.drop_eq_getElem_cons h]
    simp [List.getD_eq_getElem?_getD, h]
  rw [take_snocD l fD k h, List.map_append, List.append_assoc, hd, List.set_append]
  have hl : ((l.take k).map (swapF used n)).length = k := by rw [List.length_map, List.length_take]; omega
  rw [if_neg (by omega), hl, Nat.sub_self]
  rfl
theorem mix_same (used : List (List UInt8)) (n : Int) (l : List Feat) (k : Nat) (h : k < l.length) (hm : bts (l.getD k fD).name ∈ used) : mixF used n l (k + 1) = mixF used n l k := by
  rw [mix_step used n l k h, show swapF used n (l.getD k fD) = l.getD k fD from if_pos hm, ← mix_at used n l k h]
  have hk : k < (mixF used n l k).length := by rw [mix_len used n l k (by omega)]; exact h
  rw [List.getD_eq_getElem?_getD, List.getElem?_eq_getElem hk, Option.getD_some, List.set_getElem_self]
theorem mix_other (used : List (List UInt8)) (n : Int) (l : List Feat) (k : Nat) (h : k < l.length) (hm : ¬ bts (l.getD k fD).name ∈ used) : mixF used n l (k + 1) = (mixF used n l k).set k ⟨(l.getD k fD).name, 1, n, emS⟩ := by
  rw [mix_step used n l k h, show swapF used n (l.getD k fD) = ⟨(l.getD k fD).name, 1, n, emS⟩ from if_neg hm]
theorem in_step (used : List (List UInt8)) (s : List UInt8) (j : Nat) (h : j < used.length) : decide (s ∈ used.take (j + 1)) = (decide (s ∈ used.take j) || decide (used.getD j [] = s)) := by
  have h1 : (s ∈ used.take (j + 1)) ↔ (s ∈ used.take j ∨ used.getD j [] = s) := by
    rw [take_snocD used [] j h, List.mem_append, List.mem_singleton, eq_comm (a := s)]
  rw [decide_eq_decide.2 h1, Bool.decide_or]
theorem str_enc (a : List UInt8) (s : ByteArray) : ((⟨a.toArray⟩ : ByteArray).toList == s.toList) = decide (a = bts s) := by
  rw [ByteArray.toList_eq, ByteArray.toList_eq]
  unfold bts
  by_cases h : a = s.data.toList
  · simp [h]
  · simp [h]

theorem infoFtE : (Try.prog.info? 23).map (fun i => (i.zero, i.size, i.bytes)) = some (some (.agg #[.string ⟨#[]⟩, .int .i64 0, .int .i64 0, .string ⟨#[]⟩]), 4, 48) := by kernel_rfl
theorem ft_one (l : List Feat) : ∀ u ∈ l.flatMap ftCells, u.oneCell' = true := by
  intro u hu
  obtain ⟨f, -, hf⟩ := List.mem_flatMap.1 hu
  simp only [ftCells, List.mem_cons, List.not_mem_nil, or_false] at hf
  rcases hf with rfl | rfl | rfl | rfl <;> rfl
/-- The row that an append of all features onto an empty slice makes. -/
theorem ft_row {W : World} {B : Nat} {v : Value} {l : List Feat} (hown : W.ownsRow B 23 4 v l.length (l.flatMap ftCells)) (h : v ≠ .slice none 0 0) : ∃ g cap cur, v = .slice (some ⟨g, 0, none⟩) l.length cap ∧ B ≤ g ∧ Blk W g cur 23 ∧ l.length * 4 ≤ cur.size ∧ FtRow cur l := by
  obtain ⟨hxs, h2⟩ := hown
  rcases h2 with ⟨hv, -⟩ | ⟨g, cap, cur, hv, hb, hg, hn, -, hcs, ht⟩
  · exact absurd hv h
  · refine ⟨g, cap, cur, hv, hb, hg, ?_, FtRow.of_take ht⟩
    rw [hcs]
    exact Nat.mul_le_mul_right 4 hn
theorem ft_news {w : World} {a : Addr} {c : Nat} {l : List Feat} (h : Feats w (.slice (some a) l.length c) l) : ∀ (j : Nat) (u : Value), (l.flatMap ftCells)[j]? = some u → w.cell? (a.add j) = some u := by
  intro j u hj
  have hjl : j < l.length * 4 := by have := (List.getElem?_eq_some_iff.1 hj).1; rw [ftFlat_len] at this; exact this
  obtain ⟨b, off, ha, hat⟩ := h.at (by omega)
  injection ha with ha
  subst ha
  have hi : j / 4 < l.length := by omega
  obtain ⟨c0, c1, c2, c3⟩ := hat (j / 4) hi
  obtain ⟨g0, g1, g2, g3⟩ := ftFlat_get l (j / 4) hi
  rw [Addr.add_lit]
  have e : j = j / 4 * 4 ∨ j = j / 4 * 4 + 1 ∨ j = j / 4 * 4 + 2 ∨ j = j / 4 * 4 + 3 := by omega
  generalize j / 4 = i at *
  rcases e with rfl | rfl | rfl | rfl
  · rw [g0] at hj; injection hj with hj; subst hj; exact c0
  · rw [g1] at hj; injection hj with hj; subst hj; rw [← Nat.add_assoc]; exact c1
  · rw [g2] at hj; injection hj with hj; subst hj; exact c2
  · rw [g3] at hj; injection hj with hj; subst hj; exact c3
theorem feats_map {w : World} {g cap : Nat} {cur : Array Value} {T : TypeId} {l : List Feat} (f : Feat → Feat) (hb : Blk w g cur T) (h : FtRow cur (l.map f)) (hl : l.length ≤ 1000000) : Feats w (.slice (some ⟨g, 0, none⟩) l.length cap) (l.map f) := by
  have := FtRow.feats (cap := cap) hb h (by simpa using hl)
  rw [List.length_map] at this
  exact this
set_option maxRecDepth 8000 in
set_option maxHeartbeats 8000000 in
theorem law_names (x : Ex) (u : Value) (fv : Value) (l : List Feat) (tv : Value) (us : List UseD) (n : Int) (w : World) (hX0 : ExS w u x.args) (_ : StrOk [x]) (hF : FeatsL w fv l) (hFk : FtOk fv l) (hU : UsesL w tv us) (_ : ∀ f ∈ us, f.name.size ≤ 140737488355328) (_ : (Lit.int .i64 n).wf = true) : Calls Try.prog 5 #[exAgg x u, fv, tv, .int .i64 n] w (OneV (.bool true) w) := by
  obtain ⟨i0, hi0, hz0, hz1, hz2⟩ := info_partsE infoFtE
  replace hi0 := Lib.hid hi0
  replace hz0 := Lib.hid hz0
  replace hz1 := Lib.hid hz1
  replace hz2 := Lib.hid hz2
  obtain ⟨q, cp, rfl⟩ := hX0.form
  obtain ⟨fp, fc, rfl⟩ := hF.form
  obtain ⟨tp, tc, rfl⟩ := hU.form
  have hSm := Lib.hid (fun w1 (h : Ext w w1) => small_any x (hX0.ext h) _ l (hF.ext h))
  have hfew := Lib.hid hF.few
  have hufew := Lib.hid hU.few
  have hul := hU.1
  have hsh := Lib.hid hFk.2
  have hX0 := Lib.hid hX0
  clear hF hU hFk
  have hsw := Lib.hid (fun h hn => evalV_swap (x := x) (l := l) (S := tabS us) h (n := n) hn)
  have hno := Lib.hid (fun h => evalV_noW (x := x) l nilS (tabS us) h)
  unfold exAgg
  go_enter Try.func5, Try.ntmps5
  go_wp2_with fail
  refine (hSm.out _ (by repeat (first | with_reducible exact Ext.refl _ | with_reducible exact hE0 | with_reducible exact hE | with_reducible refine Ext.alloc ?_ _ | with_reducible refine Ext.drewN ?_ _ | with_reducible refine Ext.drew ?_ | ((with_reducible refine Ext.setCell ?_ ?side _); (case side => first | exact Nat.le_refl _ | (simp; done) | (simp; omega)))))).mono ?_
  rintro e w1 ⟨b, rfl, hb, hE1⟩
  have hBx := Lib.hid ((Blk.new w #[.int .i64 x.op, .string x.name, .string x.text, .int .i64 x.n, .slice q x.args.length cp] 27).ext hE1)
  have hE : Ext w w1 := Ext.trans (by repeat (first | with_reducible exact Ext.refl _ | with_reducible exact hE0 | with_reducible exact hE | with_reducible refine Ext.alloc ?_ _ | with_reducible refine Ext.drewN ?_ _ | with_reducible refine Ext.drew ?_ | ((with_reducible refine Ext.setCell ?_ ?side _); (case side => first | exact Nat.le_refl _ | (simp; done) | (simp; omega))))) hE1
  clear hE1 hSm
  cases b with
  | false =>
    clear hb
    go_wp2_with fail
    refine (awake_any _).mono ?_
    rintro e w9 ⟨rfl, hE9⟩
    replace hE := (hE).trans hE9
    go_wp2
    go_ret
    exact ⟨rfl, hE⟩
  | true =>
    obtain ⟨hp, hl⟩ := hb rfl
    clear hb
    by_cases h30 : 30 < us.length
    · have d1 : decide ((30 : Int) < (us.length : Int)) = true := by simp; omega
      have d2 : decide (30 < us.length) = true := by simp; omega
      go_wp2_with fail
      refine (awake_any _).mono ?_
      rintro e w9 ⟨rfl, hE9⟩
      replace hE := (hE).trans hE9
      go_wp2
      go_ret
      exact ⟨rfl, hE⟩
    · have d1 : decide ((30 : Int) < (us.length : Int)) = false := by simp; omega
      have d2 : decide (30 < us.length) = false := by simp; omega
      by_cases hn1 : n < -1000000
      · have d3 : decide (n < -1000000) = true := by simp [hn1]
        go_wp2_with fail
        refine (awake_any _).mono ?_
        rintro e w9 ⟨rfl, hE9⟩
        replace hE := (hE).trans hE9
        go_wp2
        go_ret
        exact ⟨rfl, hE⟩
      · have d3 : decide (n < -1000000) = false := by simp; omega
        by_cases hn2 : 1000000 < n
        · have d4 : decide (1000000 < n) = true := by simp [hn2]
          go_wp2_with fail
          refine (awake_any _).mono ?_
          rintro e w9 ⟨rfl, hE9⟩
          replace hE := (hE).trans hE9
          go_wp2
          go_ret
          exact ⟨rfl, hE⟩
        · have d4 : decide (1000000 < n) = false := by simp; omega
          have hF := Lib.hid ((hfew.out (by omega)).ext hE)
          have hU := Lib.hid ((hufew.out (by omega)).ext hE)
          replace hX0 := Lib.hid (hX0.out.ext hE)
          have hnb : nbrB n = true := by rw [nbr_iff]; omega
          replace hsw := Lib.hid (fun h => hsw.out h hnb)
          have hl6 : l.length ≤ 1000000 := by omega
          clear hfew hufew hul h30 hnb hn1 hn2
          have hpx : x.parts.length ≤ 1000000 := by omega
          clear hp
          have kN := Lib.hid (fun w1 h => names_fn (w := w1) (v := .slice q x.args.length cp) x h hpx)
          have kW := Lib.hid (fun w1 h => windows_fn (w := w1) (v := .slice q x.args.length cp) x h hpx)
          have kM := Lib.hid (fun w1 h1 v2 l2 h2 h3 => eval_src 40 (.slice tp us.length tc) (w := w1) (v := .slice q x.args.length cp) x h1 v2 l2 h2 (tabS us) h3)
          have k0 := Lib.hid (fun w1 h1 h2 => eval_nil (w := w1) (v := .slice q x.args.length cp) x h1 (.slice fp l.length fc) l h2 nilS (fun _ _ _ hc => asker_nil hc))
          have k3 := Lib.hid (fun w1 h1 h2 h3 => kM.out w1 h1 (.slice fp l.length fc) l h2 h3)
          unfold EvalPost at k3 kM k0
          generalize evalV x l (tabS us) = V at *
          obtain ⟨vf, vc⟩ := V
          simp only at k3 hsw hno
          have x0 := hBx.out.cell 0
          have x1 := hBx.out.cell 1
          have x2 := hBx.out.cell 2
          have x3 := hBx.out.cell 3
          have x4 := hBx.out.cell 4
          have xs := hBx.out.lt
          simp at x0 x1 x2 x3 x4
          go_wp2_with fail
          refine (k3.out _ hX0.out hF.out (fun w9 E h9 hc => asker_tab hc (hU.out.ext h9))).mono ?_
          rintro e w2 ⟨rfl, hE9⟩
          clear x0 x1 x2 x3 x4 xs
          clear d1 d2 d3 d4 k3
          replace hF := Lib.hid (hF.out.ext hE9)
          replace hU := Lib.hid (hU.out.ext hE9)
          replace hX0 := Lib.hid (hX0.out.ext hE9)
          replace hBx := Lib.hid (hBx.out.ext hE9)
          replace hE := hE.trans hE9
          clear hE9
          by_cases h0 : vc ≠ 0
          · have d5 : (vc != 0) = true := by simpa using h0
            go_wp2_with fail
            refine (awake_any _).mono ?_
            rintro e w9 ⟨rfl, hE9⟩
            replace hE := (hE.alloc _).trans hE9
            go_wp2
            go_ret
            exact ⟨rfl, hE⟩
          · obtain rfl : vc = 0 := by omega
            have hM := Lib.hid (hsw.out rfl)
            clear hsw h0
            have x0 := hBx.out.cell 0
            have x1 := hBx.out.cell 1
            have x2 := hBx.out.cell 2
            have x3 := hBx.out.cell 3
            have x4 := hBx.out.cell 4
            have xs := hBx.out.lt
            simp at x0 x1 x2 x3 x4
            have hN : Ext w2 (w2.alloc (.cells #[.string vf.name, .int .i64 vf.kind, .int .i64 vf.n, .string vf.text] 23)) := (Ext.refl _).alloc _
            go_wp2_with fail
            refine (kN.out _ (hX0.out.ext hN)).mono ?_
            rintro e w3 ⟨vN, rfl, hNm, hE9⟩
            clear x0 x1 x2 x3 x4 xs
            have hBv := Lib.hid ((Blk.new w2 #[.string vf.name, .int .i64 vf.kind, .int .i64 vf.n, .string vf.text] 23).ext hE9)
            replace hE9 := hN.trans hE9
            clear hN kN
            replace hF := Lib.hid (hF.out.ext hE9)
            replace hU := Lib.hid (hU.out.ext hE9)
            replace hX0 := Lib.hid (hX0.out.ext hE9)
            replace hBx := Lib.hid (hBx.out.ext hE9)
            replace hE := hE.trans hE9
            clear hE9
            obtain ⟨BV, hBVe⟩ : ∃ BV, BV = w2.heap.size := ⟨_, rfl⟩
            rw [← hBVe] at hBv ⊢
            clear hBVe
            generalize uniL x.occ = used at *
            obtain ⟨pn, cn, rfl, hnl, hnat⟩ := hNm
            replace hnat := Lib.hid hnat
            have hown0 : (w3.alloc (.cells #[] 23)).ownsRow w3.heap.size 23 4 (.slice (some ⟨w3.heap.size, 0, none⟩) 0 0) 0 [] := ⟨rfl, Or.inr ⟨w3.heap.size, 0, #[], rfl, Nat.le_refl _, Blk.new _ _ _, Nat.le_refl _, Nat.zero_le _, rfl, rfl⟩⟩
            replace hown0 := Lib.hid hown0
            have hE5 : Ext w3 (w3.alloc (.cells #[] 23)) := (Ext.refl _).alloc _
            replace hE5 := Lib.hid hE5
            have hap : ∀ (v9 : Value) (w9 : World), w9.ownsRow w3.heap.size 23 4 v9 l.length (l.flatMap ftCells) → (w3.alloc (.cells #[] 23)).grownBy w9 (some w3.heap.size) → v9 ≠ .slice none 0 0 → ∃ g cap cur, v9 = .slice (some ⟨g, 0, none⟩) l.length cap ∧ w3.heap.size ≤ g ∧ Blk w9 g cur 23 ∧ l.length * 4 ≤ cur.size ∧ FtRow cur l ∧ Ext w3 w9 := by
              intro v9 w9 h1 h2 h3
              obtain ⟨g, cap, cur, e1, e2, e3, e4, e5⟩ := ft_row h1 h3
              exact ⟨g, cap, cur, e1, e2, e3, e4, e5, hE5.out.grownS h2 (Nat.le_refl _)⟩
            replace hap := Lib.hid hap
            rcases hsh.out with hA | ⟨a0, n0, c0, hA⟩
            · injection hA with e1 e2 e3
              subst e1
              subst e3
              obtain rfl : l = [] := List.length_eq_zero_iff.1 e2
              clear e2 hap
              go_wp2_with (at_builtin; refine wpList_append_own_none rfl _ _ 24 rfl w3.heap.size 23 i0 4 Try.underlying24 hi0.out _ 0 [] rfl hown0.out rfl ?_)
              clear hown0
              go_loopw [13] (fun i wr => i = .int .i64 0 ∧ Ext w3 wr) (fun _ _ => 0)
              case atStart => exact ⟨rfl, hE5.out⟩
              case round =>
                obtain ⟨rfl, hE3⟩ := hrel
                clear hE5
                have hFm : Feats wr (.slice (some ⟨w3.heap.size, 0, none⟩) 0 0) (List.map (swapF used n) []) := ⟨by simp, Or.inl ⟨_, _, rfl, rfl⟩⟩
                replace hFm := Lib.hid hFm
                replace hX0 := Lib.hid (hX0.out.ext hE3)
                replace hF := Lib.hid (hF.out.ext hE3)
                replace hU := Lib.hid (hU.out.ext hE3)
                replace hBx := Lib.hid (hBx.out.ext hE3)
                replace hBv := Lib.hid (hBv.out.ext hE3)
                replace hE := hE.trans hE3
                clear hE3 hnat
                have k9 := Lib.hid (fun h3 => kM.out wr hX0.out (.slice (some ⟨w3.heap.size, 0, none⟩) 0 0) (List.map (swapF used n) []) hFm.out h3)
                rw [hM.out] at k9
                simp only at k9
                clear kM hFm hM
                have x0 := hBx.out.cell 0
                have x1 := hBx.out.cell 1
                have x2 := hBx.out.cell 2
                have x3 := hBx.out.cell 3
                have x4 := hBx.out.cell 4
                have xs := hBx.out.lt
                simp at x0 x1 x2 x3 x4
                go_wp2_with fail
                refine (k9.out (fun w9 E h9 hc => asker_tab hc (hU.out.ext h9))).mono ?_
                rintro e w6 ⟨rfl, hE9⟩
                clear x0 x1 x2 x3 x4 xs
                clear k9
                replace hX0 := Lib.hid (hX0.out.ext hE9)
                replace hF := Lib.hid (hF.out.ext hE9)
                replace hBx := Lib.hid (hBx.out.ext hE9)
                replace hBv := Lib.hid (hBv.out.ext hE9)
                replace hE := hE.trans hE9
                clear hE9
                have hq := featNe vf
                have hqe : ∀ w : World, (binOp .eql 23 (.agg #[.string vf.name, .int .i64 vf.kind, .int .i64 vf.n, .string vf.text]) (.agg #[.string vf.name, .int .i64 vf.kind, .int .i64 vf.n, .string vf.text])).run Try.prog w = .ok (.bool true) w := fun w => by rw [featEq, decide_eq_true rfl]
                have hN : Ext w6 (w6.alloc (.cells #[.string vf.name, .int .i64 vf.kind, .int .i64 vf.n, .string vf.text] 23)) := (Ext.refl _).alloc _
                have hge := Lib.hid hE.size
                have hvl := Lib.hid hBv.out.lt
                have x0 := hBx.out.cell 0
                have x1 := hBx.out.cell 1
                have x2 := hBx.out.cell 2
                have x3 := hBx.out.cell 3
                have x4 := hBx.out.cell 4
                have xs := hBx.out.lt
                have v0 := hBv.out.cell 0
                have v1 := hBv.out.cell 1
                have v2 := hBv.out.cell 2
                have v3 := hBv.out.cell 3
                have vs := hBv.out.lt
                simp at x0 x1 x2 x3 x4 v0 v1 v2 v3
                go_wp2_with fail
                refine (kW.out _ (hX0.out.ext hN)).mono ?_
                rintro e w7 ⟨vA, rfl, hA, hE9⟩
                clear x0 x1 x2 x3 x4 xs v0 v1 v2 v3 vs
                have hBw := Lib.hid ((Blk.new w6 #[.string vf.name, .int .i64 vf.kind, .int .i64 vf.n, .string vf.text] 23).ext hE9)
                replace hE9 := hN.trans hE9
                clear hN kW
                replace hX0 := Lib.hid (hX0.out.ext hE9)
                replace hF := Lib.hid (hF.out.ext hE9)
                replace hBx := Lib.hid (hBx.out.ext hE9)
                replace hBv := Lib.hid (hBv.out.ext hE9)
                replace hE := hE.trans hE9
                clear hE9
                obtain ⟨BW, hBWe⟩ : ∃ BW, BW = w6.heap.size := ⟨_, rfl⟩
                have hBWs : w.heap.size ≤ BW := by rw [hBWe]; exact hge.out
                replace hBWs := Lib.hid hBWs
                have hne1 : ¬ BV = BW := by rw [hBWe]; have := hvl.out; omega
                have hne2 : ¬ BW = BV := fun h => hne1 h.symm
                rw [← hBWe] at hBw ⊢
                clear hBWe hge hvl
                have hz := uniL_zero x.wins
                obtain ⟨pA, cA, rfl, -, -⟩ := hA
                generalize uniL x.wins = wl at *
                by_cases hw : 0 < wl.length
                · have d6 : decide ((0 : Int) < (wl.length : Int)) = true := by simp; omega
                  have d7 : decide (0 < wl.length) = true := by simp [hw]
                  clear hq hqe
                  go_wp2_with fail
                  refine (awake_any _).mono ?_
                  rintro e w9 ⟨rfl, hE9⟩
                  replace hE := (hE).trans hE9
                  go_wp2
                  go_ret
                  exact ⟨rfl, hE⟩
                · have d6 : decide ((0 : Int) < (wl.length : Int)) = false := decide_eq_false (by omega)
                  have d7 : decide (0 < wl.length) = false := decide_eq_false hw
                  have hV0 := hno.out (hz.1 (by omega))
                  rw [hV0] at k0
                  simp only at k0
                  clear hno hz hw hV0
                  have x0 := hBx.out.cell 0
                  have x1 := hBx.out.cell 1
                  have x2 := hBx.out.cell 2
                  have x3 := hBx.out.cell 3
                  have x4 := hBx.out.cell 4
                  have xs := hBx.out.lt
                  simp at x0 x1 x2 x3 x4
                  go_wp2_with fail
                  refine (k0.out _ hX0.out hF.out).mono ?_
                  rintro e w8 ⟨rfl, hE9⟩
                  clear x0 x1 x2 x3 x4 xs
                  clear k0
                  replace hX0 := Lib.hid (hX0.out.ext hE9)
                  replace hF := Lib.hid (hF.out.ext hE9)
                  replace hBx := Lib.hid (hBx.out.ext hE9)
                  replace hBv := Lib.hid (hBv.out.ext hE9)
                  replace hBw := Lib.hid (hBw.out.ext hE9)
                  replace hE := hE.trans hE9
                  clear hE9
                  have v0 := hBv.out.cell 0
                  have v1 := hBv.out.cell 1
                  have v2 := hBv.out.cell 2
                  have v3 := hBv.out.cell 3
                  have vs := hBv.out.lt
                  have w0 := hBw.out.cell 0
                  have w1 := hBw.out.cell 1
                  have w2 := hBw.out.cell 2
                  have w3 := hBw.out.cell 3
                  have ws := hBw.out.lt
                  simp at v0 v1 v2 v3 w0 w1 w2 w3
                  have wf0 := hBw.out.fz 0
                  have wf1 := hBw.out.fz 1
                  have wf2 := hBw.out.fz 2
                  have wf3 := hBw.out.fz 3
                  have hBWge : w.heap.size ≤ BW := hBWs.out
                  go_wp2_with fail
                  skip
                  refine (awake_any _).mono ?_
                  rintro e w9 ⟨rfl, hE9⟩
                  have hE2 : Ext w w9 := Ext.trans (Ext.setCell (Ext.setCell (Ext.setCell (Ext.setCell hE hBWge _) hBWge _) hBWge _) hBWge _) hE9
                  go_wp2
                  go_ret
                  exact ⟨rfl, hE2⟩
            · injection hA with e1 e2 e3
              subst e1
              subst e3
              clear e2
              have hnw := Lib.hid (ft_news (hF.out.ext hE5.out))
              go_wp2_with (at_builtin; refine wpList_append_own _ rfl _ _ 24 rfl w3.heap.size 23 i0 (.agg #[.string ⟨#[]⟩, .int .i64 0, .int .i64 0, .string ⟨#[]⟩]) 4 48 Try.underlying24 hi0.out hz0.out hz1.out hz2.out rfl (by decide) _ 0 [] rfl hown0.out a0 l.length _ (l.flatMap ftCells) rfl (ftFlat_len l) hnw.out (ft_one l) ?_ ?_ ?_ ?_)
              · unfold maxLen; omega
              · omega
              · simp
              intro v9 w9 hown9 hgrow9 hiff9
              obtain ⟨g, cap, cur0, rfl, hg, hBg, hcs, hrow, hE9⟩ := hap.out v9 w9 hown9 hgrow9 hiff9
              replace hBg := Lib.hid hBg
              replace hrow := Lib.hid hrow
              clear hown9 hgrow9 hiff9 hap hnw hown0 hE5
              go_wp2_with fail
              go_loopw [13] (fun i wr => ∃ (k : Nat) (cur : Array Value), k ≤ l.length ∧ i = .int .i64 k ∧ Blk wr g cur 23 ∧ l.length * 4 ≤ cur.size ∧ FtRow cur (mixF used n l k) ∧ Ext w3 wr) (fun i _ => l.length - (intOf i).toNat)
              case atStart => exact ⟨0, cur0, Nat.zero_le _, rfl, hBg.out, hcs, by rw [mix_zero]; exact hrow.out, hE9⟩
              case round =>
                clear hBg hcs hrow hE9
                obtain ⟨k, cur, hk, rfl, hBk, hcs, hrow, hE3⟩ := hrel
                by_cases hlt : k < l.length
                · have hfr := hrow k (by rw [mix_len _ _ _ _ hk]; exact hlt)
                  have hml := mix_len used n l k hk
                  rw [mix_at used n l k hlt] at hfr
                  have hsame := Lib.hid (mix_same used n l k hlt)
                  have hoth := Lib.hid (mix_other used n l k hlt)
                  have m0 : wr.cell? ⟨g, k * 4, none⟩ = some (.string (l.getD k fD).name) := (hBk.cell _).trans hfr.1
                  have m1 : wr.cell? ⟨g, k * 4 + 1, none⟩ = some (.int .i64 (l.getD k fD).kind) := (hBk.cell _).trans hfr.2.1
                  have m2 : wr.cell? ⟨g, k * 4 + 1 + 1, none⟩ = some (.int .i64 (l.getD k fD).n) := (hBk.cell _).trans hfr.2.2.1
                  have m3 : wr.cell? ⟨g, k * 4 + 1 + 1 + 1, none⟩ = some (.string (l.getD k fD).text) := (hBk.cell _).trans hfr.2.2.2
                  clear hfr
                  generalize l.getD k fD = f at *
                  replace hBk := Lib.hid hBk
                  replace hrow := Lib.hid hrow
                  go_wp2_with fail
                  go_loopw [14, 15] (fun b j wi => ∃ jn : Nat, jn ≤ used.length ∧ j = .int .i64 jn ∧ b = .bool (decide (bts f.name ∈ used.take jn)) ∧ Ext wr wi) (fun _ j _ => used.length - (intOf j).toNat)
                  case atStart => exact ⟨0, Nat.zero_le _, rfl, by simp, Ext.refl _⟩
                  case round =>
                    obtain ⟨jn, hj, rfl, rfl, hEi⟩ := hrel
                    by_cases hjl : jn < used.length
                    · obtain ⟨bu, ou, rfl, hcu⟩ := hnat.out (by omega)
                      have u0 := (hE3.trans hEi).get (hcu jn hjl)
                      have y0 := hEi.get m0
                      have hin := in_step used (bts f.name) jn hjl
                      unfold encStr at u0
                      clear hcu m0 m1 m2 m3
                      have heq : used.getD jn [] = bts f.name → (⟨(used.getD jn []).toArray⟩ : ByteArray) = f.name := fun h => by rw [h]; unfold bts; simp
                      have hne : ¬ used.getD jn [] = bts f.name → ¬ (⟨(used.getD jn []).toArray⟩ : ByteArray) = f.name := fun h h2 => h (by rw [← h2]; unfold bts; simp)
                      cases hb : decide (bts f.name ∈ used.take jn) with
                      | true =>
                        rw [hb, Bool.true_or] at hin
                        replace hin := Lib.hid hin
                        clear hb heq hne
                        generalize (⟨(used.getD jn []).toArray⟩ : ByteArray) = s1 at *
                        go_wp2_with fail
                        go_quiet (fail)
                        go_wp2
                        go_roundw
                        case rel => exact ⟨jn + 1, by omega, by go_num, by rw [hin.out], hEi.drewN _⟩
                        case measure => simp [intOf]; omega
                      | false =>
                        rw [hb, Bool.false_or] at hin
                        clear hb
                        by_cases he : used.getD jn [] = bts f.name
                        · have h2 := heq he
                          rw [decide_eq_true he] at hin
                          replace hin := Lib.hid hin
                          clear heq hne he
                          generalize (⟨(used.getD jn []).toArray⟩ : ByteArray) = s1 at *
                          subst h2
                          go_wp2_with fail
                          go_quiet (fail)
                          go_wp2
                          go_roundw
                          case rel => exact ⟨jn + 1, by omega, by go_num, by rw [hin.out], hEi.drewN _⟩
                          case measure => simp [intOf]; omega
                        · have h2 := hne he
                          rw [decide_eq_false he] at hin
                          replace hin := Lib.hid hin
                          clear heq hne he
                          generalize (⟨(used.getD jn []).toArray⟩ : ByteArray) = s1 at *
                          have d8 := bytes_ne h2
                          have d9 := strNe h2
                          clear h2
                          go_wp2_with fail
                          go_quiet (fail)
                          go_wp2
                          go_roundw
                          case rel => exact ⟨jn + 1, by omega, by go_num, by rw [hin.out], hEi.drewN _⟩
                          case measure => simp [intOf]; omega
                    · have hjj : used.take jn = used := List.take_of_length_le (by omega)
                      rw [hjj]
                      clear hjj
                      cases hb : decide (bts f.name ∈ used) with
                      | true =>
                        have hs := Lib.hid (hsame.out (of_decide_eq_true hb))
                        clear hb
                        go_wp2
                        go_roundw
                        case rel => exact ⟨k + 1, cur, by omega, by go_num, hBk.out.ext hEi, hcs, by rw [hs.out]; exact hrow.out, hE3.trans hEi⟩
                        case measure => simp [intOf]; omega
                      | false =>
                        have hs := Lib.hid (hoth.out (of_decide_eq_false hb))
                        clear hb
                        have y0 := hEi.get m0
                        have y1 := hEi.get m1
                        have y2 := hEi.get m2
                        have y3 := hEi.get m3
                        have hBi := hBk.out.ext hEi
                        have z0 := hBi.fz (k * 4)
                        have z1 := hBi.fz (k * 4 + 1)
                        have z2 := hBi.fz (k * 4 + 1 + 1)
                        have z3 := hBi.fz (k * 4 + 1 + 1 + 1)
                        have hE4 := hE3.trans hEi
                        replace hBi := Lib.hid hBi
                        clear m0 m1 m2 m3
                        go_wp2
                        go_roundw
                        case rel => exact ⟨k + 1, _, by omega, by go_num, (((hBi.out.set _ _).set _ _).set _ _).set _ _, by simp only [Array.size_setIfInBounds]; exact hcs, by rw [hs.out]; exact hrow.out.set (by omega) (by rw [hml]; exact hcs) ⟨f.name, 1, n, emS⟩, Ext.setCell (Ext.setCell (Ext.setCell (Ext.setCell hE4 hg _) hg _) hg _) hg _⟩
                        case measure => simp [intOf]; omega
                · obtain rfl : k = l.length := by omega
                  rw [mix_all] at hrow
                  have hFm := Lib.hid (feats_map (cap := cap) (swapF used n) hBk hrow hl6)
                  clear hBk hrow hcs hlt hk
                  replace hX0 := Lib.hid (hX0.out.ext hE3)
                  replace hF := Lib.hid (hF.out.ext hE3)
                  replace hU := Lib.hid (hU.out.ext hE3)
                  replace hBx := Lib.hid (hBx.out.ext hE3)
                  replace hBv := Lib.hid (hBv.out.ext hE3)
                  replace hE := hE.trans hE3
                  clear hE3 hnat
                  have k9 := Lib.hid (fun h3 => kM.out wr hX0.out (.slice (some ⟨g, 0, none⟩) l.length cap) (l.map (swapF used n)) hFm.out h3)
                  rw [hM.out] at k9
                  simp only at k9
                  clear kM hFm hM
                  have x0 := hBx.out.cell 0
                  have x1 := hBx.out.cell 1
                  have x2 := hBx.out.cell 2
                  have x3 := hBx.out.cell 3
                  have x4 := hBx.out.cell 4
                  have xs := hBx.out.lt
                  simp at x0 x1 x2 x3 x4
                  go_wp2_with fail
                  refine (k9.out (fun w9 E h9 hc => asker_tab hc (hU.out.ext h9))).mono ?_
                  rintro e w6 ⟨rfl, hE9⟩
                  clear x0 x1 x2 x3 x4 xs
                  clear k9
                  replace hX0 := Lib.hid (hX0.out.ext hE9)
                  replace hF := Lib.hid (hF.out.ext hE9)
                  replace hBx := Lib.hid (hBx.out.ext hE9)
                  replace hBv := Lib.hid (hBv.out.ext hE9)
                  replace hE := hE.trans hE9
                  clear hE9
                  have hq := featNe vf
                  have hqe : ∀ w : World, (binOp .eql 23 (.agg #[.string vf.name, .int .i64 vf.kind, .int .i64 vf.n, .string vf.text]) (.agg #[.string vf.name, .int .i64 vf.kind, .int .i64 vf.n, .string vf.text])).run Try.prog w = .ok (.bool true) w := fun w => by rw [featEq, decide_eq_true rfl]
                  have hN : Ext w6 (w6.alloc (.cells #[.string vf.name, .int .i64 vf.kind, .int .i64 vf.n, .string vf.text] 23)) := (Ext.refl _).alloc _
                  have hge := Lib.hid hE.size
                  have hvl := Lib.hid hBv.out.lt
                  have x0 := hBx.out.cell 0
                  have x1 := hBx.out.cell 1
                  have x2 := hBx.out.cell 2
                  have x3 := hBx.out.cell 3
                  have x4 := hBx.out.cell 4
                  have xs := hBx.out.lt
                  have v0 := hBv.out.cell 0
                  have v1 := hBv.out.cell 1
                  have v2 := hBv.out.cell 2
                  have v3 := hBv.out.cell 3
                  have vs := hBv.out.lt
                  simp at x0 x1 x2 x3 x4 v0 v1 v2 v3
                  go_wp2_with fail
                  refine (kW.out _ (hX0.out.ext hN)).mono ?_
                  rintro e w7 ⟨vA, rfl, hA, hE9⟩
                  clear x0 x1 x2 x3 x4 xs v0 v1 v2 v3 vs
                  have hBw := Lib.hid ((Blk.new w6 #[.string vf.name, .int .i64 vf.kind, .int .i64 vf.n, .string vf.text] 23).ext hE9)
                  replace hE9 := hN.trans hE9
                  clear hN kW
                  replace hX0 := Lib.hid (hX0.out.ext hE9)
                  replace hF := Lib.hid (hF.out.ext hE9)
                  replace hBx := Lib.hid (hBx.out.ext hE9)
                  replace hBv := Lib.hid (hBv.out.ext hE9)
                  replace hE := hE.trans hE9
                  clear hE9
                  obtain ⟨BW, hBWe⟩ : ∃ BW, BW = w6.heap.size := ⟨_, rfl⟩
                  have hBWs : w.heap.size ≤ BW := by rw [hBWe]; exact hge.out
                  replace hBWs := Lib.hid hBWs
                  have hne1 : ¬ BV = BW := by rw [hBWe]; have := hvl.out; omega
                  have hne2 : ¬ BW = BV := fun h => hne1 h.symm
                  rw [← hBWe] at hBw ⊢
                  clear hBWe hge hvl
                  have hz := uniL_zero x.wins
                  obtain ⟨pA, cA, rfl, -, -⟩ := hA
                  generalize uniL x.wins = wl at *
                  by_cases hw : 0 < wl.length
                  · have d6 : decide ((0 : Int) < (wl.length : Int)) = true := by simp; omega
                    have d7 : decide (0 < wl.length) = true := by simp [hw]
                    clear hq hqe
                    go_wp2_with fail
                    refine (awake_any _).mono ?_
                    rintro e w9 ⟨rfl, hE9⟩
                    replace hE := (hE).trans hE9
                    go_wp2
                    go_ret
                    exact ⟨rfl, hE⟩
                  · have d6 : decide ((0 : Int) < (wl.length : Int)) = false := decide_eq_false (by omega)
                    have d7 : decide (0 < wl.length) = false := decide_eq_false hw
                    have hV0 := hno.out (hz.1 (by omega))
                    rw [hV0] at k0
                    simp only at k0
                    clear hno hz hw hV0
                    have x0 := hBx.out.cell 0
                    have x1 := hBx.out.cell 1
                    have x2 := hBx.out.cell 2
                    have x3 := hBx.out.cell 3
                    have x4 := hBx.out.cell 4
                    have xs := hBx.out.lt
                    simp at x0 x1 x2 x3 x4
                    go_wp2_with fail
                    refine (k0.out _ hX0.out hF.out).mono ?_
                    rintro e w8 ⟨rfl, hE9⟩
                    clear x0 x1 x2 x3 x4 xs
                    clear k0
                    replace hX0 := Lib.hid (hX0.out.ext hE9)
                    replace hF := Lib.hid (hF.out.ext hE9)
                    replace hBx := Lib.hid (hBx.out.ext hE9)
                    replace hBv := Lib.hid (hBv.out.ext hE9)
                    replace hBw := Lib.hid (hBw.out.ext hE9)
                    replace hE := hE.trans hE9
                    clear hE9
                    have v0 := hBv.out.cell 0
                    have v1 := hBv.out.cell 1
                    have v2 := hBv.out.cell 2
                    have v3 := hBv.out.cell 3
                    have vs := hBv.out.lt
                    have w0 := hBw.out.cell 0
                    have w1 := hBw.out.cell 1
                    have w2 := hBw.out.cell 2
                    have w3 := hBw.out.cell 3
                    have ws := hBw.out.lt
                    simp at v0 v1 v2 v3 w0 w1 w2 w3
                    have wf0 := hBw.out.fz 0
                    have wf1 := hBw.out.fz 1
                    have wf2 := hBw.out.fz 2
                    have wf3 := hBw.out.fz 3
                    have hBWge : w.heap.size ≤ BW := hBWs.out
                    go_wp2_with fail
                    skip
                    refine (awake_any _).mono ?_
                    rintro e w9 ⟨rfl, hE9⟩
                    have hE2 : Ext w w9 := Ext.trans (Ext.setCell (Ext.setCell (Ext.setCell (Ext.setCell hE hBWge _) hBWge _) hBWge _) hBWge _) hE9
                    go_wp2
                    go_ret
                    exact ⟨rfl, hE2⟩
end Go.Proofs.Ytpdpjindmghfpaa
