/- The closures of Names and Windows (walks; printed by gen/names1.py). -/
import Derived.Test.YtpdpjindmghfpaaGreatDoorEvi
import Derived.Test.YtpdpjindmghfpaaGreatDoorEty
namespace Go.Proofs.YtpdpjindmghfpaaGreatDoor
open Go.RowKit Go.Sort
def bts (s : ByteArray) : List UInt8 := s.data.toList
theorem enc_bts (s : ByteArray) : encStr (bts s) = .string s := by
  unfold encStr bts
  simp
/-- The names that a part itself adds. -/
def occ1 (x : Ex) : List (List UInt8) := if x.op = 3 ∨ x.op = 16 ∨ x.op = 17 then [bts x.name] else []
def win1 (x : Ex) : List (List UInt8) := if x.op = 16 ∨ x.op = 17 then [bts x.name] else []
def long1 (m : Int) (x : Ex) : Int := if x.op = 16 ∨ x.op = 17 then max m x.n else m
/-- The variable at block L holds the names that were collected. -/
def NS (B L : Nat) (w : World) (acc : List (List UInt8)) : Prop :=
  B ≤ L ∧ B ≤ w.heap.size ∧ ∃ v, Blk w L #[v] 72 ∧ w.ownsRow B 9 1 v acc.length (acc.map encStr)
theorem NS.ext {B L : Nat} {w w' : World} {acc : List (List UInt8)} (h : NS B L w acc) (k : Ext w w') : NS B L w' acc := by
  obtain ⟨h1, h2, v, h3, h4⟩ := h
  exact ⟨h1, Nat.le_trans h2 k.size, v, h3.ext k, ownsRow_ext h4 k⟩
theorem infoStrE : (Tryz.prog.info? 9).map (fun i => (i.zero, i.size, i.bytes)) = some (some (.string ⟨#[]⟩), 1, 16) := by kernel_rfl
theorem row_str {w : World} {B : Nat} {v : Value} {n : Nat} {xs : List Value} (h : w.ownsRow B 9 1 v n xs) : ∀ k, v.ownBlock = some k → B ≤ k ∧ ∃ cs z, w.heap[k]? = some (.cells cs 9 z) := by
  intro k hk
  obtain ⟨_, ⟨h, rfl⟩ | ⟨g, cap, cur, hv, hg, hb, _⟩⟩ := h
  · subst h; cases hk
  · subst hv
    simp only [Value.ownBlock, Option.some.injEq] at hk
    subst hk
    exact ⟨hg, cur, _, hb⟩
theorem blk_grown {w w' : World} {r : Option Nat} {k : Nat} {cs : Array Value} {T : TypeId} (h : w.grownBy w' r) (hb : Blk w k cs T) (hne : some k ≠ r) : Blk w' k cs T := by
  have := hb.lt
  unfold Blk at *
  rw [h.block k this hne, hb]
theorem row_set {w : World} {B : Nat} {v : Value} {n : Nat} {xs : List Value} {T : TypeId} {cs : Array Value} {L : Nat} (h : w.ownsRow B 9 1 v n xs) (hb : Blk w L cs T) (hT : T ≠ 9) (u : Value) : (w.setCell ⟨L, 0, none⟩ u).ownsRow B 9 1 v n xs := by
  obtain ⟨h1, h | ⟨g, cap, cur, hv, hg, hgb, h2⟩⟩ := h
  · exact ⟨h1, Or.inl h⟩
  · refine ⟨h1, Or.inr ⟨g, cap, cur, hv, hg, ?_, h2⟩⟩
    have hne : g ≠ L := by
      intro e; subst e
      unfold Blk at hb
      rw [hb] at hgb
      injection hgb with hgb
      injection hgb with _ h5
      exact hT h5
    rw [Below.heap_setCell _ _ _ _ hne, hgb]
/-- What an append of a name, and its store into the variable, leave. -/
theorem NS.push {B L : Nat} {w w1 : World} {acc : List (List UInt8)} {v v' : Value} {s : ByteArray} (own : Nat → Prop) (ho : own L) (hB : B ≤ L) (hw : B ≤ w.heap.size) (hL : Blk w L #[v] 72) (hrow : w.ownsRow B 9 1 v acc.length (acc.map encStr))
    (hown : w1.ownsRow B 9 1 v' (acc.length + 1) (acc.map encStr ++ [.string s])) (hg : w.grownBy w1 v.ownBlock) : Blk w1 L #[v] 72 ∧ NS B L (w1.setCell ⟨L, 0, none⟩ v') (acc ++ [bts s]) ∧ Mv B own w (w1.setCell ⟨L, 0, none⟩ v') := by
  have hne : some L ≠ v.ownBlock := by
    intro e
    obtain ⟨_, cs, z, h2⟩ := row_str hrow L e.symm
    unfold Blk at hL
    rw [hL] at h2
    injection h2 with h2
    injection h2 with _ h5
    exact absurd h5 (by decide)
  have hL1 := blk_grown hg hL hne
  refine ⟨hL1, ⟨hB, by simp; exact Nat.le_trans hw hg.size, v', ?_, ?_⟩, (Mv.grown hg (row_str hrow)).trans (Mv.set _ _ _ _ ho)⟩
  · exact hL1.set 0 v'
  · have := row_set hown hL1 (by decide) v'
    simpa [enc_bts] using this
set_option maxRecDepth 8000 in
set_option maxHeartbeats 2000000 in
theorem names1_any (B L : Nat) (own : Nat → Prop) (ho : own L) (acc : List (List UInt8)) (x : Ex) (q : Option Addr) (len cp : Nat) (w : World) (hI : NS B L w acc) (hl : acc.length < 1000000) :
    Calls Tryz.prog 71 #[exAgg x (.slice q len cp), .pointer (some ⟨L, 0, none⟩)] w (VP (NS B L) B own (acc ++ occ1 x) w) := by
  obtain ⟨hB, hw, v, hL, hrow⟩ := hI
  obtain ⟨p, c, rfl⟩ := owns_formE hrow
  obtain ⟨i0, hi, hz0, hz1, hz2⟩ := info_partsE infoStrE
  obtain ⟨op, nm, tx, n, args⟩ := x
  replace hi := Lib.hid hi
  replace hz0 := Lib.hid hz0
  replace hz1 := Lib.hid hz1
  replace hz2 := Lib.hid hz2
  have hLc : w.cell? ⟨L, 0, none⟩ = some (.slice p acc.length c) := (hL.cell 0).trans rfl
  have hLf : w.frozen? ⟨L, 0, none⟩ = false := hL.fz 0
  have hLl : L < w.heap.size := hL.lt
  replace hL := Lib.hid hL
  replace hrow := Lib.hid hrow
  have hB' := Lib.hid hB
  have hw' := Lib.hid hw
  clear hB hw
  rw [exAgg_mk]
  by_cases hop : op = 3 ∨ op = 16 ∨ op = 17
  · have hR := Lib.hid (show acc ++ occ1 (.mk op nm tx n args) = acc ++ [bts nm] by rw [show occ1 (.mk op nm tx n args) = [bts nm] from if_pos hop])
    generalize acc ++ occ1 (.mk op nm tx n args) = R at *
    rcases hop with rfl | rfl | rfl
    · go_enter Tryz.func71, Tryz.ntmps71
      go_wp2_with (at_builtin; refine wpList_append_own _ rfl _ _ 72 rfl B 9 i0 (.string ⟨#[]⟩) 1 16 Tryz.underlying72 hi.out hz0.out hz1.out hz2.out rfl (by decide) _ _ _ rfl ((hrow.out.alloc _).alloc _) ⟨w.heap.size + 1, 0, none⟩ 1 1 [.string nm] rfl rfl ?_ ?_ ?_ ?_ ?_ ?_)
      · intro j u hj
        cases j with
        | zero => simp at hj; subst hj; simp [go_sem, Addr.add]
        | succ j => simp at hj
      · intro u hu; simp at hu; subst hu; rfl
      · unfold maxLen; omega
      · omega
      · have := hw'.out; simp; omega
      intro v' w1 hown1 hgrow1 _
      obtain ⟨p1, c1, rfl⟩ := owns_formE hown1
      obtain ⟨hL1, hN1, hM1⟩ := NS.push own ho hB'.out (Nat.le_trans hw'.out (by simp; omega)) ((hL.out.alloc _).alloc _) ((hrow.out.alloc _).alloc _) hown1 hgrow1
      have hl1 : w1.cell? ⟨L, 0, none⟩ = some (.slice p acc.length c) := (hL1.cell 0).trans rfl
      have hf1 : w1.frozen? ⟨L, 0, none⟩ = false := hL1.fz 0
      clear hown1 hgrow1 hL1 hLc hLf
      go_wp2
      go_end0
      exact ⟨rfl, by rw [hR.out]; exact hN1, Mv.trans (Mv.of_ext (by repeat (first | with_reducible exact Ext.refl _ | with_reducible exact hE0 | with_reducible exact hE | with_reducible refine Ext.alloc ?_ _ | with_reducible refine Ext.drewN ?_ _ | with_reducible refine Ext.drew ?_ | ((with_reducible refine Ext.setCell ?_ ?side _); (case side => first | exact Nat.le_refl _ | (simp; done) | (simp; omega)))))) hM1⟩
    · go_enter Tryz.func71, Tryz.ntmps71
      go_wp2_with (at_builtin; refine wpList_append_own _ rfl _ _ 72 rfl B 9 i0 (.string ⟨#[]⟩) 1 16 Tryz.underlying72 hi.out hz0.out hz1.out hz2.out rfl (by decide) _ _ _ rfl ((hrow.out.alloc _).alloc _) ⟨w.heap.size + 1, 0, none⟩ 1 1 [.string nm] rfl rfl ?_ ?_ ?_ ?_ ?_ ?_)
      · intro j u hj
        cases j with
        | zero => simp at hj; subst hj; simp [go_sem, Addr.add]
        | succ j => simp at hj
      · intro u hu; simp at hu; subst hu; rfl
      · unfold maxLen; omega
      · omega
      · have := hw'.out; simp; omega
      intro v' w1 hown1 hgrow1 _
      obtain ⟨p1, c1, rfl⟩ := owns_formE hown1
      obtain ⟨hL1, hN1, hM1⟩ := NS.push own ho hB'.out (Nat.le_trans hw'.out (by simp; omega)) ((hL.out.alloc _).alloc _) ((hrow.out.alloc _).alloc _) hown1 hgrow1
      have hl1 : w1.cell? ⟨L, 0, none⟩ = some (.slice p acc.length c) := (hL1.cell 0).trans rfl
      have hf1 : w1.frozen? ⟨L, 0, none⟩ = false := hL1.fz 0
      clear hown1 hgrow1 hL1 hLc hLf
      go_wp2
      go_end0
      exact ⟨rfl, by rw [hR.out]; exact hN1, Mv.trans (Mv.of_ext (by repeat (first | with_reducible exact Ext.refl _ | with_reducible exact hE0 | with_reducible exact hE | with_reducible refine Ext.alloc ?_ _ | with_reducible refine Ext.drewN ?_ _ | with_reducible refine Ext.drew ?_ | ((with_reducible refine Ext.setCell ?_ ?side _); (case side => first | exact Nat.le_refl _ | (simp; done) | (simp; omega)))))) hM1⟩
    · go_enter Tryz.func71, Tryz.ntmps71
      go_wp2_with (at_builtin; refine wpList_append_own _ rfl _ _ 72 rfl B 9 i0 (.string ⟨#[]⟩) 1 16 Tryz.underlying72 hi.out hz0.out hz1.out hz2.out rfl (by decide) _ _ _ rfl ((hrow.out.alloc _).alloc _) ⟨w.heap.size + 1, 0, none⟩ 1 1 [.string nm] rfl rfl ?_ ?_ ?_ ?_ ?_ ?_)
      · intro j u hj
        cases j with
        | zero => simp at hj; subst hj; simp [go_sem, Addr.add]
        | succ j => simp at hj
      · intro u hu; simp at hu; subst hu; rfl
      · unfold maxLen; omega
      · omega
      · have := hw'.out; simp; omega
      intro v' w1 hown1 hgrow1 _
      obtain ⟨p1, c1, rfl⟩ := owns_formE hown1
      obtain ⟨hL1, hN1, hM1⟩ := NS.push own ho hB'.out (Nat.le_trans hw'.out (by simp; omega)) ((hL.out.alloc _).alloc _) ((hrow.out.alloc _).alloc _) hown1 hgrow1
      have hl1 : w1.cell? ⟨L, 0, none⟩ = some (.slice p acc.length c) := (hL1.cell 0).trans rfl
      have hf1 : w1.frozen? ⟨L, 0, none⟩ = false := hL1.fz 0
      clear hown1 hgrow1 hL1 hLc hLf
      go_wp2
      go_end0
      exact ⟨rfl, by rw [hR.out]; exact hN1, Mv.trans (Mv.of_ext (by repeat (first | with_reducible exact Ext.refl _ | with_reducible exact hE0 | with_reducible exact hE | with_reducible refine Ext.alloc ?_ _ | with_reducible refine Ext.drewN ?_ _ | with_reducible refine Ext.drew ?_ | ((with_reducible refine Ext.setCell ?_ ?side _); (case side => first | exact Nat.le_refl _ | (simp; done) | (simp; omega)))))) hM1⟩
  · have hR := Lib.hid (show acc ++ occ1 (.mk op nm tx n args) = acc by rw [show occ1 (.mk op nm tx n args) = [] from if_neg hop, List.append_nil])
    generalize acc ++ occ1 (.mk op nm tx n args) = R at *
    have d3 : (op == 3) = false := by simp; omega
    have d16 : (op == 16) = false := by simp; omega
    have d17 : (op == 17) = false := by simp; omega
    clear hop
    go_enter Tryz.func71, Tryz.ntmps71
    go_wp2
    go_end0
    exact ⟨rfl, by rw [hR.out]; exact NS.ext ⟨hB'.out, hw'.out, _, hL.out, hrow.out⟩ (by repeat (first | with_reducible exact Ext.refl _ | with_reducible exact hE0 | with_reducible exact hE | with_reducible refine Ext.alloc ?_ _ | with_reducible refine Ext.drewN ?_ _ | with_reducible refine Ext.drew ?_ | ((with_reducible refine Ext.setCell ?_ ?side _); (case side => first | exact Nat.le_refl _ | (simp; done) | (simp; omega))))), Mv.of_ext (by repeat (first | with_reducible exact Ext.refl _ | with_reducible exact hE0 | with_reducible exact hE | with_reducible refine Ext.alloc ?_ _ | with_reducible refine Ext.drewN ?_ _ | with_reducible refine Ext.drew ?_ | ((with_reducible refine Ext.setCell ?_ ?side _); (case side => first | exact Nat.le_refl _ | (simp; done) | (simp; omega)))))⟩
/-- The variables at the blocks L and L2 hold the names and the longest window. -/
def WS (B L L2 : Nat) (w : World) (s : List (List UInt8) × Int) : Prop := NS B L w s.1 ∧ B ≤ L2 ∧ L ≠ L2 ∧ Blk w L2 #[.int .i64 s.2] 2
theorem WS.ext {B L L2 : Nat} {w w' : World} {s : List (List UInt8) × Int} (h : WS B L L2 w s) (k : Ext w w') : WS B L L2 w' s := ⟨h.1.ext k, h.2.1, h.2.2.1, h.2.2.2.ext k⟩
theorem NS.setO {B L L2 : Nat} {w : World} {acc : List (List UInt8)} {cs : Array Value} {T : TypeId} (h : NS B L w acc) (hb : Blk w L2 cs T) (hT : T ≠ 9) (hne : L ≠ L2) (u : Value) : NS B L (w.setCell ⟨L2, 0, none⟩ u) acc := by
  obtain ⟨h1, h2, v, h3, h4⟩ := h
  exact ⟨h1, by simpa using h2, v, h3.other 0 u hne, row_set h4 hb hT u⟩
def winN (s : List (List UInt8) × Int) (x : Ex) : List (List UInt8) × Int := (s.1 ++ win1 x, long1 s.2 x)
theorem ret_intE {k : IntKind} {a b : Int} (h : a = b) : Value.int k a = .int k b := by rw [h]
end Go.Proofs.YtpdpjindmghfpaaGreatDoor
