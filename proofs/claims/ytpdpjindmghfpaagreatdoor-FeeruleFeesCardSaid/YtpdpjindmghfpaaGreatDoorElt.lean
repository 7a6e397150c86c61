/- Contract of literal (a walk); what Fold computes, in plain words. -/
import Derived.Test.YtpdpjindmghfpaaGreatDoorEcn
import Derived.Test.YtpdpjindmghfpaaGreatDoorEna
namespace Go.Proofs.YtpdpjindmghfpaaGreatDoor
open Go.RowKit
def leafN (n : Int) : Ex := .mk 1 emS emS n []
/-- A value as an expression. -/
def litE (v : Feat) : Ex := if v.kind = 1 then leafN v.n else if v.kind = 2 then .mk 2 emS v.text 0 [] else .mk 8 emS emS 0 [leafN 1, leafN (2 - v.n)]
def constB (x : Ex) : Bool := x.occ.isEmpty && decide ((evalV x [] nilS).2 = 0)
/-- What fold makes of an expression. -/
def Ex.foldV : Ex → Ex
  | .mk op nm tx n args => if constB (.mk op nm tx n args) then litE (evalV (.mk op nm tx n args) [] nilS).1 else .mk op nm tx n (foldL args)
where foldL : List Ex → List Ex
  | [] => []
  | x :: r => x.foldV :: foldL r
theorem foldL_map (l : List Ex) : Ex.foldV.foldL l = l.map Ex.foldV := by
  induction l with
  | nil => rfl
  | cons x r ih => simp only [Ex.foldV.foldL, ih, List.map_cons]
theorem foldV_mk (op : Int) (nm tx : ByteArray) (n : Int) (args : List Ex) : (Ex.mk op nm tx n args).foldV = if constB (.mk op nm tx n args) then litE (evalV (.mk op nm tx n args) [] nilS).1 else .mk op nm tx n (args.map Ex.foldV) := by
  rw [Ex.foldV, foldL_map]
/-- What Fold returns. -/
def foldTop (x : Ex) : Ex := if 8 < x.levels ∨ x.formed = false then x else x.foldV
theorem compact_pos (l : List (List UInt8)) (h : 0 < l.length) : 0 < (Lib.compact l).length := by
  unfold Lib.compact
  have : ∀ m, 0 < m → 0 < (Lib.compactUpTo l.toArray m).length := by
    intro m
    induction m with
    | zero => intro h; cases h
    | succ m ih =>
      intro _
      rw [Lib.compactUpTo_succ]
      by_cases hm : m = 0
      · subst hm
        rw [Lib.keeps_lt_one _ 0 (by omega)]
        simp
      · have := ih (by omega)
        rw [List.length_append]
        omega
  exact this _ h
theorem uniL_zero (l : List (List UInt8)) : (uniL l).length = 0 ↔ l = [] := by
  constructor
  · intro h
    by_cases h0 : l = []
    · exact h0
    · have h1 : 0 < l.length := List.length_pos_iff.2 h0
      have := compact_pos (sortL l) (by rw [sortL_len]; exact h1)
      unfold uniL at h
      omega
  · intro h; subst h; rw [uniL_nil]; rfl
theorem exb_one {w : World} {ok : Nat → Prop} {B c : Nat} {x : Ex} {u : Value} {T : TypeId} (h : Blk w B #[.int .i64 x.op, .string x.name, .string x.text, .int .i64 x.n, u] T) (hok : ok B) (h1 : ExB w ok u x.args) (hc : 1 ≤ c) : ExB w ok (.slice (some ⟨B, 0, none⟩) 1 c) [x] := by
  refine ExB.row B 0 c [x] (fun _ => u) (by simp) (by simp) (by simpa using hc) hok ?_ ?_
  · intro i hi
    obtain rfl : i = 0 := by simp at hi; omega
    exact ⟨(h.cell 0).trans rfl, (h.cell 1).trans rfl, (h.cell 2).trans rfl, (h.cell 3).trans rfl, (h.cell 4).trans rfl⟩
  · intro i hi
    obtain rfl : i = 0 := by simp at hi; omega
    exact h1
theorem exb_two {w : World} {ok : Nat → Prop} {B c : Nat} {x y : Ex} {u1 u2 : Value} {T : TypeId} (h : Blk w B #[.int .i64 x.op, .string x.name, .string x.text, .int .i64 x.n, u1, .int .i64 y.op, .string y.name, .string y.text, .int .i64 y.n, u2] T) (hok : ok B) (h1 : ExB w ok u1 x.args) (h2 : ExB w ok u2 y.args) (hc : 2 ≤ c) : ExB w ok (.slice (some ⟨B, 0, none⟩) 2 c) [x, y] := by
  refine ExB.row B 0 c [x, y] (fun i => if i = 0 then u1 else u2) (by simp) (by simp) (by simpa using hc) hok ?_ ?_
  · intro i hi
    have : i = 0 ∨ i = 1 := by simp at hi; omega
    rcases this with rfl | rfl
    · exact ⟨(h.cell 0).trans rfl, (h.cell 1).trans rfl, (h.cell 2).trans rfl, (h.cell 3).trans rfl, (h.cell 4).trans rfl⟩
    · exact ⟨(h.cell 5).trans rfl, (h.cell 6).trans rfl, (h.cell 7).trans rfl, (h.cell 8).trans rfl, (h.cell 9).trans rfl⟩
  · intro i hi
    have : i = 0 ∨ i = 1 := by simp at hi; omega
    rcases this with rfl | rfl
    · exact h1
    · exact h2
theorem exb_three {w : World} {ok : Nat → Prop} {B c : Nat} {x y z : Ex} {u1 u2 u3 : Value} {T : TypeId} (h : Blk w B #[.int .i64 x.op, .string x.name, .string x.text, .int .i64 x.n, u1, .int .i64 y.op, .string y.name, .string y.text, .int .i64 y.n, u2, .int .i64 z.op, .string z.name, .string z.text, .int .i64 z.n, u3] T) (hok : ok B) (h1 : ExB w ok u1 x.args) (h2 : ExB w ok u2 y.args) (h3 : ExB w ok u3 z.args) (hc : 3 ≤ c) : ExB w ok (.slice (some ⟨B, 0, none⟩) 3 c) [x, y, z] := by
  refine ExB.row B 0 c [x, y, z] (fun i => if i = 0 then u1 else if i = 1 then u2 else u3) (by simp) (by simp) (by simpa using hc) hok ?_ ?_
  · intro i hi
    have : i = 0 ∨ i = 1 ∨ i = 2 := by simp at hi; omega
    rcases this with rfl | rfl | rfl
    · exact ⟨(h.cell 0).trans rfl, (h.cell 1).trans rfl, (h.cell 2).trans rfl, (h.cell 3).trans rfl, (h.cell 4).trans rfl⟩
    · exact ⟨(h.cell 5).trans rfl, (h.cell 6).trans rfl, (h.cell 7).trans rfl, (h.cell 8).trans rfl, (h.cell 9).trans rfl⟩
    · exact ⟨(h.cell 10).trans rfl, (h.cell 11).trans rfl, (h.cell 12).trans rfl, (h.cell 13).trans rfl, (h.cell 14).trans rfl⟩
  · intro i hi
    have : i = 0 ∨ i = 1 ∨ i = 2 := by simp at hi; omega
    rcases this with rfl | rfl | rfl
    · exact h1
    · exact h2
    · exact h3
set_option maxRecDepth 8000 in
set_option maxHeartbeats 2000000 in
theorem literal_any (f : Feat) (w : World) (hf : f.kind = 1 ∨ f.kind = 2 ∨ (f.kind = 3 ∧ (f.n = 0 ∨ f.n = 1))) : Calls Tryz.prog 111 #[.agg #[.string f.name, .int .i64 f.kind, .int .i64 f.n, .string f.text]] w (ExP (litE f) w) := by
  rcases hf with h | h | ⟨h, hn⟩
  · have hR := Lib.hid (show litE f = leafN f.n by simp [litE, h])
    have g1 : (f.kind == 1) = true := by simp [h]
    clear h
    go_enter Tryz.func111, Tryz.ntmps111
    go_wp2
    refine bodyPost_ret (v := .agg #[.int .i64 1, .string ⟨#[]⟩, .string ⟨#[]⟩, .int .i64 f.n, .slice none 0 0]) (by simp [results, Tryz.results111, go_sem]) rfl ?_
    rw [hR.out]
    exact ⟨none, 0, rfl, .nil _ _, (by repeat (first | with_reducible exact Ext.refl _ | with_reducible exact hE0 | with_reducible exact hE | with_reducible refine Ext.alloc ?_ _ | with_reducible refine Ext.drewN ?_ _ | with_reducible refine Ext.drew ?_ | ((with_reducible refine Ext.setCell ?_ ?side _); (case side => first | exact Nat.le_refl _ | (simp; done) | (simp; omega)))))⟩
  · have hR := Lib.hid (show litE f = .mk 2 emS f.text 0 [] by simp [litE, h])
    have g1 : (f.kind == 1) = false := by simp [h]
    have g2 : (f.kind == 2) = true := by simp [h]
    clear h
    go_enter Tryz.func111, Tryz.ntmps111
    go_wp2
    refine bodyPost_ret (v := .agg #[.int .i64 2, .string ⟨#[]⟩, .string f.text, .int .i64 0, .slice none 0 0]) (by simp [results, Tryz.results111, go_sem]) rfl ?_
    rw [hR.out]
    exact ⟨none, 0, rfl, .nil _ _, (by repeat (first | with_reducible exact Ext.refl _ | with_reducible exact hE0 | with_reducible exact hE | with_reducible refine Ext.alloc ?_ _ | with_reducible refine Ext.drewN ?_ _ | with_reducible refine Ext.drew ?_ | ((with_reducible refine Ext.setCell ?_ ?side _); (case side => first | exact Nat.le_refl _ | (simp; done) | (simp; omega)))))⟩
  · have hR := Lib.hid (show litE f = .mk 8 emS emS 0 [leafN 1, leafN (2 - f.n)] by simp [litE, h])
    have g1 : (f.kind == 1) = false := by simp [h]
    have g2 : (f.kind == 2) = false := by simp [h]
    have e1 : wrap64 (2 - f.n) = 2 - f.n := wrap64_id _ (by omega) (by omega)
    clear h hn
    go_enter Tryz.func111, Tryz.ntmps111
    go_wp2
    refine bodyPost_ret (v := .agg #[.int .i64 8, .string ⟨#[]⟩, .string ⟨#[]⟩, .int .i64 0, .slice (some ⟨w.heap.size + 1 + 1 + 1 + 1, 0, none⟩) 2 2]) (by simp [results, Tryz.results111, go_sem]) rfl ?_
    rw [hR.out]
    exact ⟨_, 2, rfl, exb_two (x := leafN 1) (y := leafN (2 - f.n)) (Blk.new' _ _ _ _ (by simp)) (by omega) (.nil _ _) (.nil _ _) (by omega), (by repeat (first | with_reducible exact Ext.refl _ | with_reducible exact hE0 | with_reducible exact hE | with_reducible refine Ext.alloc ?_ _ | with_reducible refine Ext.drewN ?_ _ | with_reducible refine Ext.drew ?_ | ((with_reducible refine Ext.setCell ?_ ?side _); (case side => first | exact Nat.le_refl _ | (simp; done) | (simp; omega)))))⟩
end Go.Proofs.YtpdpjindmghfpaaGreatDoor
