/- Contracts of the law's number, name, two, is (walks). -/
import Derived.Test.YtnppbeajemhjeaaGreatEi
import Derived.Test.YtnppbeajemhjeaaGreatEe
namespace Go.Proofs.YtnppbeajemhjeaaGreat
open Go.RowKit
set_option maxHeartbeats 400000 in
theorem mkNum_any (n : Int) (w : World) : Calls Tryz.prog 18 #[.int .i64 n] w (OneV (.agg #[.int .i64 1, .string ⟨#[]⟩, .string ⟨#[]⟩, .int .i64 n, .slice none 0 0]) w) := by
  go_enter Tryz.func18, Tryz.ntmps18
  go_wp2
  exact bodyPost_ret (v := .agg #[.int .i64 1, .string ⟨#[]⟩, .string ⟨#[]⟩, .int .i64 n, .slice none 0 0]) (by simp [results, Tryz.results18, go_sem]) rfl ⟨rfl, (by repeat (first | with_reducible exact Ext.refl _ | with_reducible exact hE0 | with_reducible exact hE | with_reducible refine Ext.alloc ?_ _ | with_reducible refine Ext.drewN ?_ _ | with_reducible refine Ext.drew ?_ | ((with_reducible refine Ext.setCell ?_ ?side _); (case side => first | exact Nat.le_refl _ | (simp; done) | (simp; omega)))))⟩
set_option maxHeartbeats 400000 in
theorem mkName_any (s : ByteArray) (w : World) : Calls Tryz.prog 17 #[.string s] w (OneV (.agg #[.int .i64 3, .string s, .string ⟨#[]⟩, .int .i64 0, .slice none 0 0]) w) := by
  go_enter Tryz.func17, Tryz.ntmps17
  go_wp2
  exact bodyPost_ret (v := .agg #[.int .i64 3, .string s, .string ⟨#[]⟩, .int .i64 0, .slice none 0 0]) (by simp [results, Tryz.results17, go_sem]) rfl ⟨rfl, (by repeat (first | with_reducible exact Ext.refl _ | with_reducible exact hE0 | with_reducible exact hE | with_reducible refine Ext.alloc ?_ _ | with_reducible refine Ext.drewN ?_ _ | with_reducible refine Ext.drew ?_ | ((with_reducible refine Ext.setCell ?_ ?side _); (case side => first | exact Nat.le_refl _ | (simp; done) | (simp; omega)))))⟩
def TwoP (op : Int) (x y : Ex) (w : World) (e : Ending) (w' : World) : Prop := ∃ p c, e = .returned (.agg #[.int .i64 op, .string ⟨#[]⟩, .string ⟨#[]⟩, .int .i64 0, .slice p 2 c]) ∧ ExS w' (.slice p 2 c) [x, y] ∧ Ext w w'
theorem exs_one {w : World} {B c : Nat} {x : Ex} {u : Value} {T : TypeId} (h : Blk w B #[.int .i64 x.op, .string x.name, .string x.text, .int .i64 x.n, u] T) (h1 : ExS w u x.args) (hc : 1 ≤ c) : ExS w (.slice (some ⟨B, 0, none⟩) 1 c) [x] := by
  refine ExS.row B 0 c [x] (fun _ => u) (by simp) (by simp) (by simpa using hc) ?_ ?_
  · intro i hi
    obtain rfl : i = 0 := by simp at hi; omega
    exact ⟨(h.cell 0).trans rfl, (h.cell 1).trans rfl, (h.cell 2).trans rfl, (h.cell 3).trans rfl, (h.cell 4).trans rfl⟩
  · intro i hi
    obtain rfl : i = 0 := by simp at hi; omega
    exact h1
theorem exs_two {w : World} {B c : Nat} {x y : Ex} {u1 u2 : Value} {T : TypeId} (h : Blk w B #[.int .i64 x.op, .string x.name, .string x.text, .int .i64 x.n, u1, .int .i64 y.op, .string y.name, .string y.text, .int .i64 y.n, u2] T) (h1 : ExS w u1 x.args) (h2 : ExS w u2 y.args) (hc : 2 ≤ c) : ExS w (.slice (some ⟨B, 0, none⟩) 2 c) [x, y] := by
  refine ExS.row B 0 c [x, y] (fun i => if i = 0 then u1 else u2) (by simp) (by simp) (by simpa using hc) ?_ ?_
  · intro i hi
    have : i = 0 ∨ i = 1 := by simp at hi; omega
    rcases this with rfl | rfl
    · exact ⟨(h.cell 0).trans rfl, (h.cell 1).trans rfl, (h.cell 2).trans rfl, (h.cell 3).trans rfl, (h.cell 4).trans rfl⟩
    · exact ⟨(h.cell 5).trans rfl, (h.cell 6).trans rfl, (h.cell 7).trans rfl, (h.cell 8).trans rfl, (h.cell 9).trans rfl⟩
  · intro i hi
    have : i = 0 ∨ i = 1 := by simp at hi; omega
    rcases this with rfl | rfl
    · exact h1
    · exact h2
theorem exs_three {w : World} {B c : Nat} {x y z : Ex} {u1 u2 u3 : Value} {T : TypeId} (h : Blk w B #[.int .i64 x.op, .string x.name, .string x.text, .int .i64 x.n, u1, .int .i64 y.op, .string y.name, .string y.text, .int .i64 y.n, u2, .int .i64 z.op, .string z.name, .string z.text, .int .i64 z.n, u3] T) (h1 : ExS w u1 x.args) (h2 : ExS w u2 y.args) (h3 : ExS w u3 z.args) (hc : 3 ≤ c) : ExS w (.slice (some ⟨B, 0, none⟩) 3 c) [x, y, z] := by
  refine ExS.row B 0 c [x, y, z] (fun i => if i = 0 then u1 else if i = 1 then u2 else u3) (by simp) (by simp) (by simpa using hc) ?_ ?_
  · intro i hi
    have : i = 0 ∨ i = 1 ∨ i = 2 := by simp at hi; omega
    rcases this with rfl | rfl | rfl
    · exact ⟨(h.cell 0).trans rfl, (h.cell 1).trans rfl, (h.cell 2).trans rfl, (h.cell 3).trans rfl, (h.cell 4).trans rfl⟩
    · exact ⟨(h.cell 5).trans rfl, (h.cell 6).trans rfl, (h.cell 7).trans rfl, (h.cell 8).trans rfl, (h.cell 9).trans rfl⟩
    · exact ⟨(h.cell 10).trans rfl, (h.cell 11).trans rfl, (h.cell 12).trans rfl, (h.cell 13).trans rfl, (h.cell 14).trans rfl⟩
  · intro i hi
    have : i = 0 ∨ i = 1 ∨ i = 2 := by simp at hi; omega
    rcases this with rfl | rfl | rfl
    · exact h1
    · exact h2
    · exact h3
set_option maxRecDepth 8000 in
set_option maxHeartbeats 1000000 in
theorem two_any (op : Int) (x y : Ex) (p1 p2 : Option Addr) (m1 m2 c1 c2 : Nat) (w : World) (h1 : ExS w (.slice p1 m1 c1) x.args) (h2 : ExS w (.slice p2 m2 c2) y.args) : Calls Tryz.prog 16 #[.int .i64 op, exAgg x (.slice p1 m1 c1), exAgg y (.slice p2 m2 c2)] w (TwoP op x y w) := by
  unfold exAgg
  replace h1 := Lib.hid h1
  replace h2 := Lib.hid h2
  go_enter Tryz.func16, Tryz.ntmps16
  go_wp2
  exact bodyPost_ret (v := .agg #[.int .i64 op, .string ⟨#[]⟩, .string ⟨#[]⟩, .int .i64 0, .slice (some ⟨w.heap.size + 1 + 1 + 1, 0, none⟩) 2 2]) (by simp [results, Tryz.results16, go_sem]) rfl ⟨_, 2, rfl, exs_two (x := x) (y := y) (Blk.new' _ _ _ _ (by simp)) (h1.out.ext (by repeat (first | with_reducible exact Ext.refl _ | with_reducible exact hE0 | with_reducible exact hE | with_reducible refine Ext.alloc ?_ _ | with_reducible refine Ext.drewN ?_ _ | with_reducible refine Ext.drew ?_ | ((with_reducible refine Ext.setCell ?_ ?side _); (case side => first | exact Nat.le_refl _ | (simp; done) | (simp; omega)))))) (h2.out.ext (by repeat (first | with_reducible exact Ext.refl _ | with_reducible exact hE0 | with_reducible exact hE | with_reducible refine Ext.alloc ?_ _ | with_reducible refine Ext.drewN ?_ _ | with_reducible refine Ext.drew ?_ | ((with_reducible refine Ext.setCell ?_ ?side _); (case side => first | exact Nat.le_refl _ | (simp; done) | (simp; omega)))))) (by omega), (by repeat (first | with_reducible exact Ext.refl _ | with_reducible exact hE0 | with_reducible exact hE | with_reducible refine Ext.alloc ?_ _ | with_reducible refine Ext.drewN ?_ _ | with_reducible refine Ext.drew ?_ | ((with_reducible refine Ext.setCell ?_ ?side _); (case side => first | exact Nat.le_refl _ | (simp; done) | (simp; omega)))))⟩
def isV (r : Feat × Int) : Bool := decide (r.2 = 0) && decide (r.1 = truthF true)
end Go.Proofs.YtnppbeajemhjeaaGreat
