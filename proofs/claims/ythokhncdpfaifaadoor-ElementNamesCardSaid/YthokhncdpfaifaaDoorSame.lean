/- Contract of the reference's Same (walk). -/
import Derived.Test.YthokhncdpfaifaaDoorBase
import Derived.LoopTactic
import Derived.Outline
import Derived.BigQuiet
import Derived.Deep.QuietTactic
namespace Go.Proofs.YthokhncdpfaifaaDoor
open Go.RowKit
theorem Ints.form {w : World} {v : Value} {zs : List Int} (h : Ints w v zs) : ∃ p c, v = .slice p zs.length c ∧ (0 < zs.length → ∃ b off, p = some ⟨b, off, none⟩ ∧ ∀ i, i < zs.length → w.cell? ⟨b, off + i, none⟩ = some (.int .i64 (zs.getD i 0))) := by
  rcases h with ⟨rfl, rfl⟩ | ⟨b, off, cap, rfl, hc⟩
  · exact ⟨none, 0, rfl, fun h => absurd h (by simp)⟩
  · exact ⟨_, cap, rfl, fun _ => ⟨b, off, rfl, hc⟩⟩
def SamePost (b : Bool) (w : World) (e : Ending) (w' : World) : Prop := e = .returned (.bool b) ∧ Ext w w'
theorem same_step (zs ys : List Int) (k : Nat) (h1 : k < zs.length) (h2 : zs.length = ys.length) (h : zs.take k = ys.take k) (he : zs.getD k 0 = ys.getD k 0) : zs.take (k + 1) = ys.take (k + 1) := by
  rw [List.take_succ_eq_append_getElem h1, List.take_succ_eq_append_getElem (by omega), h]
  congr 1
  simpa [List.getD_eq_getElem?_getD, List.getElem?_eq_getElem h1, List.getElem?_eq_getElem (show k < ys.length by omega)] using he
theorem ret_bb {a b : Bool} (h : a = b) : Ending.returned (.bool a) = .returned (.bool b) := by rw [h]
set_option maxRecDepth 8000 in
set_option maxHeartbeats 1000000 in
theorem same_any (va vb : Value) (zs ys : List Int) (w : World) (ha : Ints w va zs) (hb : Ints w vb ys) (hz : zs.length ≤ 1000000) (hy : ys.length ≤ 1000000) :
    Calls Tryd.prog 20 #[va, vb] w (SamePost (decide (zs = ys)) w) := by
  obtain ⟨p, c, rfl, hp⟩ := ha.form
  obtain ⟨q, d, rfl, hq⟩ := hb.form
  by_cases hl : zs.length = ys.length
  · have hln : ((ys.length : Int) != ys.length) = false := by simp
    rw [hl]
    go_enter Tryd.func20, Tryd.ntmps20
    go_wp2
    go_loopw [5] (fun i wr => ∃ k : Nat, k ≤ ys.length ∧ i = .int .i64 k ∧ zs.take k = ys.take k ∧ Ext w wr) (fun i _ => ys.length - (intOf i).toNat)
    case atStart => exact ⟨0, Nat.zero_le _, rfl, rfl, Ext.refl w⟩
    case round =>
      obtain ⟨k, hk, rfl, htk, hE⟩ := hrel
      have hT := Lib.hid htk
      have hL := Lib.hid hl
      have hP := Lib.hid hp
      have hQ := Lib.hid hq
      clear htk hl hp hq ha hb
      by_cases hlt : k < ys.length
      · obtain ⟨b1, o1, rfl, hc1⟩ := hP.out (by have := hL.out; omega)
        obtain ⟨b2, o2, rfl, hc2⟩ := hQ.out (by omega)
        have c1 := hE.get (hc1 k (by have := hL.out; omega))
        have c2 := hE.get (hc2 k hlt)
        clear hc1 hc2 hP hQ
        generalize hx : zs.getD k 0 = x at *
        generalize hxy : ys.getD k 0 = y at *
        have hX := Lib.hid hx
        have hY := Lib.hid hxy
        clear hx hxy
        by_cases he : x = y
        · subst he
          have hne : (x != x) = false := by simp
          go_wp2
          go_quiet (fail)
          go_wp2
          go_roundw
          case rel => exact ⟨k + 1, by omega, by go_num, same_step zs ys k (by have := hL.out; omega) hL.out hT.out (by rw [hX.out, hY.out]), (by repeat (first | with_reducible exact Ext.refl _ | with_reducible exact hE0 | with_reducible exact hE | with_reducible refine Ext.alloc ?_ _ | with_reducible refine Ext.drewN ?_ _ | with_reducible refine Ext.drew ?_ | ((with_reducible refine Ext.setCell ?_ ?side _); (case side => first | exact Nat.le_refl _ | (simp; done) | (simp; omega)))))⟩
          case measure => simp [intOf]; omega
        · have hne : (x != y) = true := by simpa using he
          have hN := Lib.hid he
          clear he
          go_wp2
          go_quiet (fail)
          go_wp2
          go_ret
          refine ⟨ret_bb ?_, (by repeat (first | with_reducible exact Ext.refl _ | with_reducible exact hE0 | with_reducible exact hE | with_reducible refine Ext.alloc ?_ _ | with_reducible refine Ext.drewN ?_ _ | with_reducible refine Ext.drew ?_ | ((with_reducible refine Ext.setCell ?_ ?side _); (case side => first | exact Nat.le_refl _ | (simp; done) | (simp; omega)))))⟩
          symm
          rw [decide_eq_false_iff_not]
          intro e
          subst e
          exact hN.out (hX.out.symm.trans hY.out)
      · go_wp2
        go_ret
        refine ⟨ret_bb ?_, hE⟩
        symm
        rw [decide_eq_true_iff]
        have h := hT.out
        rw [List.take_of_length_le (by have := hL.out; omega), List.take_of_length_le (by omega)] at h
        exact h
  · have hln : ((zs.length : Int) != ys.length) = true := by simp; omega
    have hL := Lib.hid hl
    clear hl
    go_enter Tryd.func20, Tryd.ntmps20
    go_wp2
    go_ret
    refine ⟨ret_bb ?_, Ext.refl w⟩
    symm
    rw [decide_eq_false_iff_not]
    intro e
    subst e
    exact hL.out rfl
end Go.Proofs.YthokhncdpfaifaaDoor
