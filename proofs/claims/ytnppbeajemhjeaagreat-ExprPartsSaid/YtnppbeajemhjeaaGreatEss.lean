/- Contract of the law's same (a walk). -/
import Derived.Test.YtnppbeajemhjeaaGreatEh
import Derived.Test.YtnppbeajemhjeaaGreatEe
namespace Go.Proofs.YtnppbeajemhjeaaGreat
open Go.RowKit Go.Sort
theorem enc_inj {a b : List UInt8} (h : (⟨a.toArray⟩ : ByteArray) = ⟨b.toArray⟩) : a = b := by
  injection h with h
  simpa using h
theorem list_ne {l1 l2 : List (List UInt8)} {k : Nat} (h : l1.getD k [] ≠ l2.getD k []) : l1 ≠ l2 := fun e => h (by rw [e])
theorem list_eqD {l1 l2 : List (List UInt8)} (hl : l1.length = l2.length) (h : ∀ j, j < l1.length → l1.getD j [] = l2.getD j []) : l1 = l2 := by
  refine List.ext_getElem hl fun i h1 h2 => ?_
  have := h i h1
  simpa [List.getD_eq_getElem?_getD, h1, h2] using this
set_option maxRecDepth 8000 in
set_option maxHeartbeats 2000000 in
theorem sameS_any (v1 v2 : Value) (l1 l2 : List (List UInt8)) (w : World) (h1 : StrsM w v1 l1) (h2 : StrsM w v2 l2) : Calls Tryz.prog 8 #[v1, v2] w (OneV (.bool (decide (l1 = l2))) w) := by
  obtain ⟨p1, c1, rfl, hl1, hat1⟩ := h1
  obtain ⟨p2, c2, rfl, hl2, hat2⟩ := h2
  replace hat1 := Lib.hid hat1
  replace hat2 := Lib.hid hat2
  by_cases hl : l1.length = l2.length
  · obtain ⟨R, hR⟩ : ∃ R, R = decide (l1 = l2) := ⟨_, rfl⟩
    rw [← hR]
    have hbad : ∀ k, l1.getD k [] ≠ l2.getD k [] → R = false := fun k h => by rw [hR]; exact decide_eq_false (list_ne h)
    have hgood : (∀ j, j < l1.length → l1.getD j [] = l2.getD j []) → R = true := fun h => by rw [hR]; exact decide_eq_true (list_eqD hl h)
    replace hbad := Lib.hid hbad
    replace hgood := Lib.hid hgood
    clear hR
    rw [← hl]
    replace hl := Lib.hid hl
    go_enter Tryz.func8, Tryz.ntmps8
    go_wp2_with fail
    go_loopw [5] (fun i wr => ∃ k : Nat, k ≤ l1.length ∧ i = .int .i64 k ∧ (∀ j, j < k → l1.getD j [] = l2.getD j []) ∧ Ext w wr) (fun i _ => l1.length - (intOf i).toNat)
    case atStart => exact ⟨0, Nat.zero_le _, rfl, fun j hj => absurd hj (by omega), Ext.refl _⟩
    case round =>
      obtain ⟨k, hk, rfl, hall, hE⟩ := hrel
      replace hall := Lib.hid hall
      by_cases hlt : k < l1.length
      · obtain ⟨b1, o1, rfl, hc1⟩ := hat1.out (by omega)
        obtain ⟨b2, o2, rfl, hc2⟩ := hat2.out (by have := hl.out; omega)
        have x1 := hE.get (hc1 k hlt)
        have x2 := hE.get (hc2 k (by have := hl.out; omega))
        clear hc1 hc2
        have hiff : (⟨(l1.getD k []).toArray⟩ : ByteArray) = ⟨(l2.getD k []).toArray⟩ → l1.getD k [] = l2.getD k [] := enc_inj
        have hiff2 : l1.getD k [] = l2.getD k [] → (⟨(l1.getD k []).toArray⟩ : ByteArray) = ⟨(l2.getD k []).toArray⟩ := fun h => by rw [h]
        have hst : l1.getD k [] = l2.getD k [] → ∀ j, j < k + 1 → l1.getD j [] = l2.getD j [] := fun h j hj => by
          by_cases e : j = k
          · subst e; exact h
          · exact hall.out j (by omega)
        replace hst := Lib.hid hst
        unfold encStr at x1 x2
        by_cases he : l1.getD k [] = l2.getD k []
        · have hs := Lib.hid (hst.out he)
          have hs2 := hiff2 he
          clear hst he hiff hiff2
          generalize (⟨(l1.getD k []).toArray⟩ : ByteArray) = s1 at *
          generalize (⟨(l2.getD k []).toArray⟩ : ByteArray) = s2 at *
          subst hs2
          go_wp2_with fail
          go_quiet (fail)
          go_wp2
          go_roundw
          case rel => exact ⟨k + 1, by omega, by go_num, hs.out, hE.drewN _⟩
          case measure => simp [intOf]; omega
        · have hR := Lib.hid (hbad.out k he)
          have hs2 : ¬ (⟨(l1.getD k []).toArray⟩ : ByteArray) = ⟨(l2.getD k []).toArray⟩ := fun h => he (hiff h)
          clear hst he hiff hiff2
          generalize (⟨(l1.getD k []).toArray⟩ : ByteArray) = s1 at *
          generalize (⟨(l2.getD k []).toArray⟩ : ByteArray) = s2 at *
          have d1 := bytes_ne hs2
          have d2 := strNe hs2
          clear hs2
          go_wp2_with fail
          go_quiet (fail)
          go_wp2
          go_ret
          exact ⟨by rw [hR.out]; rfl, hE.drewN _⟩
      · have hR := Lib.hid (hgood.out (fun j hj => hall.out j (by omega)))
        go_wp2
        go_ret
        exact ⟨by rw [hR.out]; rfl, hE⟩
  · rw [decide_eq_false (fun e => hl (by rw [e]))]
    have d1 : ((l1.length : Int) != (l2.length : Int)) = true := by simp; omega
    have d2 : (l1.length != l2.length) = true := by simpa using hl
    have d3 : (l1.length == l2.length) = false := by simpa using hl
    go_enter Tryz.func8, Tryz.ntmps8
    go_wp2
    go_ret
    exact ⟨rfl, (by repeat (first | with_reducible exact Ext.refl _ | with_reducible exact hE0 | with_reducible exact hE | with_reducible refine Ext.alloc ?_ _ | with_reducible refine Ext.drewN ?_ _ | with_reducible refine Ext.drew ?_ | ((with_reducible refine Ext.setCell ?_ ?side _); (case side => first | exact Nat.le_refl _ | (simp; done) | (simp; omega)))))⟩
end Go.Proofs.YtnppbeajemhjeaaGreat
