/- Contracts of velocity's isTime, New, old, within (walks; printed by gen/h30.py). -/
import Derived.Test.YtangdoidkcelfaaGreatDoorKc
import Derived.Deep.QuietTactic
import Derived.BigQuiet
namespace Go.Proofs.YtangdoidkcelfaaGreatDoor
open Go.RowKit
/-- Block V holds windows that read as d; their uses lie in a row of a block from B on. -/
def VelM (w : World) (B V : Nat) (v : Value) (d : VelD) : Prop := Blk w V #[.int .i64 d.hor, .int .i64 d.last, v] 123 ∧ UsesR 182 w B v d.uses
theorem VelM.ext {w w' : World} {B V : Nat} {v : Value} {d : VelD} (h : VelM w B V v d) (k : Ext w w') : VelM w' B V v d := ⟨h.1.ext k, h.2.ext k⟩
def OneQ (v : Value) (w : World) (e : Ending) (w' : World) : Prop := e = .returned v ∧ Ext w w'
theorem timeB_iff (n : Int) : timeB n = true ↔ 0 ≤ n ∧ n ≤ 1099511627776 := by unfold timeB; simp
set_option maxHeartbeats 1000000 in
theorem vtime_any (n : Int) (w : World) : Calls Tryz.prog 106 #[.int .i64 n] w fun e w' => e = .returned (.bool (timeB n)) ∧ w' = w := by
 unfold timeB
 by_cases h1 : 0 ≤ n
 · by_cases h2 : n ≤ 1099511627776
   · have d1 : decide (0 ≤ n) = true := decide_eq_true h1
     have d2 : decide (n ≤ 1099511627776) = true := decide_eq_true h2
     rw [d1, d2]
     clear h1 h2
     go_enter Tryz.func106, Tryz.ntmps106
     go_wp2
     go_ret
     exact ⟨rfl, rfl⟩
   · have d1 : decide (0 ≤ n) = true := decide_eq_true h1
     have d2 : decide (n ≤ 1099511627776) = false := decide_eq_false h2
     rw [d1, d2]
     clear h1 h2
     go_enter Tryz.func106, Tryz.ntmps106
     go_wp2
     go_ret
     exact ⟨rfl, rfl⟩
 · have d1 : decide (0 ≤ n) = false := decide_eq_false h1
   rw [d1]
   clear h1
   go_enter Tryz.func106, Tryz.ntmps106
   go_wp2
   go_ret
   exact ⟨rfl, rfl⟩
/-- What New gives: a block of its own, without uses; or no windows. -/
def VelNewP (h : Int) (w : World) (e : Ending) (w' : World) : Prop :=
 (1 ≤ h ∧ h ≤ 10000000 ∧ ∃ V, e = .returned (.tuple #[.pointer (some ⟨V, 0, none⟩), .int .i64 0]) ∧ w.heap.size ≤ V ∧ VelM w' w.heap.size V (.slice none 0 0) ⟨h, 0, []⟩ ∧ Ext w w')
 ∨ (¬ (1 ≤ h ∧ h ≤ 10000000) ∧ e = .returned (.tuple #[.pointer none, .int .i64 4]) ∧ Ext w w')
set_option maxHeartbeats 1000000 in
theorem velNew_any (h : Int) (w : World) : Calls Tryz.prog 39 #[.int .i64 h] w (VelNewP h w) := by
 by_cases h1 : h < 1
 · have d1 : decide (h < 1) = true := decide_eq_true h1
   go_enter Tryz.func39, Tryz.ntmps39
   go_wp2
   go_ret2
   exact Or.inr ⟨by omega, rfl, xt⟩
 · have d1 : decide (h < 1) = false := decide_eq_false h1
   by_cases h2 : 10000000 < h
   · have d2 : decide (10000000 < h) = true := decide_eq_true h2
     go_enter Tryz.func39, Tryz.ntmps39
     go_wp2
     go_ret2
     exact Or.inr ⟨by omega, rfl, xt⟩
   · have d2 : decide (10000000 < h) = false := decide_eq_false h2
     go_enter Tryz.func39, Tryz.ntmps39
     go_wp2
     go_ret2
     exact Or.inl ⟨by omega, by omega, w.heap.size, rfl, Nat.le_refl _, ⟨Blk.new _ _ _, UsesR.nil _ _ _⟩, xt⟩
set_option maxRecDepth 8000 in
set_option maxHeartbeats 4000000 in
theorem velOld_any (B V : Nat) (v : Value) (d : VelD) (now : Int) (w : World) (h : VelM w B V v d) (hn : timeB now = true) (hh : 1 ≤ d.hor ∧ d.hor ≤ 10000000) : Calls Tryz.prog 107 #[.pointer (some ⟨V, 0, none⟩), .int .i64 now] w (OneQ (.int .i64 (oldN d.hor now d.uses)) w) := by
 obtain ⟨hb, hu⟩ := h
 obtain ⟨p, c, rfl⟩ := hu.form
 obtain ⟨hor, last, l⟩ := d
 simp only at hb hu hh ⊢
 obtain ⟨n0, n1⟩ := (timeB_iff now).1 hn
 have hll := hu.1
 have hstep := Lib.hid (fun k hk ha => oldN_drop hor now l k hk ha)
 have y0 : w.cell? ⟨V, 0, none⟩ = some (.int .i64 hor) := (hb.cell 0).trans rfl
 have y2 : w.cell? ⟨V, 2, none⟩ = some (.slice p l.length c) := (hb.cell 2).trans rfl
 have hu2 := Lib.hid hu
 have e1 : wrap64 (now - hor) = now - hor := by unfold wrap64; omega
 clear hu hb hn
 generalize hO : oldN hor now l = O at *
 go_enter Tryz.func107, Tryz.ntmps107
 go_wp2_with fail
 go_loopw [5] (fun i wr => ∃ k : Nat, k ≤ l.length ∧ i = .int .i64 k ∧ (∀ j, j < k → (l.getD j useD).t ≤ now - hor) ∧ Ext w wr) (fun i _ => l.length - (intOf i).toNat)
 case atStart => exact ⟨0, Nat.zero_le _, rfl, fun j h => absurd h (by omega), Ext.refl _⟩
 case round =>
  obtain ⟨k, hk, rfl, hall, hE⟩ := hrel
  replace y0 := hE.get y0
  replace y2 := hE.get y2
  have hs := Lib.hid (hstep.out k hk hall)
  have hnx := Lib.hid (fun (h : (l.getD k useD).t ≤ now - hor) j (hj : j < k + 1) => show (l.getD j useD).t ≤ now - hor by
   by_cases e : j = k
   · rw [e]; exact h
   · exact hall j (by omega))
  clear hall hstep
  by_cases hlt : k < l.length
  · have hdr := Lib.hid (show oldN hor now (l.drop k) = if (l.getD k useD).t ≤ now - hor then oldN hor now (l.drop (k + 1)) + 1 else 0 by
     rw [List.drop_eq_getElem_cons hlt, oldN, List.getD_eq_getElem?_getD, List.getElem?_eq_getElem hlt, Option.getD_some])
    rcases hu2.out.lie with ⟨-, hnil⟩ | ⟨g, cap, hv, -, hcap, hcm, hc⟩
    · rw [hnil] at hlt; cases hlt
    · injection hv with hp1 hp2 hp3
      subst hp1 hp3
      obtain ⟨-, c1, -⟩ := hc k hlt
      replace c1 := hE.get c1
      clear hc
      generalize (l.getD k useD).t = t at *
      have i1 : (k : Int) < (l.length : Int) := by omega
      have d1 : decide ((k : Int) < (l.length : Int)) = true := decide_eq_true i1
      by_cases ht : t ≤ now - hor
      · have d2 : decide (t ≤ now - hor) = true := decide_eq_true ht
        have hn2 := Lib.hid (hnx.out ht)
        clear hs hnx hdr ht
        go_wp2_with fail
        go_quiet (fail)
        go_wp2
        go_roundw
        case rel => exact ⟨k + 1, by omega, by go_num, hn2.out, xt⟩
        case measure => simp [intOf]; omega
      · have d2 : decide (t ≤ now - hor) = false := decide_eq_false ht
        have hR := Lib.hid (show O = k by have h1 := hs.out; have h2 := hdr.out; rw [if_neg ht] at h2; omega)
        clear hs hnx hdr ht
        go_wp2_with fail
        go_quiet (fail)
        go_wp2
        go_ret
        exact ⟨by rw [hR.out]; rfl, xt⟩
  · obtain rfl : k = l.length := by omega
    have d1 : decide ((l.length : Int) < (l.length : Int)) = false := decide_eq_false (by omega)
    have hR := Lib.hid (show O = l.length by have h1 := hs.out; rw [List.drop_length] at h1; exact h1)
    clear hs hnx
    go_wp2_with fail
    go_quiet (fail)
    go_wp2
    go_ret
    exact ⟨by rw [hR.out]; rfl, xt⟩
end Go.Proofs.YtangdoidkcelfaaGreatDoor
