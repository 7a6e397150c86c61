/- Contracts of isNumber, isLiteral, sum, magnitude, product, number, truth (walks). -/
import Derived.Test.YtpdpjindmghfpaaGreatDoorEnm
namespace Go.Proofs.YtpdpjindmghfpaaGreatDoor
open Go.RowKit
set_option maxRecDepth 8000 in
set_option maxHeartbeats 4000000 in
theorem isNumber_any (n : Int) (w : World) : Calls Tryz.prog 91 #[.int .i64 n] w fun e w' => e = .returned (.bool (nbrB n)) ∧ w = w' := by
  unfold nbrB
  by_cases a1 : -4611686018427387904 ≤ n
  · by_cases a2 : n ≤ 4611686018427387904
    · have a1 := decide_eq_true a1
      have a2 := decide_eq_true a2
      rw [a1, a2]
      go_enter Tryz.func91, Tryz.ntmps91
      go_wp2
      go_ret
      exact ⟨rfl, rfl⟩
    · have a1 := decide_eq_true a1
      have a2 := decide_eq_false a2
      rw [a1, a2]
      go_enter Tryz.func91, Tryz.ntmps91
      go_wp2
      go_ret
      exact ⟨rfl, rfl⟩
  · have a1 := decide_eq_false a1
    rw [a1]
    go_enter Tryz.func91, Tryz.ntmps91
    go_wp2
    go_ret
    exact ⟨by simp, rfl⟩
def litA (s : ByteArray) : Bool := s.data.toList.all litC
def BlP (b : Bool) (w : World) (e : Ending) (w' : World) : Prop := e = .returned (.bool b) ∧ w = w'
set_option maxHeartbeats 1000000 in
theorem isLiteral_any (s : ByteArray) (w : World) : Calls Tryz.prog 136 #[.string s] w (BlP (litB s) w) := by
  unfold litB
  by_cases h1 : s.size ≤ 100
  · rw [decide_eq_true h1, Bool.true_and]
    change Calls _ _ _ _ (BlP (litA s) w)
    go_enter Tryz.func136, Tryz.ntmps136
    go_wp2
    go_loop [9] (fun i => ∃ k : Nat, k ≤ s.size ∧ i = .int .i64 k ∧ (s.data.toList.take k).all litC = true) (fun i => s.size - (intOf i).toNat)
    case atStart => exact ⟨0, Nat.zero_le _, rfl, rfl⟩
    case round =>
      obtain ⟨k, hk, rfl, hall⟩ := hrel
      have hH := Lib.hid hall
      clear hall
      by_cases hlt : k < s.size
      · by_cases c1 : s[k].toNat < 32
        · have hB := Lib.hid (all_badB litC s k hlt (by simp [litC]; omega))
          have d1 : decide ((s[k].toNat : Int) < 32) = true := by simp; omega
          go_wp2
          go_ret
          exact ⟨ret_boolE hB.out.symm, rfl⟩
        · have d1 : decide ((s[k].toNat : Int) < 32) = false := by simp; omega
          by_cases c2 : s[k].toNat ≤ 126
          · have d2 : decide (126 < (s[k].toNat : Int)) = false := by simp; omega
            by_cases c3 : s[k].toNat = 34
            · have hB := Lib.hid (all_badB litC s k hlt (by simp [litC]; omega))
              have d3 : ((s[k].toNat : Int) == 34) = true := by simp; omega
              clear c1 c2
              go_wp2
              go_ret
              exact ⟨ret_boolE hB.out.symm, rfl⟩
            · have hB := Lib.hid (show litC s[k] = true by simp [litC]; omega)
              have d3 : ((s[k].toNat : Int) == 34) = false := by simp; omega
              go_wp2
              go_round
              case rel => exact ⟨k + 1, by omega, by go_num, by rw [all_takeB litC s k hlt, hH.out, hB.out]; rfl⟩
              case measure => simp [intOf]; omega
          · have hB := Lib.hid (all_badB litC s k hlt (by simp [litC]; omega))
            have d2 : decide (126 < (s[k].toNat : Int)) = true := by simp; omega
            go_wp2
            go_ret
            exact ⟨ret_boolE hB.out.symm, rfl⟩
      · have hk' : s.data.toList.take k = s.data.toList := List.take_of_length_le (by simp; omega)
        have hA := hH.out
        rw [hk'] at hA
        have hA := Lib.hid hA
        clear hk'
        go_wp2
        go_ret
        exact ⟨ret_boolE hA.out.symm, rfl⟩
  · rw [decide_eq_false h1, Bool.false_and]
    have g2 : 100 < (s.size : Int) := by omega
    have g1 : decide (100 < (s.size : Int)) = true := by simp; omega
    clear h1
    go_enter Tryz.func136, Tryz.ntmps136
    go_wp2
    go_ret
    exact ⟨rfl, rfl⟩
end Go.Proofs.YtpdpjindmghfpaaGreatDoor
