/- Contracts of message.Number and of the reference's Number (walks). -/
import Derived.Test.YthokhncdpfaifaaGreatDoorMsgA
namespace Go.Proofs.YthokhncdpfaifaaGreatDoor
open Go.RowKit
theorem numL_bd17 (l : List UInt8) (h : l.all digB = true) (hl : l.length ≤ 17) : 0 ≤ numL l ∧ numL l ≤ 100000000000000000 := by
  have h1 := numL_bd l h
  have h2 : (10 : Int) ^ l.length ≤ 10 ^ 17 := by
    have : (10 : Nat) ^ l.length ≤ 10 ^ 17 := Nat.pow_le_pow_right (by decide) hl
    exact_mod_cast this
  have h3 : (10 : Int) ^ 17 = 100000000000000000 := by decide
  omega
/-- Whether the value of an element is a number. -/
def numB (s : ByteArray) : Bool := decide (1 ≤ s.size ∧ s.size ≤ 18) && allS digB s
def numE (n : Int) (es : List El) : Int := if getB n es = false then 6 else if numB (getS n es) = false then 2 else 0
def numV (n : Int) (es : List El) : Int := if numE n es = 0 then numL (getS n es).data.toList else 0
theorem numE_6 {n : Int} {es : List El} (h : getB n es = false) : numV n es = 0 ∧ numE n es = 6 := by
  have e : numE n es = 6 := by unfold numE; rw [if_pos h]
  exact ⟨by unfold numV; rw [e, if_neg (by decide)], e⟩
theorem numE_2 {n : Int} {es : List El} (h : getB n es = true) (h2 : numB (getS n es) = false) : numV n es = 0 ∧ numE n es = 2 := by
  have e : numE n es = 2 := by unfold numE; rw [if_neg (by rw [h]; decide), if_pos h2]
  exact ⟨by unfold numV; rw [e, if_neg (by decide)], e⟩
theorem numE_0 {n : Int} {es : List El} (h : getB n es = true) (h2 : numB (getS n es) = true) : numV n es = numL (getS n es).data.toList ∧ numE n es = 0 := by
  have e : numE n es = 0 := by unfold numE; rw [if_neg (by rw [h]; decide), if_neg (by rw [h2]; decide)]
  exact ⟨by unfold numV; rw [e, if_pos rfl], e⟩
def NumbP (n : Int) (es : List El) (w : World) (e : Ending) (w' : World) : Prop := e = .returned (.tuple #[.int .i64 (numV n es), .int .i64 (numE n es)]) ∧ Ext w w'
set_option maxRecDepth 8000 in
set_option maxHeartbeats 2000000 in
theorem number_any (ty n : Int) (v : Value) (es : List El) (w : World) (hv : Elems w v es) (hl : es.length ≤ 1000000) :
    Calls Tryz.prog 26 #[msgAgg ty v, .int .i64 n] w (NumbP n es w) := by
  have hV := Lib.hid hv
  obtain ⟨q, cp, rfl, _⟩ := hv
  have hG := Lib.hid (fun w hv => get_any ty n (.slice q es.length cp) es w hv hl)
  unfold msgAgg at hG ⊢
  go_enter Tryz.func26, Tryz.ntmps26
  go_wp2_with fail
  refine (hG.out _ (hV.out.ext (by repeat (first | with_reducible exact Ext.refl _ | with_reducible exact hE0 | with_reducible exact hE | with_reducible refine Ext.alloc ?_ _ | with_reducible refine Ext.drewN ?_ _ | with_reducible refine Ext.drew ?_ | ((with_reducible refine Ext.setCell ?_ ?side _); (case side => first | exact Nat.le_refl _ | (simp; done) | (simp; omega))))))).mono ?_
  rintro e w1 ⟨rfl, hE1⟩
  have hE : Ext w w1 := ((by repeat (first | with_reducible exact Ext.refl _ | with_reducible exact hE0 | with_reducible exact hE | with_reducible refine Ext.alloc ?_ _ | with_reducible refine Ext.drewN ?_ _ | with_reducible refine Ext.drew ?_ | ((with_reducible refine Ext.setCell ?_ ?side _); (case side => first | exact Nat.le_refl _ | (simp; done) | (simp; omega))))) : Ext w _).trans hE1
  clear hE1 hG
  cases hb : getB n es with
  | false =>
    have hD := Lib.hid (numE_6 hb)
    go_wp2
    go_ret2
    exact ⟨by rw [hD.out.1, hD.out.2]; rfl, hE⟩
  | true =>
    cases hn : numB (getS n es) with
    | false =>
      have hD := Lib.hid (numE_2 hb hn)
      clear hb
      generalize getS n es = s at *
      by_cases h18 : s.size ≤ 18
      · have t1 : decide ((18 : Int) < s.size) = false := by simp; omega
        have t2 : (allS digB s && decide (0 < s.size)) = false := by
          unfold numB at hn
          cases ha : allS digB s with
          | false => rfl
          | true =>
            rw [ha, Bool.and_true] at hn
            have := of_decide_eq_false hn
            rw [Bool.true_and, decide_eq_false_iff_not]; omega
        clear hn
        go_wp2_with fail
        refine (areDigits_any s _ (by omega)).mono ?_
        rintro e w2 ⟨rfl, rfl⟩
        rw [t2]
        clear t2
        go_wp2
        go_ret2
        exact ⟨by rw [hD.out.1, hD.out.2]; rfl, hE⟩
      · have t1 : decide ((18 : Int) < s.size) = true := by simp; omega
        clear hn
        go_wp2
        go_ret2
        exact ⟨by rw [hD.out.1, hD.out.2]; rfl, hE⟩
    | true =>
      have hD := Lib.hid (numE_0 hb hn)
      clear hb
      generalize getS n es = s at *
      have hsz : 1 ≤ s.size ∧ s.size ≤ 18 ∧ allS digB s = true := by
        unfold numB at hn
        rw [Bool.and_eq_true, decide_eq_true_iff] at hn
        exact ⟨hn.1.1, hn.1.2, hn.2⟩
      obtain ⟨hs1, hs18, hall⟩ := hsz
      have t1 : decide ((18 : Int) < s.size) = false := by simp; omega
      have t2 : (allS digB s && decide (0 < s.size)) = true := by rw [hall]; simp; omega
      have hA := Lib.hid hall
      clear hn hall
      go_wp2_with fail
      refine (areDigits_any s _ (by omega)).mono ?_
      rintro e w2 ⟨rfl, rfl⟩
      rw [t2]
      clear t2 t1
      go_wp2
      go_loop [8, 28] (fun m i => ∃ k : Nat, k ≤ s.size ∧ i = .int .i64 k ∧ m = .int .i64 (numL (s.data.toList.take k))) (fun _ i => s.size - (intOf i).toNat)
      case atStart => exact ⟨0, Nat.zero_le _, rfl, rfl⟩
      case round =>
        obtain ⟨k, hk, rfl, rfl⟩ := hrel
        by_cases hlt : k < s.size
        · have hal : (s.data.toList.take k).all digB = true := List.all_eq_true.2 fun x hx => List.all_eq_true.1 hA.out x (List.mem_of_mem_take hx)
          have hln : (s.data.toList.take k).length ≤ 17 := Nat.le_trans (List.length_take_le _ _) (by omega)
          have hb := numL_bd17 _ hal hln
          have hd : digB s[k] = true := List.all_eq_true.1 hA.out _ (Array.mem_toList_iff.2 (Array.getElem_mem hlt))
          have hc : 48 ≤ s[k].toNat ∧ s[k].toNat ≤ 57 := by unfold digB at hd; simpa using hd
          have hT := Lib.hid (take_snoc s k hlt)
          clear hal hln hd
          go_wp2
          go_round
          case rel => exact ⟨k + 1, by omega, by go_num, by rw [hT.out, numL_snoc]⟩
          case measure => simp [intOf]; omega
        · have hk' : s.data.toList.take k = s.data.toList := List.take_of_length_le (by simp; omega)
          rw [hk']
          clear hk'
          go_wp2
          go_ret2
          exact ⟨by rw [hD.out.1, hD.out.2]; rfl, hE⟩
set_option maxHeartbeats 400000 in
theorem rValue_any18 (s : ByteArray) (w : World) (hs : s.size ≤ 18) :
    Calls Tryz.prog 52 #[.string s] w (NumPost s w) := by
  go_enter Tryz.func52, Tryz.ntmps52
  go_wp2
  go_loop [4, 5] (fun n i => ∃ k : Nat, k ≤ s.size ∧ i = .int .i64 k ∧ n = .int .i64 (numL (s.data.toList.take k)) ∧ (s.data.toList.take k).all digB = true) (fun _ i => s.size - (intOf i).toNat)
  case atStart => exact ⟨0, Nat.zero_le _, rfl, rfl, rfl⟩
  case round =>
    obtain ⟨k, hk, rfl, rfl, hall⟩ := hrel
    by_cases hlt : k < s.size
    · have hl : (s.data.toList.take k).length ≤ 17 := Nat.le_trans (List.length_take_le _ _) (by omega)
      have hb := numL_bd17 _ hall hl
      have hH := Lib.hid hall
      clear hall hl
      go_wp2
      · go_ret2
        exact ⟨0, false, rfl, ⟨(all_of_bad s k hlt (by simp [digB]; omega)).symm, rfl⟩, rfl⟩
      · go_round
        case rel => exact ⟨k + 1, by omega, by go_num, by rw [take_snoc s k hlt, numL_snoc], by rw [all_take_snoc s k hlt, hH.out]; simp [digB]; omega⟩
        case measure => simp [intOf]; omega
      · go_ret2
        exact ⟨0, false, rfl, ⟨(all_of_bad s k hlt (by simp [digB]; omega)).symm, rfl⟩, rfl⟩
    · have hH := Lib.hid hall
      clear hall
      go_wp2
      go_ret2
      have hk' : s.data.toList.take k = s.data.toList := List.take_of_length_le (by simp; omega)
      have hA := hH.out; rw [hk'] at hA ⊢
      exact ⟨_, true, rfl, ⟨hA.symm, rfl⟩, rfl⟩
set_option maxRecDepth 8000 in
set_option maxHeartbeats 2000000 in
theorem rNumber_any (ty n : Int) (v : Value) (es : List El) (w : World) (hv : Elems w v es) (hl : es.length ≤ 1000000) :
    Calls Tryz.prog 27 #[msgAgg ty v, .int .i64 n] w (NumbP n es w) := by
  have hV := Lib.hid hv
  obtain ⟨q, cp, rfl, _⟩ := hv
  have hG := Lib.hid (fun w hv => rGet_any ty n (.slice q es.length cp) es w hv hl)
  unfold msgAgg at hG ⊢
  go_enter Tryz.func27, Tryz.ntmps27
  go_wp2_with fail
  refine (hG.out _ (hV.out.ext (by repeat (first | with_reducible exact Ext.refl _ | with_reducible exact hE0 | with_reducible exact hE | with_reducible refine Ext.alloc ?_ _ | with_reducible refine Ext.drewN ?_ _ | with_reducible refine Ext.drew ?_ | ((with_reducible refine Ext.setCell ?_ ?side _); (case side => first | exact Nat.le_refl _ | (simp; done) | (simp; omega))))))).mono ?_
  rintro e w1 ⟨rfl, hE1⟩
  have hE : Ext w w1 := ((by repeat (first | with_reducible exact Ext.refl _ | with_reducible exact hE0 | with_reducible exact hE | with_reducible refine Ext.alloc ?_ _ | with_reducible refine Ext.drewN ?_ _ | with_reducible refine Ext.drew ?_ | ((with_reducible refine Ext.setCell ?_ ?side _); (case side => first | exact Nat.le_refl _ | (simp; done) | (simp; omega))))) : Ext w _).trans hE1
  clear hE1 hG
  cases hb : getB n es with
  | false =>
    have hD := Lib.hid (numE_6 hb)
    go_wp2
    go_ret2
    exact ⟨by rw [hD.out.1, hD.out.2]; rfl, hE⟩
  | true =>
    have hD0 := Lib.hid (fun h => numE_0 hb h)
    have hD2 := Lib.hid (fun h => numE_2 hb h)
    clear hb
    generalize getS n es = s at *
    by_cases h1 : 1 ≤ s.size
    · by_cases h18 : s.size ≤ 18
      · go_wp2_with fail
        refine (rValue_any18 s _ h18).mono ?_
        rintro e w2 ⟨z, ok, rfl, ⟨hok, hz⟩, rfl⟩
        cases ok with
        | false =>
          have hB : numB s = false := by unfold numB allS; rw [← hok, Bool.and_false]
          have hD := Lib.hid (hD2.out hB)
          clear hok hz hB
          go_wp2
          go_ret2
          exact ⟨by rw [hD.out.1, hD.out.2]; rfl, hE⟩
        | true =>
          have hB : numB s = true := by unfold numB allS; rw [← hok, Bool.and_true, decide_eq_true_iff]; omega
          have hD := Lib.hid (hD0.out hB)
          rw [if_pos rfl] at hz
          have hz := Lib.hid hz
          clear hok hB
          go_wp2
          go_ret2
          exact ⟨by rw [hD.out.1, hD.out.2, ← hz.out]; rfl, hE⟩
      · have hB : numB s = false := by unfold numB; rw [decide_eq_false (by omega)]; rfl
        have hD := Lib.hid (hD2.out hB)
        clear hB
        have t2 : decide ((18 : Int) < s.size) = true := by simp; omega
        go_wp2
        go_ret2
        exact ⟨by rw [hD.out.1, hD.out.2]; rfl, hE⟩
    · have hB : numB s = false := by unfold numB; rw [decide_eq_false (by omega)]; rfl
      have hD := Lib.hid (hD2.out hB)
      clear hB
      go_wp2
      go_ret2
      exact ⟨by rw [hD.out.1, hD.out.2]; rfl, hE⟩
end Go.Proofs.YthokhncdpfaifaaGreatDoor
