/- Contracts of message.Number and of the reference's Number (walks). Contracts of message.Answers and of the reference's agrees and Answers (walks). Contract of message.Reply (walk). Contract of the law's awake (walk). Contract of the reference's Reply (walk). Written by gen/rreply.py. -/
import Derived.Test.YtkggloeaojkhaaaGreatDoorQg
import Derived.Test.YtkggloeaojkhaaaGreatDoorQk
namespace Go.Proofs.YtkggloeaojkhaaaGreatDoor
open Go.RowKit
theorem numL_bd17 (l : List UInt8) (h : l.all digB = true) (hl : l.length ≤ 17) : 0 ≤ numL l ∧ numL l ≤ 100000000000000000 := by
 have h1 := numL_bd l h
 have h2 : (10 : Int) ^ l.length ≤ 10 ^ 17 := by
  have : (10 : Nat) ^ l.length ≤ 10 ^ 17 := Nat.pow_le_pow_right (by decide) hl
  exact_mod_cast this
 have h3 : (10 : Int) ^ 17 = 100000000000000000 := by decide
 omega
/-- Whether the value of an element is a number. -/
def numB (s : ByteArray) : Bool := decide (1 ≤ s.size ∧ s.size ≤ 18) && allS digB s
def numE (n : Int) (es : List El) : Int := if getB n es = false then 6 else if numB (getS n es) = false then 2 else 0
def numV (n : Int) (es : List El) : Int := if numE n es = 0 then numL (getS n es).data.toList else 0
theorem numE_6 {n : Int} {es : List El} (h : getB n es = false) : numV n es = 0 ∧ numE n es = 6 := by
 have e : numE n es = 6 := by unfold numE; rw [if_pos h]
 exact ⟨by unfold numV; rw [e, if_neg (by decide)], e⟩
theorem numE_2 {n : Int} {es : List El} (h : getB n es = true) (h2 : numB (getS n es) = false) : numV n es = 0 ∧ numE n es = 2 := by
 have e : numE n es = 2 := by unfold numE; rw [if_neg (by rw [h]; decide), if_pos h2]
 exact ⟨by unfold numV; rw [e, if_neg (by decide)], e⟩
theorem numE_0 {n : Int} {es : List El} (h : getB n es = true) (h2 : numB (getS n es) = true) : numV n es = numL (getS n es).data.toList ∧ numE n es = 0 := by
 have e : numE n es = 0 := by unfold numE; rw [if_neg (by rw [h]; decide), if_neg (by rw [h2]; decide)]
 exact ⟨by unfold numV; rw [e, if_pos rfl], e⟩
def NumbP (n : Int) (es : List El) (w : World) (e : Ending) (w' : World) : Prop := e = .returned (.tuple #[.int .i64 (numV n es), .int .i64 (numE n es)]) ∧ Ext w w'
set_option maxRecDepth 8000 in
set_option maxHeartbeats 2000000 in
theorem number_any (ty n : Int) (v : Value) (es : List El) (w : World) (hv : Elems w v es) (hl : es.length ≤ 1000000) :
 Calls Tryz.prog 73 #[msgAgg ty v, .int .i64 n] w (NumbP n es w) := by
 have hV := Lib.hid hv
 obtain ⟨q, cp, rfl, _⟩ := hv
 have hG := Lib.hid (fun w hv => get_any ty n (.slice q es.length cp) es w hv hl)
 unfold msgAgg at hG ⊢
 go_enter Tryz.func73, Tryz.ntmps73
 go_wp2_with fail
 refine (hG.out _ (hV.out.ext xt)).mono ?_
 rintro e w1 ⟨rfl, hE1⟩
 have hE : Ext w w1 := (xt : Ext w _).trans hE1
 clear hE1 hG
 cases hb : getB n es with
 | false =>
  have hD := Lib.hid (numE_6 hb)
  go_wp2
  go_ret2
  exact ⟨by rw [hD.out.1, hD.out.2]; rfl, hE⟩
 | true =>
  cases hn : numB (getS n es) with
  | false =>
   have hD := Lib.hid (numE_2 hb hn)
   clear hb
   generalize getS n es = s at *
   by_cases h18 : s.size ≤ 18
   · have t1 : decide ((18 : Int) < s.size) = false := by simp; omega
     have t2 : (allS digB s && decide (0 < s.size)) = false := by
      unfold numB at hn
      cases ha : allS digB s with
      | false => rfl
      | true =>
       rw [ha, Bool.and_true] at hn
       have := of_decide_eq_false hn
       rw [Bool.true_and, decide_eq_false_iff_not]; omega
     clear hn
     go_wp2_with fail
     refine (areDigits_any s _ (by omega)).mono ?_
     rintro e w2 ⟨rfl, rfl⟩
     rw [t2]
     clear t2
     go_wp2
     go_ret2
     exact ⟨by rw [hD.out.1, hD.out.2]; rfl, hE⟩
   · have t1 : decide ((18 : Int) < s.size) = true := by simp; omega
     clear hn
     go_wp2
     go_ret2
     exact ⟨by rw [hD.out.1, hD.out.2]; rfl, hE⟩
  | true =>
   have hD := Lib.hid (numE_0 hb hn)
   clear hb
   generalize getS n es = s at *
   have hsz : 1 ≤ s.size ∧ s.size ≤ 18 ∧ allS digB s = true := by
    unfold numB at hn
    rw [Bool.and_eq_true, decide_eq_true_iff] at hn
    exact ⟨hn.1.1, hn.1.2, hn.2⟩
   obtain ⟨hs1, hs18, hall⟩ := hsz
   have t1 : decide ((18 : Int) < s.size) = false := by simp; omega
   have t2 : (allS digB s && decide (0 < s.size)) = true := by rw [hall]; simp; omega
   have hA := Lib.hid hall
   clear hn hall
   go_wp2_with fail
   refine (areDigits_any s _ (by omega)).mono ?_
   rintro e w2 ⟨rfl, rfl⟩
   rw [t2]
   clear t2 t1
   go_wp2
   go_loop [8, 28] (fun m i => ∃ k : Nat, k ≤ s.size ∧ i = .int .i64 k ∧ m = .int .i64 (numL (s.data.toList.take k))) (fun _ i => s.size - (intOf i).toNat)
   case atStart => exact ⟨0, Nat.zero_le _, rfl, rfl⟩
   case round =>
    obtain ⟨k, hk, rfl, rfl⟩ := hrel
    by_cases hlt : k < s.size
    · have hal : (s.data.toList.take k).all digB = true := List.all_eq_true.2 fun x hx => List.all_eq_true.1 hA.out x (List.mem_of_mem_take hx)
      have hln : (s.data.toList.take k).length ≤ 17 := Nat.le_trans (List.length_take_le _ _) (by omega)
      have hb := numL_bd17 _ hal hln
      have hd : digB s[k] = true := List.all_eq_true.1 hA.out _ (Array.mem_toList_iff.2 (Array.getElem_mem hlt))
      have hc : 48 ≤ s[k].toNat ∧ s[k].toNat ≤ 57 := by unfold digB at hd; simpa using hd
      have hT := Lib.hid (take_snoc s k hlt)
      clear hal hln hd
      go_wp2
      go_round
      case rel => exact ⟨k + 1, by omega, by go_num, by rw [hT.out, numL_snoc]⟩
      case measure => simp [intOf]; omega
    · have hk' : s.data.toList.take k = s.data.toList := List.take_of_length_le (by simp; omega)
      rw [hk']
      clear hk'
      go_wp2
      go_ret2
      exact ⟨by rw [hD.out.1, hD.out.2]; rfl, hE⟩
set_option maxHeartbeats 400000 in
theorem rValue_any18 (s : ByteArray) (w : World) (hs : s.size ≤ 18) :
 Calls Tryz.prog 34 #[.string s] w (NumPost s w) := by
 go_enter Tryz.func34, Tryz.ntmps34
 go_wp2
 go_loop [4, 5] (fun n i => ∃ k : Nat, k ≤ s.size ∧ i = .int .i64 k ∧ n = .int .i64 (numL (s.data.toList.take k)) ∧ (s.data.toList.take k).all digB = true) (fun _ i => s.size - (intOf i).toNat)
 case atStart => exact ⟨0, Nat.zero_le _, rfl, rfl, rfl⟩
 case round =>
  obtain ⟨k, hk, rfl, rfl, hall⟩ := hrel
  by_cases hlt : k < s.size
  · have hl : (s.data.toList.take k).length ≤ 17 := Nat.le_trans (List.length_take_le _ _) (by omega)
    have hb := numL_bd17 _ hall hl
    have hH := Lib.hid hall
    clear hall hl
    go_wp2
    · go_ret2
      exact ⟨0, false, rfl, ⟨(all_of_bad s k hlt (by simp [digB]; omega)).symm, rfl⟩, rfl⟩
    · go_round
      case rel => exact ⟨k + 1, by omega, by go_num, by rw [take_snoc s k hlt, numL_snoc], by rw [all_take_snoc s k hlt, hH.out]; simp [digB]; omega⟩
      case measure => simp [intOf]; omega
    · go_ret2
      exact ⟨0, false, rfl, ⟨(all_of_bad s k hlt (by simp [digB]; omega)).symm, rfl⟩, rfl⟩
  · have hH := Lib.hid hall
    clear hall
    go_wp2
    go_ret2
    have hk' : s.data.toList.take k = s.data.toList := List.take_of_length_le (by simp; omega)
    have hA := hH.out; rw [hk'] at hA ⊢
    exact ⟨_, true, rfl, ⟨hA.symm, rfl⟩, rfl⟩
set_option maxRecDepth 8000 in
set_option maxHeartbeats 2000000 in
theorem rNumber_any (ty n : Int) (v : Value) (es : List El) (w : World) (hv : Elems w v es) (hl : es.length ≤ 1000000) :
 Calls Tryz.prog 135 #[msgAgg ty v, .int .i64 n] w (NumbP n es w) := by
 have hV := Lib.hid hv
 obtain ⟨q, cp, rfl, _⟩ := hv
 have hG := Lib.hid (fun w hv => rGet_any ty n (.slice q es.length cp) es w hv hl)
 unfold msgAgg at hG ⊢
 go_enter Tryz.func135, Tryz.ntmps135
 go_wp2_with fail
 refine (hG.out _ (hV.out.ext xt)).mono ?_
 rintro e w1 ⟨rfl, hE1⟩
 have hE : Ext w w1 := (xt : Ext w _).trans hE1
 clear hE1 hG
 cases hb : getB n es with
 | false =>
  have hD := Lib.hid (numE_6 hb)
  go_wp2
  go_ret2
  exact ⟨by rw [hD.out.1, hD.out.2]; rfl, hE⟩
 | true =>
  have hD0 := Lib.hid (fun h => numE_0 hb h)
  have hD2 := Lib.hid (fun h => numE_2 hb h)
  clear hb
  generalize getS n es = s at *
  by_cases h1 : 1 ≤ s.size
  · by_cases h18 : s.size ≤ 18
    · go_wp2_with fail
      refine (rValue_any18 s _ h18).mono ?_
      rintro e w2 ⟨z, ok, rfl, ⟨hok, hz⟩, rfl⟩
      cases ok with
      | false =>
       have hB : numB s = false := by unfold numB allS; rw [← hok, Bool.and_false]
       have hD := Lib.hid (hD2.out hB)
       clear hok hz hB
       go_wp2
       go_ret2
       exact ⟨by rw [hD.out.1, hD.out.2]; rfl, hE⟩
      | true =>
       have hB : numB s = true := by unfold numB allS; rw [← hok, Bool.and_true, decide_eq_true_iff]; omega
       have hD := Lib.hid (hD0.out hB)
       rw [if_pos rfl] at hz
       have hz := Lib.hid hz
       clear hok hB
       go_wp2
       go_ret2
       exact ⟨by rw [hD.out.1, hD.out.2, ← hz.out]; rfl, hE⟩
    · have hB : numB s = false := by unfold numB; rw [decide_eq_false (by omega)]; rfl
      have hD := Lib.hid (hD2.out hB)
      clear hB
      have t2 : decide ((18 : Int) < s.size) = true := by simp; omega
      go_wp2
      go_ret2
      exact ⟨by rw [hD.out.1, hD.out.2]; rfl, hE⟩
  · have hB : numB s = false := by unfold numB; rw [decide_eq_false (by omega)]; rfl
    have hD := Lib.hid (hD2.out hB)
    clear hB
    go_wp2
    go_ret2
    exact ⟨by rw [hD.out.1, hD.out.2]; rfl, hE⟩
end Go.Proofs.YtkggloeaojkhaaaGreatDoor
namespace Go.Proofs.YtkggloeaojkhaaaGreatDoor
open Go.RowKit
theorem asks_bd {n : Int} (h : asksB n = true) : 1 ≤ n ∧ n ≤ 9989 := by unfold asksB at h; simp at h; omega
end Go.Proofs.YtkggloeaojkhaaaGreatDoor
namespace Go.Proofs.YtkggloeaojkhaaaGreatDoor
open Go.RowKit
def repN : List Int := [2, 4, 7, 11, 32, 37, 39, 41, 42, 49, 56, 70, 100]
def repOne (es : List El) (code : ByteArray) (n : Int) : List El := if n = 39 then [(39, code)] else if getB n es then [(n, getS n es)] else []
def repK (es : List El) (code : ByteArray) (k : Nat) : List El := (repN.take k).flatMap (repOne es code)
theorem repOne_len (es : List El) (code : ByteArray) (n : Int) : (repOne es code n).length ≤ 1 := by
 unfold repOne; split; simp; split <;> simp
def codeB (code : ByteArray) : Bool := decide (code.size = 2) && allS digB code
def repE (ty : Int) (code : ByteArray) : Int := if asksB ty = false then 8 else if codeB code = false then 2 else 0
def repT (ty : Int) (code : ByteArray) : Int := if repE ty code = 0 then ty + 10 else 0
def repL (ty : Int) (es : List El) (code : ByteArray) : List El := if repE ty code = 0 then repK es code 13 else []
def RepPost (ty : Int) (es : List El) (code : ByteArray) (w : World) (e : Ending) (w' : World) : Prop := ∃ v, e = .returned (.tuple #[msgAgg (repT ty code) v, .int .i64 (repE ty code)]) ∧ Elems w' v (repL ty es code) ∧ Ext w w'
theorem rep_bad {ty : Int} {es : List El} {code : ByteArray} {c : Int} (h : repE ty code = c) (hc : c ≠ 0) : repT ty code = 0 ∧ repL ty es code = [] := by
 unfold repT repL; rw [h, if_neg hc, if_neg hc]; exact ⟨rfl, rfl⟩
end Go.Proofs.YtkggloeaojkhaaaGreatDoor
namespace Go.Proofs.YtkggloeaojkhaaaGreatDoor
open Go.RowKit
theorem elems_form {w : World} {v : Value} {es : List El} (h : Elems w v es) : ∃ p c, v = .slice p es.length c := by obtain ⟨p, c, hv, _⟩ := h; exact ⟨p, c, hv⟩
end Go.Proofs.YtkggloeaojkhaaaGreatDoor
namespace Go.Proofs.YtkggloeaojkhaaaGreatDoor
open Go.RowKit
def ValP (s : ByteArray) (w : World) (e : Ending) (w' : World) : Prop := ∃ z : Int, e = .returned (.tuple #[.int .i64 z, .bool (allS digB s)]) ∧ w = w'
set_option maxHeartbeats 1000000 in
theorem rValue_any2 (s : ByteArray) (w : World) (hs : s.size ≤ 1000000) :
 Calls Tryz.prog 34 #[.string s] w (ValP s w) := by
 go_enter Tryz.func34, Tryz.ntmps34
 go_wp2
 go_loop [4, 5] (fun n i => ∃ (k : Nat) (z : Int), k ≤ s.size ∧ i = .int .i64 k ∧ n = .int .i64 z ∧ (s.data.toList.take k).all digB = true) (fun _ i => s.size - (intOf i).toNat)
 case atStart => exact ⟨0, 0, Nat.zero_le _, rfl, rfl, rfl⟩
 case round =>
  obtain ⟨k, z, hk, rfl, rfl, hall⟩ := hrel
  have hH := Lib.hid hall
  clear hall
  by_cases hlt : k < s.size
  · have hal := Lib.hid (all_take_snocP digB s k hlt)
    by_cases hd : digB s[k] = true
    · have hc : 48 ≤ s[k].toNat ∧ s[k].toNat ≤ 57 := by unfold digB at hd; simpa using hd
      have hD := Lib.hid hd
      clear hd
      go_wp2
      go_round
      case rel => exact ⟨k + 1, _, by omega, by go_num, rfl, by rw [hal.out, hH.out, hD.out]; rfl⟩
      case measure => simp [intOf]; omega
    · have hd' : digB s[k] = false := by simpa using hd
      have hA : allS digB s = false := all_of_badP digB s k hlt hd'
      have HA := Lib.hid hA
      by_cases hlo : s[k].toNat < 48
      · clear hA hd hd'
        go_wp2
        go_ret2
        exact ⟨0, by rw [HA.out]; rfl, rfl⟩
      · have hhi : 57 < s[k].toNat := by unfold digB at hd'; simp at hd'; omega
        clear hA hd hd'
        go_wp2
        go_ret2
        exact ⟨0, by rw [HA.out]; rfl, rfl⟩
  · have hA : allS digB s = true := by
     have := hH.out
     rw [List.take_of_length_le (by rw [len_list]; omega)] at this
     exact this
    have HA := Lib.hid hA
    clear hA
    go_wp2
    go_ret2
    exact ⟨z, by rw [HA.out]; rfl, rfl⟩
/-- The elements of the reply with numbers below n. -/
def acR (es : List El) (code : ByteArray) (n : Nat) : List El := (repN.filter (fun m => decide (m < (n : Int)))).flatMap (repOne es code)
theorem fil_succ (n : Nat) (h : n ≤ 100) : repN.filter (fun m => decide (m < ((n + 1 : Nat) : Int))) = repN.filter (fun m => decide (m < (n : Int))) ++ if (n : Int) ∈ repN then [(n : Int)] else [] := by
 have key : ∀ n : Fin 101, repN.filter (fun m => decide (m < ((n.val + 1 : Nat) : Int))) = repN.filter (fun m => decide (m < (n.val : Int))) ++ if (n.val : Int) ∈ repN then [(n.val : Int)] else [] := by decide +kernel
 exact key ⟨n, by omega⟩
theorem acR_succ (es : List El) (code : ByteArray) (n : Nat) (h : n ≤ 100) : acR es code (n + 1) = acR es code n ++ if (n : Int) ∈ repN then repOne es code n else [] := by
 unfold acR
 rw [fil_succ n h, List.flatMap_append]
 congr 1
 split <;> simp
theorem acR_end (es : List El) (code : ByteArray) : acR es code 101 = repK es code 13 := by
 unfold acR repK
 congr 1
theorem acR_zero (es : List El) (code : ByteArray) : acR es code 2 = [] := by
 unfold acR
 rw [show repN.filter (fun m => decide (m < ((2 : Nat) : Int))) = [] by decide +kernel]; rfl
theorem fil_len (n : Nat) : (repN.filter (fun m => decide (m < (n : Int)))).length ≤ 13 := by
 have := List.length_filter_le (fun m => decide (m < (n : Int))) repN
 exact this
theorem flat_len (es : List El) (code : ByteArray) : ∀ l : List Int, (l.flatMap (repOne es code)).length ≤ l.length
 | [] => by simp
 | n :: l => by
  have := flat_len es code l
  have := repOne_len es code n
  rw [List.flatMap_cons, List.length_append, List.length_cons]; omega
theorem acR_len (es : List El) (code : ByteArray) (n : Nat) : (acR es code n).length ≤ 13 := Nat.le_trans (flat_len es code _) (fil_len n)
theorem repOne_yes (es : List El) (code : ByteArray) (n : Int) (h : n ≠ 39) (hg : getB n es = true) : repOne es code n = [(n, getS n es)] := by unfold repOne; rw [if_neg h, if_pos hg]
theorem repOne_no (es : List El) (code : ByteArray) (n : Int) (h : n ≠ 39) (hg : getB n es = false) : repOne es code n = [] := by unfold repOne; rw [if_neg h, if_neg (by rw [hg]; decide)]
theorem repN_mem (n : Nat) (h : n ≤ 100) (hm : (n : Int) ∈ repN) : n = 2 ∨ n = 4 ∨ n = 7 ∨ n = 11 ∨ n = 32 ∨ n = 37 ∨ n = 41 ∨ n = 42 ∨ n = 49 ∨ n = 56 ∨ n = 70 ∨ n = 100 ∨ n = 39 := by
 unfold repN at hm
 simp only [List.mem_cons, List.not_mem_nil, or_false] at hm
 omega
set_option maxRecDepth 8000 in
set_option maxHeartbeats 16000000 in
theorem rreply_any (ty : Int) (v : Value) (es : List El) (code : ByteArray) (w : World) (hv : Elems w v es) (hl : es.length ≤ 1000000) (hcs : code.size ≤ 1000000) :
 Calls Tryz.prog 11 #[msgAgg ty v, .string code] w (RepPost ty es code w) := by
 have hV := Lib.hid hv
 obtain ⟨q, cp, rfl⟩ := elems_form hv
 clear hv
 unfold msgAgg
 cases ha : asksB ty with
 | false =>
  have hE8 : repE ty code = 8 := by unfold repE; rw [if_pos ha]
  have hD := Lib.hid (And.intro hE8 (rep_bad (es := es) hE8 (by decide)))
  clear hE8
  go_enter Tryz.func11, Tryz.ntmps11
  go_wp2_with fail
  refine (asks_any ty _).mono ?_
  rintro e w1 ⟨rfl, rfl⟩
  rw [ha]
  go_wp2
  refine bodyPost_ret (v := .tuple #[msgAgg 0 (.slice none 0 0), .int .i64 8]) ?_ rfl ⟨.slice none 0 0, by rw [hD.out.1, hD.out.2.1], by rw [hD.out.2.2]; exact elems_nil _, xt⟩
  simp [results, Tryz.results11, go_sem, msgAgg]
 | true =>
  obtain ⟨hb1, hb2⟩ := asks_bd ha
  cases hcb : codeB code with
  | false =>
   have hE2 : repE ty code = 2 := by unfold repE; rw [if_neg (by rw [ha]; decide), if_pos hcb]
   have hD := Lib.hid (And.intro hE2 (rep_bad (es := es) hE2 (by decide)))
   clear hE2
   go_enter Tryz.func11, Tryz.ntmps11
   go_wp2_with fail
   refine (asks_any ty _).mono ?_
   rintro e w1 ⟨rfl, rfl⟩
   rw [ha]
   clear ha
   go_wp2_with fail
   refine (rValue_any2 code _ hcs).mono ?_
   rintro e w1 ⟨z, rfl, rfl⟩
   cases hdg : allS digB code with
   | false =>
    clear hcb
    go_wp2
    refine bodyPost_ret (v := .tuple #[msgAgg 0 (.slice none 0 0), .int .i64 2]) ?_ rfl ⟨.slice none 0 0, by rw [hD.out.1, hD.out.2.1], by rw [hD.out.2.2]; exact elems_nil _, xt⟩
    simp [results, Tryz.results11, go_sem, msgAgg]
   | true =>
    have hsz : ((code.size : Int) != 2) = true := by
     unfold codeB at hcb; rw [hdg, Bool.and_true] at hcb
     have := of_decide_eq_false hcb
     simp; omega
    clear hcb hdg
    go_wp2
    refine bodyPost_ret (v := .tuple #[msgAgg 0 (.slice none 0 0), .int .i64 2]) ?_ rfl ⟨.slice none 0 0, by rw [hD.out.1, hD.out.2.1], by rw [hD.out.2.2]; exact elems_nil _, xt⟩
    simp [results, Tryz.results11, go_sem, msgAgg]
  | true =>
   have hE0 : repE ty code = 0 := by unfold repE; rw [if_neg (by rw [ha]; decide), if_neg (by rw [hcb]; decide)]
   have hD : Hid (repE ty code = 0 ∧ repT ty code = ty + 10 ∧ repL ty es code = repK es code 13) := Lib.hid ⟨hE0, by unfold repT; rw [if_pos hE0], by unfold repL; rw [if_pos hE0]⟩
   have hcc : code.size = 2 ∧ allS digB code = true := by unfold codeB at hcb; simpa using hcb
   have hdg := hcc.2
   have hsz : ((code.size : Int) != 2) = false := by rw [bne_eq_false_iff_eq]; omega
   obtain ⟨i0, hi, hz0, hz1, hz2⟩ := info_parts infoEl
   have hI := Lib.hid hi
   have hZ0 := Lib.hid hz0
   have hZ1 := Lib.hid hz1
   have hZ2 := Lib.hid hz2
   clear hi hz0 hz1 hz2 hE0 hcb hcc
   go_enter Tryz.func11, Tryz.ntmps11
   go_wp2_with fail
   refine (asks_any ty _).mono ?_
   rintro e w1 ⟨rfl, rfl⟩
   rw [ha]
   clear ha
   go_wp2_with fail
   refine (rValue_any2 code _ hcs).mono ?_
   rintro e w1 ⟨z, rfl, rfl⟩
   rw [hdg]
   clear hdg
   go_wp2
   have hE0 : Ext w (((w.alloc (.cells #[.int .i64 ty, .slice q es.length cp] 29)).alloc (.cells #[.int .i64 0, .slice none 0 0] 29)).alloc (.cells #[.int .i64 (ty + 10), .slice none 0 0] 29)) := xt
   have hA1 := ((Blk.new w #[.int .i64 ty, .slice q es.length cp] 29).alloc (.cells #[.int .i64 0, .slice none 0 0] 29)).alloc (.cells #[.int .i64 (ty + 10), .slice none 0 0] 29)
   have hA2 : Blk (((w.alloc (.cells #[.int .i64 ty, .slice q es.length cp] 29)).alloc (.cells #[.int .i64 0, .slice none 0 0] 29)).alloc (.cells #[.int .i64 (ty + 10), .slice none 0 0] 29)) (w.heap.size + 1) #[.int .i64 0, .slice none 0 0] 29 := (Blk.new' _ _ _ _ (by simp)).alloc _
   have hA3 : Blk (((w.alloc (.cells #[.int .i64 ty, .slice q es.length cp] 29)).alloc (.cells #[.int .i64 0, .slice none 0 0] 29)).alloc (.cells #[.int .i64 (ty + 10), .slice none 0 0] 29)) (w.heap.size + 1 + 1) #[.int .i64 (ty + 10), .slice none 0 0] 29 := Blk.new' _ _ _ _ (by simp)
   go_loopw [9] (fun i wr => ∃ (n : Nat) (vv : Value), 2 ≤ n ∧ n ≤ 101 ∧ i = .int .i64 n ∧ Blk wr (w.heap.size + 1 + 1) #[.int .i64 (ty + 10), vv] 29 ∧ wr.ownsRow (((w.alloc (.cells #[.int .i64 ty, .slice q es.length cp] 29)).alloc (.cells #[.int .i64 0, .slice none 0 0] 29)).alloc (.cells #[.int .i64 (ty + 10), .slice none 0 0] 29)).heap.size 97 2 vv (acR es code n).length (elCells (acR es code n)) ∧ ExtBut (w.heap.size + 1 + 1) (((w.alloc (.cells #[.int .i64 ty, .slice q es.length cp] 29)).alloc (.cells #[.int .i64 0, .slice none 0 0] 29)).alloc (.cells #[.int .i64 (ty + 10), .slice none 0 0] 29)) wr) (fun i _ => 101 - (intOf i).toNat)
   case atStart => exact ⟨2, .slice none 0 0, by omega, by omega, rfl, hA3, by rw [acR_zero]; exact ⟨rfl, Or.inl ⟨rfl, rfl⟩⟩, ExtBut.refl _ _⟩
   case round =>
    obtain ⟨n, vv, hn1, hn101, rfl, hMr, hown, hEb⟩ := hrel
    generalize hW : (((w.alloc (.cells #[.int .i64 ty, .slice q es.length cp] 29)).alloc (.cells #[.int .i64 0, .slice none 0 0] 29)).alloc (.cells #[.int .i64 (ty + 10), .slice none 0 0] 29)) = w0 at *
    have hW0 : w.heap.size + 1 + 1 < w0.heap.size := hA3.lt
    clear hW
    have hEw : Ext w wr := ExtBut.after hE0 hEb (by omega)
    have hB1 := hA1.but hEb (by omega)
    have hB2 := hA2.but hEb (by omega)
    have hsz0 := hEb.size
    have z0 := hB1.cell 0
    have z1 := hB1.cell 1
    simp at z0 z1
    have hKl := acR_len es code n
    by_cases hn2 : n ≤ 100
    · have hSu := acR_succ es code n hn2
      obtain ⟨vp, vc, rfl⟩ := owns_form hown
      go_wp2_with fail
      refine (rGet_any ty n _ es _ (hV.out.ext hEw) hl).mono ?_
      rintro e w3 ⟨rfl, hE3⟩
      have hM3 := hMr.ext hE3
      have hown3 := owns_ext hown hE3
      have hEb3 := hEb.trans (ExtBut.of_ext hE3)
      have hs3 := hEb3.size
      clear hE3 hMr hown hEb z0 z1
      have m0 := hM3.cell 0
      have m1 := hM3.cell 1
      have g0 := hM3.fz 0
      have g1 := hM3.fz 1
      have ml := hM3.lt
      simp at m0 m1
      by_cases hmem : (n : Int) ∈ repN
      · rw [if_pos hmem] at hSu
        by_cases h39 : n = 39
        · have hS := Lib.hid (hSu.trans (show _ = acR es code n ++ [((n : Int), code)] by rw [h39, show repOne es code ((39 : Nat) : Int) = [(39, code)] by unfold repOne; simp]; rfl))
          have b2 : ((n : Int) == 2) = false := by rw [beq_eq_false_iff_ne]; omega
          have b4 : ((n : Int) == 4) = false := by rw [beq_eq_false_iff_ne]; omega
          have b7 : ((n : Int) == 7) = false := by rw [beq_eq_false_iff_ne]; omega
          have b11 : ((n : Int) == 11) = false := by rw [beq_eq_false_iff_ne]; omega
          have b32 : ((n : Int) == 32) = false := by rw [beq_eq_false_iff_ne]; omega
          have b37 : ((n : Int) == 37) = false := by rw [beq_eq_false_iff_ne]; omega
          have b41 : ((n : Int) == 41) = false := by rw [beq_eq_false_iff_ne]; omega
          have b42 : ((n : Int) == 42) = false := by rw [beq_eq_false_iff_ne]; omega
          have b49 : ((n : Int) == 49) = false := by rw [beq_eq_false_iff_ne]; omega
          have b56 : ((n : Int) == 56) = false := by rw [beq_eq_false_iff_ne]; omega
          have b70 : ((n : Int) == 70) = false := by rw [beq_eq_false_iff_ne]; omega
          have b100 : ((n : Int) == 100) = false := by rw [beq_eq_false_iff_ne]; omega
          have b39 : ((n : Int) == 39) = true := by rw [beq_iff_eq]; omega
          clear hSu hmem h39
          generalize getS (n : Int) es = sv at *
          generalize getB (n : Int) es = gb at *
          generalize acR es code n = acc at *
          go_wp2_with (at_builtin; refine wpList_append_own _ rfl _ _ 27 rfl w0.heap.size 97 i0 (.agg #[.int .i64 0, .string ⟨#[]⟩]) 2 24 Tryz.underlying27 hI.out hZ0.out hZ1.out hZ2.out rfl (by decide) (.slice vp acc.length vc) _ _ rfl (hown3.alloc _) ⟨w3.heap.size, 0, none⟩ 1 1 [.int .i64 n, .string code] rfl rfl ?_ ?_ ?_ ?_ ?_ ?_)
          · exact cell_two_new' _ _ _ _ _ rfl
          · exact two_one _ _
          · unfold maxLen; omega
          · omega
          · simp; omega
          intro v' w5 hown5 hgrow5 _
          have hM5 : Blk w5 (w.heap.size + 1 + 1) #[.int .i64 (ty + 10), .slice vp acc.length vc] 29 := Blk.grown (hM3.alloc (.cells #[.int .i64 n, .string code] 97)) hgrow5 (fun e => by have := (hown3.lt _ e.symm).1; omega)
          have s1 := hM5.cell 1
          have s2 := hM5.fz 1
          have s3 := hM5.lt
          simp at s1
          obtain ⟨vp', vc', rfl⟩ := owns_form hown5
          have hEb5 : ExtBut (w.heap.size + 1 + 1) w0 w5 := ExtBut.grown (b := w3.alloc (.cells #[.int .i64 n, .string code] 97)) (hEb3.alloc _) hgrow5 (fun k hk => (hown3.lt k hk).1)
          go_wp2
          go_roundw
          case rel => exact ⟨n + 1, _, by omega, by omega, by go_num, hM5.set 1 _, by rw [hS.out, show acc ++ [((n : Int), code)] = acc ++ [((n : Int), code)] from rfl, elCells_snoc]; simpa using owns_set hown5 (by omega), hEb5.setCell 1 _⟩
          case measure => simp [intOf]; omega
        · have hne : (n : Int) ≠ 39 := by omega
          have hc := repN_mem n hn2 hmem
          cases hgb : getB (n : Int) es with
          | true =>
           have hS := Lib.hid (hSu.trans (by rw [repOne_yes _ _ _ hne hgb]))
           clear hSu hmem hgb
           generalize getS (n : Int) es = sv at *
           generalize acR es code n = acc at *
           rcases hc with hc | hc | hc | hc | hc | hc | hc | hc | hc | hc | hc | hc | hc
           · have b2 : ((n : Int) == 2) = true := by rw [beq_iff_eq]; omega
             have b4 : ((n : Int) == 4) = false := by rw [beq_eq_false_iff_ne]; omega
             have b7 : ((n : Int) == 7) = false := by rw [beq_eq_false_iff_ne]; omega
             have b11 : ((n : Int) == 11) = false := by rw [beq_eq_false_iff_ne]; omega
             have b32 : ((n : Int) == 32) = false := by rw [beq_eq_false_iff_ne]; omega
             have b37 : ((n : Int) == 37) = false := by rw [beq_eq_false_iff_ne]; omega
             have b41 : ((n : Int) == 41) = false := by rw [beq_eq_false_iff_ne]; omega
             have b42 : ((n : Int) == 42) = false := by rw [beq_eq_false_iff_ne]; omega
             have b49 : ((n : Int) == 49) = false := by rw [beq_eq_false_iff_ne]; omega
             have b56 : ((n : Int) == 56) = false := by rw [beq_eq_false_iff_ne]; omega
             have b70 : ((n : Int) == 70) = false := by rw [beq_eq_false_iff_ne]; omega
             have b100 : ((n : Int) == 100) = false := by rw [beq_eq_false_iff_ne]; omega
             have b39 : ((n : Int) == 39) = false := by rw [beq_eq_false_iff_ne]; omega
             clear hc h39 hne
             go_wp2_with (at_builtin; refine wpList_append_own _ rfl _ _ 27 rfl w0.heap.size 97 i0 (.agg #[.int .i64 0, .string ⟨#[]⟩]) 2 24 Tryz.underlying27 hI.out hZ0.out hZ1.out hZ2.out rfl (by decide) (.slice vp acc.length vc) _ _ rfl (hown3.alloc _) ⟨w3.heap.size, 0, none⟩ 1 1 [.int .i64 n, .string sv] rfl rfl ?_ ?_ ?_ ?_ ?_ ?_)
             · exact cell_two_new' _ _ _ _ _ rfl
             · exact two_one _ _
             · unfold maxLen; omega
             · omega
             · simp; omega
             intro v' w5 hown5 hgrow5 _
             have hM5 : Blk w5 (w.heap.size + 1 + 1) #[.int .i64 (ty + 10), .slice vp acc.length vc] 29 := Blk.grown (hM3.alloc (.cells #[.int .i64 n, .string sv] 97)) hgrow5 (fun e => by have := (hown3.lt _ e.symm).1; omega)
             have s1 := hM5.cell 1
             have s2 := hM5.fz 1
             have s3 := hM5.lt
             simp at s1
             obtain ⟨vp', vc', rfl⟩ := owns_form hown5
             have hEb5 : ExtBut (w.heap.size + 1 + 1) w0 w5 := ExtBut.grown (b := w3.alloc (.cells #[.int .i64 n, .string sv] 97)) (hEb3.alloc _) hgrow5 (fun k hk => (hown3.lt k hk).1)
             go_wp2
             go_roundw
             case rel => exact ⟨n + 1, _, by omega, by omega, by go_num, hM5.set 1 _, by rw [hS.out, show acc ++ [((n : Int), sv)] = acc ++ [((n : Int), sv)] from rfl, elCells_snoc]; simpa using owns_set hown5 (by omega), hEb5.setCell 1 _⟩
             case measure => simp [intOf]; omega
           · have b2 : ((n : Int) == 2) = false := by rw [beq_eq_false_iff_ne]; omega
             have b4 : ((n : Int) == 4) = true := by rw [beq_iff_eq]; omega
             have b7 : ((n : Int) == 7) = false := by rw [beq_eq_false_iff_ne]; omega
             have b11 : ((n : Int) == 11) = false := by rw [beq_eq_false_iff_ne]; omega
             have b32 : ((n : Int) == 32) = false := by rw [beq_eq_false_iff_ne]; omega
             have b37 : ((n : Int) == 37) = false := by rw [beq_eq_false_iff_ne]; omega
             have b41 : ((n : Int) == 41) = false := by rw [beq_eq_false_iff_ne]; omega
             have b42 : ((n : Int) == 42) = false := by rw [beq_eq_false_iff_ne]; omega
             have b49 : ((n : Int) == 49) = false := by rw [beq_eq_false_iff_ne]; omega
             have b56 : ((n : Int) == 56) = false := by rw [beq_eq_false_iff_ne]; omega
             have b70 : ((n : Int) == 70) = false := by rw [beq_eq_false_iff_ne]; omega
             have b100 : ((n : Int) == 100) = false := by rw [beq_eq_false_iff_ne]; omega
             have b39 : ((n : Int) == 39) = false := by rw [beq_eq_false_iff_ne]; omega
             clear hc h39 hne
             go_wp2_with (at_builtin; refine wpList_append_own _ rfl _ _ 27 rfl w0.heap.size 97 i0 (.agg #[.int .i64 0, .string ⟨#[]⟩]) 2 24 Tryz.underlying27 hI.out hZ0.out hZ1.out hZ2.out rfl (by decide) (.slice vp acc.length vc) _ _ rfl (hown3.alloc _) ⟨w3.heap.size, 0, none⟩ 1 1 [.int .i64 n, .string sv] rfl rfl ?_ ?_ ?_ ?_ ?_ ?_)
             · exact cell_two_new' _ _ _ _ _ rfl
             · exact two_one _ _
             · unfold maxLen; omega
             · omega
             · simp; omega
             intro v' w5 hown5 hgrow5 _
             have hM5 : Blk w5 (w.heap.size + 1 + 1) #[.int .i64 (ty + 10), .slice vp acc.length vc] 29 := Blk.grown (hM3.alloc (.cells #[.int .i64 n, .string sv] 97)) hgrow5 (fun e => by have := (hown3.lt _ e.symm).1; omega)
             have s1 := hM5.cell 1
             have s2 := hM5.fz 1
             have s3 := hM5.lt
             simp at s1
             obtain ⟨vp', vc', rfl⟩ := owns_form hown5
             have hEb5 : ExtBut (w.heap.size + 1 + 1) w0 w5 := ExtBut.grown (b := w3.alloc (.cells #[.int .i64 n, .string sv] 97)) (hEb3.alloc _) hgrow5 (fun k hk => (hown3.lt k hk).1)
             go_wp2
             go_roundw
             case rel => exact ⟨n + 1, _, by omega, by omega, by go_num, hM5.set 1 _, by rw [hS.out, show acc ++ [((n : Int), sv)] = acc ++ [((n : Int), sv)] from rfl, elCells_snoc]; simpa using owns_set hown5 (by omega), hEb5.setCell 1 _⟩
             case measure => simp [intOf]; omega
           · have b2 : ((n : Int) == 2) = false := by rw [beq_eq_false_iff_ne]; omega
             have b4 : ((n : Int) == 4) = false := by rw [beq_eq_false_iff_ne]; omega
             have b7 : ((n : Int) == 7) = true := by rw [beq_iff_eq]; omega
             have b11 : ((n : Int) == 11) = false := by rw [beq_eq_false_iff_ne]; omega
             have b32 : ((n : Int) == 32) = false := by rw [beq_eq_false_iff_ne]; omega
             have b37 : ((n : Int) == 37) = false := by rw [beq_eq_false_iff_ne]; omega
             have b41 : ((n : Int) == 41) = false := by rw [beq_eq_false_iff_ne]; omega
             have b42 : ((n : Int) == 42) = false := by rw [beq_eq_false_iff_ne]; omega
             have b49 : ((n : Int) == 49) = false := by rw [beq_eq_false_iff_ne]; omega
             have b56 : ((n : Int) == 56) = false := by rw [beq_eq_false_iff_ne]; omega
             have b70 : ((n : Int) == 70) = false := by rw [beq_eq_false_iff_ne]; omega
             have b100 : ((n : Int) == 100) = false := by rw [beq_eq_false_iff_ne]; omega
             have b39 : ((n : Int) == 39) = false := by rw [beq_eq_false_iff_ne]; omega
             clear hc h39 hne
             go_wp2_with (at_builtin; refine wpList_append_own _ rfl _ _ 27 rfl w0.heap.size 97 i0 (.agg #[.int .i64 0, .string ⟨#[]⟩]) 2 24 Tryz.underlying27 hI.out hZ0.out hZ1.out hZ2.out rfl (by decide) (.slice vp acc.length vc) _ _ rfl (hown3.alloc _) ⟨w3.heap.size, 0, none⟩ 1 1 [.int .i64 n, .string sv] rfl rfl ?_ ?_ ?_ ?_ ?_ ?_)
             · exact cell_two_new' _ _ _ _ _ rfl
             · exact two_one _ _
             · unfold maxLen; omega
             · omega
             · simp; omega
             intro v' w5 hown5 hgrow5 _
             have hM5 : Blk w5 (w.heap.size + 1 + 1) #[.int .i64 (ty + 10), .slice vp acc.length vc] 29 := Blk.grown (hM3.alloc (.cells #[.int .i64 n, .string sv] 97)) hgrow5 (fun e => by have := (hown3.lt _ e.symm).1; omega)
             have s1 := hM5.cell 1
             have s2 := hM5.fz 1
             have s3 := hM5.lt
             simp at s1
             obtain ⟨vp', vc', rfl⟩ := owns_form hown5
             have hEb5 : ExtBut (w.heap.size + 1 + 1) w0 w5 := ExtBut.grown (b := w3.alloc (.cells #[.int .i64 n, .string sv] 97)) (hEb3.alloc _) hgrow5 (fun k hk => (hown3.lt k hk).1)
             go_wp2
             go_roundw
             case rel => exact ⟨n + 1, _, by omega, by omega, by go_num, hM5.set 1 _, by rw [hS.out, show acc ++ [((n : Int), sv)] = acc ++ [((n : Int), sv)] from rfl, elCells_snoc]; simpa using owns_set hown5 (by omega), hEb5.setCell 1 _⟩
             case measure => simp [intOf]; omega
           · have b2 : ((n : Int) == 2) = false := by rw [beq_eq_false_iff_ne]; omega
             have b4 : ((n : Int) == 4) = false := by rw [beq_eq_false_iff_ne]; omega
             have b7 : ((n : Int) == 7) = false := by rw [beq_eq_false_iff_ne]; omega
             have b11 : ((n : Int) == 11) = true := by rw [beq_iff_eq]; omega
             have b32 : ((n : Int) == 32) = false := by rw [beq_eq_false_iff_ne]; omega
             have b37 : ((n : Int) == 37) = false := by rw [beq_eq_false_iff_ne]; omega
             have b41 : ((n : Int) == 41) = false := by rw [beq_eq_false_iff_ne]; omega
             have b42 : ((n : Int) == 42) = false := by rw [beq_eq_false_iff_ne]; omega
             have b49 : ((n : Int) == 49) = false := by rw [beq_eq_false_iff_ne]; omega
             have b56 : ((n : Int) == 56) = false := by rw [beq_eq_false_iff_ne]; omega
             have b70 : ((n : Int) == 70) = false := by rw [beq_eq_false_iff_ne]; omega
             have b100 : ((n : Int) == 100) = false := by rw [beq_eq_false_iff_ne]; omega
             have b39 : ((n : Int) == 39) = false := by rw [beq_eq_false_iff_ne]; omega
             clear hc h39 hne
             go_wp2_with (at_builtin; refine wpList_append_own _ rfl _ _ 27 rfl w0.heap.size 97 i0 (.agg #[.int .i64 0, .string ⟨#[]⟩]) 2 24 Tryz.underlying27 hI.out hZ0.out hZ1.out hZ2.out rfl (by decide) (.slice vp acc.length vc) _ _ rfl (hown3.alloc _) ⟨w3.heap.size, 0, none⟩ 1 1 [.int .i64 n, .string sv] rfl rfl ?_ ?_ ?_ ?_ ?_ ?_)
             · exact cell_two_new' _ _ _ _ _ rfl
             · exact two_one _ _
             · unfold maxLen; omega
             · omega
             · simp; omega
             intro v' w5 hown5 hgrow5 _
             have hM5 : Blk w5 (w.heap.size + 1 + 1) #[.int .i64 (ty + 10), .slice vp acc.length vc] 29 := Blk.grown (hM3.alloc (.cells #[.int .i64 n, .string sv] 97)) hgrow5 (fun e => by have := (hown3.lt _ e.symm).1; omega)
             have s1 := hM5.cell 1
             have s2 := hM5.fz 1
             have s3 := hM5.lt
             simp at s1
             obtain ⟨vp', vc', rfl⟩ := owns_form hown5
             have hEb5 : ExtBut (w.heap.size + 1 + 1) w0 w5 := ExtBut.grown (b := w3.alloc (.cells #[.int .i64 n, .string sv] 97)) (hEb3.alloc _) hgrow5 (fun k hk => (hown3.lt k hk).1)
             go_wp2
             go_roundw
             case rel => exact ⟨n + 1, _, by omega, by omega, by go_num, hM5.set 1 _, by rw [hS.out, show acc ++ [((n : Int), sv)] = acc ++ [((n : Int), sv)] from rfl, elCells_snoc]; simpa using owns_set hown5 (by omega), hEb5.setCell 1 _⟩
             case measure => simp [intOf]; omega
           · have b2 : ((n : Int) == 2) = false := by rw [beq_eq_false_iff_ne]; omega
             have b4 : ((n : Int) == 4) = false := by rw [beq_eq_false_iff_ne]; omega
             have b7 : ((n : Int) == 7) = false := by rw [beq_eq_false_iff_ne]; omega
             have b11 : ((n : Int) == 11) = false := by rw [beq_eq_false_iff_ne]; omega
             have b32 : ((n : Int) == 32) = true := by rw [beq_iff_eq]; omega
             have b37 : ((n : Int) == 37) = false := by rw [beq_eq_false_iff_ne]; omega
             have b41 : ((n : Int) == 41) = false := by rw [beq_eq_false_iff_ne]; omega
             have b42 : ((n : Int) == 42) = false := by rw [beq_eq_false_iff_ne]; omega
             have b49 : ((n : Int) == 49) = false := by rw [beq_eq_false_iff_ne]; omega
             have b56 : ((n : Int) == 56) = false := by rw [beq_eq_false_iff_ne]; omega
             have b70 : ((n : Int) == 70) = false := by rw [beq_eq_false_iff_ne]; omega
             have b100 : ((n : Int) == 100) = false := by rw [beq_eq_false_iff_ne]; omega
             have b39 : ((n : Int) == 39) = false := by rw [beq_eq_false_iff_ne]; omega
             clear hc h39 hne
             go_wp2_with (at_builtin; refine wpList_append_own _ rfl _ _ 27 rfl w0.heap.size 97 i0 (.agg #[.int .i64 0, .string ⟨#[]⟩]) 2 24 Tryz.underlying27 hI.out hZ0.out hZ1.out hZ2.out rfl (by decide) (.slice vp acc.length vc) _ _ rfl (hown3.alloc _) ⟨w3.heap.size, 0, none⟩ 1 1 [.int .i64 n, .string sv] rfl rfl ?_ ?_ ?_ ?_ ?_ ?_)
             · exact cell_two_new' _ _ _ _ _ rfl
             · exact two_one _ _
             · unfold maxLen; omega
             · omega
             · simp; omega
             intro v' w5 hown5 hgrow5 _
             have hM5 : Blk w5 (w.heap.size + 1 + 1) #[.int .i64 (ty + 10), .slice vp acc.length vc] 29 := Blk.grown (hM3.alloc (.cells #[.int .i64 n, .string sv] 97)) hgrow5 (fun e => by have := (hown3.lt _ e.symm).1; omega)
             have s1 := hM5.cell 1
             have s2 := hM5.fz 1
             have s3 := hM5.lt
             simp at s1
             obtain ⟨vp', vc', rfl⟩ := owns_form hown5
             have hEb5 : ExtBut (w.heap.size + 1 + 1) w0 w5 := ExtBut.grown (b := w3.alloc (.cells #[.int .i64 n, .string sv] 97)) (hEb3.alloc _) hgrow5 (fun k hk => (hown3.lt k hk).1)
             go_wp2
             go_roundw
             case rel => exact ⟨n + 1, _, by omega, by omega, by go_num, hM5.set 1 _, by rw [hS.out, show acc ++ [((n : Int), sv)] = acc ++ [((n : Int), sv)] from rfl, elCells_snoc]; simpa using owns_set hown5 (by omega), hEb5.setCell 1 _⟩
             case measure => simp [intOf]; omega
           · have b2 : ((n : Int) == 2) = false := by rw [beq_eq_false_iff_ne]; omega
             have b4 : ((n : Int) == 4) = false := by rw [beq_eq_false_iff_ne]; omega
             have b7 : ((n : Int) == 7) = false := by rw [beq_eq_false_iff_ne]; omega
             have b11 : ((n : Int) == 11) = false := by rw [beq_eq_false_iff_ne]; omega
             have b32 : ((n : Int) == 32) = false := by rw [beq_eq_false_iff_ne]; omega
             have b37 : ((n : Int) == 37) = true := by rw [beq_iff_eq]; omega
             have b41 : ((n : Int) == 41) = false := by rw [beq_eq_false_iff_ne]; omega
             have b42 : ((n : Int) == 42) = false := by rw [beq_eq_false_iff_ne]; omega
             have b49 : ((n : Int) == 49) = false := by rw [beq_eq_false_iff_ne]; omega
             have b56 : ((n : Int) == 56) = false := by rw [beq_eq_false_iff_ne]; omega
             have b70 : ((n : Int) == 70) = false := by rw [beq_eq_false_iff_ne]; omega
             have b100 : ((n : Int) == 100) = false := by rw [beq_eq_false_iff_ne]; omega
             have b39 : ((n : Int) == 39) = false := by rw [beq_eq_false_iff_ne]; omega
             clear hc h39 hne
             go_wp2_with (at_builtin; refine wpList_append_own _ rfl _ _ 27 rfl w0.heap.size 97 i0 (.agg #[.int .i64 0, .string ⟨#[]⟩]) 2 24 Tryz.underlying27 hI.out hZ0.out hZ1.out hZ2.out rfl (by decide) (.slice vp acc.length vc) _ _ rfl (hown3.alloc _) ⟨w3.heap.size, 0, none⟩ 1 1 [.int .i64 n, .string sv] rfl rfl ?_ ?_ ?_ ?_ ?_ ?_)
             · exact cell_two_new' _ _ _ _ _ rfl
             · exact two_one _ _
             · unfold maxLen; omega
             · omega
             · simp; omega
             intro v' w5 hown5 hgrow5 _
             have hM5 : Blk w5 (w.heap.size + 1 + 1) #[.int .i64 (ty + 10), .slice vp acc.length vc] 29 := Blk.grown (hM3.alloc (.cells #[.int .i64 n, .string sv] 97)) hgrow5 (fun e => by have := (hown3.lt _ e.symm).1; omega)
             have s1 := hM5.cell 1
             have s2 := hM5.fz 1
             have s3 := hM5.lt
             simp at s1
             obtain ⟨vp', vc', rfl⟩ := owns_form hown5
             have hEb5 : ExtBut (w.heap.size + 1 + 1) w0 w5 := ExtBut.grown (b := w3.alloc (.cells #[.int .i64 n, .string sv] 97)) (hEb3.alloc _) hgrow5 (fun k hk => (hown3.lt k hk).1)
             go_wp2
             go_roundw
             case rel => exact ⟨n + 1, _, by omega, by omega, by go_num, hM5.set 1 _, by rw [hS.out, show acc ++ [((n : Int), sv)] = acc ++ [((n : Int), sv)] from rfl, elCells_snoc]; simpa using owns_set hown5 (by omega), hEb5.setCell 1 _⟩
             case measure => simp [intOf]; omega
           · have b2 : ((n : Int) == 2) = false := by rw [beq_eq_false_iff_ne]; omega
             have b4 : ((n : Int) == 4) = false := by rw [beq_eq_false_iff_ne]; omega
             have b7 : ((n : Int) == 7) = false := by rw [beq_eq_false_iff_ne]; omega
             have b11 : ((n : Int) == 11) = false := by rw [beq_eq_false_iff_ne]; omega
             have b32 : ((n : Int) == 32) = false := by rw [beq_eq_false_iff_ne]; omega
             have b37 : ((n : Int) == 37) = false := by rw [beq_eq_false_iff_ne]; omega
             have b41 : ((n : Int) == 41) = true := by rw [beq_iff_eq]; omega
             have b42 : ((n : Int) == 42) = false := by rw [beq_eq_false_iff_ne]; omega
             have b49 : ((n : Int) == 49) = false := by rw [beq_eq_false_iff_ne]; omega
             have b56 : ((n : Int) == 56) = false := by rw [beq_eq_false_iff_ne]; omega
             have b70 : ((n : Int) == 70) = false := by rw [beq_eq_false_iff_ne]; omega
             have b100 : ((n : Int) == 100) = false := by rw [beq_eq_false_iff_ne]; omega
             have b39 : ((n : Int) == 39) = false := by rw [beq_eq_false_iff_ne]; omega
             clear hc h39 hne
             go_wp2_with (at_builtin; refine wpList_append_own _ rfl _ _ 27 rfl w0.heap.size 97 i0 (.agg #[.int .i64 0, .string ⟨#[]⟩]) 2 24 Tryz.underlying27 hI.out hZ0.out hZ1.out hZ2.out rfl (by decide) (.slice vp acc.length vc) _ _ rfl (hown3.alloc _) ⟨w3.heap.size, 0, none⟩ 1 1 [.int .i64 n, .string sv] rfl rfl ?_ ?_ ?_ ?_ ?_ ?_)
             · exact cell_two_new' _ _ _ _ _ rfl
             · exact two_one _ _
             · unfold maxLen; omega
             · omega
             · simp; omega
             intro v' w5 hown5 hgrow5 _
             have hM5 : Blk w5 (w.heap.size + 1 + 1) #[.int .i64 (ty + 10), .slice vp acc.length vc] 29 := Blk.grown (hM3.alloc (.cells #[.int .i64 n, .string sv] 97)) hgrow5 (fun e => by have := (hown3.lt _ e.symm).1; omega)
             have s1 := hM5.cell 1
             have s2 := hM5.fz 1
             have s3 := hM5.lt
             simp at s1
             obtain ⟨vp', vc', rfl⟩ := owns_form hown5
             have hEb5 : ExtBut (w.heap.size + 1 + 1) w0 w5 := ExtBut.grown (b := w3.alloc (.cells #[.int .i64 n, .string sv] 97)) (hEb3.alloc _) hgrow5 (fun k hk => (hown3.lt k hk).1)
             go_wp2
             go_roundw
             case rel => exact ⟨n + 1, _, by omega, by omega, by go_num, hM5.set 1 _, by rw [hS.out, show acc ++ [((n : Int), sv)] = acc ++ [((n : Int), sv)] from rfl, elCells_snoc]; simpa using owns_set hown5 (by omega), hEb5.setCell 1 _⟩
             case measure => simp [intOf]; omega
           · have b2 : ((n : Int) == 2) = false := by rw [beq_eq_false_iff_ne]; omega
             have b4 : ((n : Int) == 4) = false := by rw [beq_eq_false_iff_ne]; omega
             have b7 : ((n : Int) == 7) = false := by rw [beq_eq_false_iff_ne]; omega
             have b11 : ((n : Int) == 11) = false := by rw [beq_eq_false_iff_ne]; omega
             have b32 : ((n : Int) == 32) = false := by rw [beq_eq_false_iff_ne]; omega
             have b37 : ((n : Int) == 37) = false := by rw [beq_eq_false_iff_ne]; omega
             have b41 : ((n : Int) == 41) = false := by rw [beq_eq_false_iff_ne]; omega
             have b42 : ((n : Int) == 42) = true := by rw [beq_iff_eq]; omega
             have b49 : ((n : Int) == 49) = false := by rw [beq_eq_false_iff_ne]; omega
             have b56 : ((n : Int) == 56) = false := by rw [beq_eq_false_iff_ne]; omega
             have b70 : ((n : Int) == 70) = false := by rw [beq_eq_false_iff_ne]; omega
             have b100 : ((n : Int) == 100) = false := by rw [beq_eq_false_iff_ne]; omega
             have b39 : ((n : Int) == 39) = false := by rw [beq_eq_false_iff_ne]; omega
             clear hc h39 hne
             go_wp2_with (at_builtin; refine wpList_append_own _ rfl _ _ 27 rfl w0.heap.size 97 i0 (.agg #[.int .i64 0, .string ⟨#[]⟩]) 2 24 Tryz.underlying27 hI.out hZ0.out hZ1.out hZ2.out rfl (by decide) (.slice vp acc.length vc) _ _ rfl (hown3.alloc _) ⟨w3.heap.size, 0, none⟩ 1 1 [.int .i64 n, .string sv] rfl rfl ?_ ?_ ?_ ?_ ?_ ?_)
             · exact cell_two_new' _ _ _ _ _ rfl
             · exact two_one _ _
             · unfold maxLen; omega
             · omega
             · simp; omega
             intro v' w5 hown5 hgrow5 _
             have hM5 : Blk w5 (w.heap.size + 1 + 1) #[.int .i64 (ty + 10), .slice vp acc.length vc] 29 := Blk.grown (hM3.alloc (.cells #[.int .i64 n, .string sv] 97)) hgrow5 (fun e => by have := (hown3.lt _ e.symm).1; omega)
             have s1 := hM5.cell 1
             have s2 := hM5.fz 1
             have s3 := hM5.lt
             simp at s1
             obtain ⟨vp', vc', rfl⟩ := owns_form hown5
             have hEb5 : ExtBut (w.heap.size + 1 + 1) w0 w5 := ExtBut.grown (b := w3.alloc (.cells #[.int .i64 n, .string sv] 97)) (hEb3.alloc _) hgrow5 (fun k hk => (hown3.lt k hk).1)
             go_wp2
             go_roundw
             case rel => exact ⟨n + 1, _, by omega, by omega, by go_num, hM5.set 1 _, by rw [hS.out, show acc ++ [((n : Int), sv)] = acc ++ [((n : Int), sv)] from rfl, elCells_snoc]; simpa using owns_set hown5 (by omega), hEb5.setCell 1 _⟩
             case measure => simp [intOf]; omega
           · have b2 : ((n : Int) == 2) = false := by rw [beq_eq_false_iff_ne]; omega
             have b4 : ((n : Int) == 4) = false := by rw [beq_eq_false_iff_ne]; omega
             have b7 : ((n : Int) == 7) = false := by rw [beq_eq_false_iff_ne]; omega
             have b11 : ((n : Int) == 11) = false := by rw [beq_eq_false_iff_ne]; omega
             have b32 : ((n : Int) == 32) = false := by rw [beq_eq_false_iff_ne]; omega
             have b37 : ((n : Int) == 37) = false := by rw [beq_eq_false_iff_ne]; omega
             have b41 : ((n : Int) == 41) = false := by rw [beq_eq_false_iff_ne]; omega
             have b42 : ((n : Int) == 42) = false := by rw [beq_eq_false_iff_ne]; omega
             have b49 : ((n : Int) == 49) = true := by rw [beq_iff_eq]; omega
             have b56 : ((n : Int) == 56) = false := by rw [beq_eq_false_iff_ne]; omega
             have b70 : ((n : Int) == 70) = false := by rw [beq_eq_false_iff_ne]; omega
             have b100 : ((n : Int) == 100) = false := by rw [beq_eq_false_iff_ne]; omega
             have b39 : ((n : Int) == 39) = false := by rw [beq_eq_false_iff_ne]; omega
             clear hc h39 hne
             go_wp2_with (at_builtin; refine wpList_append_own _ rfl _ _ 27 rfl w0.heap.size 97 i0 (.agg #[.int .i64 0, .string ⟨#[]⟩]) 2 24 Tryz.underlying27 hI.out hZ0.out hZ1.out hZ2.out rfl (by decide) (.slice vp acc.length vc) _ _ rfl (hown3.alloc _) ⟨w3.heap.size, 0, none⟩ 1 1 [.int .i64 n, .string sv] rfl rfl ?_ ?_ ?_ ?_ ?_ ?_)
             · exact cell_two_new' _ _ _ _ _ rfl
             · exact two_one _ _
             · unfold maxLen; omega
             · omega
             · simp; omega
             intro v' w5 hown5 hgrow5 _
             have hM5 : Blk w5 (w.heap.size + 1 + 1) #[.int .i64 (ty + 10), .slice vp acc.length vc] 29 := Blk.grown (hM3.alloc (.cells #[.int .i64 n, .string sv] 97)) hgrow5 (fun e => by have := (hown3.lt _ e.symm).1; omega)
             have s1 := hM5.cell 1
             have s2 := hM5.fz 1
             have s3 := hM5.lt
             simp at s1
             obtain ⟨vp', vc', rfl⟩ := owns_form hown5
             have hEb5 : ExtBut (w.heap.size + 1 + 1) w0 w5 := ExtBut.grown (b := w3.alloc (.cells #[.int .i64 n, .string sv] 97)) (hEb3.alloc _) hgrow5 (fun k hk => (hown3.lt k hk).1)
             go_wp2
             go_roundw
             case rel => exact ⟨n + 1, _, by omega, by omega, by go_num, hM5.set 1 _, by rw [hS.out, show acc ++ [((n : Int), sv)] = acc ++ [((n : Int), sv)] from rfl, elCells_snoc]; simpa using owns_set hown5 (by omega), hEb5.setCell 1 _⟩
             case measure => simp [intOf]; omega
           · have b2 : ((n : Int) == 2) = false := by rw [beq_eq_false_iff_ne]; omega
             have b4 : ((n : Int) == 4) = false := by rw [beq_eq_false_iff_ne]; omega
             have b7 : ((n : Int) == 7) = false := by rw [beq_eq_false_iff_ne]; omega
             have b11 : ((n : Int) == 11) = false := by rw [beq_eq_false_iff_ne]; omega
             have b32 : ((n : Int) == 32) = false := by rw [beq_eq_false_iff_ne]; omega
             have b37 : ((n : Int) == 37) = false := by rw [beq_eq_false_iff_ne]; omega
             have b41 : ((n : Int) == 41) = false := by rw [beq_eq_false_iff_ne]; omega
             have b42 : ((n : Int) == 42) = false := by rw [beq_eq_false_iff_ne]; omega
             have b49 : ((n : Int) == 49) = false := by rw [beq_eq_false_iff_ne]; omega
             have b56 : ((n : Int) == 56) = true := by rw [beq_iff_eq]; omega
             have b70 : ((n : Int) == 70) = false := by rw [beq_eq_false_iff_ne]; omega
             have b100 : ((n : Int) == 100) = false := by rw [beq_eq_false_iff_ne]; omega
             have b39 : ((n : Int) == 39) = false := by rw [beq_eq_false_iff_ne]; omega
             clear hc h39 hne
             go_wp2_with (at_builtin; refine wpList_append_own _ rfl _ _ 27 rfl w0.heap.size 97 i0 (.agg #[.int .i64 0, .string ⟨#[]⟩]) 2 24 Tryz.underlying27 hI.out hZ0.out hZ1.out hZ2.out rfl (by decide) (.slice vp acc.length vc) _ _ rfl (hown3.alloc _) ⟨w3.heap.size, 0, none⟩ 1 1 [.int .i64 n, .string sv] rfl rfl ?_ ?_ ?_ ?_ ?_ ?_)
             · exact cell_two_new' _ _ _ _ _ rfl
             · exact two_one _ _
             · unfold maxLen; omega
             · omega
             · simp; omega
             intro v' w5 hown5 hgrow5 _
             have hM5 : Blk w5 (w.heap.size + 1 + 1) #[.int .i64 (ty + 10), .slice vp acc.length vc] 29 := Blk.grown (hM3.alloc (.cells #[.int .i64 n, .string sv] 97)) hgrow5 (fun e => by have := (hown3.lt _ e.symm).1; omega)
             have s1 := hM5.cell 1
             have s2 := hM5.fz 1
             have s3 := hM5.lt
             simp at s1
             obtain ⟨vp', vc', rfl⟩ := owns_form hown5
             have hEb5 : ExtBut (w.heap.size + 1 + 1) w0 w5 := ExtBut.grown (b := w3.alloc (.cells #[.int .i64 n, .string sv] 97)) (hEb3.alloc _) hgrow5 (fun k hk => (hown3.lt k hk).1)
             go_wp2
             go_roundw
             case rel => exact ⟨n + 1, _, by omega, by omega, by go_num, hM5.set 1 _, by rw [hS.out, show acc ++ [((n : Int), sv)] = acc ++ [((n : Int), sv)] from rfl, elCells_snoc]; simpa using owns_set hown5 (by omega), hEb5.setCell 1 _⟩
             case measure => simp [intOf]; omega
           · have b2 : ((n : Int) == 2) = false := by rw [beq_eq_false_iff_ne]; omega
             have b4 : ((n : Int) == 4) = false := by rw [beq_eq_false_iff_ne]; omega
             have b7 : ((n : Int) == 7) = false := by rw [beq_eq_false_iff_ne]; omega
             have b11 : ((n : Int) == 11) = false := by rw [beq_eq_false_iff_ne]; omega
             have b32 : ((n : Int) == 32) = false := by rw [beq_eq_false_iff_ne]; omega
             have b37 : ((n : Int) == 37) = false := by rw [beq_eq_false_iff_ne]; omega
             have b41 : ((n : Int) == 41) = false := by rw [beq_eq_false_iff_ne]; omega
             have b42 : ((n : Int) == 42) = false := by rw [beq_eq_false_iff_ne]; omega
             have b49 : ((n : Int) == 49) = false := by rw [beq_eq_false_iff_ne]; omega
             have b56 : ((n : Int) == 56) = false := by rw [beq_eq_false_iff_ne]; omega
             have b70 : ((n : Int) == 70) = true := by rw [beq_iff_eq]; omega
             have b100 : ((n : Int) == 100) = false := by rw [beq_eq_false_iff_ne]; omega
             have b39 : ((n : Int) == 39) = false := by rw [beq_eq_false_iff_ne]; omega
             clear hc h39 hne
             go_wp2_with (at_builtin; refine wpList_append_own _ rfl _ _ 27 rfl w0.heap.size 97 i0 (.agg #[.int .i64 0, .string ⟨#[]⟩]) 2 24 Tryz.underlying27 hI.out hZ0.out hZ1.out hZ2.out rfl (by decide) (.slice vp acc.length vc) _ _ rfl (hown3.alloc _) ⟨w3.heap.size, 0, none⟩ 1 1 [.int .i64 n, .string sv] rfl rfl ?_ ?_ ?_ ?_ ?_ ?_)
             · exact cell_two_new' _ _ _ _ _ rfl
             · exact two_one _ _
             · unfold maxLen; omega
             · omega
             · simp; omega
             intro v' w5 hown5 hgrow5 _
             have hM5 : Blk w5 (w.heap.size + 1 + 1) #[.int .i64 (ty + 10), .slice vp acc.length vc] 29 := Blk.grown (hM3.alloc (.cells #[.int .i64 n, .string sv] 97)) hgrow5 (fun e => by have := (hown3.lt _ e.symm).1; omega)
             have s1 := hM5.cell 1
             have s2 := hM5.fz 1
             have s3 := hM5.lt
             simp at s1
             obtain ⟨vp', vc', rfl⟩ := owns_form hown5
             have hEb5 : ExtBut (w.heap.size + 1 + 1) w0 w5 := ExtBut.grown (b := w3.alloc (.cells #[.int .i64 n, .string sv] 97)) (hEb3.alloc _) hgrow5 (fun k hk => (hown3.lt k hk).1)
             go_wp2
             go_roundw
             case rel => exact ⟨n + 1, _, by omega, by omega, by go_num, hM5.set 1 _, by rw [hS.out, show acc ++ [((n : Int), sv)] = acc ++ [((n : Int), sv)] from rfl, elCells_snoc]; simpa using owns_set hown5 (by omega), hEb5.setCell 1 _⟩
             case measure => simp [intOf]; omega
           · have b2 : ((n : Int) == 2) = false := by rw [beq_eq_false_iff_ne]; omega
             have b4 : ((n : Int) == 4) = false := by rw [beq_eq_false_iff_ne]; omega
             have b7 : ((n : Int) == 7) = false := by rw [beq_eq_false_iff_ne]; omega
             have b11 : ((n : Int) == 11) = false := by rw [beq_eq_false_iff_ne]; omega
             have b32 : ((n : Int) == 32) = false := by rw [beq_eq_false_iff_ne]; omega
             have b37 : ((n : Int) == 37) = false := by rw [beq_eq_false_iff_ne]; omega
             have b41 : ((n : Int) == 41) = false := by rw [beq_eq_false_iff_ne]; omega
             have b42 : ((n : Int) == 42) = false := by rw [beq_eq_false_iff_ne]; omega
             have b49 : ((n : Int) == 49) = false := by rw [beq_eq_false_iff_ne]; omega
             have b56 : ((n : Int) == 56) = false := by rw [beq_eq_false_iff_ne]; omega
             have b70 : ((n : Int) == 70) = false := by rw [beq_eq_false_iff_ne]; omega
             have b100 : ((n : Int) == 100) = true := by rw [beq_iff_eq]; omega
             have b39 : ((n : Int) == 39) = false := by rw [beq_eq_false_iff_ne]; omega
             clear hc h39 hne
             go_wp2_with (at_builtin; refine wpList_append_own _ rfl _ _ 27 rfl w0.heap.size 97 i0 (.agg #[.int .i64 0, .string ⟨#[]⟩]) 2 24 Tryz.underlying27 hI.out hZ0.out hZ1.out hZ2.out rfl (by decide) (.slice vp acc.length vc) _ _ rfl (hown3.alloc _) ⟨w3.heap.size, 0, none⟩ 1 1 [.int .i64 n, .string sv] rfl rfl ?_ ?_ ?_ ?_ ?_ ?_)
             · exact cell_two_new' _ _ _ _ _ rfl
             · exact two_one _ _
             · unfold maxLen; omega
             · omega
             · simp; omega
             intro v' w5 hown5 hgrow5 _
             have hM5 : Blk w5 (w.heap.size + 1 + 1) #[.int .i64 (ty + 10), .slice vp acc.length vc] 29 := Blk.grown (hM3.alloc (.cells #[.int .i64 n, .string sv] 97)) hgrow5 (fun e => by have := (hown3.lt _ e.symm).1; omega)
             have s1 := hM5.cell 1
             have s2 := hM5.fz 1
             have s3 := hM5.lt
             simp at s1
             obtain ⟨vp', vc', rfl⟩ := owns_form hown5
             have hEb5 : ExtBut (w.heap.size + 1 + 1) w0 w5 := ExtBut.grown (b := w3.alloc (.cells #[.int .i64 n, .string sv] 97)) (hEb3.alloc _) hgrow5 (fun k hk => (hown3.lt k hk).1)
             go_wp2
             go_roundw
             case rel => exact ⟨n + 1, _, by omega, by omega, by go_num, hM5.set 1 _, by rw [hS.out, show acc ++ [((n : Int), sv)] = acc ++ [((n : Int), sv)] from rfl, elCells_snoc]; simpa using owns_set hown5 (by omega), hEb5.setCell 1 _⟩
             case measure => simp [intOf]; omega
           · exact absurd hc h39
          | false =>
           have hS := Lib.hid (hSu.trans (by rw [repOne_no _ _ _ hne hgb, List.append_nil]))
           clear hSu hmem hgb
           generalize getS (n : Int) es = sv at *
           generalize acR es code n = acc at *
           rcases hc with hc | hc | hc | hc | hc | hc | hc | hc | hc | hc | hc | hc | hc
           · have b2 : ((n : Int) == 2) = true := by rw [beq_iff_eq]; omega
             have b4 : ((n : Int) == 4) = false := by rw [beq_eq_false_iff_ne]; omega
             have b7 : ((n : Int) == 7) = false := by rw [beq_eq_false_iff_ne]; omega
             have b11 : ((n : Int) == 11) = false := by rw [beq_eq_false_iff_ne]; omega
             have b32 : ((n : Int) == 32) = false := by rw [beq_eq_false_iff_ne]; omega
             have b37 : ((n : Int) == 37) = false := by rw [beq_eq_false_iff_ne]; omega
             have b41 : ((n : Int) == 41) = false := by rw [beq_eq_false_iff_ne]; omega
             have b42 : ((n : Int) == 42) = false := by rw [beq_eq_false_iff_ne]; omega
             have b49 : ((n : Int) == 49) = false := by rw [beq_eq_false_iff_ne]; omega
             have b56 : ((n : Int) == 56) = false := by rw [beq_eq_false_iff_ne]; omega
             have b70 : ((n : Int) == 70) = false := by rw [beq_eq_false_iff_ne]; omega
             have b100 : ((n : Int) == 100) = false := by rw [beq_eq_false_iff_ne]; omega
             have b39 : ((n : Int) == 39) = false := by rw [beq_eq_false_iff_ne]; omega
             clear hc h39 hne
             go_wp2
             go_roundw
             case rel => exact ⟨n + 1, _, by omega, by omega, by go_num, hM3, by rw [hS.out]; exact hown3, hEb3⟩
             case measure => simp [intOf]; omega
           · have b2 : ((n : Int) == 2) = false := by rw [beq_eq_false_iff_ne]; omega
             have b4 : ((n : Int) == 4) = true := by rw [beq_iff_eq]; omega
             have b7 : ((n : Int) == 7) = false := by rw [beq_eq_false_iff_ne]; omega
             have b11 : ((n : Int) == 11) = false := by rw [beq_eq_false_iff_ne]; omega
             have b32 : ((n : Int) == 32) = false := by rw [beq_eq_false_iff_ne]; omega
             have b37 : ((n : Int) == 37) = false := by rw [beq_eq_false_iff_ne]; omega
             have b41 : ((n : Int) == 41) = false := by rw [beq_eq_false_iff_ne]; omega
             have b42 : ((n : Int) == 42) = false := by rw [beq_eq_false_iff_ne]; omega
             have b49 : ((n : Int) == 49) = false := by rw [beq_eq_false_iff_ne]; omega
             have b56 : ((n : Int) == 56) = false := by rw [beq_eq_false_iff_ne]; omega
             have b70 : ((n : Int) == 70) = false := by rw [beq_eq_false_iff_ne]; omega
             have b100 : ((n : Int) == 100) = false := by rw [beq_eq_false_iff_ne]; omega
             have b39 : ((n : Int) == 39) = false := by rw [beq_eq_false_iff_ne]; omega
             clear hc h39 hne
             go_wp2
             go_roundw
             case rel => exact ⟨n + 1, _, by omega, by omega, by go_num, hM3, by rw [hS.out]; exact hown3, hEb3⟩
             case measure => simp [intOf]; omega
           · have b2 : ((n : Int) == 2) = false := by rw [beq_eq_false_iff_ne]; omega
             have b4 : ((n : Int) == 4) = false := by rw [beq_eq_false_iff_ne]; omega
             have b7 : ((n : Int) == 7) = true := by rw [beq_iff_eq]; omega
             have b11 : ((n : Int) == 11) = false := by rw [beq_eq_false_iff_ne]; omega
             have b32 : ((n : Int) == 32) = false := by rw [beq_eq_false_iff_ne]; omega
             have b37 : ((n : Int) == 37) = false := by rw [beq_eq_false_iff_ne]; omega
             have b41 : ((n : Int) == 41) = false := by rw [beq_eq_false_iff_ne]; omega
             have b42 : ((n : Int) == 42) = false := by rw [beq_eq_false_iff_ne]; omega
             have b49 : ((n : Int) == 49) = false := by rw [beq_eq_false_iff_ne]; omega
             have b56 : ((n : Int) == 56) = false := by rw [beq_eq_false_iff_ne]; omega
             have b70 : ((n : Int) == 70) = false := by rw [beq_eq_false_iff_ne]; omega
             have b100 : ((n : Int) == 100) = false := by rw [beq_eq_false_iff_ne]; omega
             have b39 : ((n : Int) == 39) = false := by rw [beq_eq_false_iff_ne]; omega
             clear hc h39 hne
             go_wp2
             go_roundw
             case rel => exact ⟨n + 1, _, by omega, by omega, by go_num, hM3, by rw [hS.out]; exact hown3, hEb3⟩
             case measure => simp [intOf]; omega
           · have b2 : ((n : Int) == 2) = false := by rw [beq_eq_false_iff_ne]; omega
             have b4 : ((n : Int) == 4) = false := by rw [beq_eq_false_iff_ne]; omega
             have b7 : ((n : Int) == 7) = false := by rw [beq_eq_false_iff_ne]; omega
             have b11 : ((n : Int) == 11) = true := by rw [beq_iff_eq]; omega
             have b32 : ((n : Int) == 32) = false := by rw [beq_eq_false_iff_ne]; omega
             have b37 : ((n : Int) == 37) = false := by rw [beq_eq_false_iff_ne]; omega
             have b41 : ((n : Int) == 41) = false := by rw [beq_eq_false_iff_ne]; omega
             have b42 : ((n : Int) == 42) = false := by rw [beq_eq_false_iff_ne]; omega
             have b49 : ((n : Int) == 49) = false := by rw [beq_eq_false_iff_ne]; omega
             have b56 : ((n : Int) == 56) = false := by rw [beq_eq_false_iff_ne]; omega
             have b70 : ((n : Int) == 70) = false := by rw [beq_eq_false_iff_ne]; omega
             have b100 : ((n : Int) == 100) = false := by rw [beq_eq_false_iff_ne]; omega
             have b39 : ((n : Int) == 39) = false := by rw [beq_eq_false_iff_ne]; omega
             clear hc h39 hne
             go_wp2
             go_roundw
             case rel => exact ⟨n + 1, _, by omega, by omega, by go_num, hM3, by rw [hS.out]; exact hown3, hEb3⟩
             case measure => simp [intOf]; omega
           · have b2 : ((n : Int) == 2) = false := by rw [beq_eq_false_iff_ne]; omega
             have b4 : ((n : Int) == 4) = false := by rw [beq_eq_false_iff_ne]; omega
             have b7 : ((n : Int) == 7) = false := by rw [beq_eq_false_iff_ne]; omega
             have b11 : ((n : Int) == 11) = false := by rw [beq_eq_false_iff_ne]; omega
             have b32 : ((n : Int) == 32) = true := by rw [beq_iff_eq]; omega
             have b37 : ((n : Int) == 37) = false := by rw [beq_eq_false_iff_ne]; omega
             have b41 : ((n : Int) == 41) = false := by rw [beq_eq_false_iff_ne]; omega
             have b42 : ((n : Int) == 42) = false := by rw [beq_eq_false_iff_ne]; omega
             have b49 : ((n : Int) == 49) = false := by rw [beq_eq_false_iff_ne]; omega
             have b56 : ((n : Int) == 56) = false := by rw [beq_eq_false_iff_ne]; omega
             have b70 : ((n : Int) == 70) = false := by rw [beq_eq_false_iff_ne]; omega
             have b100 : ((n : Int) == 100) = false := by rw [beq_eq_false_iff_ne]; omega
             have b39 : ((n : Int) == 39) = false := by rw [beq_eq_false_iff_ne]; omega
             clear hc h39 hne
             go_wp2
             go_roundw
             case rel => exact ⟨n + 1, _, by omega, by omega, by go_num, hM3, by rw [hS.out]; exact hown3, hEb3⟩
             case measure => simp [intOf]; omega
           · have b2 : ((n : Int) == 2) = false := by rw [beq_eq_false_iff_ne]; omega
             have b4 : ((n : Int) == 4) = false := by rw [beq_eq_false_iff_ne]; omega
             have b7 : ((n : Int) == 7) = false := by rw [beq_eq_false_iff_ne]; omega
             have b11 : ((n : Int) == 11) = false := by rw [beq_eq_false_iff_ne]; omega
             have b32 : ((n : Int) == 32) = false := by rw [beq_eq_false_iff_ne]; omega
             have b37 : ((n : Int) == 37) = true := by rw [beq_iff_eq]; omega
             have b41 : ((n : Int) == 41) = false := by rw [beq_eq_false_iff_ne]; omega
             have b42 : ((n : Int) == 42) = false := by rw [beq_eq_false_iff_ne]; omega
             have b49 : ((n : Int) == 49) = false := by rw [beq_eq_false_iff_ne]; omega
             have b56 : ((n : Int) == 56) = false := by rw [beq_eq_false_iff_ne]; omega
             have b70 : ((n : Int) == 70) = false := by rw [beq_eq_false_iff_ne]; omega
             have b100 : ((n : Int) == 100) = false := by rw [beq_eq_false_iff_ne]; omega
             have b39 : ((n : Int) == 39) = false := by rw [beq_eq_false_iff_ne]; omega
             clear hc h39 hne
             go_wp2
             go_roundw
             case rel => exact ⟨n + 1, _, by omega, by omega, by go_num, hM3, by rw [hS.out]; exact hown3, hEb3⟩
             case measure => simp [intOf]; omega
           · have b2 : ((n : Int) == 2) = false := by rw [beq_eq_false_iff_ne]; omega
             have b4 : ((n : Int) == 4) = false := by rw [beq_eq_false_iff_ne]; omega
             have b7 : ((n : Int) == 7) = false := by rw [beq_eq_false_iff_ne]; omega
             have b11 : ((n : Int) == 11) = false := by rw [beq_eq_false_iff_ne]; omega
             have b32 : ((n : Int) == 32) = false := by rw [beq_eq_false_iff_ne]; omega
             have b37 : ((n : Int) == 37) = false := by rw [beq_eq_false_iff_ne]; omega
             have b41 : ((n : Int) == 41) = true := by rw [beq_iff_eq]; omega
             have b42 : ((n : Int) == 42) = false := by rw [beq_eq_false_iff_ne]; omega
             have b49 : ((n : Int) == 49) = false := by rw [beq_eq_false_iff_ne]; omega
             have b56 : ((n : Int) == 56) = false := by rw [beq_eq_false_iff_ne]; omega
             have b70 : ((n : Int) == 70) = false := by rw [beq_eq_false_iff_ne]; omega
             have b100 : ((n : Int) == 100) = false := by rw [beq_eq_false_iff_ne]; omega
             have b39 : ((n : Int) == 39) = false := by rw [beq_eq_false_iff_ne]; omega
             clear hc h39 hne
             go_wp2
             go_roundw
             case rel => exact ⟨n + 1, _, by omega, by omega, by go_num, hM3, by rw [hS.out]; exact hown3, hEb3⟩
             case measure => simp [intOf]; omega
           · have b2 : ((n : Int) == 2) = false := by rw [beq_eq_false_iff_ne]; omega
             have b4 : ((n : Int) == 4) = false := by rw [beq_eq_false_iff_ne]; omega
             have b7 : ((n : Int) == 7) = false := by rw [beq_eq_false_iff_ne]; omega
             have b11 : ((n : Int) == 11) = false := by rw [beq_eq_false_iff_ne]; omega
             have b32 : ((n : Int) == 32) = false := by rw [beq_eq_false_iff_ne]; omega
             have b37 : ((n : Int) == 37) = false := by rw [beq_eq_false_iff_ne]; omega
             have b41 : ((n : Int) == 41) = false := by rw [beq_eq_false_iff_ne]; omega
             have b42 : ((n : Int) == 42) = true := by rw [beq_iff_eq]; omega
             have b49 : ((n : Int) == 49) = false := by rw [beq_eq_false_iff_ne]; omega
             have b56 : ((n : Int) == 56) = false := by rw [beq_eq_false_iff_ne]; omega
             have b70 : ((n : Int) == 70) = false := by rw [beq_eq_false_iff_ne]; omega
             have b100 : ((n : Int) == 100) = false := by rw [beq_eq_false_iff_ne]; omega
             have b39 : ((n : Int) == 39) = false := by rw [beq_eq_false_iff_ne]; omega
             clear hc h39 hne
             go_wp2
             go_roundw
             case rel => exact ⟨n + 1, _, by omega, by omega, by go_num, hM3, by rw [hS.out]; exact hown3, hEb3⟩
             case measure => simp [intOf]; omega
           · have b2 : ((n : Int) == 2) = false := by rw [beq_eq_false_iff_ne]; omega
             have b4 : ((n : Int) == 4) = false := by rw [beq_eq_false_iff_ne]; omega
             have b7 : ((n : Int) == 7) = false := by rw [beq_eq_false_iff_ne]; omega
             have b11 : ((n : Int) == 11) = false := by rw [beq_eq_false_iff_ne]; omega
             have b32 : ((n : Int) == 32) = false := by rw [beq_eq_false_iff_ne]; omega
             have b37 : ((n : Int) == 37) = false := by rw [beq_eq_false_iff_ne]; omega
             have b41 : ((n : Int) == 41) = false := by rw [beq_eq_false_iff_ne]; omega
             have b42 : ((n : Int) == 42) = false := by rw [beq_eq_false_iff_ne]; omega
             have b49 : ((n : Int) == 49) = true := by rw [beq_iff_eq]; omega
             have b56 : ((n : Int) == 56) = false := by rw [beq_eq_false_iff_ne]; omega
             have b70 : ((n : Int) == 70) = false := by rw [beq_eq_false_iff_ne]; omega
             have b100 : ((n : Int) == 100) = false := by rw [beq_eq_false_iff_ne]; omega
             have b39 : ((n : Int) == 39) = false := by rw [beq_eq_false_iff_ne]; omega
             clear hc h39 hne
             go_wp2
             go_roundw
             case rel => exact ⟨n + 1, _, by omega, by omega, by go_num, hM3, by rw [hS.out]; exact hown3, hEb3⟩
             case measure => simp [intOf]; omega
           · have b2 : ((n : Int) == 2) = false := by rw [beq_eq_false_iff_ne]; omega
             have b4 : ((n : Int) == 4) = false := by rw [beq_eq_false_iff_ne]; omega
             have b7 : ((n : Int) == 7) = false := by rw [beq_eq_false_iff_ne]; omega
             have b11 : ((n : Int) == 11) = false := by rw [beq_eq_false_iff_ne]; omega
             have b32 : ((n : Int) == 32) = false := by rw [beq_eq_false_iff_ne]; omega
             have b37 : ((n : Int) == 37) = false := by rw [beq_eq_false_iff_ne]; omega
             have b41 : ((n : Int) == 41) = false := by rw [beq_eq_false_iff_ne]; omega
             have b42 : ((n : Int) == 42) = false := by rw [beq_eq_false_iff_ne]; omega
             have b49 : ((n : Int) == 49) = false := by rw [beq_eq_false_iff_ne]; omega
             have b56 : ((n : Int) == 56) = true := by rw [beq_iff_eq]; omega
             have b70 : ((n : Int) == 70) = false := by rw [beq_eq_false_iff_ne]; omega
             have b100 : ((n : Int) == 100) = false := by rw [beq_eq_false_iff_ne]; omega
             have b39 : ((n : Int) == 39) = false := by rw [beq_eq_false_iff_ne]; omega
             clear hc h39 hne
             go_wp2
             go_roundw
             case rel => exact ⟨n + 1, _, by omega, by omega, by go_num, hM3, by rw [hS.out]; exact hown3, hEb3⟩
             case measure => simp [intOf]; omega
           · have b2 : ((n : Int) == 2) = false := by rw [beq_eq_false_iff_ne]; omega
             have b4 : ((n : Int) == 4) = false := by rw [beq_eq_false_iff_ne]; omega
             have b7 : ((n : Int) == 7) = false := by rw [beq_eq_false_iff_ne]; omega
             have b11 : ((n : Int) == 11) = false := by rw [beq_eq_false_iff_ne]; omega
             have b32 : ((n : Int) == 32) = false := by rw [beq_eq_false_iff_ne]; omega
             have b37 : ((n : Int) == 37) = false := by rw [beq_eq_false_iff_ne]; omega
             have b41 : ((n : Int) == 41) = false := by rw [beq_eq_false_iff_ne]; omega
             have b42 : ((n : Int) == 42) = false := by rw [beq_eq_false_iff_ne]; omega
             have b49 : ((n : Int) == 49) = false := by rw [beq_eq_false_iff_ne]; omega
             have b56 : ((n : Int) == 56) = false := by rw [beq_eq_false_iff_ne]; omega
             have b70 : ((n : Int) == 70) = true := by rw [beq_iff_eq]; omega
             have b100 : ((n : Int) == 100) = false := by rw [beq_eq_false_iff_ne]; omega
             have b39 : ((n : Int) == 39) = false := by rw [beq_eq_false_iff_ne]; omega
             clear hc h39 hne
             go_wp2
             go_roundw
             case rel => exact ⟨n + 1, _, by omega, by omega, by go_num, hM3, by rw [hS.out]; exact hown3, hEb3⟩
             case measure => simp [intOf]; omega
           · have b2 : ((n : Int) == 2) = false := by rw [beq_eq_false_iff_ne]; omega
             have b4 : ((n : Int) == 4) = false := by rw [beq_eq_false_iff_ne]; omega
             have b7 : ((n : Int) == 7) = false := by rw [beq_eq_false_iff_ne]; omega
             have b11 : ((n : Int) == 11) = false := by rw [beq_eq_false_iff_ne]; omega
             have b32 : ((n : Int) == 32) = false := by rw [beq_eq_false_iff_ne]; omega
             have b37 : ((n : Int) == 37) = false := by rw [beq_eq_false_iff_ne]; omega
             have b41 : ((n : Int) == 41) = false := by rw [beq_eq_false_iff_ne]; omega
             have b42 : ((n : Int) == 42) = false := by rw [beq_eq_false_iff_ne]; omega
             have b49 : ((n : Int) == 49) = false := by rw [beq_eq_false_iff_ne]; omega
             have b56 : ((n : Int) == 56) = false := by rw [beq_eq_false_iff_ne]; omega
             have b70 : ((n : Int) == 70) = false := by rw [beq_eq_false_iff_ne]; omega
             have b100 : ((n : Int) == 100) = true := by rw [beq_iff_eq]; omega
             have b39 : ((n : Int) == 39) = false := by rw [beq_eq_false_iff_ne]; omega
             clear hc h39 hne
             go_wp2
             go_roundw
             case rel => exact ⟨n + 1, _, by omega, by omega, by go_num, hM3, by rw [hS.out]; exact hown3, hEb3⟩
             case measure => simp [intOf]; omega
           · exact absurd hc h39
      · rw [if_neg hmem, List.append_nil] at hSu
        have hS := Lib.hid hSu
        have hno : (n : Int) ≠ 2 ∧ (n : Int) ≠ 4 ∧ (n : Int) ≠ 7 ∧ (n : Int) ≠ 11 ∧ (n : Int) ≠ 32 ∧ (n : Int) ≠ 37 ∧ (n : Int) ≠ 41 ∧ (n : Int) ≠ 42 ∧ (n : Int) ≠ 49 ∧ (n : Int) ≠ 56 ∧ (n : Int) ≠ 70 ∧ (n : Int) ≠ 100 ∧ (n : Int) ≠ 39 := by
         refine ⟨?_, ?_, ?_, ?_, ?_, ?_, ?_, ?_, ?_, ?_, ?_, ?_, ?_⟩ <;> (intro e; exact hmem (by rw [e]; decide))
        obtain ⟨e2, e4, e7, e11, e32, e37, e41, e42, e49, e56, e70, e100, e39⟩ := hno
        have b2 : ((n : Int) == 2) = false := by rw [beq_eq_false_iff_ne]; exact e2
        have b4 : ((n : Int) == 4) = false := by rw [beq_eq_false_iff_ne]; exact e4
        have b7 : ((n : Int) == 7) = false := by rw [beq_eq_false_iff_ne]; exact e7
        have b11 : ((n : Int) == 11) = false := by rw [beq_eq_false_iff_ne]; exact e11
        have b32 : ((n : Int) == 32) = false := by rw [beq_eq_false_iff_ne]; exact e32
        have b37 : ((n : Int) == 37) = false := by rw [beq_eq_false_iff_ne]; exact e37
        have b41 : ((n : Int) == 41) = false := by rw [beq_eq_false_iff_ne]; exact e41
        have b42 : ((n : Int) == 42) = false := by rw [beq_eq_false_iff_ne]; exact e42
        have b49 : ((n : Int) == 49) = false := by rw [beq_eq_false_iff_ne]; exact e49
        have b56 : ((n : Int) == 56) = false := by rw [beq_eq_false_iff_ne]; exact e56
        have b70 : ((n : Int) == 70) = false := by rw [beq_eq_false_iff_ne]; exact e70
        have b100 : ((n : Int) == 100) = false := by rw [beq_eq_false_iff_ne]; exact e100
        have b39 : ((n : Int) == 39) = false := by rw [beq_eq_false_iff_ne]; exact e39
        clear hSu hmem e2 e4 e7 e11 e32 e37 e41 e42 e49 e56 e70 e100 e39
        generalize getS (n : Int) es = sv at *
        generalize getB (n : Int) es = gb at *
        generalize acR es code n = acc at *
        go_wp2
        go_roundw
        case rel => exact ⟨n + 1, _, by omega, by omega, by go_num, hM3, by rw [hS.out]; exact hown3, hEb3⟩
        case measure => simp [intOf]; omega
    · obtain rfl : n = 101 := by omega
      rw [acR_end] at hown
      have m0 := hMr.cell 0
      have m1 := hMr.cell 1
      have q0 := hB2.cell 0
      have q1 := hB2.cell 1
      have k0 := hB2.fz 0
      have k1 := hB2.fz 1
      have ql := hB2.lt
      have ml := hMr.lt
      simp at m0 m1 q0 q1
      generalize repK es code 13 = acc at *
      have hown3 := Lib.hid hown
      obtain ⟨vp, vc, rfl⟩ := owns_form hown
      clear hown
      go_wp2
      refine bodyPost_ret (v := .tuple #[msgAgg (ty + 10) (.slice vp acc.length vc), .int .i64 0]) ?_ rfl ⟨.slice vp acc.length vc, by rw [hD.out.1, hD.out.2.1], ?_, ?_⟩
      · simp [results, Tryz.results11, go_sem, msgAgg, q0, q1]
      · rw [hD.out.2.2]
        exact elems_of_owns (owns_set (owns_set hown3.out (by omega)) (by omega))
      · exact (hEw.setCell (by simp) _).setCell (by simp) _
end Go.Proofs.YtkggloeaojkhaaaGreatDoor
