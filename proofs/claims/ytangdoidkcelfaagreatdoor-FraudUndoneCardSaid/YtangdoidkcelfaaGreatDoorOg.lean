/- Plain facts of the law FraudUndone (printed by gen/h66.py). -/
import Derived.Test.YtangdoidkcelfaaGreatDoorNr
import Derived.Test.YtangdoidkcelfaaGreatDoorOw
namespace Go.Proofs.YtangdoidkcelfaaGreatDoor
open Go.RowKit Go.Sort
theorem win_drop {h now win : Int} (us : List UseV) (key : ByteArray) (hw : win ≤ h) : (us.drop (oldN h now us)).filter (inWin key now win) = us.filter (inWin key now win) := by
 have h0 : (us.take (oldN h now us)).filter (inWin key now win) = [] := List.filter_eq_nil_iff.2 (fun u hu => by
  have := oldN_take h now us u hu
  unfold inWin
  rw [show decide (now - win < u.t) = false from decide_eq_false (by omega)]
  simp)
 have e := congrArg (List.filter (inWin key now win)) (List.take_append_drop (oldN h now us) us)
 rw [List.filter_append, h0, List.nil_append] at e
 exact e
theorem src_drop (h l1 l2 now : Int) (us : List UseV) (names : List (List UInt8)) (fs : List Feat) : srcS ⟨h, l2, us.drop (oldN h now us)⟩ names fs now = srcS ⟨h, l1, us⟩ names fs now := by
 funext c nm win
 unfold srcS velCount velSum
 simp only
 by_cases hw : win < 1 ∨ h < win ∨ timeB now = false
 · rw [if_pos hw, if_pos hw, if_pos hw, if_pos hw]
 · rw [if_neg hw, if_neg hw, if_neg hw, if_neg hw, win_drop us _ (by omega)]
/-- What the engine of FraudUndone keeps to. -/
structure UndSt (d : EngD) (n : Nat) (now : Int) : Prop where
 ok : EngOk d
 names : d.names = [carN.data.toList]
 hor : 1 ≤ d.hor ∧ d.hor ≤ 10000000
 vlst : d.vel.last ≤ now
 last : d.last ≤ now
 few : d.uses.length ≤ n
 vfew : d.vel.uses.length ≤ n
 five : ∀ u ∈ d.uses, u.amt = 5
 num : n ≤ 40
theorem UndSt.new : UndSt (newV samF 50 100) 0 0 :=
 ⟨newOk samF_ok, by decide +kernel, newHor samF_ok, by decide +kernel, by decide +kernel, by decide +kernel, by decide +kernel, (fun u hu => by cases hu), by decide⟩
theorem UndSt.later {d : EngD} {n : Nat} {now t : Int} (h : UndSt d n now) (ht : now ≤ t) : UndSt d n t :=
 ⟨h.ok, h.names, h.hor, Int.le_trans h.vlst ht, Int.le_trans h.last ht, h.few, h.vfew, h.five, h.num⟩
theorem UndSt.vadd {d : EngD} {n : Nat} {now : Int} (h : UndSt d n now) (ht : timeB now = true) (c : Nat) (a : Int) (ha : 0 ≤ a ∧ a ≤ 65535) : velAdd d.vel ⟨keyC c, now, a⟩ = (⟨d.vel.hor, now, d.vel.uses.drop (oldN d.vel.hor now d.vel.uses) ++ [⟨keyC c, now, a⟩]⟩, 0) := by
 have h1 := h.vlst
 have h2 := h.vfew
 have h3 := h.num
 unfold velAdd
 rw [if_neg (by simp only [keyC_size]; omega), if_neg (by simp only [ht]; simp; omega), if_neg (by simp only; omega), if_neg (by simp only; omega)]
theorem UndSt.add {d : EngD} {n : Nat} {now : Int} (h : UndSt d n now) (ht : timeB now = true) (c : Nat) (a : Int) (ha : 0 ≤ a ∧ a ≤ 65535) : addV d now [keyC c] a = (addN d now [keyC c] a, 0) := by
 have hf := h.few
 have hn := h.num
 have hfl := List.length_filter_le (fun u : UseV => decide (now - d.hor < u.t)) d.uses
 refine addV_ok ?_ (by omega) ?_ ?_
 · rw [ht]
   have := h.last
   rintro (h | h)
   · cases h
   · omega
 · simp only [List.any_cons, List.any_nil, Bool.or_false, keyC_size]
   rfl
 · simp only [List.length_cons, List.length_nil]
   omega
theorem UndSt.shape {d : EngD} {n : Nat} {now : Int} (h : UndSt d n now) (ht : timeB now = true) (c : Nat) (a : Int) (ha : 0 ≤ a ∧ a ≤ 65535) : addN d now [keyC c] a = ⟨⟨d.vel.hor, now, d.vel.uses.drop (oldN d.vel.hor now d.vel.uses) ++ [⟨keyC c, now, a⟩]⟩, d.hor, now, (d.uses.filter fun u => decide (now - d.hor < u.t)) ++ [⟨keyC c, now, a⟩], d.rules, d.names, d.refer, d.decline⟩ := by
 unfold addN
 rw [if_neg (by simp)]
 simp only [List.foldl_cons, List.foldl_nil, List.map_cons, List.map_nil, h.vadd ht c a ha]
theorem UndSt.record {d : EngD} {n : Nat} {now : Int} (h : UndSt d n now) (ht : timeB now = true) (c : Nat) (hl : n < 40) : (addV d now [keyC c] 5).2 = 0 ∧ UndSt (addV d now [keyC c] 5).1 (n + 1) now := by
 have hok := addV_ok2 (now := now) (ks := [keyC c]) (amt := 5) h.ok
 rw [h.add ht c 5 (by omega), h.shape ht c 5 (by omega)] at hok ⊢
 have hf := h.few
 have hv := h.vfew
 have hfl := List.length_filter_le (fun u : UseV => decide (now - d.hor < u.t)) d.uses
 refine ⟨rfl, hok, h.names, h.hor, Int.le_refl _, Int.le_refl _, ?_, ?_, fun u hu => ?_, by omega⟩
 · simp only [List.length_append, List.length_cons, List.length_nil]
   omega
 · simp only [List.length_append, List.length_cons, List.length_nil, List.length_drop]
   omega
 · rcases List.mem_append.1 hu with hu | hu
   · exact h.five u (List.mem_filter.1 hu).1
   · simp only [List.mem_cons, List.not_mem_nil, or_false] at hu
     subst hu
     rfl
/-- A use of 7 is recorded and taken back. -/
theorem UndSt.undone {d : EngD} {n : Nat} {now : Int} (h : UndSt d n now) (ht : timeB now = true) (c : Nat) (fs : List Feat) : ∃ A A' : List UseV, (addV d now [keyC c] 7).2 = 0 ∧ (addV d now [keyC c] 7).1.names = [carN.data.toList] ∧ (addV d now [keyC c] 7).1.uses = A' ++ [⟨keyC c, now, 7⟩] ∧ (addV d now [keyC c] 7).1.vel.uses = A ++ [⟨keyC c, now, 7⟩] ∧ ⟨keyC c, now, 7⟩ ∉ A' ∧ EngOk (undD (addV d now [keyC c] 7).1 A A') ∧ judgeV (undD (addV d now [keyC c] 7).1 A A') now fs = judgeV d now fs ∧ (undD (addV d now [keyC c] 7).1 A A').last = now := by
 refine ⟨d.vel.uses.drop (oldN d.vel.hor now d.vel.uses), d.uses.filter fun u => decide (now - d.hor < u.t), ?_⟩
 rw [h.add ht c 7 (by omega), h.shape ht c 7 (by omega)]
 have hv := h.vfew
 have hn := h.num
 refine ⟨rfl, h.names, rfl, rfl, fun hm => ?_, ⟨h.ok.hor, ?_, fun u hu => h.ok.amt u (List.mem_of_mem_drop hu), h.ok.names, h.ok.rules, h.ok.range⟩, ?_, rfl⟩
 · have := h.five _ (List.mem_filter.1 hm).1
   cases this
 · show (d.vel.uses.drop _).length ≤ 1000
   rw [List.length_drop]
   omega
 · unfold judgeV undD
   simp only
   rw [src_drop d.vel.hor d.vel.last now now d.vel.uses d.names fs]
end Go.Proofs.YtangdoidkcelfaaGreatDoor
