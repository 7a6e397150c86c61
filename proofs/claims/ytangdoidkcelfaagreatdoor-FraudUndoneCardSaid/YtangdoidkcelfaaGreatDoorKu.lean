/- Contracts of what DeleteFunc in add reaches (walks; printed by gen/h38.py). -/
import Derived.Test.YtangdoidkcelfaaGreatDoorKp
import Derived.Deep.QuietTactic
import Derived.BigQuiet
namespace Go.Proofs.YtangdoidkcelfaaGreatDoor
open Go.RowKit
theorem zeroCells_len (z : Array Value) (n : Nat) : (Builtin.zeroCells z n).toList.length = n * z.size := by simp [Builtin.zeroCells]
theorem zeroCells_one (z : Array Value) (n : Nat) (h : ∀ v ∈ z, v.oneCell' = true) : ∀ v ∈ (Builtin.zeroCells z n).toList, v.oneCell' = true := by
 intro v hv
 simp only [Builtin.zeroCells, Array.toList_map, List.mem_map] at hv
 obtain ⟨i, hi, rfl⟩ := hv
 have hi2 : i < n * z.size := by simpa using hi
 have hz : 0 < z.size := by
  rcases Nat.eq_zero_or_pos z.size with h0 | h0
  · rw [h0] at hi2; omega
  · exact h0
 have hlt : i % z.size < z.size := Nat.mod_lt _ hz
 rw [getElem!_pos z (i % z.size) hlt]
 exact h _ (Array.getElem_mem hlt)
/-- clear of a slice whose elements are of several cells. -/
theorem run_clear_wide {P : Program} (w : World) (t e ty : TypeId) (z : Value) (ht : P.underlying t = some (.slice e)) (hv : ∀ w, (zeroValue e).run P w = .ok z w) (h1 : ∀ v ∈ z.cells, v.oneCell' = true) (g o n c : Nat) (cur : Array Value) (T : TypeId) (hn : 0 < n)
 (hg : w.heap[g]? = some (.cells cur T (0, 0))) (hfit : o + n * z.cells.size ≤ cur.size) :
 ∃ w', (Builtin.clear_ #[t] ty #[.slice (some ⟨g, o, none⟩) n c]).run P w = .ok (.tuple #[]) w' ∧ ∃ zs : List Value, zs.length = n * z.cells.size ∧ w' = w.setRow g (cur.toList.take o ++ zs ++ cur.toList.drop (o + zs.length)).toArray := by
 have hzl := zeroCells_len z.cells n
 have hst := run_storeCells_at P g o T (Builtin.zeroCells z.cells n).toList 0 cur w hg (by rw [hzl]; simpa using hfit) (zeroCells_one _ _ h1)
 obtain ⟨m, rfl⟩ : ∃ m, n = m + 1 := ⟨n - 1, by omega⟩
 simp only [Nat.add_zero] at hst
 refine ⟨_, ?_, _, hzl, rfl⟩
 simp [Builtin.clear_, run_underlying ht, hv, hst]
theorem set3_take (cs : Array Value) (a : Nat) (x y z : Value) (h : a + 3 ≤ cs.size) : (((cs.setIfInBounds a x).setIfInBounds (a + 1) y).setIfInBounds (a + 2) z).toList.take (a + 3) = cs.toList.take a ++ [x, y, z] := by
 apply List.ext_getElem?
 intro i
 rw [List.getElem?_take, List.getElem?_append, List.length_take, Array.length_toList, Nat.min_eq_left (by omega), List.getElem?_take, Array.getElem?_toList, Array.getElem?_toList]
 simp only [Array.getElem?_setIfInBounds, Array.size_setIfInBounds]
 by_cases h1 : i < a
 · rw [if_pos (by omega), if_neg (by omega), if_neg (by omega), if_neg (by omega), if_pos h1, if_pos h1]
 · rw [if_neg h1]
   by_cases h2 : i = a
   · subst h2
     rw [if_pos (by omega), if_neg (by omega), if_neg (by omega), if_pos rfl, if_pos (by omega)]
     simp
   · by_cases h3 : i = a + 1
     · subst h3
       rw [if_pos (by omega), if_neg (by omega), if_pos rfl, if_pos (by omega)]
       simp
     · by_cases h4 : i = a + 2
       · subst h4
         rw [if_pos (by omega), if_pos rfl, if_pos (by omega)]
         simp
       · rw [if_neg (by omega), List.getElem?_eq_none (by simp; omega)]
theorem set3_drop (cs : Array Value) (a b : Nat) (x y z : Value) (h : a + 3 ≤ b) : (((cs.setIfInBounds a x).setIfInBounds (a + 1) y).setIfInBounds (a + 2) z).toList.drop b = cs.toList.drop b := by
 apply List.ext_getElem?
 intro i
 rw [List.getElem?_drop, List.getElem?_drop, Array.getElem?_toList, Array.getElem?_toList]
 simp only [Array.getElem?_setIfInBounds]
 rw [if_neg (by omega), if_neg (by omega), if_neg (by omega)]
theorem infoFuE : (Tryz.prog.info? 135).map (fun i => (i.zero, i.size, i.bytes)) = some (some (.agg #[.string ⟨#[]⟩, .int .i64 0, .int .i64 0]), 3, 32) := by kernel_rfl
def useAgg (u : UseV) : Value := .agg #[.string u.key, .int .i64 u.t, .int .i64 u.amt]
theorem zeroU (w : World) : (zeroValue 135).run Tryz.prog w = .ok (.agg #[.string ⟨#[]⟩, .int .i64 0, .int .i64 0]) w := by kernel_rfl
/-- What add's closure captures. -/
def CapM (w : World) (P5 P4 X : Nat) (now hor : Int) : Prop := w.cell? ⟨P5, 0, none⟩ = some (.int .i64 now) ∧ w.cell? ⟨P4, 0, none⟩ = some (.pointer (some ⟨X, 0, none⟩)) ∧ w.cell? ⟨X, 1, none⟩ = some (.int .i64 hor)
theorem CapM.ext {w w' : World} {P5 P4 X : Nat} {now hor : Int} (h : CapM w P5 P4 X now hor) (k : Ext w w') : CapM w' P5 P4 X now hor := ⟨k.get h.1, k.get h.2.1, k.get h.2.2⟩
theorem CapM.chg {F : Nat → Prop} {w w' : World} {P5 P4 X : Nat} {now hor : Int} (h : CapM w P5 P4 X now hor) (k : Chg F w w') (h5 : ¬ F P5) (h4 : ¬ F P4) (hX : ¬ F X) : CapM w' P5 P4 X now hor := ⟨k.cell h5 h.1, k.cell h4 h.2.1, k.cell hX h.2.2⟩
def oldB (now hor : Int) (u : UseV) : Bool := decide (u.t ≤ now - hor)
set_option maxRecDepth 8000 in
set_option maxHeartbeats 1000000 in
theorem add1_any (P5 P4 X : Nat) (now hor : Int) (u : UseV) (w : World) (h : CapM w P5 P4 X now hor) (hn : timeB now = true) (hh : 1 ≤ hor ∧ hor ≤ 10000000) : Calls Tryz.prog 65 #[useAgg u, .pointer (some ⟨P5, 0, none⟩), .pointer (some ⟨P4, 0, none⟩)] w (OneQ (.bool (oldB now hor u)) w) := by
 obtain ⟨x5, x4, x1⟩ := h
 obtain ⟨n0, n1⟩ := (timeB_iff now).1 hn
 have e1 : wrap64 (now - hor) = now - hor := by unfold wrap64; omega
 have hq := Lib.hid (show oldB now hor u = decide (u.t ≤ now - hor) from rfl)
 generalize oldB now hor u = R at *
 obtain ⟨key, t, amt⟩ := u
 unfold useAgg
 simp only at hq ⊢
 clear hn n0 n1 hh
 have l5 := cell_lt x5
 have l4 := cell_lt x4
 have l1 := cell_lt x1
 simp only at l5 l4 l1
 go_enter Tryz.func65, Tryz.ntmps65
 go_wp2_with fail
 go_quiet (fail)
 go_wp2
 go_ret
 exact ⟨by rw [hq.out]; rfl, xt⟩
def idxU (p : UseV → Bool) : Nat → List UseV → Int
 | _, [] => -1
 | k, u :: l => if p u then (k : Int) else idxU p (k + 1) l
theorem idxU_drop {l : List UseV} {k : Nat} (p : UseV → Bool) (h : k < l.length) : idxU p k (l.drop k) = if p (l.getD k useD) then (k : Int) else idxU p (k + 1) (l.drop (k + 1)) := by
 rw [List.drop_eq_getElem_cons h, idxU, List.getD_eq_getElem?_getD, List.getElem?_eq_getElem h]
 rfl
theorem use_take2 {l : List UseV} {k : Nat} (h : k < l.length) : l.take (k + 1) = l.take k ++ [l.getD k useD] := by
 rw [List.take_add_one, List.getD_eq_getElem?_getD, List.getElem?_eq_getElem h]
 rfl
/-- What IndexFunc returns: -1, or the first use that is old. -/
def IdxP (now hor : Int) (l : List UseV) (w : World) (e : Ending) (w' : World) : Prop :=
 Ext w w' ∧ ((e = .returned (.int .i64 (-1)) ∧ l.filter (fun u => !oldB now hor u) = l) ∨ ∃ k : Nat, k < l.length ∧ e = .returned (.int .i64 k) ∧ (l.take k).filter (fun u => !oldB now hor u) = l.take k ∧ oldB now hor (l.getD k useD) = true)
theorem keep_snoc2 {l : List UseV} {k : Nat} (now hor : Int) (h : k < l.length) (hf : (l.take k).filter (fun u => !oldB now hor u) = l.take k) (hb : oldB now hor (l.getD k useD) = false) : (l.take (k + 1)).filter (fun u => !oldB now hor u) = l.take (k + 1) := by
 rw [use_take2 h, List.filter_append, hf]
 congr 1
 rw [List.filter_cons_of_pos (by rw [hb]; rfl), List.filter_nil]
set_option maxRecDepth 8000 in
set_option maxHeartbeats 4000000 in
theorem index_any (P5 P4 X B : Nat) (now hor : Int) (v : Value) (l : List UseV) (w : World) (hU : UsesR 135 w B v l) (hC : CapM w P5 P4 X now hor) (hn : timeB now = true) (hh : 1 ≤ hor ∧ hor ≤ 10000000) : Calls Tryz.prog 105 #[v, .func (.func 65) #[] #[.pointer (some ⟨P5, 0, none⟩), .pointer (some ⟨P4, 0, none⟩)]] w (IdxP now hor l w) := by
 obtain ⟨p, c, rfl⟩ := hU.form
 have hll := hU.1
 have kA := Lib.hid (fun u w1 (h : Ext w w1) => add1_any P5 P4 X now hor u w1 (hC.ext h) hn hh)
 unfold OneQ useAgg at kA
 replace hU := Lib.hid hU
 have hfin1 := Lib.hid (fun w' (h : Ext w w') (hf : (l.take l.length).filter (fun u => !oldB now hor u) = l.take l.length) => show IdxP now hor l w (.returned (.int .i64 (-1))) w' from ⟨h, Or.inl ⟨rfl, by rw [List.take_length] at hf; exact hf⟩⟩)
 have hfin2 := Lib.hid (fun (k : Nat) w' (h : Ext w w') (hk : k < l.length) (hf : (l.take k).filter (fun u => !oldB now hor u) = l.take k) (ho : oldB now hor (l.getD k useD) = true) => show IdxP now hor l w (.returned (.int .i64 k)) w' from ⟨h, Or.inr ⟨k, hk, rfl, hf, ho⟩⟩)
 generalize IdxP now hor l w = PP at *
 clear hC hn hh
 go_enter Tryz.func105, Tryz.ntmps105
 go_wp2_with fail
 go_loopw [8] (fun i wr => ∃ k : Nat, k ≤ l.length ∧ i = .int .i64 k ∧ Hid ((l.take k).filter (fun u => !oldB now hor u) = l.take k) ∧ Ext w wr) (fun i _ => l.length - (intOf i).toNat)
 case atStart => exact ⟨0, Nat.zero_le _, rfl, Lib.hid rfl, Ext.refl _⟩
 case round =>
  obtain ⟨k, hk, rfl, hf, hE⟩ := hrel
  by_cases hlt : k < l.length
  · rcases hU.out.lie with ⟨-, hnil⟩ | ⟨g, cap, hv, -, hcap, hcm, hc⟩
    · rw [hnil] at hlt; cases hlt
    injection hv with hp1 hp2 hp3
    subst hp1 hp3
    obtain ⟨x0, x1, x2⟩ := hc k hlt
    replace x0 := hE.get x0
    replace x1 := hE.get x1
    replace x2 := hE.get x2
    have hs1 := Lib.hid (fun hb => keep_snoc2 now hor hlt hf.out hb)
    have hs2 := Lib.hid (fun w' h ho => hfin2.out k w' h hlt hf.out ho)
    replace kA := Lib.hid (kA.out (l.getD k useD) wr hE)
    clear hc hf hfin1 hfin2
    generalize l.getD k useD = u at *
    go_wp2_with fail
    refine kA.out.mono ?_
    rintro e w2 ⟨rfl, hE2⟩
    have hE3 := hE.trans hE2
    clear kA hE hE2 x0 x1 x2
    cases hb : oldB now hor u with
    | true =>
     have hs3 := Lib.hid (fun w' h => hs2.out w' h hb)
     clear hs1 hs2
     go_wp2
     try go_ret
     exact hs3.out _ xt
    | false =>
     have hs3 := Lib.hid (hs1.out hb)
     clear hs1 hs2
     go_wp2
     go_roundw
     case rel => exact ⟨k + 1, by omega, by go_num, hs3, xt⟩
     case measure => simp [intOf]; omega
  · obtain rfl : k = l.length := by omega
    have hs3 := Lib.hid (fun w' h => hfin1.out w' h hf.out)
    clear hfin1 hfin2 hf
    go_wp2
    try go_ret
    exact hs3.out _ xt
end Go.Proofs.YtangdoidkcelfaaGreatDoor
