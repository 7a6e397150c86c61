/- Contracts of the reference's add, collect, Names (walks; printed by gen/g8.py). -/
import Derived.Test.YtnppbeajemhjeaaGreatG1
import Derived.Test.YtnppbeajemhjeaaGreatEh
import Derived.Test.YtnppbeajemhjeaaGreatEk
namespace Go.Proofs.YtnppbeajemhjeaaGreat
open Go.RowKit
theorem addV_len (l : List Bs) (s : Bs) : (addV l s).length ≤ l.length + 1 := by
  induction l with
  | nil => simp [addV]
  | cons y r ih =>
    rw [addV]
    split
    · split
      · simp
      · simp
    · simp only [List.length_cons]; omega
/-- What add has of a list's first k ones. -/
def AddI (l : List Bs) (s : Bs) (k : Nat) (d : Bool) (acc : List Bs) : Prop := acc ++ (if d then l.drop k else addV (l.drop k) s) = addV l s
theorem addI_done {l : List Bs} {s : Bs} {k : Nat} {acc : List Bs} (h : AddI l s k true acc) (hk : k < l.length) : AddI l s (k + 1) true (acc ++ [l.getD k []]) := by
  unfold AddI at *
  rw [← h, if_pos rfl, if_pos rfl, List.drop_eq_getElem_cons hk]
  simp [List.getD_eq_getElem?_getD, hk]
theorem addI_step {l : List Bs} {s : Bs} {k : Nat} {acc : List Bs} (h : AddI l s k false acc) (hk : k < l.length) :
    (¬ s ≤ l.getD k [] → AddI l s (k + 1) false (acc ++ [l.getD k []])) ∧ (s ≤ l.getD k [] → s < l.getD k [] → AddI l s (k + 1) true ((acc ++ [s]) ++ [l.getD k []])) ∧ (s ≤ l.getD k [] → ¬ s < l.getD k [] → AddI l s (k + 1) true (acc ++ [l.getD k []])) := by
  unfold AddI at *
  have hd : l.drop k = l.getD k [] :: l.drop (k + 1) := by
    rw [List.drop_eq_getElem_cons hk]
    simp [List.getD_eq_getElem?_getD, hk]
  rw [if_neg (by simp), hd, addV] at h
  refine ⟨fun h1 => ?_, fun h1 h2 => ?_, fun h1 h2 => ?_⟩
  · rw [if_neg h1] at h; rw [← h, if_neg (by simp)]; simp
  · rw [if_pos h1, if_pos h2] at h; rw [← h, if_pos rfl]; simp
  · rw [if_pos h1, if_neg h2] at h; rw [← h, if_pos rfl]; simp
theorem strs_own {w : World} {B : Nat} {v : Value} {n : Nat} {l : List Bs} (h : w.ownsRow B 9 1 v n (l.map encStr)) (hn : n = l.length) (hl : l.length ≤ 1000000) : StrsM w v l := by
  subst hn
  obtain ⟨_, ⟨rfl, h0⟩ | ⟨g, cap, cur, rfl, _, hb, hcap, _, hs, htk⟩⟩ := h
  · exact ⟨none, 0, by rw [h0], hl, fun h => by omega⟩
  · refine ⟨_, cap, rfl, hl, fun _ => ⟨g, 0, rfl, fun i hi => ?_⟩⟩
    have hb' : Blk w g cur 9 := hb
    rw [Nat.zero_add, hb'.cell, ← Array.getElem?_toList]
    have e : (cur.toList.take (l.length * 1))[i]? = cur.toList[i]? := List.getElem?_take_of_lt (by omega)
    rw [← e, htk, List.getElem?_map, List.getElem?_eq_getElem hi]
    simp [List.getD_eq_getElem?_getD, List.getElem?_eq_getElem hi]
theorem cmp_str (s : ByteArray) (y : Bs) : Op.bytesLess s.toList y = decide (bts s < y) ∧ (s.toList == y) = decide (bts s = y) := by
  rw [bytesLess_eq, ByteArray.toList_eq]
  refine ⟨rfl, ?_⟩
  change (bts s == y) = _
  by_cases h : bts s = y
  · rw [decide_eq_true h, h]; simp
  · rw [decide_eq_false h]; simp [h]
set_option maxRecDepth 8000 in
set_option maxHeartbeats 4000000 in
theorem radd_any (v : Value) (l : List Bs) (s : ByteArray) (w : World) (hS : StrsM w v l) (hl : l.length < 1000000) : Calls Tryz.prog 42 #[v, .string s] w (NamesP (addV l (bts s)) w) := by
  obtain ⟨p, c, rfl, -, hat⟩ := hS
  have hal := addV_len l (bts s)
  have hfin := Lib.hid (fun (vv : Value) (acc : List Bs) (w2 : World) (h : w2.ownsRow w.heap.size 9 1 vv acc.length (acc.map encStr)) (he : acc = addV l (bts s)) (hE : Ext w w2) => show NamesP (addV l (bts s)) w (.returned vv) w2 from ⟨vv, rfl, by subst he; exact strs_own h rfl (by omega), hE⟩)
  replace hat := Lib.hid hat
  obtain ⟨i0, hi, hz0, hz1, hz2⟩ := info_partsE infoStrE
  replace hi := Lib.hid hi
  replace hz0 := Lib.hid hz0
  replace hz1 := Lib.hid hz1
  replace hz2 := Lib.hid hz2
  go_enter Tryz.func42, Tryz.ntmps42
  go_wp2_with fail
  go_loopw [5, 6, 7] (fun ov dv i wr => ∃ k : Nat, ∃ d : Bool, ∃ acc : List Bs, k ≤ l.length ∧ i = .int .i64 k ∧ dv = .bool d ∧ acc.length ≤ k + (if d then 1 else 0) ∧ wr.ownsRow w.heap.size 9 1 ov acc.length (acc.map encStr) ∧ AddI l (bts s) k d acc ∧ Ext w wr) (fun _ _ i _ => l.length - (intOf i).toNat)
  case atStart => exact ⟨0, false, [], Nat.zero_le _, rfl, rfl, by simp, ⟨rfl, Or.inl ⟨rfl, rfl⟩⟩, rfl, Ext.refl _⟩
  case round =>
    obtain ⟨k, d, acc, hk, rfl, rfl, hacc, hown, hI, hE⟩ := hrel
    by_cases hlt : k < l.length
    · obtain ⟨b, off, rfl, hc⟩ := hat.out (by omega)
      have c0 := hE.get (hc k hlt)
      have hbl : b < wr.heap.size := cell_lt c0
      have hD := Lib.hid (fun (h : d = true) => addI_done (by rw [h] at hI; exact hI) hlt)
      have hSt := Lib.hid (fun (h : d = false) => addI_step (by rw [h] at hI; exact hI) hlt)
      unfold encStr at c0
      clear hc hI
      generalize hye : l.getD k [] = y at *
      replace hye := Lib.hid hye
      replace hown := Lib.hid hown
      cases d with
      | true =>
        simp at hacc
        have hN := Lib.hid (hD.out rfl)
        clear hD hSt
        go_wp2_with (at_builtin; refine wpList_append_own _ rfl _ _ 27 rfl w.heap.size 9 i0 (.string ⟨#[]⟩) 1 16 Tryz.underlying27 hi.out hz0.out hz1.out hz2.out rfl (by decide) _ _ _ rfl (ownsRow_extE hown.out ((Ext.refl wr).alloc _)) ⟨wr.heap.size, 0, none⟩ 1 1 [.string ⟨y.toArray⟩] rfl rfl ?_ ?_ ?_ ?_ ?_ ?_)
        any_goals first
          | (intro j u hj; cases j with | zero => (simp at hj; subst hj; simp [go_sem, Addr.add]) | succ j => simp at hj)
          | (intro u hu; simp at hu; subst hu; rfl)
          | (unfold maxLen; omega)
          | omega
          | (have := hE.size; simp; omega)
          | (have := hE.size; omega)
          | rfl
        intro v5 w5 hown5 hgrow5 _
        have hE5 : Ext w w5 := Below.grown (hE.alloc _) hgrow5 (by have := hE.size; first | (simp; done) | (simp; omega)) (fun k hk => (hown.out.lt k hk).1)
        clear hgrow5 hown hE
        go_wp2
        go_roundw
        case rel => exact ⟨k + 1, true, acc ++ [y], by omega, by go_num, rfl, by simp; omega, by simpa [encStr] using hown5, hN.out, hE5⟩
        case measure => simp [intOf]; omega
      | false =>
        simp at hacc
        obtain ⟨s1, s2, s3⟩ := hSt.out rfl
        obtain ⟨b1, b2⟩ := cmp_str s y
        clear hD hSt
        by_cases q1 : bts s < y
        · have hN := Lib.hid (s2 (bs_le q1) q1)
          rw [decide_eq_true q1] at b1
          clear q1 s1 s2 s3 b2
          go_wp2_with (at_builtin; refine wpList_append_own _ rfl _ _ 27 rfl w.heap.size 9 i0 (.string ⟨#[]⟩) 1 16 Tryz.underlying27 hi.out hz0.out hz1.out hz2.out rfl (by decide) _ _ _ rfl (ownsRow_extE hown.out ((Ext.refl wr).alloc _)) ⟨wr.heap.size, 0, none⟩ 1 1 [.string s] rfl rfl ?_ ?_ ?_ ?_ ?_ ?_)
          any_goals first
            | (intro j u hj; cases j with | zero => (simp at hj; subst hj; simp [go_sem, Addr.add]) | succ j => simp at hj)
            | (intro u hu; simp at hu; subst hu; rfl)
            | (unfold maxLen; omega)
            | omega
            | (have := hE.size; simp; omega)
            | (have := hE.size; omega)
            | rfl
          intro v5 w5 hown5 hgrow5 _
          have hE5 : Ext w w5 := Below.grown (hE.alloc _) hgrow5 (by have := hE.size; first | (simp; done) | (simp; omega)) (fun k hk => (hown.out.lt k hk).1)
          obtain ⟨b2, off2, hpe, hcc⟩ := hat.out (by omega)
          cases hpe
          have c5 := hE5.get (hcc k hlt)
          rw [hye.out] at c5
          unfold encStr at c5
          have hbl5 := cell_lt c5
          simp only at hbl5
          replace hown5 := Lib.hid hown5
          clear hgrow5 hown hE c0 hbl hcc
          go_wp2_with (at_builtin; refine wpList_append_own _ rfl _ _ 27 rfl w.heap.size 9 i0 (.string ⟨#[]⟩) 1 16 Tryz.underlying27 hi.out hz0.out hz1.out hz2.out rfl (by decide) _ _ _ rfl (ownsRow_extE hown5.out ((Ext.refl w5).alloc _)) ⟨w5.heap.size, 0, none⟩ 1 1 [.string ⟨y.toArray⟩] rfl rfl ?_ ?_ ?_ ?_ ?_ ?_)
          any_goals first
            | (intro j u hj; cases j with | zero => (simp at hj; subst hj; simp [go_sem, Addr.add]) | succ j => simp at hj)
            | (intro u hu; simp at hu; subst hu; rfl)
            | (unfold maxLen; omega)
            | omega
            | (have := hE5.size; simp; omega)
            | (have := hE5.size; omega)
            | rfl
          intro v6 w6 hown6 hgrow6 _
          have hE6 : Ext w w6 := Below.grown (hE5.alloc _) hgrow6 (by have := hE5.size; first | (simp; done) | (simp; omega)) (fun k hk => (hown5.out.lt k hk).1)
          clear hgrow6 hown5 hE5
          go_wp2
          go_roundw
          case rel => exact ⟨k + 1, true, (acc ++ [bts s]) ++ [y], by omega, by go_num, rfl, by simp; omega, by simpa [encStr, enc_bts] using hown6, hN.out, hE6⟩
          case measure => simp [intOf]; omega
        · rw [decide_eq_false q1] at b1
          by_cases q2 : bts s = y
          · have hN := Lib.hid (s3 (by rw [q2]; exact List.le_refl _) q1)
            rw [decide_eq_true q2] at b2
            clear q1 s1 s2 s3 q2
            go_wp2_with (at_builtin; refine wpList_append_own _ rfl _ _ 27 rfl w.heap.size 9 i0 (.string ⟨#[]⟩) 1 16 Tryz.underlying27 hi.out hz0.out hz1.out hz2.out rfl (by decide) _ _ _ rfl (ownsRow_extE hown.out ((Ext.refl wr).alloc _)) ⟨wr.heap.size, 0, none⟩ 1 1 [.string ⟨y.toArray⟩] rfl rfl ?_ ?_ ?_ ?_ ?_ ?_)
            any_goals first
              | (intro j u hj; cases j with | zero => (simp at hj; subst hj; simp [go_sem, Addr.add]) | succ j => simp at hj)
              | (intro u hu; simp at hu; subst hu; rfl)
              | (unfold maxLen; omega)
              | omega
              | (have := hE.size; simp; omega)
              | (have := hE.size; omega)
              | rfl
            intro v5 w5 hown5 hgrow5 _
            have hE5 : Ext w w5 := Below.grown (hE.alloc _) hgrow5 (by have := hE.size; first | (simp; done) | (simp; omega)) (fun k hk => (hown.out.lt k hk).1)
            clear hgrow5 hown hE
            go_wp2
            go_roundw
            case rel => exact ⟨k + 1, true, acc ++ [y], by omega, by go_num, rfl, by simp; omega, by simpa [encStr] using hown5, hN.out, hE5⟩
            case measure => simp [intOf]; omega
          · have hN := Lib.hid (s1 (fun h => q1 (bs_lt_of h q2)))
            rw [decide_eq_false q2] at b2
            clear q1 s1 s2 s3 q2
            go_wp2_with (at_builtin; refine wpList_append_own _ rfl _ _ 27 rfl w.heap.size 9 i0 (.string ⟨#[]⟩) 1 16 Tryz.underlying27 hi.out hz0.out hz1.out hz2.out rfl (by decide) _ _ _ rfl (ownsRow_extE hown.out ((Ext.refl wr).alloc _)) ⟨wr.heap.size, 0, none⟩ 1 1 [.string ⟨y.toArray⟩] rfl rfl ?_ ?_ ?_ ?_ ?_ ?_)
            any_goals first
              | (intro j u hj; cases j with | zero => (simp at hj; subst hj; simp [go_sem, Addr.add]) | succ j => simp at hj)
              | (intro u hu; simp at hu; subst hu; rfl)
              | (unfold maxLen; omega)
              | omega
              | (have := hE.size; simp; omega)
              | (have := hE.size; omega)
              | rfl
            intro v5 w5 hown5 hgrow5 _
            have hE5 : Ext w w5 := Below.grown (hE.alloc _) hgrow5 (by have := hE.size; first | (simp; done) | (simp; omega)) (fun k hk => (hown.out.lt k hk).1)
            clear hgrow5 hown hE
            go_wp2
            go_roundw
            case rel => exact ⟨k + 1, false, acc ++ [y], by omega, by go_num, rfl, by simp; omega, by simpa [encStr] using hown5, hN.out, hE5⟩
            case measure => simp [intOf]; omega
    · have hk2 : k = l.length := by omega
      have hd : l.drop k = [] := by rw [hk2]; exact List.drop_length
      unfold AddI at hI
      rw [hd] at hI
      clear hd
      replace hown := Lib.hid hown
      cases d with
      | true =>
        simp at hacc
        have he := Lib.hid (show acc = addV l (bts s) by simpa using hI)
        clear hI hk2
        go_wp2
        go_ret
        exact hfin.out _ acc _ hown.out he.out hE
      | false =>
        simp at hacc
        have he := Lib.hid (show acc ++ [bts s] = addV l (bts s) by simpa [addV] using hI)
        clear hI hk2
        go_wp2_with (at_builtin; refine wpList_append_own _ rfl _ _ 27 rfl w.heap.size 9 i0 (.string ⟨#[]⟩) 1 16 Tryz.underlying27 hi.out hz0.out hz1.out hz2.out rfl (by decide) _ _ _ rfl (ownsRow_extE hown.out ((Ext.refl wr).alloc _)) ⟨wr.heap.size, 0, none⟩ 1 1 [.string s] rfl rfl ?_ ?_ ?_ ?_ ?_ ?_)
        any_goals first
          | (intro j u hj; cases j with | zero => (simp at hj; subst hj; simp [go_sem, Addr.add]) | succ j => simp at hj)
          | (intro u hu; simp at hu; subst hu; rfl)
          | (unfold maxLen; omega)
          | omega
          | (have := hE.size; simp; omega)
          | (have := hE.size; omega)
          | rfl
        intro v5 w5 hown5 hgrow5 _
        have hE5 : Ext w w5 := Below.grown (hE.alloc _) hgrow5 (by have := hE.size; first | (simp; done) | (simp; omega)) (fun k hk => (hown.out.lt k hk).1)
        go_wp2
        go_ret
        exact hfin.out _ (acc ++ [bts s]) _ (by simpa [enc_bts] using hown5) he.out hE5
end Go.Proofs.YtnppbeajemhjeaaGreat
