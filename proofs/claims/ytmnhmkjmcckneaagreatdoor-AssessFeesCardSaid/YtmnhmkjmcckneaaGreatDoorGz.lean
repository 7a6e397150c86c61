/- Contracts of the reference's add, collect, Names (walks; printed by gen/g8.py). Contracts of the reference's collect, Names (walks; printed by gen/g9.py). The contract of the reference's why (walk; printed by gen/g10.py). -/
import Derived.Test.YtmnhmkjmcckneaaGreatDoorG1
import Derived.Test.YtmnhmkjmcckneaaGreatDoorEh
import Derived.Test.YtmnhmkjmcckneaaGreatDoorEk
import Derived.Test.YtmnhmkjmcckneaaGreatDoorFz
import Derived.Deep.QuietTactic
namespace Go.Proofs.YtmnhmkjmcckneaaGreatDoor
open Go.RowKit
theorem addV_len (l : List Bs) (s : Bs) : (addV l s).length ≤ l.length + 1 := by
 induction l with
 | nil => simp [addV]
 | cons y r ih =>
  rw [addV]
  split
  · split
    · simp
    · simp
  · simp only [List.length_cons]; omega
/-- What add has of a list's first k ones. -/
def AddI (l : List Bs) (s : Bs) (k : Nat) (d : Bool) (acc : List Bs) : Prop := acc ++ (if d then l.drop k else addV (l.drop k) s) = addV l s
theorem addI_done {l : List Bs} {s : Bs} {k : Nat} {acc : List Bs} (h : AddI l s k true acc) (hk : k < l.length) : AddI l s (k + 1) true (acc ++ [l.getD k []]) := by
 unfold AddI at *
 rw [← h, if_pos rfl, if_pos rfl, List.drop_eq_getElem_cons hk]
 simp [List.getD_eq_getElem?_getD, hk]
theorem addI_step {l : List Bs} {s : Bs} {k : Nat} {acc : List Bs} (h : AddI l s k false acc) (hk : k < l.length) :
 (¬ s ≤ l.getD k [] → AddI l s (k + 1) false (acc ++ [l.getD k []])) ∧ (s ≤ l.getD k [] → s < l.getD k [] → AddI l s (k + 1) true ((acc ++ [s]) ++ [l.getD k []])) ∧ (s ≤ l.getD k [] → ¬ s < l.getD k [] → AddI l s (k + 1) true (acc ++ [l.getD k []])) := by
 unfold AddI at *
 have hd : l.drop k = l.getD k [] :: l.drop (k + 1) := by
  rw [List.drop_eq_getElem_cons hk]
  simp [List.getD_eq_getElem?_getD, hk]
 rw [if_neg (by simp), hd, addV] at h
 refine ⟨fun h1 => ?_, fun h1 h2 => ?_, fun h1 h2 => ?_⟩
 · rw [if_neg h1] at h; rw [← h, if_neg (by simp)]; simp
 · rw [if_pos h1, if_pos h2] at h; rw [← h, if_pos rfl]; simp
 · rw [if_pos h1, if_neg h2] at h; rw [← h, if_pos rfl]; simp
theorem strs_own {w : World} {B : Nat} {v : Value} {n : Nat} {l : List Bs} (h : w.ownsRow B 9 1 v n (l.map encStr)) (hn : n = l.length) (hl : l.length ≤ 1000000) : StrsM w v l := by
 subst hn
 obtain ⟨_, ⟨rfl, h0⟩ | ⟨g, cap, cur, rfl, _, hb, hcap, _, hs, htk⟩⟩ := h
 · exact ⟨none, 0, by rw [h0], hl, fun h => by omega⟩
 · refine ⟨_, cap, rfl, hl, fun _ => ⟨g, 0, rfl, fun i hi => ?_⟩⟩
   have hb' : Blk w g cur 9 := hb
   rw [Nat.zero_add, hb'.cell, ← Array.getElem?_toList]
   have e : (cur.toList.take (l.length * 1))[i]? = cur.toList[i]? := List.getElem?_take_of_lt (by omega)
   rw [← e, htk, List.getElem?_map, List.getElem?_eq_getElem hi]
   simp [List.getD_eq_getElem?_getD, List.getElem?_eq_getElem hi]
theorem cmp_str (s : ByteArray) (y : Bs) : Op.bytesLess s.toList y = decide (bts s < y) ∧ (s.toList == y) = decide (bts s = y) := by
 rw [bytesLess_eq, ByteArray.toList_eq]
 refine ⟨rfl, ?_⟩
 change (bts s == y) = _
 by_cases h : bts s = y
 · rw [decide_eq_true h, h]; simp
 · rw [decide_eq_false h]; simp [h]
set_option maxRecDepth 8000 in
set_option maxHeartbeats 4000000 in
theorem radd_any (v : Value) (l : List Bs) (s : ByteArray) (w : World) (hS : StrsM w v l) (hl : l.length < 1000000) : Calls Tryz.prog 157 #[v, .string s] w (NamesP (addV l (bts s)) w) := by
 obtain ⟨p, c, rfl, -, hat⟩ := hS
 have hal := addV_len l (bts s)
 have hfin := Lib.hid (fun (vv : Value) (acc : List Bs) (w2 : World) (h : w2.ownsRow w.heap.size 9 1 vv acc.length (acc.map encStr)) (he : acc = addV l (bts s)) (hE : Ext w w2) => show NamesP (addV l (bts s)) w (.returned vv) w2 from ⟨vv, rfl, by subst he; exact strs_own h rfl (by omega), hE⟩)
 replace hat := Lib.hid hat
 obtain ⟨i0, hi, hz0, hz1, hz2⟩ := info_partsE infoStrE
 replace hi := Lib.hid hi
 replace hz0 := Lib.hid hz0
 replace hz1 := Lib.hid hz1
 replace hz2 := Lib.hid hz2
 go_enter Tryz.func157, Tryz.ntmps157
 go_wp2_with fail
 go_loopw [5, 6, 7] (fun ov dv i wr => ∃ k : Nat, ∃ d : Bool, ∃ acc : List Bs, k ≤ l.length ∧ i = .int .i64 k ∧ dv = .bool d ∧ acc.length ≤ k + (if d then 1 else 0) ∧ wr.ownsRow w.heap.size 9 1 ov acc.length (acc.map encStr) ∧ AddI l (bts s) k d acc ∧ Ext w wr) (fun _ _ i _ => l.length - (intOf i).toNat)
 case atStart => exact ⟨0, false, [], Nat.zero_le _, rfl, rfl, by simp, ⟨rfl, Or.inl ⟨rfl, rfl⟩⟩, rfl, Ext.refl _⟩
 case round =>
  obtain ⟨k, d, acc, hk, rfl, rfl, hacc, hown, hI, hE⟩ := hrel
  by_cases hlt : k < l.length
  · obtain ⟨b, off, rfl, hc⟩ := hat.out (by omega)
    have c0 := hE.get (hc k hlt)
    have hbl : b < wr.heap.size := cell_lt c0
    have hD := Lib.hid (fun (h : d = true) => addI_done (by rw [h] at hI; exact hI) hlt)
    have hSt := Lib.hid (fun (h : d = false) => addI_step (by rw [h] at hI; exact hI) hlt)
    unfold encStr at c0
    clear hc hI
    generalize hye : l.getD k [] = y at *
    replace hye := Lib.hid hye
    replace hown := Lib.hid hown
    cases d with
    | true =>
     simp at hacc
     have hN := Lib.hid (hD.out rfl)
     clear hD hSt
     go_wp2_with (at_builtin; refine wpList_append_own _ rfl _ _ 125 rfl w.heap.size 9 i0 (.string ⟨#[]⟩) 1 16 Tryz.underlying125 hi.out hz0.out hz1.out hz2.out rfl (by decide) _ _ _ rfl (ownsRow_extE hown.out ((Ext.refl wr).alloc _)) ⟨wr.heap.size, 0, none⟩ 1 1 [.string ⟨y.toArray⟩] rfl rfl ?_ ?_ ?_ ?_ ?_ ?_)
     any_goals first
      | (intro j u hj; cases j with | zero => (simp at hj; subst hj; simp [go_sem, Addr.add]) | succ j => simp at hj)
      | (intro u hu; simp at hu; subst hu; rfl)
      | (unfold maxLen; omega)
      | omega
      | (have := hE.size; simp; omega)
      | (have := hE.size; omega)
      | rfl
     intro v5 w5 hown5 hgrow5 _
     have hE5 : Ext w w5 := Below.grown (hE.alloc _) hgrow5 (by have := hE.size; first | (simp; done) | (simp; omega)) (fun k hk => (hown.out.lt k hk).1)
     clear hgrow5 hown hE
     go_wp2
     go_roundw
     case rel => exact ⟨k + 1, true, acc ++ [y], by omega, by go_num, rfl, by simp; omega, by simpa [encStr] using hown5, hN.out, hE5⟩
     case measure => simp [intOf]; omega
    | false =>
     simp at hacc
     obtain ⟨s1, s2, s3⟩ := hSt.out rfl
     obtain ⟨b1, b2⟩ := cmp_str s y
     clear hD hSt
     by_cases q1 : bts s < y
     · have hN := Lib.hid (s2 (bs_le q1) q1)
       rw [decide_eq_true q1] at b1
       clear q1 s1 s2 s3 b2
       go_wp2_with (at_builtin; refine wpList_append_own _ rfl _ _ 125 rfl w.heap.size 9 i0 (.string ⟨#[]⟩) 1 16 Tryz.underlying125 hi.out hz0.out hz1.out hz2.out rfl (by decide) _ _ _ rfl (ownsRow_extE hown.out ((Ext.refl wr).alloc _)) ⟨wr.heap.size, 0, none⟩ 1 1 [.string s] rfl rfl ?_ ?_ ?_ ?_ ?_ ?_)
       any_goals first
        | (intro j u hj; cases j with | zero => (simp at hj; subst hj; simp [go_sem, Addr.add]) | succ j => simp at hj)
        | (intro u hu; simp at hu; subst hu; rfl)
        | (unfold maxLen; omega)
        | omega
        | (have := hE.size; simp; omega)
        | (have := hE.size; omega)
        | rfl
       intro v5 w5 hown5 hgrow5 _
       have hE5 : Ext w w5 := Below.grown (hE.alloc _) hgrow5 (by have := hE.size; first | (simp; done) | (simp; omega)) (fun k hk => (hown.out.lt k hk).1)
       obtain ⟨b2, off2, hpe, hcc⟩ := hat.out (by omega)
       cases hpe
       have c5 := hE5.get (hcc k hlt)
       rw [hye.out] at c5
       unfold encStr at c5
       have hbl5 := cell_lt c5
       simp only at hbl5
       replace hown5 := Lib.hid hown5
       clear hgrow5 hown hE c0 hbl hcc
       go_wp2_with (at_builtin; refine wpList_append_own _ rfl _ _ 125 rfl w.heap.size 9 i0 (.string ⟨#[]⟩) 1 16 Tryz.underlying125 hi.out hz0.out hz1.out hz2.out rfl (by decide) _ _ _ rfl (ownsRow_extE hown5.out ((Ext.refl w5).alloc _)) ⟨w5.heap.size, 0, none⟩ 1 1 [.string ⟨y.toArray⟩] rfl rfl ?_ ?_ ?_ ?_ ?_ ?_)
       any_goals first
        | (intro j u hj; cases j with | zero => (simp at hj; subst hj; simp [go_sem, Addr.add]) | succ j => simp at hj)
        | (intro u hu; simp at hu; subst hu; rfl)
        | (unfold maxLen; omega)
        | omega
        | (have := hE5.size; simp; omega)
        | (have := hE5.size; omega)
        | rfl
       intro v6 w6 hown6 hgrow6 _
       have hE6 : Ext w w6 := Below.grown (hE5.alloc _) hgrow6 (by have := hE5.size; first | (simp; done) | (simp; omega)) (fun k hk => (hown5.out.lt k hk).1)
       clear hgrow6 hown5 hE5
       go_wp2
       go_roundw
       case rel => exact ⟨k + 1, true, (acc ++ [bts s]) ++ [y], by omega, by go_num, rfl, by simp; omega, by simpa [encStr, enc_bts] using hown6, hN.out, hE6⟩
       case measure => simp [intOf]; omega
     · rw [decide_eq_false q1] at b1
       by_cases q2 : bts s = y
       · have hN := Lib.hid (s3 (by rw [q2]; exact List.le_refl _) q1)
         rw [decide_eq_true q2] at b2
         clear q1 s1 s2 s3 q2
         go_wp2_with (at_builtin; refine wpList_append_own _ rfl _ _ 125 rfl w.heap.size 9 i0 (.string ⟨#[]⟩) 1 16 Tryz.underlying125 hi.out hz0.out hz1.out hz2.out rfl (by decide) _ _ _ rfl (ownsRow_extE hown.out ((Ext.refl wr).alloc _)) ⟨wr.heap.size, 0, none⟩ 1 1 [.string ⟨y.toArray⟩] rfl rfl ?_ ?_ ?_ ?_ ?_ ?_)
         any_goals first
          | (intro j u hj; cases j with | zero => (simp at hj; subst hj; simp [go_sem, Addr.add]) | succ j => simp at hj)
          | (intro u hu; simp at hu; subst hu; rfl)
          | (unfold maxLen; omega)
          | omega
          | (have := hE.size; simp; omega)
          | (have := hE.size; omega)
          | rfl
         intro v5 w5 hown5 hgrow5 _
         have hE5 : Ext w w5 := Below.grown (hE.alloc _) hgrow5 (by have := hE.size; first | (simp; done) | (simp; omega)) (fun k hk => (hown.out.lt k hk).1)
         clear hgrow5 hown hE
         go_wp2
         go_roundw
         case rel => exact ⟨k + 1, true, acc ++ [y], by omega, by go_num, rfl, by simp; omega, by simpa [encStr] using hown5, hN.out, hE5⟩
         case measure => simp [intOf]; omega
       · have hN := Lib.hid (s1 (fun h => q1 (bs_lt_of h q2)))
         rw [decide_eq_false q2] at b2
         clear q1 s1 s2 s3 q2
         go_wp2_with (at_builtin; refine wpList_append_own _ rfl _ _ 125 rfl w.heap.size 9 i0 (.string ⟨#[]⟩) 1 16 Tryz.underlying125 hi.out hz0.out hz1.out hz2.out rfl (by decide) _ _ _ rfl (ownsRow_extE hown.out ((Ext.refl wr).alloc _)) ⟨wr.heap.size, 0, none⟩ 1 1 [.string ⟨y.toArray⟩] rfl rfl ?_ ?_ ?_ ?_ ?_ ?_)
         any_goals first
          | (intro j u hj; cases j with | zero => (simp at hj; subst hj; simp [go_sem, Addr.add]) | succ j => simp at hj)
          | (intro u hu; simp at hu; subst hu; rfl)
          | (unfold maxLen; omega)
          | omega
          | (have := hE.size; simp; omega)
          | (have := hE.size; omega)
          | rfl
         intro v5 w5 hown5 hgrow5 _
         have hE5 : Ext w w5 := Below.grown (hE.alloc _) hgrow5 (by have := hE.size; first | (simp; done) | (simp; omega)) (fun k hk => (hown.out.lt k hk).1)
         clear hgrow5 hown hE
         go_wp2
         go_roundw
         case rel => exact ⟨k + 1, false, acc ++ [y], by omega, by go_num, rfl, by simp; omega, by simpa [encStr] using hown5, hN.out, hE5⟩
         case measure => simp [intOf]; omega
  · have hk2 : k = l.length := by omega
    have hd : l.drop k = [] := by rw [hk2]; exact List.drop_length
    unfold AddI at hI
    rw [hd] at hI
    clear hd
    replace hown := Lib.hid hown
    cases d with
    | true =>
     simp at hacc
     have he := Lib.hid (show acc = addV l (bts s) by simpa using hI)
     clear hI hk2
     go_wp2
     go_ret
     exact hfin.out _ acc _ hown.out he.out hE
    | false =>
     simp at hacc
     have he := Lib.hid (show acc ++ [bts s] = addV l (bts s) by simpa [addV] using hI)
     clear hI hk2
     go_wp2_with (at_builtin; refine wpList_append_own _ rfl _ _ 125 rfl w.heap.size 9 i0 (.string ⟨#[]⟩) 1 16 Tryz.underlying125 hi.out hz0.out hz1.out hz2.out rfl (by decide) _ _ _ rfl (ownsRow_extE hown.out ((Ext.refl wr).alloc _)) ⟨wr.heap.size, 0, none⟩ 1 1 [.string s] rfl rfl ?_ ?_ ?_ ?_ ?_ ?_)
     any_goals first
      | (intro j u hj; cases j with | zero => (simp at hj; subst hj; simp [go_sem, Addr.add]) | succ j => simp at hj)
      | (intro u hu; simp at hu; subst hu; rfl)
      | (unfold maxLen; omega)
      | omega
      | (have := hE.size; simp; omega)
      | (have := hE.size; omega)
      | rfl
     intro v5 w5 hown5 hgrow5 _
     have hE5 : Ext w w5 := Below.grown (hE.alloc _) hgrow5 (by have := hE.size; first | (simp; done) | (simp; omega)) (fun k hk => (hown.out.lt k hk).1)
     go_wp2
     go_ret
     exact hfin.out _ (acc ++ [bts s]) _ (by simpa [enc_bts] using hown5) he.out hE5
end Go.Proofs.YtmnhmkjmcckneaaGreatDoor
namespace Go.Proofs.YtmnhmkjmcckneaaGreatDoor
open Go.RowKit
theorem foldA_len (xs : List Bs) : ∀ acc : List Bs, (xs.foldl addV acc).length ≤ acc.length + xs.length := by
 induction xs with
 | nil => intro acc; simp
 | cons s r ih =>
  intro acc
  have h1 := ih (addV acc s)
  have h2 := addV_len acc s
  rw [List.foldl_cons, List.length_cons]
  omega
/-- The names that collect adds of an expression. -/
def colV (c : Bool) (x : Ex) : List Bs := if c then x.wins else x.occ
def col1 (c : Bool) (x : Ex) : List Bs := if c then win1 x else occ1 x
theorem colV_mk (c : Bool) (op : Int) (nm tx : ByteArray) (n : Int) (args : List Ex) : colV c (.mk op nm tx n args) = col1 c (.mk op nm tx n args) ++ args.flatMap (colV c) := by
 cases c with
 | true => exact wins_mk op nm tx n args
 | false => exact occ_mk op nm tx n args
theorem colV_len (c : Bool) (x : Ex) : (colV c x).length ≤ x.parts.length := by
 cases c with
 | true =>
  show (x.parts.flatMap win1).length ≤ x.parts.length
  generalize x.parts = l
  induction l with
  | nil => simp
  | cons y r ih =>
   have h : (win1 y).length ≤ 1 := by unfold win1; split <;> simp
   simp only [List.flatMap_cons, List.length_append, List.length_cons]
   omega
 | false => exact occ_len _
theorem flat_snoc (c : Bool) (args : List Ex) (k : Nat) (hk : k < args.length) : (args.take (k + 1)).flatMap (colV c) = (args.take k).flatMap (colV c) ++ colV c (args.getD k exD) := by
 rw [take_snocD args exD k hk, List.flatMap_append]
 simp
theorem flat_len (c : Bool) : ∀ l : List Ex, (l.flatMap (colV c)).length ≤ (Ex.parts.partsL l).length
 | [] => by simp
 | x :: r => by
  have h1 := colV_len c x
  have h2 := flat_len c r
  simp only [List.flatMap_cons, List.length_append, Ex.parts.partsL]
  omega
theorem parts_take (args : List Ex) (k : Nat) : (Ex.parts.partsL (args.take k)).length ≤ (Ex.parts.partsL args).length := by
 have h : Ex.parts.partsL args = Ex.parts.partsL (args.take k) ++ Ex.parts.partsL (args.drop k) := by rw [← partsL_append, List.take_append_drop]
 rw [h, List.length_append]
 omega
set_option maxRecDepth 8000 in
set_option maxHeartbeats 4000000 in
theorem rcollect_any (c : Bool) {w : World} {v : Value} {l0 : List Ex} (h : ExS w v l0) : ∀ x : Ex, x.args = l0 → ∀ w', Ext w w' → ∀ (lv : Value) (ls : List Bs), StrsM w' lv ls → ls.length + x.parts.length ≤ 999999 → Calls Tryz.prog 131 #[lv, exAgg x v, .bool c] w' (NamesP ((colV c x).foldl addV ls) w') := by
 refine ExS.ind (P := fun x v => ∀ w', Ext w w' → ∀ (lv : Value) (ls : List Bs), StrsM w' lv ls → ls.length + x.parts.length ≤ 999999 → Calls Tryz.prog 131 #[lv, exAgg x v, .bool c] w' (NamesP ((colV c x).foldl addV ls) w')) ?_ h
 clear h
 intro x v hS hK w' hEx lv ls hls hpt
 obtain ⟨op, nm, tx, n, args⟩ := x
 obtain ⟨q, cp, rfl⟩ := hS.form
 have hlen := hS.len
 rw [parts_mk, List.length_cons] at hpt
 replace hK := Lib.hid hK
 simp only [Ex.args] at hK hlen ⊢
 rw [exAgg_mk, colV_mk, List.foldl_append]
 have kA := Lib.hid (fun w1 (h : StrsM w1 lv ls) => radd_any lv ls nm w1 h (by omega))
 unfold NamesP at kA
 obtain ⟨p0, c0, rfl, hls1, hls2⟩ := hls
 have hls := Lib.hid (show StrsM w' (.slice p0 ls.length c0) ls from ⟨p0, c0, rfl, hls1, hls2⟩)
 clear hS hls1 hls2
 obtain ⟨A, hA⟩ : ∃ A, A = (col1 c (.mk op nm tx n args)).foldl addV ls := ⟨_, rfl⟩
 have hAl : A.length ≤ ls.length + 1 := by
  rw [hA]
  refine Nat.le_trans (foldA_len _ _) ?_
  have : (col1 c (.mk op nm tx n args)).length ≤ 1 := by
   unfold col1 win1 occ1
   split
   · split <;> simp
   · split <;> simp
  omega
 rw [← hA]
 have hfl := fun k => Nat.le_trans (foldA_len ((args.take k).flatMap (colV c)) A) (Nat.add_le_add_left (Nat.le_trans (flat_len c _) (parts_take args k)) _)
 replace hfl := Lib.hid hfl
 cases c with
 | false =>
  by_cases hop : op = 3 ∨ op = 16 ∨ op = 17
  · have hA2 : A = addV ls (bts nm) := by rw [hA, show col1 false (.mk op nm tx n args) = [bts nm] by simp [col1, occ1, Ex.op, Ex.name, hop]]; rfl
    rcases hop with rfl | rfl | rfl
    · skip
      skip
      clear hA
      go_enter Tryz.func131, Tryz.ntmps131
      go_wp2_with fail
      have hb0 := Blk.new w' #[.int .i64 3, .string nm, .string tx, .int .i64 n, .slice q args.length cp] 54
      refine (kA.out _ (hls.out.ext ((Ext.refl _).alloc _))).mono ?_
      rintro e w0 ⟨nv, rfl, hnv, hE1⟩
      rw [← hA2] at hnv
      have hst := Lib.hid hnv
      have hE0 : Ext w' w0 := Ext.trans ((Ext.refl _).alloc _) hE1
      replace hb0 := Lib.hid (hb0.ext hE1)
      clear hE1 kA hnv hA2
      go_wp2_with fail
      go_loopw [0, 7] (fun lw i wr => ∃ k : Nat, ∃ cur : List Bs, k ≤ args.length ∧ i = .int .i64 k ∧ StrsM wr lw cur ∧ cur = ((args.take k).flatMap (colV false)).foldl addV A ∧ Ext w0 wr) (fun _ i _ => args.length - (intOf i).toNat)
      case atStart => exact ⟨0, A, Nat.zero_le _, rfl, hst.out, rfl, Ext.refl _⟩
      case round =>
       obtain ⟨k, cur, hk, rfl, hcur, hce, hEr⟩ := hrel
       have x4 : wr.cell? ⟨w'.heap.size, 4, none⟩ = some (.slice q args.length cp) := ((hb0.out.ext hEr).cell 4).trans rfl
       have hcl : cur.length ≤ A.length + (Ex.parts.partsL args).length := by rw [hce]; exact hfl.out k
       by_cases hlt : k < args.length
       · obtain ⟨b, off, rfl, sv, hkid⟩ := hK.out _ _ rfl (by omega)
         obtain ⟨hc, hsu, hP⟩ := hkid k hlt
         have hform := hsu.form
         have hEw := hEx.trans (hE0.trans hEr)
         obtain ⟨d0, d1, d2, d3, d4⟩ := (hc.ext hEw).five
         have hpy := partsL_len args k hlt
         have hcl2 : cur.length + (args.getD k exD).parts.length ≤ 999999 := by
          have h1 := foldA_len ((args.take k).flatMap (colV false)) A
          have h2 := flat_len false (args.take k)
          rw [← hce] at h1
          omega
         have hnx := Lib.hid (show (colV false (args.getD k exD)).foldl addV cur = ((args.take (k + 1)).flatMap (colV false)).foldl addV A by rw [flat_snoc false args k hlt, List.foldl_append, hce])
         replace hP := Lib.hid (hP _ hEw _ cur hcur hcl2)
         obtain ⟨p1, e1, rfl, -, -⟩ := hcur
         unfold NamesP at hP
         clear hc hkid hsu hce hcl2 hpy
         generalize args.getD k exD = y at *
         generalize (colV false y).foldl addV cur = nw at *
         generalize sv k = u at *
         obtain ⟨uq, uc, rfl⟩ := hform
         go_wp2_with fail
         refine hP.out.mono ?_
         rintro e w3 ⟨nv, rfl, hnv, hE3⟩
         replace hEr := hEr.trans hE3
         clear d0 d1 d2 d3 d4 x4 hEw hE3
         replace hnv := Lib.hid hnv
         go_wp2
         go_roundw
         case rel => exact ⟨k + 1, nw, by omega, by go_num, hnv.out, hnx.out, hEr⟩
         case measure => simp [intOf]; omega
       · have hkk : args.take k = args := List.take_of_length_le (by omega)
         rw [hkk] at hce
         have hce := Lib.hid hce
         obtain ⟨p1, e1, rfl, h1, h2⟩ := hcur
         have hcur := Lib.hid (show StrsM wr (.slice p1 cur.length e1) cur from ⟨p1, e1, rfl, h1, h2⟩)
         have hE9 := hE0.trans hEr
         clear hkk h1 h2
         go_wp2
         go_ret
         exact ⟨_, rfl, by rw [← hce.out]; exact hcur.out, hE9⟩
    · skip
      skip
      clear hA
      go_enter Tryz.func131, Tryz.ntmps131
      go_wp2_with fail
      have hb0 := Blk.new w' #[.int .i64 16, .string nm, .string tx, .int .i64 n, .slice q args.length cp] 54
      refine (kA.out _ (hls.out.ext ((Ext.refl _).alloc _))).mono ?_
      rintro e w0 ⟨nv, rfl, hnv, hE1⟩
      rw [← hA2] at hnv
      have hst := Lib.hid hnv
      have hE0 : Ext w' w0 := Ext.trans ((Ext.refl _).alloc _) hE1
      replace hb0 := Lib.hid (hb0.ext hE1)
      clear hE1 kA hnv hA2
      go_wp2_with fail
      go_loopw [0, 7] (fun lw i wr => ∃ k : Nat, ∃ cur : List Bs, k ≤ args.length ∧ i = .int .i64 k ∧ StrsM wr lw cur ∧ cur = ((args.take k).flatMap (colV false)).foldl addV A ∧ Ext w0 wr) (fun _ i _ => args.length - (intOf i).toNat)
      case atStart => exact ⟨0, A, Nat.zero_le _, rfl, hst.out, rfl, Ext.refl _⟩
      case round =>
       obtain ⟨k, cur, hk, rfl, hcur, hce, hEr⟩ := hrel
       have x4 : wr.cell? ⟨w'.heap.size, 4, none⟩ = some (.slice q args.length cp) := ((hb0.out.ext hEr).cell 4).trans rfl
       have hcl : cur.length ≤ A.length + (Ex.parts.partsL args).length := by rw [hce]; exact hfl.out k
       by_cases hlt : k < args.length
       · obtain ⟨b, off, rfl, sv, hkid⟩ := hK.out _ _ rfl (by omega)
         obtain ⟨hc, hsu, hP⟩ := hkid k hlt
         have hform := hsu.form
         have hEw := hEx.trans (hE0.trans hEr)
         obtain ⟨d0, d1, d2, d3, d4⟩ := (hc.ext hEw).five
         have hpy := partsL_len args k hlt
         have hcl2 : cur.length + (args.getD k exD).parts.length ≤ 999999 := by
          have h1 := foldA_len ((args.take k).flatMap (colV false)) A
          have h2 := flat_len false (args.take k)
          rw [← hce] at h1
          omega
         have hnx := Lib.hid (show (colV false (args.getD k exD)).foldl addV cur = ((args.take (k + 1)).flatMap (colV false)).foldl addV A by rw [flat_snoc false args k hlt, List.foldl_append, hce])
         replace hP := Lib.hid (hP _ hEw _ cur hcur hcl2)
         obtain ⟨p1, e1, rfl, -, -⟩ := hcur
         unfold NamesP at hP
         clear hc hkid hsu hce hcl2 hpy
         generalize args.getD k exD = y at *
         generalize (colV false y).foldl addV cur = nw at *
         generalize sv k = u at *
         obtain ⟨uq, uc, rfl⟩ := hform
         go_wp2_with fail
         refine hP.out.mono ?_
         rintro e w3 ⟨nv, rfl, hnv, hE3⟩
         replace hEr := hEr.trans hE3
         clear d0 d1 d2 d3 d4 x4 hEw hE3
         replace hnv := Lib.hid hnv
         go_wp2
         go_roundw
         case rel => exact ⟨k + 1, nw, by omega, by go_num, hnv.out, hnx.out, hEr⟩
         case measure => simp [intOf]; omega
       · have hkk : args.take k = args := List.take_of_length_le (by omega)
         rw [hkk] at hce
         have hce := Lib.hid hce
         obtain ⟨p1, e1, rfl, h1, h2⟩ := hcur
         have hcur := Lib.hid (show StrsM wr (.slice p1 cur.length e1) cur from ⟨p1, e1, rfl, h1, h2⟩)
         have hE9 := hE0.trans hEr
         clear hkk h1 h2
         go_wp2
         go_ret
         exact ⟨_, rfl, by rw [← hce.out]; exact hcur.out, hE9⟩
    · skip
      skip
      clear hA
      go_enter Tryz.func131, Tryz.ntmps131
      go_wp2_with fail
      have hb0 := Blk.new w' #[.int .i64 17, .string nm, .string tx, .int .i64 n, .slice q args.length cp] 54
      refine (kA.out _ (hls.out.ext ((Ext.refl _).alloc _))).mono ?_
      rintro e w0 ⟨nv, rfl, hnv, hE1⟩
      rw [← hA2] at hnv
      have hst := Lib.hid hnv
      have hE0 : Ext w' w0 := Ext.trans ((Ext.refl _).alloc _) hE1
      replace hb0 := Lib.hid (hb0.ext hE1)
      clear hE1 kA hnv hA2
      go_wp2_with fail
      go_loopw [0, 7] (fun lw i wr => ∃ k : Nat, ∃ cur : List Bs, k ≤ args.length ∧ i = .int .i64 k ∧ StrsM wr lw cur ∧ cur = ((args.take k).flatMap (colV false)).foldl addV A ∧ Ext w0 wr) (fun _ i _ => args.length - (intOf i).toNat)
      case atStart => exact ⟨0, A, Nat.zero_le _, rfl, hst.out, rfl, Ext.refl _⟩
      case round =>
       obtain ⟨k, cur, hk, rfl, hcur, hce, hEr⟩ := hrel
       have x4 : wr.cell? ⟨w'.heap.size, 4, none⟩ = some (.slice q args.length cp) := ((hb0.out.ext hEr).cell 4).trans rfl
       have hcl : cur.length ≤ A.length + (Ex.parts.partsL args).length := by rw [hce]; exact hfl.out k
       by_cases hlt : k < args.length
       · obtain ⟨b, off, rfl, sv, hkid⟩ := hK.out _ _ rfl (by omega)
         obtain ⟨hc, hsu, hP⟩ := hkid k hlt
         have hform := hsu.form
         have hEw := hEx.trans (hE0.trans hEr)
         obtain ⟨d0, d1, d2, d3, d4⟩ := (hc.ext hEw).five
         have hpy := partsL_len args k hlt
         have hcl2 : cur.length + (args.getD k exD).parts.length ≤ 999999 := by
          have h1 := foldA_len ((args.take k).flatMap (colV false)) A
          have h2 := flat_len false (args.take k)
          rw [← hce] at h1
          omega
         have hnx := Lib.hid (show (colV false (args.getD k exD)).foldl addV cur = ((args.take (k + 1)).flatMap (colV false)).foldl addV A by rw [flat_snoc false args k hlt, List.foldl_append, hce])
         replace hP := Lib.hid (hP _ hEw _ cur hcur hcl2)
         obtain ⟨p1, e1, rfl, -, -⟩ := hcur
         unfold NamesP at hP
         clear hc hkid hsu hce hcl2 hpy
         generalize args.getD k exD = y at *
         generalize (colV false y).foldl addV cur = nw at *
         generalize sv k = u at *
         obtain ⟨uq, uc, rfl⟩ := hform
         go_wp2_with fail
         refine hP.out.mono ?_
         rintro e w3 ⟨nv, rfl, hnv, hE3⟩
         replace hEr := hEr.trans hE3
         clear d0 d1 d2 d3 d4 x4 hEw hE3
         replace hnv := Lib.hid hnv
         go_wp2
         go_roundw
         case rel => exact ⟨k + 1, nw, by omega, by go_num, hnv.out, hnx.out, hEr⟩
         case measure => simp [intOf]; omega
       · have hkk : args.take k = args := List.take_of_length_le (by omega)
         rw [hkk] at hce
         have hce := Lib.hid hce
         obtain ⟨p1, e1, rfl, h1, h2⟩ := hcur
         have hcur := Lib.hid (show StrsM wr (.slice p1 cur.length e1) cur from ⟨p1, e1, rfl, h1, h2⟩)
         have hE9 := hE0.trans hEr
         clear hkk h1 h2
         go_wp2
         go_ret
         exact ⟨_, rfl, by rw [← hce.out]; exact hcur.out, hE9⟩
  · have hA2 : A = ls := by rw [hA, show col1 false (.mk op nm tx n args) = [] by simp [col1, occ1, Ex.op, hop]]; rfl
    have o3 : (op == 3) = false := by simp; omega
    have o16 : (op == 16) = false := by simp; omega
    have o17 : (op == 17) = false := by simp; omega
    clear hop
    skip
    have hst := Lib.hid (show StrsM (w'.alloc (.cells #[.int .i64 op, .string nm, .string tx, .int .i64 n, .slice q args.length cp] 54)) (.slice p0 ls.length c0) A by rw [hA2]; exact hls.out.ext ((Ext.refl _).alloc _))
    clear hA hA2 kA
    go_enter Tryz.func131, Tryz.ntmps131
    go_wp2_with fail
    have hb0 := Blk.new w' #[.int .i64 op, .string nm, .string tx, .int .i64 n, .slice q args.length cp] 54
    have hE0 : Ext w' (w'.alloc (.cells #[.int .i64 op, .string nm, .string tx, .int .i64 n, .slice q args.length cp] 54)) := xt
    generalize w'.alloc (.cells #[.int .i64 op, .string nm, .string tx, .int .i64 n, .slice q args.length cp] 54) = w0 at *
    replace hb0 := Lib.hid hb0
    go_loopw [0, 7] (fun lw i wr => ∃ k : Nat, ∃ cur : List Bs, k ≤ args.length ∧ i = .int .i64 k ∧ StrsM wr lw cur ∧ cur = ((args.take k).flatMap (colV false)).foldl addV A ∧ Ext w0 wr) (fun _ i _ => args.length - (intOf i).toNat)
    case atStart => exact ⟨0, A, Nat.zero_le _, rfl, hst.out, rfl, Ext.refl _⟩
    case round =>
     obtain ⟨k, cur, hk, rfl, hcur, hce, hEr⟩ := hrel
     have x4 : wr.cell? ⟨w'.heap.size, 4, none⟩ = some (.slice q args.length cp) := ((hb0.out.ext hEr).cell 4).trans rfl
     have hcl : cur.length ≤ A.length + (Ex.parts.partsL args).length := by rw [hce]; exact hfl.out k
     by_cases hlt : k < args.length
     · obtain ⟨b, off, rfl, sv, hkid⟩ := hK.out _ _ rfl (by omega)
       obtain ⟨hc, hsu, hP⟩ := hkid k hlt
       have hform := hsu.form
       have hEw := hEx.trans (hE0.trans hEr)
       obtain ⟨d0, d1, d2, d3, d4⟩ := (hc.ext hEw).five
       have hpy := partsL_len args k hlt
       have hcl2 : cur.length + (args.getD k exD).parts.length ≤ 999999 := by
        have h1 := foldA_len ((args.take k).flatMap (colV false)) A
        have h2 := flat_len false (args.take k)
        rw [← hce] at h1
        omega
       have hnx := Lib.hid (show (colV false (args.getD k exD)).foldl addV cur = ((args.take (k + 1)).flatMap (colV false)).foldl addV A by rw [flat_snoc false args k hlt, List.foldl_append, hce])
       replace hP := Lib.hid (hP _ hEw _ cur hcur hcl2)
       obtain ⟨p1, e1, rfl, -, -⟩ := hcur
       unfold NamesP at hP
       clear hc hkid hsu hce hcl2 hpy
       generalize args.getD k exD = y at *
       generalize (colV false y).foldl addV cur = nw at *
       generalize sv k = u at *
       obtain ⟨uq, uc, rfl⟩ := hform
       go_wp2_with fail
       refine hP.out.mono ?_
       rintro e w3 ⟨nv, rfl, hnv, hE3⟩
       replace hEr := hEr.trans hE3
       clear d0 d1 d2 d3 d4 x4 hEw hE3
       replace hnv := Lib.hid hnv
       go_wp2
       go_roundw
       case rel => exact ⟨k + 1, nw, by omega, by go_num, hnv.out, hnx.out, hEr⟩
       case measure => simp [intOf]; omega
     · have hkk : args.take k = args := List.take_of_length_le (by omega)
       rw [hkk] at hce
       have hce := Lib.hid hce
       obtain ⟨p1, e1, rfl, h1, h2⟩ := hcur
       have hcur := Lib.hid (show StrsM wr (.slice p1 cur.length e1) cur from ⟨p1, e1, rfl, h1, h2⟩)
       have hE9 := hE0.trans hEr
       clear hkk h1 h2
       go_wp2
       go_ret
       exact ⟨_, rfl, by rw [← hce.out]; exact hcur.out, hE9⟩
 | true =>
  by_cases hop : op = 16 ∨ op = 17
  · have hA2 : A = addV ls (bts nm) := by rw [hA, show col1 true (.mk op nm tx n args) = [bts nm] by simp [col1, win1, Ex.op, Ex.name, hop]]; rfl
    rcases hop with rfl | rfl
    · skip
      skip
      clear hA
      go_enter Tryz.func131, Tryz.ntmps131
      go_wp2_with fail
      have hb0 := Blk.new w' #[.int .i64 16, .string nm, .string tx, .int .i64 n, .slice q args.length cp] 54
      refine (kA.out _ (hls.out.ext ((Ext.refl _).alloc _))).mono ?_
      rintro e w0 ⟨nv, rfl, hnv, hE1⟩
      rw [← hA2] at hnv
      have hst := Lib.hid hnv
      have hE0 : Ext w' w0 := Ext.trans ((Ext.refl _).alloc _) hE1
      replace hb0 := Lib.hid (hb0.ext hE1)
      clear hE1 kA hnv hA2
      go_wp2_with fail
      go_loopw [0, 7] (fun lw i wr => ∃ k : Nat, ∃ cur : List Bs, k ≤ args.length ∧ i = .int .i64 k ∧ StrsM wr lw cur ∧ cur = ((args.take k).flatMap (colV true)).foldl addV A ∧ Ext w0 wr) (fun _ i _ => args.length - (intOf i).toNat)
      case atStart => exact ⟨0, A, Nat.zero_le _, rfl, hst.out, rfl, Ext.refl _⟩
      case round =>
       obtain ⟨k, cur, hk, rfl, hcur, hce, hEr⟩ := hrel
       have x4 : wr.cell? ⟨w'.heap.size, 4, none⟩ = some (.slice q args.length cp) := ((hb0.out.ext hEr).cell 4).trans rfl
       have hcl : cur.length ≤ A.length + (Ex.parts.partsL args).length := by rw [hce]; exact hfl.out k
       by_cases hlt : k < args.length
       · obtain ⟨b, off, rfl, sv, hkid⟩ := hK.out _ _ rfl (by omega)
         obtain ⟨hc, hsu, hP⟩ := hkid k hlt
         have hform := hsu.form
         have hEw := hEx.trans (hE0.trans hEr)
         obtain ⟨d0, d1, d2, d3, d4⟩ := (hc.ext hEw).five
         have hpy := partsL_len args k hlt
         have hcl2 : cur.length + (args.getD k exD).parts.length ≤ 999999 := by
          have h1 := foldA_len ((args.take k).flatMap (colV true)) A
          have h2 := flat_len true (args.take k)
          rw [← hce] at h1
          omega
         have hnx := Lib.hid (show (colV true (args.getD k exD)).foldl addV cur = ((args.take (k + 1)).flatMap (colV true)).foldl addV A by rw [flat_snoc true args k hlt, List.foldl_append, hce])
         replace hP := Lib.hid (hP _ hEw _ cur hcur hcl2)
         obtain ⟨p1, e1, rfl, -, -⟩ := hcur
         unfold NamesP at hP
         clear hc hkid hsu hce hcl2 hpy
         generalize args.getD k exD = y at *
         generalize (colV true y).foldl addV cur = nw at *
         generalize sv k = u at *
         obtain ⟨uq, uc, rfl⟩ := hform
         go_wp2_with fail
         refine hP.out.mono ?_
         rintro e w3 ⟨nv, rfl, hnv, hE3⟩
         replace hEr := hEr.trans hE3
         clear d0 d1 d2 d3 d4 x4 hEw hE3
         replace hnv := Lib.hid hnv
         go_wp2
         go_roundw
         case rel => exact ⟨k + 1, nw, by omega, by go_num, hnv.out, hnx.out, hEr⟩
         case measure => simp [intOf]; omega
       · have hkk : args.take k = args := List.take_of_length_le (by omega)
         rw [hkk] at hce
         have hce := Lib.hid hce
         obtain ⟨p1, e1, rfl, h1, h2⟩ := hcur
         have hcur := Lib.hid (show StrsM wr (.slice p1 cur.length e1) cur from ⟨p1, e1, rfl, h1, h2⟩)
         have hE9 := hE0.trans hEr
         clear hkk h1 h2
         go_wp2
         go_ret
         exact ⟨_, rfl, by rw [← hce.out]; exact hcur.out, hE9⟩
    · skip
      skip
      clear hA
      go_enter Tryz.func131, Tryz.ntmps131
      go_wp2_with fail
      have hb0 := Blk.new w' #[.int .i64 17, .string nm, .string tx, .int .i64 n, .slice q args.length cp] 54
      refine (kA.out _ (hls.out.ext ((Ext.refl _).alloc _))).mono ?_
      rintro e w0 ⟨nv, rfl, hnv, hE1⟩
      rw [← hA2] at hnv
      have hst := Lib.hid hnv
      have hE0 : Ext w' w0 := Ext.trans ((Ext.refl _).alloc _) hE1
      replace hb0 := Lib.hid (hb0.ext hE1)
      clear hE1 kA hnv hA2
      go_wp2_with fail
      go_loopw [0, 7] (fun lw i wr => ∃ k : Nat, ∃ cur : List Bs, k ≤ args.length ∧ i = .int .i64 k ∧ StrsM wr lw cur ∧ cur = ((args.take k).flatMap (colV true)).foldl addV A ∧ Ext w0 wr) (fun _ i _ => args.length - (intOf i).toNat)
      case atStart => exact ⟨0, A, Nat.zero_le _, rfl, hst.out, rfl, Ext.refl _⟩
      case round =>
       obtain ⟨k, cur, hk, rfl, hcur, hce, hEr⟩ := hrel
       have x4 : wr.cell? ⟨w'.heap.size, 4, none⟩ = some (.slice q args.length cp) := ((hb0.out.ext hEr).cell 4).trans rfl
       have hcl : cur.length ≤ A.length + (Ex.parts.partsL args).length := by rw [hce]; exact hfl.out k
       by_cases hlt : k < args.length
       · obtain ⟨b, off, rfl, sv, hkid⟩ := hK.out _ _ rfl (by omega)
         obtain ⟨hc, hsu, hP⟩ := hkid k hlt
         have hform := hsu.form
         have hEw := hEx.trans (hE0.trans hEr)
         obtain ⟨d0, d1, d2, d3, d4⟩ := (hc.ext hEw).five
         have hpy := partsL_len args k hlt
         have hcl2 : cur.length + (args.getD k exD).parts.length ≤ 999999 := by
          have h1 := foldA_len ((args.take k).flatMap (colV true)) A
          have h2 := flat_len true (args.take k)
          rw [← hce] at h1
          omega
         have hnx := Lib.hid (show (colV true (args.getD k exD)).foldl addV cur = ((args.take (k + 1)).flatMap (colV true)).foldl addV A by rw [flat_snoc true args k hlt, List.foldl_append, hce])
         replace hP := Lib.hid (hP _ hEw _ cur hcur hcl2)
         obtain ⟨p1, e1, rfl, -, -⟩ := hcur
         unfold NamesP at hP
         clear hc hkid hsu hce hcl2 hpy
         generalize args.getD k exD = y at *
         generalize (colV true y).foldl addV cur = nw at *
         generalize sv k = u at *
         obtain ⟨uq, uc, rfl⟩ := hform
         go_wp2_with fail
         refine hP.out.mono ?_
         rintro e w3 ⟨nv, rfl, hnv, hE3⟩
         replace hEr := hEr.trans hE3
         clear d0 d1 d2 d3 d4 x4 hEw hE3
         replace hnv := Lib.hid hnv
         go_wp2
         go_roundw
         case rel => exact ⟨k + 1, nw, by omega, by go_num, hnv.out, hnx.out, hEr⟩
         case measure => simp [intOf]; omega
       · have hkk : args.take k = args := List.take_of_length_le (by omega)
         rw [hkk] at hce
         have hce := Lib.hid hce
         obtain ⟨p1, e1, rfl, h1, h2⟩ := hcur
         have hcur := Lib.hid (show StrsM wr (.slice p1 cur.length e1) cur from ⟨p1, e1, rfl, h1, h2⟩)
         have hE9 := hE0.trans hEr
         clear hkk h1 h2
         go_wp2
         go_ret
         exact ⟨_, rfl, by rw [← hce.out]; exact hcur.out, hE9⟩
  · have hA2 : A = ls := by rw [hA, show col1 true (.mk op nm tx n args) = [] by simp [col1, win1, Ex.op, hop]]; rfl
    have o16 : (op == 16) = false := by simp; omega
    have o17 : (op == 17) = false := by simp; omega
    clear hop
    by_cases hop : op = 3
    · subst hop
      skip
      have hst := Lib.hid (show StrsM (w'.alloc (.cells #[.int .i64 3, .string nm, .string tx, .int .i64 n, .slice q args.length cp] 54)) (.slice p0 ls.length c0) A by rw [hA2]; exact hls.out.ext ((Ext.refl _).alloc _))
      clear hA hA2 kA
      go_enter Tryz.func131, Tryz.ntmps131
      go_wp2_with fail
      have hb0 := Blk.new w' #[.int .i64 3, .string nm, .string tx, .int .i64 n, .slice q args.length cp] 54
      have hE0 : Ext w' (w'.alloc (.cells #[.int .i64 3, .string nm, .string tx, .int .i64 n, .slice q args.length cp] 54)) := xt
      generalize w'.alloc (.cells #[.int .i64 3, .string nm, .string tx, .int .i64 n, .slice q args.length cp] 54) = w0 at *
      replace hb0 := Lib.hid hb0
      go_loopw [0, 7] (fun lw i wr => ∃ k : Nat, ∃ cur : List Bs, k ≤ args.length ∧ i = .int .i64 k ∧ StrsM wr lw cur ∧ cur = ((args.take k).flatMap (colV true)).foldl addV A ∧ Ext w0 wr) (fun _ i _ => args.length - (intOf i).toNat)
      case atStart => exact ⟨0, A, Nat.zero_le _, rfl, hst.out, rfl, Ext.refl _⟩
      case round =>
       obtain ⟨k, cur, hk, rfl, hcur, hce, hEr⟩ := hrel
       have x4 : wr.cell? ⟨w'.heap.size, 4, none⟩ = some (.slice q args.length cp) := ((hb0.out.ext hEr).cell 4).trans rfl
       have hcl : cur.length ≤ A.length + (Ex.parts.partsL args).length := by rw [hce]; exact hfl.out k
       by_cases hlt : k < args.length
       · obtain ⟨b, off, rfl, sv, hkid⟩ := hK.out _ _ rfl (by omega)
         obtain ⟨hc, hsu, hP⟩ := hkid k hlt
         have hform := hsu.form
         have hEw := hEx.trans (hE0.trans hEr)
         obtain ⟨d0, d1, d2, d3, d4⟩ := (hc.ext hEw).five
         have hpy := partsL_len args k hlt
         have hcl2 : cur.length + (args.getD k exD).parts.length ≤ 999999 := by
          have h1 := foldA_len ((args.take k).flatMap (colV true)) A
          have h2 := flat_len true (args.take k)
          rw [← hce] at h1
          omega
         have hnx := Lib.hid (show (colV true (args.getD k exD)).foldl addV cur = ((args.take (k + 1)).flatMap (colV true)).foldl addV A by rw [flat_snoc true args k hlt, List.foldl_append, hce])
         replace hP := Lib.hid (hP _ hEw _ cur hcur hcl2)
         obtain ⟨p1, e1, rfl, -, -⟩ := hcur
         unfold NamesP at hP
         clear hc hkid hsu hce hcl2 hpy
         generalize args.getD k exD = y at *
         generalize (colV true y).foldl addV cur = nw at *
         generalize sv k = u at *
         obtain ⟨uq, uc, rfl⟩ := hform
         go_wp2_with fail
         refine hP.out.mono ?_
         rintro e w3 ⟨nv, rfl, hnv, hE3⟩
         replace hEr := hEr.trans hE3
         clear d0 d1 d2 d3 d4 x4 hEw hE3
         replace hnv := Lib.hid hnv
         go_wp2
         go_roundw
         case rel => exact ⟨k + 1, nw, by omega, by go_num, hnv.out, hnx.out, hEr⟩
         case measure => simp [intOf]; omega
       · have hkk : args.take k = args := List.take_of_length_le (by omega)
         rw [hkk] at hce
         have hce := Lib.hid hce
         obtain ⟨p1, e1, rfl, h1, h2⟩ := hcur
         have hcur := Lib.hid (show StrsM wr (.slice p1 cur.length e1) cur from ⟨p1, e1, rfl, h1, h2⟩)
         have hE9 := hE0.trans hEr
         clear hkk h1 h2
         go_wp2
         go_ret
         exact ⟨_, rfl, by rw [← hce.out]; exact hcur.out, hE9⟩
    · have o3 : (op == 3) = false := by simpa using hop
      clear hop
      skip
      have hst := Lib.hid (show StrsM (w'.alloc (.cells #[.int .i64 op, .string nm, .string tx, .int .i64 n, .slice q args.length cp] 54)) (.slice p0 ls.length c0) A by rw [hA2]; exact hls.out.ext ((Ext.refl _).alloc _))
      clear hA hA2 kA
      go_enter Tryz.func131, Tryz.ntmps131
      go_wp2_with fail
      have hb0 := Blk.new w' #[.int .i64 op, .string nm, .string tx, .int .i64 n, .slice q args.length cp] 54
      have hE0 : Ext w' (w'.alloc (.cells #[.int .i64 op, .string nm, .string tx, .int .i64 n, .slice q args.length cp] 54)) := xt
      generalize w'.alloc (.cells #[.int .i64 op, .string nm, .string tx, .int .i64 n, .slice q args.length cp] 54) = w0 at *
      replace hb0 := Lib.hid hb0
      go_loopw [0, 7] (fun lw i wr => ∃ k : Nat, ∃ cur : List Bs, k ≤ args.length ∧ i = .int .i64 k ∧ StrsM wr lw cur ∧ cur = ((args.take k).flatMap (colV true)).foldl addV A ∧ Ext w0 wr) (fun _ i _ => args.length - (intOf i).toNat)
      case atStart => exact ⟨0, A, Nat.zero_le _, rfl, hst.out, rfl, Ext.refl _⟩
      case round =>
       obtain ⟨k, cur, hk, rfl, hcur, hce, hEr⟩ := hrel
       have x4 : wr.cell? ⟨w'.heap.size, 4, none⟩ = some (.slice q args.length cp) := ((hb0.out.ext hEr).cell 4).trans rfl
       have hcl : cur.length ≤ A.length + (Ex.parts.partsL args).length := by rw [hce]; exact hfl.out k
       by_cases hlt : k < args.length
       · obtain ⟨b, off, rfl, sv, hkid⟩ := hK.out _ _ rfl (by omega)
         obtain ⟨hc, hsu, hP⟩ := hkid k hlt
         have hform := hsu.form
         have hEw := hEx.trans (hE0.trans hEr)
         obtain ⟨d0, d1, d2, d3, d4⟩ := (hc.ext hEw).five
         have hpy := partsL_len args k hlt
         have hcl2 : cur.length + (args.getD k exD).parts.length ≤ 999999 := by
          have h1 := foldA_len ((args.take k).flatMap (colV true)) A
          have h2 := flat_len true (args.take k)
          rw [← hce] at h1
          omega
         have hnx := Lib.hid (show (colV true (args.getD k exD)).foldl addV cur = ((args.take (k + 1)).flatMap (colV true)).foldl addV A by rw [flat_snoc true args k hlt, List.foldl_append, hce])
         replace hP := Lib.hid (hP _ hEw _ cur hcur hcl2)
         obtain ⟨p1, e1, rfl, -, -⟩ := hcur
         unfold NamesP at hP
         clear hc hkid hsu hce hcl2 hpy
         generalize args.getD k exD = y at *
         generalize (colV true y).foldl addV cur = nw at *
         generalize sv k = u at *
         obtain ⟨uq, uc, rfl⟩ := hform
         go_wp2_with fail
         refine hP.out.mono ?_
         rintro e w3 ⟨nv, rfl, hnv, hE3⟩
         replace hEr := hEr.trans hE3
         clear d0 d1 d2 d3 d4 x4 hEw hE3
         replace hnv := Lib.hid hnv
         go_wp2
         go_roundw
         case rel => exact ⟨k + 1, nw, by omega, by go_num, hnv.out, hnx.out, hEr⟩
         case measure => simp [intOf]; omega
       · have hkk : args.take k = args := List.take_of_length_le (by omega)
         rw [hkk] at hce
         have hce := Lib.hid hce
         obtain ⟨p1, e1, rfl, h1, h2⟩ := hcur
         have hcur := Lib.hid (show StrsM wr (.slice p1 cur.length e1) cur from ⟨p1, e1, rfl, h1, h2⟩)
         have hE9 := hE0.trans hEr
         clear hkk h1 h2
         go_wp2
         go_ret
         exact ⟨_, rfl, by rw [← hce.out]; exact hcur.out, hE9⟩
theorem strs_nil (w : World) : StrsM w (.slice none 0 0) [] := ⟨none, 0, rfl, by simp, fun h => absurd h (by simp)⟩
set_option maxRecDepth 8000 in
theorem rNames_any {w : World} {v : Value} (x : Ex) (hS : ExS w v x.args) (hp : x.parts.length ≤ 999999) : Calls Tryz.prog 97 #[exAgg x v] w (NamesP (uniL x.occ) w) := by
 have kC := Lib.hid (fun w1 (h : Ext w w1) => rcollect_any false hS x rfl w1 h (.slice none 0 0) [] (strs_nil _) (by simpa using hp))
 rw [show colV false x = x.occ from rfl, fold_addV] at kC
 unfold NamesP at kC
 obtain ⟨q, cp, rfl⟩ := hS.form
 generalize uniL x.occ = U at *
 obtain ⟨op, nm, tx, n, args⟩ := x
 simp only [exAgg_mk, Ex.args] at kC ⊢
 clear hS
 go_enter Tryz.func97, Tryz.ntmps97
 go_wp2_with fail
 refine (kC.out _ ((Ext.refl _).alloc _)).mono ?_
 rintro e w1 ⟨nv, rfl, hnv, hE1⟩
 obtain ⟨p1, e1, rfl, h1, h2⟩ := hnv
 have hnv := Lib.hid (show StrsM w1 (.slice p1 U.length e1) U from ⟨p1, e1, rfl, h1, h2⟩)
 have hE : Ext w w1 := Ext.trans ((Ext.refl _).alloc _) hE1
 clear h1 h2 hE1
 go_wp2
 go_ret
 exact ⟨_, rfl, hnv.out, hE⟩
end Go.Proofs.YtmnhmkjmcckneaaGreatDoor
namespace Go.Proofs.YtmnhmkjmcckneaaGreatDoor
open Go.RowKit
theorem bts_app (a b : ByteArray) : bts (a ++ b) = bts a ++ bts b := by unfold bts; simp
theorem bts_of (l : List UInt8) : bts ⟨l.toArray⟩ = l := by unfold bts; simp
theorem join_more (acc : List (List UInt8)) (x : List UInt8) : Lib.join (acc ++ [x]) [32] = if acc = [] then x else Lib.join acc [32] ++ [32] ++ x := by
 cases acc with
 | nil => simp [Lib.join_one]
 | cons a r =>
  rw [if_neg (by simp), List.cons_append, Lib.join_cons, Lib.join_cons]
  simp [Lib.joinTail]
theorem why_more (acc : List (List UInt8)) (nm v : ByteArray) :
 (acc = [] → ((⟨(Lib.join acc [32]).toArray⟩ : ByteArray) ++ (nm ++ ⟨#[61]⟩)) ++ v = ⟨(Lib.join (acc ++ [bts ((nm ++ ⟨#[61]⟩) ++ v)]) [32]).toArray⟩) ∧
 (¬ acc = [] → (((⟨(Lib.join acc [32]).toArray⟩ : ByteArray) ++ ⟨#[32]⟩) ++ (nm ++ ⟨#[61]⟩)) ++ v = ⟨(Lib.join (acc ++ [bts ((nm ++ ⟨#[61]⟩) ++ v)]) [32]).toArray⟩) := by
 refine ⟨fun h => ?_, fun h => ?_⟩
 · refine bts_inj (show bts _ = bts _ from ?_)
   rw [bts_of (Lib.join (acc ++ [bts ((nm ++ ⟨#[61]⟩) ++ v)]) [32]), join_more, if_pos h]
   subst h
   simp only [bts_app]
   rw [bts_of (Lib.join [] [32])]
   simp only [Lib.join_nil, List.nil_append, List.append_assoc]
 · refine bts_inj (show bts _ = bts _ from ?_)
   rw [bts_of (Lib.join (acc ++ [bts ((nm ++ ⟨#[61]⟩) ++ v)]) [32]), join_more, if_neg h]
   simp only [bts_app]
   rw [bts_of (Lib.join acc [32])]
   simp only [List.append_assoc]
   rfl
theorem WhyOk.take {fs : List Feat} {ns : List (List UInt8)} (h : WhyOk fs ns) (k : Nat) : WhyOk fs (ns.take k) :=
 ⟨by have := h.few; rw [List.length_take]; omega, fun a ha => h.nm a (List.mem_of_mem_take ha), h.tx⟩
theorem whyL_ne {fs : List Feat} {ns : List (List UInt8)} (h : ¬ whyL fs ns = []) : ¬ Lib.join (whyL fs ns) [32] = [] := by
 have hw : ∀ x ∈ whyL fs ns, x ≠ [] := by
  intro x hx
  obtain ⟨a, -, hxa⟩ := List.mem_flatMap.1 hx
  unfold whyW at hxa
  split at hxa
  · cases hxa
  · obtain rfl := List.mem_singleton.1 hxa
    simp [bts_app, bts_of]
 intro hj
 cases hl : whyL fs ns with
 | nil => exact h hl
 | cons a r =>
  rw [hl, Lib.join_cons] at hj
  have : a = [] := (List.append_eq_nil_iff.1 hj).1
  exact hw a (by rw [hl]; exact List.mem_cons_self) this
theorem size_of (l : List UInt8) : (⟨l.toArray⟩ : ByteArray).size = l.length := by simp [ByteArray.size]
set_option maxRecDepth 8000 in
set_option maxHeartbeats 8000000 in
theorem rwhy_any (x : Ex) (q : Option Addr) (cp : Nat) (fsv : Value) (fs : List Feat) (w : World) (g : Gw w) (hF : Feats w fsv fs) (hX : ExS w (.slice q x.args.length cp) x.args) (hp : x.parts.length ≤ 999999) (hok : WhyOk fs (uniL x.occ)) : Calls Tryz.prog 68 #[exAgg x (.slice q x.args.length cp), fsv] w (WhyP (whyV fs (uniL x.occ)) w) := by
 obtain ⟨fp, fc, rfl⟩ := hF.form
 have hfl := hF.1
 have kN := Lib.hid (fun w1 (h : Ext w w1) => rNames_any x (hX.ext h) hp)
 unfold NamesP at kN
 unfold whyV
 generalize uniL x.occ = ns at *
 have hnl := hok.few
 obtain ⟨op, nm, tx, n, args⟩ := x
 simp only [exAgg_mk, Ex.args] at kN ⊢
 clear hX hp
 replace hF := Lib.hid hF
 replace g := Lib.hid g
 replace hok := Lib.hid hok
 go_enter Tryz.func68, Tryz.ntmps68
 go_wp2_with fail
 refine (kN.out _ ((Ext.refl _).alloc _)).mono ?_
 rintro e w0 ⟨nv, rfl, hnv, hE1⟩
 obtain ⟨np, nc, rfl, -, hnat⟩ := hnv
 have hE0 : Ext w w0 := Ext.trans ((Ext.refl _).alloc _) hE1
 clear hE1 kN
 replace hnat := Lib.hid hnat
 go_wp2_with fail
 go_loopw [5, 7] (fun sv i wr => ∃ k : Nat, k ≤ ns.length ∧ i = .int .i64 k ∧ sv = .string ⟨(Lib.join (whyL fs (ns.take k)) [32]).toArray⟩ ∧ Ext w0 wr) (fun _ i _ => ns.length - (intOf i).toNat)
 case atStart => exact ⟨0, Nat.zero_le _, rfl, rfl, Ext.refl _⟩
 case round =>
  obtain ⟨k, hk, rfl, rfl, hE⟩ := hrel
  by_cases hlt : k < ns.length
  · obtain ⟨bn, on, rfl, hcn⟩ := hnat.out (by omega)
    have n0 := hcn k hlt
    have hsn := whyL_snoc fs ns k hlt
    have hsz := why_join (hok.out.take k)
    have hne := whyL_ne (fs := fs) (ns := ns.take k)
    have hmn : ns.getD k [] ∈ ns := by
     rw [List.getD_eq_getElem?_getD, List.getElem?_eq_getElem hlt, Option.getD_some]
     exact List.getElem_mem hlt
    have hns := hok.out.nm _ hmn
    have hW : whyW fs (ns.getD k []) = match idxN ⟨(ns.getD k []).toArray⟩ 0 fs with | none => [] | some i => [bts (((⟨(ns.getD k []).toArray⟩ : ByteArray) ++ ⟨#[61]⟩) ++ valS (fs.getD i fD))] := rfl
    unfold encStr at n0
    rw [← size_of] at hns
    clear hcn hmn
    generalize (⟨(ns.getD k []).toArray⟩ : ByteArray) = nmk at *
    rw [hW] at hsn
    clear hW
    generalize whyL fs (ns.take k) = acc at *
    rw [← size_of] at hsz
    have hSe : acc = [] → (⟨(Lib.join acc [32]).toArray⟩ : ByteArray).size = 0 := fun h => by rw [h]; rfl
    have hSn : ¬ acc = [] → ¬ (⟨(Lib.join acc [32]).toArray⟩ : ByteArray).size = 0 := fun h h2 => by
     rw [size_of] at h2
     exact hne h (List.length_eq_zero_iff.1 h2)
    have hwm := why_more acc nmk
    have hsame := Lib.hid (fun (h : idxN nmk 0 fs = none) => show (⟨(Lib.join acc [32]).toArray⟩ : ByteArray) = ⟨(Lib.join (whyL fs (ns.take (k + 1))) [32]).toArray⟩ by rw [hsn, h, List.append_nil])
    have hnew := Lib.hid (fun (i : Nat) (h : idxN nmk 0 fs = some i) => show whyL fs (ns.take (k + 1)) = acc ++ [bts ((nmk ++ ⟨#[61]⟩) ++ valS (fs.getD i fD))] by rw [hsn, h])
    clear hsn hne
    generalize (⟨(Lib.join acc [32]).toArray⟩ : ByteArray) = S at *
    replace hwm := Lib.hid hwm
    replace hSe := Lib.hid hSe
    replace hSn := Lib.hid hSn
    have hE00 := hE0.trans hE
    replace n0 := hE.get n0
    go_wp2_with fail
    go_loopw [5, 8] (fun sv i wi => ∃ j : Nat, j ≤ fs.length ∧ i = .int .i64 j ∧ sv = .string S ∧ idxN nmk 0 fs = idxN nmk j (fs.drop j) ∧ Ext wr wi) (fun _ i _ => fs.length - (intOf i).toNat)
    case atStart => exact ⟨0, Nat.zero_le _, rfl, rfl, rfl, Ext.refl _⟩
    case round =>
     obtain ⟨j, hj, rfl, rfl, hix, hEi⟩ := hrel
     by_cases hjl : j < fs.length
     · rw [idxN_step nmk fs j hjl] at hix
       obtain ⟨bf, off, rfl, hat⟩ := hF.out.at (by omega)
       obtain ⟨c0, c1, c2, c3⟩ := hat j hjl
       replace c0 := (hE00.trans hEi).get c0
       replace c1 := (hE00.trans hEi).get c1
       replace c2 := (hE00.trans hEi).get c2
       replace c3 := (hE00.trans hEi).get c3
       have m0 := hEi.get n0
       have hfm : fs.getD j fD ∈ fs := by
        rw [List.getD_eq_getElem?_getD, List.getElem?_eq_getElem hjl, Option.getD_some]
        exact List.getElem_mem hjl
       have hfx := hok.out.tx _ hfm
       have hnj := Lib.hid (fun h => hnew.out j h)
       have hvs : valS (fs.getD j fD) = if (fs.getD j fD).kind = 2 then (fs.getD j fD).text else ⟨(Lib.itoa (fs.getD j fD).n).toArray⟩ := rfl
       have hvz := valS_size hfx
       clear hat hfm
       generalize fs.getD j fD = f at *
       by_cases he : f.name = nmk
       · have hix2 := Lib.hid (show idxN nmk 0 fs = some j by rw [hix, if_pos he])
         have dn := strEq he
         have hfin := Lib.hid (hnj.out hix2.out)
         have hE9 := hE.trans (hEi.drewN 0)
         obtain ⟨V, hV⟩ : ∃ V, V = valS f := ⟨_, rfl⟩
         rw [← hV] at hvs hvz
         have kf := Lib.hid (fun w2 (h : Ext w w2) => fmt_any f.n hfx.2.1 hfx.2.2 w2 (g.out.ext h))
         have z1 : (nmk ++ ⟨#[61]⟩).size = nmk.size + 1 := by rw [ByteArray.size_append]; rfl
         have z2 : (S ++ ⟨#[32]⟩).size = S.size + 1 := by rw [ByteArray.size_append]; rfl
         have z3 : (S ++ (nmk ++ ⟨#[61]⟩)).size = S.size + (nmk.size + 1) := by rw [ByteArray.size_append, z1]
         have z4 : ((S ++ ⟨#[32]⟩) ++ (nmk ++ ⟨#[61]⟩)).size = S.size + 1 + (nmk.size + 1) := by rw [ByteArray.size_append, z1, z2]
         have t1 : (⟨#[61]⟩ : ByteArray).size = 1 := rfl
         have t2 : (⟨#[32]⟩ : ByteArray).size = 1 := rfl
         have rel : ∀ (h : acc = []), (S ++ (nmk ++ ⟨#[61]⟩)) ++ V = ⟨(Lib.join (whyL fs (ns.take (k + 1))) [32]).toArray⟩ := fun h => by rw [hfin.out, ← hV]; exact (hwm.out V).1 h
         have rel2 : ∀ (h : ¬ acc = []), ((S ++ ⟨#[32]⟩) ++ (nmk ++ ⟨#[61]⟩)) ++ V = ⟨(Lib.join (whyL fs (ns.take (k + 1))) [32]).toArray⟩ := fun h => by rw [hfin.out, ← hV]; exact (hwm.out V).2 h
         replace rel := Lib.hid rel
         replace rel2 := Lib.hid rel2
         subst he
         clear hix hix2 hnj hfin hV hE9
         have hEw := Lib.hid (hE00.trans hEi)
         by_cases ha : acc = []
         · have dS := emp_list (hSe.out ha)
           have hrel := Lib.hid (rel.out ha)
           clear ha rel rel2 hSe hSn hwm hsame hnew
           by_cases hk2 : f.kind = 2
           · have dk : (f.kind == 2) = true := by simpa using hk2
             rw [if_pos hk2] at hvs
             subst hvs
             clear hk2
             go_wp2_with fail
             go_quiet (fail)
             go_wp2
             go_roundw
             case rel => exact ⟨k + 1, by omega, by go_num, by rw [← hrel.out], hE.trans (hEi.drewN _)⟩
             case measure => simp [intOf]; omega
           · have dk : (f.kind == 2) = false := by simpa using hk2
             rw [if_neg hk2] at hvs
             subst hvs
             clear hk2
             generalize (⟨(Lib.itoa f.n).toArray⟩ : ByteArray) = it at *
             go_wp2_with fail
             go_quiet (fail)
             go_wp2_with fail
             refine (kf.out _ (hEw.out.drewN _)).mono ?_
             rintro e w5 ⟨rfl, hE5⟩
             have hE6 : Ext w0 w5 := (hE.trans (hEi.drewN _)).trans hE5
             clear hE5 kf
             go_wp2
             go_roundw
             case rel => exact ⟨k + 1, by omega, by go_num, by rw [← hrel.out], hE6⟩
             case measure => simp [intOf]; omega
         · have dS := ne_list (hSn.out ha)
           have dS2 := ne_isE (hSn.out ha)
           have hrel := Lib.hid (rel2.out ha)
           clear ha rel rel2 hSe hSn hwm hsame hnew
           by_cases hk2 : f.kind = 2
           · have dk : (f.kind == 2) = true := by simpa using hk2
             rw [if_pos hk2] at hvs
             subst hvs
             clear hk2
             go_wp2_with fail
             go_quiet (fail)
             go_wp2
             go_roundw
             case rel => exact ⟨k + 1, by omega, by go_num, by rw [← hrel.out], hE.trans (hEi.drewN _)⟩
             case measure => simp [intOf]; omega
           · have dk : (f.kind == 2) = false := by simpa using hk2
             rw [if_neg hk2] at hvs
             subst hvs
             clear hk2
             generalize (⟨(Lib.itoa f.n).toArray⟩ : ByteArray) = it at *
             go_wp2_with fail
             go_quiet (fail)
             go_wp2_with fail
             refine (kf.out _ (hEw.out.drewN _)).mono ?_
             rintro e w5 ⟨rfl, hE5⟩
             have hE6 : Ext w0 w5 := (hE.trans (hEi.drewN _)).trans hE5
             clear hE5 kf
             go_wp2
             go_roundw
             case rel => exact ⟨k + 1, by omega, by go_num, by rw [← hrel.out], hE6⟩
             case measure => simp [intOf]; omega
       · have hix2 := Lib.hid (show idxN nmk 0 fs = idxN nmk (j + 1) (fs.drop (j + 1)) by rw [hix, if_neg he])
         have dn := strNe he
         have dn2 := bytes_ne he
         clear hix he hnj hvs hvz hfx hwm hSe hSn
         go_wp2_with fail
         go_quiet (fail)
         go_wp2
         go_roundw
         case rel => exact ⟨j + 1, by omega, by go_num, rfl, hix2.out, hEi.drewN _⟩
         case measure => simp [intOf]; omega
     · have hj2 : j = fs.length := by omega
       have hd : fs.drop j = [] := by rw [hj2]; exact List.drop_length
       rw [hd] at hix
       have hs2 := Lib.hid (hsame.out hix)
       clear hd hj2 hix hsame hnew hwm hSe hSn
       go_wp2
       go_roundw
       case rel => exact ⟨k + 1, by omega, by go_num, by rw [← hs2.out], hE.trans hEi⟩
       case measure => simp [intOf]; omega
  · have hkk : ns.take k = ns := List.take_of_length_le (by omega)
    rw [hkk]
    have hE9 := hE0.trans hE
    clear hkk
    generalize (⟨(Lib.join (whyL fs ns) [32]).toArray⟩ : ByteArray) = S at *
    go_wp2
    go_ret
    exact ⟨rfl, hE9⟩
end Go.Proofs.YtmnhmkjmcckneaaGreatDoor
