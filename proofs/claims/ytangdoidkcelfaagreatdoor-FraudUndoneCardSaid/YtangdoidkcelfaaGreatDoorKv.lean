/- Contracts of fraud.key, keys and of the source that Judge hands to Eval (walks; printed by gen/h36.py). -/
import Derived.Test.YtangdoidkcelfaaGreatDoorKt
import Derived.Test.YtangdoidkcelfaaGreatDoorKg
import Derived.Deep.RegionHeld3
import Derived.Deep.QuietTactic
import Derived.BigQuiet
namespace Go.Proofs.YtangdoidkcelfaaGreatDoor
open Go.RowKit Go.Sort
theorem findN_step (l : List Feat) (nm : ByteArray) (k : Nat) (h : k < l.length) : findN (l.drop k) nm = if (l.getD k fD).name = nm then some (l.getD k fD) else findN (l.drop (k + 1)) nm := by
 have hg : l.getD k fD = l[k] := by rw [List.getD_eq_getElem?_getD, List.getElem?_eq_getElem h, Option.getD_some]
 rw [hg, List.drop_eq_getElem_cons h]
 unfold findN
 rw [List.find?_cons]
 by_cases hc : l[k].name = nm
 · simp [hc]
 · rw [if_neg hc, decide_eq_false hc]
def KeyP (s : ByteArray) (b : Bool) (w : World) (e : Ending) (w' : World) : Prop := e = .returned (.tuple #[.string s, .bool b]) ∧ Ext w w'
/-- The texts of features are no longer than the model can add. -/
def TxtB (l : List Feat) : Prop := ∀ f ∈ l, f.text.size ≤ 1000000
theorem key_some {l : List Feat} {nm : ByteArray} {f : Feat} (h : findN l nm = some f) : keyS l nm = nm ++ ⟨#[61]⟩ ++ f.text ∧ keyB l nm = decide (f.kind = 2) := by
 unfold keyS keyB
 rw [h]
 exact ⟨rfl, rfl⟩
theorem key_none {l : List Feat} {nm : ByteArray} (h : findN l nm = none) : keyS l nm = ⟨#[]⟩ ∧ keyB l nm = false := by
 unfold keyS keyB
 rw [h]
 exact ⟨rfl, rfl⟩
theorem bool_dec (a b : Int) : (a == b) = decide (a = b) := by
 by_cases h : a = b
 · simp [h]
 · simp [h]
set_option maxRecDepth 8000 in
set_option maxHeartbeats 4000000 in
theorem key_any (fv : Value) (l : List Feat) (nm : ByteArray) (w : World) (hF : Feats w fv l) (hT : TxtB l) (hn : nm.size ≤ 1000000) : Calls Tryz.prog 41 #[fv, .string nm] w (KeyP (keyS l nm) (keyB l nm) w) := by
 obtain ⟨p, c, rfl⟩ := hF.form
 have hlen := hF.1
 replace hF := Lib.hid hF
 replace hT := Lib.hid hT
 have hK := Lib.hid (fun f => key_some (l := l) (nm := nm) (f := f))
 have hK0 := Lib.hid (key_none (l := l) (nm := nm))
 generalize keyS l nm = RS at *
 generalize keyB l nm = RB at *
 have h0 := Lib.hid (show findN l nm = findN (l.drop 0) nm from rfl)
 go_enter Tryz.func41, Tryz.ntmps41
 go_wp2_with fail
 go_loopw [10] (fun i wr => ∃ k : Nat, k ≤ l.length ∧ i = .int .i64 k ∧ Hid (findN l nm = findN (l.drop k) nm) ∧ Ext w wr) (fun i _ => l.length - (intOf i).toNat)
 case atStart => exact ⟨0, Nat.zero_le _, rfl, h0, Ext.refl _⟩
 case round =>
  obtain ⟨k, hk, rfl, hR, hE⟩ := hrel
  clear h0
  by_cases hlt : k < l.length
  · obtain ⟨b, off, rfl, hat⟩ := hF.out.at (by omega)
    obtain ⟨c0, c1, c2, c3⟩ := hat k hlt
    replace c0 := hE.get c0
    replace c1 := hE.get c1
    replace c2 := hE.get c2
    replace c3 := hE.get c3
    have hst := Lib.hid (findN_step l nm k hlt)
    have htx : (l.getD k fD).text.size ≤ 1000000 := hT.out _ (by rw [List.getD_eq_getElem?_getD, List.getElem?_eq_getElem hlt, Option.getD_some]; exact List.getElem_mem hlt)
    clear hat
    generalize l.getD k fD = f at *
    by_cases h1 : f.name = nm
    · have hV := hK.out f (by rw [hR.out, hst.out, if_pos h1])
      have g1 := strEq h1
      have g2 : (f.kind == 2) = decide (f.kind = 2) := bool_dec _ _
      have q1 : ¬ 9223372036854775807 < nm.size + 1 := by omega
      have q2 : ¬ 9223372036854775807 < nm.size + 1 + f.text.size := by omega
      replace hV := Lib.hid hV
      clear hK hK0 hR hst
      generalize decide (f.kind = 2) = D at *
      subst h1
      go_wp2_with fail
      go_quiet (fail)
      go_wp2
      go_ret2
      exact ⟨by rw [hV.out.1, hV.out.2]; rfl, xt⟩
    · have hR2 := Lib.hid (show findN l nm = findN (l.drop (k + 1)) nm by rw [hR.out, hst.out, if_neg h1])
      have g1 := strNe h1
      have g3 := bytes_ne h1
      clear h1 hR hst
      go_wp2
      go_roundw
      case rel => exact ⟨k + 1, by omega, by go_num, hR2, xt⟩
      case measure => simp [intOf]; omega
  · have hV := Lib.hid (hK0.out (by rw [hR.out, List.drop_eq_nil_of_le (by omega)]; rfl))
    clear hK hK0
    go_wp2
    go_ret2
    exact ⟨by rw [hV.out.1, hV.out.2]; rfl, xt⟩
/-- The keys of the names that have one. -/
def kysL (l : List Feat) (names : List (List UInt8)) : List ByteArray := keysV names l
theorem kys_step (l : List Feat) (names : List (List UInt8)) (k : Nat) (h : k < names.length) : kysL l (names.take (k + 1)) = kysL l (names.take k) ++ if keyB l ⟨(names.getD k []).toArray⟩ = true then [keyS l ⟨(names.getD k []).toArray⟩] else [] := by
 have hg : names.take (k + 1) = names.take k ++ [names.getD k []] := by
  rw [List.take_add_one, List.getD_eq_getElem?_getD, List.getElem?_eq_getElem h]
  rfl
 rw [hg]
 unfold kysL keysV
 rw [List.filter_append, List.map_append]
 congr 1
 by_cases hb : keyB l ⟨(names.getD k []).toArray⟩ = true
 · rw [if_pos hb, List.filter_cons_of_pos (p := fun nm : List UInt8 => keyB l ⟨nm.toArray⟩) hb]; rfl
 · rw [if_neg hb, List.filter_cons_of_neg (p := fun nm : List UInt8 => keyB l ⟨nm.toArray⟩) (by simpa using hb)]; rfl
theorem kys_len (l : List Feat) (names : List (List UInt8)) : (kysL l names).length ≤ names.length := by
 unfold kysL keysV
 rw [List.length_map]
 exact List.length_filter_le _ _
/-- The slice v reads as the keys. -/
def KysM (w : World) (v : Value) (ks : List ByteArray) : Prop :=
 ∃ p c, v = .slice p ks.length c ∧ ks.length ≤ 1000000 ∧ (0 < ks.length → ∃ b off, p = some ⟨b, off, none⟩ ∧ ∀ i, i < ks.length → w.cell? ⟨b, off + i, none⟩ = some (.string (ks.getD i ⟨#[]⟩)))
theorem KysM.ext {w w' : World} {v : Value} {l : List ByteArray} (h : KysM w v l) (k : Ext w w') : KysM w' v l := by
 obtain ⟨p, c, h1, h2, h3⟩ := h
 refine ⟨p, c, h1, h2, fun h0 => ?_⟩
 obtain ⟨b, off, h4, h5⟩ := h3 h0
 exact ⟨b, off, h4, fun i hi => k.get (h5 i hi)⟩
theorem kysM_own {w : World} {B : Nat} {v : Value} {ks : List ByteArray} (h : w.ownsRow B 9 1 v ks.length (ks.map Value.string)) (hl : ks.length ≤ 1000000) : KysM w v ks := by
 obtain ⟨-, ⟨hv, hn⟩ | ⟨g, cap, cur, hv, hg, hb, hcap, hcm, hcs, htk⟩⟩ := h
 · exact ⟨none, 0, by rw [hn]; exact hv, hl, fun h0 => by omega⟩
 · refine ⟨_, _, hv, hl, fun h0 => ⟨g, 0, rfl, fun i hi => ?_⟩⟩
   have hb' : Blk w g cur 9 := hb
   rw [Nat.zero_add, hb'.cell, ← Array.getElem?_toList]
   have h1 : (cur.toList.take (ks.length * 1))[i]? = cur.toList[i]? := List.getElem?_take_of_lt (by omega)
   rw [← h1, htk, List.getElem?_map, List.getD_eq_getElem?_getD, List.getElem?_eq_getElem hi]
   rfl
/-- Where a list of keys lies. -/
def StrT (w : World) (v : Value) : Prop := ∀ b, v.ownBlock = some b → ∃ cs, Blk w b cs 9
theorem StrT.ext {w w' : World} {v : Value} (h : StrT w v) (k : Ext w w') : StrT w' v := fun b hb => by
 obtain ⟨cs, h1⟩ := h b hb
 exact ⟨cs, h1.ext k⟩
theorem strT_own {w : World} {B n : Nat} {v : Value} {xs : List Value} (h : w.ownsRow B 9 1 v n xs) : StrT w v := fun b hb => by
 obtain ⟨-, ⟨hv, -⟩ | ⟨g, cap, cur, hv, -, hg, -⟩⟩ := h
 · rw [hv] at hb; cases hb
 · rw [hv] at hb
   injection hb with hb
   have hb : g = b := hb
   subst hb
   exact ⟨cur, hg⟩
def KysP (ks : List ByteArray) (w : World) (e : Ending) (w' : World) : Prop := ∃ v, e = .returned v ∧ (KysM w' v ks ∧ StrT w' v) ∧ Ext w w'
theorem str_one (s : ByteArray) : ∀ u ∈ [Value.string s], u.oneCell' = true := by
 intro u hu
 simp only [List.mem_cons, List.not_mem_nil, or_false] at hu
 subst hu
 rfl
set_option maxRecDepth 8000 in
set_option maxHeartbeats 4000000 in
theorem keys_any (X : Nat) (tv : Value) (names : List (List UInt8)) (fv : Value) (l : List Feat) (w : World) (hX : w.cell? ⟨X, 5, none⟩ = some tv) (hN : StrsM w tv names) (hF : Feats w fv l) (hT : TxtB l) (hs : ∀ s ∈ names, s.length ≤ 1000000) : Calls Tryz.prog 44 #[.pointer (some ⟨X, 0, none⟩), fv] w (KysP (keysV names l) w) := by
 obtain ⟨tp, tc, rfl, hnl, hnc⟩ := hN
 obtain ⟨fp, fc, rfl⟩ := hF.form
 replace hnc := Lib.hid hnc
 have kK := Lib.hid (fun nm w1 (h : Ext w w1) => key_any _ l nm w1 (hF.ext h) hT)
 unfold KeyP at kK
 replace hs := Lib.hid hs
 clear hF
 obtain ⟨s0, hi, hz0, hz1, hz2⟩ := info_partsE infoStrE
 replace hi := Lib.hid hi
 replace hz0 := Lib.hid hz0
 replace hz1 := Lib.hid hz1
 replace hz2 := Lib.hid hz2
 have hfin := Lib.hid (show kysL l names = keysV names l from rfl)
 generalize keysV names l = KK at *
 go_enter Tryz.func44, Tryz.ntmps44
 go_wp2_with fail
 go_loopw [5, 15] (fun v i wr => ∃ k : Nat, k ≤ names.length ∧ i = .int .i64 k ∧ wr.ownsRow w.heap.size 9 1 v (kysL l (names.take k)).length ((kysL l (names.take k)).map Value.string) ∧ Ext w wr) (fun _ i _ => names.length - (intOf i).toNat)
 case atStart => exact ⟨0, Nat.zero_le _, rfl, ⟨rfl, Or.inl ⟨rfl, rfl⟩⟩, Ext.refl _⟩
 case round =>
  obtain ⟨k, hk, rfl, hrow, hE⟩ := hrel
  have hkl := kys_len l (names.take k)
  rw [List.length_take, Nat.min_eq_left hk] at hkl
  by_cases hlt : k < names.length
  · obtain ⟨b, off, rfl, hcs⟩ := hnc.out (by omega)
    have c0 := hE.get (hcs k hlt)
    have hst := Lib.hid (kys_step l names k hlt)
    have hsz := hs.out (names.getD k []) (by rw [List.getD_eq_getElem?_getD, List.getElem?_eq_getElem hlt, Option.getD_some]; exact List.getElem_mem hlt)
    have kk := Lib.hid (kK.out ⟨(names.getD k []).toArray⟩ wr hE (by simpa [ByteArray.size] using hsz))
    unfold encStr at c0
    clear hcs hsz kK
    generalize names.getD k [] = s at *
    generalize (⟨s.toArray⟩ : ByteArray) = nm at *
    generalize keyS l nm = KS at *
    generalize kysL l (names.take k) = acc at *
    obtain ⟨vp, vc, rfl⟩ := own_form hrow
    replace hrow := Lib.hid hrow
    go_wp2_with fail
    refine kk.out.mono ?_
    rintro e w2 ⟨rfl, hE2⟩
    clear kk c0
    have hrow2 := Lib.hid (ownsRow_extE hrow.out hE2)
    have hE3 := hE.trans hE2
    clear hrow hE2 hE
    cases hb : keyB l nm with
    | true =>
     rw [hb, if_pos rfl] at hst
     have hsz3 := hE3.size
     go_wp2_with (at_builtin; refine wpList_append_lies _ rfl _ _ 22 rfl w.heap.size 9 s0 (.string ⟨#[]⟩) 1 16 Tryz.underlying22 hi.out hz0.out hz1.out hz2.out rfl (by decide) _ acc.length (acc.map Value.string) rfl (ownsRow_extE hrow2.out ((Ext.refl _).alloc _)) ⟨w2.heap.size, 0, none⟩ 1 1 [.string KS] rfl rfl (World.news_of_block (Blk.new' w2 #[.string KS] 9 _ (by simp))) (str_one _) (by decide) (by unfold maxLen; omega) (by omega) (by simp; omega) (w2.heap.size + 1) (by simp) ?_; intro gg cap w5 hown5 hgrow5 hat5 hgl5; have hE5 : Ext w w5 := Chg.toExt (hE3.alloc (.cells #[.string KS] 9)) (Chg.ofGrown hgrow5) (fun k hk => (hrow2.out.lt k hk.symm).1); clear hgrow5 hat5 hgl5; replace hown5 := Lib.hid hown5)
     go_roundw
     case rel => exact ⟨k + 1, by omega, by go_num, by rw [hst.out, List.map_append, List.length_append]; exact hown5.out, xt⟩
     case measure => simp [intOf]; omega
    | false =>
     rw [hb, if_neg (by decide), List.append_nil] at hst
     go_wp2
     go_roundw
     case rel => exact ⟨k + 1, by omega, by go_num, by rw [hst.out]; exact hrow2.out, xt⟩
     case measure => simp [intOf]; omega
  · obtain rfl : k = names.length := by omega
    rw [List.take_length, hfin.out] at hrow
    rw [List.take_length, hfin.out] at hkl
    have hm := Lib.hid (kysM_own hrow (by omega))
    have hm2 := Lib.hid (strT_own hrow)
    clear hrow
    go_wp2
    go_ret
    exact ⟨_, rfl, ⟨hm.out.ext xt, hm2.out.ext xt⟩, xt⟩

set_option maxRecDepth 8000 in
set_option maxHeartbeats 4000000 in
theorem srcCount_any (B V b n : Nat) (v : Value) (d : VelD) (f : ByteArray → Option Value) (nm : ByteArray) (now win R : Int) (w : World) (hV : VelM w B V v d) (hK : KV w b n f) (hh : 1 ≤ d.hor ∧ d.hor ≤ 10000000) (hl : d.uses.length ≤ 1000) (ha : AmtB d.uses) (hn : nm.size ≤ 1000000) (hR : (∃ k, f nm = some (.string k) ∧ R = velCount d k now win) ∨ (f nm = none ∧ R = 0)) :
 Calls Tryz.prog 174 #[.agg #[.pointer (some ⟨V, 0, none⟩), .int .i64 now, .map (some b)], .string nm, .int .i64 win] w (OneQ (.int .i64 R) w) := by
 have kV := Lib.hid (fun k w1 (h : Ext w w1) => velCount_any B V v d k now win w1 (hV.ext h) hh hl ha)
 replace hK := Lib.hid hK
 clear hV hh hl ha
 rcases hR with ⟨k, hf, hR⟩ | ⟨hf, rfl⟩
 · replace kV := Lib.hid (kV.out k)
   rw [← hR] at kV
   replace hf := Lib.hid hf
   clear hR
   unfold OneQ at kV
   go_enter Tryz.func174, Tryz.ntmps174
   go_wp2_with (at_lookup; refine wpList_lookW Tryz.underlying100 (.string ⟨#[]⟩) zeroS rfl _ _ rfl rfl (hK.out.ext ((Ext.refl _).alloc _)) nm rfl hn (some (.string k)) hf.out ?_)
   refine (kV.out _ xt).mono ?_
   rintro e w1 ⟨rfl, hE1⟩
   have hE0 : Ext w w1 := Ext.trans xt hE1
   go_wp2
   go_ret
   exact ⟨rfl, hE0⟩
 · replace hf := Lib.hid hf
   go_enter Tryz.func174, Tryz.ntmps174
   go_wp2_with (at_lookup; refine wpList_lookW Tryz.underlying100 (.string ⟨#[]⟩) zeroS rfl _ _ rfl rfl (hK.out.ext ((Ext.refl _).alloc _)) nm rfl hn none hf.out ?_)
   go_ret
   exact ⟨rfl, xt⟩
set_option maxRecDepth 8000 in
set_option maxHeartbeats 4000000 in
theorem srcSum_any (B V b n : Nat) (v : Value) (d : VelD) (f : ByteArray → Option Value) (nm : ByteArray) (now win R : Int) (w : World) (hV : VelM w B V v d) (hK : KV w b n f) (hh : 1 ≤ d.hor ∧ d.hor ≤ 10000000) (hl : d.uses.length ≤ 1000) (ha : AmtB d.uses) (hn : nm.size ≤ 1000000) (hR : (∃ k, f nm = some (.string k) ∧ R = velSum d k now win) ∨ (f nm = none ∧ R = 0)) :
 Calls Tryz.prog 175 #[.agg #[.pointer (some ⟨V, 0, none⟩), .int .i64 now, .map (some b)], .string nm, .int .i64 win] w (OneQ (.int .i64 R) w) := by
 have kV := Lib.hid (fun k w1 (h : Ext w w1) => velSum_any B V v d k now win w1 (hV.ext h) hh hl ha)
 replace hK := Lib.hid hK
 clear hV hh hl ha
 rcases hR with ⟨k, hf, hR⟩ | ⟨hf, rfl⟩
 · replace kV := Lib.hid (kV.out k)
   rw [← hR] at kV
   replace hf := Lib.hid hf
   clear hR
   unfold OneQ at kV
   go_enter Tryz.func175, Tryz.ntmps175
   go_wp2_with (at_lookup; refine wpList_lookW Tryz.underlying100 (.string ⟨#[]⟩) zeroS rfl _ _ rfl rfl (hK.out.ext ((Ext.refl _).alloc _)) nm rfl hn (some (.string k)) hf.out ?_)
   refine (kV.out _ xt).mono ?_
   rintro e w1 ⟨rfl, hE1⟩
   have hE0 : Ext w w1 := Ext.trans xt hE1
   go_wp2
   go_ret
   exact ⟨rfl, hE0⟩
 · replace hf := Lib.hid hf
   go_enter Tryz.func175, Tryz.ntmps175
   go_wp2_with (at_lookup; refine wpList_lookW Tryz.underlying100 (.string ⟨#[]⟩) zeroS rfl _ _ rfl rfl (hK.out.ext ((Ext.refl _).alloc _)) nm rfl hn none hf.out ?_)
   go_ret
   exact ⟨rfl, xt⟩
end Go.Proofs.YtangdoidkcelfaaGreatDoor
