/- Contracts of velocity's remove and Add (walks). -/
import Derived.Test.YtangdoidkcelfaaGreatDoorEi
import Derived.Test.YtangdoidkcelfaaGreatDoorKe
import Derived.Test.YtangdoidkcelfaaGreatDoorKw
import Derived.Deep.RegionLaw
import Derived.Deep.AppendLies
namespace Go.Proofs.YtangdoidkcelfaaGreatDoor
open Go.RowKit
theorem UsesR.shorter {T : TypeId} {w : World} {B g cap i : Nat} {l : List UseV} (h : UsesR T w B (.slice (some ⟨g, 0, none⟩) l.length cap) l) (hi : i ≤ l.length) : UsesR T w B (.slice (some ⟨g, 0, none⟩) (l.take i).length cap) (l.take i) := by
 obtain ⟨h0, h4, ⟨hv, hn⟩ | ⟨g', cap', cur, hv, hg, hb, hcap, hcm, hcs, htk⟩⟩ := h
 · cases hv
 · injection hv with hv1 hv2 hv3
   injection hv1 with hv1
   injection hv1 with hv1 _ _
   subst hv1 hv3
   have e0 : (l.take i).length = i := by rw [List.length_take]; omega
   refine ⟨by omega, by rw [useFlat_len], Or.inr ⟨g, cap, cur, rfl, hg, hb, by omega, hcm, hcs, ?_⟩⟩
   rw [e0]
   have h1 : cur.toList.take (i * 3) = (cur.toList.take (l.length * 3)).take (i * 3) := by rw [List.take_take]; congr 1; omega
   rw [h1, htk]
   conv => lhs; rw [← List.take_append_drop i l]
   rw [useFlat_append, List.take_append_of_le_length (by rw [useFlat_len, e0]; omega)]
   exact List.take_of_length_le (by rw [useFlat_len, e0]; omega)
/-- The uses of windows do not lie in the windows' own block. -/
theorem VelM.sep {w : World} {B V : Nat} {v : Value} {d : VelD} (h : VelM w B V v d) (b : Nat) (hb : v.ownBlock = some b) : b ≠ V := by
 intro e
 subst e
 obtain ⟨h1, -, -, ⟨hv, -⟩ | ⟨g, cap, cur, hv, -, hg, -⟩⟩ := h
 · rw [hv] at hb; cases hb
 · rw [hv] at hb
   injection hb with hb
   subst hb
   unfold Blk at h1
   rw [h1] at hg
   injection hg with hg
   injection hg with _ hg
   exact absurd hg (by decide)
/-- What remove leaves. -/
def RemP (B V i n : Nat) (v : Value) (d : VelD) (w : World) (e : Ending) (w' : World) : Prop :=
 e = .returned (.tuple #[]) ∧ ∃ v', VelM w' B V v' ⟨d.hor, d.last, d.uses.take i ++ d.uses.drop (i + n)⟩ ∧ Chg (fun k => k = V ∨ v.ownBlock = some k) w w' ∧ v'.ownBlock = v.ownBlock
theorem rem_done {w W1 w3 : World} {B V m i n : Nat} {p : Option Addr} {cap : Nat} {hor last : Int} {v0 : Value} {l l' : List UseV} (hb : Blk W1 V #[.int .i64 hor, .int .i64 last, v0] 123) (hne : ∀ b, Value.ownBlock (.slice p m cap) = some b → b ≠ V) (hC : Chg (fun k => k = V ∨ v0.ownBlock = some k) w W1) (hU : UsesR 182 W1 B (.slice p m cap) l') (ho : Value.ownBlock (.slice p m cap) = v0.ownBlock) (hl : l.take i ++ l.drop (i + n) = l') (h3 : Ext (W1.setCell ⟨V, 2, none⟩ (.slice p m cap)) w3) :
 RemP B V i n v0 ⟨hor, last, l⟩ w (.returned (.tuple #[])) w3 := by
 subst hl
 refine ⟨rfl, .slice p m cap, VelM.ext ⟨?_, ?_⟩ h3, (hC.setCell (p := ⟨V, 2, none⟩) (Or.inl (Or.inl rfl)) _).ext h3, ho⟩
 · exact hb.set 2 _
 · have h := hU.chg (F := fun k => k = V) (w' := W1.setCell ⟨V, 2, none⟩ (.slice p m cap)) ((Chg.refl (fun k => k = V) W1).setCell (p := ⟨V, 2, none⟩) (Or.inl rfl) _) (fun b h1 h2 => hne b h1 h2)
   simpa using h
theorem infoUseE : (Tryz.prog.info? 182).map (fun i => (i.zero, i.size, i.bytes)) = some (some (.agg #[.string ⟨#[]⟩, .int .i64 0, .int .i64 0]), 3, 32) := by kernel_rfl
set_option maxRecDepth 8000 in
set_option maxHeartbeats 4000000 in
theorem velRemove_any (B V i n : Nat) (v : Value) (d : VelD) (w : World) (h : VelM w B V v d) (hi : i + n ≤ d.uses.length) : Calls Tryz.prog 108 #[.pointer (some ⟨V, 0, none⟩), .int .i64 i, .int .i64 n] w (RemP B V i n v d w) := by
 obtain ⟨hb, hu⟩ := h
 obtain ⟨hor, last, l⟩ := d
 simp only at hb hu hi ⊢
 have hll := hu.1
 have y2 : w.cell? ⟨V, 2, none⟩ = some v := (hb.cell 2).trans rfl
 have z2 : w.frozen? ⟨V, 2, none⟩ = false := hb.fz 2
 have hlt := hb.lt
 obtain ⟨i0, hI, hz0, hz1, hz2⟩ := info_partsE infoUseE
 replace hI := Lib.hid hI
 rcases hu.lie with ⟨rfl, rfl⟩ | ⟨g, cap, rfl, hg, hcap, hcm, -⟩
 · obtain ⟨rfl, rfl⟩ : i = 0 ∧ n = 0 := by simp at hi; omega
   have hrun : ∀ ty, (Builtin.copy_ #[121, 121] ty #[.slice none 0 0, .slice none 0 0]).run Tryz.prog w.drew = .ok (goInt 0) w.drew := fun ty => run_copy_zero _ _ _ ty _ i0 none none 0 0 0 0 Tryz.underlying121 hI.out rfl
   have hwr : IntKind.i64.wrap 0 = 0 := by decide
   have hfin := Lib.hid (fun w3 h3 => rem_done (i := 0) (n := 0) (m := 0) (p := none) (cap := 0) (l := []) (w3 := w3) hb (fun b h => by cases h) (Chg.refl _ _) hu rfl rfl h3)
   clear hb hu
   go_enter Tryz.func108, Tryz.ntmps108
   go_wp2_with fail
   go_region_law (refine step_copy_run rfl (.tmp 11) (.tmp 19) 121 121 rfl _ _ (by simp [Act.eval, Act.put]) (by simp [Act.eval, Act.put]) hrun ?_)
   all_goals go_wp2_with fail
   all_goals go_region
   all_goals go_wp2
   all_goals go_end0
   all_goals exact hfin.out _ (Ext.refl _).drew.drew
 · have hgV : g ≠ V := by
    intro e
    subst e
    obtain ⟨-, -, ⟨hv, -⟩ | ⟨g', cap', cur, hv, -, hg', -⟩⟩ := hu
    · cases hv
    · injection hv with hv1 _ _
      injection hv1 with hv1
      injection hv1 with hv1 _ _
      subst hv1
      unfold Blk at hb
      rw [hb] at hg'
      injection hg' with hg'
      injection hg' with _ hg'
      exact absurd hg' (by decide)
   by_cases hE : i + n = l.length
   · have hfin := Lib.hid (fun w3 h3 => rem_done (i := i) (n := n) (m := (l.take i).length) (p := some ⟨g, 0, none⟩) (cap := cap) (l := l) (w3 := w3) hb (fun b h => by cases h; exact hgV) (Chg.refl _ _) (hu.shorter (i := i) (by omega)) rfl (by rw [hE, List.drop_length, List.append_nil]) h3)
     rw [List.length_take, Nat.min_eq_left (by omega)] at hfin
     have hwr : IntKind.i64.wrap ((i : Int) + (n : Int)) = ((i + n : Nat) : Int) := by rw [IntKind.wrap_i64]; omega
     have k1 : i ≤ l.length := by omega
     have k2 : i ≤ cap := by omega
     obtain ⟨A1, hA1⟩ : ∃ A, (if cap = i then some (⟨g, 0, none⟩ : Addr) else some ⟨g, i * 3, none⟩) = A := ⟨_, rfl⟩
     obtain ⟨A2, hA2⟩ : ∃ A, (if cap = l.length then some (⟨g, 0, none⟩ : Addr) else some ⟨g, l.length * 3, none⟩) = A := ⟨_, rfl⟩
     have k3 : (l.length : Int) - (n : Int) = (i : Int) := by omega
     have hrun : ∀ ty, (Builtin.copy_ #[121, 121] ty #[.slice A1 (l.length - i) (cap - i), .slice A2 0 (cap - l.length)]).run Tryz.prog w.drew = .ok (goInt 0) w.drew := fun ty => run_copy_zero _ _ _ ty _ i0 _ _ _ _ _ _ Tryz.underlying121 hI.out (by simp)
     have hwr2 : IntKind.i64.wrap (i : Int) = (i : Int) := by rw [IntKind.wrap_i64]; omega
     clear hb hu
     go_enter Tryz.func108, Tryz.ntmps108
     go_wp2_with fail
     go_region_law (refine step_copy_run rfl (.tmp 11) (.tmp 19) 121 121 rfl (.slice A1 (l.length - i) (cap - i)) (.slice A2 0 (cap - l.length)) (by simp [Act.eval, Act.put]) (by simp [Act.eval, Act.put]) hrun ?_)
     all_goals clear hrun
     all_goals go_wp2_with fail
     all_goals go_region
     all_goals go_wp2
     all_goals go_end0
     all_goals exact hfin.out _ (Ext.refl _).drew.drew
   · obtain ⟨cur, hg1, hcs, -, -, -, hsrc, h1, hU'⟩ := hu.cut hi
     have e0 : (useFlat (l.drop (i + n))).length = (l.length - (i + n)) * 3 := by rw [useFlat_len, List.length_drop]
     have hmin : Nat.min (l.length - (i + n)) (l.length - i) = l.length - (i + n) := Nat.min_eq_left (by omega)
     generalize useFlat (l.drop (i + n)) = cs at *
     generalize hX : (cur.toList.take (i * 3) ++ cs ++ cur.toList.drop (i * 3 + cs.length)).toArray = X at *
     obtain ⟨w5, hw5⟩ : ∃ w5, w5 = w.drew.setRow g X := ⟨_, rfl⟩
     replace hU' : UsesR 182 w5 B (.slice (some ⟨g, 0, none⟩) (l.take i ++ l.drop (i + n)).length cap) (l.take i ++ l.drop (i + n)) := by rw [hw5]; exact hU'
     have hrun : ∀ ty, (Builtin.copy_ #[121, 121] ty #[.slice (some ⟨g, i * 3, none⟩) (l.length - i) (cap - i), .slice (some ⟨g, (i + n) * 3, none⟩) (l.length - (i + n)) (cap - (i + n))]).run Tryz.prog w.drew = .ok (goInt (l.length - (i + n) : Nat)) w5 := fun ty => by
      have h := run_copy_wide w.drew 121 121 ty 182 i0 g (i * 3) (l.length - i) (cap - i) ⟨g, (i + n) * 3, none⟩ (l.length - (i + n)) (cap - (i + n)) cur 182 cs Tryz.underlying121 hI.out hg1 (by rw [e0, hmin, hz1]) hsrc (by rw [e0, hcs]; omega) h1
      rw [hmin, hX] at h
      exact h.trans (by rw [hw5])
     have hC1 : Chg (fun k => k = V ∨ some g = some k) w w5 := by rw [hw5]; exact (Chg.ofExt (Ext.refl w).drew).setRow (Or.inl (Or.inr rfl)) X
     have hbV : Blk w5 V #[.int .i64 hor, .int .i64 last, .slice (some ⟨g, 0, none⟩) l.length cap] 123 := by
      have h := hb
      unfold Blk at h ⊢
      rw [hw5, setRow_other w.drew g V X (Ne.symm hgV)]
      exact h
     have y3 : w5.cell? ⟨V, 2, none⟩ = some (.slice (some ⟨g, 0, none⟩) l.length cap) := (hbV.cell 2).trans rfl
     have z3 : w5.frozen? ⟨V, 2, none⟩ = false := hbV.fz 2
     have hl3 : V < w5.heap.size := hbV.lt
     have hfin := Lib.hid (fun w3 h3 => rem_done (i := i) (n := n) (m := (l.take i ++ l.drop (i + n)).length) (p := some ⟨g, 0, none⟩) (cap := cap) (l := l) (w3 := w3) hbV (fun b h => by cases h; exact hgV) hC1 hU' rfl rfl h3)
     have el : (l.take i ++ l.drop (i + n)).length = l.length - n := by simp; omega
     rw [el] at hfin
     have hwr : IntKind.i64.wrap ((i : Int) + (n : Int)) = ((i + n : Nat) : Int) := by rw [IntKind.wrap_i64]; omega
     have hwr2 : IntKind.i64.wrap ((l.length : Int) - (n : Int)) = ((l.length - n : Nat) : Int) := by rw [IntKind.wrap_i64]; omega
     have k1 : i ≤ l.length := by omega
     have k2 : i ≤ cap := by omega
     have k3 : i + n ≤ cap := by omega
     have k4 : ¬ cap = i := by omega
     have k5 : ¬ cap = i + n := by omega
     have k6 : l.length - n ≤ cap := by omega
     have hp0 : (0 : Int) ≤ (i : Int) + (n : Int) := by omega
     have hp1 : (i : Int) + (n : Int) ≤ (l.length : Int) := by omega
     have hp2 : ((i : Int) + (n : Int)).toNat = i + n := by omega
     clear hb hu hC1 hbV hU' e0 hmin hX hsrc h1 hg1 hcs el hw5
     go_enter Tryz.func108, Tryz.ntmps108
     go_wp2_with fail
     go_region_law (refine step_copy_run rfl (.tmp 11) (.tmp 19) 121 121 rfl (.slice (some ⟨g, i * 3, none⟩) (l.length - i) (cap - i)) (.slice (some ⟨g, (i + n) * 3, none⟩) (l.length - (i + n)) (cap - (i + n))) (by simp [Act.eval, Act.put]) (by simp [Act.eval, Act.put]) hrun ?_)
     all_goals clear hrun
     all_goals go_wp2_with fail
     all_goals go_region
     all_goals go_wp2
     all_goals go_end0
     all_goals exact hfin.out _ (Ext.refl _).drew
/-- What Add leaves. -/
def AddP (B V : Nat) (v : Value) (d : VelD) (u : UseV) (w : World) (e : Ending) (w' : World) : Prop :=
 e = .returned (.int .i64 (velAdd d u).2) ∧ ∃ v', VelM w' B V v' (velAdd d u).1 ∧ Chg (fun k => k = V ∨ v.ownBlock = some k) w w' ∧ ∀ k, v'.ownBlock = some k → v.ownBlock = some k ∨ w.heap.size ≤ k
theorem add_err {B V : Nat} {v : Value} {d : VelD} {u : UseV} {w : World} (h : VelM w B V v d) (c : Int) (hc : velAdd d u = (d, c)) (w' : World) (hE : Ext w w') : AddP B V v d u w (.returned (.int .i64 c)) w' := by
 unfold AddP
 rw [hc]
 exact ⟨rfl, v, h.ext hE, Chg.ofExt hE, fun k h => Or.inl h⟩
set_option maxRecDepth 8000 in
set_option maxHeartbeats 8000000 in
theorem velAdd_any (B V : Nat) (v : Value) (d : VelD) (u : UseV) (w : World) (h : VelM w B V v d) (hh : 1 ≤ d.hor ∧ d.hor ≤ 10000000) (hB : B ≤ w.heap.size) (h1k : d.uses.length ≤ 1000) : Calls Tryz.prog 66 #[.pointer (some ⟨V, 0, none⟩), .string u.key, .int .i64 u.t, .int .i64 u.amt] w (AddP B V v d u w) := by
 have hM := Lib.hid h
 have hend := Lib.hid (fun c hc w' hE => add_err (u := u) h c hc w' hE)
 have kT := Lib.hid (fun w1 => vtime_any u.t w1)
 have kO := Lib.hid (fun w1 (hE : Ext w w1) hn => velOld_any B V v d u.t w1 (h.ext hE) hn hh)
 obtain ⟨hb, -⟩ := h
 obtain ⟨hor, last, l⟩ := d
 obtain ⟨key, t, amt⟩ := u
 simp only at hb hend kT kO hh h1k ⊢
 have y1 : w.cell? ⟨V, 1, none⟩ = some (.int .i64 last) := (hb.cell 1).trans rfl
 have y2 : w.cell? ⟨V, 2, none⟩ = some v := (hb.cell 2).trans rfl
 by_cases c1 : key.size = 0
 · have d1 : decide ((key.size : Int) < 1) = true := decide_eq_true (by omega)
   have hV := Lib.hid (show velAdd ⟨hor, last, l⟩ ⟨key, t, amt⟩ = (⟨hor, last, l⟩, 5) by unfold velAdd; rw [if_pos (Or.inl c1)])
   clear kT kO c1
   go_enter Tryz.func66, Tryz.ntmps66
   go_wp2
   go_ret
   exact hend.out _ hV.out _ xt
 have d1 : decide ((key.size : Int) < 1) = false := decide_eq_false (by omega)
 by_cases c2 : 40 < key.size
 · have d2 : decide (40 < (key.size : Int)) = true := decide_eq_true (by omega)
   have hV := Lib.hid (show velAdd ⟨hor, last, l⟩ ⟨key, t, amt⟩ = (⟨hor, last, l⟩, 5) by unfold velAdd; rw [if_pos (Or.inr c2)])
   clear kT kO c1 c2
   go_enter Tryz.func66, Tryz.ntmps66
   go_wp2
   go_ret
   exact hend.out _ hV.out _ xt
 have d2 : decide (40 < (key.size : Int)) = false := decide_eq_false (by omega)
 have c3 : ¬ (key.size = 0 ∨ 40 < key.size) := by omega
 clear c1 c2
 by_cases c4 : timeB t = false
 · have hV := Lib.hid (show velAdd ⟨hor, last, l⟩ ⟨key, t, amt⟩ = (⟨hor, last, l⟩, 14) by unfold velAdd; rw [if_neg c3, if_pos (Or.inl c4)])
   rw [c4] at kT
   clear kO c3 c4
   go_enter Tryz.func66, Tryz.ntmps66
   go_wp2_with fail
   refine (kT.out _).mono ?_
   rintro e w1 ⟨rfl, rfl⟩
   go_wp2
   go_ret
   exact hend.out _ hV.out _ xt
 have c4t : timeB t = true := by simpa using c4
 rw [c4t] at kT
 by_cases c5 : t < last
 · have d5 : decide (t < last) = true := decide_eq_true c5
   have hV := Lib.hid (show velAdd ⟨hor, last, l⟩ ⟨key, t, amt⟩ = (⟨hor, last, l⟩, 14) by unfold velAdd; rw [if_neg c3, if_pos (Or.inr c5)])
   clear kO c3 c4 c5
   go_enter Tryz.func66, Tryz.ntmps66
   go_wp2_with fail
   refine (kT.out _).mono ?_
   rintro e w1 ⟨rfl, rfl⟩
   go_wp2
   go_ret
   exact hend.out _ hV.out _ xt
 have d5 : decide (t < last) = false := decide_eq_false c5
 have c6 : ¬ (timeB t = false ∨ t < last) := by rintro (h | h); exact c4 h; exact c5 h
 clear c4 c5
 by_cases c7 : amt < 0
 · have d7 : decide (amt < 0) = true := decide_eq_true c7
   have hV := Lib.hid (show velAdd ⟨hor, last, l⟩ ⟨key, t, amt⟩ = (⟨hor, last, l⟩, 4) by unfold velAdd; rw [if_neg c3, if_neg c6, if_pos (Or.inl c7)])
   clear kO c3 c6 c7
   go_enter Tryz.func66, Tryz.ntmps66
   go_wp2_with fail
   refine (kT.out _).mono ?_
   rintro e w1 ⟨rfl, rfl⟩
   go_wp2
   go_ret
   exact hend.out _ hV.out _ xt
 have d7 : decide (amt < 0) = false := decide_eq_false c7
 by_cases c8 : 999999999999 < amt
 · have d8 : decide (999999999999 < amt) = true := decide_eq_true c8
   have hV := Lib.hid (show velAdd ⟨hor, last, l⟩ ⟨key, t, amt⟩ = (⟨hor, last, l⟩, 4) by unfold velAdd; rw [if_neg c3, if_neg c6, if_pos (Or.inr c8)])
   clear kO c3 c6 c7 c8
   go_enter Tryz.func66, Tryz.ntmps66
   go_wp2_with fail
   refine (kT.out _).mono ?_
   rintro e w1 ⟨rfl, rfl⟩
   go_wp2
   go_ret
   exact hend.out _ hV.out _ xt
 have d8 : decide (999999999999 < amt) = false := decide_eq_false c8
 have c9 : ¬ (amt < 0 ∨ 999999999999 < amt) := by omega
 clear c7 c8
 have hO := oldN_le hor t l
 have kR := Lib.hid (fun w1 (hE : Ext w w1) => show Calls Tryz.prog 108 #[.pointer (some ⟨V, 0, none⟩), .int .i64 0, .int .i64 (oldN hor t l)] w1 (RemP B V 0 (oldN hor t l) v ⟨hor, last, l⟩ w1) from velRemove_any B V 0 (oldN hor t l) v ⟨hor, last, l⟩ w1 (hM.out.ext hE) (by simpa using hO))
 replace kO := Lib.hid (fun w1 hE => kO.out w1 hE c4t)
 obtain ⟨p, c, rfl⟩ := hM.out.2.form
 obtain ⟨i0, hI, hz0, hz1, hz2⟩ := info_partsE infoUseE
 replace hI := Lib.hid hI
 replace hz0 := Lib.hid hz0
 replace hz1 := Lib.hid hz1
 replace hz2 := Lib.hid hz2
 have e1 : wrap64 ((l.length : Int) - (oldN hor t l : Int)) = (l.length : Int) - (oldN hor t l : Int) := by unfold wrap64; omega
 by_cases c10 : 1000 ≤ l.length - oldN hor t l
 · have d10 : decide (1000 ≤ (l.length : Int) - (oldN hor t l : Int)) = true := decide_eq_true (by omega)
   have hV := Lib.hid (show velAdd ⟨hor, last, l⟩ ⟨key, t, amt⟩ = (⟨hor, last, l⟩, 12) by unfold velAdd; rw [if_neg c3, if_neg c6, if_neg c9, if_pos c10])
   generalize oldN hor t l = O at *
   clear kR c3 c6 c9 c10
   go_enter Tryz.func66, Tryz.ntmps66
   go_wp2_with fail
   refine (kT.out _).mono ?_
   rintro e w1 ⟨rfl, rfl⟩
   go_wp2_with fail
   refine (kO.out _ (Ext.refl _)).mono ?_
   rintro e w2 ⟨rfl, hE2⟩
   replace y2 := hE2.get y2
   go_wp2
   go_ret
   exact hend.out _ hV.out _ xt
 · have d10 : decide (1000 ≤ (l.length : Int) - (oldN hor t l : Int)) = false := decide_eq_false (by omega)
   have hV := Lib.hid (show velAdd ⟨hor, last, l⟩ ⟨key, t, amt⟩ = (⟨hor, t, l.drop (oldN hor t l) ++ [⟨key, t, amt⟩]⟩, 0) by unfold velAdd; rw [if_neg c3, if_neg c6, if_neg c9, if_neg c10])
   have hl' : (l.drop (oldN hor t l)).length ≤ 999 := by rw [List.length_drop]; omega
   generalize oldN hor t l = O at *
   clear c3 c6 c9 c10 hend
   go_enter Tryz.func66, Tryz.ntmps66
   go_wp2_with fail
   refine (kT.out _).mono ?_
   rintro e w1 ⟨rfl, rfl⟩
   go_wp2_with fail
   refine (kO.out _ (Ext.refl _)).mono ?_
   rintro e w2 ⟨rfl, hE2⟩
   replace y2 := hE2.get y2
   go_wp2_with fail
   refine (kR.out _ hE2).mono ?_
   rintro e w3 ⟨rfl, v', hM3, hC3, ho3⟩
   simp only [List.take_zero, List.nil_append, Nat.zero_add] at hM3
   generalize l.drop O = l' at *
   have hC := Lib.hid (Chg.pre hE2 hC3)
   obtain ⟨p', c', rfl⟩ := hM3.2.form
   have x1 : w3.cell? ⟨V, 1, none⟩ = some (.int .i64 last) := (hM3.1.cell 1).trans rfl
   have x2 : w3.cell? ⟨V, 2, none⟩ = some (.slice p' l'.length c') := (hM3.1.cell 2).trans rfl
   have hsz := hC.out.size
   have hsep := Lib.hid hM3.sep
   replace hM3 := Lib.hid hM3
   replace ho3 := Lib.hid ho3
   clear kT kO kR y1 y2 hC3 e1 hb d1 d2 d5 d7 d8 d10
   go_wp2_with (at_builtin; refine wpList_append_lies _ rfl _ _ 121 rfl B 182 i0 (.agg #[.string ⟨#[]⟩, .int .i64 0, .int .i64 0]) 3 32 Tryz.underlying121 hI.out hz0.out hz1.out hz2.out rfl (by decide) _ _ _ rfl (ownsRow_extE hM3.out.2.2 ((Ext.refl _).alloc _)) ⟨w3.heap.size, 0, none⟩ 1 1 (useCells ⟨key, t, amt⟩) rfl rfl ?_ ?_ (by decide) ?_ ?_ ?_ (w3.heap.size + 1) ?_ ?_)
   · exact World.news_of_block (Blk.new' w3 #[.string key, .int .i64 t, .int .i64 amt] 182 _ (by simp))
   · exact use_one _
   · unfold maxLen; omega
   · omega
   · simp; omega
   · simp
   intro gg cap w5 hown5 hgrow5 hat5 hgl5
   have hlV := hM3.out.1.lt
   have hb5 : Blk w5 V #[.int .i64 hor, .int .i64 last, .slice p' l'.length c'] 123 := (hM3.out.1.alloc (.cells #[.string key, .int .i64 t, .int .i64 amt] 182)).chg (Chg.ofGrown hgrow5) (fun e => hsep.out _ e.symm rfl)
   have hU5 := UsesR.push (T := 182) (l := l') (u := ⟨key, t, amt⟩) (by omega) hown5
   have hC5 := (hC.out.ext ((Ext.refl w3).alloc (.cells #[.string key, .int .i64 t, .int .i64 amt] 182))).comp (Chg.ofGrown hgrow5) (fun i hi => Or.inl (Or.inr (ho3.out.symm.trans hi.symm)))
   have hgV : gg ≠ V := by
    rcases hat5 with h | h
    · exact hsep.out gg h
    · omega
   have ha5 : ∀ k, some gg = some k → (Value.slice p l.length c).ownBlock = some k ∨ w1.heap.size ≤ k := by
    intro k hk
    injection hk with hk
    subst hk
    rcases hat5 with h | h
    · exact Or.inl (ho3.out.symm.trans h)
    · exact Or.inr (by omega)
   have x1 : w5.cell? ⟨V, 1, none⟩ = some (.int .i64 last) := (hb5.cell 1).trans rfl
   have x2 : w5.cell? ⟨V, 2, none⟩ = some (.slice p' l'.length c') := (hb5.cell 2).trans rfl
   have z1 : w5.frozen? ⟨V, 1, none⟩ = false := hb5.fz 1
   have z2 : w5.frozen? ⟨V, 2, none⟩ = false := hb5.fz 2
   have hl5 := hb5.lt
   have hfin := Lib.hid (fun w6 (h6 : Ext ((w5.setCell ⟨V, 2, none⟩ (.slice (some ⟨gg, 0, none⟩) (l'.length + 1) cap)).setCell ⟨V, 1, none⟩ (.int .i64 t)) w6) => show AddP B V (.slice p l.length c) ⟨hor, last, l⟩ ⟨key, t, amt⟩ w1 (.returned (.int .i64 0)) w6 by
    unfold AddP
    rw [hV.out]
    refine ⟨rfl, .slice (some ⟨gg, 0, none⟩) (l'.length + 1) cap, VelM.ext ⟨(hb5.set 2 _).set 1 _, ?_⟩ h6, (((hC5.setCell (p := ⟨V, 2, none⟩) (Or.inl (Or.inl rfl)) _).setCell (p := ⟨V, 1, none⟩) (Or.inl (Or.inl rfl)) _).ext h6), ha5⟩
    exact hU5.chg (((Chg.refl (fun k => k = V) w5).setCell (p := ⟨V, 2, none⟩) (Or.inl rfl) _).setCell (p := ⟨V, 1, none⟩) (Or.inl rfl) _) (fun b h1 h2 => hgV (by cases h1; exact h2)))
   clear hV hC hsep hM3 hown5 hgrow5 hat5 hb5 hU5 hC5 ha5
   go_wp2
   go_ret
   exact hfin.out _ xt
end Go.Proofs.YtangdoidkcelfaaGreatDoor
