/- Contracts of undo and Undo for a use that is the last, or is not there (walks; printed by gen/h63.py). Contracts of Engine.Undo (walks; printed by gen/h64.py). The contract of reference 26's SameVerdict at equal verdicts (walk; printed by gen/h65.py). -/
import Derived.Test.YtangdoidkcelfaaGreatDoorOv
import Derived.Test.YtangdoidkcelfaaGreatDoorNb
import Derived.Test.YtangdoidkcelfaaGreatDoorNc
import Derived.Test.YtangdoidkcelfaaGreatDoorNd
import Derived.Test.YtangdoidkcelfaaGreatDoorKl
import Derived.Deep.QuietTactic
import Derived.BigQuiet
namespace Go.Proofs.YtangdoidkcelfaaGreatDoor
open Go.RowKit Go.Sort
theorem undo_vel {w w' : World} {X V : Nat} {uv vv vv' rv tv : Value} {d : EngD} {vel : VelD} (h : EngM w X V uv vv rv tv d) (hC : Chg (fun k => k = V ∨ vv.ownBlock = some k) w w') (hV : VelM w' V V vv' vel) :
 EngM w' X V uv vv' rv tv ⟨vel, d.hor, d.last, d.uses, d.rules, d.names, d.refer, d.decline⟩ ∧ Chg (EngF w X V) w w' :=
 ⟨h.velC hC hV, hC.mono (fun i _ e => by
  rcases e with e | e
  · rw [e]; exact h.n.fV
  · exact h.n.fv e)⟩
theorem undo_del {w w' : World} {X V : Nat} {uv uv' vv rv tv : Value} {d : EngD} {us : List UseV} (h : EngM w X V uv vv rv tv d) (hC : Chg (fun k => uv.ownBlock = some k) w w') (hU : UsesR 135 w' V uv' us) :
 (w'.cell? ⟨X, 3, none⟩ = some uv ∧ w'.frozen? ⟨X, 3, none⟩ = false ∧ X < w'.heap.size) ∧ EngM (w'.setCell ⟨X, 3, none⟩ uv') X V uv' vv rv tv ⟨d.vel, d.hor, d.last, us, d.rules, d.names, d.refer, d.decline⟩ ∧ Chg (EngF w X V) w (w'.setCell ⟨X, 3, none⟩ uv') := by
 have hN := h.usesC hC
 have hg : Chg (EngF w X V) w w' := hC.mono (fun i _ e => h.u.fU e)
 have hs : ∀ v', Chg (EngF w' X V) w' (w'.setCell ⟨X, 3, none⟩ v') := fun v' => ((Chg.refl (fun k => k = X) w').setCell (p := ⟨X, 3, none⟩) (Or.inl rfl) _).mono (fun i _ e => by rw [e]; exact hN.fX)
 exact ⟨⟨(hN.x.cell 3).trans rfl, hN.x.fz 3, hN.x.lt⟩, hN.setU hU, EngF.trans hg (hs _)⟩
def undD (d : EngD) (A A' : List UseV) : EngD := ⟨⟨d.vel.hor, d.vel.last, A⟩, d.hor, d.last, A', d.rules, d.names, d.refer, d.decline⟩
def UndP (X V : Nat) (rv tv : Value) (d : EngD) (A A' : List UseV) (w : World) (e : Ending) (w' : World) : Prop :=
 e = .returned (.int .i64 0) ∧ ∃ uv' vv', EngM w' X V uv' vv' rv tv (undD d A A') ∧ Chg (EngF w X V) w w'
set_option maxRecDepth 8000 in
set_option maxHeartbeats 4000000 in
theorem undo_miss (X V : Nat) (uv vv rv tv : Value) (d : EngD) (now : Int) (kv : Value) (k : ByteArray) (amt : Int) (w : World) (h : EngM w X V uv vv rv tv d) (hK : KysM w kv [k]) (hm : ⟨k, now, amt⟩ ∉ d.uses) : Calls Tryz.prog 49 #[.pointer (some ⟨X, 0, none⟩), .int .i64 now, kv, .int .i64 amt] w (OneQ (.int .i64 6) w) := by
 have hend := Lib.hid (fun w' (h : Ext w w') => show OneQ (.int .i64 6) w (.returned (.int .i64 6)) w' from ⟨rfl, h⟩)
 generalize OneQ (.int .i64 6) w = PP at *
 have kC := Lib.hid (fun w1 (hE : Ext w w1) => con_use V uv d.uses ⟨k, now, amt⟩ w1 (h.u.ext hE))
 rw [fstU_none 0 hm] at kC
 have x3 : w.cell? ⟨X, 3, none⟩ = some uv := (h.x.cell 3).trans rfl
 obtain ⟨up, uc, hu⟩ := h.u.form
 unfold OneQ useAgg at kC
 generalize d.uses.length = UL at *
 subst hu
 obtain ⟨kp, kc, rfl, -, hkc⟩ := hK
 obtain ⟨kb, ko, rfl, hk2⟩ := hkc Nat.zero_lt_one
 have k0 : w.cell? ⟨kb, ko, none⟩ = some (.string k) := hk2 0 Nat.zero_lt_one
 clear h hm hkc hk2
 simp only [List.length_cons, List.length_nil] at *
 go_enter Tryz.func49, Tryz.ntmps49
 go_wp2_with fail
 go_loopw [16] (fun i wr => i = .int .i64 0 ∧ Ext w wr) (fun i _ => 1 - (intOf i).toNat)
 case atStart => exact ⟨rfl, Ext.refl _⟩
 case round =>
  obtain ⟨rfl, hE⟩ := hrel
  replace k0 := hE.get k0
  replace x3 := hE.get x3
  go_wp2_with fail
  refine (kC.out _ hE).mono ?_
  rintro e w2 ⟨rfl, hE2⟩
  go_wp2_with fail
  try go_ret
  exact hend.out _ (hE.trans hE2)
set_option maxRecDepth 8000 in
set_option maxHeartbeats 4000000 in
theorem undo_hit (X V : Nat) (uv vv rv tv : Value) (d : EngD) (now : Int) (kv : Value) (k : ByteArray) (amt : Int) (A A' : List UseV) (w : World) (h : EngM w X V uv vv rv tv d) (hK : KysM w kv [k]) (hm : ⟨k, now, amt⟩ ∉ A') (hA' : d.uses = A' ++ [⟨k, now, amt⟩]) (hA : d.vel.uses = A ++ [⟨k, now, amt⟩]) : Calls Tryz.prog 49 #[.pointer (some ⟨X, 0, none⟩), .int .i64 now, kv, .int .i64 amt] w (UndP X V rv tv d A A' w) := by
 obtain ⟨⟨vh, vl, vus⟩, hor, last, us, rules, names, refer, decline⟩ := d
 simp only at hA' hA
 subst hA' hA
 have hlen : A'.length + 1 ≤ 1000000 := by
  have := h.u.1
  simpa using this
 have hvl := h.v.2.1
 have hend := Lib.hid (fun wa wb w' uv' vv' (hE : Ext w wa) (hC : Chg (EngF wa X V) wa wb) (hM : EngM wb X V uv' vv' rv tv (undD ⟨⟨vh, vl, A ++ [⟨k, now, amt⟩]⟩, hor, last, A' ++ [⟨k, now, amt⟩], rules, names, refer, decline⟩ A A')) (hE2 : Ext wb w') => show UndP X V rv tv ⟨⟨vh, vl, A ++ [⟨k, now, amt⟩]⟩, hor, last, A' ++ [⟨k, now, amt⟩], rules, names, refer, decline⟩ A A' w (.returned (.int .i64 0)) w' from ⟨rfl, uv', vv', hM.ext hE2, EngF.ext (EngF.pre hE hC) hE2⟩)
 generalize UndP X V rv tv ⟨⟨vh, vl, A ++ [⟨k, now, amt⟩]⟩, hor, last, A' ++ [⟨k, now, amt⟩], rules, names, refer, decline⟩ A A' w = PP at *
 unfold undD at hend
 simp only at hend
 have kC := Lib.hid (fun w1 (hE : Ext w w1) => con_use V uv (A' ++ [⟨k, now, amt⟩]) ⟨k, now, amt⟩ w1 (h.u.ext hE))
 have q1 : decide (0 ≤ fstU ⟨k, now, amt⟩ 0 (A' ++ [⟨k, now, amt⟩])) = true := by rw [fstU_last 0 hm]; exact decide_eq_true (by omega)
 rw [q1] at kC
 have kI := Lib.hid (fun uv' w1 (hU : UsesR 135 w1 V uv' (A' ++ [⟨k, now, amt⟩])) => idx_use V uv' (A' ++ [⟨k, now, amt⟩]) ⟨k, now, amt⟩ w1 hU)
 rw [fstU_last 0 hm, Nat.zero_add] at kI
 have kD := Lib.hid (fun uv' w1 (hU : UsesR 135 w1 V uv' (A' ++ [⟨k, now, amt⟩])) => delLast_any V uv' A' ⟨k, now, amt⟩ w1 hU)
 have kR := Lib.hid (fun w1 (hE : Ext w w1) => velRem_last V V vv vh vl A ⟨k, now, amt⟩ w1 (h.v.ext hE))
 unfold OneQ useAgg at kC kI
 simp only at kR
 have x3 : w.cell? ⟨X, 3, none⟩ = some uv := (h.x.cell 3).trans rfl
 have x0 : w.cell? ⟨X, 0, none⟩ = some (.pointer (some ⟨V, 0, none⟩)) := (h.x.cell 0).trans rfl
 obtain ⟨kp, kc, rfl, -, hkc⟩ := hK
 obtain ⟨kb, ko, rfl, hk2⟩ := hkc Nat.zero_lt_one
 have k0 : w.cell? ⟨kb, ko, none⟩ = some (.string k) := hk2 0 Nat.zero_lt_one
 have hul : (A' ++ [(⟨k, now, amt⟩ : UseV)]).length = A'.length + 1 := by simp
 obtain ⟨up, uc, hu⟩ := h.u.form
 simp only at hu
 rw [hul] at hu
 subst hu
 clear hm hkc hk2 q1 hvl hul
 replace h := Lib.hid h
 simp only [List.length_cons, List.length_nil] at *
 go_enter Tryz.func49, Tryz.ntmps49
 go_wp2_with fail
 go_loopw [16] (fun i wr => ∃ j : Nat, j ≤ 1 ∧ i = .int .i64 j ∧ Ext w wr) (fun i _ => 1 - (intOf i).toNat)
 case atStart => exact ⟨0, by omega, rfl, Ext.refl _⟩
 case round =>
  obtain ⟨j, hj, rfl, hE⟩ := hrel
  have y0 := hE.get k0
  have y3 := hE.get x3
  by_cases hj0 : j = 0
  · subst hj0
    clear hend kI kD kR
    go_wp2_with fail
    refine (kC.out _ hE).mono ?_
    rintro e w2 ⟨rfl, hE2⟩
    go_wp2_with fail
    go_roundw
    case rel => exact ⟨1, by omega, by go_num, hE.trans hE2⟩
    case measure => simp [intOf]
  · obtain rfl : j = 1 := by omega
    rw [show ((1 : Nat) : Int) = 1 from rfl]
    clear hj hj0 y0 y3 kC
    go_wp2_with fail
    rename World => wo
    go_loopw [33] (fun i wr => ∃ j : Nat, i = .int .i64 j ∧ Hid ((j = 0 ∧ Ext w wr) ∨ (j = 1 ∧ ∀ w', Ext wr w' → PP (.returned (.int .i64 0)) w'))) (fun i _ => 1 - (intOf i).toNat)
    case atStart => exact ⟨0, rfl, Lib.hid (Or.inl ⟨rfl, hE⟩)⟩
    case round =>
     clear hE
     obtain ⟨j, rfl, hj⟩ := hrel
     rcases hj.out with ⟨rfl, hE⟩ | ⟨rfl, hF⟩
     all_goals clear hj
     · have y0 := hE.get k0
       have y3 := hE.get x3
       have yx := hE.get x0
       have hM := Lib.hid (h.out.ext hE)
       go_wp2_with fail
       refine (kR.out _ hE).mono ?_
       rintro e w2 ⟨rfl, vv2, hV2, hC2, -⟩
       obtain ⟨hM2, hg2⟩ := undo_vel hM.out hC2 hV2
       simp only at hM2
       have z3 : w2.cell? ⟨X, 3, none⟩ = some (.slice up (A'.length + 1) uc) := (hM2.x.cell 3).trans rfl
       replace hM2 := Lib.hid hM2
       replace hg2 := Lib.hid hg2
       clear hV2 hC2 hM kR y0 y3 yx
       go_wp2_with fail
       refine (kI.out _ _ hM2.out.u).mono ?_
       rintro e w3 ⟨rfl, hE3⟩
       replace z3 := hE3.get z3
       replace hM2 := Lib.hid (hM2.out.ext hE3)
       replace hg2 := Lib.hid (EngF.ext hg2.out hE3)
       clear hE3
       go_wp2_with fail
       refine (kD.out _ _ hM2.out.u).mono ?_
       rintro e w4 ⟨uv4, rfl, hU4, hC4, -⟩
       obtain ⟨p4, c4, rfl⟩ := hU4.form
       obtain ⟨⟨s3, sf, sl⟩, hM4, hg4⟩ := undo_del hM2.out hC4 hU4
       have hfin := Lib.hid (fun w' (hE' : Ext (w4.setCell ⟨X, 3, none⟩ (.slice p4 A'.length c4)) w') => hend.out _ _ w' (.slice p4 A'.length c4) vv2 hE (EngF.trans hg2.out hg4) hM4 hE')
       clear hM4 hg4 hM2 hg2 hU4 hC4 z3 hend kI kD
       go_wp2_with fail
       go_roundw
       case rel => exact ⟨1, by go_num, Lib.hid (Or.inr ⟨rfl, hfin.out⟩)⟩
       case measure => simp [intOf]
     · replace hF := Lib.hid hF
       clear hend kI kD kR
       go_wp2_with fail
       try go_ret
       exact hF.out _ (Ext.refl _)
end Go.Proofs.YtangdoidkcelfaaGreatDoor
namespace Go.Proofs.YtangdoidkcelfaaGreatDoor
open Go.RowKit Go.Sort
theorem UndP.extU {X V : Nat} {rv tv : Value} {d : EngD} {A A' : List UseV} {w w1 w2 : World} {e : Ending} (h : UndP X V rv tv d A A' w e w1) (k : Ext w1 w2) : UndP X V rv tv d A A' w e w2 := by
 obtain ⟨h1, uv', vv', h2, h3⟩ := h
 exact ⟨h1, uv', vv', h2.ext k, EngF.ext h3 k⟩
theorem UndP.preU {X V : Nat} {rv tv : Value} {d : EngD} {A A' : List UseV} {w w1 w2 : World} {e : Ending} (k : Ext w w1) (h : UndP X V rv tv d A A' w1 e w2) : UndP X V rv tv d A A' w e w2 := by
 obtain ⟨h1, uv', vv', h2, h3⟩ := h
 exact ⟨h1, uv', vv', h2, EngF.pre k h3⟩
theorem OneQ.extU {v : Value} {w w1 w2 : World} {e : Ending} (h : OneQ v w e w1) (k : Ext w1 w2) : OneQ v w e w2 := ⟨h.1, h.2.trans k⟩
set_option maxRecDepth 8000 in
set_option maxHeartbeats 4000000 in
theorem fundo_miss (X V : Nat) (uv vv rv tv : Value) (d : EngD) (now : Int) (fv : Value) (l : List Feat) (k : ByteArray) (amt : Int) (w : World) (h : EngM w X V uv vv rv tv d) (hs : ∀ s ∈ d.names, s.length ≤ 1000000) (hF : Feats w fv l) (hT : TxtB l) (hk : keysV d.names l = [k]) (hm : ⟨k, now, amt⟩ ∉ d.uses) : Calls Tryz.prog 22 #[.pointer (some ⟨X, 0, none⟩), .int .i64 now, fv, .int .i64 amt] w (OneQ (.int .i64 6) w) := by
 have kK := Lib.hid (fun w1 (hE : Ext w w1) => keys_any X tv d.names fv l w1 (hE.get ((h.x.cell 5).trans rfl)) (h.ext hE).t.toM (hF.ext hE) hT hs)
 unfold KysP at kK
 rw [hk] at kK
 have kA := Lib.hid (fun w1 (hE : Ext w w1) kv (hK : KysM w1 kv [k]) => (undo_miss X V uv vv rv tv d now kv k amt w1 (h.ext hE) hK hm).mono fun e w' hP => show OneQ (.int .i64 6) w e w' from ⟨hP.1, hE.trans hP.2⟩)
 have hfin := Lib.hid (fun e w1 w' (hP : OneQ (.int .i64 6) w e w1) (hE : Ext w1 w') => show OneQ (.int .i64 6) w e w' from hP.extU hE)
 have hval := Lib.hid (fun e w1 (hP : OneQ (.int .i64 6) w e w1) => hP.1)
 obtain ⟨fp, fc, rfl⟩ := hF.form
 generalize OneQ (.int .i64 6) w = PP at *
 clear h hs hF hT hk
 go_enter Tryz.func22, Tryz.ntmps22
 go_wp2_with fail
 go_region_held3 (fun _ => True) (trivial) (first | (go_at_call 44; refine (kK.out _ (by first | exact Ext.refl _ | exact (Ext.refl _).drew)).mono ?_; rintro e w6 ⟨kv, rfl, ⟨hKM, hKT⟩, hE6⟩; have hE7 : Ext w w6 := Ext.trans (by first | exact Ext.refl _ | exact (Ext.refl _).drew) hE6; replace hKM := Lib.hid hKM; clear hKT) | (go_at_call 49; refine (kA.out _ hE7 _ hKM.out).mono ?_; rintro e w8 hP; obtain rfl := hval.out _ _ hP; replace hP := Lib.hid hP))
 go_wp2
 try go_ret
 exact hfin.out _ _ _ hP.out xt
set_option maxRecDepth 8000 in
set_option maxHeartbeats 4000000 in
theorem fundo_hit (X V : Nat) (uv vv rv tv : Value) (d : EngD) (now : Int) (fv : Value) (l : List Feat) (k : ByteArray) (amt : Int) (A A' : List UseV) (w : World) (h : EngM w X V uv vv rv tv d) (hs : ∀ s ∈ d.names, s.length ≤ 1000000) (hF : Feats w fv l) (hT : TxtB l) (hk : keysV d.names l = [k]) (hm : ⟨k, now, amt⟩ ∉ A') (hA' : d.uses = A' ++ [⟨k, now, amt⟩]) (hA : d.vel.uses = A ++ [⟨k, now, amt⟩]) : Calls Tryz.prog 22 #[.pointer (some ⟨X, 0, none⟩), .int .i64 now, fv, .int .i64 amt] w (UndP X V rv tv d A A' w) := by
 have kK := Lib.hid (fun w1 (hE : Ext w w1) => keys_any X tv d.names fv l w1 (hE.get ((h.x.cell 5).trans rfl)) (h.ext hE).t.toM (hF.ext hE) hT hs)
 unfold KysP at kK
 rw [hk] at kK
 have kA := Lib.hid (fun w1 (hE : Ext w w1) kv (hK : KysM w1 kv [k]) => (undo_hit X V uv vv rv tv d now kv k amt A A' w1 (h.ext hE) hK hm hA' hA).mono fun e w' hP => UndP.preU hE hP)
 have hfin := Lib.hid (fun e w1 w' (hP : UndP X V rv tv d A A' w e w1) (hE : Ext w1 w') => show UndP X V rv tv d A A' w e w' from hP.extU hE)
 have hval := Lib.hid (fun e w1 (hP : UndP X V rv tv d A A' w e w1) => hP.1)
 obtain ⟨fp, fc, rfl⟩ := hF.form
 generalize UndP X V rv tv d A A' w = PP at *
 clear h hs hF hT hk
 go_enter Tryz.func22, Tryz.ntmps22
 go_wp2_with fail
 go_region_held3 (fun _ => True) (trivial) (first | (go_at_call 44; refine (kK.out _ (by first | exact Ext.refl _ | exact (Ext.refl _).drew)).mono ?_; rintro e w6 ⟨kv, rfl, ⟨hKM, hKT⟩, hE6⟩; have hE7 : Ext w w6 := Ext.trans (by first | exact Ext.refl _ | exact (Ext.refl _).drew) hE6; replace hKM := Lib.hid hKM; clear hKT) | (go_at_call 49; refine (kA.out _ hE7 _ hKM.out).mono ?_; rintro e w8 hP; obtain rfl := hval.out _ _ hP; replace hP := Lib.hid hP))
 go_wp2
 try go_ret
 exact hfin.out _ _ _ hP.out xt
end Go.Proofs.YtangdoidkcelfaaGreatDoor
namespace Go.Proofs.YtangdoidkcelfaaGreatDoor
open Go.RowKit Go.Sort
set_option maxRecDepth 8000 in
set_option maxHeartbeats 4000000 in
theorem samev_any (a s : Int) (fl : List ByteArray) (fa fb : Value) (w : World) (ha : KysM w fa fl) (hb : KysM w fb fl) : Calls Tryz.prog 23 #[.agg #[.int .i64 a, .int .i64 s, fa], .agg #[.int .i64 a, .int .i64 s, fb]] w (fun e w' => e = .returned (.bool true) ∧ Ext w w') := by
 obtain ⟨pa, ca, rfl, hll, hxa⟩ := ha
 obtain ⟨pb, cb, rfl, -, hxb⟩ := hb
 replace hxa := Lib.hid hxa
 replace hxb := Lib.hid hxb
 go_enter Tryz.func23, Tryz.ntmps23
 go_wp2_with fail
 have ba := Lib.hid ((Blk.new w #[.int .i64 a, .int .i64 s, .slice pa fl.length ca] 24).alloc (.cells #[.int .i64 a, .int .i64 s, .slice pb fl.length cb] 24))
 have bb := Lib.hid (Blk.new' (w.alloc (.cells #[.int .i64 a, .int .i64 s, .slice pa fl.length ca] 24)) #[.int .i64 a, .int .i64 s, .slice pb fl.length cb] 24 (w.heap.size + 1) (by simp))
 have hE0 : Ext w ((w.alloc (.cells #[.int .i64 a, .int .i64 s, .slice pa fl.length ca] 24)).alloc (.cells #[.int .i64 a, .int .i64 s, .slice pb fl.length cb] 24)) := xt
 generalize (w.alloc (.cells #[.int .i64 a, .int .i64 s, .slice pa fl.length ca] 24)).alloc (.cells #[.int .i64 a, .int .i64 s, .slice pb fl.length cb] 24) = w1 at *
 go_loopw [5] (fun i wr => ∃ k : Nat, k ≤ fl.length ∧ i = .int .i64 k ∧ Ext w1 wr) (fun i _ => fl.length - (intOf i).toNat)
 case atStart => exact ⟨0, Nat.zero_le _, rfl, Ext.refl _⟩
 case round =>
  obtain ⟨k, hk, rfl, hE⟩ := hrel
  have a2 : wr.cell? ⟨w.heap.size, 2, none⟩ = some (.slice pa fl.length ca) := ((ba.out.ext hE).cell 2).trans rfl
  have b2 : wr.cell? ⟨w.heap.size + 1, 2, none⟩ = some (.slice pb fl.length cb) := ((bb.out.ext hE).cell 2).trans rfl
  have la := (ba.out.ext hE).lt
  have lb := (bb.out.ext hE).lt
  by_cases hlt : k < fl.length
  · obtain ⟨pb1, oa, rfl, xa⟩ := hxa.out (by omega)
    obtain ⟨pb2, ob, rfl, xb⟩ := hxb.out (by omega)
    have x0 := (hE0.trans hE).get (xa k hlt)
    have y0 := (hE0.trans hE).get (xb k hlt)
    clear xa xb
    generalize fl.getD k ⟨#[]⟩ = f at *
    go_wp2_with fail
    go_quiet (fail)
    go_wp2
    go_roundw
    case rel => exact ⟨k + 1, by omega, by go_num, xt⟩
    case measure => simp [intOf]; omega
  · obtain rfl : k = fl.length := by omega
    go_wp2_with fail
    try go_ret
    exact ⟨rfl, hE0.trans hE⟩
end Go.Proofs.YtangdoidkcelfaaGreatDoor
