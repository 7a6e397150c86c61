/- The contract of Record (walk; printed by gen/h45.py). -/
import Derived.Test.YtangdoidkcelfaaGreatDoorNc
namespace Go.Proofs.YtangdoidkcelfaaGreatDoor
open Go.RowKit Go.Sort
theorem FAddP.pre {X V : Nat} {rv tv : Value} {d : EngD} {now amt : Int} {ks : List ByteArray} {w w1 w' : World} {e : Ending} (hE : Ext w w1) (h : FAddP X V rv tv d now ks amt w1 e w') : FAddP X V rv tv d now ks amt w e w' := by
 obtain ⟨h1, uv, vv, h2, h3⟩ := h
 exact ⟨h1, uv, vv, h2, EngF.pre hE h3⟩
theorem FAddP.ext {X V : Nat} {rv tv : Value} {d : EngD} {now amt : Int} {ks : List ByteArray} {w w1 w' : World} {e : Ending} (h : FAddP X V rv tv d now ks amt w e w1) (hE : Ext w1 w') : FAddP X V rv tv d now ks amt w e w' := by
 obtain ⟨h1, uv, vv, h2, h3⟩ := h
 exact ⟨h1, uv, vv, h2.ext hE, EngF.ext h3 hE⟩
set_option maxRecDepth 8000 in
set_option maxHeartbeats 4000000 in
theorem frecord_any (X V : Nat) (uv vv rv tv : Value) (d : EngD) (now : Int) (fv : Value) (l : List Feat) (amt : Int) (w : World) (h : EngM w X V uv vv rv tv d) (ok : VelOk d.vel) (hh : 1 ≤ d.hor ∧ d.hor ≤ 10000000) (hs : ∀ s ∈ d.names, s.length ≤ 1000000) (hF : Feats w fv l) (hT : TxtB l) : Calls Tryz.prog 16 #[.pointer (some ⟨X, 0, none⟩), .int .i64 now, fv, .int .i64 amt] w (FAddP X V rv tv d now (keysV d.names l) amt w) := by
 have kK := Lib.hid (fun w1 (hE : Ext w w1) => keys_any X tv d.names fv l w1 (hE.get ((h.x.cell 5).trans rfl)) (h.ext hE).t.toM (hF.ext hE) hT hs)
 unfold KysP at kK
 have kA := Lib.hid (fun w1 (hE : Ext w w1) kv (hK : KysM w1 kv (keysV d.names l)) (hKT : StrT w1 kv) => (fadd_any X V uv vv rv tv d now kv (keysV d.names l) amt w1 (h.ext hE) ok hh hK hKT).mono fun e w' hP => hP.pre hE)
 have hfin := Lib.hid (fun e w1 w' (hP : FAddP X V rv tv d now (keysV d.names l) amt w e w1) (hE : Ext w1 w') => hP.ext hE)
 have hval := Lib.hid (fun e w1 (hP : FAddP X V rv tv d now (keysV d.names l) amt w e w1) => hP.1)
 obtain ⟨fp, fc, rfl⟩ := hF.form
 generalize FAddP X V rv tv d now (keysV d.names l) amt w = PP at *
 generalize (addV d now (keysV d.names l) amt).2 = res at *
 generalize keysV d.names l = ks at *
 clear h ok hh hs hF hT
 go_enter Tryz.func16, Tryz.ntmps16
 go_wp2_with fail
 go_region_held3 (fun _ => True) (trivial) (first | (go_at_call 44; refine (kK.out _ (by first | exact Ext.refl _ | exact (Ext.refl _).drew)).mono ?_; rintro e w6 ⟨kv, rfl, ⟨hKM, hKT⟩, hE6⟩; have hE7 : Ext w w6 := Ext.trans (by first | exact Ext.refl _ | exact (Ext.refl _).drew) hE6; replace hKM := Lib.hid hKM; replace hKT := Lib.hid hKT) | (go_at_call 43; refine (kA.out _ hE7 _ hKM.out hKT.out).mono ?_; rintro e w8 hP; obtain rfl := hval.out _ _ hP; replace hP := Lib.hid hP))
 go_wp2
 try go_ret
 exact hfin.out _ _ _ hP.out xt
end Go.Proofs.YtangdoidkcelfaaGreatDoor
