/- Contracts of acquirer's acknowledge, Receive, Cancel (walks; printed by gen/h87.py). -/
import Derived.Test.YtkggloeaojkhaaaGreatDoorPu
namespace Go.Proofs.YtkggloeaojkhaaaGreatDoor
open Go.RowKit
def acknV (d : HostD) (es : List El) : HostD × Int := if (getS 37 es).data.toList ∈ d.q.known then ({ d with q := (ackV d.q (getS 37 es)).1 }, 0) else (d, 6)
def HAckP (B : Nat) (I : HostI) (d : HostD) (es : List El) (w : World) (e : Ending) (w' : World) : Prop := e = .returned (.int .i64 (acknV d es).2) ∧ HostM w' B I (acknV d es).1 ∧ Chg (HF B I w) w w'
set_option maxRecDepth 8000 in
set_option maxHeartbeats 8000000 in
theorem acknowledge_any (B : Nat) (I : HostI) (d : HostD) (ty : Int) (v : Value) (es : List El) (w : World) (hB : B ≤ w.heap.size) (h : HostM w B I d) (hv : Elems w v es) (hl : es.length ≤ 1000000) (hsz : (getS 37 es).size ≤ 1000000) : Calls Tryz.prog 37 #[.pointer (some ⟨I.X, 0, none⟩), msgAgg ty v] w (HAckP B I d es w) := by
 have kG := Lib.hid (fun w1 (hE : Ext w w1) => get_any ty 37 v es w1 (hv.ext hE) hl)
 obtain ⟨bs, sv, wv, hX0, ok⟩ := h
 obtain ⟨vp, vc, hvf⟩ : ∃ q c, v = .slice q es.length c := hv.imp fun _ h => h.imp fun _ h => h.1
 subst hvf
 unfold OneV at kG
 unfold msgAgg at kG ⊢
 have hX := Lib.hid hX0
 have kK := Lib.hid (fun w1 (hE : Ext w w1) => fwKnown_any B I.Q I.M d.q (getS 37 es) w1 (hX0.ext hE).q (by unfold maxLen; omega))
 have kA := Lib.hid (fun w1 (hE : Ext w w1) => fwAck_any B I.Q I.M d.q (getS 37 es) w1 (hX0.ext hE).q (Nat.le_trans hB hE.size))
 unfold OneQ at kK
 by_cases hk : (getS 37 es).data.toList ∈ d.q.known
 · have hend := Lib.hid (fun w1 e w' (hE : Ext w w1) (hp : FwAckP B I.Q I.M d.q (getS 37 es) w1 e w') => show ∀ w2, Ext w' w2 → HAckP B I d es w (.returned (.int .i64 0)) w2 from fun w2 hE2 => by
    unfold HAckP acknV
    rw [if_pos hk]
    obtain ⟨-, h1, h2⟩ := hp
    have h3 := hX0.ext hE
    exact ⟨rfl, ⟨bs, sv, wv, (h3.setQue ok _ h1 h2).ext hE2, ok.setQue _⟩, (Typ.trans (Chg.ofExt hE) (HF.setQue h2)).ext hE2⟩)
   generalize HAckP B I d es w = PP at *
   rw [decide_eq_true hk] at kK
   generalize getS 37 es = r37 at *
   generalize getB 37 es = b37 at *
   generalize es.length = n at *
   clear hX0 ok hv hk
   go_enter Tryz.func37, Tryz.ntmps37
   go_wp2_with fail
   refine (kG.out _ xt).mono ?_
   rintro e w1 ⟨rfl, hE1⟩
   have hE : Ext w w1 := Ext.trans xt hE1
   have x4 : w1.cell? ⟨I.X, 4, none⟩ = some (.pointer (some ⟨I.Q, 0, none⟩)) := (hX.out.ext hE).h.cell 4
   go_wp2_with fail
   refine (kK.out _ hE).mono ?_
   rintro e w2 ⟨rfl, hE2⟩
   replace hE := hE.trans hE2
   replace x4 := hE2.get x4
   go_wp2_with fail
   refine (kA.out _ hE).mono ?_
   rintro e w3 hp
   have hr := hp.1
   have hfin := Lib.hid (hend.out w2 e w3 hE hp)
   subst hr
   clear hp
   go_wp2
   try go_ret
   exact hfin.out _ (Ext.refl _)
 · have hend := Lib.hid (fun w' (hE : Ext w w') => show HAckP B I d es w (.returned (.int .i64 6)) w' from by
    unfold HAckP acknV
    rw [if_neg hk]
    exact ⟨rfl, ⟨bs, sv, wv, hX0.ext hE, ok⟩, Chg.ofExt hE⟩)
   generalize HAckP B I d es w = PP at *
   rw [decide_eq_false hk] at kK
   generalize getS 37 es = r37 at *
   generalize getB 37 es = b37 at *
   generalize es.length = n at *
   clear hX0 ok hv hk kA
   go_enter Tryz.func37, Tryz.ntmps37
   go_wp2_with fail
   refine (kG.out _ xt).mono ?_
   rintro e w1 ⟨rfl, hE1⟩
   have hE : Ext w w1 := Ext.trans xt hE1
   have x4 : w1.cell? ⟨I.X, 4, none⟩ = some (.pointer (some ⟨I.Q, 0, none⟩)) := (hX.out.ext hE).h.cell 4
   go_wp2_with fail
   refine (kK.out _ hE).mono ?_
   rintro e w2 ⟨rfl, hE2⟩
   go_wp2_with fail
   try go_ret
   exact hend.out _ (hE.trans hE2)
/-- What Receive does. -/
def recV0 (d : HostD) (at' ty : Int) (es : List El) : HostD × Int := if ty = 110 then ansV d at' es else acknV d es
def recV (d : HostD) (at' ty : Int) (es : List El) : HostD × Int :=
 if mchk ty es ≠ 0 then (d, mchk ty es) else if ty ≠ 110 ∧ ty ≠ 430 then (d, 8) else if permB d at' = false then (d, 14)
 else if (recV0 d at' ty es).2 = 0 then ({ (recV0 d at' ty es).1 with now := at' }, 0) else recV0 d at' ty es
def HRecP (B : Nat) (I : HostI) (d : HostD) (at' ty : Int) (es : List El) (w : World) (e : Ending) (w' : World) : Prop := e = .returned (.int .i64 (recV d at' ty es).2) ∧ HostM w' B I (recV d at' ty es).1 ∧ Chg (HF B I w) w w'
theorem getS_le {es : List El} (h : SmallV es) (n : Int) : (getS n es).size ≤ 1000000 := by
 unfold getS getE
 cases hf : firstP (fun m => m == n) es with
 | none => simp only [Option.map_none, Option.getD_none]; decide
 | some k =>
  simp only [Option.map_some, Option.getD_some]
  exact h k (firstP_spec _ _ _ hf).1
theorem hrec_same {B : Nat} {I : HostI} {d : HostD} {at' ty : Int} {es : List El} {w : World} (h : HostM w B I d) (c : Int) (hc : recV d at' ty es = (d, c)) (w' : World) (hE : Ext w w') : HRecP B I d at' ty es w (.returned (.int .i64 c)) w' := by
 unfold HRecP
 rw [hc]
 exact ⟨rfl, h.ext hE, Chg.ofExt hE⟩
/-- Behind the part that serves the reply. -/
theorem hrec_end {B : Nat} {I : HostI} {d : HostD} {at' ty : Int} {es : List El} {w w1 w2 : World} (hE : Ext w w1) (h1 : ¬ mchk ty es ≠ 0) (h2 : ¬ (ty ≠ 110 ∧ ty ≠ 430)) (h3 : ¬ permB d at' = false) (hh : HostM w2 B I (recV0 d at' ty es).1) (hF : Chg (HF B I w1) w1 w2) :
 ((recV0 d at' ty es).2 = 0 → HRecP B I d at' ty es w (.returned (.int .i64 0)) (w2.setCell ⟨I.X, 2, none⟩ (.int .i64 at'))) ∧ (¬ (recV0 d at' ty es).2 = 0 → HRecP B I d at' ty es w (.returned (.int .i64 (recV0 d at' ty es).2)) w2) ∧
 (w2.frozen? ⟨I.X, 2, none⟩ = false ∧ (∃ u, w2.cell? ⟨I.X, 2, none⟩ = some u) ∧ I.X < w2.heap.size) := by
 unfold HRecP recV
 rw [if_neg h1, if_neg h2, if_neg h3]
 obtain ⟨bs, sv, wv, hX, ok⟩ := hh
 refine ⟨fun h => ?_, fun h => ?_, hX.h.fz 2, ⟨_, (hX.h.cell 2).trans rfl⟩, hX.h.lt⟩
 · rw [if_pos h]
   exact ⟨rfl, ⟨bs, sv, wv, hX.setNow at', ok.setNow at'⟩, Typ.trans (Typ.trans (Chg.ofExt hE) hF) (HF.setNow hX ok at')⟩
 · rw [if_neg h]
   exact ⟨rfl, ⟨bs, sv, wv, hX, ok⟩, Typ.trans (Chg.ofExt hE) hF⟩
set_option maxRecDepth 8000 in
set_option maxHeartbeats 16000000 in
theorem hRec_any (B : Nat) (I : HostI) (d : HostD) (at' : Int) (ty : Int) (v : Value) (es : List El) (w : World) (g : Gl w) (hB : B ≤ w.heap.size) (h : HostM w B I d) (hv : Elems w v es) (hl : es.length ≤ 1000000) (hsm : SmallV es) : Calls Tryz.prog 13 #[.pointer (some ⟨I.X, 0, none⟩), .int .i64 at', msgAgg ty v] w (HRecP B I d at' ty es w) := by
 have hsz := getS_le hsm 37
 have kC := Lib.hid (fun w1 (hE : Ext w w1) => mcheck_any ty v es w1 (g.ext hE) (hv.ext hE) hl hsm)
 have kP := Lib.hid (fun w1 (hE : Ext w w1) => permitted_any B I d at' w1 (h.ext hE))
 have kA := Lib.hid (fun w1 (hE : Ext w w1) => answer_any B I d at' ty v es w1 (g.ext hE) (h.ext hE) (hv.ext hE) hl hsz)
 have kK := Lib.hid (fun w1 (hE : Ext w w1) => acknowledge_any B I d ty v es w1 (Nat.le_trans hB hE.size) (h.ext hE) (hv.ext hE) hl hsz)
 have hsame := Lib.hid (fun c hc w' hE => hrec_same (at' := at') (ty := ty) (es := es) h c hc w' hE)
 have hendR := fun w1 w2 (hE : Ext w w1) h1 h2 h3 hh hF => hrec_end (w := w) (w1 := w1) (w2 := w2) (B := B) (I := I) (d := d) (at' := at') (ty := ty) (es := es) hE h1 h2 h3 hh hF
 obtain ⟨vp, vc, hvf⟩ : ∃ q c, v = .slice q es.length c := hv.imp fun _ h => h.imp fun _ h => h.1
 subst hvf
 have bM := Lib.hid (Blk.new w #[.int .i64 ty, .slice vp es.length vc] 29)
 unfold OneV at kC
 unfold OneQ at kP
 unfold msgAgg at kC kA kK ⊢
 by_cases c1 : mchk ty es = 0
 · rw [c1] at kC
   have n1 : ¬ mchk ty es ≠ 0 := by rw [c1]; decide
   by_cases c2 : ty ≠ 110 ∧ ty ≠ 430
   · have q1 : (ty != 110) = true := by simp [c2.1]
     have q2 : (ty != 430) = true := by simp [c2.2]
     have hend := Lib.hid (hsame.out 8 (by unfold recV; rw [if_neg n1, if_pos c2]))
     generalize HRecP B I d at' ty es w = PP at *
     generalize es.length = n at *
     clear hendR hsame kP kA kK c1 n1 c2 hv h g
     go_enter Tryz.func13, Tryz.ntmps13
     go_wp2_with fail
     refine (kC.out _ xt).mono ?_
     rintro e w1 ⟨rfl, hE1⟩
     have hE : Ext w w1 := Ext.trans xt hE1
     have m0 : w1.cell? ⟨w.heap.size, 0, none⟩ = some (.int .i64 ty) := ((bM.out.ext hE1).cell 0).trans rfl
     go_wp2_with fail
     try go_ret
     exact hend.out _ hE
   by_cases c3 : permB d at' = false
   · rw [c3] at kP
     have hend := Lib.hid (hsame.out 14 (by unfold recV; rw [if_neg n1, if_neg c2, if_pos c3]))
     generalize HRecP B I d at' ty es w = PP at *
     generalize es.length = n at *
     have c4 : ty = 110 ∨ ty = 430 := by omega
     clear hendR hsame kA kK c1 n1 c2 hv h g c3
     rcases c4 with rfl | rfl
     all_goals
      go_enter Tryz.func13, Tryz.ntmps13
      go_wp2_with fail
      refine (kC.out _ xt).mono ?_
      rintro e w1 ⟨rfl, hE1⟩
      have hE : Ext w w1 := Ext.trans xt hE1
      have m0 := ((bM.out.ext hE1).cell 0).trans rfl
      go_wp2_with fail
      refine (kP.out _ hE).mono ?_
      rintro e w2 ⟨rfl, hE2⟩
      go_wp2_with fail
      try go_ret
      exact hend.out _ (hE.trans hE2)
   have c3' : permB d at' = true := by simpa using c3
   rw [c3'] at kP
   replace hendR := Lib.hid (fun w1 w2 hE hh hF => hendR w1 w2 hE n1 c2 c3 hh hF)
   have c4 : ty = 110 ∨ ty = 430 := by omega
   generalize HRecP B I d at' ty es w = PP at *
   clear hsame c1 n1 c2 c3 c3' hv h g
   rcases c4 with rfl | rfl
   · have e0 : recV0 d at' 110 es = ansV d at' es := by unfold recV0; rw [if_pos rfl]
     rw [e0] at hendR
     unfold HAnsP at kA
     clear kK e0
     generalize ansV d at' es = AA at *
     generalize es.length = n at *
     by_cases hz : AA.2 = 0
     all_goals
      go_enter Tryz.func13, Tryz.ntmps13
      go_wp2_with fail
      refine (kC.out _ xt).mono ?_
      rintro e w1 ⟨rfl, hE1⟩
      have hE : Ext w w1 := Ext.trans xt hE1
      have m0 : w1.cell? ⟨w.heap.size, 0, none⟩ = some (.int .i64 110) := ((bM.out.ext hE1).cell 0).trans rfl
      have m1 : w1.cell? ⟨w.heap.size, 1, none⟩ = some (.slice vp n vc) := ((bM.out.ext hE1).cell 1).trans rfl
      go_wp2_with fail
      refine (kP.out _ hE).mono ?_
      rintro e w2 ⟨rfl, hE2⟩
      replace hE := hE.trans hE2
      replace m0 := hE2.get m0
      replace m1 := hE2.get m1
      go_wp2_with fail
      refine (kA.out _ hE).mono ?_
      rintro e w3 ⟨rfl, hh, hF⟩
      obtain ⟨r1, r2, z2, ⟨u2, x2⟩, lX⟩ := hendR.out w2 w3 hE hh hF
      clear m0 m1 hh hF kC kP kA hendR
      clear hE1 hE2 hE
     · have q : (AA.2 == 0) = true := by simp [hz]
       have hfin := Lib.hid (r1 hz)
       clear r1 r2
       rw [hz]
       rw [hz] at q
       clear hz
       go_wp2_with fail
       try go_ret
       exact hfin.out
     · have q : (AA.2 == 0) = false := by simp [hz]
       have hfin := Lib.hid (r2 hz)
       clear r1 r2 hz
       go_wp2_with fail
       try go_ret
       exact hfin.out
   · have e0 : recV0 d at' 430 es = acknV d es := by unfold recV0; rw [if_neg (by decide)]
     rw [e0] at hendR
     unfold HAckP at kK
     clear kA e0
     generalize acknV d es = AA at *
     generalize es.length = n at *
     by_cases hz : AA.2 = 0
     all_goals
      go_enter Tryz.func13, Tryz.ntmps13
      go_wp2_with fail
      refine (kC.out _ xt).mono ?_
      rintro e w1 ⟨rfl, hE1⟩
      have hE : Ext w w1 := Ext.trans xt hE1
      have m0 : w1.cell? ⟨w.heap.size, 0, none⟩ = some (.int .i64 430) := ((bM.out.ext hE1).cell 0).trans rfl
      have m1 : w1.cell? ⟨w.heap.size, 1, none⟩ = some (.slice vp n vc) := ((bM.out.ext hE1).cell 1).trans rfl
      go_wp2_with fail
      refine (kP.out _ hE).mono ?_
      rintro e w2 ⟨rfl, hE2⟩
      replace hE := hE.trans hE2
      replace m0 := hE2.get m0
      replace m1 := hE2.get m1
      go_wp2_with fail
      refine (kK.out _ hE).mono ?_
      rintro e w3 ⟨rfl, hh, hF⟩
      obtain ⟨r1, r2, z2, ⟨u2, x2⟩, lX⟩ := hendR.out w2 w3 hE hh hF
      clear m0 m1 hh hF kC kP kK hendR
      clear hE1 hE2 hE
     · have q : (AA.2 == 0) = true := by simp [hz]
       have hfin := Lib.hid (r1 hz)
       clear r1 r2
       rw [hz]
       rw [hz] at q
       clear hz
       go_wp2_with fail
       try go_ret
       exact hfin.out
     · have q : (AA.2 == 0) = false := by simp [hz]
       have hfin := Lib.hid (r2 hz)
       clear r1 r2 hz
       go_wp2_with fail
       try go_ret
       exact hfin.out
 · have q1 : (mchk ty es != 0) = true := by simp [c1]
   have hend := Lib.hid (hsame.out (mchk ty es) (by unfold recV; rw [if_pos c1]))
   generalize HRecP B I d at' ty es w = PP at *
   clear hendR hsame kP kA kK hv h g c1
   generalize mchk ty es = c at *
   generalize es.length = n at *
   go_enter Tryz.func13, Tryz.ntmps13
   go_wp2_with fail
   refine (kC.out _ xt).mono ?_
   rintro e w1 ⟨rfl, hE1⟩
   have hE : Ext w w1 := Ext.trans xt hE1
   go_wp2_with fail
   try go_ret
   exact hend.out _ hE
end Go.Proofs.YtkggloeaojkhaaaGreatDoor
