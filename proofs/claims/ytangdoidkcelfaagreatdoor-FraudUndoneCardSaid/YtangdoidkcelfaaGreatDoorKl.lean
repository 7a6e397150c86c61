/- The contract of Judge (walk; printed by gen/h39.py l). -/
import Derived.Test.YtangdoidkcelfaaGreatDoorKj
namespace Go.Proofs.YtangdoidkcelfaaGreatDoor
open Go.RowKit Go.Sort
theorem jd_push {wo wr w2 w5 : World} {va vs : Int} {gp : Option Addr} {gc gg cap : Nat} {vf : List ByteArray} {nm : ByteArray} {F RC : Array Value} {ra rs : Value} (hEv : Ext wo wr) (hE3 : Ext wr w2) (hB : Blk w2 wo.heap.size #[.int .i64 va, .int .i64 vs, .slice gp vf.length gc] 24) (hrow : w2.ownsRow wo.heap.size 9 1 (.slice gp vf.length gc) vf.length (vf.map Value.string)) {c0 c1 c2 c3 c4 c5 : Value} (bR : Blk w2 wr.heap.size #[c0, c1, c2, c3, c4, c5, ra, rs] 46) (sV : Value.ownBlock (.slice gp vf.length gc) ≠ some wo.heap.size) (sR : Value.ownBlock (.slice gp vf.length gc) ≠ some wr.heap.size)
 (hg : ((w2.alloc (.cells F 62)).alloc (.cells RC 9)).grownBy w5 (Value.ownBlock (.slice gp vf.length gc))) (hat : Value.ownBlock (.slice gp vf.length gc) = some gg ∨ gg = w2.heap.size + 1 + 1) (hown : w5.ownsRow wo.heap.size 9 1 (.slice (some ⟨gg, 0, none⟩) (vf.length + 1) cap) (vf.length + 1) (vf.map Value.string ++ [.string nm])) :
 w5.cell? ⟨wo.heap.size, 0, none⟩ = some (.int .i64 va) ∧ w5.cell? ⟨wo.heap.size, 1, none⟩ = some (.int .i64 vs) ∧ w5.cell? ⟨wo.heap.size, 2, none⟩ = some (.slice gp vf.length gc) ∧ w5.frozen? ⟨wo.heap.size, 0, none⟩ = false ∧ w5.frozen? ⟨wo.heap.size, 1, none⟩ = false ∧ w5.frozen? ⟨wo.heap.size, 2, none⟩ = false ∧ wo.heap.size < w5.heap.size ∧
 w5.cell? ⟨wr.heap.size, 6, none⟩ = some ra ∧ w5.cell? ⟨wr.heap.size, 7, none⟩ = some rs ∧ True ∧
 ∀ m n : Int, Blk (((w5.setCell ⟨wo.heap.size, 2, none⟩ (.slice (some ⟨gg, 0, none⟩) (vf.length + 1) cap)).setCell ⟨wo.heap.size, 1, none⟩ (.int .i64 n)).setCell ⟨wo.heap.size, 0, none⟩ (.int .i64 m)) wo.heap.size #[.int .i64 m, .int .i64 n, .slice (some ⟨gg, 0, none⟩) (vf.length + 1) cap] 24 ∧ (((w5.setCell ⟨wo.heap.size, 2, none⟩ (.slice (some ⟨gg, 0, none⟩) (vf.length + 1) cap)).setCell ⟨wo.heap.size, 1, none⟩ (.int .i64 n)).setCell ⟨wo.heap.size, 0, none⟩ (.int .i64 m)).ownsRow wo.heap.size 9 1 (.slice (some ⟨gg, 0, none⟩) (vf.length + 1) cap) (vf ++ [nm]).length ((vf ++ [nm]).map Value.string) ∧ Ext wo (((w5.setCell ⟨wo.heap.size, 2, none⟩ (.slice (some ⟨gg, 0, none⟩) (vf.length + 1) cap)).setCell ⟨wo.heap.size, 1, none⟩ (.int .i64 n)).setCell ⟨wo.heap.size, 0, none⟩ (.int .i64 m)) := by
 have hB5 : Blk w5 wo.heap.size #[.int .i64 va, .int .i64 vs, .slice gp vf.length gc] 24 := ((hB.alloc _).alloc _).chg (Chg.ofGrown hg) (fun e => sV e.symm)
 have bR5 : Blk w5 wr.heap.size #[c0, c1, c2, c3, c4, c5, ra, rs] 46 := ((bR.alloc _).alloc _).chg (Chg.ofGrown hg) (fun e => sR e.symm)
 have hE5 : Ext wo w5 := Chg.toExt (((hEv.trans hE3).alloc _).alloc _) (Chg.ofGrown hg) (fun k hk => (hrow.lt k hk.symm).1)
 have hgo : gg ≠ wo.heap.size := by
  intro e
  subst e
  rcases hat with h | h
  · exact sV h
  · have := hEv.size; have := hE3.size; omega
 refine ⟨(hB5.cell 0).trans rfl, (hB5.cell 1).trans rfl, (hB5.cell 2).trans rfl, hB5.fz 0, hB5.fz 1, hB5.fz 2, hB5.lt, (bR5.cell 6).trans rfl, (bR5.cell 7).trans rfl, trivial, fun m n => ⟨((hB5.set 2 _).set 1 _).set 0 _, ?_, ((hE5.setCell (Nat.le_refl _) _).setCell (Nat.le_refl _) _).setCell (Nat.le_refl _) _⟩⟩
 have hc : Chg (fun k => k = wo.heap.size) w5 (((w5.setCell ⟨wo.heap.size, 2, none⟩ (.slice (some ⟨gg, 0, none⟩) (vf.length + 1) cap)).setCell ⟨wo.heap.size, 1, none⟩ (.int .i64 n)).setCell ⟨wo.heap.size, 0, none⟩ (.int .i64 m)) := (((Chg.refl (fun k => k = wo.heap.size) w5).setCell (p := ⟨wo.heap.size, 2, none⟩) (Or.inl rfl) _).setCell (p := ⟨wo.heap.size, 1, none⟩) (Or.inl rfl) _).setCell (p := ⟨wo.heap.size, 0, none⟩) (Or.inl rfl) _
 have h2 := ownsRow_chg hown hc (fun b h1 h2 => hgo (by cases h1; exact h2))
 rw [List.length_append, List.map_append]
 exact h2
theorem jd_end {w wo wr W : World} {gp : Option Addr} {gc : Nat} {vf : List ByteArray} (hC : Chg (fun k => k = wo.heap.size ∨ k = w.heap.size) wr W) (hrow : wr.ownsRow wo.heap.size 9 1 (.slice gp vf.length gc) vf.length (vf.map Value.string)) (sV : Value.ownBlock (.slice gp vf.length gc) ≠ some wo.heap.size) (sR : Value.ownBlock (.slice gp vf.length gc) ≠ some w.heap.size) (hl : vf.length ≤ 1000000) (hE : Ext w wr) (hle : w.heap.size ≤ wo.heap.size) : (KysM W (.slice gp vf.length gc) vf ∧ StrT W (.slice gp vf.length gc)) ∧ Ext w W := by
 have h1 := ownsRow_chg hrow hC (by
  rintro b hb (e | e)
  · subst e; exact sV hb
  · subst e; exact sR hb)
 refine ⟨⟨kysM_own h1 hl, strT_own h1⟩, Chg.toExt hE hC ?_⟩
 · rintro k (e | e) <;> omega
set_option maxRecDepth 8000 in
set_option maxHeartbeats 16000000 in
theorem judge_any (X V : Nat) (uv vv rv tv : Value) (d : EngD) (now : Int) (fv : Value) (l : List Feat) (w : World) (h : EngM w X V uv vv rv tv d) (ok : EngOk d) (hF : Feats w fv l) (hT : TxtB l) : Calls Tryz.prog 15 #[.pointer (some ⟨X, 0, none⟩), .int .i64 now, fv] w (JudgeP d now l w) := by
 have kT := Lib.hid (fun w1 => ftime_any now w1)
 obtain ⟨-, hX, hV, -, hR, hN⟩ := h
 obtain ⟨fp, fc, rfl⟩ := hF.form
 cases ht : timeB now with
 | false =>
  rw [ht] at kT
  have hend := Lib.hid (fun w' (hE : Ext w w') => show JudgeP d now l w (.returned (.tuple #[.agg #[.int .i64 0, .int .i64 0, .slice none 0 0], .int .i64 14])) w' from ⟨hE, Or.inl ⟨ht, rfl⟩⟩)
  generalize JudgeP d now l w = PP at *
  clear hX hV hR hN hF ok
  go_enter Tryz.func15, Tryz.ntmps15
  go_wp2_with fail
  refine (kT.out _).mono ?_
  rintro e w1 ⟨rfl, rfl⟩
  go_wp2
  exact bodyPost_ret (v := .tuple #[.agg #[.int .i64 0, .int .i64 0, .slice none 0 0], .int .i64 14]) (by simp [results, Tryz.results15, go_sem]) rfl (hend.out _ xt)
 | true =>
  rw [ht] at kT
  have hend := Lib.hid (fun fv w' (hE : Ext w w') (hk : KysM w' fv (judgeV d now l).fired ∧ StrT w' fv) => show JudgeP d now l w (.returned (.tuple #[verAgg (judgeV d now l) fv, .int .i64 0])) w' from ⟨hE, Or.inr ⟨ht, fv, rfl, hk⟩⟩)
  generalize JudgeP d now l w = PP at *
  obtain ⟨okh, okf, oka, okn, okr, okg⟩ := ok
  obtain ⟨vel, hor, last, uses, rules, names, refer, decline⟩ := d
  simp only at hX hV hR hN okh okf oka okn okr okg hend
  have hJ := Lib.hid (show judgeV ⟨vel, hor, last, uses, rules, names, refer, decline⟩ now l = endV refer decline (verK l (srcS vel names l now) rules rules.length) from by unfold judgeV verK; rw [List.take_length])
  generalize judgeV ⟨vel, hor, last, uses, rules, names, refer, decline⟩ now l = JV at *
  have hbd := Lib.hid (verK_bd l (srcS vel names l now) rules okg)
  obtain ⟨tp, tc, rfl, hnl, hnc⟩ := hN.toM
  obtain ⟨rp, rc, rfl⟩ := hR.toM.form
  have a0 : w.cell? ⟨X, 0, none⟩ = some (.pointer (some ⟨V, 0, none⟩)) := (hX.cell 0).trans rfl
  have a5 : w.cell? ⟨X, 5, none⟩ = some (.slice tp names.length tc) := (hX.cell 5).trans rfl
  have lX := hX.lt
  replace hnc := Lib.hid hnc
  have kK := Lib.hid (fun nm w1 (h : Ext w w1) => key_any _ l nm w1 (hF.ext h) hT)
  unfold KeyP at kK
  have kA := Lib.hid (fun w1 E b n (h : Ext w w1) (hs : w1.cell? ⟨E, 1, none⟩ = some (.iface 102 (srcV V b now))) (hK : KV w1 b n (srcF names l)) => asker_src hs (hV.ext h) hK okh okf oka)
  replace okn := Lib.hid okn
  replace okg := Lib.hid okg
  replace hX := Lib.hid hX
  replace hR := Lib.hid hR.toM
  replace hF := Lib.hid hF
  obtain ⟨s0, hi, hz0, hz1, hz2⟩ := info_partsE infoStrE
  replace hi := Lib.hid hi
  replace hz0 := Lib.hid hz0
  replace hz1 := Lib.hid hz1
  replace hz2 := Lib.hid hz2
  have hmm := @run_makeMap Tryz.prog
  clear hV okh okf oka hN
  go_enter Tryz.func15, Tryz.ntmps15
  go_wp2_with fail
  refine (kT.out _).mono ?_
  rintro e w1 ⟨rfl, rfl⟩
  have m1 : ((w.alloc (.cells #[.int .i64 0, .int .i64 0, .slice none 0 0] 24)).alloc (.map #[] 0)).cell? ⟨X, 5, none⟩ = some (.slice tp names.length tc) := (show Ext w ((w.alloc (.cells #[.int .i64 0, .int .i64 0, .slice none 0 0] 24)).alloc (.map #[] 0)) from xt).get a5
  have m2 : (((w.alloc (.cells #[.int .i64 0, .int .i64 0, .slice none 0 0] 24)).alloc (.map #[] 0)).alloc (.cells #[.pointer (some ⟨V, 0, none⟩), .int .i64 now, .map (some (w.heap.size + 1))] 102)).cell? ⟨X, 5, none⟩ = some (.slice tp names.length tc) := ((Ext.refl _).alloc _).get m1
  go_wp2_with fail
  clear hmm kT m1 m2
  go_loopw [38] (fun i wr => ∃ k : Nat, k ≤ names.length ∧ i = .int .i64 k ∧ KV wr (w.heap.size + 1) k (srcF (names.take k) l) ∧ Blk wr w.heap.size #[.int .i64 0, .int .i64 0, .slice none 0 0] 24 ∧ Blk wr (w.heap.size + 1 + 1) #[.pointer (some ⟨V, 0, none⟩), .int .i64 now, .map (some (w.heap.size + 1))] 102 ∧ Ext w wr) (fun i _ => names.length - (intOf i).toNat)
  case atStart =>
   refine ⟨0, Nat.zero_le _, rfl, ?_, ?_, ?_, xt⟩
   · rw [show srcF (names.take 0) l = fun _ => none from by funext s; simp [srcF]]
     have e : (w.alloc (.cells #[.int .i64 0, .int .i64 0, .slice none 0 0] 24)).heap.size = w.heap.size + 1 := by simp
     have h := KV.made (w.alloc (.cells #[.int .i64 0, .int .i64 0, .slice none 0 0] 24))
     rw [e] at h
     exact h.ext xt
   · exact ((Blk.new _ _ _).alloc _).alloc _
   · exact Blk.new' _ _ _ _ (by simp)
  case round =>
   obtain ⟨k, hk, rfl, hKV, hB0, hB2, hE⟩ := hrel
   by_cases hlt : k < names.length
   · obtain ⟨b, off, rfl, hcs⟩ := hnc.out (by omega)
     have c0 := hE.get (hcs k hlt)
     have hsz : (names.getD k []).length ≤ 16 := okn.out _ (by rw [List.getD_eq_getElem?_getD, List.getElem?_eq_getElem hlt, Option.getD_some]; exact List.getElem_mem hlt)
     have hp := Lib.hid (srcF_put names l k hlt)
     have hsk := Lib.hid (srcF_skip names l k hlt)
     have kk := Lib.hid (kK.out ⟨(names.getD k []).toArray⟩ wr hE (by simp only [ByteArray.size, List.size_toArray]; omega))
     unfold encStr at c0
     have hsz2 : (⟨(names.getD k []).toArray⟩ : ByteArray).size ≤ 1000000 := by simp only [ByteArray.size, List.size_toArray]; omega
     replace hKV := Lib.hid hKV
     clear hcs hsz kK kA hX hR hF okn okg hbd hJ hend
     generalize srcF (names.take k) l = F0 at *
     generalize names.getD k [] = s at *
     generalize (⟨s.toArray⟩ : ByteArray) = nm at *
     generalize keyS l nm = KS at *
     go_wp2_with fail
     refine kk.out.mono ?_
     rintro e w2 ⟨rfl, hE2⟩
     clear kk c0
     replace hKV := Lib.hid (hKV.out.ext hE2)
     replace hB2 := hB2.ext hE2
     replace hB0 := hB0.ext hE2
     have s2 : w2.cell? ⟨w.heap.size + 1 + 1, 2, none⟩ = some (.map (some (w.heap.size + 1))) := (hB2.cell 2).trans rfl
     have l2 := hB2.lt
     have hE3 := hE.trans hE2
     replace hB0 := Lib.hid hB0
     replace hB2 := Lib.hid hB2
     cases hb : keyB l nm with
     | true =>
      replace hp := Lib.hid (hp.out hb)
      go_wp2_with (at_mapUpdate; refine wpList_putV Tryz.underlying100 rfl _ _ _ rfl rfl hKV.out nm rfl (.string KS) rfl hsz2 (by omega) ?_; intro w3 hM3 hg3; have hE4 : Ext w w3 := Ext.grownS hE3 hg3 (by omega); replace hB0 := Lib.hid (hB0.out.chg (Chg.ofGrown hg3) (by intro e; injection e with e; omega)); replace hB2 := Lib.hid (hB2.out.chg (Chg.ofGrown hg3) (by intro e; injection e with e; omega)); replace hM3 := Lib.hid hM3; clear hg3)
      go_roundw
      case rel => exact ⟨k + 1, by omega, by go_num, by rw [← hp.out]; exact hM3.out, hB0.out, hB2.out, hE4⟩
      case measure => simp [intOf]; omega
     | false =>
      replace hsk := Lib.hid (hsk.out hb)
      go_wp2
      go_roundw
      case rel => exact ⟨k + 1, by omega, by go_num, by rw [← hsk.out]; exact hKV.out.mono (Nat.le_succ k), hB0.out, hB2.out, hE3⟩
      case measure => simp [intOf]; omega
   · obtain rfl : k = names.length := by omega
     rename World => wo
     rw [List.take_length] at hKV
     have hwl := hE.size
     have b1 : wo.cell? ⟨X, 4, none⟩ = some (.slice rp rules.length rc) := hE.get ((hX.out.cell 4).trans rfl)
     have b6 : w.cell? ⟨X, 6, none⟩ = some (.int .i64 refer) := (hX.out.cell 6).trans rfl
     have b7 : w.cell? ⟨X, 7, none⟩ = some (.int .i64 decline) := (hX.out.cell 7).trans rfl
     have lX1 : X < wo.heap.size := by omega
     have lX2 : X < wo.heap.size + 1 := by omega
     have lS := hB2.lt
     have kE := Lib.hid (fun w1 w2 E (h : Ext wo w1) (h2 : Ext w1 w2) hs => kA.out w2 E (w.heap.size + 1) names.length (hE.trans (h.trans h2)) hs (hKV.ext (h.trans h2)))
     have hsrc := Lib.hid hB2
     have hres := Lib.hid hB0
     clear kA hKV hB2 hB0 kK okn a0 a5 lX
     generalize srcS vel names l now = SS at *
     go_wp2_with fail
     go_loopw [59] (fun i wr => ∃ k : Nat, k ≤ rules.length ∧ i = .int .i64 k ∧ ∃ fv, Blk wr wo.heap.size #[.int .i64 (verK l SS rules k).act, .int .i64 (verK l SS rules k).score, fv] 24 ∧ wr.ownsRow wo.heap.size 9 1 fv (verK l SS rules k).fired.length ((verK l SS rules k).fired.map Value.string) ∧ Ext wo wr) (fun i _ => rules.length - (intOf i).toNat)
     case atStart => exact ⟨0, Nat.zero_le _, rfl, .slice none 0 0, Blk.new _ _ _, ⟨rfl, Or.inl ⟨rfl, rfl⟩⟩, xt⟩
     case round =>
      obtain ⟨k, hk, rfl, gv, hBv, hrow, hEv⟩ := hrel
      have hbk := hbd.out k hk
      by_cases hlt : k < rules.length
      · have hst := Lib.hid (verK_step l SS rules k hlt)
        obtain ⟨b, off, rfl, sv, hrs⟩ := hR.out.at (by omega)
        obtain ⟨hc, hxs⟩ := hrs k hlt
        have hmem : rules.getD k frD ∈ rules := by rw [List.getD_eq_getElem?_getD, List.getElem?_eq_getElem hlt, Option.getD_some]; exact List.getElem_mem hlt
        have hrg := okg.out _ hmem
        have hE9 := hE.trans hEv
        replace hc := hc.ext hE9
        replace hxs := hxs.ext hE9
        clear hrs hmem hbd okg hend hJ
        generalize rules.getD k frD = r at *
        obtain ⟨uq, uc, hu⟩ := hxs.form
        rw [hu] at hc hxs
        clear hu
        have kZ := Lib.hid (fun w1 (h : Ext wr w1) => eval_src 102 (srcV V (w.heap.size + 1) now) r.when (hxs.ext h) (.slice fp l.length fc) l (hF.out.ext (hE9.trans h)) SS (fun w2 E h2 hc2 => kE.out w1 w2 E (hEv.trans h) h2 hc2))
        have hno := Lib.hid (stepV_no (l := l) (S := SS) (v := verK l SS rules k) (r := r))
        have hyes := Lib.hid (stepV_yes (l := l) (S := SS) (v := verK l SS rules k) (r := r))
        unfold EvalPost exAgg srcV at kZ
        generalize evalV r.when l SS = EV at *
        generalize stepV l SS (verK l SS rules k) r = NV at *
        generalize verK l SS rules k = VO at *
        obtain ⟨va, vs, vf⟩ := VO
        simp only at hBv hrow hbk
        obtain ⟨gp, gc, rfl⟩ := own_form hrow
        obtain ⟨c0, c1, c2, c3, c4, c5, c6, c7⟩ := hc
        have a0 : wr.cell? ⟨wo.heap.size, 0, none⟩ = some (.int .i64 va) := (hBv.cell 0).trans rfl
        have lv := hBv.lt
        replace hsrc := Lib.hid (hsrc.out.ext hEv)
        have g0 : wr.cell? ⟨w.heap.size + 1 + 1, 0, none⟩ = some (.pointer (some ⟨V, 0, none⟩)) := (hsrc.out.cell 0).trans rfl
        have g1 : wr.cell? ⟨w.heap.size + 1 + 1, 1, none⟩ = some (.int .i64 now) := (hsrc.out.cell 1).trans rfl
        have g2 : wr.cell? ⟨w.heap.size + 1 + 1, 2, none⟩ = some (.map (some (w.heap.size + 1))) := (hsrc.out.cell 2).trans rfl
        have lg : w.heap.size + 1 + 1 < wr.heap.size := hsrc.out.lt
        clear hxs kE hX hR hF hsrc a0
        replace hBv := Lib.hid hBv
        replace hrow := Lib.hid hrow
        go_wp2_with fail
        have hE3 : Ext wr (wr.alloc (.cells #[.string r.name, .int .i64 r.when.op, .string r.when.name, .string r.when.text, .int .i64 r.when.n, .slice uq r.when.args.length uc, .int .i64 r.act, .int .i64 r.score] 46)) := (Ext.refl wr).alloc _
        refine (kZ.out _ hE3).mono ?_
        rintro e w2 ⟨rfl, hE2⟩
        have bR := (Blk.new wr #[.string r.name, .int .i64 r.when.op, .string r.when.name, .string r.when.text, .int .i64 r.when.n, .slice uq r.when.args.length uc, .int .i64 r.act, .int .i64 r.score] 46).ext hE2
        replace hE3 := hE3.trans hE2
        replace hBv := Lib.hid (hBv.out.ext hE3)
        replace hrow := Lib.hid (ownsRow_extE hrow.out hE3)
        obtain ⟨⟨vn, vk, vi, vt⟩, ev⟩ := EV
        simp only at hno hyes ⊢
        clear kZ g0 g1 g2 c0 c1 c2 c3 c4 c5 c6 c7 hE2
        by_cases g1 : ev = 0
        · subst g1
          by_cases g2 : vk = 3
          · subst g2
            by_cases g3 : vi = 1
            · subst g3
              have hN2 := Lib.hid (hyes.out rfl rfl rfl)
              have sV := kys_sep hrow.out hBv.out (by decide)
              have sR := kys_sep hrow.out bR (by decide)
              clear hno hyes
              have hzw := hE3.size
              have hwo := hEv.size
              have hkb : vf.length ≤ 64 := by omega
              have e3 : wrap64 (vs + r.score) = vs + r.score := by unfold wrap64; omega
              have v2 : w2.cell? ⟨wo.heap.size, 2, none⟩ = some (.slice gp vf.length gc) := (hBv.out.cell 2).trans rfl
              have r0 : w2.cell? ⟨wr.heap.size, 0, none⟩ = some (.string r.name) := (bR.cell 0).trans rfl
              have lv2 := hBv.out.lt
              have lr2 := bR.lt
              replace bR := Lib.hid bR
              go_wp2_with (at_builtin; refine wpList_append_lies _ rfl _ _ 22 rfl wo.heap.size 9 s0 (.string ⟨#[]⟩) 1 16 Tryz.underlying22 hi.out hz0.out hz1.out hz2.out rfl (by decide) _ vf.length (vf.map Value.string) rfl (ownsRow_extE hrow.out (((Ext.refl _).alloc _).alloc _)) ⟨w2.heap.size + 1, 0, none⟩ 1 1 [.string r.name] rfl rfl (World.news_of_block (Blk.new' (w2.alloc (.cells #[.string vn, .int .i64 3, .int .i64 1, .string vt] 62)) #[.string r.name] 9 _ (by simp))) (str_one _) (by decide) (by unfold maxLen; omega) (by omega) (by simp; omega) (w2.heap.size + 1 + 1) (by simp) ?_; intro gg cap w5 hown5 hgrow5 hat5 hgl5; have hQ := Lib.hid (jd_push hEv hE3 hBv.out hrow.out bR.out sV sR hgrow5 hat5 hown5); have v0 := hQ.out.1; have v1 := hQ.out.2.1; have v2 := hQ.out.2.2.1; have f0 := hQ.out.2.2.2.1; have f1 := hQ.out.2.2.2.2.1; have f2 := hQ.out.2.2.2.2.2.1; have lv5 := hQ.out.2.2.2.2.2.2.1; have r6 := hQ.out.2.2.2.2.2.2.2.1; have r7 := hQ.out.2.2.2.2.2.2.2.2.1; have hneq := hQ.out.2.2.2.2.2.2.2.2.2.1; clear hown5 hgrow5 hat5 hgl5)
              go_roundw
              case rel =>
               obtain ⟨q1, q2, q3⟩ := hQ.out.2.2.2.2.2.2.2.2.2.2 (max va r.act) (vs + r.score)
               exact ⟨k + 1, by omega, by go_num, .slice (some ⟨gg, 0, none⟩) (vf.length + 1) cap, by rw [hst.out, hN2.out]; exact q1, by rw [hst.out, hN2.out]; exact q2, q3⟩
              case measure => simp [intOf]; omega
            · have q3 : (vi == 1) = false := by simpa using g3
              have hN2 := Lib.hid (hno.out (by rintro ⟨h1, h2, h3⟩; first | exact g1 h1 | exact g2 h2 | exact g3 h3))
              clear hno hyes hi hz0 hz1 hz2
              go_wp2
              go_roundw
              case rel => exact ⟨k + 1, by omega, by go_num, .slice gp vf.length gc, by rw [hst.out, hN2.out]; exact hBv.out.ext xt, by rw [hst.out, hN2.out]; exact ownsRow_extE hrow.out xt, (hEv.trans hE3).trans xt⟩
              case measure => simp [intOf]; omega
          · have q2 : (vk == 3) = false := by simpa using g2
            have hN2 := Lib.hid (hno.out (by rintro ⟨h1, h2, h3⟩; first | exact g1 h1 | exact g2 h2 | exact g3 h3))
            clear hno hyes hi hz0 hz1 hz2
            go_wp2
            go_roundw
            case rel => exact ⟨k + 1, by omega, by go_num, .slice gp vf.length gc, by rw [hst.out, hN2.out]; exact hBv.out.ext xt, by rw [hst.out, hN2.out]; exact ownsRow_extE hrow.out xt, (hEv.trans hE3).trans xt⟩
            case measure => simp [intOf]; omega
        · have q1 : (ev == 0) = false := by simpa using g1
          have hN2 := Lib.hid (hno.out (by rintro ⟨h1, h2, h3⟩; first | exact g1 h1 | exact g2 h2 | exact g3 h3))
          clear hno hyes hi hz0 hz1 hz2
          go_wp2
          go_roundw
          case rel => exact ⟨k + 1, by omega, by go_num, .slice gp vf.length gc, by rw [hst.out, hN2.out]; exact hBv.out.ext xt, by rw [hst.out, hN2.out]; exact ownsRow_extE hrow.out xt, (hEv.trans hE3).trans xt⟩
          case measure => simp [intOf]; omega
      · obtain rfl : k = rules.length := by omega
        clear kE hX hR hF hsrc okg hi hz0 hz1 hz2
        have hE9 := hE.trans hEv
        replace b6 := hE9.get b6
        replace b7 := hE9.get b7
        replace hres := hres.out.ext hEv
        generalize verK l SS rules rules.length = VO at *
        obtain ⟨va, vs, vf⟩ := VO
        simp only at hBv hrow hbk
        obtain ⟨gp, gc, rfl⟩ := own_form hrow
        have hky := Lib.hid (kysM_own hrow (by omega))
        have v0 : wr.cell? ⟨wo.heap.size, 0, none⟩ = some (.int .i64 va) := (hBv.cell 0).trans rfl
        have v1 : wr.cell? ⟨wo.heap.size, 1, none⟩ = some (.int .i64 vs) := (hBv.cell 1).trans rfl
        have v2 : wr.cell? ⟨wo.heap.size, 2, none⟩ = some (.slice gp vf.length gc) := (hBv.cell 2).trans rfl
        have f0 : wr.frozen? ⟨wo.heap.size, 0, none⟩ = false := hBv.fz 0
        have lv := hBv.lt
        have e0 : wr.cell? ⟨w.heap.size, 0, none⟩ = some (.int .i64 0) := (hres.cell 0).trans rfl
        have e1 : wr.cell? ⟨w.heap.size, 1, none⟩ = some (.int .i64 0) := (hres.cell 1).trans rfl
        have e2 : wr.cell? ⟨w.heap.size, 2, none⟩ = some (.slice none 0 0) := (hres.cell 2).trans rfl
        have q0 : wr.frozen? ⟨w.heap.size, 0, none⟩ = false := hres.fz 0
        have q1 : wr.frozen? ⟨w.heap.size, 1, none⟩ = false := hres.fz 1
        have q2 : wr.frozen? ⟨w.heap.size, 2, none⟩ = false := hres.fz 2
        have lq := hres.lt
        have hsw : w.heap.size < wo.heap.size := by omega
        have hsn : w.heap.size ≠ wo.heap.size := by omega
        have sV := kys_sep hrow hBv (by decide)
        have sR := kys_sep hrow hres (by decide)
        have hvl : vf.length ≤ 1000000 := by omega
        have hE9w := hE9
        clear b1 lX1 lX2 e0 e1 e2 q0 q1 q2 lq hky hE9
        replace hBv := Lib.hid hBv
        replace hres := Lib.hid hres
        replace hrow := Lib.hid hrow
        by_cases g1 : refer ≤ vs
        · by_cases g2 : decline ≤ vs
          · have d1 : decide (refer ≤ vs) = true := decide_eq_true g1
            have d2 : decide (decline ≤ vs) = true := decide_eq_true g2
            have hJ2 : JV = ⟨2, vs, vf⟩ := by rw [hJ.out]; unfold endV; simp only [if_pos g2]
            subst hJ2
            clear hJ g1 g2
            go_wp2_with fail
            go_quiet (fail)
            have hE8 : Ext wr (wr.drewN nq) := xt
            replace hBv := Lib.hid (hBv.out.ext hE8)
            replace hres := Lib.hid (hres.out.ext hE8)
            have hC := Lib.hid (Chg.ofExt (F := fun k => k = wo.heap.size ∨ k = w.heap.size) hE8)
            replace b6 := hE8.get b6
            replace b7 := hE8.get b7
            clear hE8 v0 v1 v2 f0 lv
            generalize wr.drewN nq = w8 at *
            have v0 : w8.cell? ⟨wo.heap.size, 0, none⟩ = some (.int .i64 va) := (hBv.out.cell 0).trans rfl
            have v1 : w8.cell? ⟨wo.heap.size, 1, none⟩ = some (.int .i64 vs) := (hBv.out.cell 1).trans rfl
            have f0 : w8.frozen? ⟨wo.heap.size, 0, none⟩ = false := hBv.out.fz 0
            have lv := hBv.out.lt
            go_wp2_with fail
            go_quiet (fail)
            have hE9 : Ext (w8.setCell ⟨wo.heap.size, 0, none⟩ (.int .i64 (max va 1))) ((w8.setCell ⟨wo.heap.size, 0, none⟩ (.int .i64 (max va 1))).drewN nq) := xt
            replace hres := Lib.hid ((hres.out.chg (F := fun k => k = wo.heap.size) ((Chg.refl (fun k => k = wo.heap.size) w8).setCell (p := ⟨wo.heap.size, 0, none⟩) (Or.inl rfl) (.int .i64 (max va 1))) (fun e => hsn e)).ext hE9)
            have hBw : Blk (w8.setCell ⟨wo.heap.size, 0, none⟩ (.int .i64 (max va 1))) wo.heap.size #[.int .i64 (max va 1), .int .i64 vs, .slice gp vf.length gc] 24 := hBv.out.set 0 _
            replace hBv := Lib.hid (hBw.ext hE9)
            replace hC := Lib.hid ((hC.out.setCell (p := ⟨wo.heap.size, 0, none⟩) (Or.inl (Or.inl rfl)) (.int .i64 (max va 1))).ext hE9)
            clear hBw
            clear hE9 v0 v1 f0 lv b6 b7
            generalize (w8.setCell ⟨wo.heap.size, 0, none⟩ (.int .i64 (max va 1))).drewN nq = w9 at *
            have v0 : w9.cell? ⟨wo.heap.size, 0, none⟩ = some (.int .i64 (max va 1)) := (hBv.out.cell 0).trans rfl
            have v1 : w9.cell? ⟨wo.heap.size, 1, none⟩ = some (.int .i64 vs) := (hBv.out.cell 1).trans rfl
            have v2 : w9.cell? ⟨wo.heap.size, 2, none⟩ = some (.slice gp vf.length gc) := (hBv.out.cell 2).trans rfl
            have f0 : w9.frozen? ⟨wo.heap.size, 0, none⟩ = false := hBv.out.fz 0
            have lv := hBv.out.lt
            have e0 : w9.cell? ⟨w.heap.size, 0, none⟩ = some (.int .i64 0) := (hres.out.cell 0).trans rfl
            have e1 : w9.cell? ⟨w.heap.size, 1, none⟩ = some (.int .i64 0) := (hres.out.cell 1).trans rfl
            have e2 : w9.cell? ⟨w.heap.size, 2, none⟩ = some (.slice none 0 0) := (hres.out.cell 2).trans rfl
            have q0 : w9.frozen? ⟨w.heap.size, 0, none⟩ = false := hres.out.fz 0
            have q1 : w9.frozen? ⟨w.heap.size, 1, none⟩ = false := hres.out.fz 1
            have q2 : w9.frozen? ⟨w.heap.size, 2, none⟩ = false := hres.out.fz 2
            have lq := hres.out.lt
            go_wp2_with fail
            have bF : Blk ((((w9.setCell ⟨wo.heap.size, 0, none⟩ (.int .i64 2)).setCell ⟨w.heap.size, 0, none⟩ (.int .i64 (2))).setCell ⟨w.heap.size, 1, none⟩ (.int .i64 vs)).setCell ⟨w.heap.size, 2, none⟩ (.slice gp vf.length gc)) w.heap.size #[.int .i64 (2), .int .i64 vs, .slice gp vf.length gc] 24 := (((hres.out.chg (F := fun k => k = wo.heap.size) ((Chg.refl (fun k => k = wo.heap.size) w9).setCell (p := ⟨wo.heap.size, 0, none⟩) (Or.inl rfl) (.int .i64 2)) (fun e => hsn e)).set 0 (.int .i64 (2))).set 1 (.int .i64 vs)).set 2 (.slice gp vf.length gc)
            have s0 : ((((w9.setCell ⟨wo.heap.size, 0, none⟩ (.int .i64 2)).setCell ⟨w.heap.size, 0, none⟩ (.int .i64 (2))).setCell ⟨w.heap.size, 1, none⟩ (.int .i64 vs)).setCell ⟨w.heap.size, 2, none⟩ (.slice gp vf.length gc)).cell? ⟨w.heap.size, 0, none⟩ = some (.int .i64 (2)) := (bF.cell 0).trans rfl
            have s1 : ((((w9.setCell ⟨wo.heap.size, 0, none⟩ (.int .i64 2)).setCell ⟨w.heap.size, 0, none⟩ (.int .i64 (2))).setCell ⟨w.heap.size, 1, none⟩ (.int .i64 vs)).setCell ⟨w.heap.size, 2, none⟩ (.slice gp vf.length gc)).cell? ⟨w.heap.size, 1, none⟩ = some (.int .i64 vs) := (bF.cell 1).trans rfl
            have s2 : ((((w9.setCell ⟨wo.heap.size, 0, none⟩ (.int .i64 2)).setCell ⟨w.heap.size, 0, none⟩ (.int .i64 (2))).setCell ⟨w.heap.size, 1, none⟩ (.int .i64 vs)).setCell ⟨w.heap.size, 2, none⟩ (.slice gp vf.length gc)).cell? ⟨w.heap.size, 2, none⟩ = some (.slice gp vf.length gc) := (bF.cell 2).trans rfl
            have hC2 := ((((hC.out.setCell (p := ⟨wo.heap.size, 0, none⟩) (Or.inl (Or.inl rfl)) (.int .i64 2))).setCell (p := ⟨w.heap.size, 0, none⟩) (Or.inl (Or.inr rfl)) (.int .i64 (2))).setCell (p := ⟨w.heap.size, 1, none⟩) (Or.inl (Or.inr rfl)) (.int .i64 vs)).setCell (p := ⟨w.heap.size, 2, none⟩) (Or.inl (Or.inr rfl)) (.slice gp vf.length gc)
            clear bF e0 e1 e2 q0 q1 q2 v0 v1 v2 f0 lv lq
            generalize ((((w9.setCell ⟨wo.heap.size, 0, none⟩ (.int .i64 2)).setCell ⟨w.heap.size, 0, none⟩ (.int .i64 (2))).setCell ⟨w.heap.size, 1, none⟩ (.int .i64 vs)).setCell ⟨w.heap.size, 2, none⟩ (.slice gp vf.length gc)) = W at *
            refine bodyPost_ret (v := .tuple #[.agg #[.int .i64 (2), .int .i64 vs, .slice gp vf.length gc], .int .i64 0]) (by simp [results, Tryz.results15, go_sem, s0, s1, s2]) rfl ?_
            obtain ⟨z1, z2⟩ := jd_end hC2 hrow.out sV sR hvl hE9w (Nat.le_of_lt hsw)
            exact hend.out _ _ z2 z1
          · have d1 : decide (refer ≤ vs) = true := decide_eq_true g1
            have d2 : decide (decline ≤ vs) = false := decide_eq_false g2
            have hJ2 : JV = ⟨max va 1, vs, vf⟩ := by rw [hJ.out]; unfold endV; simp only [if_neg g2, if_pos g1]
            subst hJ2
            clear hJ g1 g2
            go_wp2_with fail
            go_quiet (fail)
            have hE8 : Ext wr (wr.drewN nq) := xt
            replace hBv := Lib.hid (hBv.out.ext hE8)
            replace hres := Lib.hid (hres.out.ext hE8)
            have hC := Lib.hid (Chg.ofExt (F := fun k => k = wo.heap.size ∨ k = w.heap.size) hE8)
            replace b6 := hE8.get b6
            replace b7 := hE8.get b7
            clear hE8 v0 v1 v2 f0 lv
            generalize wr.drewN nq = w8 at *
            have v0 : w8.cell? ⟨wo.heap.size, 0, none⟩ = some (.int .i64 va) := (hBv.out.cell 0).trans rfl
            have v1 : w8.cell? ⟨wo.heap.size, 1, none⟩ = some (.int .i64 vs) := (hBv.out.cell 1).trans rfl
            have f0 : w8.frozen? ⟨wo.heap.size, 0, none⟩ = false := hBv.out.fz 0
            have lv := hBv.out.lt
            go_wp2_with fail
            go_quiet (fail)
            have hE9 : Ext (w8.setCell ⟨wo.heap.size, 0, none⟩ (.int .i64 (max va 1))) ((w8.setCell ⟨wo.heap.size, 0, none⟩ (.int .i64 (max va 1))).drewN nq) := xt
            replace hres := Lib.hid ((hres.out.chg (F := fun k => k = wo.heap.size) ((Chg.refl (fun k => k = wo.heap.size) w8).setCell (p := ⟨wo.heap.size, 0, none⟩) (Or.inl rfl) (.int .i64 (max va 1))) (fun e => hsn e)).ext hE9)
            have hBw : Blk (w8.setCell ⟨wo.heap.size, 0, none⟩ (.int .i64 (max va 1))) wo.heap.size #[.int .i64 (max va 1), .int .i64 vs, .slice gp vf.length gc] 24 := hBv.out.set 0 _
            replace hBv := Lib.hid (hBw.ext hE9)
            replace hC := Lib.hid ((hC.out.setCell (p := ⟨wo.heap.size, 0, none⟩) (Or.inl (Or.inl rfl)) (.int .i64 (max va 1))).ext hE9)
            clear hBw
            clear hE9 v0 v1 f0 lv b6 b7
            generalize (w8.setCell ⟨wo.heap.size, 0, none⟩ (.int .i64 (max va 1))).drewN nq = w9 at *
            have v0 : w9.cell? ⟨wo.heap.size, 0, none⟩ = some (.int .i64 (max va 1)) := (hBv.out.cell 0).trans rfl
            have v1 : w9.cell? ⟨wo.heap.size, 1, none⟩ = some (.int .i64 vs) := (hBv.out.cell 1).trans rfl
            have v2 : w9.cell? ⟨wo.heap.size, 2, none⟩ = some (.slice gp vf.length gc) := (hBv.out.cell 2).trans rfl
            have f0 : w9.frozen? ⟨wo.heap.size, 0, none⟩ = false := hBv.out.fz 0
            have lv := hBv.out.lt
            have e0 : w9.cell? ⟨w.heap.size, 0, none⟩ = some (.int .i64 0) := (hres.out.cell 0).trans rfl
            have e1 : w9.cell? ⟨w.heap.size, 1, none⟩ = some (.int .i64 0) := (hres.out.cell 1).trans rfl
            have e2 : w9.cell? ⟨w.heap.size, 2, none⟩ = some (.slice none 0 0) := (hres.out.cell 2).trans rfl
            have q0 : w9.frozen? ⟨w.heap.size, 0, none⟩ = false := hres.out.fz 0
            have q1 : w9.frozen? ⟨w.heap.size, 1, none⟩ = false := hres.out.fz 1
            have q2 : w9.frozen? ⟨w.heap.size, 2, none⟩ = false := hres.out.fz 2
            have lq := hres.out.lt
            go_wp2_with fail
            have bF : Blk (((w9.setCell ⟨w.heap.size, 0, none⟩ (.int .i64 (max va 1))).setCell ⟨w.heap.size, 1, none⟩ (.int .i64 vs)).setCell ⟨w.heap.size, 2, none⟩ (.slice gp vf.length gc)) w.heap.size #[.int .i64 (max va 1), .int .i64 vs, .slice gp vf.length gc] 24 := ((hres.out.set 0 (.int .i64 (max va 1))).set 1 (.int .i64 vs)).set 2 (.slice gp vf.length gc)
            have s0 : (((w9.setCell ⟨w.heap.size, 0, none⟩ (.int .i64 (max va 1))).setCell ⟨w.heap.size, 1, none⟩ (.int .i64 vs)).setCell ⟨w.heap.size, 2, none⟩ (.slice gp vf.length gc)).cell? ⟨w.heap.size, 0, none⟩ = some (.int .i64 (max va 1)) := (bF.cell 0).trans rfl
            have s1 : (((w9.setCell ⟨w.heap.size, 0, none⟩ (.int .i64 (max va 1))).setCell ⟨w.heap.size, 1, none⟩ (.int .i64 vs)).setCell ⟨w.heap.size, 2, none⟩ (.slice gp vf.length gc)).cell? ⟨w.heap.size, 1, none⟩ = some (.int .i64 vs) := (bF.cell 1).trans rfl
            have s2 : (((w9.setCell ⟨w.heap.size, 0, none⟩ (.int .i64 (max va 1))).setCell ⟨w.heap.size, 1, none⟩ (.int .i64 vs)).setCell ⟨w.heap.size, 2, none⟩ (.slice gp vf.length gc)).cell? ⟨w.heap.size, 2, none⟩ = some (.slice gp vf.length gc) := (bF.cell 2).trans rfl
            have hC2 := (((hC.out).setCell (p := ⟨w.heap.size, 0, none⟩) (Or.inl (Or.inr rfl)) (.int .i64 (max va 1))).setCell (p := ⟨w.heap.size, 1, none⟩) (Or.inl (Or.inr rfl)) (.int .i64 vs)).setCell (p := ⟨w.heap.size, 2, none⟩) (Or.inl (Or.inr rfl)) (.slice gp vf.length gc)
            clear bF e0 e1 e2 q0 q1 q2 v0 v1 v2 f0 lv lq
            generalize (((w9.setCell ⟨w.heap.size, 0, none⟩ (.int .i64 (max va 1))).setCell ⟨w.heap.size, 1, none⟩ (.int .i64 vs)).setCell ⟨w.heap.size, 2, none⟩ (.slice gp vf.length gc)) = W at *
            refine bodyPost_ret (v := .tuple #[.agg #[.int .i64 (max va 1), .int .i64 vs, .slice gp vf.length gc], .int .i64 0]) (by simp [results, Tryz.results15, go_sem, s0, s1, s2]) rfl ?_
            obtain ⟨z1, z2⟩ := jd_end hC2 hrow.out sV sR hvl hE9w (Nat.le_of_lt hsw)
            exact hend.out _ _ z2 z1
        · by_cases g2 : decline ≤ vs
          · have d1 : decide (refer ≤ vs) = false := decide_eq_false g1
            have d2 : decide (decline ≤ vs) = true := decide_eq_true g2
            have hJ2 : JV = ⟨2, vs, vf⟩ := by rw [hJ.out]; unfold endV; simp only [if_pos g2]
            subst hJ2
            clear hJ g1 g2
            go_wp2_with fail
            go_quiet (fail)
            have hE8 : Ext wr (wr.drewN nq) := xt
            replace hBv := Lib.hid (hBv.out.ext hE8)
            replace hres := Lib.hid (hres.out.ext hE8)
            have hC := Lib.hid (Chg.ofExt (F := fun k => k = wo.heap.size ∨ k = w.heap.size) hE8)
            replace b6 := hE8.get b6
            replace b7 := hE8.get b7
            clear hE8 v0 v1 v2 f0 lv
            generalize wr.drewN nq = w8 at *
            have v0 : w8.cell? ⟨wo.heap.size, 0, none⟩ = some (.int .i64 va) := (hBv.out.cell 0).trans rfl
            have v1 : w8.cell? ⟨wo.heap.size, 1, none⟩ = some (.int .i64 vs) := (hBv.out.cell 1).trans rfl
            have f0 : w8.frozen? ⟨wo.heap.size, 0, none⟩ = false := hBv.out.fz 0
            have lv := hBv.out.lt
            go_wp2_with fail
            go_quiet (fail)
            have hE9 : Ext w8 (w8.drewN nq) := xt
            replace hres := Lib.hid (hres.out.ext hE9)
            replace hBv := Lib.hid (hBv.out.ext hE9)
            replace hC := Lib.hid (hC.out.ext hE9)
            clear hE9 v0 v1 f0 lv b6 b7
            generalize w8.drewN nq = w9 at *
            have v0 : w9.cell? ⟨wo.heap.size, 0, none⟩ = some (.int .i64 (va)) := (hBv.out.cell 0).trans rfl
            have v1 : w9.cell? ⟨wo.heap.size, 1, none⟩ = some (.int .i64 vs) := (hBv.out.cell 1).trans rfl
            have v2 : w9.cell? ⟨wo.heap.size, 2, none⟩ = some (.slice gp vf.length gc) := (hBv.out.cell 2).trans rfl
            have f0 : w9.frozen? ⟨wo.heap.size, 0, none⟩ = false := hBv.out.fz 0
            have lv := hBv.out.lt
            have e0 : w9.cell? ⟨w.heap.size, 0, none⟩ = some (.int .i64 0) := (hres.out.cell 0).trans rfl
            have e1 : w9.cell? ⟨w.heap.size, 1, none⟩ = some (.int .i64 0) := (hres.out.cell 1).trans rfl
            have e2 : w9.cell? ⟨w.heap.size, 2, none⟩ = some (.slice none 0 0) := (hres.out.cell 2).trans rfl
            have q0 : w9.frozen? ⟨w.heap.size, 0, none⟩ = false := hres.out.fz 0
            have q1 : w9.frozen? ⟨w.heap.size, 1, none⟩ = false := hres.out.fz 1
            have q2 : w9.frozen? ⟨w.heap.size, 2, none⟩ = false := hres.out.fz 2
            have lq := hres.out.lt
            go_wp2_with fail
            have bF : Blk ((((w9.setCell ⟨wo.heap.size, 0, none⟩ (.int .i64 2)).setCell ⟨w.heap.size, 0, none⟩ (.int .i64 (2))).setCell ⟨w.heap.size, 1, none⟩ (.int .i64 vs)).setCell ⟨w.heap.size, 2, none⟩ (.slice gp vf.length gc)) w.heap.size #[.int .i64 (2), .int .i64 vs, .slice gp vf.length gc] 24 := (((hres.out.chg (F := fun k => k = wo.heap.size) ((Chg.refl (fun k => k = wo.heap.size) w9).setCell (p := ⟨wo.heap.size, 0, none⟩) (Or.inl rfl) (.int .i64 2)) (fun e => hsn e)).set 0 (.int .i64 (2))).set 1 (.int .i64 vs)).set 2 (.slice gp vf.length gc)
            have s0 : ((((w9.setCell ⟨wo.heap.size, 0, none⟩ (.int .i64 2)).setCell ⟨w.heap.size, 0, none⟩ (.int .i64 (2))).setCell ⟨w.heap.size, 1, none⟩ (.int .i64 vs)).setCell ⟨w.heap.size, 2, none⟩ (.slice gp vf.length gc)).cell? ⟨w.heap.size, 0, none⟩ = some (.int .i64 (2)) := (bF.cell 0).trans rfl
            have s1 : ((((w9.setCell ⟨wo.heap.size, 0, none⟩ (.int .i64 2)).setCell ⟨w.heap.size, 0, none⟩ (.int .i64 (2))).setCell ⟨w.heap.size, 1, none⟩ (.int .i64 vs)).setCell ⟨w.heap.size, 2, none⟩ (.slice gp vf.length gc)).cell? ⟨w.heap.size, 1, none⟩ = some (.int .i64 vs) := (bF.cell 1).trans rfl
            have s2 : ((((w9.setCell ⟨wo.heap.size, 0, none⟩ (.int .i64 2)).setCell ⟨w.heap.size, 0, none⟩ (.int .i64 (2))).setCell ⟨w.heap.size, 1, none⟩ (.int .i64 vs)).setCell ⟨w.heap.size, 2, none⟩ (.slice gp vf.length gc)).cell? ⟨w.heap.size, 2, none⟩ = some (.slice gp vf.length gc) := (bF.cell 2).trans rfl
            have hC2 := ((((hC.out.setCell (p := ⟨wo.heap.size, 0, none⟩) (Or.inl (Or.inl rfl)) (.int .i64 2))).setCell (p := ⟨w.heap.size, 0, none⟩) (Or.inl (Or.inr rfl)) (.int .i64 (2))).setCell (p := ⟨w.heap.size, 1, none⟩) (Or.inl (Or.inr rfl)) (.int .i64 vs)).setCell (p := ⟨w.heap.size, 2, none⟩) (Or.inl (Or.inr rfl)) (.slice gp vf.length gc)
            clear bF e0 e1 e2 q0 q1 q2 v0 v1 v2 f0 lv lq
            generalize ((((w9.setCell ⟨wo.heap.size, 0, none⟩ (.int .i64 2)).setCell ⟨w.heap.size, 0, none⟩ (.int .i64 (2))).setCell ⟨w.heap.size, 1, none⟩ (.int .i64 vs)).setCell ⟨w.heap.size, 2, none⟩ (.slice gp vf.length gc)) = W at *
            refine bodyPost_ret (v := .tuple #[.agg #[.int .i64 (2), .int .i64 vs, .slice gp vf.length gc], .int .i64 0]) (by simp [results, Tryz.results15, go_sem, s0, s1, s2]) rfl ?_
            obtain ⟨z1, z2⟩ := jd_end hC2 hrow.out sV sR hvl hE9w (Nat.le_of_lt hsw)
            exact hend.out _ _ z2 z1
          · have d1 : decide (refer ≤ vs) = false := decide_eq_false g1
            have d2 : decide (decline ≤ vs) = false := decide_eq_false g2
            have hJ2 : JV = ⟨va, vs, vf⟩ := by rw [hJ.out]; unfold endV; simp only [if_neg g2, if_neg g1]
            subst hJ2
            clear hJ g1 g2
            go_wp2_with fail
            go_quiet (fail)
            have hE8 : Ext wr (wr.drewN nq) := xt
            replace hBv := Lib.hid (hBv.out.ext hE8)
            replace hres := Lib.hid (hres.out.ext hE8)
            have hC := Lib.hid (Chg.ofExt (F := fun k => k = wo.heap.size ∨ k = w.heap.size) hE8)
            replace b6 := hE8.get b6
            replace b7 := hE8.get b7
            clear hE8 v0 v1 v2 f0 lv
            generalize wr.drewN nq = w8 at *
            have v0 : w8.cell? ⟨wo.heap.size, 0, none⟩ = some (.int .i64 va) := (hBv.out.cell 0).trans rfl
            have v1 : w8.cell? ⟨wo.heap.size, 1, none⟩ = some (.int .i64 vs) := (hBv.out.cell 1).trans rfl
            have f0 : w8.frozen? ⟨wo.heap.size, 0, none⟩ = false := hBv.out.fz 0
            have lv := hBv.out.lt
            go_wp2_with fail
            go_quiet (fail)
            have hE9 : Ext w8 (w8.drewN nq) := xt
            replace hres := Lib.hid (hres.out.ext hE9)
            replace hBv := Lib.hid (hBv.out.ext hE9)
            replace hC := Lib.hid (hC.out.ext hE9)
            clear hE9 v0 v1 f0 lv b6 b7
            generalize w8.drewN nq = w9 at *
            have v0 : w9.cell? ⟨wo.heap.size, 0, none⟩ = some (.int .i64 (va)) := (hBv.out.cell 0).trans rfl
            have v1 : w9.cell? ⟨wo.heap.size, 1, none⟩ = some (.int .i64 vs) := (hBv.out.cell 1).trans rfl
            have v2 : w9.cell? ⟨wo.heap.size, 2, none⟩ = some (.slice gp vf.length gc) := (hBv.out.cell 2).trans rfl
            have f0 : w9.frozen? ⟨wo.heap.size, 0, none⟩ = false := hBv.out.fz 0
            have lv := hBv.out.lt
            have e0 : w9.cell? ⟨w.heap.size, 0, none⟩ = some (.int .i64 0) := (hres.out.cell 0).trans rfl
            have e1 : w9.cell? ⟨w.heap.size, 1, none⟩ = some (.int .i64 0) := (hres.out.cell 1).trans rfl
            have e2 : w9.cell? ⟨w.heap.size, 2, none⟩ = some (.slice none 0 0) := (hres.out.cell 2).trans rfl
            have q0 : w9.frozen? ⟨w.heap.size, 0, none⟩ = false := hres.out.fz 0
            have q1 : w9.frozen? ⟨w.heap.size, 1, none⟩ = false := hres.out.fz 1
            have q2 : w9.frozen? ⟨w.heap.size, 2, none⟩ = false := hres.out.fz 2
            have lq := hres.out.lt
            go_wp2_with fail
            have bF : Blk (((w9.setCell ⟨w.heap.size, 0, none⟩ (.int .i64 (va))).setCell ⟨w.heap.size, 1, none⟩ (.int .i64 vs)).setCell ⟨w.heap.size, 2, none⟩ (.slice gp vf.length gc)) w.heap.size #[.int .i64 (va), .int .i64 vs, .slice gp vf.length gc] 24 := ((hres.out.set 0 (.int .i64 (va))).set 1 (.int .i64 vs)).set 2 (.slice gp vf.length gc)
            have s0 : (((w9.setCell ⟨w.heap.size, 0, none⟩ (.int .i64 (va))).setCell ⟨w.heap.size, 1, none⟩ (.int .i64 vs)).setCell ⟨w.heap.size, 2, none⟩ (.slice gp vf.length gc)).cell? ⟨w.heap.size, 0, none⟩ = some (.int .i64 (va)) := (bF.cell 0).trans rfl
            have s1 : (((w9.setCell ⟨w.heap.size, 0, none⟩ (.int .i64 (va))).setCell ⟨w.heap.size, 1, none⟩ (.int .i64 vs)).setCell ⟨w.heap.size, 2, none⟩ (.slice gp vf.length gc)).cell? ⟨w.heap.size, 1, none⟩ = some (.int .i64 vs) := (bF.cell 1).trans rfl
            have s2 : (((w9.setCell ⟨w.heap.size, 0, none⟩ (.int .i64 (va))).setCell ⟨w.heap.size, 1, none⟩ (.int .i64 vs)).setCell ⟨w.heap.size, 2, none⟩ (.slice gp vf.length gc)).cell? ⟨w.heap.size, 2, none⟩ = some (.slice gp vf.length gc) := (bF.cell 2).trans rfl
            have hC2 := (((hC.out).setCell (p := ⟨w.heap.size, 0, none⟩) (Or.inl (Or.inr rfl)) (.int .i64 (va))).setCell (p := ⟨w.heap.size, 1, none⟩) (Or.inl (Or.inr rfl)) (.int .i64 vs)).setCell (p := ⟨w.heap.size, 2, none⟩) (Or.inl (Or.inr rfl)) (.slice gp vf.length gc)
            clear bF e0 e1 e2 q0 q1 q2 v0 v1 v2 f0 lv lq
            generalize (((w9.setCell ⟨w.heap.size, 0, none⟩ (.int .i64 (va))).setCell ⟨w.heap.size, 1, none⟩ (.int .i64 vs)).setCell ⟨w.heap.size, 2, none⟩ (.slice gp vf.length gc)) = W at *
            refine bodyPost_ret (v := .tuple #[.agg #[.int .i64 (va), .int .i64 vs, .slice gp vf.length gc], .int .i64 0]) (by simp [results, Tryz.results15, go_sem, s0, s1, s2]) rfl ?_
            obtain ⟨z1, z2⟩ := jd_end hC2 hrow.out sV sR hvl hE9w (Nat.le_of_lt hsw)
            exact hend.out _ _ z2 z1
end Go.Proofs.YtangdoidkcelfaaGreatDoor
