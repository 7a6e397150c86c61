/- Maps by strings whose values are known; the contract of fraud.check (walks; printed by gen/h34.py). -/
import Derived.Test.YtangdoidkcelfaaGreatDoorKq
namespace Go.Proofs.YtangdoidkcelfaaGreatDoor
open Go.RowKit
/-- Block b is a map of at most n entries that holds what f says. -/
def KV (w : World) (b n : Nat) (f : ByteArray → Option Value) : Prop :=
 ∃ m D, w.ownsMap Tryz.prog 9 rdF b m D ∧ m ≤ n ∧ (∀ nm : ByteArray, Maps.has D (kyB nm) = (f nm).isSome) ∧ ∀ (nm : ByteArray) (z : Value), D.atKey (kyB nm) (.held z) = .held ((f nm).getD z)
theorem KV.made (w : World) : KV (w.alloc (.map #[] 0)) w.heap.size 0 (fun _ => none) :=
 ⟨0, .map [], World.ownsMap_made w _ _ _, Nat.le_refl _, fun _ => rfl, fun _ _ => rfl⟩
theorem KV.lt {w : World} {b n : Nat} {f : ByteArray → Option Value} (h : KV w b n f) : b < w.heap.size := by
 obtain ⟨m, D, ho, _⟩ := h
 exact ho.lt
theorem KV.blk {w w' : World} {b n : Nat} {f : ByteArray → Option Value} (h : KV w b n f) (k : w'.heap[b]? = w.heap[b]?) : KV w' b n f := by
 obtain ⟨m, D, ⟨es, clock, hb, F, hs, hD⟩, h2, h3, h4⟩ := h
 exact ⟨m, D, ⟨es, clock, k.trans hb, F, hs, hD⟩, h2, h3, h4⟩
theorem KV.ext {w w' : World} {b n : Nat} {f : ByteArray → Option Value} (h : KV w b n f) (k : Ext w w') : KV w' b n f := h.blk (k.block b h.lt)
theorem KV.look {w : World} {b n : Nat} {f : ByteArray → Option Value} (h : KV w b n f) {T e : TypeId} (hT : Tryz.prog.underlying T = some (.map 9 e)) (z : Value) (hz : (zeroValue e).run Tryz.prog w = .ok z w) (nm : ByteArray) (hs : nm.size ≤ 1000000) : (Instr.lookup T (.map (some b)) (.string nm) true).run Tryz.prog w = .ok (.tuple #[(f nm).getD z, .bool (f nm).isSome]) w := by
 obtain ⟨m, D, ho, hn, hh, ha⟩ := h
 obtain ⟨v, ps, hrun, hv⟩ := ho.look_ok lawS hT hz (zd := .held z) (zp := []) rfl (key_is nm hs)
 rw [ha nm] at hv
 simp only [rdF, Option.some.injEq, Prod.mk.injEq, DataW.held.injEq] at hv
 rw [hrun, hh nm, hv.1]
theorem KV.look1 {w : World} {b n : Nat} {f : ByteArray → Option Value} (h : KV w b n f) {T e : TypeId} (hT : Tryz.prog.underlying T = some (.map 9 e)) (z : Value) (hz : (zeroValue e).run Tryz.prog w = .ok z w) (nm : ByteArray) (hs : nm.size ≤ 1000000) : (Instr.lookup T (.map (some b)) (.string nm) false).run Tryz.prog w = .ok ((f nm).getD z) w := by
 obtain ⟨m, D, ho, hn, hh, ha⟩ := h
 obtain ⟨v, ps, hrun, hv⟩ := ho.lookup lawS hT hz (zd := .held z) (zp := []) rfl (key_is nm hs)
 rw [ha nm] at hv
 simp only [rdF, Option.some.injEq, Prod.mk.injEq, DataW.held.injEq] at hv
 rw [hrun, hv.1]
/-- The map behind m[nm] = v. -/
def putV (f : ByteArray → Option Value) (nm : ByteArray) (v : Value) : ByteArray → Option Value := fun s => if s = nm then some v else f s
theorem KV.put {w : World} {b n : Nat} {f : ByteArray → Option Value} (h : KV w b n f) {T e : TypeId} (hT : Tryz.prog.underlying T = some (.map 9 e)) (nm : ByteArray) (val : Value) (hs : nm.size ≤ 1000000) (hl : n ≤ 1000000) : ∃ w', (Instr.mapUpdate T (.map (some b)) (.string nm) val).run Tryz.prog w = .ok () w' ∧ KV w' b (n + 1) (putV f nm val) ∧ w.grownBy w' (some b) := by
 obtain ⟨m, D, ho, hn, hh, ha⟩ := h
 have ht := (ho.tidy lawS)
 obtain ⟨w', hrun, ho', hg⟩ := ho.update lawS hT (by unfold maxLen; omega) (key_is nm hs) (val := val) (d := .held val) (ps := []) rfl
 refine ⟨w', hrun, ⟨m + 1, _, ho', by omega, ?_, ?_⟩, hg⟩
 · intro s
   unfold putV
   by_cases e : s = nm
   · subst e
     rw [Maps.has_put_same ho.isMap (lawS.key (key_is s hs)), if_pos rfl]
     rfl
   · rw [Maps.has_put_other (fun he => e (kyB_inj he)), hh s, if_neg e]
 · intro s z
   unfold putV
   by_cases e : s = nm
   · subst e
     rw [Maps.atKey_put_same ho.isMap (lawS.key (key_is s hs)), if_pos rfl]
     rfl
   · rw [Maps.atKey_put_other (fun he => e (kyB_inj he)), ha s, if_neg e]
section
variable {w : World} {ops : Array Oper} {rest : List Oper} {o : Oper} {a : Act} {Q : Exit → Act → World → Prop} {b n : Nat} {f : ByteArray → Option Value} {T e : TypeId}
theorem wpList_lookV (hT : Tryz.prog.underlying T = some (.map 9 e)) (z : Value) (hz : ∀ w, (zeroValue e).run Tryz.prog w = .ok z w)
 (hg : o.guard = none) (m x : Operand) (hop : o.op = Op.lookup T m x false) (hm : a.eval m = .map (some b)) (hk : KV w b n f) (nm : ByteArray) (hx : a.eval x = .string nm) (hs : nm.size ≤ 1000000) (r : Option Value) (hr : f nm = r)
 (hK : wpList Tryz.prog ops Q rest (a.put o.dst (r.getD z)) w) : wpList Tryz.prog ops Q (o :: rest) a w := by
 refine wpList_plain hg fun K' hK' => ?_
 subst hr
 have hrun := hk.look1 hT z (hz w) nm hs
 unfold Oper.wp
 simp [execOp, hop, hm, hx, hrun, Result.andThen]
 exact hK' _ _ hK
theorem wpList_lookW (hT : Tryz.prog.underlying T = some (.map 9 e)) (z : Value) (hz : ∀ w, (zeroValue e).run Tryz.prog w = .ok z w)
 (hg : o.guard = none) (m x : Operand) (hop : o.op = Op.lookup T m x true) (hm : a.eval m = .map (some b)) (hk : KV w b n f) (nm : ByteArray) (hx : a.eval x = .string nm) (hs : nm.size ≤ 1000000) (r : Option Value) (hr : f nm = r)
 (hK : wpList Tryz.prog ops Q rest (a.put o.dst (.tuple #[r.getD z, .bool r.isSome])) w) : wpList Tryz.prog ops Q (o :: rest) a w := by
 refine wpList_plain hg fun K' hK' => ?_
 subst hr
 have hrun := hk.look hT z (hz w) nm hs
 unfold Oper.wp
 simp [execOp, hop, hm, hx, hrun, Result.andThen]
 exact hK' _ _ hK
theorem wpList_putV (hT : Tryz.prog.underlying T = some (.map 9 e)) (hg : o.guard = none) (m x v : Operand) (hop : o.op = Op.mapUpdate T m x v) (hm : a.eval m = .map (some b)) (hk : KV w b n f) (nm : ByteArray) (hx : a.eval x = .string nm) (val : Value) (hv : a.eval v = val)
 (hs : nm.size ≤ 1000000) (hl : n ≤ 1000000) (hK : ∀ w', KV w' b (n + 1) (putV f nm val) → w.grownBy w' (some b) → wpList Tryz.prog ops Q rest (a.put o.dst undef) w') : wpList Tryz.prog ops Q (o :: rest) a w := by
 refine wpList_plain hg fun K' hK' => ?_
 obtain ⟨w', hrun, r1, r2⟩ := hk.put hT nm val hs hl
 unfold Oper.wp
 simp [execOp, hop, hm, hx, hv, hrun, Result.andThen]
 exact hK' _ _ (hK w' r1 r2)
end
theorem zeroB (w : World) : (zeroValue 4).run Tryz.prog w = .ok (.bool false) w := by kernel_rfl
theorem zeroS (w : World) : (zeroValue 9).run Tryz.prog w = .ok (.string ⟨#[]⟩) w := by kernel_rfl
/-- The names that were met. -/
def metF (ns : List ByteArray) : ByteArray → Option Value := fun s => if ns.any (fun m => decide (m = s)) then some (.bool true) else none
theorem metF_put (ns : List ByteArray) (nm : ByteArray) : putV (metF ns) nm (.bool true) = metF (ns ++ [nm]) := by
 funext s
 unfold putV metF
 rw [List.any_append]
 by_cases e : s = nm
 · subst e; simp
 · rw [if_neg e]
   simp only [List.any_cons, List.any_nil, decide_eq_false (fun h : nm = s => e h.symm), Bool.or_false]
theorem fr_take {l : List FrR} {k : Nat} (h : k < l.length) : l.take (k + 1) = l.take k ++ [l.getD k frD] := by
 rw [List.take_add_one, List.getD_eq_getElem?_getD, List.getElem?_eq_getElem h]
 rfl
theorem fr_drop {l : List FrR} {k : Nat} (h : k < l.length) : l.drop k = l.getD k frD :: l.drop (k + 1) := by
 rw [List.drop_eq_getElem_cons h, List.getD_eq_getElem?_getD, List.getElem?_eq_getElem h]
 rfl
theorem frN_step (l : List FrR) (k : Nat) (h : k < l.length) : frN ((l.take k).map (·.name)) (l.drop k) = if nameB (l.getD k frD).name = false then 5 else if ((l.take k).map (·.name)).any (fun m => decide (m = (l.getD k frD).name)) then 7 else if (l.getD k frD).act < 0 ∨ 2 < (l.getD k frD).act ∨ (l.getD k frD).score < 0 ∨ 1000 < (l.getD k frD).score then 4 else frN ((l.take (k + 1)).map (·.name)) (l.drop (k + 1)) := by
 rw [fr_drop h, fr_take h, List.map_append]
 rfl
theorem frT_step (fs : List Feat) (l : List FrR) (k : Nat) (h : k < l.length) : frT fs (l.drop k) = if (checkV (l.getD k frD).when fs).2 ≠ 0 then (checkV (l.getD k frD).when fs).2 else if (checkV (l.getD k frD).when fs).1 ≠ 3 then 28 else frT fs (l.drop (k + 1)) := by
 rw [fr_drop h]
 rfl
theorem frE_long {l : List FrR} {r d : Int} (h : 64 < l.length) : frE l r d = 3 := if_pos h
theorem frE_n {l : List FrR} {r d : Int} (h : ¬ 64 < l.length) (h2 : frN [] l ≠ 0) : frE l r d = frN [] l := by unfold frE; rw [if_neg h, if_pos h2]
theorem frE_r {l : List FrR} {r d : Int} (h : ¬ 64 < l.length) (h2 : frN [] l = 0) (h3 : r < 1 ∨ d < r ∨ 1000000 < d) : frE l r d = 4 := by unfold frE; rw [if_neg h, if_neg (by rw [h2]; decide), if_pos h3]
theorem frE_t {l : List FrR} {r d : Int} (h : ¬ 64 < l.length) (h2 : frN [] l = 0) (h3 : ¬ (r < 1 ∨ d < r ∨ 1000000 < d)) : frE l r d = frT (msgF []) l := by unfold frE; rw [if_neg h, if_neg (by rw [h2]; decide), if_neg h3]
theorem OneQ.mk {n m : Int} {w w' : World} (h : m = n) (hE : Ext w w') : OneQ (.int .i64 n) w (.returned (.int .i64 m)) w' := ⟨by rw [h], hE⟩
set_option maxRecDepth 8000 in
set_option maxHeartbeats 8000000 in
theorem frcheck_any (rv : Value) (l : List FrR) (refer decline : Int) (w : World) (hR : FrsM w rv l) : Calls Tryz.prog 34 #[rv, .int .i64 refer, .int .i64 decline] w (OneQ (.int .i64 (frE l refer decline)) w) := by
 obtain ⟨lp, lc, rfl⟩ := hR.form
 have hll := hR.1
 replace hR := Lib.hid hR
 by_cases hbig : 64 < l.length
 · have d1 : decide (64 < (l.length : Int)) = true := decide_eq_true (by omega)
   have hV := Lib.hid (frE_long (r := refer) (d := decline) hbig)
   generalize frE l refer decline = E at *
   go_enter Tryz.func34, Tryz.ntmps34
   go_wp2
   go_ret
   exact OneQ.mk hV.out.symm xt
 have d1 : decide (64 < (l.length : Int)) = false := decide_eq_false (by omega)
 have kF := Lib.hid (fun w1 (_ : Ext w w1) => show Calls Tryz.prog 11 #[.agg #[.int .i64 0, .slice none 0 0]] w1 (FeaP [] w1) from features_any 0 (.slice none 0 0) [] w1 ⟨none, 0, rfl, fun h => by cases h⟩ (by simp))
 have hV1 := Lib.hid (frE_n (r := refer) (d := decline) hbig)
 have hV2 := Lib.hid (frE_r (r := refer) (d := decline) hbig)
 have hV3 := Lib.hid (frE_t (r := refer) (d := decline) hbig)
 generalize frE l refer decline = E at *
 obtain ⟨NN, hN⟩ : ∃ NN, NN = frN [] l := ⟨_, rfl⟩
 rw [← hN] at hV1 hV2 hV3
 have hN0 := Lib.hid (show NN = frN ((l.take 0).map (·.name)) (l.drop 0) from hN)
 clear hN
 have hmm := @run_makeMap Tryz.prog
 go_enter Tryz.func34, Tryz.ntmps34
 go_wp2_with fail
 clear d1 hmm
 go_loopw [21] (fun i wr => ∃ k : Nat, k ≤ l.length ∧ i = .int .i64 k ∧ Hid (NN = frN ((l.take k).map (·.name)) (l.drop k)) ∧ KV wr w.heap.size k (metF ((l.take k).map (·.name))) ∧ Ext w wr) (fun i _ => l.length - (intOf i).toNat)
 case atStart => exact ⟨0, Nat.zero_le _, rfl, hN0, (KV.made w), xt⟩
 case round =>
  obtain ⟨k, hk, rfl, hNk, hM, hE⟩ := hrel
  clear hN0
  replace hM := Lib.hid hM
  have hMlt := hM.out.lt
  by_cases hlt : k < l.length
  · clear kF hV2 hV3
    obtain ⟨b, off, rfl, sv, hkid⟩ := hR.out.at (by omega)
    obtain ⟨hc, hsu⟩ := hkid k hlt
    replace hsu := hsu.ext hE
    obtain ⟨h0, h1, h2, h3, h4, h5, h6, h7⟩ := hc.ext hE
    have hst := Lib.hid (frN_step l k hlt)
    have htk := Lib.hid (fr_take hlt)
    obtain ⟨uq, uc, huv⟩ := hsu.form
    generalize l.getD k frD = r at *
    rw [huv] at h5
    clear huv hsu hc hkid
    have hmp := Lib.hid (show (l.take (k + 1)).map (·.name) = (l.take k).map (·.name) ++ [r.name] by rw [htk.out, List.map_append]; rfl)
    clear htk
    have hk64 : k ≤ 1000000 := by omega
    generalize hns : (l.take k).map (·.name) = ns at *
    clear hns
    have hnm := Lib.hid (isName_any r.name)
    cases hb : nameB r.name with
    | false =>
     have hVV := Lib.hid (show E = 5 by have h := hst.out; rw [if_pos hb] at h; have h2 := hNk.out.trans h; rw [hV1.out (by rw [h2]; decide)]; exact h2)
     rw [hb] at hnm
     clear hst hmp hNk hV1 hb
     go_wp2_with fail
     refine (hnm.out _).mono ?_
     rintro e w2 ⟨rfl, rfl⟩
     go_wp2
     go_ret
     exact OneQ.mk hVV.out.symm xt
    | true =>
     have hsz : Hid (r.name.size ≤ 1000000) := Lib.hid (by have := nameB_size hb; omega)
     cases hmet : ns.any (fun m => decide (m = r.name)) with
     | true =>
      have hfd := Lib.hid (show metF ns r.name = some (.bool true) by unfold metF; rw [hmet]; rfl)
      have hVV := Lib.hid (show E = 7 by have h := hst.out; rw [if_neg (by rw [hb]; decide), if_pos hmet] at h; have h2 := hNk.out.trans h; rw [hV1.out (by rw [h2]; decide)]; exact h2)
      rw [hb] at hnm
      clear hst hmp hNk hV1 hb hmet
      go_wp2_with fail
      refine (hnm.out _).mono ?_
      rintro e w2 ⟨rfl, rfl⟩
      go_wp2_with (at_lookup; refine wpList_lookV Tryz.underlying115 (.bool false) zeroB rfl _ _ rfl rfl (hM.out.ext ((Ext.refl _).alloc _)) r.name rfl hsz.out (some (.bool true)) hfd.out ?_)
      go_ret
      exact OneQ.mk hVV.out.symm xt
     | false =>
      have hfd := Lib.hid (show metF ns r.name = none by unfold metF; rw [hmet]; rfl)
      rw [if_neg (by rw [hb]; decide), if_neg (by rw [hmet]; decide)] at hst
      have hneB : wr.heap.size ≠ w.heap.size := by omega
      rw [hb] at hnm
      clear hb hmet
      by_cases q : r.act < 0
      · have c0 : decide (r.act < 0) = true := decide_eq_true q
        have hVV := Lib.hid (show E = 4 by have h := hst.out; rw [if_pos (Or.inl q)] at h; have h2 := hNk.out.trans h; rw [hV1.out (by rw [h2]; decide)]; exact h2)
        clear hst hmp hNk hV1 q
        go_wp2_with fail
        refine (hnm.out _).mono ?_
        rintro e w2 ⟨rfl, rfl⟩
        have bX := Blk.new wr #[.string r.name, .int .i64 r.when.op, .string r.when.name, .string r.when.text, .int .i64 r.when.n, .slice uq r.when.args.length uc, .int .i64 r.act, .int .i64 r.score] 46
        go_wp2_with (first | (at_lookup; refine wpList_lookV Tryz.underlying115 (.bool false) zeroB rfl _ _ rfl rfl (hM.out.ext ((Ext.refl _).alloc _)) r.name rfl hsz.out none hfd.out ?_) | (at_mapUpdate; refine wpList_putV Tryz.underlying115 rfl _ _ _ rfl rfl (hM.out.ext ((Ext.refl _).alloc _)) r.name rfl (.bool true) rfl hsz.out hk64 ?_; intro w3 hM3 hg3; have bX3 := bX.chg (Chg.ofGrown hg3) (fun e => hneB (by injection e)); have z6 : w3.cell? ⟨wr.heap.size, 6, none⟩ = some (.int .i64 r.act) := (bX3.cell 6).trans rfl; have z7 : w3.cell? ⟨wr.heap.size, 7, none⟩ = some (.int .i64 r.score) := (bX3.cell 7).trans rfl; have hE3 := Lib.hid (Ext.grown (hE.alloc (.cells #[.string r.name, .int .i64 r.when.op, .string r.when.name, .string r.when.text, .int .i64 r.when.n, .slice uq r.when.args.length uc, .int .i64 r.act, .int .i64 r.score] 46)) hg3 (Nat.le_refl _)); replace hM3 := Lib.hid hM3; clear bX bX3 hg3))
        go_ret
        exact OneQ.mk hVV.out.symm hE3.out
      have c0 : decide (r.act < 0) = false := decide_eq_false q
      have q0 := q
      clear q
      by_cases q : 2 < r.act
      · have c1 : decide (2 < r.act) = true := decide_eq_true q
        have hVV := Lib.hid (show E = 4 by have h := hst.out; rw [if_pos (Or.inr (Or.inl q))] at h; have h2 := hNk.out.trans h; rw [hV1.out (by rw [h2]; decide)]; exact h2)
        clear hst hmp hNk hV1 q
        go_wp2_with fail
        refine (hnm.out _).mono ?_
        rintro e w2 ⟨rfl, rfl⟩
        have bX := Blk.new wr #[.string r.name, .int .i64 r.when.op, .string r.when.name, .string r.when.text, .int .i64 r.when.n, .slice uq r.when.args.length uc, .int .i64 r.act, .int .i64 r.score] 46
        go_wp2_with (first | (at_lookup; refine wpList_lookV Tryz.underlying115 (.bool false) zeroB rfl _ _ rfl rfl (hM.out.ext ((Ext.refl _).alloc _)) r.name rfl hsz.out none hfd.out ?_) | (at_mapUpdate; refine wpList_putV Tryz.underlying115 rfl _ _ _ rfl rfl (hM.out.ext ((Ext.refl _).alloc _)) r.name rfl (.bool true) rfl hsz.out hk64 ?_; intro w3 hM3 hg3; have bX3 := bX.chg (Chg.ofGrown hg3) (fun e => hneB (by injection e)); have z6 : w3.cell? ⟨wr.heap.size, 6, none⟩ = some (.int .i64 r.act) := (bX3.cell 6).trans rfl; have z7 : w3.cell? ⟨wr.heap.size, 7, none⟩ = some (.int .i64 r.score) := (bX3.cell 7).trans rfl; have hE3 := Lib.hid (Ext.grown (hE.alloc (.cells #[.string r.name, .int .i64 r.when.op, .string r.when.name, .string r.when.text, .int .i64 r.when.n, .slice uq r.when.args.length uc, .int .i64 r.act, .int .i64 r.score] 46)) hg3 (Nat.le_refl _)); replace hM3 := Lib.hid hM3; clear bX bX3 hg3))
        go_ret
        exact OneQ.mk hVV.out.symm hE3.out
      have c1 : decide (2 < r.act) = false := decide_eq_false q
      have q1 := q
      clear q
      by_cases q : r.score < 0
      · have c2 : decide (r.score < 0) = true := decide_eq_true q
        have hVV := Lib.hid (show E = 4 by have h := hst.out; rw [if_pos (Or.inr (Or.inr (Or.inl q)))] at h; have h2 := hNk.out.trans h; rw [hV1.out (by rw [h2]; decide)]; exact h2)
        clear hst hmp hNk hV1 q
        go_wp2_with fail
        refine (hnm.out _).mono ?_
        rintro e w2 ⟨rfl, rfl⟩
        have bX := Blk.new wr #[.string r.name, .int .i64 r.when.op, .string r.when.name, .string r.when.text, .int .i64 r.when.n, .slice uq r.when.args.length uc, .int .i64 r.act, .int .i64 r.score] 46
        go_wp2_with (first | (at_lookup; refine wpList_lookV Tryz.underlying115 (.bool false) zeroB rfl _ _ rfl rfl (hM.out.ext ((Ext.refl _).alloc _)) r.name rfl hsz.out none hfd.out ?_) | (at_mapUpdate; refine wpList_putV Tryz.underlying115 rfl _ _ _ rfl rfl (hM.out.ext ((Ext.refl _).alloc _)) r.name rfl (.bool true) rfl hsz.out hk64 ?_; intro w3 hM3 hg3; have bX3 := bX.chg (Chg.ofGrown hg3) (fun e => hneB (by injection e)); have z6 : w3.cell? ⟨wr.heap.size, 6, none⟩ = some (.int .i64 r.act) := (bX3.cell 6).trans rfl; have z7 : w3.cell? ⟨wr.heap.size, 7, none⟩ = some (.int .i64 r.score) := (bX3.cell 7).trans rfl; have hE3 := Lib.hid (Ext.grown (hE.alloc (.cells #[.string r.name, .int .i64 r.when.op, .string r.when.name, .string r.when.text, .int .i64 r.when.n, .slice uq r.when.args.length uc, .int .i64 r.act, .int .i64 r.score] 46)) hg3 (Nat.le_refl _)); replace hM3 := Lib.hid hM3; clear bX bX3 hg3))
        go_ret
        exact OneQ.mk hVV.out.symm hE3.out
      have c2 : decide (r.score < 0) = false := decide_eq_false q
      have q2 := q
      clear q
      by_cases q : 1000 < r.score
      · have c3 : decide (1000 < r.score) = true := decide_eq_true q
        have hVV := Lib.hid (show E = 4 by have h := hst.out; rw [if_pos (Or.inr (Or.inr (Or.inr q)))] at h; have h2 := hNk.out.trans h; rw [hV1.out (by rw [h2]; decide)]; exact h2)
        clear hst hmp hNk hV1 q
        go_wp2_with fail
        refine (hnm.out _).mono ?_
        rintro e w2 ⟨rfl, rfl⟩
        have bX := Blk.new wr #[.string r.name, .int .i64 r.when.op, .string r.when.name, .string r.when.text, .int .i64 r.when.n, .slice uq r.when.args.length uc, .int .i64 r.act, .int .i64 r.score] 46
        go_wp2_with (first | (at_lookup; refine wpList_lookV Tryz.underlying115 (.bool false) zeroB rfl _ _ rfl rfl (hM.out.ext ((Ext.refl _).alloc _)) r.name rfl hsz.out none hfd.out ?_) | (at_mapUpdate; refine wpList_putV Tryz.underlying115 rfl _ _ _ rfl rfl (hM.out.ext ((Ext.refl _).alloc _)) r.name rfl (.bool true) rfl hsz.out hk64 ?_; intro w3 hM3 hg3; have bX3 := bX.chg (Chg.ofGrown hg3) (fun e => hneB (by injection e)); have z6 : w3.cell? ⟨wr.heap.size, 6, none⟩ = some (.int .i64 r.act) := (bX3.cell 6).trans rfl; have z7 : w3.cell? ⟨wr.heap.size, 7, none⟩ = some (.int .i64 r.score) := (bX3.cell 7).trans rfl; have hE3 := Lib.hid (Ext.grown (hE.alloc (.cells #[.string r.name, .int .i64 r.when.op, .string r.when.name, .string r.when.text, .int .i64 r.when.n, .slice uq r.when.args.length uc, .int .i64 r.act, .int .i64 r.score] 46)) hg3 (Nat.le_refl _)); replace hM3 := Lib.hid hM3; clear bX bX3 hg3))
        go_ret
        exact OneQ.mk hVV.out.symm hE3.out
      have c3 : decide (1000 < r.score) = false := decide_eq_false q
      have q3 := q
      clear q
      rw [if_neg (by rintro (q | q | q | q); exact q0 q; exact q1 q; exact q2 q; exact q3 q)] at hst
      clear q0 q1 q2 q3 hV1
      go_wp2_with fail
      refine (hnm.out _).mono ?_
      rintro e w2 ⟨rfl, rfl⟩
      have bX := Blk.new wr #[.string r.name, .int .i64 r.when.op, .string r.when.name, .string r.when.text, .int .i64 r.when.n, .slice uq r.when.args.length uc, .int .i64 r.act, .int .i64 r.score] 46
      go_wp2_with (first | (at_lookup; refine wpList_lookV Tryz.underlying115 (.bool false) zeroB rfl _ _ rfl rfl (hM.out.ext ((Ext.refl _).alloc _)) r.name rfl hsz.out none hfd.out ?_) | (at_mapUpdate; refine wpList_putV Tryz.underlying115 rfl _ _ _ rfl rfl (hM.out.ext ((Ext.refl _).alloc _)) r.name rfl (.bool true) rfl hsz.out hk64 ?_; intro w3 hM3 hg3; have bX3 := bX.chg (Chg.ofGrown hg3) (fun e => hneB (by injection e)); have z6 : w3.cell? ⟨wr.heap.size, 6, none⟩ = some (.int .i64 r.act) := (bX3.cell 6).trans rfl; have z7 : w3.cell? ⟨wr.heap.size, 7, none⟩ = some (.int .i64 r.score) := (bX3.cell 7).trans rfl; have hE3 := Lib.hid (Ext.grown (hE.alloc (.cells #[.string r.name, .int .i64 r.when.op, .string r.when.name, .string r.when.text, .int .i64 r.when.n, .slice uq r.when.args.length uc, .int .i64 r.act, .int .i64 r.score] 46)) hg3 (Nat.le_refl _)); replace hM3 := Lib.hid hM3; clear bX bX3 hg3))
      go_roundw
      case rel => exact ⟨k + 1, by omega, by go_num, Lib.hid (hNk.out.trans hst.out), by rw [hmp.out, ← metF_put]; exact hM3.out, hE3.out⟩
      case measure => simp [intOf]; omega
  · obtain rfl : k = l.length := by omega
    have hN0 : NN = 0 := by have h := hNk.out; rw [List.drop_length] at h; exact h
    clear hNk hM hV1 hMlt
    have i1 : decide ((l.length : Int) < (l.length : Int)) = false := decide_eq_false (by omega)
    by_cases c1 : refer < 1
    · have d1 : decide (refer < 1) = true := decide_eq_true c1
      have hVV := Lib.hid (hV2.out hN0 (Or.inl c1))
      clear hV2 hV3 kF c1
      go_wp2
      go_ret
      exact OneQ.mk hVV.out.symm xt
    have d1 : decide (refer < 1) = false := decide_eq_false c1
    by_cases c2 : decline < refer
    · have d2 : decide (decline < refer) = true := decide_eq_true c2
      have hVV := Lib.hid (hV2.out hN0 (Or.inr (Or.inl c2)))
      clear hV2 hV3 kF c1 c2
      go_wp2
      go_ret
      exact OneQ.mk hVV.out.symm xt
    have d2 : decide (decline < refer) = false := decide_eq_false c2
    by_cases c3 : 1000000 < decline
    · have d3 : decide (1000000 < decline) = true := decide_eq_true c3
      have hVV := Lib.hid (hV2.out hN0 (Or.inr (Or.inr c3)))
      clear hV2 hV3 kF c1 c2 c3
      go_wp2
      go_ret
      exact OneQ.mk hVV.out.symm xt
    have d3 : decide (1000000 < decline) = false := decide_eq_false c3
    have hT0 := Lib.hid (show E = frT (msgF []) (l.drop 0) from hV3.out hN0 (by rintro (h | h | h); exact c1 h; exact c2 h; exact c3 h))
    clear hV2 hV3 c1 c2 c3 hN0
    go_wp2_with fail
    clear d1 d2 d3
    refine (kF.out _ hE).mono ?_
    rintro e w2 ⟨fv, rfl, hFt, hE2⟩
    replace hE := hE.trans hE2
    have hFe := Lib.hid hFt.feats
    clear hFt hE2 kF
    generalize msgF [] = fs at *
    go_wp2_with fail
    go_loopw [70] (fun i wr => ∃ k : Nat, k ≤ l.length ∧ i = .int .i64 k ∧ Hid (E = frT fs (l.drop k)) ∧ Ext w2 wr) (fun i _ => l.length - (intOf i).toNat)
    case atStart => exact ⟨0, Nat.zero_le _, rfl, hT0, Ext.refl _⟩
    case round =>
     obtain ⟨k, hk, rfl, hNk, hE2⟩ := hrel
     clear hT0 i1
     by_cases hlt : k < l.length
     · obtain ⟨b, off, rfl, sv, hkid⟩ := hR.out.at (by omega)
       obtain ⟨hc, hsu⟩ := hkid k hlt
       replace hE := hE.trans hE2
       replace hsu := hsu.ext hE
       obtain ⟨h0, h1, h2, h3, h4, h5, h6, h7⟩ := hc.ext hE
       have hst := Lib.hid (frT_step fs l k hlt)
       obtain ⟨uq, uc, huv⟩ := hsu.form
       generalize l.getD k frD = r at *
       rw [huv] at h5 hsu
       have kC := Lib.hid (fun w1 (hE1 : Ext wr w1) => check_any r.when (hsu.ext hE1) fv fs (hFe.out.ext (hE2.trans hE1)))
       unfold exAgg TyPost at kC
       clear huv hsu hc hkid
       generalize (checkV r.when fs).1 = K1 at *
       generalize (checkV r.when fs).2 = K2 at *
       go_wp2_with fail
       have hEx : Ext wr (wr.alloc (.cells #[.string r.name, .int .i64 r.when.op, .string r.when.name, .string r.when.text, .int .i64 r.when.n, .slice uq r.when.args.length uc, .int .i64 r.act, .int .i64 r.score] 46)) := (Ext.refl _).alloc _
       refine (kC.out _ hEx).mono ?_
       rintro e w4 ⟨rfl, hE4⟩
       replace hE4 := hEx.trans hE4
       clear kC hEx h0 h1 h2 h3 h4 h5 h6 h7
       by_cases q1 : K2 = 0
       · have g1 : (K2 != 0) = false := by simpa using q1
         by_cases q2 : K1 = 3
         · have g2 : (K1 != 3) = false := by simpa using q2
           have hN2 := Lib.hid (show E = frT fs (l.drop (k + 1)) by have h := hst.out; rw [if_neg (by simpa using q1), if_neg (by simpa using q2)] at h; exact hNk.out.trans h)
           clear hst hNk q1 q2
           go_wp2
           go_roundw
           case rel => exact ⟨k + 1, by omega, by go_num, hN2, hE2.trans hE4⟩
           case measure => simp [intOf]; omega
         · have g2 : (K1 != 3) = true := by simpa using q2
           have hN2 := Lib.hid (show E = 28 by have h := hst.out; rw [if_neg (by simpa using q1), if_pos q2] at h; exact hNk.out.trans h)
           clear hst hNk q1 q2
           go_wp2
           go_ret
           exact OneQ.mk hN2.out.symm (hE.trans hE4)
       · have g1 : (K2 != 0) = true := by simpa using q1
         have hN2 := Lib.hid (show E = K2 by have h := hst.out; rw [if_pos q1] at h; exact hNk.out.trans h)
         clear hst hNk q1
         go_wp2
         go_ret
         exact OneQ.mk hN2.out.symm (hE.trans hE4)
     · obtain rfl : k = l.length := by omega
       have hN2 := Lib.hid (show E = 0 by have h := hNk.out; rw [List.drop_length] at h; exact h)
       have i1 : decide ((l.length : Int) < (l.length : Int)) = false := decide_eq_false (by omega)
       clear hNk
       go_wp2
       go_ret
       exact OneQ.mk hN2.out.symm (hE.trans hE2)
end Go.Proofs.YtangdoidkcelfaaGreatDoor
