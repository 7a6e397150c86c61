/- Contracts of feature, in, value (walks; printed by gen/val.py). Contracts of value at operators with arguments (walks; printed by gen/valb.py). Contract of value at 'in' (a walk; printed by gen/valb.py in). Contracts of value (all operators) and Eval (walks; printed by gen/eval.py). -/
import Derived.Test.YtangdoidkcelfaaGreatDoorEf
import Derived.Test.YtangdoidkcelfaaGreatDoorEe
import Derived.StillTailTactics
import Derived.Deep.RegionHeld3
namespace Go.Proofs.YtangdoidkcelfaaGreatDoor
open Go.RowKit
theorem wpList_lookF1 {w : World} {ops : Array Oper} {rest : List Oper} {o : Oper} {a : Act} {Q : Exit → Act → World → Prop} {b : Nat} {l : List Feat}
 (hg : o.guard = none) (m x : Operand) (hop : o.op = Op.lookup 126 m x false) (hm : a.eval m = .map (some b)) (hk : KM w b l) (nm : ByteArray) (hx : a.eval x = .string nm) (hs : nm.size ≤ 1000000) (f : Feat) (hr : (findN l nm).getD fD = f)
 (hK : wpList Tryz.prog ops Q rest (a.put o.dst (.agg #[.string f.name, .int .i64 f.kind, .int .i64 f.n, .string f.text])) w) :
 wpList Tryz.prog ops Q (o :: rest) a w := by
 refine wpList_plain hg fun K' hK' => ?_
 subst hr
 have hrun := hk.look1 nm hs
 unfold ftAgg at hrun
 unfold Oper.wp
 simp [execOp, hop, hm, hx, hrun, Result.andThen]
 exact hK' _ _ hK
theorem featOf_eq (l : List Feat) (nm : ByteArray) (f : Feat) (h : (findN l nm).getD fD = f) : featOf l nm = if f.kind = 2 then txtF f.text else ⟨emS, f.kind, f.n, emS⟩ := by
 unfold featOf
 cases hf : findN l nm with
 | none => rw [hf] at h; subst h; rfl
 | some g => rw [hf] at h; subst h; rfl
set_option maxRecDepth 8000 in
set_option maxHeartbeats 1000000 in
theorem feature_any (E b : Nat) (l : List Feat) (nm : ByteArray) (w : World) (hc : w.cell? ⟨E, 0, none⟩ = some (.map (some b))) (hM : KM w b l) (hs : nm.size ≤ 1000000) : Calls Tryz.prog 100 #[.pointer (some ⟨E, 0, none⟩), .string nm] w (OneV (ftAgg (featOf l nm)) w) := by
 have hE : E < w.heap.size := cell_lt hc
 replace hM := Lib.hid hM
 obtain ⟨f, hf⟩ : ∃ f, (findN l nm).getD fD = f := ⟨_, rfl⟩
 have hV := Lib.hid (featOf_eq l nm f hf)
 replace hf := Lib.hid hf
 generalize featOf l nm = R at *
 by_cases h2 : f.kind = 2
 · have g2 : (f.kind == 2) = true := by simp [h2]
   have hR := Lib.hid (hV.out.trans (if_pos h2))
   clear hV h2
   go_enter Tryz.func100, Tryz.ntmps100
   go_wp2_with (at_lookup; refine wpList_lookF1 rfl _ _ rfl rfl (hM.out.ext ((Ext.refl _).alloc _)) nm rfl (by omega) f hf.out ?_)
   exact bodyPost_ret (v := .agg #[.string ⟨#[]⟩, .int .i64 2, .int .i64 0, .string f.text]) (by simp [results, Tryz.results100, go_sem]) rfl ⟨by rw [hR.out]; rfl, xt⟩
 · have g2 : (f.kind == 2) = false := by simp [h2]
   have hR := Lib.hid (hV.out.trans (if_neg h2))
   clear hV h2
   go_enter Tryz.func100, Tryz.ntmps100
   go_wp2_with (at_lookup; refine wpList_lookF1 rfl _ _ rfl rfl (hM.out.ext ((Ext.refl _).alloc _)) nm rfl (by omega) f hf.out ?_)
   exact bodyPost_ret (v := .agg #[.string ⟨#[]⟩, .int .i64 f.kind, .int .i64 f.n, .string ⟨#[]⟩]) (by simp [results, Tryz.results100, go_sem]) rfl ⟨by rw [hR.out]; rfl, xt⟩
/-- An argument in memory, and what value makes of it. -/
def Kid (w : World) (l : List Feat) (S : Bool → ByteArray → Int → Int) (E bb o : Nat) (y : Ex) : Prop :=
 ∃ q c, ExCells w bb o y (.slice q y.args.length c) ∧ ∀ w', Ext w w' → Calls Tryz.prog 63 #[.pointer (some ⟨E, 0, none⟩), .agg #[.int .i64 y.op, .string y.name, .string y.text, .int .i64 y.n, .slice q y.args.length c]] w' (OptF (y.ev l S) w')
theorem Kid.ext {w w' : World} {l : List Feat} {S : Bool → ByteArray → Int → Int} {E bb o : Nat} {y : Ex} (h : Kid w l S E bb o y) (k : Ext w w') : Kid w' l S E bb o y := by
 obtain ⟨q, c, h1, h2⟩ := h
 exact ⟨q, c, h1.ext k, fun w2 h => h2 w2 (k.trans h)⟩
theorem optF_none {w w' : World} {e : Ending} (h : OptF none w e w') : e = .returned (.tuple #[.agg #[.string ⟨#[]⟩, .int .i64 0, .int .i64 0, .string ⟨#[]⟩], .bool false]) ∧ Ext w w' := h
theorem optF_some {w w' : World} {e : Ending} {f : Feat} (h : OptF (some f) w e w') : e = .returned (.tuple #[.agg #[.string f.name, .int .i64 f.kind, .int .i64 f.n, .string f.text], .bool true]) ∧ Ext w w' := h
theorem optF_mkn {w w' : World} {R : Option Feat} (hR : R = none) (h : Ext w w') : OptF R w (.returned (.tuple #[.agg #[.string ⟨#[]⟩, .int .i64 0, .int .i64 0, .string ⟨#[]⟩], .bool false])) w' := by subst hR; exact ⟨rfl, h⟩
theorem optF_mks {w w' : World} {R : Option Feat} {f : Feat} (hR : R = some f) (h : Ext w w') : OptF R w (.returned (.tuple #[.agg #[.string f.name, .int .i64 f.kind, .int .i64 f.n, .string f.text], .bool true])) w' := by subst hR; exact ⟨rfl, h⟩
theorem featEq (a b : Feat) (w : World) : (binOp .eql 62 (.agg #[.string a.name, .int .i64 a.kind, .int .i64 a.n, .string a.text]) (.agg #[.string b.name, .int .i64 b.kind, .int .i64 b.n, .string b.text])).run Tryz.prog w = .ok (.bool (decide (a = b))) w := by
 rcases feat_cases a b with h | ⟨hne, h⟩
 · subst h
   rw [decide_eq_true rfl]
   go_simp
 · rw [decide_eq_false hne]
   obtain ⟨an, ak, am, at'⟩ := a
   obtain ⟨bn, bk, bm, bt⟩ := b
   simp only at h ⊢
   rcases h with h | ⟨e1, h⟩ | ⟨e1, e2, h⟩ | ⟨e1, e2, e3, h⟩
   · have g := bytes_ne h
     go_simp
   · have g : (ak == bk) = false := by simp [h]
     subst e1
     go_simp
   · have g : (am == bm) = false := by simp [h]
     subst e1
     subst e2
     go_simp
   · have g := bytes_ne h
     subst e1
     subst e2
     subst e3
     go_simp
theorem evIn_step (l : List Feat) (S : Bool → ByteArray → Int → Int) (first : Feat) (r : List Ex) (k : Nat) (h : k < r.length) : Ex.ev.evIn l S first (r.drop k) = match (r.getD k exD).ev l S with | none => none | some v => if v = first then some (truthF true) else Ex.ev.evIn l S first (r.drop (k + 1)) := by
 have hg : r.getD k exD = r[k] := by rw [List.getD_eq_getElem?_getD, List.getElem?_eq_getElem h, Option.getD_some]
 rw [hg, List.drop_eq_getElem_cons h]
 unfold Ex.ev.evIn
 rw [List.map_cons]
 cases r[k].ev l S <;> rfl
set_option maxRecDepth 8000 in
set_option maxHeartbeats 2000000 in
theorem in_any (l : List Feat) (S : Bool → ByteArray → Int → Int) (E bb off cp : Nat) (first : Feat) (r : List Ex) (w : World) (hlen : r.length ≤ 1000000) (hk : ∀ i, i < r.length → Kid w l S E bb (off + i * 5) (r.getD i exD)) (R : Option Feat) (hR : R = Ex.ev.evIn l S first r) :
 Calls Tryz.prog 103 #[.pointer (some ⟨E, 0, none⟩), .agg #[.string first.name, .int .i64 first.kind, .int .i64 first.n, .string first.text], .slice (some ⟨bb, off, none⟩) r.length cp] w (OptF R w) := by
 replace hk := Lib.hid hk
 replace hR := Lib.hid hR
 have hfe := featEq
 go_enter Tryz.func103, Tryz.ntmps103
 go_wp2_with fail
 have hb0 : Blk ((w.alloc (.cells #[.string first.name, .int .i64 first.kind, .int .i64 first.n, .string first.text] 62)).alloc (.cells #[.string ⟨#[]⟩, .int .i64 0, .int .i64 0, .string ⟨#[]⟩] 62)) w.heap.size #[.string first.name, .int .i64 first.kind, .int .i64 first.n, .string first.text] 62 := (Blk.new _ _ _).alloc _
 have hb1 : Blk ((w.alloc (.cells #[.string first.name, .int .i64 first.kind, .int .i64 first.n, .string first.text] 62)).alloc (.cells #[.string ⟨#[]⟩, .int .i64 0, .int .i64 0, .string ⟨#[]⟩] 62)) (w.heap.size + 1) #[.string ⟨#[]⟩, .int .i64 0, .int .i64 0, .string ⟨#[]⟩] 62 := Blk.new' _ _ _ _ (by simp)
 have hE9 : Ext w ((w.alloc (.cells #[.string first.name, .int .i64 first.kind, .int .i64 first.n, .string first.text] 62)).alloc (.cells #[.string ⟨#[]⟩, .int .i64 0, .int .i64 0, .string ⟨#[]⟩] 62)) := xt
 generalize ((w.alloc (.cells #[.string first.name, .int .i64 first.kind, .int .i64 first.n, .string first.text] 62)).alloc (.cells #[.string ⟨#[]⟩, .int .i64 0, .int .i64 0, .string ⟨#[]⟩] 62)) = w0 at *
 replace hb0 := Lib.hid hb0
 replace hb1 := Lib.hid hb1
 go_loopw [14] (fun i wr => ∃ k : Nat, k ≤ r.length ∧ i = .int .i64 k ∧ R = Ex.ev.evIn l S first (r.drop k) ∧ Ext w0 wr) (fun i _ => r.length - (intOf i).toNat)
 case atStart => exact ⟨0, Nat.zero_le _, rfl, hR.out, Ext.refl _⟩
 case round =>
  clear hR
  obtain ⟨k, hkl, rfl, hR, hEr⟩ := hrel
  by_cases hlt : k < r.length
  · replace hR := Lib.hid (hR.trans (evIn_step l S first r k hlt))
    obtain ⟨q, c, hc, hP⟩ := (hk.out k hlt).ext (hE9.trans hEr)
    obtain ⟨c0, c1, c2, c3, c4⟩ := hc.five
    generalize r.getD k exD = y at *
    replace hP := Lib.hid hP
    clear hc
    go_wp2_with fail
    refine (hP.out _ ((Ext.refl _).alloc _)).mono ?_
    intro e w1 h
    have hE1 : Ext w0 w1 := Ext.trans (hEr.alloc _) h.2
    obtain ⟨x0, x1, x2, x3⟩ : w1.cell? ⟨w.heap.size, 0, none⟩ = some (.string first.name) ∧ w1.cell? ⟨w.heap.size, 1, none⟩ = some (.int .i64 first.kind) ∧ w1.cell? ⟨w.heap.size, 2, none⟩ = some (.int .i64 first.n) ∧ w1.cell? ⟨w.heap.size, 3, none⟩ = some (.string first.text) := by
     have h := hb0.out.ext hE1
     exact ⟨(h.cell 0).trans rfl, (h.cell 1).trans rfl, (h.cell 2).trans rfl, (h.cell 3).trans rfl⟩
    obtain ⟨y0, y1, y2, y3⟩ : w1.cell? ⟨w.heap.size + 1, 0, none⟩ = some (.string ⟨#[]⟩) ∧ w1.cell? ⟨w.heap.size + 1, 1, none⟩ = some (.int .i64 0) ∧ w1.cell? ⟨w.heap.size + 1, 2, none⟩ = some (.int .i64 0) ∧ w1.cell? ⟨w.heap.size + 1, 3, none⟩ = some (.string ⟨#[]⟩) := by
     have h := hb1.out.ext hE1
     exact ⟨(h.cell 0).trans rfl, (h.cell 1).trans rfl, (h.cell 2).trans rfl, (h.cell 3).trans rfl⟩
    obtain ⟨f0, f1, f2, f3⟩ : w1.frozen? ⟨w.heap.size + 1, 0, none⟩ = false ∧ w1.frozen? ⟨w.heap.size + 1, 1, none⟩ = false ∧ w1.frozen? ⟨w.heap.size + 1, 2, none⟩ = false ∧ w1.frozen? ⟨w.heap.size + 1, 3, none⟩ = false := by
     have h := hb1.out.ext hE1
     exact ⟨h.fz 0, h.fz 1, h.fz 2, h.fz 3⟩
    have hs0 : w.heap.size < w1.heap.size := cell_lt x0
    have hs1 : w.heap.size + 1 < w1.heap.size := cell_lt y0
    clear c0 c1 c2 c3 c4
    cases ho : y.ev l S with
    | none =>
     rw [ho] at h
     have hR2 := Lib.hid (show R = none by rw [hR.out, ho])
     obtain ⟨rfl, -⟩ := optF_none h
     have hE : Ext w w1 := hE9.trans hE1
     clear h ho hR
     go_wp2
     exact bodyPost_ret (v := .tuple #[.agg #[.string ⟨#[]⟩, .int .i64 0, .int .i64 0, .string ⟨#[]⟩], .bool false]) (by first | (simp [results, Tryz.results103, go_sem, World.cell?_alloc_past, hs1, y0, y1, y2, y3]; done) | simp [results, Tryz.results103, go_sem]) rfl (optF_mkn hR2.out xt)
    | some f =>
     rw [ho] at h
     replace hR := Lib.hid (show R = if f = first then some (truthF true) else Ex.ev.evIn l S first (r.drop (k + 1)) by rw [hR.out, ho])
     obtain ⟨rfl, -⟩ := optF_some h
     have hE : Ext w w1 := hE9.trans hE1
     clear h ho
     by_cases hff : f = first
     · have hR2 := Lib.hid (hR.out.trans (if_pos hff))
       have d1 : decide (f = first) = true := decide_eq_true hff
       clear hff hR
       go_wp2_with fail
       refine (truth_t _).mono ?_
       rintro e w2 ⟨rfl, hE2⟩
       obtain ⟨z0, z1, z2, z3⟩ : w2.cell? ⟨w.heap.size + 1, 0, none⟩ = some (.string ⟨#[]⟩) ∧ w2.cell? ⟨w.heap.size + 1, 1, none⟩ = some (.int .i64 0) ∧ w2.cell? ⟨w.heap.size + 1, 2, none⟩ = some (.int .i64 0) ∧ w2.cell? ⟨w.heap.size + 1, 3, none⟩ = some (.string ⟨#[]⟩) := by
        have h := (hb1.out.ext hE1).ext (Ext.trans ((Ext.refl _).alloc _) hE2)
        exact ⟨(h.cell 0).trans rfl, (h.cell 1).trans rfl, (h.cell 2).trans rfl, (h.cell 3).trans rfl⟩
       obtain ⟨g0, g1, g2, g3⟩ : w2.frozen? ⟨w.heap.size + 1, 0, none⟩ = false ∧ w2.frozen? ⟨w.heap.size + 1, 1, none⟩ = false ∧ w2.frozen? ⟨w.heap.size + 1, 2, none⟩ = false ∧ w2.frozen? ⟨w.heap.size + 1, 3, none⟩ = false := by
        have h := (hb1.out.ext hE1).ext (Ext.trans ((Ext.refl _).alloc _) hE2)
        exact ⟨h.fz 0, h.fz 1, h.fz 2, h.fz 3⟩
       replace hE : Ext w w2 := Ext.trans (hE.alloc _) hE2
       clear hE2 x0 x1 x2 x3 y0 y1 y2 y3 f0 f1 f2 f3 hs0 hs1 hE1
       go_wp2
       exact bodyPost_ret (v := .tuple #[.agg #[.string ⟨#[]⟩, .int .i64 3, .int .i64 1, .string ⟨#[]⟩], .bool true]) (by first | (simp [results, Tryz.results103, go_sem, z0, z1, z2, z3]; done) | simp [results, Tryz.results103, go_sem]) rfl (optF_mks (f := truthF true) hR2.out xt)
     · have hR2 := Lib.hid (hR.out.trans (if_neg hff))
       have d1 : decide (f = first) = false := decide_eq_false hff
       clear hff hR
       go_wp2
       go_roundw
       case rel => exact ⟨k + 1, by omega, by go_num, hR2.out, hE1.alloc _⟩
       case measure => simp [intOf]; omega
  · have hdd : r.drop k = [] := List.drop_eq_nil_of_le (by omega)
    have hR2 := Lib.hid (show R = some (truthF false) by rw [hR, hdd]; rfl)
    clear hdd hR
    go_wp2_with fail
    refine (truth_f _).mono ?_
    rintro e w2 ⟨rfl, hE2⟩
    obtain ⟨z0, z1, z2, z3⟩ : w2.cell? ⟨w.heap.size + 1, 0, none⟩ = some (.string ⟨#[]⟩) ∧ w2.cell? ⟨w.heap.size + 1, 1, none⟩ = some (.int .i64 0) ∧ w2.cell? ⟨w.heap.size + 1, 2, none⟩ = some (.int .i64 0) ∧ w2.cell? ⟨w.heap.size + 1, 3, none⟩ = some (.string ⟨#[]⟩) := by
     have h := (hb1.out.ext hEr).ext hE2
     exact ⟨(h.cell 0).trans rfl, (h.cell 1).trans rfl, (h.cell 2).trans rfl, (h.cell 3).trans rfl⟩
    obtain ⟨g0, g1, g2, g3⟩ : w2.frozen? ⟨w.heap.size + 1, 0, none⟩ = false ∧ w2.frozen? ⟨w.heap.size + 1, 1, none⟩ = false ∧ w2.frozen? ⟨w.heap.size + 1, 2, none⟩ = false ∧ w2.frozen? ⟨w.heap.size + 1, 3, none⟩ = false := by
     have h := (hb1.out.ext hEr).ext hE2
     exact ⟨h.fz 0, h.fz 1, h.fz 2, h.fz 3⟩
    have hE : Ext w w2 := Ext.trans (hE9.trans hEr) hE2
    clear hE2 hEr
    go_wp2
    exact bodyPost_ret (v := .tuple #[.agg #[.string ⟨#[]⟩, .int .i64 3, .int .i64 0, .string ⟨#[]⟩], .bool true]) (by first | (simp [results, Tryz.results103, go_sem, z0, z1, z2, z3]; done) | simp [results, Tryz.results103, go_sem]) rfl (optF_mks (f := truthF false) hR2.out xt)

set_option maxRecDepth 8000 in
set_option maxHeartbeats 2000000 in
theorem val1 (E : Nat) (nm tx : ByteArray) (n : Int) (q : Option Addr) (len cp : Nat) (w : World) (R : Option Feat) (hR : R = some (numF n)) : Calls Tryz.prog 63 #[.pointer (some ⟨E, 0, none⟩), .agg #[.int .i64 1, .string nm, .string tx, .int .i64 n, .slice q len cp]] w (OptF R w) := by
 replace hR := Lib.hid hR
 go_enter Tryz.func63, Tryz.ntmps63
 go_wp2_with fail
 refine (number_any n _).mono ?_
 rintro e w1 ⟨rfl, hE1⟩
 have hbz : Blk ((w.alloc (.cells #[.int .i64 1, .string nm, .string tx, .int .i64 n, .slice q len cp] 40)).alloc (.cells #[.string ⟨#[]⟩, .int .i64 0, .int .i64 0, .string ⟨#[]⟩] 62)) (w.heap.size + 1) #[.string ⟨#[]⟩, .int .i64 0, .int .i64 0, .string ⟨#[]⟩] 62 := Blk.new' _ _ _ _ (by simp)
 obtain ⟨y0, y1, y2, y3⟩ : w1.cell? ⟨w.heap.size + 1, 0, none⟩ = some (.string ⟨#[]⟩) ∧ w1.cell? ⟨w.heap.size + 1, 1, none⟩ = some (.int .i64 0) ∧ w1.cell? ⟨w.heap.size + 1, 2, none⟩ = some (.int .i64 0) ∧ w1.cell? ⟨w.heap.size + 1, 3, none⟩ = some (.string ⟨#[]⟩) := by
  have h := hbz.ext hE1
  exact ⟨(h.cell 0).trans rfl, (h.cell 1).trans rfl, (h.cell 2).trans rfl, (h.cell 3).trans rfl⟩
 obtain ⟨f0, f1, f2, f3⟩ : w1.frozen? ⟨w.heap.size + 1, 0, none⟩ = false ∧ w1.frozen? ⟨w.heap.size + 1, 1, none⟩ = false ∧ w1.frozen? ⟨w.heap.size + 1, 2, none⟩ = false ∧ w1.frozen? ⟨w.heap.size + 1, 3, none⟩ = false := by
  have h := hbz.ext hE1
  exact ⟨h.fz 0, h.fz 1, h.fz 2, h.fz 3⟩
 have hE : Ext w w1 := Ext.trans xt hE1
 have hs1 : w.heap.size + 1 < w1.heap.size := cell_lt y0
 clear hE1 hbz
 go_wp2
 exact bodyPost_ret (v := .tuple #[.agg #[.string ⟨#[]⟩, .int .i64 1, .int .i64 n, .string ⟨#[]⟩], .bool true]) (by first | (simp [results, Tryz.results63, go_sem, y0, y1, y2, y3]; done) | (simp [results, Tryz.results63, go_sem, y0, y1, y2, y3]; done) | simp [results, Tryz.results63, go_sem]) rfl (optF_mks (f := numF n) hR.out xt)
set_option maxRecDepth 8000 in
set_option maxHeartbeats 2000000 in
theorem val2 (E : Nat) (nm tx : ByteArray) (n : Int) (q : Option Addr) (len cp : Nat) (w : World) (R : Option Feat) (hR : R = some (txtF tx)) : Calls Tryz.prog 63 #[.pointer (some ⟨E, 0, none⟩), .agg #[.int .i64 2, .string nm, .string tx, .int .i64 n, .slice q len cp]] w (OptF R w) := by
 replace hR := Lib.hid hR
 go_enter Tryz.func63, Tryz.ntmps63
 go_wp2
 exact bodyPost_ret (v := .tuple #[.agg #[.string ⟨#[]⟩, .int .i64 2, .int .i64 0, .string tx], .bool true]) (by simp [results, Tryz.results63, go_sem]) rfl (optF_mks (f := txtF tx) hR.out xt)
set_option maxRecDepth 8000 in
set_option maxHeartbeats 2000000 in
theorem val3 (l : List Feat) (E b : Nat) (nm tx : ByteArray) (n : Int) (q : Option Addr) (len cp : Nat) (w : World) (hc : w.cell? ⟨E, 0, none⟩ = some (.map (some b))) (hM : KM w b l) (hs : nm.size ≤ 1000000) (R : Option Feat) (hR : R = some (featOf l nm)) : Calls Tryz.prog 63 #[.pointer (some ⟨E, 0, none⟩), .agg #[.int .i64 3, .string nm, .string tx, .int .i64 n, .slice q len cp]] w (OptF R w) := by
 replace hR := Lib.hid hR
 replace hM := Lib.hid hM
 have hk := Lib.hid (fun w1 (h : Ext w w1) => feature_any E b l nm w1 (h.get hc) (hM.out.ext h) hs)
 clear hc
 generalize featOf l nm = f at *
 unfold ftAgg at hk
 go_enter Tryz.func63, Tryz.ntmps63
 go_wp2_with fail
 refine (hk.out _ xt).mono ?_
 rintro e w1 ⟨rfl, hE1⟩
 have hbz : Blk ((w.alloc (.cells #[.int .i64 3, .string nm, .string tx, .int .i64 n, .slice q len cp] 40)).alloc (.cells #[.string ⟨#[]⟩, .int .i64 0, .int .i64 0, .string ⟨#[]⟩] 62)) (w.heap.size + 1) #[.string ⟨#[]⟩, .int .i64 0, .int .i64 0, .string ⟨#[]⟩] 62 := Blk.new' _ _ _ _ (by simp)
 obtain ⟨y0, y1, y2, y3⟩ : w1.cell? ⟨w.heap.size + 1, 0, none⟩ = some (.string ⟨#[]⟩) ∧ w1.cell? ⟨w.heap.size + 1, 1, none⟩ = some (.int .i64 0) ∧ w1.cell? ⟨w.heap.size + 1, 2, none⟩ = some (.int .i64 0) ∧ w1.cell? ⟨w.heap.size + 1, 3, none⟩ = some (.string ⟨#[]⟩) := by
  have h := hbz.ext hE1
  exact ⟨(h.cell 0).trans rfl, (h.cell 1).trans rfl, (h.cell 2).trans rfl, (h.cell 3).trans rfl⟩
 obtain ⟨f0, f1, f2, f3⟩ : w1.frozen? ⟨w.heap.size + 1, 0, none⟩ = false ∧ w1.frozen? ⟨w.heap.size + 1, 1, none⟩ = false ∧ w1.frozen? ⟨w.heap.size + 1, 2, none⟩ = false ∧ w1.frozen? ⟨w.heap.size + 1, 3, none⟩ = false := by
  have h := hbz.ext hE1
  exact ⟨h.fz 0, h.fz 1, h.fz 2, h.fz 3⟩
 have hE : Ext w w1 := Ext.trans xt hE1
 have hs1 : w.heap.size + 1 < w1.heap.size := cell_lt y0
 clear hE1 hbz
 go_wp2
 exact bodyPost_ret (v := .tuple #[.agg #[.string f.name, .int .i64 f.kind, .int .i64 f.n, .string f.text], .bool true]) (by first | (simp [results, Tryz.results63, go_sem, y0, y1, y2, y3]; done) | (simp [results, Tryz.results63, go_sem, y0, y1, y2, y3]; done) | simp [results, Tryz.results63, go_sem]) rfl (optF_mks (f := f) hR.out xt)
set_option maxRecDepth 8000 in
set_option maxHeartbeats 2000000 in
theorem val16 (S : Bool → ByteArray → Int → Int) (E : Nat) (nm tx : ByteArray) (n : Int) (q : Option Addr) (len cp : Nat) (w : World) (hA : Asker w E S) (hnm : nm.size ≤ 16) (R : Option Feat) (hR : R = (okN (S (decide ((16 : Int) = 16)) nm n)).map numF) : Calls Tryz.prog 63 #[.pointer (some ⟨E, 0, none⟩), .agg #[.int .i64 16, .string nm, .string tx, .int .i64 n, .slice q len cp]] w (OptF R w) := by
 replace hR := Lib.hid hR
 have hk := Lib.hid (fun w1 (h : Ext w w1) => hA w1 h 16 nm tx n (.slice q len cp) (by simp) hnm)
 clear hA
 generalize okN (S (decide ((16 : Int) = 16)) nm n) = o at *
 go_enter Tryz.func63, Tryz.ntmps63
 go_wp2_with fail
 refine (hk.out _ xt).mono ?_
 rintro e w1 ⟨rfl, hE1⟩
 have hbz : Blk ((w.alloc (.cells #[.int .i64 16, .string nm, .string tx, .int .i64 n, .slice q len cp] 40)).alloc (.cells #[.string ⟨#[]⟩, .int .i64 0, .int .i64 0, .string ⟨#[]⟩] 62)) (w.heap.size + 1) #[.string ⟨#[]⟩, .int .i64 0, .int .i64 0, .string ⟨#[]⟩] 62 := Blk.new' _ _ _ _ (by simp)
 replace hbz := Lib.hid (hbz.ext hE1)
 obtain ⟨y0, y1, y2, y3⟩ : w1.cell? ⟨w.heap.size + 1, 0, none⟩ = some (.string ⟨#[]⟩) ∧ w1.cell? ⟨w.heap.size + 1, 1, none⟩ = some (.int .i64 0) ∧ w1.cell? ⟨w.heap.size + 1, 2, none⟩ = some (.int .i64 0) ∧ w1.cell? ⟨w.heap.size + 1, 3, none⟩ = some (.string ⟨#[]⟩) := by
  have h := hbz.out
  exact ⟨(h.cell 0).trans rfl, (h.cell 1).trans rfl, (h.cell 2).trans rfl, (h.cell 3).trans rfl⟩
 obtain ⟨f0, f1, f2, f3⟩ : w1.frozen? ⟨w.heap.size + 1, 0, none⟩ = false ∧ w1.frozen? ⟨w.heap.size + 1, 1, none⟩ = false ∧ w1.frozen? ⟨w.heap.size + 1, 2, none⟩ = false ∧ w1.frozen? ⟨w.heap.size + 1, 3, none⟩ = false := by
  have h := hbz.out
  exact ⟨h.fz 0, h.fz 1, h.fz 2, h.fz 3⟩
 have hE : Ext w w1 := Ext.trans xt hE1
 have hs1 : w.heap.size + 1 < w1.heap.size := cell_lt y0
 clear hE1
 cases o with
 | none =>
  simp only [Option.getD_none, Option.isSome_none]
  go_wp2
  exact bodyPost_ret (v := .tuple #[.agg #[.string ⟨#[]⟩, .int .i64 0, .int .i64 0, .string ⟨#[]⟩], .bool false]) (by first | (simp [results, Tryz.results63, go_sem, y0, y1, y2, y3]; done) | (simp [results, Tryz.results63, go_sem, y0, y1, y2, y3]; done) | simp [results, Tryz.results63, go_sem]) rfl (optF_mkn hR.out xt)
 | some m =>
  simp only [Option.getD_some, Option.isSome_some]
  go_wp2_with fail
  refine (number_any m _).mono ?_
  rintro e w2 ⟨rfl, hE2⟩
  clear y0 y1 y2 y3 f0 f1 f2 f3 hs1
  obtain ⟨y0, y1, y2, y3⟩ : w2.cell? ⟨w.heap.size + 1, 0, none⟩ = some (.string ⟨#[]⟩) ∧ w2.cell? ⟨w.heap.size + 1, 1, none⟩ = some (.int .i64 0) ∧ w2.cell? ⟨w.heap.size + 1, 2, none⟩ = some (.int .i64 0) ∧ w2.cell? ⟨w.heap.size + 1, 3, none⟩ = some (.string ⟨#[]⟩) := by
   have h := hbz.out.ext hE2
   exact ⟨(h.cell 0).trans rfl, (h.cell 1).trans rfl, (h.cell 2).trans rfl, (h.cell 3).trans rfl⟩
  obtain ⟨f0, f1, f2, f3⟩ : w2.frozen? ⟨w.heap.size + 1, 0, none⟩ = false ∧ w2.frozen? ⟨w.heap.size + 1, 1, none⟩ = false ∧ w2.frozen? ⟨w.heap.size + 1, 2, none⟩ = false ∧ w2.frozen? ⟨w.heap.size + 1, 3, none⟩ = false := by
   have h := hbz.out.ext hE2
   exact ⟨h.fz 0, h.fz 1, h.fz 2, h.fz 3⟩
  replace hE : Ext w w2 := Ext.trans xt hE2
  have hs1 : w.heap.size + 1 < w2.heap.size := cell_lt y0
  clear hE2 hbz
  go_wp2
  exact bodyPost_ret (v := .tuple #[.agg #[.string ⟨#[]⟩, .int .i64 1, .int .i64 m, .string ⟨#[]⟩], .bool true]) (by first | (simp [results, Tryz.results63, go_sem, y0, y1, y2, y3]; done) | (simp [results, Tryz.results63, go_sem, y0, y1, y2, y3]; done) | simp [results, Tryz.results63, go_sem]) rfl (optF_mks (f := numF m) hR.out xt)
set_option maxRecDepth 8000 in
set_option maxHeartbeats 2000000 in
theorem val17 (S : Bool → ByteArray → Int → Int) (E : Nat) (nm tx : ByteArray) (n : Int) (q : Option Addr) (len cp : Nat) (w : World) (hA : Asker w E S) (hnm : nm.size ≤ 16) (R : Option Feat) (hR : R = (okN (S (decide ((17 : Int) = 16)) nm n)).map numF) : Calls Tryz.prog 63 #[.pointer (some ⟨E, 0, none⟩), .agg #[.int .i64 17, .string nm, .string tx, .int .i64 n, .slice q len cp]] w (OptF R w) := by
 replace hR := Lib.hid hR
 have hk := Lib.hid (fun w1 (h : Ext w w1) => hA w1 h 17 nm tx n (.slice q len cp) (by simp) hnm)
 clear hA
 generalize okN (S (decide ((17 : Int) = 16)) nm n) = o at *
 go_enter Tryz.func63, Tryz.ntmps63
 go_wp2_with fail
 refine (hk.out _ xt).mono ?_
 rintro e w1 ⟨rfl, hE1⟩
 have hbz : Blk ((w.alloc (.cells #[.int .i64 17, .string nm, .string tx, .int .i64 n, .slice q len cp] 40)).alloc (.cells #[.string ⟨#[]⟩, .int .i64 0, .int .i64 0, .string ⟨#[]⟩] 62)) (w.heap.size + 1) #[.string ⟨#[]⟩, .int .i64 0, .int .i64 0, .string ⟨#[]⟩] 62 := Blk.new' _ _ _ _ (by simp)
 replace hbz := Lib.hid (hbz.ext hE1)
 obtain ⟨y0, y1, y2, y3⟩ : w1.cell? ⟨w.heap.size + 1, 0, none⟩ = some (.string ⟨#[]⟩) ∧ w1.cell? ⟨w.heap.size + 1, 1, none⟩ = some (.int .i64 0) ∧ w1.cell? ⟨w.heap.size + 1, 2, none⟩ = some (.int .i64 0) ∧ w1.cell? ⟨w.heap.size + 1, 3, none⟩ = some (.string ⟨#[]⟩) := by
  have h := hbz.out
  exact ⟨(h.cell 0).trans rfl, (h.cell 1).trans rfl, (h.cell 2).trans rfl, (h.cell 3).trans rfl⟩
 obtain ⟨f0, f1, f2, f3⟩ : w1.frozen? ⟨w.heap.size + 1, 0, none⟩ = false ∧ w1.frozen? ⟨w.heap.size + 1, 1, none⟩ = false ∧ w1.frozen? ⟨w.heap.size + 1, 2, none⟩ = false ∧ w1.frozen? ⟨w.heap.size + 1, 3, none⟩ = false := by
  have h := hbz.out
  exact ⟨h.fz 0, h.fz 1, h.fz 2, h.fz 3⟩
 have hE : Ext w w1 := Ext.trans xt hE1
 have hs1 : w.heap.size + 1 < w1.heap.size := cell_lt y0
 clear hE1
 cases o with
 | none =>
  simp only [Option.getD_none, Option.isSome_none]
  go_wp2
  exact bodyPost_ret (v := .tuple #[.agg #[.string ⟨#[]⟩, .int .i64 0, .int .i64 0, .string ⟨#[]⟩], .bool false]) (by first | (simp [results, Tryz.results63, go_sem, y0, y1, y2, y3]; done) | (simp [results, Tryz.results63, go_sem, y0, y1, y2, y3]; done) | simp [results, Tryz.results63, go_sem]) rfl (optF_mkn hR.out xt)
 | some m =>
  simp only [Option.getD_some, Option.isSome_some]
  go_wp2_with fail
  refine (number_any m _).mono ?_
  rintro e w2 ⟨rfl, hE2⟩
  clear y0 y1 y2 y3 f0 f1 f2 f3 hs1
  obtain ⟨y0, y1, y2, y3⟩ : w2.cell? ⟨w.heap.size + 1, 0, none⟩ = some (.string ⟨#[]⟩) ∧ w2.cell? ⟨w.heap.size + 1, 1, none⟩ = some (.int .i64 0) ∧ w2.cell? ⟨w.heap.size + 1, 2, none⟩ = some (.int .i64 0) ∧ w2.cell? ⟨w.heap.size + 1, 3, none⟩ = some (.string ⟨#[]⟩) := by
   have h := hbz.out.ext hE2
   exact ⟨(h.cell 0).trans rfl, (h.cell 1).trans rfl, (h.cell 2).trans rfl, (h.cell 3).trans rfl⟩
  obtain ⟨f0, f1, f2, f3⟩ : w2.frozen? ⟨w.heap.size + 1, 0, none⟩ = false ∧ w2.frozen? ⟨w.heap.size + 1, 1, none⟩ = false ∧ w2.frozen? ⟨w.heap.size + 1, 2, none⟩ = false ∧ w2.frozen? ⟨w.heap.size + 1, 3, none⟩ = false := by
   have h := hbz.out.ext hE2
   exact ⟨h.fz 0, h.fz 1, h.fz 2, h.fz 3⟩
  replace hE : Ext w w2 := Ext.trans xt hE2
  have hs1 : w.heap.size + 1 < w2.heap.size := cell_lt y0
  clear hE2 hbz
  go_wp2
  exact bodyPost_ret (v := .tuple #[.agg #[.string ⟨#[]⟩, .int .i64 1, .int .i64 m, .string ⟨#[]⟩], .bool true]) (by first | (simp [results, Tryz.results63, go_sem, y0, y1, y2, y3]; done) | (simp [results, Tryz.results63, go_sem, y0, y1, y2, y3]; done) | simp [results, Tryz.results63, go_sem]) rfl (optF_mks (f := numF m) hR.out xt)
end Go.Proofs.YtangdoidkcelfaaGreatDoor
namespace Go.Proofs.YtangdoidkcelfaaGreatDoor
open Go.RowKit
set_option maxRecDepth 8000 in
set_option maxHeartbeats 2000000 in
theorem val4 (l : List Feat) (S : Bool → ByteArray → Int → Int) (E : Nat) (nm tx : ByteArray) (n : Int) (bb off cp : Nat) (a : Ex) (w : World) (hk : Kid w l S E bb off a) (R : Option Feat) (hRn : a.ev l S = none → R = none) (hRs : ∀ f, a.ev l S = some f → R = some (truthF (decide (f.n = 0)))) : Calls Tryz.prog 63 #[.pointer (some ⟨E, 0, none⟩), .agg #[.int .i64 4, .string nm, .string tx, .int .i64 n, .slice (some ⟨bb, off, none⟩) 1 cp]] w (OptF R w) := by
 replace hRn := Lib.hid hRn
 replace hRs := Lib.hid hRs
 have hE0 : Ext w w := Ext.refl w
 obtain ⟨qa, ca, hc, hP⟩ := hk
 obtain ⟨c0, c1, c2, c3, c4⟩ := hc.five
 have hbb : bb < w.heap.size := cell_lt c0
 have hbb1 : bb < w.heap.size + 1 := by omega
 replace hP := Lib.hid hP
 clear hc hE0
 go_enter Tryz.func63, Tryz.ntmps63
 go_wp2_with fail
 refine (hP.out _ xt).mono ?_
 intro e w1 h
 have hbz : Blk ((w.alloc (.cells #[.int .i64 4, .string nm, .string tx, .int .i64 n, .slice (some ⟨bb, off, none⟩) 1 cp] 40)).alloc (.cells #[.string ⟨#[]⟩, .int .i64 0, .int .i64 0, .string ⟨#[]⟩] 62)) (w.heap.size + 1) #[.string ⟨#[]⟩, .int .i64 0, .int .i64 0, .string ⟨#[]⟩] 62 := Blk.new' _ _ _ _ (by simp)
 have hbx : Blk ((w.alloc (.cells #[.int .i64 4, .string nm, .string tx, .int .i64 n, .slice (some ⟨bb, off, none⟩) 1 cp] 40)).alloc (.cells #[.string ⟨#[]⟩, .int .i64 0, .int .i64 0, .string ⟨#[]⟩] 62)) w.heap.size #[.int .i64 4, .string nm, .string tx, .int .i64 n, .slice (some ⟨bb, off, none⟩) 1 cp] 40 := (Blk.new _ _ _).alloc _
 have hE : Ext w w1 := Ext.trans xt h.2
 replace hbz := Lib.hid (hbz.ext h.2)
 replace hbx := Lib.hid (hbx.ext h.2)
 obtain ⟨y0, y1, y2, y3⟩ : w1.cell? ⟨w.heap.size + 1, 0, none⟩ = some (.string ⟨#[]⟩) ∧ w1.cell? ⟨w.heap.size + 1, 1, none⟩ = some (.int .i64 0) ∧ w1.cell? ⟨w.heap.size + 1, 2, none⟩ = some (.int .i64 0) ∧ w1.cell? ⟨w.heap.size + 1, 3, none⟩ = some (.string ⟨#[]⟩) := by
  have h := hbz.out
  exact ⟨(h.cell 0).trans rfl, (h.cell 1).trans rfl, (h.cell 2).trans rfl, (h.cell 3).trans rfl⟩
 obtain ⟨f0, f1, f2, f3⟩ : w1.frozen? ⟨w.heap.size + 1, 0, none⟩ = false ∧ w1.frozen? ⟨w.heap.size + 1, 1, none⟩ = false ∧ w1.frozen? ⟨w.heap.size + 1, 2, none⟩ = false ∧ w1.frozen? ⟨w.heap.size + 1, 3, none⟩ = false := by
  have h := hbz.out
  exact ⟨h.fz 0, h.fz 1, h.fz 2, h.fz 3⟩
 obtain ⟨x0, x4⟩ : w1.cell? ⟨w.heap.size, 0, none⟩ = some (.int .i64 4) ∧ w1.cell? ⟨w.heap.size, 4, none⟩ = some (.slice (some ⟨bb, off, none⟩) 1 cp) := by
  have h := hbx.out
  exact ⟨(h.cell 0).trans rfl, (h.cell 4).trans rfl⟩
 have hs0 : w.heap.size < w1.heap.size := cell_lt x0
 have hs1 : w.heap.size + 1 < w1.heap.size := cell_lt y0
 clear c0 c1 c2 c3 c4 hbb hbb1
 cases ho : a.ev l S with
 | none =>
  rw [ho] at h
  have hR2 := Lib.hid (hRn.out ho)
  obtain ⟨rfl, -⟩ := optF_none h
  clear h ho
  go_wp2
  exact bodyPost_ret (v := .tuple #[.agg #[.string ⟨#[]⟩, .int .i64 0, .int .i64 0, .string ⟨#[]⟩], .bool false]) (by first | (simp [results, Tryz.results63, go_sem, World.cell?_alloc_past, hs1, y0, y1, y2, y3]; done) | (simp [results, Tryz.results63, go_sem, y0, y1, y2, y3]; done) | simp [results, Tryz.results63, go_sem]) rfl (optF_mkn hR2.out xt)
 | some f =>
  rw [ho] at h
  obtain ⟨rfl, -⟩ := optF_some h
  clear h
  have hR := Lib.hid (hRs.out f ho)
  clear ho hRs hRn
  by_cases h0 : f.n = 0
  · have g0 : (f.n == 0) = true := by simp [h0]
    replace hR := Lib.hid (show R = some (truthF true) by rw [hR.out]; simp [h0])
    clear h0
    go_wp2_with fail
    refine (truth_t _).mono ?_
    rintro e w2 ⟨rfl, hE2⟩
    clear y0 y1 y2 y3 f0 f1 f2 f3 hs1 x0 x4 hs0
    obtain ⟨y0, y1, y2, y3⟩ : w2.cell? ⟨w.heap.size + 1, 0, none⟩ = some (.string ⟨#[]⟩) ∧ w2.cell? ⟨w.heap.size + 1, 1, none⟩ = some (.int .i64 0) ∧ w2.cell? ⟨w.heap.size + 1, 2, none⟩ = some (.int .i64 0) ∧ w2.cell? ⟨w.heap.size + 1, 3, none⟩ = some (.string ⟨#[]⟩) := by
     have h := hbz.out.ext (Ext.trans xt hE2)
     exact ⟨(h.cell 0).trans rfl, (h.cell 1).trans rfl, (h.cell 2).trans rfl, (h.cell 3).trans rfl⟩
    obtain ⟨f0, f1, f2, f3⟩ : w2.frozen? ⟨w.heap.size + 1, 0, none⟩ = false ∧ w2.frozen? ⟨w.heap.size + 1, 1, none⟩ = false ∧ w2.frozen? ⟨w.heap.size + 1, 2, none⟩ = false ∧ w2.frozen? ⟨w.heap.size + 1, 3, none⟩ = false := by
     have h := hbz.out.ext (Ext.trans xt hE2)
     exact ⟨h.fz 0, h.fz 1, h.fz 2, h.fz 3⟩
    replace hE : Ext w w2 := Ext.trans xt hE2
    have hs1 : w.heap.size + 1 < w2.heap.size := cell_lt y0
    clear hE2 hbz hbx
    go_wp2
    exact bodyPost_ret (v := .tuple #[.agg #[.string ⟨#[]⟩, .int .i64 3, .int .i64 1, .string ⟨#[]⟩], .bool true]) (by first | (simp [results, Tryz.results63, go_sem, y0, y1, y2, y3]; done) | (simp [results, Tryz.results63, go_sem, y0, y1, y2, y3]; done) | simp [results, Tryz.results63, go_sem]) rfl (optF_mks (f := truthF true) hR.out xt)
  · have g0 : (f.n == 0) = false := by simp [h0]
    replace hR := Lib.hid (show R = some (truthF false) by rw [hR.out]; simp [h0])
    clear h0
    go_wp2_with fail
    refine (truth_f _).mono ?_
    rintro e w2 ⟨rfl, hE2⟩
    clear y0 y1 y2 y3 f0 f1 f2 f3 hs1 x0 x4 hs0
    obtain ⟨y0, y1, y2, y3⟩ : w2.cell? ⟨w.heap.size + 1, 0, none⟩ = some (.string ⟨#[]⟩) ∧ w2.cell? ⟨w.heap.size + 1, 1, none⟩ = some (.int .i64 0) ∧ w2.cell? ⟨w.heap.size + 1, 2, none⟩ = some (.int .i64 0) ∧ w2.cell? ⟨w.heap.size + 1, 3, none⟩ = some (.string ⟨#[]⟩) := by
     have h := hbz.out.ext (Ext.trans xt hE2)
     exact ⟨(h.cell 0).trans rfl, (h.cell 1).trans rfl, (h.cell 2).trans rfl, (h.cell 3).trans rfl⟩
    obtain ⟨f0, f1, f2, f3⟩ : w2.frozen? ⟨w.heap.size + 1, 0, none⟩ = false ∧ w2.frozen? ⟨w.heap.size + 1, 1, none⟩ = false ∧ w2.frozen? ⟨w.heap.size + 1, 2, none⟩ = false ∧ w2.frozen? ⟨w.heap.size + 1, 3, none⟩ = false := by
     have h := hbz.out.ext (Ext.trans xt hE2)
     exact ⟨h.fz 0, h.fz 1, h.fz 2, h.fz 3⟩
    replace hE : Ext w w2 := Ext.trans xt hE2
    have hs1 : w.heap.size + 1 < w2.heap.size := cell_lt y0
    clear hE2 hbz hbx
    go_wp2
    exact bodyPost_ret (v := .tuple #[.agg #[.string ⟨#[]⟩, .int .i64 3, .int .i64 0, .string ⟨#[]⟩], .bool true]) (by first | (simp [results, Tryz.results63, go_sem, y0, y1, y2, y3]; done) | (simp [results, Tryz.results63, go_sem, y0, y1, y2, y3]; done) | simp [results, Tryz.results63, go_sem]) rfl (optF_mks (f := truthF false) hR.out xt)
set_option maxRecDepth 8000 in
set_option maxHeartbeats 2000000 in
theorem val5 (l : List Feat) (S : Bool → ByteArray → Int → Int) (E : Nat) (nm tx : ByteArray) (n : Int) (bb off cp : Nat) (a : Ex) (w : World) (hk : Kid w l S E bb off a) (R : Option Feat) (hRn : a.ev l S = none → R = none) (hRs : ∀ f, a.ev l S = some f → R = some (numF (-f.n)) ∧ nbrB f.n = true) : Calls Tryz.prog 63 #[.pointer (some ⟨E, 0, none⟩), .agg #[.int .i64 5, .string nm, .string tx, .int .i64 n, .slice (some ⟨bb, off, none⟩) 1 cp]] w (OptF R w) := by
 replace hRn := Lib.hid hRn
 replace hRs := Lib.hid hRs
 have hE0 : Ext w w := Ext.refl w
 obtain ⟨qa, ca, hc, hP⟩ := hk
 obtain ⟨c0, c1, c2, c3, c4⟩ := hc.five
 have hbb : bb < w.heap.size := cell_lt c0
 have hbb1 : bb < w.heap.size + 1 := by omega
 replace hP := Lib.hid hP
 clear hc hE0
 go_enter Tryz.func63, Tryz.ntmps63
 go_wp2_with fail
 refine (hP.out _ xt).mono ?_
 intro e w1 h
 have hbz : Blk ((w.alloc (.cells #[.int .i64 5, .string nm, .string tx, .int .i64 n, .slice (some ⟨bb, off, none⟩) 1 cp] 40)).alloc (.cells #[.string ⟨#[]⟩, .int .i64 0, .int .i64 0, .string ⟨#[]⟩] 62)) (w.heap.size + 1) #[.string ⟨#[]⟩, .int .i64 0, .int .i64 0, .string ⟨#[]⟩] 62 := Blk.new' _ _ _ _ (by simp)
 have hbx : Blk ((w.alloc (.cells #[.int .i64 5, .string nm, .string tx, .int .i64 n, .slice (some ⟨bb, off, none⟩) 1 cp] 40)).alloc (.cells #[.string ⟨#[]⟩, .int .i64 0, .int .i64 0, .string ⟨#[]⟩] 62)) w.heap.size #[.int .i64 5, .string nm, .string tx, .int .i64 n, .slice (some ⟨bb, off, none⟩) 1 cp] 40 := (Blk.new _ _ _).alloc _
 have hE : Ext w w1 := Ext.trans xt h.2
 replace hbz := Lib.hid (hbz.ext h.2)
 replace hbx := Lib.hid (hbx.ext h.2)
 obtain ⟨y0, y1, y2, y3⟩ : w1.cell? ⟨w.heap.size + 1, 0, none⟩ = some (.string ⟨#[]⟩) ∧ w1.cell? ⟨w.heap.size + 1, 1, none⟩ = some (.int .i64 0) ∧ w1.cell? ⟨w.heap.size + 1, 2, none⟩ = some (.int .i64 0) ∧ w1.cell? ⟨w.heap.size + 1, 3, none⟩ = some (.string ⟨#[]⟩) := by
  have h := hbz.out
  exact ⟨(h.cell 0).trans rfl, (h.cell 1).trans rfl, (h.cell 2).trans rfl, (h.cell 3).trans rfl⟩
 obtain ⟨f0, f1, f2, f3⟩ : w1.frozen? ⟨w.heap.size + 1, 0, none⟩ = false ∧ w1.frozen? ⟨w.heap.size + 1, 1, none⟩ = false ∧ w1.frozen? ⟨w.heap.size + 1, 2, none⟩ = false ∧ w1.frozen? ⟨w.heap.size + 1, 3, none⟩ = false := by
  have h := hbz.out
  exact ⟨h.fz 0, h.fz 1, h.fz 2, h.fz 3⟩
 obtain ⟨x0, x4⟩ : w1.cell? ⟨w.heap.size, 0, none⟩ = some (.int .i64 5) ∧ w1.cell? ⟨w.heap.size, 4, none⟩ = some (.slice (some ⟨bb, off, none⟩) 1 cp) := by
  have h := hbx.out
  exact ⟨(h.cell 0).trans rfl, (h.cell 4).trans rfl⟩
 have hs0 : w.heap.size < w1.heap.size := cell_lt x0
 have hs1 : w.heap.size + 1 < w1.heap.size := cell_lt y0
 clear c0 c1 c2 c3 c4 hbb hbb1
 cases ho : a.ev l S with
 | none =>
  rw [ho] at h
  have hR2 := Lib.hid (hRn.out ho)
  obtain ⟨rfl, -⟩ := optF_none h
  clear h ho
  go_wp2
  exact bodyPost_ret (v := .tuple #[.agg #[.string ⟨#[]⟩, .int .i64 0, .int .i64 0, .string ⟨#[]⟩], .bool false]) (by first | (simp [results, Tryz.results63, go_sem, World.cell?_alloc_past, hs1, y0, y1, y2, y3]; done) | (simp [results, Tryz.results63, go_sem, y0, y1, y2, y3]; done) | simp [results, Tryz.results63, go_sem]) rfl (optF_mkn hR2.out xt)
 | some f =>
  rw [ho] at h
  obtain ⟨rfl, -⟩ := optF_some h
  clear h
  have hR := Lib.hid (hRs.out f ho).1
  have hnb := (nbr_iff _).1 (hRs.out f ho).2
  have e1 : wrap64 (-f.n) = -f.n := wrap64_id _ (by omega) (by omega)
  clear ho hRs hRn hnb
  go_wp2_with fail
  refine (number_any (-f.n) _).mono ?_
  rintro e w2 ⟨rfl, hE2⟩
  clear y0 y1 y2 y3 f0 f1 f2 f3 hs1 x0 x4 hs0 e1
  obtain ⟨y0, y1, y2, y3⟩ : w2.cell? ⟨w.heap.size + 1, 0, none⟩ = some (.string ⟨#[]⟩) ∧ w2.cell? ⟨w.heap.size + 1, 1, none⟩ = some (.int .i64 0) ∧ w2.cell? ⟨w.heap.size + 1, 2, none⟩ = some (.int .i64 0) ∧ w2.cell? ⟨w.heap.size + 1, 3, none⟩ = some (.string ⟨#[]⟩) := by
   have h := hbz.out.ext (Ext.trans xt hE2)
   exact ⟨(h.cell 0).trans rfl, (h.cell 1).trans rfl, (h.cell 2).trans rfl, (h.cell 3).trans rfl⟩
  obtain ⟨f0, f1, f2, f3⟩ : w2.frozen? ⟨w.heap.size + 1, 0, none⟩ = false ∧ w2.frozen? ⟨w.heap.size + 1, 1, none⟩ = false ∧ w2.frozen? ⟨w.heap.size + 1, 2, none⟩ = false ∧ w2.frozen? ⟨w.heap.size + 1, 3, none⟩ = false := by
   have h := hbz.out.ext (Ext.trans xt hE2)
   exact ⟨h.fz 0, h.fz 1, h.fz 2, h.fz 3⟩
  replace hE : Ext w w2 := Ext.trans xt hE2
  have hs1 : w.heap.size + 1 < w2.heap.size := cell_lt y0
  clear hE2 hbz hbx
  go_wp2
  exact bodyPost_ret (v := .tuple #[.agg #[.string ⟨#[]⟩, .int .i64 1, .int .i64 (-f.n), .string ⟨#[]⟩], .bool true]) (by first | (simp [results, Tryz.results63, go_sem, y0, y1, y2, y3]; done) | (simp [results, Tryz.results63, go_sem, y0, y1, y2, y3]; done) | simp [results, Tryz.results63, go_sem]) rfl (optF_mks (f := numF (-f.n)) hR.out xt)
set_option maxRecDepth 8000 in
set_option maxHeartbeats 2000000 in
theorem val6 (l : List Feat) (S : Bool → ByteArray → Int → Int) (E : Nat) (nm tx : ByteArray) (n : Int) (bb off cp : Nat) (a b : Ex) (w : World) (hk : Kid w l S E bb off a) (kb : Kid w l S E bb (off + 5) b) (R : Option Feat) (hRn : a.ev l S = none → R = none) (hRc : ∀ f, a.ev l S = some f → ((6 = (6 : Int) ∧ f.n = 0) ∨ (6 = (7 : Int) ∧ f.n = 1)) → R = some f) (hRm : ∀ f, a.ev l S = some f → ¬ ((6 = (6 : Int) ∧ f.n = 0) ∨ (6 = (7 : Int) ∧ f.n = 1)) → b.ev l S = none → R = none) (hRs : ∀ f g, a.ev l S = some f → ¬ ((6 = (6 : Int) ∧ f.n = 0) ∨ (6 = (7 : Int) ∧ f.n = 1)) → b.ev l S = some g → R = comb 6 f g) (hn : ∀ f g, a.ev l S = some f → b.ev l S = some g → (6 : Int) = 12 ∨ (6 : Int) = 13 ∨ (6 : Int) = 14 → nbrB f.n = true ∧ nbrB g.n = true) : Calls Tryz.prog 63 #[.pointer (some ⟨E, 0, none⟩), .agg #[.int .i64 6, .string nm, .string tx, .int .i64 n, .slice (some ⟨bb, off, none⟩) 2 cp]] w (OptF R w) := by
 replace hRn := Lib.hid hRn
 replace hRs := Lib.hid hRs
 replace hRc := Lib.hid hRc
 replace hRm := Lib.hid hRm
 replace hn := Lib.hid hn
 have hE0 : Ext w w := Ext.refl w
 obtain ⟨qa, ca, hc, hP⟩ := hk
 obtain ⟨c0, c1, c2, c3, c4⟩ := hc.five
 have hbb : bb < w.heap.size := cell_lt c0
 have hbb1 : bb < w.heap.size + 1 := by omega
 replace hP := Lib.hid hP
 clear hc hE0
 go_enter Tryz.func63, Tryz.ntmps63
 go_wp2_with fail
 refine (hP.out _ xt).mono ?_
 intro e w1 h
 have hbz : Blk ((w.alloc (.cells #[.int .i64 6, .string nm, .string tx, .int .i64 n, .slice (some ⟨bb, off, none⟩) 2 cp] 40)).alloc (.cells #[.string ⟨#[]⟩, .int .i64 0, .int .i64 0, .string ⟨#[]⟩] 62)) (w.heap.size + 1) #[.string ⟨#[]⟩, .int .i64 0, .int .i64 0, .string ⟨#[]⟩] 62 := Blk.new' _ _ _ _ (by simp)
 have hbx : Blk ((w.alloc (.cells #[.int .i64 6, .string nm, .string tx, .int .i64 n, .slice (some ⟨bb, off, none⟩) 2 cp] 40)).alloc (.cells #[.string ⟨#[]⟩, .int .i64 0, .int .i64 0, .string ⟨#[]⟩] 62)) w.heap.size #[.int .i64 6, .string nm, .string tx, .int .i64 n, .slice (some ⟨bb, off, none⟩) 2 cp] 40 := (Blk.new _ _ _).alloc _
 have hE : Ext w w1 := Ext.trans xt h.2
 replace hbz := Lib.hid (hbz.ext h.2)
 replace hbx := Lib.hid (hbx.ext h.2)
 obtain ⟨y0, y1, y2, y3⟩ : w1.cell? ⟨w.heap.size + 1, 0, none⟩ = some (.string ⟨#[]⟩) ∧ w1.cell? ⟨w.heap.size + 1, 1, none⟩ = some (.int .i64 0) ∧ w1.cell? ⟨w.heap.size + 1, 2, none⟩ = some (.int .i64 0) ∧ w1.cell? ⟨w.heap.size + 1, 3, none⟩ = some (.string ⟨#[]⟩) := by
  have h := hbz.out
  exact ⟨(h.cell 0).trans rfl, (h.cell 1).trans rfl, (h.cell 2).trans rfl, (h.cell 3).trans rfl⟩
 obtain ⟨f0, f1, f2, f3⟩ : w1.frozen? ⟨w.heap.size + 1, 0, none⟩ = false ∧ w1.frozen? ⟨w.heap.size + 1, 1, none⟩ = false ∧ w1.frozen? ⟨w.heap.size + 1, 2, none⟩ = false ∧ w1.frozen? ⟨w.heap.size + 1, 3, none⟩ = false := by
  have h := hbz.out
  exact ⟨h.fz 0, h.fz 1, h.fz 2, h.fz 3⟩
 obtain ⟨x0, x4⟩ : w1.cell? ⟨w.heap.size, 0, none⟩ = some (.int .i64 6) ∧ w1.cell? ⟨w.heap.size, 4, none⟩ = some (.slice (some ⟨bb, off, none⟩) 2 cp) := by
  have h := hbx.out
  exact ⟨(h.cell 0).trans rfl, (h.cell 4).trans rfl⟩
 have hs0 : w.heap.size < w1.heap.size := cell_lt x0
 have hs1 : w.heap.size + 1 < w1.heap.size := cell_lt y0
 clear c0 c1 c2 c3 c4 hbb hbb1
 cases ho : a.ev l S with
 | none =>
  rw [ho] at h
  have hR2 := Lib.hid (hRn.out ho)
  obtain ⟨rfl, -⟩ := optF_none h
  clear h ho
  go_wp2
  exact bodyPost_ret (v := .tuple #[.agg #[.string ⟨#[]⟩, .int .i64 0, .int .i64 0, .string ⟨#[]⟩], .bool false]) (by first | (simp [results, Tryz.results63, go_sem, World.cell?_alloc_past, hs1, y0, y1, y2, y3]; done) | (simp [results, Tryz.results63, go_sem, y0, y1, y2, y3]; done) | simp [results, Tryz.results63, go_sem]) rfl (optF_mkn hR2.out xt)
 | some f =>
  rw [ho] at h
  obtain ⟨rfl, -⟩ := optF_some h
  clear h
  by_cases h0 : f.n = 0
  · have g0 : (f.n == 0) = true := by simp [h0]
    have hR := Lib.hid (hRc.out f ho (by simp [h0]))
    clear ho h0
    go_wp2
    exact bodyPost_ret (v := .tuple #[.agg #[.string f.name, .int .i64 f.kind, .int .i64 f.n, .string f.text], .bool true]) (by first | (simp [results, Tryz.results63, go_sem, World.cell?_alloc_past, hs1, y0, y1, y2, y3]; done) | (simp [results, Tryz.results63, go_sem, y0, y1, y2, y3]; done) | simp [results, Tryz.results63, go_sem]) rfl (optF_mks hR.out xt)
  · have g0 : (f.n == 0) = false := by simp [h0]
    have hno : ¬ ((6 = (6 : Int) ∧ f.n = 0) ∨ (6 = (7 : Int) ∧ f.n = 1)) := by simp [h0]
    clear h0
    obtain ⟨qb, cb, hc, hQ⟩ := kb.ext hE
    obtain ⟨c0, c1, c2, c3, c4⟩ := hc.five
    have hbb : bb < w1.heap.size := cell_lt c0
    replace hQ := Lib.hid hQ
    clear hc
    go_wp2_with fail
    refine (hQ.out _ ((Ext.refl _).alloc _)).mono ?_
    intro e w2 h
    obtain ⟨⟨t0, t1, t2, t3⟩, -⟩ := new4 w1.heap.size rfl h.2
    have hs2 : w1.heap.size < w2.heap.size := cell_lt t0
    clear y0 y1 y2 y3 f0 f1 f2 f3 hs1 x0 x4 hs0 c0 c1 c2 c3 c4 hbb
    replace hbz := Lib.hid (hbz.out.ext (Ext.trans ((Ext.refl _).alloc _) h.2))
    replace hbx := Lib.hid (hbx.out.ext (Ext.trans ((Ext.refl _).alloc _) h.2))
    replace hE : Ext w w2 := Ext.trans (hE.alloc _) h.2
    obtain ⟨y0, y1, y2, y3⟩ : w2.cell? ⟨w.heap.size + 1, 0, none⟩ = some (.string ⟨#[]⟩) ∧ w2.cell? ⟨w.heap.size + 1, 1, none⟩ = some (.int .i64 0) ∧ w2.cell? ⟨w.heap.size + 1, 2, none⟩ = some (.int .i64 0) ∧ w2.cell? ⟨w.heap.size + 1, 3, none⟩ = some (.string ⟨#[]⟩) := by
     have h := hbz.out
     exact ⟨(h.cell 0).trans rfl, (h.cell 1).trans rfl, (h.cell 2).trans rfl, (h.cell 3).trans rfl⟩
    obtain ⟨f0, f1, f2, f3⟩ : w2.frozen? ⟨w.heap.size + 1, 0, none⟩ = false ∧ w2.frozen? ⟨w.heap.size + 1, 1, none⟩ = false ∧ w2.frozen? ⟨w.heap.size + 1, 2, none⟩ = false ∧ w2.frozen? ⟨w.heap.size + 1, 3, none⟩ = false := by
     have h := hbz.out
     exact ⟨h.fz 0, h.fz 1, h.fz 2, h.fz 3⟩
    obtain ⟨x0, x4⟩ : w2.cell? ⟨w.heap.size, 0, none⟩ = some (.int .i64 6) ∧ w2.cell? ⟨w.heap.size, 4, none⟩ = some (.slice (some ⟨bb, off, none⟩) 2 cp) := by
     have h := hbx.out
     exact ⟨(h.cell 0).trans rfl, (h.cell 4).trans rfl⟩
    have hs0 : w.heap.size < w2.heap.size := cell_lt x0
    have hs1 : w.heap.size + 1 < w2.heap.size := cell_lt y0
    cases hp : b.ev l S with
    | none =>
     rw [hp] at h
     have hR2 := Lib.hid (hRm.out f ho hno hp)
     obtain ⟨rfl, -⟩ := optF_none h
     clear h ho hp hno
     go_wp2
     exact bodyPost_ret (v := .tuple #[.agg #[.string ⟨#[]⟩, .int .i64 0, .int .i64 0, .string ⟨#[]⟩], .bool false]) (by first | (simp [results, Tryz.results63, go_sem, World.cell?_alloc_past, hs1, y0, y1, y2, y3]; done) | (simp [results, Tryz.results63, go_sem, y0, y1, y2, y3]; done) | simp [results, Tryz.results63, go_sem]) rfl (optF_mkn hR2.out xt)
    | some g =>
     rw [hp] at h
     have hR2 := Lib.hid (hRs.out f g ho hno hp)
     have hC := Lib.hid (fun w9 => combine_any 6 f g w9 (hn.out f g ho hp))
     obtain ⟨rfl, -⟩ := optF_some h
     clear h ho hp hno hRn hRc hRm hRs hn
     generalize comb 6 f g = O at *
     go_wp2_with fail
     refine (hC.out _).mono ?_
     intro e w3 h
     clear y0 y1 y2 y3 f0 f1 f2 f3 hs1 x0 x4 hs0 t0 t1 t2 t3 hs2
     replace hbz := Lib.hid (hbz.out.ext (Ext.trans ((Ext.refl _).alloc _) h.2))
     replace hE : Ext w w3 := Ext.trans (hE.alloc _) h.2
     clear hbx
     obtain ⟨y0, y1, y2, y3⟩ : w3.cell? ⟨w.heap.size + 1, 0, none⟩ = some (.string ⟨#[]⟩) ∧ w3.cell? ⟨w.heap.size + 1, 1, none⟩ = some (.int .i64 0) ∧ w3.cell? ⟨w.heap.size + 1, 2, none⟩ = some (.int .i64 0) ∧ w3.cell? ⟨w.heap.size + 1, 3, none⟩ = some (.string ⟨#[]⟩) := by
      have h := hbz.out
      exact ⟨(h.cell 0).trans rfl, (h.cell 1).trans rfl, (h.cell 2).trans rfl, (h.cell 3).trans rfl⟩
     obtain ⟨f0, f1, f2, f3⟩ : w3.frozen? ⟨w.heap.size + 1, 0, none⟩ = false ∧ w3.frozen? ⟨w.heap.size + 1, 1, none⟩ = false ∧ w3.frozen? ⟨w.heap.size + 1, 2, none⟩ = false ∧ w3.frozen? ⟨w.heap.size + 1, 3, none⟩ = false := by
      have h := hbz.out
      exact ⟨h.fz 0, h.fz 1, h.fz 2, h.fz 3⟩
     have hs1 : w.heap.size + 1 < w3.heap.size := cell_lt y0
     cases O with
     | none =>
      obtain ⟨rfl, -⟩ := optF_none h
      clear h
      go_wp2
      exact bodyPost_ret (v := .tuple #[.agg #[.string ⟨#[]⟩, .int .i64 0, .int .i64 0, .string ⟨#[]⟩], .bool false]) (by first | (simp [results, Tryz.results63, go_sem, y0, y1, y2, y3]; done) | (simp [results, Tryz.results63, go_sem, y0, y1, y2, y3]; done) | simp [results, Tryz.results63, go_sem]) rfl (optF_mkn hR2.out xt)
     | some k =>
      obtain ⟨rfl, -⟩ := optF_some h
      clear h
      go_wp2
      exact bodyPost_ret (v := .tuple #[.agg #[.string k.name, .int .i64 k.kind, .int .i64 k.n, .string k.text], .bool true]) (by first | (simp [results, Tryz.results63, go_sem, y0, y1, y2, y3]; done) | (simp [results, Tryz.results63, go_sem, y0, y1, y2, y3]; done) | simp [results, Tryz.results63, go_sem]) rfl (optF_mks hR2.out xt)
set_option maxRecDepth 8000 in
set_option maxHeartbeats 2000000 in
theorem val7 (l : List Feat) (S : Bool → ByteArray → Int → Int) (E : Nat) (nm tx : ByteArray) (n : Int) (bb off cp : Nat) (a b : Ex) (w : World) (hk : Kid w l S E bb off a) (kb : Kid w l S E bb (off + 5) b) (R : Option Feat) (hRn : a.ev l S = none → R = none) (hRc : ∀ f, a.ev l S = some f → ((7 = (6 : Int) ∧ f.n = 0) ∨ (7 = (7 : Int) ∧ f.n = 1)) → R = some f) (hRm : ∀ f, a.ev l S = some f → ¬ ((7 = (6 : Int) ∧ f.n = 0) ∨ (7 = (7 : Int) ∧ f.n = 1)) → b.ev l S = none → R = none) (hRs : ∀ f g, a.ev l S = some f → ¬ ((7 = (6 : Int) ∧ f.n = 0) ∨ (7 = (7 : Int) ∧ f.n = 1)) → b.ev l S = some g → R = comb 7 f g) (hn : ∀ f g, a.ev l S = some f → b.ev l S = some g → (7 : Int) = 12 ∨ (7 : Int) = 13 ∨ (7 : Int) = 14 → nbrB f.n = true ∧ nbrB g.n = true) : Calls Tryz.prog 63 #[.pointer (some ⟨E, 0, none⟩), .agg #[.int .i64 7, .string nm, .string tx, .int .i64 n, .slice (some ⟨bb, off, none⟩) 2 cp]] w (OptF R w) := by
 replace hRn := Lib.hid hRn
 replace hRs := Lib.hid hRs
 replace hRc := Lib.hid hRc
 replace hRm := Lib.hid hRm
 replace hn := Lib.hid hn
 have hE0 : Ext w w := Ext.refl w
 obtain ⟨qa, ca, hc, hP⟩ := hk
 obtain ⟨c0, c1, c2, c3, c4⟩ := hc.five
 have hbb : bb < w.heap.size := cell_lt c0
 have hbb1 : bb < w.heap.size + 1 := by omega
 replace hP := Lib.hid hP
 clear hc hE0
 go_enter Tryz.func63, Tryz.ntmps63
 go_wp2_with fail
 refine (hP.out _ xt).mono ?_
 intro e w1 h
 have hbz : Blk ((w.alloc (.cells #[.int .i64 7, .string nm, .string tx, .int .i64 n, .slice (some ⟨bb, off, none⟩) 2 cp] 40)).alloc (.cells #[.string ⟨#[]⟩, .int .i64 0, .int .i64 0, .string ⟨#[]⟩] 62)) (w.heap.size + 1) #[.string ⟨#[]⟩, .int .i64 0, .int .i64 0, .string ⟨#[]⟩] 62 := Blk.new' _ _ _ _ (by simp)
 have hbx : Blk ((w.alloc (.cells #[.int .i64 7, .string nm, .string tx, .int .i64 n, .slice (some ⟨bb, off, none⟩) 2 cp] 40)).alloc (.cells #[.string ⟨#[]⟩, .int .i64 0, .int .i64 0, .string ⟨#[]⟩] 62)) w.heap.size #[.int .i64 7, .string nm, .string tx, .int .i64 n, .slice (some ⟨bb, off, none⟩) 2 cp] 40 := (Blk.new _ _ _).alloc _
 have hE : Ext w w1 := Ext.trans xt h.2
 replace hbz := Lib.hid (hbz.ext h.2)
 replace hbx := Lib.hid (hbx.ext h.2)
 obtain ⟨y0, y1, y2, y3⟩ : w1.cell? ⟨w.heap.size + 1, 0, none⟩ = some (.string ⟨#[]⟩) ∧ w1.cell? ⟨w.heap.size + 1, 1, none⟩ = some (.int .i64 0) ∧ w1.cell? ⟨w.heap.size + 1, 2, none⟩ = some (.int .i64 0) ∧ w1.cell? ⟨w.heap.size + 1, 3, none⟩ = some (.string ⟨#[]⟩) := by
  have h := hbz.out
  exact ⟨(h.cell 0).trans rfl, (h.cell 1).trans rfl, (h.cell 2).trans rfl, (h.cell 3).trans rfl⟩
 obtain ⟨f0, f1, f2, f3⟩ : w1.frozen? ⟨w.heap.size + 1, 0, none⟩ = false ∧ w1.frozen? ⟨w.heap.size + 1, 1, none⟩ = false ∧ w1.frozen? ⟨w.heap.size + 1, 2, none⟩ = false ∧ w1.frozen? ⟨w.heap.size + 1, 3, none⟩ = false := by
  have h := hbz.out
  exact ⟨h.fz 0, h.fz 1, h.fz 2, h.fz 3⟩
 obtain ⟨x0, x4⟩ : w1.cell? ⟨w.heap.size, 0, none⟩ = some (.int .i64 7) ∧ w1.cell? ⟨w.heap.size, 4, none⟩ = some (.slice (some ⟨bb, off, none⟩) 2 cp) := by
  have h := hbx.out
  exact ⟨(h.cell 0).trans rfl, (h.cell 4).trans rfl⟩
 have hs0 : w.heap.size < w1.heap.size := cell_lt x0
 have hs1 : w.heap.size + 1 < w1.heap.size := cell_lt y0
 clear c0 c1 c2 c3 c4 hbb hbb1
 cases ho : a.ev l S with
 | none =>
  rw [ho] at h
  have hR2 := Lib.hid (hRn.out ho)
  obtain ⟨rfl, -⟩ := optF_none h
  clear h ho
  go_wp2
  exact bodyPost_ret (v := .tuple #[.agg #[.string ⟨#[]⟩, .int .i64 0, .int .i64 0, .string ⟨#[]⟩], .bool false]) (by first | (simp [results, Tryz.results63, go_sem, World.cell?_alloc_past, hs1, y0, y1, y2, y3]; done) | (simp [results, Tryz.results63, go_sem, y0, y1, y2, y3]; done) | simp [results, Tryz.results63, go_sem]) rfl (optF_mkn hR2.out xt)
 | some f =>
  rw [ho] at h
  obtain ⟨rfl, -⟩ := optF_some h
  clear h
  by_cases h0 : f.n = 1
  · have g0 : (f.n == 1) = true := by simp [h0]
    have hR := Lib.hid (hRc.out f ho (by simp [h0]))
    clear ho h0
    go_wp2
    exact bodyPost_ret (v := .tuple #[.agg #[.string f.name, .int .i64 f.kind, .int .i64 f.n, .string f.text], .bool true]) (by first | (simp [results, Tryz.results63, go_sem, World.cell?_alloc_past, hs1, y0, y1, y2, y3]; done) | (simp [results, Tryz.results63, go_sem, y0, y1, y2, y3]; done) | simp [results, Tryz.results63, go_sem]) rfl (optF_mks hR.out xt)
  · have g0 : (f.n == 1) = false := by simp [h0]
    have hno : ¬ ((7 = (6 : Int) ∧ f.n = 0) ∨ (7 = (7 : Int) ∧ f.n = 1)) := by simp [h0]
    clear h0
    obtain ⟨qb, cb, hc, hQ⟩ := kb.ext hE
    obtain ⟨c0, c1, c2, c3, c4⟩ := hc.five
    have hbb : bb < w1.heap.size := cell_lt c0
    replace hQ := Lib.hid hQ
    clear hc
    go_wp2_with fail
    refine (hQ.out _ ((Ext.refl _).alloc _)).mono ?_
    intro e w2 h
    obtain ⟨⟨t0, t1, t2, t3⟩, -⟩ := new4 w1.heap.size rfl h.2
    have hs2 : w1.heap.size < w2.heap.size := cell_lt t0
    clear y0 y1 y2 y3 f0 f1 f2 f3 hs1 x0 x4 hs0 c0 c1 c2 c3 c4 hbb
    replace hbz := Lib.hid (hbz.out.ext (Ext.trans ((Ext.refl _).alloc _) h.2))
    replace hbx := Lib.hid (hbx.out.ext (Ext.trans ((Ext.refl _).alloc _) h.2))
    replace hE : Ext w w2 := Ext.trans (hE.alloc _) h.2
    obtain ⟨y0, y1, y2, y3⟩ : w2.cell? ⟨w.heap.size + 1, 0, none⟩ = some (.string ⟨#[]⟩) ∧ w2.cell? ⟨w.heap.size + 1, 1, none⟩ = some (.int .i64 0) ∧ w2.cell? ⟨w.heap.size + 1, 2, none⟩ = some (.int .i64 0) ∧ w2.cell? ⟨w.heap.size + 1, 3, none⟩ = some (.string ⟨#[]⟩) := by
     have h := hbz.out
     exact ⟨(h.cell 0).trans rfl, (h.cell 1).trans rfl, (h.cell 2).trans rfl, (h.cell 3).trans rfl⟩
    obtain ⟨f0, f1, f2, f3⟩ : w2.frozen? ⟨w.heap.size + 1, 0, none⟩ = false ∧ w2.frozen? ⟨w.heap.size + 1, 1, none⟩ = false ∧ w2.frozen? ⟨w.heap.size + 1, 2, none⟩ = false ∧ w2.frozen? ⟨w.heap.size + 1, 3, none⟩ = false := by
     have h := hbz.out
     exact ⟨h.fz 0, h.fz 1, h.fz 2, h.fz 3⟩
    obtain ⟨x0, x4⟩ : w2.cell? ⟨w.heap.size, 0, none⟩ = some (.int .i64 7) ∧ w2.cell? ⟨w.heap.size, 4, none⟩ = some (.slice (some ⟨bb, off, none⟩) 2 cp) := by
     have h := hbx.out
     exact ⟨(h.cell 0).trans rfl, (h.cell 4).trans rfl⟩
    have hs0 : w.heap.size < w2.heap.size := cell_lt x0
    have hs1 : w.heap.size + 1 < w2.heap.size := cell_lt y0
    cases hp : b.ev l S with
    | none =>
     rw [hp] at h
     have hR2 := Lib.hid (hRm.out f ho hno hp)
     obtain ⟨rfl, -⟩ := optF_none h
     clear h ho hp hno
     go_wp2
     exact bodyPost_ret (v := .tuple #[.agg #[.string ⟨#[]⟩, .int .i64 0, .int .i64 0, .string ⟨#[]⟩], .bool false]) (by first | (simp [results, Tryz.results63, go_sem, World.cell?_alloc_past, hs1, y0, y1, y2, y3]; done) | (simp [results, Tryz.results63, go_sem, y0, y1, y2, y3]; done) | simp [results, Tryz.results63, go_sem]) rfl (optF_mkn hR2.out xt)
    | some g =>
     rw [hp] at h
     have hR2 := Lib.hid (hRs.out f g ho hno hp)
     have hC := Lib.hid (fun w9 => combine_any 7 f g w9 (hn.out f g ho hp))
     obtain ⟨rfl, -⟩ := optF_some h
     clear h ho hp hno hRn hRc hRm hRs hn
     generalize comb 7 f g = O at *
     go_wp2_with fail
     refine (hC.out _).mono ?_
     intro e w3 h
     clear y0 y1 y2 y3 f0 f1 f2 f3 hs1 x0 x4 hs0 t0 t1 t2 t3 hs2
     replace hbz := Lib.hid (hbz.out.ext (Ext.trans ((Ext.refl _).alloc _) h.2))
     replace hE : Ext w w3 := Ext.trans (hE.alloc _) h.2
     clear hbx
     obtain ⟨y0, y1, y2, y3⟩ : w3.cell? ⟨w.heap.size + 1, 0, none⟩ = some (.string ⟨#[]⟩) ∧ w3.cell? ⟨w.heap.size + 1, 1, none⟩ = some (.int .i64 0) ∧ w3.cell? ⟨w.heap.size + 1, 2, none⟩ = some (.int .i64 0) ∧ w3.cell? ⟨w.heap.size + 1, 3, none⟩ = some (.string ⟨#[]⟩) := by
      have h := hbz.out
      exact ⟨(h.cell 0).trans rfl, (h.cell 1).trans rfl, (h.cell 2).trans rfl, (h.cell 3).trans rfl⟩
     obtain ⟨f0, f1, f2, f3⟩ : w3.frozen? ⟨w.heap.size + 1, 0, none⟩ = false ∧ w3.frozen? ⟨w.heap.size + 1, 1, none⟩ = false ∧ w3.frozen? ⟨w.heap.size + 1, 2, none⟩ = false ∧ w3.frozen? ⟨w.heap.size + 1, 3, none⟩ = false := by
      have h := hbz.out
      exact ⟨h.fz 0, h.fz 1, h.fz 2, h.fz 3⟩
     have hs1 : w.heap.size + 1 < w3.heap.size := cell_lt y0
     cases O with
     | none =>
      obtain ⟨rfl, -⟩ := optF_none h
      clear h
      go_wp2
      exact bodyPost_ret (v := .tuple #[.agg #[.string ⟨#[]⟩, .int .i64 0, .int .i64 0, .string ⟨#[]⟩], .bool false]) (by first | (simp [results, Tryz.results63, go_sem, y0, y1, y2, y3]; done) | (simp [results, Tryz.results63, go_sem, y0, y1, y2, y3]; done) | simp [results, Tryz.results63, go_sem]) rfl (optF_mkn hR2.out xt)
     | some k =>
      obtain ⟨rfl, -⟩ := optF_some h
      clear h
      go_wp2
      exact bodyPost_ret (v := .tuple #[.agg #[.string k.name, .int .i64 k.kind, .int .i64 k.n, .string k.text], .bool true]) (by first | (simp [results, Tryz.results63, go_sem, y0, y1, y2, y3]; done) | (simp [results, Tryz.results63, go_sem, y0, y1, y2, y3]; done) | simp [results, Tryz.results63, go_sem]) rfl (optF_mks hR2.out xt)
set_option maxRecDepth 8000 in
set_option maxHeartbeats 2000000 in
theorem valx (l : List Feat) (S : Bool → ByteArray → Int → Int) (E : Nat) (op : Int) (h8 : 8 ≤ op) (h14 : op ≤ 14) (nm tx : ByteArray) (n : Int) (bb off cp : Nat) (a b : Ex) (w : World) (hk : Kid w l S E bb off a) (kb : Kid w l S E bb (off + 5) b) (R : Option Feat) (hRn : a.ev l S = none → R = none) (hRc : ∀ f, a.ev l S = some f → ((op = (6 : Int) ∧ f.n = 0) ∨ (op = (7 : Int) ∧ f.n = 1)) → R = some f) (hRm : ∀ f, a.ev l S = some f → ¬ ((op = (6 : Int) ∧ f.n = 0) ∨ (op = (7 : Int) ∧ f.n = 1)) → b.ev l S = none → R = none) (hRs : ∀ f g, a.ev l S = some f → ¬ ((op = (6 : Int) ∧ f.n = 0) ∨ (op = (7 : Int) ∧ f.n = 1)) → b.ev l S = some g → R = comb op f g) (hn : ∀ f g, a.ev l S = some f → b.ev l S = some g → (op : Int) = 12 ∨ (op : Int) = 13 ∨ (op : Int) = 14 → nbrB f.n = true ∧ nbrB g.n = true) : Calls Tryz.prog 63 #[.pointer (some ⟨E, 0, none⟩), .agg #[.int .i64 op, .string nm, .string tx, .int .i64 n, .slice (some ⟨bb, off, none⟩) 2 cp]] w (OptF R w) := by
 replace hRn := Lib.hid hRn
 replace hRs := Lib.hid hRs
 replace hRc := Lib.hid hRc
 replace hRm := Lib.hid hRm
 replace hn := Lib.hid hn
 have e1 : (op == 1) = false := by simp; omega
 have e2 : (op == 2) = false := by simp; omega
 have e3 : (op == 3) = false := by simp; omega
 have e16 : (op == 16) = false := by simp; omega
 have e17 : (op == 17) = false := by simp; omega
 have e4 : (op == 4) = false := by simp; omega
 have e5 : (op == 5) = false := by simp; omega
 have e15 : (op == 15) = false := by simp; omega
 have e6 : (op == 6) = false := by simp; omega
 have e7 : (op == 7) = false := by simp; omega
 have hno : ∀ f : Feat, ¬ ((op = 6 ∧ f.n = 0) ∨ (op = 7 ∧ f.n = 1)) := by intro f; omega
 replace hno := Lib.hid hno
 clear h8 h14
 have hE0 : Ext w w := Ext.refl w
 obtain ⟨qa, ca, hc, hP⟩ := hk
 obtain ⟨c0, c1, c2, c3, c4⟩ := hc.five
 have hbb : bb < w.heap.size := cell_lt c0
 have hbb1 : bb < w.heap.size + 1 := by omega
 replace hP := Lib.hid hP
 clear hc hE0
 go_enter Tryz.func63, Tryz.ntmps63
 go_wp2_with fail
 refine (hP.out _ xt).mono ?_
 intro e w1 h
 have hbz : Blk ((w.alloc (.cells #[.int .i64 op, .string nm, .string tx, .int .i64 n, .slice (some ⟨bb, off, none⟩) 2 cp] 40)).alloc (.cells #[.string ⟨#[]⟩, .int .i64 0, .int .i64 0, .string ⟨#[]⟩] 62)) (w.heap.size + 1) #[.string ⟨#[]⟩, .int .i64 0, .int .i64 0, .string ⟨#[]⟩] 62 := Blk.new' _ _ _ _ (by simp)
 have hbx : Blk ((w.alloc (.cells #[.int .i64 op, .string nm, .string tx, .int .i64 n, .slice (some ⟨bb, off, none⟩) 2 cp] 40)).alloc (.cells #[.string ⟨#[]⟩, .int .i64 0, .int .i64 0, .string ⟨#[]⟩] 62)) w.heap.size #[.int .i64 op, .string nm, .string tx, .int .i64 n, .slice (some ⟨bb, off, none⟩) 2 cp] 40 := (Blk.new _ _ _).alloc _
 have hE : Ext w w1 := Ext.trans xt h.2
 replace hbz := Lib.hid (hbz.ext h.2)
 replace hbx := Lib.hid (hbx.ext h.2)
 obtain ⟨y0, y1, y2, y3⟩ : w1.cell? ⟨w.heap.size + 1, 0, none⟩ = some (.string ⟨#[]⟩) ∧ w1.cell? ⟨w.heap.size + 1, 1, none⟩ = some (.int .i64 0) ∧ w1.cell? ⟨w.heap.size + 1, 2, none⟩ = some (.int .i64 0) ∧ w1.cell? ⟨w.heap.size + 1, 3, none⟩ = some (.string ⟨#[]⟩) := by
  have h := hbz.out
  exact ⟨(h.cell 0).trans rfl, (h.cell 1).trans rfl, (h.cell 2).trans rfl, (h.cell 3).trans rfl⟩
 obtain ⟨f0, f1, f2, f3⟩ : w1.frozen? ⟨w.heap.size + 1, 0, none⟩ = false ∧ w1.frozen? ⟨w.heap.size + 1, 1, none⟩ = false ∧ w1.frozen? ⟨w.heap.size + 1, 2, none⟩ = false ∧ w1.frozen? ⟨w.heap.size + 1, 3, none⟩ = false := by
  have h := hbz.out
  exact ⟨h.fz 0, h.fz 1, h.fz 2, h.fz 3⟩
 obtain ⟨x0, x4⟩ : w1.cell? ⟨w.heap.size, 0, none⟩ = some (.int .i64 op) ∧ w1.cell? ⟨w.heap.size, 4, none⟩ = some (.slice (some ⟨bb, off, none⟩) 2 cp) := by
  have h := hbx.out
  exact ⟨(h.cell 0).trans rfl, (h.cell 4).trans rfl⟩
 have hs0 : w.heap.size < w1.heap.size := cell_lt x0
 have hs1 : w.heap.size + 1 < w1.heap.size := cell_lt y0
 clear c0 c1 c2 c3 c4 hbb hbb1
 cases ho : a.ev l S with
 | none =>
  rw [ho] at h
  have hR2 := Lib.hid (hRn.out ho)
  obtain ⟨rfl, -⟩ := optF_none h
  clear h ho
  go_wp2
  exact bodyPost_ret (v := .tuple #[.agg #[.string ⟨#[]⟩, .int .i64 0, .int .i64 0, .string ⟨#[]⟩], .bool false]) (by first | (simp [results, Tryz.results63, go_sem, World.cell?_alloc_past, hs1, y0, y1, y2, y3]; done) | (simp [results, Tryz.results63, go_sem, y0, y1, y2, y3]; done) | simp [results, Tryz.results63, go_sem]) rfl (optF_mkn hR2.out xt)
 | some f =>
  rw [ho] at h
  obtain ⟨rfl, -⟩ := optF_some h
  clear h
  replace hno := hno.out f
  replace ho := ho
  obtain ⟨qb, cb, hc, hQ⟩ := kb.ext hE
  obtain ⟨c0, c1, c2, c3, c4⟩ := hc.five
  have hbb : bb < w1.heap.size := cell_lt c0
  replace hQ := Lib.hid hQ
  clear hc
  go_wp2_with fail
  refine (hQ.out _ ((Ext.refl _).alloc _)).mono ?_
  intro e w2 h
  obtain ⟨⟨t0, t1, t2, t3⟩, -⟩ := new4 w1.heap.size rfl h.2
  have hs2 : w1.heap.size < w2.heap.size := cell_lt t0
  clear y0 y1 y2 y3 f0 f1 f2 f3 hs1 x0 x4 hs0 c0 c1 c2 c3 c4 hbb
  replace hbz := Lib.hid (hbz.out.ext (Ext.trans ((Ext.refl _).alloc _) h.2))
  replace hbx := Lib.hid (hbx.out.ext (Ext.trans ((Ext.refl _).alloc _) h.2))
  replace hE : Ext w w2 := Ext.trans (hE.alloc _) h.2
  obtain ⟨y0, y1, y2, y3⟩ : w2.cell? ⟨w.heap.size + 1, 0, none⟩ = some (.string ⟨#[]⟩) ∧ w2.cell? ⟨w.heap.size + 1, 1, none⟩ = some (.int .i64 0) ∧ w2.cell? ⟨w.heap.size + 1, 2, none⟩ = some (.int .i64 0) ∧ w2.cell? ⟨w.heap.size + 1, 3, none⟩ = some (.string ⟨#[]⟩) := by
   have h := hbz.out
   exact ⟨(h.cell 0).trans rfl, (h.cell 1).trans rfl, (h.cell 2).trans rfl, (h.cell 3).trans rfl⟩
  obtain ⟨f0, f1, f2, f3⟩ : w2.frozen? ⟨w.heap.size + 1, 0, none⟩ = false ∧ w2.frozen? ⟨w.heap.size + 1, 1, none⟩ = false ∧ w2.frozen? ⟨w.heap.size + 1, 2, none⟩ = false ∧ w2.frozen? ⟨w.heap.size + 1, 3, none⟩ = false := by
   have h := hbz.out
   exact ⟨h.fz 0, h.fz 1, h.fz 2, h.fz 3⟩
  obtain ⟨x0, x4⟩ : w2.cell? ⟨w.heap.size, 0, none⟩ = some (.int .i64 op) ∧ w2.cell? ⟨w.heap.size, 4, none⟩ = some (.slice (some ⟨bb, off, none⟩) 2 cp) := by
   have h := hbx.out
   exact ⟨(h.cell 0).trans rfl, (h.cell 4).trans rfl⟩
  have hs0 : w.heap.size < w2.heap.size := cell_lt x0
  have hs1 : w.heap.size + 1 < w2.heap.size := cell_lt y0
  cases hp : b.ev l S with
  | none =>
   rw [hp] at h
   have hR2 := Lib.hid (hRm.out f ho hno hp)
   obtain ⟨rfl, -⟩ := optF_none h
   clear h ho hp hno
   go_wp2
   exact bodyPost_ret (v := .tuple #[.agg #[.string ⟨#[]⟩, .int .i64 0, .int .i64 0, .string ⟨#[]⟩], .bool false]) (by first | (simp [results, Tryz.results63, go_sem, World.cell?_alloc_past, hs1, y0, y1, y2, y3]; done) | (simp [results, Tryz.results63, go_sem, y0, y1, y2, y3]; done) | simp [results, Tryz.results63, go_sem]) rfl (optF_mkn hR2.out xt)
  | some g =>
   rw [hp] at h
   have hR2 := Lib.hid (hRs.out f g ho hno hp)
   have hC := Lib.hid (fun w9 => combine_any op f g w9 (hn.out f g ho hp))
   obtain ⟨rfl, -⟩ := optF_some h
   clear h ho hp hno hRn hRc hRm hRs hn
   generalize comb op f g = O at *
   go_wp2_with fail
   refine (hC.out _).mono ?_
   intro e w3 h
   clear y0 y1 y2 y3 f0 f1 f2 f3 hs1 x0 x4 hs0 t0 t1 t2 t3 hs2
   replace hbz := Lib.hid (hbz.out.ext (Ext.trans ((Ext.refl _).alloc _) h.2))
   replace hE : Ext w w3 := Ext.trans (hE.alloc _) h.2
   clear hbx
   obtain ⟨y0, y1, y2, y3⟩ : w3.cell? ⟨w.heap.size + 1, 0, none⟩ = some (.string ⟨#[]⟩) ∧ w3.cell? ⟨w.heap.size + 1, 1, none⟩ = some (.int .i64 0) ∧ w3.cell? ⟨w.heap.size + 1, 2, none⟩ = some (.int .i64 0) ∧ w3.cell? ⟨w.heap.size + 1, 3, none⟩ = some (.string ⟨#[]⟩) := by
    have h := hbz.out
    exact ⟨(h.cell 0).trans rfl, (h.cell 1).trans rfl, (h.cell 2).trans rfl, (h.cell 3).trans rfl⟩
   obtain ⟨f0, f1, f2, f3⟩ : w3.frozen? ⟨w.heap.size + 1, 0, none⟩ = false ∧ w3.frozen? ⟨w.heap.size + 1, 1, none⟩ = false ∧ w3.frozen? ⟨w.heap.size + 1, 2, none⟩ = false ∧ w3.frozen? ⟨w.heap.size + 1, 3, none⟩ = false := by
    have h := hbz.out
    exact ⟨h.fz 0, h.fz 1, h.fz 2, h.fz 3⟩
   have hs1 : w.heap.size + 1 < w3.heap.size := cell_lt y0
   cases O with
   | none =>
    obtain ⟨rfl, -⟩ := optF_none h
    clear h
    go_wp2
    exact bodyPost_ret (v := .tuple #[.agg #[.string ⟨#[]⟩, .int .i64 0, .int .i64 0, .string ⟨#[]⟩], .bool false]) (by first | (simp [results, Tryz.results63, go_sem, y0, y1, y2, y3]; done) | (simp [results, Tryz.results63, go_sem, y0, y1, y2, y3]; done) | simp [results, Tryz.results63, go_sem]) rfl (optF_mkn hR2.out xt)
   | some k =>
    obtain ⟨rfl, -⟩ := optF_some h
    clear h
    go_wp2
    exact bodyPost_ret (v := .tuple #[.agg #[.string k.name, .int .i64 k.kind, .int .i64 k.n, .string k.text], .bool true]) (by first | (simp [results, Tryz.results63, go_sem, y0, y1, y2, y3]; done) | (simp [results, Tryz.results63, go_sem, y0, y1, y2, y3]; done) | simp [results, Tryz.results63, go_sem]) rfl (optF_mks hR2.out xt)
end Go.Proofs.YtangdoidkcelfaaGreatDoor
namespace Go.Proofs.YtangdoidkcelfaaGreatDoor
open Go.RowKit
theorem optF_mkg {w w' : World} {R : Option Feat} {g : Feat} {ob : Bool} (hg : R.getD fD = g) (hob : R.isSome = ob) (h : Ext w w') : OptF R w (.returned (.tuple #[.agg #[.string g.name, .int .i64 g.kind, .int .i64 g.n, .string g.text], .bool ob])) w' := by subst hg; subst hob; exact ⟨rfl, h⟩
set_option maxRecDepth 8000 in
set_option maxHeartbeats 2000000 in
theorem val15 (l : List Feat) (S : Bool → ByteArray → Int → Int) (E : Nat) (nm tx : ByteArray) (n : Int) (bb off cp : Nat) (a : Ex) (r : List Ex) (w : World) (hk : Kid w l S E bb off a) (hr0 : 0 < r.length) (hr : r.length ≤ 100) (hcap : r.length + 1 ≤ cp) (kr : ∀ i, i < r.length → Kid w l S E bb (off + 5 + i * 5) (r.getD i exD)) (R : Option Feat) (hRn : a.ev l S = none → R = none) (hRs : ∀ f, a.ev l S = some f → R = Ex.ev.evIn l S f r) : Calls Tryz.prog 63 #[.pointer (some ⟨E, 0, none⟩), .agg #[.int .i64 15, .string nm, .string tx, .int .i64 n, .slice (some ⟨bb, off, none⟩) (r.length + 1) cp]] w (OptF R w) := by
 replace hRn := Lib.hid hRn
 replace hRs := Lib.hid hRs
 replace kr := Lib.hid kr
 have hE0 : Ext w w := Ext.refl w
 obtain ⟨qa, ca, hc, hP⟩ := hk
 obtain ⟨c0, c1, c2, c3, c4⟩ := hc.five
 have hbb : bb < w.heap.size := cell_lt c0
 have hbb1 : bb < w.heap.size + 1 := by omega
 replace hP := Lib.hid hP
 clear hc hE0
 go_enter Tryz.func63, Tryz.ntmps63
 go_wp2_with fail
 refine (hP.out _ xt).mono ?_
 intro e w1 h
 have hbz : Blk ((w.alloc (.cells #[.int .i64 15, .string nm, .string tx, .int .i64 n, .slice (some ⟨bb, off, none⟩) (r.length + 1) cp] 40)).alloc (.cells #[.string ⟨#[]⟩, .int .i64 0, .int .i64 0, .string ⟨#[]⟩] 62)) (w.heap.size + 1) #[.string ⟨#[]⟩, .int .i64 0, .int .i64 0, .string ⟨#[]⟩] 62 := Blk.new' _ _ _ _ (by simp)
 have hbx : Blk ((w.alloc (.cells #[.int .i64 15, .string nm, .string tx, .int .i64 n, .slice (some ⟨bb, off, none⟩) (r.length + 1) cp] 40)).alloc (.cells #[.string ⟨#[]⟩, .int .i64 0, .int .i64 0, .string ⟨#[]⟩] 62)) w.heap.size #[.int .i64 15, .string nm, .string tx, .int .i64 n, .slice (some ⟨bb, off, none⟩) (r.length + 1) cp] 40 := (Blk.new _ _ _).alloc _
 have hE : Ext w w1 := Ext.trans xt h.2
 replace hbz := Lib.hid (hbz.ext h.2)
 replace hbx := Lib.hid (hbx.ext h.2)
 obtain ⟨y0, y1, y2, y3⟩ : w1.cell? ⟨w.heap.size + 1, 0, none⟩ = some (.string ⟨#[]⟩) ∧ w1.cell? ⟨w.heap.size + 1, 1, none⟩ = some (.int .i64 0) ∧ w1.cell? ⟨w.heap.size + 1, 2, none⟩ = some (.int .i64 0) ∧ w1.cell? ⟨w.heap.size + 1, 3, none⟩ = some (.string ⟨#[]⟩) := by
  have h := hbz.out
  exact ⟨(h.cell 0).trans rfl, (h.cell 1).trans rfl, (h.cell 2).trans rfl, (h.cell 3).trans rfl⟩
 obtain ⟨f0, f1, f2, f3⟩ : w1.frozen? ⟨w.heap.size + 1, 0, none⟩ = false ∧ w1.frozen? ⟨w.heap.size + 1, 1, none⟩ = false ∧ w1.frozen? ⟨w.heap.size + 1, 2, none⟩ = false ∧ w1.frozen? ⟨w.heap.size + 1, 3, none⟩ = false := by
  have h := hbz.out
  exact ⟨h.fz 0, h.fz 1, h.fz 2, h.fz 3⟩
 obtain ⟨x0, x4⟩ : w1.cell? ⟨w.heap.size, 0, none⟩ = some (.int .i64 15) ∧ w1.cell? ⟨w.heap.size, 4, none⟩ = some (.slice (some ⟨bb, off, none⟩) (r.length + 1) cp) := by
  have h := hbx.out
  exact ⟨(h.cell 0).trans rfl, (h.cell 4).trans rfl⟩
 have hs0 : w.heap.size < w1.heap.size := cell_lt x0
 have hs1 : w.heap.size + 1 < w1.heap.size := cell_lt y0
 clear c0 c1 c2 c3 c4 hbb hbb1
 cases ho : a.ev l S with
 | none =>
  rw [ho] at h
  have hR2 := Lib.hid (hRn.out ho)
  obtain ⟨rfl, -⟩ := optF_none h
  clear h ho
  go_wp2
  exact bodyPost_ret (v := .tuple #[.agg #[.string ⟨#[]⟩, .int .i64 0, .int .i64 0, .string ⟨#[]⟩], .bool false]) (by first | (simp [results, Tryz.results63, go_sem, World.cell?_alloc_past, hs1, y0, y1, y2, y3]; done) | (simp [results, Tryz.results63, go_sem, y0, y1, y2, y3]; done) | simp [results, Tryz.results63, go_sem]) rfl (optF_mkn hR2.out xt)
 | some f =>
  rw [ho] at h
  obtain ⟨rfl, -⟩ := optF_some h
  clear h
  have hR := Lib.hid (hRs.out f ho)
  have hI := Lib.hid (fun w9 (h9 : Ext w w9) => in_any l S E bb (off + 5) (cp - 1) f r w9 (by omega) (fun i hi => (kr.out i hi).ext h9) R hR.out)
  clear ho hRs hRn
  go_wp2_with fail
  have hF := Lib.hid (Blk.new w1 #[.string f.name, .int .i64 f.kind, .int .i64 f.n, .string f.text] 62)
  have hE9 : Ext w1 (w1.alloc (.cells #[.string f.name, .int .i64 f.kind, .int .i64 f.n, .string f.text] 62)) := xt
  generalize w1.alloc (.cells #[.string f.name, .int .i64 f.kind, .int .i64 f.n, .string f.text] 62) = w9 at *
  have t0 : w9.cell? ⟨w1.heap.size, 0, none⟩ = some (.string f.name) := (hF.out.cell 0).trans rfl
  have t1 : w9.cell? ⟨w1.heap.size, 1, none⟩ = some (.int .i64 f.kind) := (hF.out.cell 1).trans rfl
  have t2 : w9.cell? ⟨w1.heap.size, 2, none⟩ = some (.int .i64 f.n) := (hF.out.cell 2).trans rfl
  have t3 : w9.cell? ⟨w1.heap.size, 3, none⟩ = some (.string f.text) := (hF.out.cell 3).trans rfl
  replace x4 := hE9.get x4
  have hne : ¬ w.heap.size + 1 = w1.heap.size := by omega
  have hne2 : ¬ w.heap.size = w1.heap.size := by omega
  clear y0 y1 y2 y3 f0 f1 f2 f3 hs1 x0 hs0
  replace hbz := Lib.hid (hbz.out.ext hE9)
  replace hE := hE.trans hE9
  have k1 : ¬ cp = 1 := by omega
  have k2 : 1 ≤ cp := by omega
  have k3 : r.length + 1 ≤ cp := hcap
  have k4 : (1 : Int) ≤ (r.length : Int) + 1 := by omega
  clear hE9 hF hbx hR hcap
  obtain ⟨g, hg⟩ : ∃ g, R.getD fD = g := ⟨_, rfl⟩
  obtain ⟨ob, hob⟩ : ∃ ob, R.isSome = ob := ⟨_, rfl⟩
  unfold OptF ftAgg at hI
  rw [hg, hob] at hI
  replace hg := Lib.hid hg
  replace hob := Lib.hid hob
  go_region_held3 (fun w' => w'.cell? ⟨w1.heap.size, 0, none⟩ = some (.string f.name) ∧ w'.cell? ⟨w1.heap.size, 1, none⟩ = some (.int .i64 f.kind) ∧ w'.cell? ⟨w1.heap.size, 2, none⟩ = some (.int .i64 f.n) ∧ w'.cell? ⟨w1.heap.size, 3, none⟩ = some (.string f.text) ∧ w'.cell? ⟨w.heap.size, 4, none⟩ = some (.slice (some ⟨bb, off, none⟩) (r.length + 1) cp)) (first | exact ⟨t0, t1, t2, t3, x4⟩ | exact ⟨(World.cell?_setCell_far _ _ _ _ (by first | (simp; done) | (simp; omega))).trans ((World.cell?_setCell_far _ _ _ _ (by first | (simp; done) | (simp; omega))).trans ((World.cell?_setCell_far _ _ _ _ (by first | (simp; done) | (simp; omega))).trans ((World.cell?_setCell_far _ _ _ _ (by first | (simp; done) | (simp; omega))).trans t0))), (World.cell?_setCell_far _ _ _ _ (by first | (simp; done) | (simp; omega))).trans ((World.cell?_setCell_far _ _ _ _ (by first | (simp; done) | (simp; omega))).trans ((World.cell?_setCell_far _ _ _ _ (by first | (simp; done) | (simp; omega))).trans ((World.cell?_setCell_far _ _ _ _ (by first | (simp; done) | (simp; omega))).trans t1))), (World.cell?_setCell_far _ _ _ _ (by first | (simp; done) | (simp; omega))).trans ((World.cell?_setCell_far _ _ _ _ (by first | (simp; done) | (simp; omega))).trans ((World.cell?_setCell_far _ _ _ _ (by first | (simp; done) | (simp; omega))).trans ((World.cell?_setCell_far _ _ _ _ (by first | (simp; done) | (simp; omega))).trans t2))), (World.cell?_setCell_far _ _ _ _ (by first | (simp; done) | (simp; omega))).trans ((World.cell?_setCell_far _ _ _ _ (by first | (simp; done) | (simp; omega))).trans ((World.cell?_setCell_far _ _ _ _ (by first | (simp; done) | (simp; omega))).trans ((World.cell?_setCell_far _ _ _ _ (by first | (simp; done) | (simp; omega))).trans t3))), (World.cell?_setCell_far _ _ _ _ (by first | (simp; done) | (simp; omega))).trans ((World.cell?_setCell_far _ _ _ _ (by first | (simp; done) | (simp; omega))).trans ((World.cell?_setCell_far _ _ _ _ (by first | (simp; done) | (simp; omega))).trans ((World.cell?_setCell_far _ _ _ _ (by first | (simp; done) | (simp; omega))).trans x4)))⟩) ((go_at_call 103; refine (hI.out _ hE.drew).mono ?_; rintro e w3 ⟨rfl, hE3⟩; have hS : Ext w9 w3 := Ext.trans (Ext.refl _).drew hE3; have t0 := hS.get t0; have t1 := hS.get t1; have t2 := hS.get t2; have t3 := hS.get t3; have x4 := hS.get x4; have hbz := Lib.hid (hbz.out.ext hS); have hE := hE.trans hS; have y0 : w3.cell? ⟨w.heap.size + 1, 0, none⟩ = some (.string ⟨#[]⟩) := (hbz.out.cell 0).trans rfl; have y1 : w3.cell? ⟨w.heap.size + 1, 1, none⟩ = some (.int .i64 0) := (hbz.out.cell 1).trans rfl; have y2 : w3.cell? ⟨w.heap.size + 1, 2, none⟩ = some (.int .i64 0) := (hbz.out.cell 2).trans rfl; have y3 : w3.cell? ⟨w.heap.size + 1, 3, none⟩ = some (.string ⟨#[]⟩) := (hbz.out.cell 3).trans rfl; have f0 := hbz.out.fz 0; have f1 := hbz.out.fz 1; have f2 := hbz.out.fz 2; have f3 := hbz.out.fz 3; clear hS hE3))
  all_goals go_wp2
  all_goals exact bodyPost_ret (v := .tuple #[.agg #[.string g.name, .int .i64 g.kind, .int .i64 g.n, .string g.text], .bool ob]) (by first | (simp [results, Tryz.results63, go_sem, y0, y1, y2, y3]; done) | simp [results, Tryz.results63, go_sem]) rfl (optF_mkg hg.out hob.out xt)
end Go.Proofs.YtangdoidkcelfaaGreatDoor
namespace Go.Proofs.YtangdoidkcelfaaGreatDoor
open Go.RowKit
theorem okN_map (m : Int) : (okN m).map numF = if nbrB m then some (numF m) else none := by
 unfold okN
 split <;> rfl
set_option maxHeartbeats 1000000 in
theorem value_any {w : World} {v : Value} {l0 : List Ex} (h : ExS w v l0) (l : List Feat) (S : Bool → ByteArray → Int → Int) (E b : Nat) (hc : w.cell? ⟨E, 0, none⟩ = some (.map (some b))) (hM : KM w b l) (hA : Asker w E S) (hN : namesE [] l = 0) :
 ∀ x : Ex, x.args = l0 → ∀ w', Ext w w' → x.formed = true → (x.ty l).2 = 0 → Calls Tryz.prog 63 #[.pointer (some ⟨E, 0, none⟩), exAgg x v] w' (OptF (x.ev l S) w') := by
 refine ExS.ind (P := fun x v => ∀ w', Ext w w' → x.formed = true → (x.ty l).2 = 0 → Calls Tryz.prog 63 #[.pointer (some ⟨E, 0, none⟩), exAgg x v] w' (OptF (x.ev l S) w')) ?_ h
 clear h
 intro x v hS hK w' hE hf ht
 obtain ⟨op, nm, tx, n, args⟩ := x
 obtain ⟨q, cp, rfl⟩ := hS.form
 simp only [Ex.args] at hS hK ⊢
 rw [formed_eq] at hf
 simp only [Bool.and_eq_true, List.all_eq_true] at hf
 obtain ⟨hfv, hfa⟩ := hf
 obtain ⟨hta, fk, hfk, hb, -⟩ := ty_inv ht
 have hty : ∀ a ∈ args, ∀ f, a.ev l S = some f → WellF (a.ty l).1 f := fun a ha f hv => ev_typed l hN S a (hfa a ha) (hta a ha) f hv
 have hkid : 0 < args.length → ∃ bb off, q = some ⟨bb, off, none⟩ ∧ ∀ i, i < args.length → Kid w' l S E bb (off + i * 5) (args.getD i exD) := by
  intro h0
  obtain ⟨bb, off, rfl, sv, hk⟩ := hK _ _ rfl h0
  refine ⟨bb, off, rfl, fun i hi => ?_⟩
  obtain ⟨h1, h2, h3⟩ := hk i hi
  obtain ⟨qi, ci, hform⟩ := h2.form
  have hmem : args.getD i exD ∈ args := by
   rw [List.getD_eq_getElem?_getD, List.getElem?_eq_getElem hi, Option.getD_some]
   exact List.getElem_mem hi
  rw [hform] at h1 h3
  exact ⟨qi, ci, h1.ext hE, fun w2 hE2 => h3 w2 (hE.trans hE2) (hfa _ hmem) (hta _ hmem)⟩
 rw [exAgg_mk]
 rcases fv_cut hfv with ⟨ho, hl⟩ | ⟨ho, hl⟩ | ⟨⟨ho, ho'⟩, hl⟩ | ⟨ho, hl, hl'⟩
 · obtain rfl := List.length_eq_zero_iff.1 hl
   rcases ho with rfl | rfl | rfl | rfl | rfl
   · exact val1 E nm tx n q 0 cp w' _ (by rw [ev_mk]; simp [evOp])
   · exact val2 E nm tx n q 0 cp w' _ (by rw [ev_mk]; simp [evOp])
   · exact val3 l E b nm tx n q 0 cp w' (hE.get hc) (hM.ext hE) (by have := fv_name hfv; omega) _ (by rw [ev_mk]; simp [evOp])
   · exact val16 S E nm tx n q 0 cp w' (hA.ext hE) (fv_name hfv) _ (by rw [ev_mk, okN_map]; simp [evOp])
   · exact val17 S E nm tx n q 0 cp w' (hA.ext hE) (fv_name hfv) _ (by rw [ev_mk, okN_map]; simp [evOp])
 · obtain ⟨a, rfl⟩ := len1 hl
   obtain ⟨bb, off, rfl, hk⟩ := hkid (by simp)
   have k0 : Kid w' l S E bb off a := hk 0 (by simp)
   simp only [List.map_cons, List.map_nil] at hb
   rcases byK_one ho hb with ⟨rfl, e1, -⟩ | ⟨rfl, e1, -⟩
   · exact val4 l S E nm tx n bb off cp a w' k0 _ (fun h => by rw [ev_one (Or.inl rfl), h]) (fun f h => by rw [ev_one (Or.inl rfl), h]; simp)
   · refine val5 l S E nm tx n bb off cp a w' k0 _ (fun h => by rw [ev_one (Or.inr rfl), h]) (fun f h => ⟨by rw [ev_one (Or.inr rfl), h]; simp, ?_⟩)
     have hw := hty a (by simp) f h
     rw [e1] at hw
     rcases hw.2.2 with h | h | h
     · exact h.2.1
     · exact absurd h.1 (by omega)
     · exact absurd h.1 (by omega)
 · obtain ⟨a, c, rfl⟩ := len2 hl
   obtain ⟨bb, off, rfl, hk⟩ := hkid (by simp)
   have k0 : Kid w' l S E bb off a := hk 0 (by simp)
   have k1 : Kid w' l S E bb (off + 5) c := hk 1 (by simp)
   simp only [List.map_cons, List.map_nil] at hb
   have hn : ∀ f g, a.ev l S = some f → c.ev l S = some g → op = 12 ∨ op = 13 ∨ op = 14 → nbrB f.n = true ∧ nbrB g.n = true := by
    intro f g h1 h2 h3
    have w1 := hty a (by simp) f h1
    have w2 := hty c (by simp) g h2
    rcases byK_two ho ho' hb with ⟨h, _⟩ | ⟨h, _⟩ | ⟨h, _⟩ | ⟨h, e1, e2, _⟩
    · omega
    · omega
    · omega
    · rw [e1] at w1
      rw [e2] at w2
      refine ⟨?_, ?_⟩
      · rcases w1.2.2 with h | h | h
        · exact h.2.1
        · exact absurd h.1 (by omega)
        · exact absurd h.1 (by omega)
      · rcases w2.2.2 with h | h | h
        · exact h.2.1
        · exact absurd h.1 (by omega)
        · exact absurd h.1 (by omega)
   have r1 : a.ev l S = none → (Ex.mk op nm tx n [a, c]).ev l S = none := fun h => by rw [ev_two ho ho', h]
   have r2 : ∀ f, a.ev l S = some f → ((op = 6 ∧ f.n = 0) ∨ (op = 7 ∧ f.n = 1)) → (Ex.mk op nm tx n [a, c]).ev l S = some f := fun f h hc => by rw [ev_two ho ho', h]; simp only [if_pos hc]
   have r3 : ∀ f, a.ev l S = some f → ¬ ((op = 6 ∧ f.n = 0) ∨ (op = 7 ∧ f.n = 1)) → c.ev l S = none → (Ex.mk op nm tx n [a, c]).ev l S = none := fun f h hc h2 => by rw [ev_two ho ho', h]; simp only [if_neg hc, h2]
   have r4 : ∀ f g, a.ev l S = some f → ¬ ((op = 6 ∧ f.n = 0) ∨ (op = 7 ∧ f.n = 1)) → c.ev l S = some g → (Ex.mk op nm tx n [a, c]).ev l S = comb op f g := fun f g h hc h2 => by rw [ev_two ho ho', h]; simp only [if_neg hc, h2]
   by_cases h6 : op = 6
   · subst h6
     exact val6 l S E nm tx n bb off cp a c w' k0 k1 _ r1 r2 r3 r4 hn
   · by_cases h7 : op = 7
     · subst h7
       exact val7 l S E nm tx n bb off cp a c w' k0 k1 _ r1 r2 r3 r4 hn
     · exact valx l S E op (by omega) ho' nm tx n bb off cp a c w' k0 k1 _ r1 r2 r3 r4 hn
 · subst ho
   cases args with
   | nil => simp at hl
   | cons a r =>
    obtain ⟨bb, off, rfl, hk⟩ := hkid (by simp)
    have k0 : Kid w' l S E bb off a := hk 0 (by simp)
    have hcap := hS.cap (by simp)
    simp only [List.length_cons] at hcap hl hl'
    refine val15 l S E nm tx n bb off cp a r w' k0 (by omega) (by omega) hcap (fun i hi => ?_) _ (fun h => by rw [ev_in, h]) (fun f h => by rw [ev_in, h])
    have := hk (i + 1) (by simp; omega)
    rw [show off + 5 + i * 5 = off + (i + 1) * 5 by omega]
    exact this
theorem checkV_ok {x : Ex} {l : List Feat} (h : (checkV x l).2 = 0) : namesE [] l = 0 ∧ x.levels ≤ 8 ∧ x.formed = true ∧ (x.ty l).2 = 0 := by
 unfold checkV at h
 by_cases h1 : namesE [] l ≠ 0
 · rw [if_pos h1] at h; exact absurd h h1
 · rw [if_neg h1] at h
   by_cases h2 : 8 < x.levels
   · rw [if_pos h2] at h; cases h
   · rw [if_neg h2] at h
     by_cases h3 : x.formed = false
     · rw [if_pos h3] at h; cases h
     · rw [if_neg h3] at h
       exact ⟨by omega, by omega, by simpa using h3, h⟩
def EvalPost (r : Feat × Int) (w : World) (e : Ending) (w' : World) : Prop := e = .returned (.tuple #[.agg #[.string r.1.name, .int .i64 r.1.kind, .int .i64 r.1.n, .string r.1.text], .int .i64 r.2]) ∧ Ext w w'
theorem evalP {w w' : World} {R : Feat × Int} {f : Feat} {c : Int} (hR : R = (f, c)) (h : Ext w w') : EvalPost R w (.returned (.tuple #[.agg #[.string f.name, .int .i64 f.kind, .int .i64 f.n, .string f.text], .int .i64 c])) w' := by subst hR; exact ⟨rfl, h⟩
set_option maxRecDepth 8000 in
set_option maxHeartbeats 2000000 in
theorem eval_nil {w : World} {v : Value} (x : Ex) (hS : ExS w v x.args) (fv : Value) (l : List Feat) (hF : Feats w fv l) (S : Bool → ByteArray → Int → Int) (hA : ∀ w1 E, Ext w w1 → w1.cell? ⟨E, 1, none⟩ = some (.nilIface) → Asker w1 E S) : Calls Tryz.prog 42 #[exAgg x v, fv, .nilIface] w (EvalPost (evalV x l S) w) := by
 obtain ⟨q, cp, rfl⟩ := hS.form
 obtain ⟨op, nm, tx, n, args⟩ := x
 simp only [Ex.args] at hS
 replace hS := Lib.hid hS
 replace hF := Lib.hid hF
 replace hA := Lib.hid hA
 obtain ⟨R, hR⟩ : ∃ R, R = evalV (.mk op nm tx n args) l S := ⟨_, rfl⟩
 rw [← hR]
 unfold evalV at hR
 have hC := Lib.hid (fun w1 (h : Ext w w1) => check_any (.mk op nm tx n args) (hS.out.ext h) fv l (hF.out.ext h))
 have hck := Lib.hid (checkV_ok (x := .mk op nm tx n args) (l := l))
 generalize hcv : checkV (.mk op nm tx n args) l = C at *
 obtain ⟨C1, C2⟩ := C
 unfold TyPost at hC
 simp only at hR hck hC
 replace hR := Lib.hid hR
 clear hcv
 rw [exAgg_mk]
 simp only [exAgg_mk, Ex.args] at hC ⊢
 go_enter Tryz.func42, Tryz.ntmps42
 go_wp2_with fail
 refine (hC.out _ xt).mono ?_
 rintro e w1 ⟨rfl, hE1⟩
 have hbz : Blk ((w.alloc (.cells #[.int .i64 op, .string nm, .string tx, .int .i64 n, .slice q args.length cp] 40)).alloc (.cells #[.string ⟨#[]⟩, .int .i64 0, .int .i64 0, .string ⟨#[]⟩] 62)) (w.heap.size + 1) #[.string ⟨#[]⟩, .int .i64 0, .int .i64 0, .string ⟨#[]⟩] 62 := Blk.new' _ _ _ _ (by simp)
 have hbx : Blk ((w.alloc (.cells #[.int .i64 op, .string nm, .string tx, .int .i64 n, .slice q args.length cp] 40)).alloc (.cells #[.string ⟨#[]⟩, .int .i64 0, .int .i64 0, .string ⟨#[]⟩] 62)) w.heap.size #[.int .i64 op, .string nm, .string tx, .int .i64 n, .slice q args.length cp] 40 := (Blk.new _ _ _).alloc _
 replace hbz := Lib.hid (hbz.ext hE1)
 replace hbx := Lib.hid (hbx.ext hE1)
 have hE : Ext w w1 := Ext.trans xt hE1
 clear hE1 hC
 by_cases h0 : C2 = 0
 · subst h0
   obtain ⟨hn0, -, hfm, hty⟩ := hck.out rfl
   replace hn0 := Lib.hid hn0
   replace hfm := Lib.hid hfm
   replace hty := Lib.hid hty
   clear hck
   go_wp2_with fail
   refine (names_any _ fv l (hF.out.ext hE)).mono ?_
   rintro e w2 ⟨hE2, h⟩
   replace hbz := Lib.hid (hbz.out.ext hE2)
   replace hbx := Lib.hid (hbx.out.ext hE2)
   replace hE := hE.trans hE2
   clear hE2
   rcases h with ⟨-, b, rfl, hbb, hM⟩ | ⟨hne, -⟩
   · replace hM := Lib.hid hM
     clear hbb
     have hE9 : Ext w (w2.alloc (.cells #[.map (some b), .nilIface] 130)) := hE.alloc _
     have x0 : w2.cell? ⟨w.heap.size, 0, none⟩ = some (.int .i64 op) := (hbx.out.cell 0).trans rfl
     have x1 : w2.cell? ⟨w.heap.size, 1, none⟩ = some (.string nm) := (hbx.out.cell 1).trans rfl
     have x2 : w2.cell? ⟨w.heap.size, 2, none⟩ = some (.string tx) := (hbx.out.cell 2).trans rfl
     have x3 : w2.cell? ⟨w.heap.size, 3, none⟩ = some (.int .i64 n) := (hbx.out.cell 3).trans rfl
     have x4 : w2.cell? ⟨w.heap.size, 4, none⟩ = some (.slice q args.length cp) := (hbx.out.cell 4).trans rfl
     have hs0 : w.heap.size < w2.heap.size := cell_lt x0
     have hbe := Blk.new w2 #[.map (some b), .nilIface] 130
     have hV := Lib.hid (value_any (hS.out.ext hE9) l S w2.heap.size b ((hbe.cell 0).trans rfl) (hM.out.ext ((Ext.refl _).alloc _)) (hA.out _ _ hE9 ((hbe.cell 1).trans rfl)) hn0.out (.mk op nm tx n args) rfl _ (Ext.refl _) hfm.out hty.out)
     replace hE9 := Lib.hid hE9
     clear hbe
     rw [if_neg (by simp)] at hR
     generalize (Ex.mk op nm tx n args).ev l S = O at *
     simp only [exAgg_mk] at hV
     go_wp2_with fail
     refine hV.out.mono ?_
     intro e w3 h
     replace hbz := Lib.hid (hbz.out.ext (Ext.trans ((Ext.refl _).alloc _) h.2))
     replace hE : Ext w w3 := hE9.out.trans h.2
     have y0 : w3.cell? ⟨w.heap.size + 1, 0, none⟩ = some (.string ⟨#[]⟩) := (hbz.out.cell 0).trans rfl
     have y1 : w3.cell? ⟨w.heap.size + 1, 1, none⟩ = some (.int .i64 0) := (hbz.out.cell 1).trans rfl
     have y2 : w3.cell? ⟨w.heap.size + 1, 2, none⟩ = some (.int .i64 0) := (hbz.out.cell 2).trans rfl
     have y3 : w3.cell? ⟨w.heap.size + 1, 3, none⟩ = some (.string ⟨#[]⟩) := (hbz.out.cell 3).trans rfl
     have f0 := hbz.out.fz 0
     have f1 := hbz.out.fz 1
     have f2 := hbz.out.fz 2
     have f3 := hbz.out.fz 3
     have hs1 : w.heap.size + 1 < w3.heap.size := cell_lt y0
     clear x0 x1 x2 x3 x4 hs0
     cases O with
     | none =>
      obtain ⟨rfl, -⟩ := optF_none h
      clear h hV
      go_wp2
      exact bodyPost_ret (v := .tuple #[.agg #[.string ⟨#[]⟩, .int .i64 0, .int .i64 0, .string ⟨#[]⟩], .int .i64 4]) (by first | (simp [results, Tryz.results42, go_sem, World.cell?_alloc_past, hs1, y0, y1, y2, y3]; done) | (simp [results, Tryz.results42, go_sem, y0, y1, y2, y3]; done) | simp [results, Tryz.results42, go_sem]) rfl (evalP (f := fD) hR.out xt)
     | some f =>
      obtain ⟨rfl, -⟩ := optF_some h
      clear h hV
      go_wp2
      exact bodyPost_ret (v := .tuple #[.agg #[.string f.name, .int .i64 f.kind, .int .i64 f.n, .string f.text], .int .i64 0]) (by first | (simp [results, Tryz.results42, go_sem, World.cell?_alloc_past, hs1, y0, y1, y2, y3]; done) | (simp [results, Tryz.results42, go_sem, y0, y1, y2, y3]; done) | simp [results, Tryz.results42, go_sem]) rfl (evalP hR.out xt)
   · exact absurd hn0.out hne
 · have d1 : (C2 != 0) = true := by simpa using h0
   replace hR := Lib.hid (hR.out.trans (if_pos h0))
   have y0 : w1.cell? ⟨w.heap.size + 1, 0, none⟩ = some (.string ⟨#[]⟩) := (hbz.out.cell 0).trans rfl
   have y1 : w1.cell? ⟨w.heap.size + 1, 1, none⟩ = some (.int .i64 0) := (hbz.out.cell 1).trans rfl
   have y2 : w1.cell? ⟨w.heap.size + 1, 2, none⟩ = some (.int .i64 0) := (hbz.out.cell 2).trans rfl
   have y3 : w1.cell? ⟨w.heap.size + 1, 3, none⟩ = some (.string ⟨#[]⟩) := (hbz.out.cell 3).trans rfl
   have f0 := hbz.out.fz 0
   have f1 := hbz.out.fz 1
   have f2 := hbz.out.fz 2
   have f3 := hbz.out.fz 3
   clear h0 hck hbz hbx
   go_wp2
   exact bodyPost_ret (v := .tuple #[.agg #[.string ⟨#[]⟩, .int .i64 0, .int .i64 0, .string ⟨#[]⟩], .int .i64 C2]) (by first | (simp [results, Tryz.results42, go_sem, y0, y1, y2, y3]; done) | simp [results, Tryz.results42, go_sem]) rfl (evalP (f := fD) hR.out xt)
set_option maxRecDepth 8000 in
set_option maxHeartbeats 2000000 in
theorem eval_src (T : TypeId) (u : Value) {w : World} {v : Value} (x : Ex) (hS : ExS w v x.args) (fv : Value) (l : List Feat) (hF : Feats w fv l) (S : Bool → ByteArray → Int → Int) (hA : ∀ w1 E, Ext w w1 → w1.cell? ⟨E, 1, none⟩ = some (.iface T u) → Asker w1 E S) : Calls Tryz.prog 42 #[exAgg x v, fv, .iface T u] w (EvalPost (evalV x l S) w) := by
 obtain ⟨q, cp, rfl⟩ := hS.form
 obtain ⟨op, nm, tx, n, args⟩ := x
 simp only [Ex.args] at hS
 replace hS := Lib.hid hS
 replace hF := Lib.hid hF
 replace hA := Lib.hid hA
 obtain ⟨R, hR⟩ : ∃ R, R = evalV (.mk op nm tx n args) l S := ⟨_, rfl⟩
 rw [← hR]
 unfold evalV at hR
 have hC := Lib.hid (fun w1 (h : Ext w w1) => check_any (.mk op nm tx n args) (hS.out.ext h) fv l (hF.out.ext h))
 have hck := Lib.hid (checkV_ok (x := .mk op nm tx n args) (l := l))
 generalize hcv : checkV (.mk op nm tx n args) l = C at *
 obtain ⟨C1, C2⟩ := C
 unfold TyPost at hC
 simp only at hR hck hC
 replace hR := Lib.hid hR
 clear hcv
 rw [exAgg_mk]
 simp only [exAgg_mk, Ex.args] at hC ⊢
 go_enter Tryz.func42, Tryz.ntmps42
 go_wp2_with fail
 refine (hC.out _ xt).mono ?_
 rintro e w1 ⟨rfl, hE1⟩
 have hbz : Blk ((w.alloc (.cells #[.int .i64 op, .string nm, .string tx, .int .i64 n, .slice q args.length cp] 40)).alloc (.cells #[.string ⟨#[]⟩, .int .i64 0, .int .i64 0, .string ⟨#[]⟩] 62)) (w.heap.size + 1) #[.string ⟨#[]⟩, .int .i64 0, .int .i64 0, .string ⟨#[]⟩] 62 := Blk.new' _ _ _ _ (by simp)
 have hbx : Blk ((w.alloc (.cells #[.int .i64 op, .string nm, .string tx, .int .i64 n, .slice q args.length cp] 40)).alloc (.cells #[.string ⟨#[]⟩, .int .i64 0, .int .i64 0, .string ⟨#[]⟩] 62)) w.heap.size #[.int .i64 op, .string nm, .string tx, .int .i64 n, .slice q args.length cp] 40 := (Blk.new _ _ _).alloc _
 replace hbz := Lib.hid (hbz.ext hE1)
 replace hbx := Lib.hid (hbx.ext hE1)
 have hE : Ext w w1 := Ext.trans xt hE1
 clear hE1 hC
 by_cases h0 : C2 = 0
 · subst h0
   obtain ⟨hn0, -, hfm, hty⟩ := hck.out rfl
   replace hn0 := Lib.hid hn0
   replace hfm := Lib.hid hfm
   replace hty := Lib.hid hty
   clear hck
   go_wp2_with fail
   refine (names_any _ fv l (hF.out.ext hE)).mono ?_
   rintro e w2 ⟨hE2, h⟩
   replace hbz := Lib.hid (hbz.out.ext hE2)
   replace hbx := Lib.hid (hbx.out.ext hE2)
   replace hE := hE.trans hE2
   clear hE2
   rcases h with ⟨-, b, rfl, hbb, hM⟩ | ⟨hne, -⟩
   · replace hM := Lib.hid hM
     clear hbb
     have hE9 : Ext w (w2.alloc (.cells #[.map (some b), .iface T u] 130)) := hE.alloc _
     have x0 : w2.cell? ⟨w.heap.size, 0, none⟩ = some (.int .i64 op) := (hbx.out.cell 0).trans rfl
     have x1 : w2.cell? ⟨w.heap.size, 1, none⟩ = some (.string nm) := (hbx.out.cell 1).trans rfl
     have x2 : w2.cell? ⟨w.heap.size, 2, none⟩ = some (.string tx) := (hbx.out.cell 2).trans rfl
     have x3 : w2.cell? ⟨w.heap.size, 3, none⟩ = some (.int .i64 n) := (hbx.out.cell 3).trans rfl
     have x4 : w2.cell? ⟨w.heap.size, 4, none⟩ = some (.slice q args.length cp) := (hbx.out.cell 4).trans rfl
     have hs0 : w.heap.size < w2.heap.size := cell_lt x0
     have hbe := Blk.new w2 #[.map (some b), .iface T u] 130
     have hV := Lib.hid (value_any (hS.out.ext hE9) l S w2.heap.size b ((hbe.cell 0).trans rfl) (hM.out.ext ((Ext.refl _).alloc _)) (hA.out _ _ hE9 ((hbe.cell 1).trans rfl)) hn0.out (.mk op nm tx n args) rfl _ (Ext.refl _) hfm.out hty.out)
     replace hE9 := Lib.hid hE9
     clear hbe
     rw [if_neg (by simp)] at hR
     generalize (Ex.mk op nm tx n args).ev l S = O at *
     simp only [exAgg_mk] at hV
     go_wp2_with fail
     refine hV.out.mono ?_
     intro e w3 h
     replace hbz := Lib.hid (hbz.out.ext (Ext.trans ((Ext.refl _).alloc _) h.2))
     replace hE : Ext w w3 := hE9.out.trans h.2
     have y0 : w3.cell? ⟨w.heap.size + 1, 0, none⟩ = some (.string ⟨#[]⟩) := (hbz.out.cell 0).trans rfl
     have y1 : w3.cell? ⟨w.heap.size + 1, 1, none⟩ = some (.int .i64 0) := (hbz.out.cell 1).trans rfl
     have y2 : w3.cell? ⟨w.heap.size + 1, 2, none⟩ = some (.int .i64 0) := (hbz.out.cell 2).trans rfl
     have y3 : w3.cell? ⟨w.heap.size + 1, 3, none⟩ = some (.string ⟨#[]⟩) := (hbz.out.cell 3).trans rfl
     have f0 := hbz.out.fz 0
     have f1 := hbz.out.fz 1
     have f2 := hbz.out.fz 2
     have f3 := hbz.out.fz 3
     have hs1 : w.heap.size + 1 < w3.heap.size := cell_lt y0
     clear x0 x1 x2 x3 x4 hs0
     cases O with
     | none =>
      obtain ⟨rfl, -⟩ := optF_none h
      clear h hV
      go_wp2
      exact bodyPost_ret (v := .tuple #[.agg #[.string ⟨#[]⟩, .int .i64 0, .int .i64 0, .string ⟨#[]⟩], .int .i64 4]) (by first | (simp [results, Tryz.results42, go_sem, World.cell?_alloc_past, hs1, y0, y1, y2, y3]; done) | (simp [results, Tryz.results42, go_sem, y0, y1, y2, y3]; done) | simp [results, Tryz.results42, go_sem]) rfl (evalP (f := fD) hR.out xt)
     | some f =>
      obtain ⟨rfl, -⟩ := optF_some h
      clear h hV
      go_wp2
      exact bodyPost_ret (v := .tuple #[.agg #[.string f.name, .int .i64 f.kind, .int .i64 f.n, .string f.text], .int .i64 0]) (by first | (simp [results, Tryz.results42, go_sem, World.cell?_alloc_past, hs1, y0, y1, y2, y3]; done) | (simp [results, Tryz.results42, go_sem, y0, y1, y2, y3]; done) | simp [results, Tryz.results42, go_sem]) rfl (evalP hR.out xt)
   · exact absurd hn0.out hne
 · have d1 : (C2 != 0) = true := by simpa using h0
   replace hR := Lib.hid (hR.out.trans (if_pos h0))
   have y0 : w1.cell? ⟨w.heap.size + 1, 0, none⟩ = some (.string ⟨#[]⟩) := (hbz.out.cell 0).trans rfl
   have y1 : w1.cell? ⟨w.heap.size + 1, 1, none⟩ = some (.int .i64 0) := (hbz.out.cell 1).trans rfl
   have y2 : w1.cell? ⟨w.heap.size + 1, 2, none⟩ = some (.int .i64 0) := (hbz.out.cell 2).trans rfl
   have y3 : w1.cell? ⟨w.heap.size + 1, 3, none⟩ = some (.string ⟨#[]⟩) := (hbz.out.cell 3).trans rfl
   have f0 := hbz.out.fz 0
   have f1 := hbz.out.fz 1
   have f2 := hbz.out.fz 2
   have f3 := hbz.out.fz 3
   clear h0 hck hbz hbx
   go_wp2
   exact bodyPost_ret (v := .tuple #[.agg #[.string ⟨#[]⟩, .int .i64 0, .int .i64 0, .string ⟨#[]⟩], .int .i64 C2]) (by first | (simp [results, Tryz.results42, go_sem, y0, y1, y2, y3]; done) | simp [results, Tryz.results42, go_sem]) rfl (evalP (f := fD) hR.out xt)
end Go.Proofs.YtangdoidkcelfaaGreatDoor
