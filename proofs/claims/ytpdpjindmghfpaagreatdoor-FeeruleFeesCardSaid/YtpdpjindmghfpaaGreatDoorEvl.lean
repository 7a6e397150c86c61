/- Contracts of feature, in, value (walks; printed by gen/val.py). -/
import Derived.Test.YtpdpjindmghfpaaGreatDoorEas
import Derived.Test.YtpdpjindmghfpaaGreatDoorEcb
import Derived.StillTailTactics
namespace Go.Proofs.YtpdpjindmghfpaaGreatDoor
open Go.RowKit
theorem wpList_lookF1 {w : World} {ops : Array Oper} {rest : List Oper} {o : Oper} {a : Act} {Q : Exit → Act → World → Prop} {b : Nat} {l : List Feat}
    (hg : o.guard = none) (m x : Operand) (hop : o.op = Op.lookup 85 m x false) (hm : a.eval m = .map (some b)) (hk : KM w b l) (nm : ByteArray) (hx : a.eval x = .string nm) (hs : nm.size ≤ 1000000) (f : Feat) (hr : (findN l nm).getD fD = f)
    (hK : wpList Tryz.prog ops Q rest (a.put o.dst (.agg #[.string f.name, .int .i64 f.kind, .int .i64 f.n, .string f.text])) w) :
    wpList Tryz.prog ops Q (o :: rest) a w := by
  refine wpList_plain hg fun K' hK' => ?_
  subst hr
  have hrun := hk.look1 nm hs
  unfold ftAgg at hrun
  unfold Oper.wp
  simp [execOp, hop, hm, hx, hrun, Result.andThen]
  exact hK' _ _ hK
theorem featOf_eq (l : List Feat) (nm : ByteArray) (f : Feat) (h : (findN l nm).getD fD = f) : featOf l nm = if f.kind = 2 then txtF f.text else ⟨emS, f.kind, f.n, emS⟩ := by
  unfold featOf
  cases hf : findN l nm with
  | none => rw [hf] at h; subst h; rfl
  | some g => rw [hf] at h; subst h; rfl
set_option maxRecDepth 8000 in
set_option maxHeartbeats 1000000 in
theorem feature_any (E b : Nat) (l : List Feat) (nm : ByteArray) (w : World) (hc : w.cell? ⟨E, 0, none⟩ = some (.map (some b))) (hM : KM w b l) (hs : nm.size ≤ 1000000) : Calls Tryz.prog 93 #[.pointer (some ⟨E, 0, none⟩), .string nm] w (OneV (ftAgg (featOf l nm)) w) := by
  have hE : E < w.heap.size := cell_lt hc
  replace hM := Lib.hid hM
  obtain ⟨f, hf⟩ : ∃ f, (findN l nm).getD fD = f := ⟨_, rfl⟩
  have hV := Lib.hid (featOf_eq l nm f hf)
  replace hf := Lib.hid hf
  generalize featOf l nm = R at *
  by_cases h2 : f.kind = 2
  · have g2 : (f.kind == 2) = true := by simp [h2]
    have hR := Lib.hid (hV.out.trans (if_pos h2))
    clear hV h2
    go_enter Tryz.func93, Tryz.ntmps93
    go_wp2_with (at_lookup; refine wpList_lookF1 rfl _ _ rfl rfl (hM.out.ext ((Ext.refl _).alloc _)) nm rfl (by omega) f hf.out ?_)
    exact bodyPost_ret (v := .agg #[.string ⟨#[]⟩, .int .i64 2, .int .i64 0, .string f.text]) (by simp [results, Tryz.results93, go_sem]) rfl ⟨by rw [hR.out]; rfl, (by repeat (first | with_reducible exact Ext.refl _ | with_reducible exact hE0 | with_reducible exact hE | with_reducible refine Ext.alloc ?_ _ | with_reducible refine Ext.drewN ?_ _ | with_reducible refine Ext.drew ?_ | ((with_reducible refine Ext.setCell ?_ ?side _); (case side => first | exact Nat.le_refl _ | (simp; done) | (simp; omega)))))⟩
  · have g2 : (f.kind == 2) = false := by simp [h2]
    have hR := Lib.hid (hV.out.trans (if_neg h2))
    clear hV h2
    go_enter Tryz.func93, Tryz.ntmps93
    go_wp2_with (at_lookup; refine wpList_lookF1 rfl _ _ rfl rfl (hM.out.ext ((Ext.refl _).alloc _)) nm rfl (by omega) f hf.out ?_)
    exact bodyPost_ret (v := .agg #[.string ⟨#[]⟩, .int .i64 f.kind, .int .i64 f.n, .string ⟨#[]⟩]) (by simp [results, Tryz.results93, go_sem]) rfl ⟨by rw [hR.out]; rfl, (by repeat (first | with_reducible exact Ext.refl _ | with_reducible exact hE0 | with_reducible exact hE | with_reducible refine Ext.alloc ?_ _ | with_reducible refine Ext.drewN ?_ _ | with_reducible refine Ext.drew ?_ | ((with_reducible refine Ext.setCell ?_ ?side _); (case side => first | exact Nat.le_refl _ | (simp; done) | (simp; omega)))))⟩
/-- An argument in memory, and what value makes of it. -/
def Kid (w : World) (l : List Feat) (S : Bool → ByteArray → Int → Int) (E bb o : Nat) (y : Ex) : Prop :=
  ∃ q c, ExCells w bb o y (.slice q y.args.length c) ∧ ∀ w', Ext w w' → Calls Tryz.prog 69 #[.pointer (some ⟨E, 0, none⟩), .agg #[.int .i64 y.op, .string y.name, .string y.text, .int .i64 y.n, .slice q y.args.length c]] w' (OptF (y.ev l S) w')
theorem Kid.ext {w w' : World} {l : List Feat} {S : Bool → ByteArray → Int → Int} {E bb o : Nat} {y : Ex} (h : Kid w l S E bb o y) (k : Ext w w') : Kid w' l S E bb o y := by
  obtain ⟨q, c, h1, h2⟩ := h
  exact ⟨q, c, h1.ext k, fun w2 h => h2 w2 (k.trans h)⟩
theorem optF_none {w w' : World} {e : Ending} (h : OptF none w e w') : e = .returned (.tuple #[.agg #[.string ⟨#[]⟩, .int .i64 0, .int .i64 0, .string ⟨#[]⟩], .bool false]) ∧ Ext w w' := h
theorem optF_some {w w' : World} {e : Ending} {f : Feat} (h : OptF (some f) w e w') : e = .returned (.tuple #[.agg #[.string f.name, .int .i64 f.kind, .int .i64 f.n, .string f.text], .bool true]) ∧ Ext w w' := h
theorem optF_mkn {w w' : World} {R : Option Feat} (hR : R = none) (h : Ext w w') : OptF R w (.returned (.tuple #[.agg #[.string ⟨#[]⟩, .int .i64 0, .int .i64 0, .string ⟨#[]⟩], .bool false])) w' := by subst hR; exact ⟨rfl, h⟩
theorem optF_mks {w w' : World} {R : Option Feat} {f : Feat} (hR : R = some f) (h : Ext w w') : OptF R w (.returned (.tuple #[.agg #[.string f.name, .int .i64 f.kind, .int .i64 f.n, .string f.text], .bool true])) w' := by subst hR; exact ⟨rfl, h⟩
theorem featEq (a b : Feat) (w : World) : (binOp .eql 43 (.agg #[.string a.name, .int .i64 a.kind, .int .i64 a.n, .string a.text]) (.agg #[.string b.name, .int .i64 b.kind, .int .i64 b.n, .string b.text])).run Tryz.prog w = .ok (.bool (decide (a = b))) w := by
  rcases feat_cases a b with h | ⟨hne, h⟩
  · subst h
    rw [decide_eq_true rfl]
    go_simp
  · rw [decide_eq_false hne]
    obtain ⟨an, ak, am, at'⟩ := a
    obtain ⟨bn, bk, bm, bt⟩ := b
    simp only at h ⊢
    rcases h with h | ⟨e1, h⟩ | ⟨e1, e2, h⟩ | ⟨e1, e2, e3, h⟩
    · have g := bytes_ne h
      go_simp
    · have g : (ak == bk) = false := by simp [h]
      subst e1
      go_simp
    · have g : (am == bm) = false := by simp [h]
      subst e1
      subst e2
      go_simp
    · have g := bytes_ne h
      subst e1
      subst e2
      subst e3
      go_simp
theorem evIn_step (l : List Feat) (S : Bool → ByteArray → Int → Int) (first : Feat) (r : List Ex) (k : Nat) (h : k < r.length) : Ex.ev.evIn l S first (r.drop k) = match (r.getD k exD).ev l S with | none => none | some v => if v = first then some (truthF true) else Ex.ev.evIn l S first (r.drop (k + 1)) := by
  have hg : r.getD k exD = r[k] := by rw [List.getD_eq_getElem?_getD, List.getElem?_eq_getElem h, Option.getD_some]
  rw [hg, List.drop_eq_getElem_cons h]
  unfold Ex.ev.evIn
  rw [List.map_cons]
  cases r[k].ev l S <;> rfl
set_option maxRecDepth 8000 in
set_option maxHeartbeats 2000000 in
theorem in_any (l : List Feat) (S : Bool → ByteArray → Int → Int) (E bb off cp : Nat) (first : Feat) (r : List Ex) (w : World) (hlen : r.length ≤ 1000000) (hk : ∀ i, i < r.length → Kid w l S E bb (off + i * 5) (r.getD i exD)) (R : Option Feat) (hR : R = Ex.ev.evIn l S first r) :
    Calls Tryz.prog 96 #[.pointer (some ⟨E, 0, none⟩), .agg #[.string first.name, .int .i64 first.kind, .int .i64 first.n, .string first.text], .slice (some ⟨bb, off, none⟩) r.length cp] w (OptF R w) := by
  replace hk := Lib.hid hk
  replace hR := Lib.hid hR
  have hfe := featEq
  go_enter Tryz.func96, Tryz.ntmps96
  go_wp2_with fail
  have hb0 : Blk ((w.alloc (.cells #[.string first.name, .int .i64 first.kind, .int .i64 first.n, .string first.text] 43)).alloc (.cells #[.string ⟨#[]⟩, .int .i64 0, .int .i64 0, .string ⟨#[]⟩] 43)) w.heap.size #[.string first.name, .int .i64 first.kind, .int .i64 first.n, .string first.text] 43 := (Blk.new _ _ _).alloc _
  have hb1 : Blk ((w.alloc (.cells #[.string first.name, .int .i64 first.kind, .int .i64 first.n, .string first.text] 43)).alloc (.cells #[.string ⟨#[]⟩, .int .i64 0, .int .i64 0, .string ⟨#[]⟩] 43)) (w.heap.size + 1) #[.string ⟨#[]⟩, .int .i64 0, .int .i64 0, .string ⟨#[]⟩] 43 := Blk.new' _ _ _ _ (by simp)
  have hE9 : Ext w ((w.alloc (.cells #[.string first.name, .int .i64 first.kind, .int .i64 first.n, .string first.text] 43)).alloc (.cells #[.string ⟨#[]⟩, .int .i64 0, .int .i64 0, .string ⟨#[]⟩] 43)) := (by repeat (first | with_reducible exact Ext.refl _ | with_reducible exact hE0 | with_reducible exact hE | with_reducible refine Ext.alloc ?_ _ | with_reducible refine Ext.drewN ?_ _ | with_reducible refine Ext.drew ?_ | ((with_reducible refine Ext.setCell ?_ ?side _); (case side => first | exact Nat.le_refl _ | (simp; done) | (simp; omega)))))
  generalize ((w.alloc (.cells #[.string first.name, .int .i64 first.kind, .int .i64 first.n, .string first.text] 43)).alloc (.cells #[.string ⟨#[]⟩, .int .i64 0, .int .i64 0, .string ⟨#[]⟩] 43)) = w0 at *
  replace hb0 := Lib.hid hb0
  replace hb1 := Lib.hid hb1
  go_loopw [14] (fun i wr => ∃ k : Nat, k ≤ r.length ∧ i = .int .i64 k ∧ R = Ex.ev.evIn l S first (r.drop k) ∧ Ext w0 wr) (fun i _ => r.length - (intOf i).toNat)
  case atStart => exact ⟨0, Nat.zero_le _, rfl, hR.out, Ext.refl _⟩
  case round =>
    clear hR
    obtain ⟨k, hkl, rfl, hR, hEr⟩ := hrel
    by_cases hlt : k < r.length
    · replace hR := Lib.hid (hR.trans (evIn_step l S first r k hlt))
      obtain ⟨q, c, hc, hP⟩ := (hk.out k hlt).ext (hE9.trans hEr)
      obtain ⟨c0, c1, c2, c3, c4⟩ := hc.five
      generalize r.getD k exD = y at *
      replace hP := Lib.hid hP
      clear hc
      go_wp2_with fail
      refine (hP.out _ ((Ext.refl _).alloc _)).mono ?_
      intro e w1 h
      have hE1 : Ext w0 w1 := Ext.trans (hEr.alloc _) h.2
      obtain ⟨x0, x1, x2, x3⟩ : w1.cell? ⟨w.heap.size, 0, none⟩ = some (.string first.name) ∧ w1.cell? ⟨w.heap.size, 1, none⟩ = some (.int .i64 first.kind) ∧ w1.cell? ⟨w.heap.size, 2, none⟩ = some (.int .i64 first.n) ∧ w1.cell? ⟨w.heap.size, 3, none⟩ = some (.string first.text) := by
        have h := hb0.out.ext hE1
        exact ⟨(h.cell 0).trans rfl, (h.cell 1).trans rfl, (h.cell 2).trans rfl, (h.cell 3).trans rfl⟩
      obtain ⟨y0, y1, y2, y3⟩ : w1.cell? ⟨w.heap.size + 1, 0, none⟩ = some (.string ⟨#[]⟩) ∧ w1.cell? ⟨w.heap.size + 1, 1, none⟩ = some (.int .i64 0) ∧ w1.cell? ⟨w.heap.size + 1, 2, none⟩ = some (.int .i64 0) ∧ w1.cell? ⟨w.heap.size + 1, 3, none⟩ = some (.string ⟨#[]⟩) := by
        have h := hb1.out.ext hE1
        exact ⟨(h.cell 0).trans rfl, (h.cell 1).trans rfl, (h.cell 2).trans rfl, (h.cell 3).trans rfl⟩
      obtain ⟨f0, f1, f2, f3⟩ : w1.frozen? ⟨w.heap.size + 1, 0, none⟩ = false ∧ w1.frozen? ⟨w.heap.size + 1, 1, none⟩ = false ∧ w1.frozen? ⟨w.heap.size + 1, 2, none⟩ = false ∧ w1.frozen? ⟨w.heap.size + 1, 3, none⟩ = false := by
        have h := hb1.out.ext hE1
        exact ⟨h.fz 0, h.fz 1, h.fz 2, h.fz 3⟩
      have hs0 : w.heap.size < w1.heap.size := cell_lt x0
      have hs1 : w.heap.size + 1 < w1.heap.size := cell_lt y0
      clear c0 c1 c2 c3 c4
      cases ho : y.ev l S with
      | none =>
        rw [ho] at h
        have hR2 := Lib.hid (show R = none by rw [hR.out, ho])
        obtain ⟨rfl, -⟩ := optF_none h
        have hE : Ext w w1 := hE9.trans hE1
        clear h ho hR
        go_wp2
        exact bodyPost_ret (v := .tuple #[.agg #[.string ⟨#[]⟩, .int .i64 0, .int .i64 0, .string ⟨#[]⟩], .bool false]) (by first | (simp [results, Tryz.results96, go_sem, World.cell?_alloc_past, hs1, y0, y1, y2, y3]; done) | simp [results, Tryz.results96, go_sem]) rfl (optF_mkn hR2.out (by repeat (first | with_reducible exact Ext.refl _ | with_reducible exact hE0 | with_reducible exact hE | with_reducible refine Ext.alloc ?_ _ | with_reducible refine Ext.drewN ?_ _ | with_reducible refine Ext.drew ?_ | ((with_reducible refine Ext.setCell ?_ ?side _); (case side => first | exact Nat.le_refl _ | (simp; done) | (simp; omega))))))
      | some f =>
        rw [ho] at h
        replace hR := Lib.hid (show R = if f = first then some (truthF true) else Ex.ev.evIn l S first (r.drop (k + 1)) by rw [hR.out, ho])
        obtain ⟨rfl, -⟩ := optF_some h
        have hE : Ext w w1 := hE9.trans hE1
        clear h ho
        by_cases hff : f = first
        · have hR2 := Lib.hid (hR.out.trans (if_pos hff))
          have d1 : decide (f = first) = true := decide_eq_true hff
          clear hff hR
          go_wp2_with fail
          refine (truth_t _).mono ?_
          rintro e w2 ⟨rfl, hE2⟩
          obtain ⟨z0, z1, z2, z3⟩ : w2.cell? ⟨w.heap.size + 1, 0, none⟩ = some (.string ⟨#[]⟩) ∧ w2.cell? ⟨w.heap.size + 1, 1, none⟩ = some (.int .i64 0) ∧ w2.cell? ⟨w.heap.size + 1, 2, none⟩ = some (.int .i64 0) ∧ w2.cell? ⟨w.heap.size + 1, 3, none⟩ = some (.string ⟨#[]⟩) := by
            have h := (hb1.out.ext hE1).ext (Ext.trans ((Ext.refl _).alloc _) hE2)
            exact ⟨(h.cell 0).trans rfl, (h.cell 1).trans rfl, (h.cell 2).trans rfl, (h.cell 3).trans rfl⟩
          obtain ⟨g0, g1, g2, g3⟩ : w2.frozen? ⟨w.heap.size + 1, 0, none⟩ = false ∧ w2.frozen? ⟨w.heap.size + 1, 1, none⟩ = false ∧ w2.frozen? ⟨w.heap.size + 1, 2, none⟩ = false ∧ w2.frozen? ⟨w.heap.size + 1, 3, none⟩ = false := by
            have h := (hb1.out.ext hE1).ext (Ext.trans ((Ext.refl _).alloc _) hE2)
            exact ⟨h.fz 0, h.fz 1, h.fz 2, h.fz 3⟩
          replace hE : Ext w w2 := Ext.trans (hE.alloc _) hE2
          clear hE2 x0 x1 x2 x3 y0 y1 y2 y3 f0 f1 f2 f3 hs0 hs1 hE1
          go_wp2
          exact bodyPost_ret (v := .tuple #[.agg #[.string ⟨#[]⟩, .int .i64 3, .int .i64 1, .string ⟨#[]⟩], .bool true]) (by first | (simp [results, Tryz.results96, go_sem, z0, z1, z2, z3]; done) | simp [results, Tryz.results96, go_sem]) rfl (optF_mks (f := truthF true) hR2.out (by repeat (first | with_reducible exact Ext.refl _ | with_reducible exact hE0 | with_reducible exact hE | with_reducible refine Ext.alloc ?_ _ | with_reducible refine Ext.drewN ?_ _ | with_reducible refine Ext.drew ?_ | ((with_reducible refine Ext.setCell ?_ ?side _); (case side => first | exact Nat.le_refl _ | (simp; done) | (simp; omega))))))
        · have hR2 := Lib.hid (hR.out.trans (if_neg hff))
          have d1 : decide (f = first) = false := decide_eq_false hff
          clear hff hR
          go_wp2
          go_roundw
          case rel => exact ⟨k + 1, by omega, by go_num, hR2.out, hE1.alloc _⟩
          case measure => simp [intOf]; omega
    · have hdd : r.drop k = [] := List.drop_eq_nil_of_le (by omega)
      have hR2 := Lib.hid (show R = some (truthF false) by rw [hR, hdd]; rfl)
      clear hdd hR
      go_wp2_with fail
      refine (truth_f _).mono ?_
      rintro e w2 ⟨rfl, hE2⟩
      obtain ⟨z0, z1, z2, z3⟩ : w2.cell? ⟨w.heap.size + 1, 0, none⟩ = some (.string ⟨#[]⟩) ∧ w2.cell? ⟨w.heap.size + 1, 1, none⟩ = some (.int .i64 0) ∧ w2.cell? ⟨w.heap.size + 1, 2, none⟩ = some (.int .i64 0) ∧ w2.cell? ⟨w.heap.size + 1, 3, none⟩ = some (.string ⟨#[]⟩) := by
        have h := (hb1.out.ext hEr).ext hE2
        exact ⟨(h.cell 0).trans rfl, (h.cell 1).trans rfl, (h.cell 2).trans rfl, (h.cell 3).trans rfl⟩
      obtain ⟨g0, g1, g2, g3⟩ : w2.frozen? ⟨w.heap.size + 1, 0, none⟩ = false ∧ w2.frozen? ⟨w.heap.size + 1, 1, none⟩ = false ∧ w2.frozen? ⟨w.heap.size + 1, 2, none⟩ = false ∧ w2.frozen? ⟨w.heap.size + 1, 3, none⟩ = false := by
        have h := (hb1.out.ext hEr).ext hE2
        exact ⟨h.fz 0, h.fz 1, h.fz 2, h.fz 3⟩
      have hE : Ext w w2 := Ext.trans (hE9.trans hEr) hE2
      clear hE2 hEr
      go_wp2
      exact bodyPost_ret (v := .tuple #[.agg #[.string ⟨#[]⟩, .int .i64 3, .int .i64 0, .string ⟨#[]⟩], .bool true]) (by first | (simp [results, Tryz.results96, go_sem, z0, z1, z2, z3]; done) | simp [results, Tryz.results96, go_sem]) rfl (optF_mks (f := truthF false) hR2.out (by repeat (first | with_reducible exact Ext.refl _ | with_reducible exact hE0 | with_reducible exact hE | with_reducible refine Ext.alloc ?_ _ | with_reducible refine Ext.drewN ?_ _ | with_reducible refine Ext.drew ?_ | ((with_reducible refine Ext.setCell ?_ ?side _); (case side => first | exact Nat.le_refl _ | (simp; done) | (simp; omega))))))

set_option maxRecDepth 8000 in
set_option maxHeartbeats 2000000 in
theorem val1 (E : Nat) (nm tx : ByteArray) (n : Int) (q : Option Addr) (len cp : Nat) (w : World) (R : Option Feat) (hR : R = some (numF n)) : Calls Tryz.prog 69 #[.pointer (some ⟨E, 0, none⟩), .agg #[.int .i64 1, .string nm, .string tx, .int .i64 n, .slice q len cp]] w (OptF R w) := by
  replace hR := Lib.hid hR
  go_enter Tryz.func69, Tryz.ntmps69
  go_wp2_with fail
  refine (number_any n _).mono ?_
  rintro e w1 ⟨rfl, hE1⟩
  have hbz : Blk ((w.alloc (.cells #[.int .i64 1, .string nm, .string tx, .int .i64 n, .slice q len cp] 24)).alloc (.cells #[.string ⟨#[]⟩, .int .i64 0, .int .i64 0, .string ⟨#[]⟩] 43)) (w.heap.size + 1) #[.string ⟨#[]⟩, .int .i64 0, .int .i64 0, .string ⟨#[]⟩] 43 := Blk.new' _ _ _ _ (by simp)
  obtain ⟨y0, y1, y2, y3⟩ : w1.cell? ⟨w.heap.size + 1, 0, none⟩ = some (.string ⟨#[]⟩) ∧ w1.cell? ⟨w.heap.size + 1, 1, none⟩ = some (.int .i64 0) ∧ w1.cell? ⟨w.heap.size + 1, 2, none⟩ = some (.int .i64 0) ∧ w1.cell? ⟨w.heap.size + 1, 3, none⟩ = some (.string ⟨#[]⟩) := by
    have h := hbz.ext hE1
    exact ⟨(h.cell 0).trans rfl, (h.cell 1).trans rfl, (h.cell 2).trans rfl, (h.cell 3).trans rfl⟩
  obtain ⟨f0, f1, f2, f3⟩ : w1.frozen? ⟨w.heap.size + 1, 0, none⟩ = false ∧ w1.frozen? ⟨w.heap.size + 1, 1, none⟩ = false ∧ w1.frozen? ⟨w.heap.size + 1, 2, none⟩ = false ∧ w1.frozen? ⟨w.heap.size + 1, 3, none⟩ = false := by
    have h := hbz.ext hE1
    exact ⟨h.fz 0, h.fz 1, h.fz 2, h.fz 3⟩
  have hE : Ext w w1 := Ext.trans (by repeat (first | with_reducible exact Ext.refl _ | with_reducible exact hE0 | with_reducible exact hE | with_reducible refine Ext.alloc ?_ _ | with_reducible refine Ext.drewN ?_ _ | with_reducible refine Ext.drew ?_ | ((with_reducible refine Ext.setCell ?_ ?side _); (case side => first | exact Nat.le_refl _ | (simp; done) | (simp; omega))))) hE1
  have hs1 : w.heap.size + 1 < w1.heap.size := cell_lt y0
  clear hE1 hbz
  go_wp2
  exact bodyPost_ret (v := .tuple #[.agg #[.string ⟨#[]⟩, .int .i64 1, .int .i64 n, .string ⟨#[]⟩], .bool true]) (by first | (simp [results, Tryz.results69, go_sem, y0, y1, y2, y3]; done) | (simp [results, Tryz.results69, go_sem, y0, y1, y2, y3]; done) | simp [results, Tryz.results69, go_sem]) rfl (optF_mks (f := numF n) hR.out (by repeat (first | with_reducible exact Ext.refl _ | with_reducible exact hE0 | with_reducible exact hE | with_reducible refine Ext.alloc ?_ _ | with_reducible refine Ext.drewN ?_ _ | with_reducible refine Ext.drew ?_ | ((with_reducible refine Ext.setCell ?_ ?side _); (case side => first | exact Nat.le_refl _ | (simp; done) | (simp; omega))))))
set_option maxRecDepth 8000 in
set_option maxHeartbeats 2000000 in
theorem val2 (E : Nat) (nm tx : ByteArray) (n : Int) (q : Option Addr) (len cp : Nat) (w : World) (R : Option Feat) (hR : R = some (txtF tx)) : Calls Tryz.prog 69 #[.pointer (some ⟨E, 0, none⟩), .agg #[.int .i64 2, .string nm, .string tx, .int .i64 n, .slice q len cp]] w (OptF R w) := by
  replace hR := Lib.hid hR
  go_enter Tryz.func69, Tryz.ntmps69
  go_wp2
  exact bodyPost_ret (v := .tuple #[.agg #[.string ⟨#[]⟩, .int .i64 2, .int .i64 0, .string tx], .bool true]) (by simp [results, Tryz.results69, go_sem]) rfl (optF_mks (f := txtF tx) hR.out (by repeat (first | with_reducible exact Ext.refl _ | with_reducible exact hE0 | with_reducible exact hE | with_reducible refine Ext.alloc ?_ _ | with_reducible refine Ext.drewN ?_ _ | with_reducible refine Ext.drew ?_ | ((with_reducible refine Ext.setCell ?_ ?side _); (case side => first | exact Nat.le_refl _ | (simp; done) | (simp; omega))))))
set_option maxRecDepth 8000 in
set_option maxHeartbeats 2000000 in
theorem val3 (l : List Feat) (E b : Nat) (nm tx : ByteArray) (n : Int) (q : Option Addr) (len cp : Nat) (w : World) (hc : w.cell? ⟨E, 0, none⟩ = some (.map (some b))) (hM : KM w b l) (hs : nm.size ≤ 1000000) (R : Option Feat) (hR : R = some (featOf l nm)) : Calls Tryz.prog 69 #[.pointer (some ⟨E, 0, none⟩), .agg #[.int .i64 3, .string nm, .string tx, .int .i64 n, .slice q len cp]] w (OptF R w) := by
  replace hR := Lib.hid hR
  replace hM := Lib.hid hM
  have hk := Lib.hid (fun w1 (h : Ext w w1) => feature_any E b l nm w1 (h.get hc) (hM.out.ext h) hs)
  clear hc
  generalize featOf l nm = f at *
  unfold ftAgg at hk
  go_enter Tryz.func69, Tryz.ntmps69
  go_wp2_with fail
  refine (hk.out _ (by repeat (first | with_reducible exact Ext.refl _ | with_reducible exact hE0 | with_reducible exact hE | with_reducible refine Ext.alloc ?_ _ | with_reducible refine Ext.drewN ?_ _ | with_reducible refine Ext.drew ?_ | ((with_reducible refine Ext.setCell ?_ ?side _); (case side => first | exact Nat.le_refl _ | (simp; done) | (simp; omega)))))).mono ?_
  rintro e w1 ⟨rfl, hE1⟩
  have hbz : Blk ((w.alloc (.cells #[.int .i64 3, .string nm, .string tx, .int .i64 n, .slice q len cp] 24)).alloc (.cells #[.string ⟨#[]⟩, .int .i64 0, .int .i64 0, .string ⟨#[]⟩] 43)) (w.heap.size + 1) #[.string ⟨#[]⟩, .int .i64 0, .int .i64 0, .string ⟨#[]⟩] 43 := Blk.new' _ _ _ _ (by simp)
  obtain ⟨y0, y1, y2, y3⟩ : w1.cell? ⟨w.heap.size + 1, 0, none⟩ = some (.string ⟨#[]⟩) ∧ w1.cell? ⟨w.heap.size + 1, 1, none⟩ = some (.int .i64 0) ∧ w1.cell? ⟨w.heap.size + 1, 2, none⟩ = some (.int .i64 0) ∧ w1.cell? ⟨w.heap.size + 1, 3, none⟩ = some (.string ⟨#[]⟩) := by
    have h := hbz.ext hE1
    exact ⟨(h.cell 0).trans rfl, (h.cell 1).trans rfl, (h.cell 2).trans rfl, (h.cell 3).trans rfl⟩
  obtain ⟨f0, f1, f2, f3⟩ : w1.frozen? ⟨w.heap.size + 1, 0, none⟩ = false ∧ w1.frozen? ⟨w.heap.size + 1, 1, none⟩ = false ∧ w1.frozen? ⟨w.heap.size + 1, 2, none⟩ = false ∧ w1.frozen? ⟨w.heap.size + 1, 3, none⟩ = false := by
    have h := hbz.ext hE1
    exact ⟨h.fz 0, h.fz 1, h.fz 2, h.fz 3⟩
  have hE : Ext w w1 := Ext.trans (by repeat (first | with_reducible exact Ext.refl _ | with_reducible exact hE0 | with_reducible exact hE | with_reducible refine Ext.alloc ?_ _ | with_reducible refine Ext.drewN ?_ _ | with_reducible refine Ext.drew ?_ | ((with_reducible refine Ext.setCell ?_ ?side _); (case side => first | exact Nat.le_refl _ | (simp; done) | (simp; omega))))) hE1
  have hs1 : w.heap.size + 1 < w1.heap.size := cell_lt y0
  clear hE1 hbz
  go_wp2
  exact bodyPost_ret (v := .tuple #[.agg #[.string f.name, .int .i64 f.kind, .int .i64 f.n, .string f.text], .bool true]) (by first | (simp [results, Tryz.results69, go_sem, y0, y1, y2, y3]; done) | (simp [results, Tryz.results69, go_sem, y0, y1, y2, y3]; done) | simp [results, Tryz.results69, go_sem]) rfl (optF_mks (f := f) hR.out (by repeat (first | with_reducible exact Ext.refl _ | with_reducible exact hE0 | with_reducible exact hE | with_reducible refine Ext.alloc ?_ _ | with_reducible refine Ext.drewN ?_ _ | with_reducible refine Ext.drew ?_ | ((with_reducible refine Ext.setCell ?_ ?side _); (case side => first | exact Nat.le_refl _ | (simp; done) | (simp; omega))))))
set_option maxRecDepth 8000 in
set_option maxHeartbeats 2000000 in
theorem val16 (S : Bool → ByteArray → Int → Int) (E : Nat) (nm tx : ByteArray) (n : Int) (q : Option Addr) (len cp : Nat) (w : World) (hA : Asker w E S) (R : Option Feat) (hR : R = (okN (S (decide ((16 : Int) = 16)) nm n)).map numF) : Calls Tryz.prog 69 #[.pointer (some ⟨E, 0, none⟩), .agg #[.int .i64 16, .string nm, .string tx, .int .i64 n, .slice q len cp]] w (OptF R w) := by
  replace hR := Lib.hid hR
  have hk := Lib.hid (fun w1 (h : Ext w w1) => hA w1 h 16 nm tx n (.slice q len cp) (by simp))
  clear hA
  generalize okN (S (decide ((16 : Int) = 16)) nm n) = o at *
  go_enter Tryz.func69, Tryz.ntmps69
  go_wp2_with fail
  refine (hk.out _ (by repeat (first | with_reducible exact Ext.refl _ | with_reducible exact hE0 | with_reducible exact hE | with_reducible refine Ext.alloc ?_ _ | with_reducible refine Ext.drewN ?_ _ | with_reducible refine Ext.drew ?_ | ((with_reducible refine Ext.setCell ?_ ?side _); (case side => first | exact Nat.le_refl _ | (simp; done) | (simp; omega)))))).mono ?_
  rintro e w1 ⟨rfl, hE1⟩
  have hbz : Blk ((w.alloc (.cells #[.int .i64 16, .string nm, .string tx, .int .i64 n, .slice q len cp] 24)).alloc (.cells #[.string ⟨#[]⟩, .int .i64 0, .int .i64 0, .string ⟨#[]⟩] 43)) (w.heap.size + 1) #[.string ⟨#[]⟩, .int .i64 0, .int .i64 0, .string ⟨#[]⟩] 43 := Blk.new' _ _ _ _ (by simp)
  replace hbz := Lib.hid (hbz.ext hE1)
  obtain ⟨y0, y1, y2, y3⟩ : w1.cell? ⟨w.heap.size + 1, 0, none⟩ = some (.string ⟨#[]⟩) ∧ w1.cell? ⟨w.heap.size + 1, 1, none⟩ = some (.int .i64 0) ∧ w1.cell? ⟨w.heap.size + 1, 2, none⟩ = some (.int .i64 0) ∧ w1.cell? ⟨w.heap.size + 1, 3, none⟩ = some (.string ⟨#[]⟩) := by
    have h := hbz.out
    exact ⟨(h.cell 0).trans rfl, (h.cell 1).trans rfl, (h.cell 2).trans rfl, (h.cell 3).trans rfl⟩
  obtain ⟨f0, f1, f2, f3⟩ : w1.frozen? ⟨w.heap.size + 1, 0, none⟩ = false ∧ w1.frozen? ⟨w.heap.size + 1, 1, none⟩ = false ∧ w1.frozen? ⟨w.heap.size + 1, 2, none⟩ = false ∧ w1.frozen? ⟨w.heap.size + 1, 3, none⟩ = false := by
    have h := hbz.out
    exact ⟨h.fz 0, h.fz 1, h.fz 2, h.fz 3⟩
  have hE : Ext w w1 := Ext.trans (by repeat (first | with_reducible exact Ext.refl _ | with_reducible exact hE0 | with_reducible exact hE | with_reducible refine Ext.alloc ?_ _ | with_reducible refine Ext.drewN ?_ _ | with_reducible refine Ext.drew ?_ | ((with_reducible refine Ext.setCell ?_ ?side _); (case side => first | exact Nat.le_refl _ | (simp; done) | (simp; omega))))) hE1
  have hs1 : w.heap.size + 1 < w1.heap.size := cell_lt y0
  clear hE1
  cases o with
  | none =>
    simp only [Option.getD_none, Option.isSome_none]
    go_wp2
    exact bodyPost_ret (v := .tuple #[.agg #[.string ⟨#[]⟩, .int .i64 0, .int .i64 0, .string ⟨#[]⟩], .bool false]) (by first | (simp [results, Tryz.results69, go_sem, y0, y1, y2, y3]; done) | (simp [results, Tryz.results69, go_sem, y0, y1, y2, y3]; done) | simp [results, Tryz.results69, go_sem]) rfl (optF_mkn hR.out (by repeat (first | with_reducible exact Ext.refl _ | with_reducible exact hE0 | with_reducible exact hE | with_reducible refine Ext.alloc ?_ _ | with_reducible refine Ext.drewN ?_ _ | with_reducible refine Ext.drew ?_ | ((with_reducible refine Ext.setCell ?_ ?side _); (case side => first | exact Nat.le_refl _ | (simp; done) | (simp; omega))))))
  | some m =>
    simp only [Option.getD_some, Option.isSome_some]
    go_wp2_with fail
    refine (number_any m _).mono ?_
    rintro e w2 ⟨rfl, hE2⟩
    clear y0 y1 y2 y3 f0 f1 f2 f3 hs1
    obtain ⟨y0, y1, y2, y3⟩ : w2.cell? ⟨w.heap.size + 1, 0, none⟩ = some (.string ⟨#[]⟩) ∧ w2.cell? ⟨w.heap.size + 1, 1, none⟩ = some (.int .i64 0) ∧ w2.cell? ⟨w.heap.size + 1, 2, none⟩ = some (.int .i64 0) ∧ w2.cell? ⟨w.heap.size + 1, 3, none⟩ = some (.string ⟨#[]⟩) := by
      have h := hbz.out.ext hE2
      exact ⟨(h.cell 0).trans rfl, (h.cell 1).trans rfl, (h.cell 2).trans rfl, (h.cell 3).trans rfl⟩
    obtain ⟨f0, f1, f2, f3⟩ : w2.frozen? ⟨w.heap.size + 1, 0, none⟩ = false ∧ w2.frozen? ⟨w.heap.size + 1, 1, none⟩ = false ∧ w2.frozen? ⟨w.heap.size + 1, 2, none⟩ = false ∧ w2.frozen? ⟨w.heap.size + 1, 3, none⟩ = false := by
      have h := hbz.out.ext hE2
      exact ⟨h.fz 0, h.fz 1, h.fz 2, h.fz 3⟩
    replace hE : Ext w w2 := Ext.trans (by repeat (first | with_reducible exact Ext.refl _ | with_reducible exact hE0 | with_reducible exact hE | with_reducible refine Ext.alloc ?_ _ | with_reducible refine Ext.drewN ?_ _ | with_reducible refine Ext.drew ?_ | ((with_reducible refine Ext.setCell ?_ ?side _); (case side => first | exact Nat.le_refl _ | (simp; done) | (simp; omega))))) hE2
    have hs1 : w.heap.size + 1 < w2.heap.size := cell_lt y0
    clear hE2 hbz
    go_wp2
    exact bodyPost_ret (v := .tuple #[.agg #[.string ⟨#[]⟩, .int .i64 1, .int .i64 m, .string ⟨#[]⟩], .bool true]) (by first | (simp [results, Tryz.results69, go_sem, y0, y1, y2, y3]; done) | (simp [results, Tryz.results69, go_sem, y0, y1, y2, y3]; done) | simp [results, Tryz.results69, go_sem]) rfl (optF_mks (f := numF m) hR.out (by repeat (first | with_reducible exact Ext.refl _ | with_reducible exact hE0 | with_reducible exact hE | with_reducible refine Ext.alloc ?_ _ | with_reducible refine Ext.drewN ?_ _ | with_reducible refine Ext.drew ?_ | ((with_reducible refine Ext.setCell ?_ ?side _); (case side => first | exact Nat.le_refl _ | (simp; done) | (simp; omega))))))
set_option maxRecDepth 8000 in
set_option maxHeartbeats 2000000 in
theorem val17 (S : Bool → ByteArray → Int → Int) (E : Nat) (nm tx : ByteArray) (n : Int) (q : Option Addr) (len cp : Nat) (w : World) (hA : Asker w E S) (R : Option Feat) (hR : R = (okN (S (decide ((17 : Int) = 16)) nm n)).map numF) : Calls Tryz.prog 69 #[.pointer (some ⟨E, 0, none⟩), .agg #[.int .i64 17, .string nm, .string tx, .int .i64 n, .slice q len cp]] w (OptF R w) := by
  replace hR := Lib.hid hR
  have hk := Lib.hid (fun w1 (h : Ext w w1) => hA w1 h 17 nm tx n (.slice q len cp) (by simp))
  clear hA
  generalize okN (S (decide ((17 : Int) = 16)) nm n) = o at *
  go_enter Tryz.func69, Tryz.ntmps69
  go_wp2_with fail
  refine (hk.out _ (by repeat (first | with_reducible exact Ext.refl _ | with_reducible exact hE0 | with_reducible exact hE | with_reducible refine Ext.alloc ?_ _ | with_reducible refine Ext.drewN ?_ _ | with_reducible refine Ext.drew ?_ | ((with_reducible refine Ext.setCell ?_ ?side _); (case side => first | exact Nat.le_refl _ | (simp; done) | (simp; omega)))))).mono ?_
  rintro e w1 ⟨rfl, hE1⟩
  have hbz : Blk ((w.alloc (.cells #[.int .i64 17, .string nm, .string tx, .int .i64 n, .slice q len cp] 24)).alloc (.cells #[.string ⟨#[]⟩, .int .i64 0, .int .i64 0, .string ⟨#[]⟩] 43)) (w.heap.size + 1) #[.string ⟨#[]⟩, .int .i64 0, .int .i64 0, .string ⟨#[]⟩] 43 := Blk.new' _ _ _ _ (by simp)
  replace hbz := Lib.hid (hbz.ext hE1)
  obtain ⟨y0, y1, y2, y3⟩ : w1.cell? ⟨w.heap.size + 1, 0, none⟩ = some (.string ⟨#[]⟩) ∧ w1.cell? ⟨w.heap.size + 1, 1, none⟩ = some (.int .i64 0) ∧ w1.cell? ⟨w.heap.size + 1, 2, none⟩ = some (.int .i64 0) ∧ w1.cell? ⟨w.heap.size + 1, 3, none⟩ = some (.string ⟨#[]⟩) := by
    have h := hbz.out
    exact ⟨(h.cell 0).trans rfl, (h.cell 1).trans rfl, (h.cell 2).trans rfl, (h.cell 3).trans rfl⟩
  obtain ⟨f0, f1, f2, f3⟩ : w1.frozen? ⟨w.heap.size + 1, 0, none⟩ = false ∧ w1.frozen? ⟨w.heap.size + 1, 1, none⟩ = false ∧ w1.frozen? ⟨w.heap.size + 1, 2, none⟩ = false ∧ w1.frozen? ⟨w.heap.size + 1, 3, none⟩ = false := by
    have h := hbz.out
    exact ⟨h.fz 0, h.fz 1, h.fz 2, h.fz 3⟩
  have hE : Ext w w1 := Ext.trans (by repeat (first | with_reducible exact Ext.refl _ | with_reducible exact hE0 | with_reducible exact hE | with_reducible refine Ext.alloc ?_ _ | with_reducible refine Ext.drewN ?_ _ | with_reducible refine Ext.drew ?_ | ((with_reducible refine Ext.setCell ?_ ?side _); (case side => first | exact Nat.le_refl _ | (simp; done) | (simp; omega))))) hE1
  have hs1 : w.heap.size + 1 < w1.heap.size := cell_lt y0
  clear hE1
  cases o with
  | none =>
    simp only [Option.getD_none, Option.isSome_none]
    go_wp2
    exact bodyPost_ret (v := .tuple #[.agg #[.string ⟨#[]⟩, .int .i64 0, .int .i64 0, .string ⟨#[]⟩], .bool false]) (by first | (simp [results, Tryz.results69, go_sem, y0, y1, y2, y3]; done) | (simp [results, Tryz.results69, go_sem, y0, y1, y2, y3]; done) | simp [results, Tryz.results69, go_sem]) rfl (optF_mkn hR.out (by repeat (first | with_reducible exact Ext.refl _ | with_reducible exact hE0 | with_reducible exact hE | with_reducible refine Ext.alloc ?_ _ | with_reducible refine Ext.drewN ?_ _ | with_reducible refine Ext.drew ?_ | ((with_reducible refine Ext.setCell ?_ ?side _); (case side => first | exact Nat.le_refl _ | (simp; done) | (simp; omega))))))
  | some m =>
    simp only [Option.getD_some, Option.isSome_some]
    go_wp2_with fail
    refine (number_any m _).mono ?_
    rintro e w2 ⟨rfl, hE2⟩
    clear y0 y1 y2 y3 f0 f1 f2 f3 hs1
    obtain ⟨y0, y1, y2, y3⟩ : w2.cell? ⟨w.heap.size + 1, 0, none⟩ = some (.string ⟨#[]⟩) ∧ w2.cell? ⟨w.heap.size + 1, 1, none⟩ = some (.int .i64 0) ∧ w2.cell? ⟨w.heap.size + 1, 2, none⟩ = some (.int .i64 0) ∧ w2.cell? ⟨w.heap.size + 1, 3, none⟩ = some (.string ⟨#[]⟩) := by
      have h := hbz.out.ext hE2
      exact ⟨(h.cell 0).trans rfl, (h.cell 1).trans rfl, (h.cell 2).trans rfl, (h.cell 3).trans rfl⟩
    obtain ⟨f0, f1, f2, f3⟩ : w2.frozen? ⟨w.heap.size + 1, 0, none⟩ = false ∧ w2.frozen? ⟨w.heap.size + 1, 1, none⟩ = false ∧ w2.frozen? ⟨w.heap.size + 1, 2, none⟩ = false ∧ w2.frozen? ⟨w.heap.size + 1, 3, none⟩ = false := by
      have h := hbz.out.ext hE2
      exact ⟨h.fz 0, h.fz 1, h.fz 2, h.fz 3⟩
    replace hE : Ext w w2 := Ext.trans (by repeat (first | with_reducible exact Ext.refl _ | with_reducible exact hE0 | with_reducible exact hE | with_reducible refine Ext.alloc ?_ _ | with_reducible refine Ext.drewN ?_ _ | with_reducible refine Ext.drew ?_ | ((with_reducible refine Ext.setCell ?_ ?side _); (case side => first | exact Nat.le_refl _ | (simp; done) | (simp; omega))))) hE2
    have hs1 : w.heap.size + 1 < w2.heap.size := cell_lt y0
    clear hE2 hbz
    go_wp2
    exact bodyPost_ret (v := .tuple #[.agg #[.string ⟨#[]⟩, .int .i64 1, .int .i64 m, .string ⟨#[]⟩], .bool true]) (by first | (simp [results, Tryz.results69, go_sem, y0, y1, y2, y3]; done) | (simp [results, Tryz.results69, go_sem, y0, y1, y2, y3]; done) | simp [results, Tryz.results69, go_sem]) rfl (optF_mks (f := numF m) hR.out (by repeat (first | with_reducible exact Ext.refl _ | with_reducible exact hE0 | with_reducible exact hE | with_reducible refine Ext.alloc ?_ _ | with_reducible refine Ext.drewN ?_ _ | with_reducible refine Ext.drew ?_ | ((with_reducible refine Ext.setCell ?_ ?side _); (case side => first | exact Nat.le_refl _ | (simp; done) | (simp; omega))))))
end Go.Proofs.YtpdpjindmghfpaaGreatDoor
