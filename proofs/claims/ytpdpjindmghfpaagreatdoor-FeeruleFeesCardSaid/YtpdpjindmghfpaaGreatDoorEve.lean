/- Contracts of value (all operators) and Eval (walks; printed by gen/eval.py). -/
import Derived.Test.YtpdpjindmghfpaaGreatDoorEvn
import Derived.Test.YtpdpjindmghfpaaGreatDoorEpt
namespace Go.Proofs.YtpdpjindmghfpaaGreatDoor
open Go.RowKit
theorem okN_map (m : Int) : (okN m).map numF = if nbrB m then some (numF m) else none := by
  unfold okN
  split <;> rfl
set_option maxHeartbeats 1000000 in
theorem value_any {w : World} {v : Value} {l0 : List Ex} (h : ExS w v l0) (l : List Feat) (S : Bool → ByteArray → Int → Int) (E b : Nat) (hc : w.cell? ⟨E, 0, none⟩ = some (.map (some b))) (hM : KM w b l) (hA : Asker w E S) (hN : namesE [] l = 0) :
    ∀ x : Ex, x.args = l0 → ∀ w', Ext w w' → x.formed = true → (x.ty l).2 = 0 → Calls Tryz.prog 69 #[.pointer (some ⟨E, 0, none⟩), exAgg x v] w' (OptF (x.ev l S) w') := by
  refine ExS.ind (P := fun x v => ∀ w', Ext w w' → x.formed = true → (x.ty l).2 = 0 → Calls Tryz.prog 69 #[.pointer (some ⟨E, 0, none⟩), exAgg x v] w' (OptF (x.ev l S) w')) ?_ h
  clear h
  intro x v hS hK w' hE hf ht
  obtain ⟨op, nm, tx, n, args⟩ := x
  obtain ⟨q, cp, rfl⟩ := hS.form
  simp only [Ex.args] at hS hK ⊢
  rw [formed_eq] at hf
  simp only [Bool.and_eq_true, List.all_eq_true] at hf
  obtain ⟨hfv, hfa⟩ := hf
  obtain ⟨hta, fk, hfk, hb, -⟩ := ty_inv ht
  have hty : ∀ a ∈ args, ∀ f, a.ev l S = some f → WellF (a.ty l).1 f := fun a ha f hv => ev_typed l hN S a (hfa a ha) (hta a ha) f hv
  have hkid : 0 < args.length → ∃ bb off, q = some ⟨bb, off, none⟩ ∧ ∀ i, i < args.length → Kid w' l S E bb (off + i * 5) (args.getD i exD) := by
    intro h0
    obtain ⟨bb, off, rfl, sv, hk⟩ := hK _ _ rfl h0
    refine ⟨bb, off, rfl, fun i hi => ?_⟩
    obtain ⟨h1, h2, h3⟩ := hk i hi
    obtain ⟨qi, ci, hform⟩ := h2.form
    have hmem : args.getD i exD ∈ args := by
      rw [List.getD_eq_getElem?_getD, List.getElem?_eq_getElem hi, Option.getD_some]
      exact List.getElem_mem hi
    rw [hform] at h1 h3
    exact ⟨qi, ci, h1.ext hE, fun w2 hE2 => h3 w2 (hE.trans hE2) (hfa _ hmem) (hta _ hmem)⟩
  rw [exAgg_mk]
  rcases fv_cut hfv with ⟨ho, hl⟩ | ⟨ho, hl⟩ | ⟨⟨ho, ho'⟩, hl⟩ | ⟨ho, hl, hl'⟩
  · obtain rfl := List.length_eq_zero_iff.1 hl
    rcases ho with rfl | rfl | rfl | rfl | rfl
    · exact val1 E nm tx n q 0 cp w' _ (by rw [ev_mk]; simp [evOp])
    · exact val2 E nm tx n q 0 cp w' _ (by rw [ev_mk]; simp [evOp])
    · exact val3 l E b nm tx n q 0 cp w' (hE.get hc) (hM.ext hE) (by have := fv_name hfv; omega) _ (by rw [ev_mk]; simp [evOp])
    · exact val16 S E nm tx n q 0 cp w' (hA.ext hE) _ (by rw [ev_mk, okN_map]; simp [evOp])
    · exact val17 S E nm tx n q 0 cp w' (hA.ext hE) _ (by rw [ev_mk, okN_map]; simp [evOp])
  · obtain ⟨a, rfl⟩ := len1 hl
    obtain ⟨bb, off, rfl, hk⟩ := hkid (by simp)
    have k0 : Kid w' l S E bb off a := hk 0 (by simp)
    simp only [List.map_cons, List.map_nil] at hb
    rcases byK_one ho hb with ⟨rfl, e1, -⟩ | ⟨rfl, e1, -⟩
    · exact val4 l S E nm tx n bb off cp a w' k0 _ (fun h => by rw [ev_one (Or.inl rfl), h]) (fun f h => by rw [ev_one (Or.inl rfl), h]; simp)
    · refine val5 l S E nm tx n bb off cp a w' k0 _ (fun h => by rw [ev_one (Or.inr rfl), h]) (fun f h => ⟨by rw [ev_one (Or.inr rfl), h]; simp, ?_⟩)
      have hw := hty a (by simp) f h
      rw [e1] at hw
      rcases hw.2.2 with h | h | h
      · exact h.2.1
      · exact absurd h.1 (by omega)
      · exact absurd h.1 (by omega)
  · obtain ⟨a, c, rfl⟩ := len2 hl
    obtain ⟨bb, off, rfl, hk⟩ := hkid (by simp)
    have k0 : Kid w' l S E bb off a := hk 0 (by simp)
    have k1 : Kid w' l S E bb (off + 5) c := hk 1 (by simp)
    simp only [List.map_cons, List.map_nil] at hb
    have hn : ∀ f g, a.ev l S = some f → c.ev l S = some g → op = 12 ∨ op = 13 ∨ op = 14 → nbrB f.n = true ∧ nbrB g.n = true := by
      intro f g h1 h2 h3
      have w1 := hty a (by simp) f h1
      have w2 := hty c (by simp) g h2
      rcases byK_two ho ho' hb with ⟨h, _⟩ | ⟨h, _⟩ | ⟨h, _⟩ | ⟨h, e1, e2, _⟩
      · omega
      · omega
      · omega
      · rw [e1] at w1
        rw [e2] at w2
        refine ⟨?_, ?_⟩
        · rcases w1.2.2 with h | h | h
          · exact h.2.1
          · exact absurd h.1 (by omega)
          · exact absurd h.1 (by omega)
        · rcases w2.2.2 with h | h | h
          · exact h.2.1
          · exact absurd h.1 (by omega)
          · exact absurd h.1 (by omega)
    have r1 : a.ev l S = none → (Ex.mk op nm tx n [a, c]).ev l S = none := fun h => by rw [ev_two ho ho', h]
    have r2 : ∀ f, a.ev l S = some f → ((op = 6 ∧ f.n = 0) ∨ (op = 7 ∧ f.n = 1)) → (Ex.mk op nm tx n [a, c]).ev l S = some f := fun f h hc => by rw [ev_two ho ho', h]; simp only [if_pos hc]
    have r3 : ∀ f, a.ev l S = some f → ¬ ((op = 6 ∧ f.n = 0) ∨ (op = 7 ∧ f.n = 1)) → c.ev l S = none → (Ex.mk op nm tx n [a, c]).ev l S = none := fun f h hc h2 => by rw [ev_two ho ho', h]; simp only [if_neg hc, h2]
    have r4 : ∀ f g, a.ev l S = some f → ¬ ((op = 6 ∧ f.n = 0) ∨ (op = 7 ∧ f.n = 1)) → c.ev l S = some g → (Ex.mk op nm tx n [a, c]).ev l S = comb op f g := fun f g h hc h2 => by rw [ev_two ho ho', h]; simp only [if_neg hc, h2]
    by_cases h6 : op = 6
    · subst h6
      exact val6 l S E nm tx n bb off cp a c w' k0 k1 _ r1 r2 r3 r4 hn
    · by_cases h7 : op = 7
      · subst h7
        exact val7 l S E nm tx n bb off cp a c w' k0 k1 _ r1 r2 r3 r4 hn
      · exact valx l S E op (by omega) ho' nm tx n bb off cp a c w' k0 k1 _ r1 r2 r3 r4 hn
  · subst ho
    cases args with
    | nil => simp at hl
    | cons a r =>
      obtain ⟨bb, off, rfl, hk⟩ := hkid (by simp)
      have k0 : Kid w' l S E bb off a := hk 0 (by simp)
      have hcap := hS.cap (by simp)
      simp only [List.length_cons] at hcap hl hl'
      refine val15 l S E nm tx n bb off cp a r w' k0 (by omega) (by omega) hcap (fun i hi => ?_) _ (fun h => by rw [ev_in, h]) (fun f h => by rw [ev_in, h])
      have := hk (i + 1) (by simp; omega)
      rw [show off + 5 + i * 5 = off + (i + 1) * 5 by omega]
      exact this
theorem checkV_ok {x : Ex} {l : List Feat} (h : (checkV x l).2 = 0) : namesE [] l = 0 ∧ x.levels ≤ 8 ∧ x.formed = true ∧ (x.ty l).2 = 0 := by
  unfold checkV at h
  by_cases h1 : namesE [] l ≠ 0
  · rw [if_pos h1] at h; exact absurd h h1
  · rw [if_neg h1] at h
    by_cases h2 : 8 < x.levels
    · rw [if_pos h2] at h; cases h
    · rw [if_neg h2] at h
      by_cases h3 : x.formed = false
      · rw [if_pos h3] at h; cases h
      · rw [if_neg h3] at h
        exact ⟨by omega, by omega, by simpa using h3, h⟩
def EvalPost (r : Feat × Int) (w : World) (e : Ending) (w' : World) : Prop := e = .returned (.tuple #[.agg #[.string r.1.name, .int .i64 r.1.kind, .int .i64 r.1.n, .string r.1.text], .int .i64 r.2]) ∧ Ext w w'
theorem evalP {w w' : World} {R : Feat × Int} {f : Feat} {c : Int} (hR : R = (f, c)) (h : Ext w w') : EvalPost R w (.returned (.tuple #[.agg #[.string f.name, .int .i64 f.kind, .int .i64 f.n, .string f.text], .int .i64 c])) w' := by subst hR; exact ⟨rfl, h⟩
set_option maxRecDepth 8000 in
set_option maxHeartbeats 2000000 in
theorem eval_nil {w : World} {v : Value} (x : Ex) (hS : ExS w v x.args) (fv : Value) (l : List Feat) (hF : Feats w fv l) (S : Bool → ByteArray → Int → Int) (hA : ∀ w1 E, Ext w w1 → w1.cell? ⟨E, 1, none⟩ = some (.nilIface) → Asker w1 E S) : Calls Tryz.prog 48 #[exAgg x v, fv, .nilIface] w (EvalPost (evalV x l S) w) := by
  obtain ⟨q, cp, rfl⟩ := hS.form
  obtain ⟨op, nm, tx, n, args⟩ := x
  simp only [Ex.args] at hS
  replace hS := Lib.hid hS
  replace hF := Lib.hid hF
  replace hA := Lib.hid hA
  obtain ⟨R, hR⟩ : ∃ R, R = evalV (.mk op nm tx n args) l S := ⟨_, rfl⟩
  rw [← hR]
  unfold evalV at hR
  have hC := Lib.hid (fun w1 (h : Ext w w1) => check_any (.mk op nm tx n args) (hS.out.ext h) fv l (hF.out.ext h))
  have hck := Lib.hid (checkV_ok (x := .mk op nm tx n args) (l := l))
  generalize hcv : checkV (.mk op nm tx n args) l = C at *
  obtain ⟨C1, C2⟩ := C
  unfold TyPost at hC
  simp only at hR hck hC
  replace hR := Lib.hid hR
  clear hcv
  rw [exAgg_mk]
  simp only [exAgg_mk, Ex.args] at hC ⊢
  go_enter Tryz.func48, Tryz.ntmps48
  go_wp2_with fail
  refine (hC.out _ (by repeat (first | with_reducible exact Ext.refl _ | with_reducible exact hE0 | with_reducible exact hE | with_reducible refine Ext.alloc ?_ _ | with_reducible refine Ext.drewN ?_ _ | with_reducible refine Ext.drew ?_ | ((with_reducible refine Ext.setCell ?_ ?side _); (case side => first | exact Nat.le_refl _ | (simp; done) | (simp; omega)))))).mono ?_
  rintro e w1 ⟨rfl, hE1⟩
  have hbz : Blk ((w.alloc (.cells #[.int .i64 op, .string nm, .string tx, .int .i64 n, .slice q args.length cp] 24)).alloc (.cells #[.string ⟨#[]⟩, .int .i64 0, .int .i64 0, .string ⟨#[]⟩] 43)) (w.heap.size + 1) #[.string ⟨#[]⟩, .int .i64 0, .int .i64 0, .string ⟨#[]⟩] 43 := Blk.new' _ _ _ _ (by simp)
  have hbx : Blk ((w.alloc (.cells #[.int .i64 op, .string nm, .string tx, .int .i64 n, .slice q args.length cp] 24)).alloc (.cells #[.string ⟨#[]⟩, .int .i64 0, .int .i64 0, .string ⟨#[]⟩] 43)) w.heap.size #[.int .i64 op, .string nm, .string tx, .int .i64 n, .slice q args.length cp] 24 := (Blk.new _ _ _).alloc _
  replace hbz := Lib.hid (hbz.ext hE1)
  replace hbx := Lib.hid (hbx.ext hE1)
  have hE : Ext w w1 := Ext.trans (by repeat (first | with_reducible exact Ext.refl _ | with_reducible exact hE0 | with_reducible exact hE | with_reducible refine Ext.alloc ?_ _ | with_reducible refine Ext.drewN ?_ _ | with_reducible refine Ext.drew ?_ | ((with_reducible refine Ext.setCell ?_ ?side _); (case side => first | exact Nat.le_refl _ | (simp; done) | (simp; omega))))) hE1
  clear hE1 hC
  by_cases h0 : C2 = 0
  · subst h0
    obtain ⟨hn0, -, hfm, hty⟩ := hck.out rfl
    replace hn0 := Lib.hid hn0
    replace hfm := Lib.hid hfm
    replace hty := Lib.hid hty
    clear hck
    go_wp2_with fail
    refine (names_any _ fv l (hF.out.ext hE)).mono ?_
    rintro e w2 ⟨hE2, h⟩
    replace hbz := Lib.hid (hbz.out.ext hE2)
    replace hbx := Lib.hid (hbx.out.ext hE2)
    replace hE := hE.trans hE2
    clear hE2
    rcases h with ⟨-, b, rfl, hbb, hM⟩ | ⟨hne, -⟩
    · replace hM := Lib.hid hM
      clear hbb
      have hE9 : Ext w (w2.alloc (.cells #[.map (some b), .nilIface] 89)) := hE.alloc _
      have x0 : w2.cell? ⟨w.heap.size, 0, none⟩ = some (.int .i64 op) := (hbx.out.cell 0).trans rfl
      have x1 : w2.cell? ⟨w.heap.size, 1, none⟩ = some (.string nm) := (hbx.out.cell 1).trans rfl
      have x2 : w2.cell? ⟨w.heap.size, 2, none⟩ = some (.string tx) := (hbx.out.cell 2).trans rfl
      have x3 : w2.cell? ⟨w.heap.size, 3, none⟩ = some (.int .i64 n) := (hbx.out.cell 3).trans rfl
      have x4 : w2.cell? ⟨w.heap.size, 4, none⟩ = some (.slice q args.length cp) := (hbx.out.cell 4).trans rfl
      have hs0 : w.heap.size < w2.heap.size := cell_lt x0
      have hbe := Blk.new w2 #[.map (some b), .nilIface] 89
      have hV := Lib.hid (value_any (hS.out.ext hE9) l S w2.heap.size b ((hbe.cell 0).trans rfl) (hM.out.ext ((Ext.refl _).alloc _)) (hA.out _ _ hE9 ((hbe.cell 1).trans rfl)) hn0.out (.mk op nm tx n args) rfl _ (Ext.refl _) hfm.out hty.out)
      replace hE9 := Lib.hid hE9
      clear hbe
      rw [if_neg (by simp)] at hR
      generalize (Ex.mk op nm tx n args).ev l S = O at *
      simp only [exAgg_mk] at hV
      go_wp2_with fail
      refine hV.out.mono ?_
      intro e w3 h
      replace hbz := Lib.hid (hbz.out.ext (Ext.trans ((Ext.refl _).alloc _) h.2))
      replace hE : Ext w w3 := hE9.out.trans h.2
      have y0 : w3.cell? ⟨w.heap.size + 1, 0, none⟩ = some (.string ⟨#[]⟩) := (hbz.out.cell 0).trans rfl
      have y1 : w3.cell? ⟨w.heap.size + 1, 1, none⟩ = some (.int .i64 0) := (hbz.out.cell 1).trans rfl
      have y2 : w3.cell? ⟨w.heap.size + 1, 2, none⟩ = some (.int .i64 0) := (hbz.out.cell 2).trans rfl
      have y3 : w3.cell? ⟨w.heap.size + 1, 3, none⟩ = some (.string ⟨#[]⟩) := (hbz.out.cell 3).trans rfl
      have f0 := hbz.out.fz 0
      have f1 := hbz.out.fz 1
      have f2 := hbz.out.fz 2
      have f3 := hbz.out.fz 3
      have hs1 : w.heap.size + 1 < w3.heap.size := cell_lt y0
      clear x0 x1 x2 x3 x4 hs0
      cases O with
      | none =>
        obtain ⟨rfl, -⟩ := optF_none h
        clear h hV
        go_wp2
        exact bodyPost_ret (v := .tuple #[.agg #[.string ⟨#[]⟩, .int .i64 0, .int .i64 0, .string ⟨#[]⟩], .int .i64 4]) (by first | (simp [results, Tryz.results48, go_sem, World.cell?_alloc_past, hs1, y0, y1, y2, y3]; done) | (simp [results, Tryz.results48, go_sem, y0, y1, y2, y3]; done) | simp [results, Tryz.results48, go_sem]) rfl (evalP (f := fD) hR.out (by repeat (first | with_reducible exact Ext.refl _ | with_reducible exact hE0 | with_reducible exact hE | with_reducible refine Ext.alloc ?_ _ | with_reducible refine Ext.drewN ?_ _ | with_reducible refine Ext.drew ?_ | ((with_reducible refine Ext.setCell ?_ ?side _); (case side => first | exact Nat.le_refl _ | (simp; done) | (simp; omega))))))
      | some f =>
        obtain ⟨rfl, -⟩ := optF_some h
        clear h hV
        go_wp2
        exact bodyPost_ret (v := .tuple #[.agg #[.string f.name, .int .i64 f.kind, .int .i64 f.n, .string f.text], .int .i64 0]) (by first | (simp [results, Tryz.results48, go_sem, World.cell?_alloc_past, hs1, y0, y1, y2, y3]; done) | (simp [results, Tryz.results48, go_sem, y0, y1, y2, y3]; done) | simp [results, Tryz.results48, go_sem]) rfl (evalP hR.out (by repeat (first | with_reducible exact Ext.refl _ | with_reducible exact hE0 | with_reducible exact hE | with_reducible refine Ext.alloc ?_ _ | with_reducible refine Ext.drewN ?_ _ | with_reducible refine Ext.drew ?_ | ((with_reducible refine Ext.setCell ?_ ?side _); (case side => first | exact Nat.le_refl _ | (simp; done) | (simp; omega))))))
    · exact absurd hn0.out hne
  · have d1 : (C2 != 0) = true := by simpa using h0
    replace hR := Lib.hid (hR.out.trans (if_pos h0))
    have y0 : w1.cell? ⟨w.heap.size + 1, 0, none⟩ = some (.string ⟨#[]⟩) := (hbz.out.cell 0).trans rfl
    have y1 : w1.cell? ⟨w.heap.size + 1, 1, none⟩ = some (.int .i64 0) := (hbz.out.cell 1).trans rfl
    have y2 : w1.cell? ⟨w.heap.size + 1, 2, none⟩ = some (.int .i64 0) := (hbz.out.cell 2).trans rfl
    have y3 : w1.cell? ⟨w.heap.size + 1, 3, none⟩ = some (.string ⟨#[]⟩) := (hbz.out.cell 3).trans rfl
    have f0 := hbz.out.fz 0
    have f1 := hbz.out.fz 1
    have f2 := hbz.out.fz 2
    have f3 := hbz.out.fz 3
    clear h0 hck hbz hbx
    go_wp2
    exact bodyPost_ret (v := .tuple #[.agg #[.string ⟨#[]⟩, .int .i64 0, .int .i64 0, .string ⟨#[]⟩], .int .i64 C2]) (by first | (simp [results, Tryz.results48, go_sem, y0, y1, y2, y3]; done) | simp [results, Tryz.results48, go_sem]) rfl (evalP (f := fD) hR.out (by repeat (first | with_reducible exact Ext.refl _ | with_reducible exact hE0 | with_reducible exact hE | with_reducible refine Ext.alloc ?_ _ | with_reducible refine Ext.drewN ?_ _ | with_reducible refine Ext.drew ?_ | ((with_reducible refine Ext.setCell ?_ ?side _); (case side => first | exact Nat.le_refl _ | (simp; done) | (simp; omega))))))
set_option maxRecDepth 8000 in
set_option maxHeartbeats 2000000 in
theorem eval_src (T : TypeId) (u : Value) {w : World} {v : Value} (x : Ex) (hS : ExS w v x.args) (fv : Value) (l : List Feat) (hF : Feats w fv l) (S : Bool → ByteArray → Int → Int) (hA : ∀ w1 E, Ext w w1 → w1.cell? ⟨E, 1, none⟩ = some (.iface T u) → Asker w1 E S) : Calls Tryz.prog 48 #[exAgg x v, fv, .iface T u] w (EvalPost (evalV x l S) w) := by
  obtain ⟨q, cp, rfl⟩ := hS.form
  obtain ⟨op, nm, tx, n, args⟩ := x
  simp only [Ex.args] at hS
  replace hS := Lib.hid hS
  replace hF := Lib.hid hF
  replace hA := Lib.hid hA
  obtain ⟨R, hR⟩ : ∃ R, R = evalV (.mk op nm tx n args) l S := ⟨_, rfl⟩
  rw [← hR]
  unfold evalV at hR
  have hC := Lib.hid (fun w1 (h : Ext w w1) => check_any (.mk op nm tx n args) (hS.out.ext h) fv l (hF.out.ext h))
  have hck := Lib.hid (checkV_ok (x := .mk op nm tx n args) (l := l))
  generalize hcv : checkV (.mk op nm tx n args) l = C at *
  obtain ⟨C1, C2⟩ := C
  unfold TyPost at hC
  simp only at hR hck hC
  replace hR := Lib.hid hR
  clear hcv
  rw [exAgg_mk]
  simp only [exAgg_mk, Ex.args] at hC ⊢
  go_enter Tryz.func48, Tryz.ntmps48
  go_wp2_with fail
  refine (hC.out _ (by repeat (first | with_reducible exact Ext.refl _ | with_reducible exact hE0 | with_reducible exact hE | with_reducible refine Ext.alloc ?_ _ | with_reducible refine Ext.drewN ?_ _ | with_reducible refine Ext.drew ?_ | ((with_reducible refine Ext.setCell ?_ ?side _); (case side => first | exact Nat.le_refl _ | (simp; done) | (simp; omega)))))).mono ?_
  rintro e w1 ⟨rfl, hE1⟩
  have hbz : Blk ((w.alloc (.cells #[.int .i64 op, .string nm, .string tx, .int .i64 n, .slice q args.length cp] 24)).alloc (.cells #[.string ⟨#[]⟩, .int .i64 0, .int .i64 0, .string ⟨#[]⟩] 43)) (w.heap.size + 1) #[.string ⟨#[]⟩, .int .i64 0, .int .i64 0, .string ⟨#[]⟩] 43 := Blk.new' _ _ _ _ (by simp)
  have hbx : Blk ((w.alloc (.cells #[.int .i64 op, .string nm, .string tx, .int .i64 n, .slice q args.length cp] 24)).alloc (.cells #[.string ⟨#[]⟩, .int .i64 0, .int .i64 0, .string ⟨#[]⟩] 43)) w.heap.size #[.int .i64 op, .string nm, .string tx, .int .i64 n, .slice q args.length cp] 24 := (Blk.new _ _ _).alloc _
  replace hbz := Lib.hid (hbz.ext hE1)
  replace hbx := Lib.hid (hbx.ext hE1)
  have hE : Ext w w1 := Ext.trans (by repeat (first | with_reducible exact Ext.refl _ | with_reducible exact hE0 | with_reducible exact hE | with_reducible refine Ext.alloc ?_ _ | with_reducible refine Ext.drewN ?_ _ | with_reducible refine Ext.drew ?_ | ((with_reducible refine Ext.setCell ?_ ?side _); (case side => first | exact Nat.le_refl _ | (simp; done) | (simp; omega))))) hE1
  clear hE1 hC
  by_cases h0 : C2 = 0
  · subst h0
    obtain ⟨hn0, -, hfm, hty⟩ := hck.out rfl
    replace hn0 := Lib.hid hn0
    replace hfm := Lib.hid hfm
    replace hty := Lib.hid hty
    clear hck
    go_wp2_with fail
    refine (names_any _ fv l (hF.out.ext hE)).mono ?_
    rintro e w2 ⟨hE2, h⟩
    replace hbz := Lib.hid (hbz.out.ext hE2)
    replace hbx := Lib.hid (hbx.out.ext hE2)
    replace hE := hE.trans hE2
    clear hE2
    rcases h with ⟨-, b, rfl, hbb, hM⟩ | ⟨hne, -⟩
    · replace hM := Lib.hid hM
      clear hbb
      have hE9 : Ext w (w2.alloc (.cells #[.map (some b), .iface T u] 89)) := hE.alloc _
      have x0 : w2.cell? ⟨w.heap.size, 0, none⟩ = some (.int .i64 op) := (hbx.out.cell 0).trans rfl
      have x1 : w2.cell? ⟨w.heap.size, 1, none⟩ = some (.string nm) := (hbx.out.cell 1).trans rfl
      have x2 : w2.cell? ⟨w.heap.size, 2, none⟩ = some (.string tx) := (hbx.out.cell 2).trans rfl
      have x3 : w2.cell? ⟨w.heap.size, 3, none⟩ = some (.int .i64 n) := (hbx.out.cell 3).trans rfl
      have x4 : w2.cell? ⟨w.heap.size, 4, none⟩ = some (.slice q args.length cp) := (hbx.out.cell 4).trans rfl
      have hs0 : w.heap.size < w2.heap.size := cell_lt x0
      have hbe := Blk.new w2 #[.map (some b), .iface T u] 89
      have hV := Lib.hid (value_any (hS.out.ext hE9) l S w2.heap.size b ((hbe.cell 0).trans rfl) (hM.out.ext ((Ext.refl _).alloc _)) (hA.out _ _ hE9 ((hbe.cell 1).trans rfl)) hn0.out (.mk op nm tx n args) rfl _ (Ext.refl _) hfm.out hty.out)
      replace hE9 := Lib.hid hE9
      clear hbe
      rw [if_neg (by simp)] at hR
      generalize (Ex.mk op nm tx n args).ev l S = O at *
      simp only [exAgg_mk] at hV
      go_wp2_with fail
      refine hV.out.mono ?_
      intro e w3 h
      replace hbz := Lib.hid (hbz.out.ext (Ext.trans ((Ext.refl _).alloc _) h.2))
      replace hE : Ext w w3 := hE9.out.trans h.2
      have y0 : w3.cell? ⟨w.heap.size + 1, 0, none⟩ = some (.string ⟨#[]⟩) := (hbz.out.cell 0).trans rfl
      have y1 : w3.cell? ⟨w.heap.size + 1, 1, none⟩ = some (.int .i64 0) := (hbz.out.cell 1).trans rfl
      have y2 : w3.cell? ⟨w.heap.size + 1, 2, none⟩ = some (.int .i64 0) := (hbz.out.cell 2).trans rfl
      have y3 : w3.cell? ⟨w.heap.size + 1, 3, none⟩ = some (.string ⟨#[]⟩) := (hbz.out.cell 3).trans rfl
      have f0 := hbz.out.fz 0
      have f1 := hbz.out.fz 1
      have f2 := hbz.out.fz 2
      have f3 := hbz.out.fz 3
      have hs1 : w.heap.size + 1 < w3.heap.size := cell_lt y0
      clear x0 x1 x2 x3 x4 hs0
      cases O with
      | none =>
        obtain ⟨rfl, -⟩ := optF_none h
        clear h hV
        go_wp2
        exact bodyPost_ret (v := .tuple #[.agg #[.string ⟨#[]⟩, .int .i64 0, .int .i64 0, .string ⟨#[]⟩], .int .i64 4]) (by first | (simp [results, Tryz.results48, go_sem, World.cell?_alloc_past, hs1, y0, y1, y2, y3]; done) | (simp [results, Tryz.results48, go_sem, y0, y1, y2, y3]; done) | simp [results, Tryz.results48, go_sem]) rfl (evalP (f := fD) hR.out (by repeat (first | with_reducible exact Ext.refl _ | with_reducible exact hE0 | with_reducible exact hE | with_reducible refine Ext.alloc ?_ _ | with_reducible refine Ext.drewN ?_ _ | with_reducible refine Ext.drew ?_ | ((with_reducible refine Ext.setCell ?_ ?side _); (case side => first | exact Nat.le_refl _ | (simp; done) | (simp; omega))))))
      | some f =>
        obtain ⟨rfl, -⟩ := optF_some h
        clear h hV
        go_wp2
        exact bodyPost_ret (v := .tuple #[.agg #[.string f.name, .int .i64 f.kind, .int .i64 f.n, .string f.text], .int .i64 0]) (by first | (simp [results, Tryz.results48, go_sem, World.cell?_alloc_past, hs1, y0, y1, y2, y3]; done) | (simp [results, Tryz.results48, go_sem, y0, y1, y2, y3]; done) | simp [results, Tryz.results48, go_sem]) rfl (evalP hR.out (by repeat (first | with_reducible exact Ext.refl _ | with_reducible exact hE0 | with_reducible exact hE | with_reducible refine Ext.alloc ?_ _ | with_reducible refine Ext.drewN ?_ _ | with_reducible refine Ext.drew ?_ | ((with_reducible refine Ext.setCell ?_ ?side _); (case side => first | exact Nat.le_refl _ | (simp; done) | (simp; omega))))))
    · exact absurd hn0.out hne
  · have d1 : (C2 != 0) = true := by simpa using h0
    replace hR := Lib.hid (hR.out.trans (if_pos h0))
    have y0 : w1.cell? ⟨w.heap.size + 1, 0, none⟩ = some (.string ⟨#[]⟩) := (hbz.out.cell 0).trans rfl
    have y1 : w1.cell? ⟨w.heap.size + 1, 1, none⟩ = some (.int .i64 0) := (hbz.out.cell 1).trans rfl
    have y2 : w1.cell? ⟨w.heap.size + 1, 2, none⟩ = some (.int .i64 0) := (hbz.out.cell 2).trans rfl
    have y3 : w1.cell? ⟨w.heap.size + 1, 3, none⟩ = some (.string ⟨#[]⟩) := (hbz.out.cell 3).trans rfl
    have f0 := hbz.out.fz 0
    have f1 := hbz.out.fz 1
    have f2 := hbz.out.fz 2
    have f3 := hbz.out.fz 3
    clear h0 hck hbz hbx
    go_wp2
    exact bodyPost_ret (v := .tuple #[.agg #[.string ⟨#[]⟩, .int .i64 0, .int .i64 0, .string ⟨#[]⟩], .int .i64 C2]) (by first | (simp [results, Tryz.results48, go_sem, y0, y1, y2, y3]; done) | simp [results, Tryz.results48, go_sem]) rfl (evalP (f := fD) hR.out (by repeat (first | with_reducible exact Ext.refl _ | with_reducible exact hE0 | with_reducible exact hE | with_reducible refine Ext.alloc ?_ _ | with_reducible refine Ext.drewN ?_ _ | with_reducible refine Ext.drew ?_ | ((with_reducible refine Ext.setCell ?_ ?side _); (case side => first | exact Nat.le_refl _ | (simp; done) | (simp; omega))))))
end Go.Proofs.YtpdpjindmghfpaaGreatDoor
