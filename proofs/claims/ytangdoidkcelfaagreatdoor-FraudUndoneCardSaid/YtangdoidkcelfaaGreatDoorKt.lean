/- The contract of fraud.New (walk; printed by gen/h35.py). -/
import Derived.Test.YtangdoidkcelfaaGreatDoorKs
import Derived.Laws.AppendOwnNone
namespace Go.Proofs.YtangdoidkcelfaaGreatDoor
open Go.RowKit Go.Sort
theorem formed_parts : ∀ (x : Ex), x.formed = true → ∀ y ∈ x.parts, hasF y = true
 | .mk op nm tx n args, h, y, hy => by
  rw [formed_eq, Bool.and_eq_true] at h
  rw [parts_mk, List.mem_cons] at hy
  rcases hy with rfl | hy
  · exact h.1
  · exact formed_partsL args h.2 y hy
where formed_partsL : ∀ (l : List Ex), l.all Ex.formed = true → ∀ y ∈ Ex.parts.partsL l, hasF y = true
 | [], _, y, hy => by rw [Ex.parts.partsL] at hy; cases hy
 | x :: l, h, y, hy => by
  rw [List.all_cons, Bool.and_eq_true] at h
  rw [Ex.parts.partsL, List.mem_append] at hy
  rcases hy with hy | hy
  · exact formed_parts x h.1 y hy
  · exact formed_partsL l h.2 y hy
theorem long1_bd (m : Int) (x : Ex) (hx : hasF x = true) (h : 0 ≤ m ∧ m ≤ 10000000) : 0 ≤ long1 m x ∧ long1 m x ≤ 10000000 := by
 unfold long1
 split
 · rename_i ho
   have hn : 1 ≤ x.n ∧ x.n ≤ 10000000 := by
    unfold hasF hasFv at hx
    rcases ho with ho | ho <;>
    · rw [ho] at hx
      simp at hx
      exact ⟨hx.1.1.1.2, hx.1.1.2⟩
   omega
 · exact h
theorem foldl_long_bd : ∀ (l : List Ex), (∀ y ∈ l, hasF y = true) → ∀ m, 0 ≤ m ∧ m ≤ 10000000 → 0 ≤ l.foldl long1 m ∧ l.foldl long1 m ≤ 10000000
 | [], _, _, h => h
 | x :: l, hl, m, h => foldl_long_bd l (fun y hy => hl y (List.mem_cons_of_mem _ hy)) _ (long1_bd m x (hl x (List.mem_cons_self ..)) h)
theorem long_bd (x : Ex) (h : x.formed = true) : 0 ≤ x.long ∧ x.long ≤ 10000000 := foldl_long_bd _ (formed_parts x h) 0 (by omega)
theorem check_formed {x : Ex} {fs : List Feat} (h : (checkV x fs).2 = 0) : x.formed = true := by
 unfold checkV at h
 split at h
 · rename_i hn; exact absurd h hn
 · split at h
   · cases h
   · split at h
     · cases h
     · rename_i hf; simpa using hf
theorem frT_formed (fs : List Feat) : ∀ l : List FrR, frT fs l = 0 → ∀ r ∈ l, r.when.formed = true
 | [], _, r, hr => by cases hr
 | x :: l, h, r, hr => by
  rw [frT] at h
  by_cases h1 : (checkV x.when fs).2 ≠ 0
  · rw [if_pos h1] at h; exact absurd h h1
  · rw [if_neg h1] at h
    by_cases h2 : (checkV x.when fs).1 ≠ 3
    · rw [if_pos h2] at h; cases h
    · rw [if_neg h2] at h
      rcases List.mem_cons.1 hr with rfl | hr
      · exact check_formed (by simpa using h1)
      · exact frT_formed fs l h r hr
theorem frE_formed {l : List FrR} {refer decline : Int} (h : frE l refer decline = 0) : l.length ≤ 64 ∧ (1 ≤ refer ∧ refer ≤ decline ∧ decline ≤ 1000000) ∧ frN [] l = 0 ∧ ∀ r ∈ l, r.when.formed = true := by
 unfold frE at h
 by_cases h1 : 64 < l.length
 · rw [if_pos h1] at h; cases h
 · rw [if_neg h1] at h
   by_cases h2 : frN [] l ≠ 0
   · rw [if_pos h2] at h; exact absurd h h2
   · rw [if_neg h2] at h
     by_cases h3 : refer < 1 ∨ decline < refer ∨ 1000000 < decline
     · rw [if_pos h3] at h; cases h
     · rw [if_neg h3] at h
       exact ⟨by omega, by omega, by simpa using h2, frT_formed _ _ h⟩
def wnsF (r : FrR) : List (List UInt8) := uniL r.when.wins
theorem horV_snoc (l : List FrR) (r : FrR) : horV (l ++ [r]) = max (horV l) r.when.long := by unfold horV; rw [List.foldl_append]; rfl
theorem foldl_hor_bd : ∀ (l : List FrR), (∀ r ∈ l, r.when.formed = true) → ∀ m : Int, 1 ≤ m ∧ m ≤ 10000000 → 1 ≤ l.foldl (fun h r => max h r.when.long) m ∧ l.foldl (fun h r => max h r.when.long) m ≤ 10000000
 | [], _, m, h => h
 | x :: l, hl, m, h => by
  have h1 := long_bd x.when (hl x (List.mem_cons_self ..))
  exact foldl_hor_bd l (fun y hy => hl y (List.mem_cons_of_mem _ hy)) (max m x.when.long) (by omega)
theorem horV_bd {l : List FrR} (h : ∀ r ∈ l, r.when.formed = true) : 1 ≤ horV l ∧ horV l ≤ 10000000 := foldl_hor_bd l h 1 (by omega)
theorem wns_len (r : FrR) : (wnsF r).length ≤ r.when.parts.length := Nat.le_trans (uniL_len _) (win_len _)
theorem flat_wns_len : ∀ l : List FrR, (l.flatMap wnsF).length ≤ (l.flatMap (·.when.parts)).length
 | [] => by simp
 | x :: l => by
  have h1 := wns_len x
  have h2 := flat_wns_len l
  simp only [List.flatMap_cons, List.length_append]
  omega
theorem flat_take_len {α β : Type} (f : α → List β) (l : List α) (k : Nat) : ((l.take k).flatMap f).length ≤ (l.flatMap f).length := by
 conv => rhs; rw [← List.take_append_drop k l, List.flatMap_append, List.length_append]
 omega
theorem parts_mem_len {l : List FrR} {r : FrR} (h : r ∈ l) : r.when.parts.length ≤ (l.flatMap (·.when.parts)).length := by
 obtain ⟨s, t, rfl⟩ := List.append_of_mem h
 simp only [List.flatMap_append, List.flatMap_cons, List.length_append]
 omega
theorem infoRlE : (Tryz.prog.info? 46).map (fun i => (i.zero, i.size, i.bytes)) = some (some (.agg #[.string ⟨#[]⟩, .int .i64 0, .string ⟨#[]⟩, .string ⟨#[]⟩, .int .i64 0, .slice none 0 0, .int .i64 0, .int .i64 0]), 8, 104) := by kernel_rfl
/-- What New returns. -/
def NewP (l : List FrR) (refer decline : Int) (w : World) (e : Ending) (w' : World) : Prop :=
 (frE l refer decline ≠ 0 ∧ e = .returned (.tuple #[.pointer none, .int .i64 (frE l refer decline)]) ∧ Ext w w') ∨
 (frE l refer decline = 0 ∧ ∃ X V uv vv rv tv, e = .returned (.tuple #[.pointer (some ⟨X, 0, none⟩), .int .i64 0]) ∧ w.heap.size ≤ X ∧ EngM w' X V uv vv rv tv (newV l refer decline) ∧ Ext w w')
set_option maxRecDepth 8000 in
set_option maxHeartbeats 16000000 in
theorem new_any (rv : Value) (l : List FrR) (refer decline : Int) (w : World) (hR : FrsM w rv l) (hp : (l.flatMap (·.when.parts)).length ≤ 1000000) : Calls Tryz.prog 13 #[rv, .int .i64 refer, .int .i64 decline] w (NewP l refer decline w) := by
 have kC := Lib.hid (frcheck_any rv l refer decline w hR)
 obtain ⟨lp, lc, rfl⟩ := hR.form
 by_cases hE0 : frE l refer decline = 0
 · rw [hE0] at kC
   obtain ⟨hll, hrd, -, hfm⟩ := frE_formed hE0
   have hend := Lib.hid (fun e w' (h : ∃ X V uv vv rv tv, e = .returned (.tuple #[.pointer (some ⟨X, 0, none⟩), .int .i64 0]) ∧ w.heap.size ≤ X ∧ EngM w' X V uv vv rv tv (newV l refer decline) ∧ Ext w w') => show NewP l refer decline w e w' from Or.inr ⟨hE0, h⟩)
   generalize NewP l refer decline w = PP at *
   have hpi := Lib.hid (fun i (hi : i < l.length) => Nat.le_trans (parts_mem_len (l := l) (r := l.getD i frD) (by rw [List.getD_eq_getElem?_getD, List.getElem?_eq_getElem hi, Option.getD_some]; exact List.getElem_mem hi)) hp)
   have hAk := Lib.hid (fun k => Nat.le_trans (flat_take_len wnsF l k) (Nat.le_trans (flat_wns_len l) hp))
   have hfm := Lib.hid hfm
   clear hE0 hp
   replace hR := Lib.hid hR
   obtain ⟨i0, hi, hz0, hz1, hz2⟩ := info_partsE infoRlE
   replace hi := Lib.hid hi
   replace hz0 := Lib.hid hz0
   replace hz1 := Lib.hid hz1
   replace hz2 := Lib.hid hz2
   obtain ⟨s0, hs, hs0, hs1, hs2⟩ := info_partsE infoStrE
   replace hs := Lib.hid hs
   replace hs0 := Lib.hid hs0
   replace hs1 := Lib.hid hs1
   replace hs2 := Lib.hid hs2
   go_enter Tryz.func13, Tryz.ntmps13
   go_wp2_with fail
   refine kC.out.mono ?_
   rintro e w1 ⟨rfl, hE1⟩
   clear kC
   go_wp2_with fail
   have hX0 := hE1.size
   go_loopw [33] (fun i wr => ∃ k : Nat, k ≤ l.length ∧ i = .int .i64 k ∧ NewS w w1.heap.size refer decline (l.take k) ((l.take k).flatMap wnsF) (horV (l.take k)) wr) (fun i _ => l.length - (intOf i).toNat)
   case atStart =>
    exact ⟨0, Nat.zero_le _, rfl, hE1.alloc _, hX0, by simp, .slice none 0 0, .slice none 0 0, [], Blk.new w1 _ _, ⟨rfl, ⟨rfl, Or.inl ⟨rfl, rfl⟩⟩, fun i hi => by simp at hi⟩, rfl, Or.inl ⟨rfl, rfl⟩⟩
   case round =>
    obtain ⟨k, hk, rfl, hN⟩ := hrel
    generalize w1.heap.size = X at *
    by_cases hlt : k < l.length
    · clear hend
      obtain ⟨b, off, rfl, sv, hkid⟩ := hR.out.at (by omega)
      obtain ⟨hc, hsu⟩ := hkid k hlt
      have hEr := hN.1
      replace hsu := hsu.ext hEr
      obtain ⟨h0, h1, h2, h3, h4, h5, h6, h7⟩ := hc.ext hEr
      have hpk := hpi.out k hlt
      have hst1 := Lib.hid (fr_take hlt)
      have hst2 := Lib.hid (show (l.take (k + 1)).flatMap wnsF = (l.take k).flatMap wnsF ++ wnsF (l.getD k frD) by rw [fr_take hlt, List.flatMap_append]; simp)
      have hst3 := Lib.hid (show horV (l.take (k + 1)) = max (horV (l.take k)) (l.getD k frD).when.long by rw [fr_take hlt, horV_snoc])
      obtain ⟨uq, uc, huv⟩ := hsu.form
      generalize l.getD k frD = r at *
      rw [huv] at h5 hsu
      clear huv hc hkid
      have hAl := hAk.out k
      have hAl2 := Lib.hid (by have h := hAk.out (k + 1); rw [hst2.out, List.length_append] at h; exact h)
      have hkl : Hid ((l.take k).length ≤ 64) := Lib.hid (by rw [List.length_take]; omega)
      generalize (l.take k).flatMap wnsF = acc at *
      generalize horV (l.take k) = H at *
      generalize l.take k = ys at *
      have kL := Lib.hid (fun w2 (h : Ext wr w2) => clone_any hsu r.when rfl w2 h hpk)
      unfold exAgg at kL
      replace hN := Lib.hid hN
      go_wp2_with fail
      have hEx : Ext wr (wr.alloc (.cells #[.string r.name, .int .i64 r.when.op, .string r.when.name, .string r.when.text, .int .i64 r.when.n, .slice uq r.when.args.length uc, .int .i64 r.act, .int .i64 r.score] 46)) := (Ext.refl _).alloc _
      have bR := (Blk.new wr #[.string r.name, .int .i64 r.when.op, .string r.when.name, .string r.when.text, .int .i64 r.when.n, .slice uq r.when.args.length uc, .int .i64 r.act, .int .i64 r.score] 46)
      refine (kL.out _ hEx).mono ?_
      rintro e w2 ⟨p1, q1, rfl, hXB, hE2⟩
      replace bR := bR.ext hE2
      have hE3 := hEx.trans hE2
      have hlR := bR.lt
      have hsz2 : wr.heap.size < (wr.alloc (.cells #[.string r.name, .int .i64 r.when.op, .string r.when.name, .string r.when.text, .int .i64 r.when.n, .slice uq r.when.args.length uc, .int .i64 r.act, .int .i64 r.score] 46)).heap.size := by simp
      clear kL hEx hE2 h0 h1 h2 h3 h4 h5 h6 h7
      have x1 : w2.cell? ⟨wr.heap.size, 1, none⟩ = some (.int .i64 r.when.op) := (bR.cell 1).trans rfl
      have x2 : w2.cell? ⟨wr.heap.size, 2, none⟩ = some (.string r.when.name) := (bR.cell 2).trans rfl
      have x3 : w2.cell? ⟨wr.heap.size, 3, none⟩ = some (.string r.when.text) := (bR.cell 3).trans rfl
      have x4 : w2.cell? ⟨wr.heap.size, 4, none⟩ = some (.int .i64 r.when.n) := (bR.cell 4).trans rfl
      have x5 : w2.cell? ⟨wr.heap.size, 5, none⟩ = some (.slice uq r.when.args.length uc) := (bR.cell 5).trans rfl
      have f1 := bR.fz 1
      have f2 := bR.fz 2
      have f3 := bR.fz 3
      have f4 := bR.fz 4
      have f5 := bR.fz 5
      go_wp2_with fail
      obtain ⟨w4, hw4⟩ : ∃ w4, w4 = ((((((w2.setCell ⟨wr.heap.size, 1, none⟩ (.int .i64 r.when.op)).setCell ⟨wr.heap.size, 2, none⟩ (.string r.when.name)).setCell ⟨wr.heap.size, 3, none⟩ (.string r.when.text)).setCell ⟨wr.heap.size, 4, none⟩ (.int .i64 r.when.n)).setCell ⟨wr.heap.size, 5, none⟩ (.slice p1 r.when.args.length q1))) := ⟨_, rfl⟩
      rw [← hw4]
      have hE4 : Ext wr w4 := by rw [hw4]; exact ((((hE3.setCell (Nat.le_refl _) _).setCell (Nat.le_refl _) _).setCell (Nat.le_refl _) _).setCell (Nat.le_refl _) _).setCell (Nat.le_refl _) _
      have bR4 : Blk w4 wr.heap.size #[.string r.name, .int .i64 r.when.op, .string r.when.name, .string r.when.text, .int .i64 r.when.n, .slice p1 r.when.args.length q1, .int .i64 r.act, .int .i64 r.score] 46 := by rw [hw4]; exact ((((bR.set 1 _).set 2 _).set 3 _).set 4 _).set 5 _
      obtain ⟨hEw, -, hyl, rv, tv, us, bX, ⟨hus, hrow, hks⟩, hTg⟩ := hN.out
      have hrB := hrow.lt
      have htB := hTg.lt
      have hXB4 : ExB w4 (fun j => X < j ∧ rv.ownBlock ≠ some j ∧ tv.ownBlock ≠ some j) (.slice p1 r.when.args.length q1) r.when.args := by
       have hb2 := hXB.imp (ok' := fun j => wr.heap.size < j) (fun j hj _ => by omega)
       have hb4 : ExB w4 (fun j => wr.heap.size < j) (.slice p1 r.when.args.length q1) r.when.args := by
        rw [hw4]
        exact hb2.move fun j hj hjl => by rw [Below.heap_setCell _ _ _ _ (show j ≠ wr.heap.size by omega), Below.heap_setCell _ _ _ _ (show j ≠ wr.heap.size by omega), Below.heap_setCell _ _ _ _ (show j ≠ wr.heap.size by omega), Below.heap_setCell _ _ _ _ (show j ≠ wr.heap.size by omega), Below.heap_setCell _ _ _ _ (show j ≠ wr.heap.size by omega)]
       have hXl := Blk.lt bX
       exact hb4.imp fun j hj _ => ⟨by omega, fun e => by have := (hrB j e).2; omega, fun e => by have := (htB j e).2; omega⟩
      have hXR : wr.heap.size ≠ X := by have := Blk.lt bX; omega
      have hrR : rv.ownBlock ≠ some wr.heap.size := fun e => by have := (hrB _ e).2; omega
      replace bX : NewX w4 X refer decline H rv tv := Blk.ext bX hE4
      replace hrow := ownsRow_extE hrow hE4
      replace hks := fun i hi => (hks i hi).ext hE4
      replace hTg : TagsN w4 X tv acc := ownsRow_extE hTg hE4
      have hEw4 := hEw.trans hE4
      have hlR4 := bR4.lt
      clear hw4 hXB bR x1 x2 x3 x4 x5 f1 f2 f3 f4 f5 hE3 hrB htB hEw hN hsz2 hlR hE4
      generalize wr.heap.size = R at *
      obtain ⟨rp, rc, rfl⟩ := own_form hrow
      obtain ⟨tp, tc, rfl⟩ := own_form hTg
      have hpush := Lib.hid (fun gg cap w5 hown hg hat => newS_rule (gg := gg) (cap := cap) (w5 := w5) (y := r) (u := .slice p1 r.when.args.length q1) hEw4 (hX0 : w.heap.size ≤ X) (by have := hkl.out; omega) bX ⟨hus, hrow, hks⟩ hTg hXB4 #[.string r.name, .int .i64 r.when.op, .string r.when.name, .string r.when.text, .int .i64 r.when.n, .slice p1 r.when.args.length q1, .int .i64 r.act, .int .i64 r.score] hg hat hown)
      have a4 : w4.cell? ⟨X, 4, none⟩ = some (.slice rp ys.length rc) := (Blk.cell bX 4).trans rfl
      have f4 : w4.frozen? ⟨X, 4, none⟩ = false := Blk.fz bX 4
      have lX := Blk.lt bX
      have y0 : w4.cell? ⟨R, 0, none⟩ = some (.string r.name) := (bR4.cell 0).trans rfl
      have y1 : w4.cell? ⟨R, 1, none⟩ = some (.int .i64 r.when.op) := (bR4.cell 1).trans rfl
      have y2 : w4.cell? ⟨R, 2, none⟩ = some (.string r.when.name) := (bR4.cell 2).trans rfl
      have y3 : w4.cell? ⟨R, 3, none⟩ = some (.string r.when.text) := (bR4.cell 3).trans rfl
      have y4 : w4.cell? ⟨R, 4, none⟩ = some (.int .i64 r.when.n) := (bR4.cell 4).trans rfl
      have y5 : w4.cell? ⟨R, 5, none⟩ = some (.slice p1 r.when.args.length q1) := (bR4.cell 5).trans rfl
      have y6 : w4.cell? ⟨R, 6, none⟩ = some (.int .i64 r.act) := (bR4.cell 6).trans rfl
      have y7 : w4.cell? ⟨R, 7, none⟩ = some (.int .i64 r.score) := (bR4.cell 7).trans rfl
      have hX4 := Lib.hid (show X + 1 ≤ w4.heap.size by omega)
      replace hrow := Lib.hid hrow
      replace bR4 := Lib.hid bR4
      clear hks hTg hXB4 bX hEw4 hsu
      go_region_law ((refine step_append_lies _ (by rfl) _ _ _ (by rfl) (X + 1) 46 i0 (.agg #[.string ⟨#[]⟩, .int .i64 0, .string ⟨#[]⟩, .string ⟨#[]⟩, .int .i64 0, .slice none 0 0, .int .i64 0, .int .i64 0]) 8 104 Tryz.underlying47 hi.out hz0.out hz1.out hz2.out rfl (by omega) (.slice rp ys.length rc) ys.length (frFlat ys us) (by rfl) (by first | exact (ownsRow_extE hrow.out ((Ext.refl _).alloc _)).drew | exact ownsRow_extE hrow.out ((Ext.refl _).alloc _)) ⟨w4.heap.size, 0, none⟩ 1 1 (frCells r (.slice p1 r.when.args.length q1)) (by rfl) (by rfl) (by first | exact cell_eight_new (Blk.new' _ _ _ _ rfl) | exact cell_eight_new (Blk.new' _ _ _ _ (by simp))) (fr_one _ _ _ _) (by omega) (by have := hkl.out; unfold maxLen; omega) (by have := hkl.out; omega) (by have := hX4.out; simp; omega) (w4.heap.size + 1) (by simp) ?_; intro gg cap w5 hown5 hgrow5 hat5 hgl5; have hP := Lib.hid (hpush.out gg cap w5 hown5 (by first | exact grown_undrew hgrow5 | exact hgrow5) hat5); have bX5 := hP.out.1; have a4 : w5.cell? ⟨X, 4, none⟩ = some (.slice rp ys.length rc) := (bX5.cell 4).trans rfl; have f4 : w5.frozen? ⟨X, 4, none⟩ = false := bX5.fz 4; have lX := bX5.lt; clear bX5 hown5 hgrow5 hat5 hgl5))
      all_goals
       obtain ⟨-, hXS, hbk, hN6⟩ := hP.out
       have bR6 := hbk R #[.string r.name, .int .i64 r.when.op, .string r.when.name, .string r.when.text, .int .i64 r.when.n, .slice p1 r.when.args.length q1, .int .i64 r.act, .int .i64 r.score] 46 bR4.out hXR hrR
       clear hP hbk bR4 hpush hrow a4 f4 y0 y1 y2 y3 y4 y5 y6 y7 hX4 hus
       generalize w5.setCell ⟨X, 4, none⟩ (.slice (some ⟨gg, 0, none⟩) (ys.length + 1) cap) = w6 at *
       have y1 : w6.cell? ⟨R, 1, none⟩ = some (.int .i64 r.when.op) := (bR6.cell 1).trans rfl
       have y2 : w6.cell? ⟨R, 2, none⟩ = some (.string r.when.name) := (bR6.cell 2).trans rfl
       have y3 : w6.cell? ⟨R, 3, none⟩ = some (.string r.when.text) := (bR6.cell 3).trans rfl
       have y4 : w6.cell? ⟨R, 4, none⟩ = some (.int .i64 r.when.n) := (bR6.cell 4).trans rfl
       have y5 : w6.cell? ⟨R, 5, none⟩ = some (.slice p1 r.when.args.length q1) := (bR6.cell 5).trans rfl
       have kW := Lib.hid (fun w7 (h : Ext w6 w7) => show Calls Tryz.prog 36 #[exAgg r.when (.slice p1 r.when.args.length q1)] w7 (WinsP (wnsF r) r.when.long w7) from windows_fn r.when (hXS.ext h) hpk)
       unfold exAgg at kW
       replace hN6 := Lib.hid hN6
       clear bR6 hXS
       go_wp2_with fail
       have hE7 : Ext w6 w6.drew := (Ext.refl _).drew
       refine (kW.out _ (by first | exact Ext.refl _ | exact hE7)).mono ?_
       rintro e w8 ⟨nv, rfl, hnv, hE8⟩
       have hN8 := hN6.out w8 (by first | exact hE8 | exact hE7.trans hE8)
       clear kW hN6 hE7 hE8 y1 y2 y3 y4 y5
       obtain ⟨hE9, -, hyl9, rv9, tv9, us9, bX9, hRw9, hTg9⟩ := hN8
       obtain ⟨np, nc, rfl, hnl, hnc⟩ := hnv
       obtain ⟨tp9, tc9, rfl⟩ := own_form hTg9
       have a1 : w8.cell? ⟨X, 1, none⟩ = some (.int .i64 H) := (Blk.cell bX9 1).trans rfl
       have a5 : w8.cell? ⟨X, 5, none⟩ = some (.slice tp9 acc.length tc9) := (Blk.cell bX9 5).trans rfl
       have f1 : w8.frozen? ⟨X, 1, none⟩ = false := Blk.fz bX9 1
       have f5 : w8.frozen? ⟨X, 5, none⟩ = false := Blk.fz bX9 5
       have lX8 := Blk.lt bX9
       by_cases hz : (wnsF r).length = 0
       · obtain hze := List.length_eq_zero_iff.1 hz
         rw [hze, List.append_nil] at hst2
         rw [hze]
         have hN9 := Lib.hid (newS_none hE9 hX0 hyl9 bX9 hRw9 hTg9 (Ext.refl _))
         clear hE9 hyl9 bX9 hRw9 hnl hnc hze hz
         replace hTg9 := Lib.hid hTg9
         go_wp2_with (at_builtin; refine wpList_append_empty rfl _ _ 22 rfl (X + 1) 9 s0 1 Tryz.underlying22 hs.out _ acc.length (acc.map encStr) rfl hTg9.out np nc rfl ?_)
         go_roundw
         case rel => exact ⟨k + 1, by omega, by go_num, by rw [hst2.out, hst3.out, hst1.out]; exact newS_horS hN9.out (Ext.refl _)⟩
         case measure => simp [intOf]; omega
       · obtain ⟨nb, noff, rfl, hcells⟩ := hnc (by omega)
         have hna := Lib.hid hAl2.out
         have hnz : 0 < (wnsF r).length := by omega
         have hX9 := Lib.hid (show X + 1 ≤ w8.heap.size by omega)
         have hN12 := Lib.hid (fun gg cap w12 hown hg hat => newS_names (m := (wnsF r).length) (gg := gg) (cap := cap) (w5 := w12) hE9 hX0 hyl9 bX9 hRw9 hTg9 rfl hg hat hown)
         have hnews := Lib.hid (strs_news hcells)
         clear hE9 hyl9 bX9 hRw9 hnl hnc hz hcells
         replace hTg9 := Lib.hid hTg9
         replace hna := Lib.hid (show acc.length + (wnsF r).length ≤ 1000000 from hna.out)
         have hon := Lib.hid (strs_one (wnsF r))
         have hml := Lib.hid (show ((wnsF r).map encStr).length = (wnsF r).length * 1 by simp)
         generalize (wnsF r).map encStr = NW at *
         generalize hNL : (wnsF r).length = NL at *
         clear hNL
         go_wp2_with (at_builtin; refine wpList_append_lies _ rfl _ _ 22 rfl (X + 1) 9 s0 (.string ⟨#[]⟩) 1 16 Tryz.underlying22 hs.out hs0.out hs1.out hs2.out rfl (by decide) _ acc.length (acc.map encStr) rfl hTg9.out ⟨nb, noff, none⟩ NL nc NW rfl hml.out hnews.out hon.out hnz (by have := hna.out; unfold maxLen; omega) (by have := hna.out; omega) hX9.out w8.heap.size rfl ?_; intro gg2 cap2 w12 hown12 hgrow12 hat12 hgl12; have hP2 := Lib.hid (hN12.out gg2 cap2 w12 hown12 hgrow12 hat12); have b12 := hP2.out.1; have a1 : w12.cell? ⟨X, 1, none⟩ = some (.int .i64 H) := (Blk.cell b12 1).trans rfl; have a5 : w12.cell? ⟨X, 5, none⟩ = some (.slice tp9 acc.length tc9) := (Blk.cell b12 5).trans rfl; have f1 : w12.frozen? ⟨X, 1, none⟩ = false := Blk.fz b12 1; have f5 : w12.frozen? ⟨X, 5, none⟩ = false := Blk.fz b12 5; have lX12 := Blk.lt b12; clear b12 hown12 hgrow12 hat12)
         go_roundw
         case rel => exact ⟨k + 1, by omega, by go_num, by rw [hst2.out, hst3.out, hst1.out]; exact newS_horS (hP2.out.2 _ (Ext.refl _)) (Ext.refl _)⟩
         case measure => simp [intOf]; omega
    · obtain rfl : k = l.length := by omega
      rw [List.take_length] at hN
      have hAl := hAk.out l.length
      rw [List.take_length] at hAl
      have hb := horV_bd hfm.out
      have hfin := Lib.hid (fun e w' X V uv vv rv tv h => hend.out e w' ⟨X, V, uv, vv, rv, tv, h⟩)
      have hnw := Lib.hid (show newV l refer decline = ⟨⟨horV l, 0, []⟩, horV l, 0, [], l, uniL (l.flatMap wnsF), refer, decline⟩ from rfl)
      clear hpi hAk hfm hend hR
      generalize l.flatMap wnsF = acc at *
      generalize horV l = H at *
      obtain ⟨hE9, -, hyl, rv, tv, us, bX, hRw, hTg⟩ := hN
      have d0 : decide ((l.length : Int) < (l.length : Int)) = false := decide_eq_false (by omega)
      have kV := Lib.hid (fun w2 => velNew_any H w2)
      by_cases hz : acc.length = 0
      · obtain rfl := List.length_eq_zero_iff.1 hz
        have hTb : StrsB wr (fun j => X < j) tv (uniL []) := by
         obtain ⟨tp, tc, rfl⟩ := own_form hTg
         rw [uniL_nil]
         exact ⟨tp, tc, rfl, by simp, fun h => by simp at h⟩
        obtain ⟨tp, tc, rfl⟩ := own_form hTg
        simp only [List.length_nil] at bX hRw hTg hTb
        have a5 : wr.cell? ⟨X, 5, none⟩ = some (.slice tp 0 tc) := (Blk.cell bX 5).trans rfl
        have f5 : wr.frozen? ⟨X, 5, none⟩ = false := Blk.fz bX 5
        have a1 : wr.cell? ⟨X, 1, none⟩ = some (.int .i64 H) := (Blk.cell bX 1).trans rfl
        have lX := Blk.lt bX
        have bX5 : NewX (wr.setCell ⟨X, 5, none⟩ (.slice tp 0 tc)) X refer decline H rv (.slice tp 0 tc) := Blk.set bX 5 _
        have hR5 := rowsN_set hRw 5 (.slice tp 0 tc)
        have hE5 := hE9.setCell (p := ⟨X, 5, none⟩) hX0 (.slice tp 0 tc)
        replace hTb : StrsB (wr.setCell ⟨X, 5, none⟩ (.slice tp 0 tc)) (fun j => X < j) (.slice tp 0 tc) (uniL []) := hTb.chg (F := fun k => k = X) ((Chg.refl (fun k => k = X) wr).setCell (p := ⟨X, 5, none⟩) (Or.inl rfl) _) (fun j hj e => by omega)
        replace hR5 := Lib.hid hR5
        replace hTb := Lib.hid hTb
        replace bX5 := Lib.hid bX5
        clear hRw hTg bX
        go_wp2_with fail
        refine (Tryz.slices_Sort_string_none tp tc _).mono ?_
        rintro e w2 ⟨rfl, rfl⟩
        go_wp2_with fail
        refine (Tryz.slices_Compact_string_empty tp tc _).mono ?_
        rintro e w2 ⟨rfl, rfl⟩
        go_wp2_with fail
        generalize w2.setCell ⟨X, 5, none⟩ (.slice tp 0 tc) = W at *
        have hVl := Blk.lt bX5.out
        refine (kV.out _).mono ?_
        rintro e w4 (⟨-, -, V, rfl, hVz, hVM, hE4⟩ | ⟨hno, -⟩)
        · have bX4 := Blk.ext bX5.out hE4
          have a0 : w4.cell? ⟨X, 0, none⟩ = some (.pointer none) := (Blk.cell bX4 0).trans rfl
          have f0 : w4.frozen? ⟨X, 0, none⟩ = false := Blk.fz bX4 0
          have lX4 := Blk.lt bX4
          have hend := Lib.hid (fun w6 h6 => new_end (w6 := w6) hE5 hX0 hyl bX5.out hR5.out hTb.out hE4 hVz hVM h6)
          clear bX4 bX5 hR5 hTb hVM
          go_wp2
          try go_ret2
          exact hfin.out _ _ X V _ _ _ _ ⟨rfl, hX0, by rw [hnw.out]; exact (hend.out _ (Ext.refl _)).1, (hend.out _ (Ext.refl _)).2⟩
        · exact absurd hb hno
      · have hTg0 := hTg
        obtain ⟨-, ⟨-, h⟩ | ⟨g, cap, cur, rfl, hg, hb2, hn, hcm, hcs, htk⟩⟩ := hTg
        · exact absurd h hz
        · have hlg : g < wr.heap.size := (Array.getElem?_eq_some_iff.1 hb2).1
          have a5 : wr.cell? ⟨X, 5, none⟩ = some (.slice (some ⟨g, 0, none⟩) acc.length cap) := (Blk.cell bX 5).trans rfl
          have lX := Blk.lt bX
          rw [Nat.mul_one] at hcs htk
          have hH := holds_of_block hb2 htk
          have hS := Lib.hid (Tryz.slices_Sort_string g 0 cap acc wr hH hlg (by omega))
          have hA := Lib.hid (fun w2 nn os e => after_sort2 (w2 := w2) (nn := nn) (os := os) hb2 hcs hn e)
          replace bX := Lib.hid bX
          replace hRw := Lib.hid hRw
          have hsep := Lib.hid (ownsRow_ne hRw.out.2.1 hTg0 (by decide))
          clear hb2 hcm hcs htk hH
          go_wp2_with fail
          refine hS.out.mono ?_
          rintro e w2 ⟨rfl, nn, os, hw2⟩
          obtain ⟨hG2, hH2, cur2, hb2, hc2⟩ := hA.out w2 nn os hw2
          have hE2 : Ext w w2 := hE9.grownS hG2 (by omega)
          have hC := Lib.hid (Tryz.slices_Compact_string g 0 cap (sortL acc) w2 hH2 (by rw [sortL_len]; omega) (by rw [sortL_len]; omega))
          rw [sortL_len] at hC
          have hD := Lib.hid (fun w3 q e => after_compact (w3 := w3) (q := q) (B := X) (ss := sortL acc) (Nat.le_of_lt hg) hb2 hc2 (by rw [sortL_len]; omega) (by rw [sortL_len]; omega) e)
          have bX2 : NewX w2 X refer decline H rv (.slice (some ⟨g, 0, none⟩) acc.length cap) := blk_grown hG2 bX.out (fun e => by injection e with e; omega)
          have hRw2 := rowsN_grow hRw.out hsep.out hG2
          have a5 : w2.cell? ⟨X, 5, none⟩ = some (.slice (some ⟨g, 0, none⟩) acc.length cap) := (Blk.cell bX2 5).trans rfl
          replace bX2 := Lib.hid bX2
          replace hRw2 := Lib.hid hRw2
          have hlg2 : g < w2.heap.size := (Array.getElem?_eq_some_iff.1 hb2).1
          clear hw2 hG2 hH2 hb2 hc2 hS hA hE9 bX hRw hTg0
          rw [sortL_len] at hD
          go_wp2_with fail
          refine hC.out.mono ?_
          rintro e w3 ⟨rfl, qq, hw3⟩
          obtain ⟨hG3, hS3⟩ := hD.out w3 qq hw3
          have hE3 : Ext w w3 := hE2.grownS hG3 (by omega)
          have bX3 : NewX w3 X refer decline H rv (.slice (some ⟨g, 0, none⟩) acc.length cap) := blk_grown hG3 bX2.out (fun e => by injection e with e; omega)
          have hRw3 := rowsN_grow hRw2.out hsep.out hG3
          have a5 : w3.cell? ⟨X, 5, none⟩ = some (.slice (some ⟨g, 0, none⟩) acc.length cap) := (Blk.cell bX3 5).trans rfl
          have f5 : w3.frozen? ⟨X, 5, none⟩ = false := Blk.fz bX3 5
          have a1 : w3.cell? ⟨X, 1, none⟩ = some (.int .i64 H) := (Blk.cell bX3 1).trans rfl
          have lX3 := Blk.lt bX3
          have bX5 : NewX (w3.setCell ⟨X, 5, none⟩ (.slice (some ⟨g, 0, none⟩) (Lib.compact (sortL acc)).length cap)) X refer decline H rv (.slice (some ⟨g, 0, none⟩) (Lib.compact (sortL acc)).length cap) := Blk.set bX3 5 _
          have hR5 := rowsN_set hRw3 5 (.slice (some ⟨g, 0, none⟩) (Lib.compact (sortL acc)).length cap)
          have hE5 := hE3.setCell (p := ⟨X, 5, none⟩) hX0 (.slice (some ⟨g, 0, none⟩) (Lib.compact (sortL acc)).length cap)
          have hTb : StrsB (w3.setCell ⟨X, 5, none⟩ (.slice (some ⟨g, 0, none⟩) (Lib.compact (sortL acc)).length cap)) (fun j => X < j) (.slice (some ⟨g, 0, none⟩) (Lib.compact (sortL acc)).length cap) (uniL acc) := (strsB_of hS3 (ok := fun j => X < j) (by omega) (Nat.lt_of_lt_of_le hlg2 hG3.size)).chg (F := fun k => k = X) ((Chg.refl (fun k => k = X) w3).setCell (p := ⟨X, 5, none⟩) (Or.inl rfl) _) (fun j hj e => by omega)
          replace hR5 := Lib.hid hR5
          replace hTb := Lib.hid hTb
          replace bX5 := Lib.hid bX5
          clear hw3 hG3 hC hD bX3 hRw3 hRw2 bX2 hS3 hE3 hE2
          go_wp2_with fail
          generalize w3.setCell ⟨X, 5, none⟩ (.slice (some ⟨g, 0, none⟩) (Lib.compact (sortL acc)).length cap) = W at *
          have hVl := Blk.lt bX5.out
          refine (kV.out _).mono ?_
          rintro e w4 (⟨-, -, V, rfl, hVz, hVM, hE4⟩ | ⟨hno, -⟩)
          · have bX4 := Blk.ext bX5.out hE4
            have a0 : w4.cell? ⟨X, 0, none⟩ = some (.pointer none) := (Blk.cell bX4 0).trans rfl
            have f0 : w4.frozen? ⟨X, 0, none⟩ = false := Blk.fz bX4 0
            have lX4 := Blk.lt bX4
            have hend := Lib.hid (fun w6 h6 => new_end (w6 := w6) hE5 hX0 hyl bX5.out hR5.out hTb.out hE4 hVz hVM h6)
            clear bX4 bX5 hR5 hTb hVM
            go_wp2
            try go_ret2
            exact hfin.out _ _ X V _ _ _ _ ⟨rfl, hX0, by rw [hnw.out]; exact (hend.out _ (Ext.refl _)).1, (hend.out _ (Ext.refl _)).2⟩
          · exact absurd hb hno
 · have hE0' : (frE l refer decline == 0) = false := by simpa using hE0
   have hend := Lib.hid (fun e w' (h : e = .returned (.tuple #[.pointer none, .int .i64 (frE l refer decline)]) ∧ Ext w w') => show NewP l refer decline w e w' from Or.inl ⟨hE0, h⟩)
   have hne : (frE l refer decline != 0) = true := by simpa using hE0
   generalize NewP l refer decline w = PP at *
   generalize frE l refer decline = E at *
   clear hE0 hR hp
   go_enter Tryz.func13, Tryz.ntmps13
   go_wp2_with fail
   unfold OneQ at kC
   refine kC.out.mono ?_
   rintro e w1 ⟨rfl, hE1⟩
   go_wp2
   try go_ret2
   exact hend.out _ _ ⟨rfl, hE1⟩
end Go.Proofs.YtangdoidkcelfaaGreatDoor
