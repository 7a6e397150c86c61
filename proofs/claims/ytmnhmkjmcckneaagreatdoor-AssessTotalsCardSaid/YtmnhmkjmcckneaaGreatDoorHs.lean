/- Contracts of the reference's Size, of law38's few and small, and of the reference's Short (walks; printed by gen/h4.py). -/
import Derived.Test.YtmnhmkjmcckneaaGreatDoorHp
import Derived.Test.YtmnhmkjmcckneaaGreatDoorEi
namespace Go.Proofs.YtmnhmkjmcckneaaGreatDoor
open Go.RowKit
/-- All names and texts are short. -/
def Sh2 (l : List Ex) : Prop := ∀ p ∈ l, p.name.size ≤ 200 ∧ p.text.size ≤ 200
theorem Sh2.append {a b : List Ex} (h : Sh2 a) (k : Sh2 b) : Sh2 (a ++ b) := fun p hp => by
 rcases List.mem_append.1 hp with h1 | h1
 · exact h p h1
 · exact k p h1
def SizeP (x : Ex) (d : Int) (w : World) (e : Ending) (w' : World) : Prop := ∃ m : Int, e = .returned (.int .i64 m) ∧ 1 ≤ m ∧ m ≤ d + 1 ∧ (m ≤ d → m = x.parts.length ∧ Sh2 x.parts) ∧ Ext w w'
theorem size_no (x : Ex) (d : Int) (h0 : 0 ≤ d) {w w' : World} (h : Ext w w') : SizeP x d w (.returned (.int .i64 (d + 1))) w' := ⟨d + 1, rfl, by omega, by omega, fun h => absurd h (by omega), h⟩
set_option maxRecDepth 8000 in
set_option maxHeartbeats 4000000 in
theorem rsize_any {w : World} {v : Value} {l : List Ex} (h : ExS w v l) : ∀ (x : Ex), x.args = l → ∀ w', Ext w w' → ∀ d : Int, 0 ≤ d → d ≤ 100 → Calls Tryz.prog 51 #[exAgg x v, .int .i64 d] w' (SizeP x d w') := by
 refine ExS.ind (P := fun x v => ∀ w', Ext w w' → ∀ d : Int, 0 ≤ d → d ≤ 100 → Calls Tryz.prog 51 #[exAgg x v, .int .i64 d] w' (SizeP x d w')) ?_ h
 clear h
 intro x v hS hK w' hE d hd0 hd1
 obtain ⟨op, nm, tx, n, args⟩ := x
 obtain ⟨q, cp, rfl⟩ := hS.form
 have hlen := hS.len
 replace hK := Lib.hid hK
 simp only [Ex.args] at hK hlen ⊢
 have hpm := parts_mk op nm tx n args
 have hfin := Lib.hid (fun (m : Int) (w2 : World) (h1 : 1 ≤ m) (h2 : m ≤ d + 1) (h3 : m ≤ d → m = (Ex.mk op nm tx n args).parts.length ∧ Sh2 (Ex.mk op nm tx n args).parts) (h4 : Ext w' w2) => show SizeP (Ex.mk op nm tx n args) d w' (.returned (.int .i64 m)) w2 from ⟨m, rfl, h1, h2, h3, h4⟩)
 have hpl : Sh2 (Ex.parts.partsL args) → nm.size ≤ 200 → tx.size ≤ 200 → ((Ex.mk op nm tx n args).parts.length = (Ex.parts.partsL args).length + 1 ∧ Sh2 (Ex.mk op nm tx n args).parts) := fun h1 h2 h3 => by
  rw [hpm]
  exact ⟨rfl, fun p hp => by
   rcases List.mem_cons.1 hp with rfl | hp
   · exact ⟨h2, h3⟩
   · exact h1 p hp⟩
 replace hpl := Lib.hid hpl
 rw [exAgg_mk]
 have hz := Lib.hid (fun (w2 : World) => size_no (Ex.mk op nm tx n args) d hd0 (w := w') (w' := w2))
 clear hpm
 generalize (Ex.mk op nm tx n args).parts = PL at *
 generalize Ex.mk op nm tx n args = X at *
 clear hS
 by_cases h1 : 200 < nm.size
 · have d1 : decide ((200 : Int) < (nm.size : Int)) = true := decide_eq_true (by omega)
   go_enter Tryz.func51, Tryz.ntmps51
   go_wp2
   go_ret
   exact hz.out _ xt
 · have d1 : decide ((200 : Int) < (nm.size : Int)) = false := decide_eq_false (by omega)
   by_cases h2 : 200 < tx.size
   · have d2 : decide ((200 : Int) < (tx.size : Int)) = true := decide_eq_true (by omega)
     go_enter Tryz.func51, Tryz.ntmps51
     go_wp2
     go_ret
     exact hz.out _ xt
   · have d2 : decide ((200 : Int) < (tx.size : Int)) = false := decide_eq_false (by omega)
     go_enter Tryz.func51, Tryz.ntmps51
     go_wp2_with fail
     clear d1 d2
     have hb0 := Blk.new w' #[.int .i64 op, .string nm, .string tx, .int .i64 n, .slice q args.length cp] 54
     have hE0 : Ext w' (w'.alloc (.cells #[.int .i64 op, .string nm, .string tx, .int .i64 n, .slice q args.length cp] 54)) := xt
     generalize w'.alloc (.cells #[.int .i64 op, .string nm, .string tx, .int .i64 n, .slice q args.length cp] 54) = w0 at *
     replace hb0 := Lib.hid hb0
     go_loopw [5, 6] (fun c i wr => ∃ k : Nat, ∃ m : Int, k ≤ args.length ∧ i = .int .i64 k ∧ c = .int .i64 m ∧ 1 ≤ m ∧ m ≤ d + 1 ∧ (m ≤ d → m = (Ex.parts.partsL (args.take k)).length + 1 ∧ Sh2 (Ex.parts.partsL (args.take k))) ∧ Ext w0 wr) (fun _ i _ => args.length - (intOf i).toNat)
     case atStart => exact ⟨0, 1, Nat.zero_le _, rfl, rfl, by omega, by omega, fun _ => ⟨rfl, fun p hp => by cases hp⟩, Ext.refl _⟩
     case round =>
      obtain ⟨k, m, hk, rfl, rfl, hm1, hm2, hm3, hEr⟩ := hrel
      replace hm3 := Lib.hid hm3
      have x4 : wr.cell? ⟨w'.heap.size, 4, none⟩ = some (.slice q args.length cp) := ((hb0.out.ext hEr).cell 4).trans rfl
      by_cases hlt : k < args.length ∧ m ≤ d
      · obtain ⟨hlt, hmm⟩ := hlt
        obtain ⟨b, off, rfl, sv, hkid⟩ := hK.out _ _ rfl (by omega)
        obtain ⟨hc, hsu, hP⟩ := hkid k hlt
        have hform := hsu.form
        have hEw := hE.trans (hE0.trans hEr)
        obtain ⟨c0, c1, c2, c3, c4⟩ := (hc.ext hEw).five
        have hsn := Lib.hid (partsL_snoc args k hlt)
        replace hP := Lib.hid hP
        clear hc hkid hsu
        generalize args.getD k exD = y at *
        generalize sv k = u at *
        obtain ⟨uq, uc, rfl⟩ := hform
        have e1 : wrap64 (d - m) = d - m := by unfold wrap64; omega
        have dd : decide (m ≤ d) = true := decide_eq_true hmm
        go_wp2_with fail
        refine (hP.out _ hEw (d - m) (by omega) (by omega)).mono ?_
        rintro e w2 ⟨m2, rfl, g1, g2, g3, hE2⟩
        replace hEr := hEr.trans hE2
        replace g3 := Lib.hid g3
        clear c0 c1 c2 c3 c4 hE2 x4 hEw e1 dd
        go_wp2
        go_roundw
        case rel =>
         refine ⟨k + 1, m + m2, by omega, by go_num, by go_num, by omega, by omega, fun h => ?_, hEr⟩
         have h5 := hm3.out hmm
         have h6 := g3.out (by omega)
         rw [hsn.out]
         exact ⟨by rw [List.length_append]; omega, h5.2.append h6.2⟩
        case measure => simp [intOf]; omega
      · have hx : m ≤ d → k = args.length := fun h => by omega
        have hf : m ≤ d → m = PL.length ∧ Sh2 PL := fun h => by
         have h5 := hm3.out (by omega)
         have h6 := hx h
         rw [h6, List.take_length] at h5
         have h7 := hpl.out h5.2 (by omega) (by omega)
         exact ⟨by rw [h7.1]; omega, h7.2⟩
        replace hf := Lib.hid hf
        have hE9 := hE0.trans hEr
        by_cases hlk : k < args.length
        · have h7 : ¬ m ≤ d := fun h => hlt ⟨hlk, h⟩
          have d5 : decide (m ≤ d) = false := decide_eq_false h7
          clear hlt hx
          go_wp2
          go_ret
          exact hfin.out m _ hm1 hm2 hf.out hE9
        · clear hlt hx
          go_wp2
          go_ret
          exact hfin.out m _ hm1 hm2 hf.out hE9
/-- What few says of a table. -/
structure FewOk (l : List RuleD) : Prop where
 few : l.length ≤ 70
 parts : ∀ i, i < l.length → (l.getD i rD).when.parts.length ≤ 100 ∧ Sh2 (l.getD i rD).when.parts ∧ (l.getD i rD).name.size ≤ 100
def FewP (l : List RuleD) (w : World) (e : Ending) (w' : World) : Prop := ∃ b : Bool, e = .returned (.bool b) ∧ (b = true → FewOk l) ∧ Ext w w'
theorem few_no (l : List RuleD) {w w' : World} (h : Ext w w') : FewP l w (.returned (.bool false)) w' := ⟨false, rfl, fun h => absurd h (by simp), h⟩
theorem few_yes {l : List RuleD} (k : FewOk l) {w w' : World} (h : Ext w w') : FewP l w (.returned (.bool true)) w' := ⟨true, rfl, fun _ => k, h⟩
set_option maxRecDepth 8000 in
set_option maxHeartbeats 4000000 in
theorem few_any (lv : Value) (l : List RuleD) (w : World) (hR : RulesM w lv l) : Calls Tryz.prog 25 #[lv] w (FewP l w) := by
 obtain ⟨lp, lc, rfl⟩ := hR.form
 have hll := hR.1
 have hno := Lib.hid (fun (w2 : World) => few_no l (w := w) (w' := w2))
 have hyes := Lib.hid (fun (k : FewOk l) (w2 : World) (h : Ext w w2) => few_yes k h)
 have hok := Lib.hid (fun a b => FewOk.mk (l := l) a b)
 replace hR := Lib.hid hR
 by_cases h70 : 70 < l.length
 · have d1 : decide ((70 : Int) < (l.length : Int)) = true := decide_eq_true (by omega)
   have d2 : decide (70 < l.length) = true := decide_eq_true h70
   go_enter Tryz.func25, Tryz.ntmps25
   go_wp2
   go_ret
   exact hno.out _ (Ext.refl _)
 · have d1 : decide ((70 : Int) < (l.length : Int)) = false := decide_eq_false (by omega)
   have d2 : decide (70 < l.length) = false := decide_eq_false h70
   go_enter Tryz.func25, Tryz.ntmps25
   go_wp2_with fail
   go_loopw [3, 4] (fun c i wr => ∃ k : Nat, ∃ m : Int, k ≤ l.length ∧ i = .int .i64 k ∧ c = .int .i64 m ∧ 0 ≤ m ∧ m ≤ 201 ∧ (m ≤ 100 → ∀ j, j < k → (l.getD j rD).when.parts.length ≤ 100 ∧ Sh2 (l.getD j rD).when.parts ∧ (l.getD j rD).name.size ≤ 100) ∧ Ext w wr) (fun _ i _ => l.length - (intOf i).toNat)
   case atStart => exact ⟨0, 0, Nat.zero_le _, rfl, rfl, by omega, by omega, fun _ j hj => absurd hj (by omega), Ext.refl _⟩
   case round =>
    obtain ⟨k, m, hk, rfl, rfl, hm0, hm1, hm2, hE⟩ := hrel
    replace hm2 := Lib.hid hm2
    by_cases hlt : k < l.length ∧ m ≤ 100
    · obtain ⟨hlt, hmm⟩ := hlt
      obtain ⟨b, off, rfl, sv, hkid⟩ := hR.out.at (by omega)
      obtain ⟨hc, hsu⟩ := hkid k hlt
      obtain ⟨c0, c1, c2, c3, c4, c5, -, -, -, -⟩ := hc.ext hE
      obtain ⟨uq, uc, huv⟩ := hsu.form
      rw [huv] at c5 hsu
      have hst : m ≤ 100 → (l.getD k rD).when.parts.length ≤ 100 ∧ Sh2 (l.getD k rD).when.parts ∧ (l.getD k rD).name.size ≤ 100 → ∀ j, j < k + 1 → (l.getD j rD).when.parts.length ≤ 100 ∧ Sh2 (l.getD j rD).when.parts ∧ (l.getD j rD).name.size ≤ 100 := fun h1 h2 j hj => by
       by_cases e : j = k
       · subst e; exact h2
       · exact hm2.out h1 j (by omega)
      replace hst := Lib.hid hst
      have kS := Lib.hid (rsize_any hsu (l.getD k rD).when rfl wr hE 100 (by omega) (by omega))
      clear hc hkid huv hsu
      generalize l.getD k rD = r at *
      unfold exAgg SizeP at kS
      have dd : decide (m ≤ 100) = true := decide_eq_true hmm
      by_cases hnm : 100 < r.name.size
      · have d3 : decide ((100 : Int) < (r.name.size : Int)) = true := decide_eq_true (by omega)
        go_wp2
        go_ret
        exact hno.out _ hE
      · have d3 : decide ((100 : Int) < (r.name.size : Int)) = false := decide_eq_false (by omega)
        go_wp2_with fail
        refine kS.out.mono ?_
        rintro e w2 ⟨m2, rfl, g1, g2, g3, hE2⟩
        replace hE := hE.trans hE2
        replace g3 := Lib.hid g3
        clear c0 c1 c2 c3 c4 c5 hE2 kS dd d3
        go_wp2
        go_roundw
        case rel =>
         refine ⟨k + 1, m + m2, by omega, by go_num, by go_num, by omega, by omega, fun h => ?_, hE⟩
         have h6 := g3.out (by omega)
         exact hst.out hmm ⟨by omega, h6.2, by omega⟩
        case measure => simp [intOf]; omega
    · by_cases hlk : k < l.length
      · have h7 : ¬ m ≤ 100 := fun h => hlt ⟨hlk, h⟩
        have d5 : decide (m ≤ 100) = false := decide_eq_false h7
        clear hlt
        go_wp2
        go_ret
        exact hno.out _ hE
      · have hkl : k = l.length := by omega
        by_cases h7 : m ≤ 100
        · have d5 : decide (m ≤ 100) = true := decide_eq_true h7
          have hy := Lib.hid (hok.out (by omega) (by rw [← hkl]; exact hm2.out h7))
          clear hlt
          go_wp2
          go_ret
          exact hyes.out hy.out _ hE
        · have d5 : decide (m ≤ 100) = false := decide_eq_false h7
          clear hlt
          go_wp2
          go_ret
          exact hno.out _ hE
/-- The tables as a value. -/
def TabsM (w : World) (v : Value) (t : TabsD) : Prop := ∃ a b c, v = .agg #[a, b, c] ∧ RulesM w a t.i ∧ RulesM w b t.s ∧ RulesM w c t.m
theorem TabsM.ext {w w' : World} {v : Value} {t : TabsD} (h : TabsM w v t) (k : Ext w w') : TabsM w' v t := by
 obtain ⟨a, b, c, hv, h1, h2, h3⟩ := h
 exact ⟨a, b, c, hv, h1.ext k, h2.ext k, h3.ext k⟩
structure SmaOk (t : TabsD) : Prop where
 i : FewOk t.i
 s : FewOk t.s
 m : FewOk t.m
def SmaP (t : TabsD) (w : World) (e : Ending) (w' : World) : Prop := ∃ b : Bool, e = .returned (.bool b) ∧ (b = true → SmaOk t) ∧ Ext w w'
set_option maxRecDepth 8000 in
set_option maxHeartbeats 4000000 in
theorem small38_any (tv : Value) (t : TabsD) (w : World) (hT : TabsM w tv t) : Calls Tryz.prog 8 #[tv] w (SmaP t w) := by
 obtain ⟨v1, v2, v3, rfl, h1, h2, h3⟩ := hT
 have k1 := Lib.hid (fun w1 (h : Ext w w1) => few_any v1 t.i w1 (h1.ext h))
 have k2 := Lib.hid (fun w1 (h : Ext w w1) => few_any v2 t.s w1 (h2.ext h))
 have k3 := Lib.hid (fun w1 (h : Ext w w1) => few_any v3 t.m w1 (h3.ext h))
 obtain ⟨p1, c1, rfl⟩ := h1.form
 obtain ⟨p2, c2, rfl⟩ := h2.form
 obtain ⟨p3, c3, rfl⟩ := h3.form
 have hno := Lib.hid (fun (w2 : World) (h : Ext w w2) => show SmaP t w (.returned (.bool false)) w2 from ⟨false, rfl, fun h => absurd h (by simp), h⟩)
 have hyes := Lib.hid (fun (b : Bool) (w2 : World) (a : b = true → SmaOk t) (h : Ext w w2) => show SmaP t w (.returned (.bool b)) w2 from ⟨b, rfl, a, h⟩)
 unfold FewP at k1 k2 k3
 clear h1 h2 h3
 go_enter Tryz.func8, Tryz.ntmps8
 go_wp2_with fail
 refine (k1.out _ xt).mono ?_
 rintro e w1 ⟨b1, rfl, a1, hE1⟩
 have hb := Lib.hid ((Blk.new w #[.slice p1 t.i.length c1, .slice p2 t.s.length c2, .slice p3 t.m.length c3] 24).ext hE1)
 have hE : Ext w w1 := Ext.trans xt hE1
 clear hE1 k1
 cases b1 with
 | false =>
  clear a1
  go_wp2
  go_ret
  exact hno.out _ hE
 | true =>
  replace a1 := a1 rfl
  have x1 : w1.cell? ⟨w.heap.size, 1, none⟩ = some (.slice p2 t.s.length c2) := (hb.out.cell 1).trans rfl
  go_wp2_with fail
  refine (k2.out _ hE).mono ?_
  rintro e w2 ⟨b2, rfl, a2, hE2⟩
  replace hb := Lib.hid (hb.out.ext hE2)
  replace hE := hE.trans hE2
  clear hE2 k2 x1
  cases b2 with
  | false =>
   clear a2 a1
   go_wp2
   go_ret
   exact hno.out _ hE
  | true =>
   replace a2 := a2 rfl
   have x2 : w2.cell? ⟨w.heap.size, 2, none⟩ = some (.slice p3 t.m.length c3) := (hb.out.cell 2).trans rfl
   go_wp2_with fail
   refine (k3.out _ hE).mono ?_
   rintro e w3 ⟨b3, rfl, a3, hE3⟩
   replace hE := hE.trans hE3
   clear hE3 k3 x2
   replace a3 := Lib.hid a3
   replace a2 := Lib.hid a2
   replace a1 := Lib.hid a1
   go_wp2
   go_ret
   exact hyes.out _ _ (fun h => ⟨a1.out, a2.out, a3.out h⟩) hE
structure ShOk (r : RecD) : Prop where
 id : r.id.size ≤ 100
 auth : r.auth.size ≤ 100
 acq : r.acq.size ≤ 100
 iss : r.iss.size ≤ 100
 mer : r.mer.size ≤ 100
 card : r.card.size ≤ 100
 cur : r.cur.size ≤ 100
def ShP (r : RecD) (w : World) (e : Ending) (w' : World) : Prop := ∃ b : Bool, e = .returned (.bool b) ∧ (b = true → ShOk r) ∧ Ext w w'
theorem sh_no (r : RecD) {w w' : World} (h : Ext w w') : ShP r w (.returned (.bool false)) w' := ⟨false, rfl, fun h => absurd h (by simp), h⟩
set_option maxRecDepth 8000 in
set_option maxHeartbeats 4000000 in
theorem short_any (r : RecD) (w : World) : Calls Tryz.prog 9 #[recAgg r] w (ShP r w) := by
 have hno := Lib.hid (fun (w2 : World) => sh_no r (w := w) (w' := w2))
 have hok := Lib.hid (fun a b c d e f g => ShOk.mk (r := r) a b c d e f g)
 have hyes := Lib.hid (fun (w2 : World) (k : ShOk r) (h : Ext w w2) => show ShP r w (.returned (.bool true)) w2 from ⟨true, rfl, fun _ => k, h⟩)
 obtain ⟨kind, id, auth, acq, iss, mer, card, amt, cur, date, cat, fin⟩ := r
 simp only [recAgg] at hok ⊢
 generalize RecD.mk kind id auth acq iss mer card amt cur date cat fin = r at *
 by_cases h0 : id.size ≤ 100
 · have d0 : decide ((id.size : Int) ≤ 100) = true := decide_eq_true (by omega)
   by_cases h1 : auth.size ≤ 100
   · have d1 : decide ((auth.size : Int) ≤ 100) = true := decide_eq_true (by omega)
     by_cases h2 : acq.size ≤ 100
     · have d2 : decide ((acq.size : Int) ≤ 100) = true := decide_eq_true (by omega)
       by_cases h3 : iss.size ≤ 100
       · have d3 : decide ((iss.size : Int) ≤ 100) = true := decide_eq_true (by omega)
         by_cases h4 : mer.size ≤ 100
         · have d4 : decide ((mer.size : Int) ≤ 100) = true := decide_eq_true (by omega)
           by_cases h5 : card.size ≤ 100
           · have d5 : decide ((card.size : Int) ≤ 100) = true := decide_eq_true (by omega)
             by_cases h6 : cur.size ≤ 100
             · have d6 : decide ((cur.size : Int) ≤ 100) = true := decide_eq_true (by omega)
               have hy := Lib.hid (hok.out h0 h1 h2 h3 h4 h5 h6)
               go_enter Tryz.func9, Tryz.ntmps9
               go_wp2
               go_ret
               exact hyes.out _ hy.out xt
             · have d6 : decide ((cur.size : Int) ≤ 100) = false := decide_eq_false (by omega)
               go_enter Tryz.func9, Tryz.ntmps9
               go_wp2
               go_ret
               exact hno.out _ xt
           · have d5 : decide ((card.size : Int) ≤ 100) = false := decide_eq_false (by omega)
             go_enter Tryz.func9, Tryz.ntmps9
             go_wp2
             go_ret
             exact hno.out _ xt
         · have d4 : decide ((mer.size : Int) ≤ 100) = false := decide_eq_false (by omega)
           go_enter Tryz.func9, Tryz.ntmps9
           go_wp2
           go_ret
           exact hno.out _ xt
       · have d3 : decide ((iss.size : Int) ≤ 100) = false := decide_eq_false (by omega)
         go_enter Tryz.func9, Tryz.ntmps9
         go_wp2
         go_ret
         exact hno.out _ xt
     · have d2 : decide ((acq.size : Int) ≤ 100) = false := decide_eq_false (by omega)
       go_enter Tryz.func9, Tryz.ntmps9
       go_wp2
       go_ret
       exact hno.out _ xt
   · have d1 : decide ((auth.size : Int) ≤ 100) = false := decide_eq_false (by omega)
     go_enter Tryz.func9, Tryz.ntmps9
     go_wp2
     go_ret
     exact hno.out _ xt
 · have d0 : decide ((id.size : Int) ≤ 100) = false := decide_eq_false (by omega)
   go_enter Tryz.func9, Tryz.ntmps9
   go_wp2
   go_ret
   exact hno.out _ xt
end Go.Proofs.YtmnhmkjmcckneaaGreatDoor
