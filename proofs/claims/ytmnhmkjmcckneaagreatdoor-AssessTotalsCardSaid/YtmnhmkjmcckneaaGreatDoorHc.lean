/- Contracts of slices.ContainsFunc with the closure of feerule's Check, and of feerule's Check (walks; printed by gen/h3.py). -/
import Derived.Test.YtmnhmkjmcckneaaGreatDoorHp
import Derived.Test.YtmnhmkjmcckneaaGreatDoorFx
import Derived.Test.YtmnhmkjmcckneaaGreatDoorEf
namespace Go.Proofs.YtmnhmkjmcckneaaGreatDoor
open Go.RowKit
def sameN (nm : ByteArray) (r : RuleD) : Bool := decide (r.name = nm)
theorem same_strEq {a b : ByteArray} : (a.toList == b.toList) = decide (a = b) := by
 by_cases h : a = b
 · rw [strEq h, decide_eq_true h]
 · rw [strNe h, decide_eq_false h]
set_option maxHeartbeats 1000000 in
theorem check1_any (r : RuleD) (u : Value) (uq : Option Addr) (un uc : Nat) (hu : u = .slice uq un uc) (L : Nat) (nm : ByteArray) (w : World) (hL : w.cell? ⟨L, 0, none⟩ = some (.string nm)) : Calls Tryz.prog 71 #[ruleAgg r u, .pointer (some ⟨L, 0, none⟩)] w (OneV (.bool (sameN nm r)) w) := by
 subst hu
 have hs := cell_lt hL
 unfold ruleAgg sameN
 rw [← same_strEq]
 go_enter Tryz.func71, Tryz.ntmps71
 go_wp2
 go_ret
 exact ⟨rfl, xt⟩
theorem RulesM.take {w : World} {p : Option Addr} {c : Nat} {l : List RuleD} (h : RulesM w (.slice p l.length c) l) (k : Nat) (hk : k ≤ l.length) : RulesM w (.slice p k c) (l.take k) := by
 have hl := h.1
 have hc := h.cap
 have hlt : (l.take k).length = k := by rw [List.length_take]; omega
 by_cases h0 : 0 < k
 · obtain ⟨b, off, rfl, sv, hat⟩ := h.at (by omega)
   refine ⟨by omega, Or.inr ⟨b, off, c, sv, by rw [hlt], by omega, fun i hi => ?_⟩⟩
   have hg : (l.take k).getD i rD = l.getD i rD := by
    rw [hlt] at hi
    simp only [List.getD_eq_getElem?_getD, List.getElem?_take]
    rw [if_pos hi]
   rw [hg]
   exact hat i (by omega)
 · obtain rfl : k = 0 := by omega
   exact ⟨by simp, Or.inl ⟨p, c, rfl, rfl⟩⟩
set_option maxRecDepth 8000 in
set_option maxHeartbeats 2000000 in
theorem index_same (L : Nat) (nm : ByteArray) (lv : Value) (l : List RuleD) (w : World) (hR : RulesM w lv l) (hL : w.cell? ⟨L, 0, none⟩ = some (.string nm)) : Calls Tryz.prog 84 #[lv, .func (Fn.func 71) #[] #[.pointer (some ⟨L, 0, none⟩)]] w (IdxP (idxF (sameN nm) 0 l) w) := by
 obtain ⟨lp, lc, rfl⟩ := hR.form
 have hll := hR.1
 replace hR := Lib.hid hR
 obtain ⟨R, hRR⟩ : ∃ R, R = idxF (sameN nm) 0 l := ⟨_, rfl⟩
 rw [← hRR]
 have hR0 : R = idxF (sameN nm) 0 (l.drop 0) := hRR
 clear hRR
 replace hL := Lib.hid hL
 go_enter Tryz.func84, Tryz.ntmps84
 go_wp2_with fail
 go_loopw [8] (fun i wr => ∃ k : Nat, k ≤ l.length ∧ i = .int .i64 k ∧ R = idxF (sameN nm) k (l.drop k) ∧ Ext w wr) (fun i _ => l.length - (intOf i).toNat)
 case atStart => exact ⟨0, Nat.zero_le _, rfl, hR0, Ext.refl _⟩
 case round =>
  clear hR0
  obtain ⟨k, hk, rfl, hRk, hE⟩ := hrel
  by_cases hlt : k < l.length
  · obtain ⟨b, off, rfl, sv, hkid⟩ := hR.out.at (by omega)
    obtain ⟨hc, hsu⟩ := hkid k hlt
    rw [idx_step (sameN nm) l k hlt] at hRk
    replace hsu := hsu.ext hE
    obtain ⟨h0, h1, h2, h3, h4, h5, h6, h7, h8, h9⟩ := hc.ext hE
    clear hc hkid
    replace hRk := Lib.hid hRk
    obtain ⟨uq, uc, huv⟩ := hsu.form
    generalize l.getD k rD = r at *
    rw [huv] at hsu h5
    clear huv
    have kf := Lib.hid (check1_any r _ uq r.when.args.length uc rfl L nm wr (hE.get hL.out))
    unfold ruleAgg at kf
    go_wp2_with fail
    refine kf.out.mono ?_
    rintro e w2 ⟨rfl, hE2⟩
    replace hE := hE.trans hE2
    clear hE2 kf h0 h1 h2 h3 h4 h5 h6 h7 h8 h9 hsu
    cases hp : sameN nm r with
    | true =>
     have hRk := hRk.out
     rw [hp, if_pos rfl] at hRk
     go_wp2
     go_ret
     exact idxP (by rw [hRk]; rfl) hE
    | false =>
     have hRk := hRk.out
     rw [hp] at hRk
     simp only [Bool.false_eq_true, if_false] at hRk
     go_wp2
     go_roundw
     case rel => exact ⟨k + 1, by omega, by go_num, hRk, hE⟩
     case measure => simp [intOf]; omega
  · have hz : l.drop k = [] := List.drop_eq_nil_of_le (by omega)
    rw [hz] at hRk
    go_wp2
    go_ret
    exact idxP (by rw [hRk]; rfl) hE
set_option maxHeartbeats 1000000 in
theorem contains_same (L : Nat) (nm : ByteArray) (lv : Value) (l : List RuleD) (w : World) (hR : RulesM w lv l) (hL : w.cell? ⟨L, 0, none⟩ = some (.string nm)) : Calls Tryz.prog 70 #[lv, .func (Fn.func 71) #[] #[.pointer (some ⟨L, 0, none⟩)]] w (OneV (.bool (idxF (sameN nm) 0 l).isSome) w) := by
 have k := Lib.hid (index_same L nm lv l w hR hL)
 obtain ⟨lp, lc, rfl⟩ := hR.form
 clear hR hL
 generalize idxF (sameN nm) 0 l = R at *
 go_enter Tryz.func70, Tryz.ntmps70
 go_wp2_with fail
 refine k.out.mono ?_
 rintro e w1 ⟨rfl, hE⟩
 clear k
 cases R with
 | none =>
  have d : decide ((0 : Int) ≤ idxI none) = false := by decide
  simp only [idxI] at d ⊢
  go_wp2
  go_ret
  exact ⟨rfl, hE⟩
 | some i =>
  have d : decide ((0 : Int) ≤ (i : Int)) = true := by simp
  simp only [idxI]
  go_wp2
  go_ret
  exact ⟨rfl, hE⟩
theorem idx_any (p : RuleD → Bool) : ∀ (l : List RuleD) (k : Nat), (idxF p k l).isSome = l.any p
 | [], _ => rfl
 | r :: l, k => by
  rw [idxF, List.any_cons]
  cases h : p r with
  | true => rfl
  | false => simp only [Bool.false_eq_true, if_false, Bool.false_or]; exact idx_any p l (k + 1)
/-- ruleE where what it asks is known. -/
theorem ruleE_1 {bf : List RuleD} {r : RuleD} {fs : List Feat} (h : nameB r.name = false) : ruleE bf r fs = 5 := by unfold ruleE; rw [if_pos h]
theorem ruleE_2 {bf : List RuleD} {r : RuleD} {fs : List Feat} (h : nameB r.name = true) (h2 : bf.any (sameN r.name) = true) : ruleE bf r fs = 7 := by unfold ruleE; rw [if_neg (by rw [h]; decide), show (bf.any fun o => decide (o.name = r.name)) = true from h2, if_pos rfl]
theorem ruleE_3 {bf : List RuleD} {r : RuleD} {fs : List Feat} (h : nameB r.name = true) (h2 : bf.any (sameN r.name) = false) (h3 : possB r = false) : ruleE bf r fs = 4 := by unfold ruleE; rw [if_neg (by rw [h]; decide), show (bf.any fun o => decide (o.name = r.name)) = false from h2, if_neg (by decide), if_pos h3]
theorem ruleE_4 {bf : List RuleD} {r : RuleD} {fs : List Feat} (h : nameB r.name = true) (h2 : bf.any (sameN r.name) = false) (h3 : possB r = true) : ruleE bf r fs = if (checkV r.when fs).2 ≠ 0 then (checkV r.when fs).2 else if (checkV r.when fs).1 ≠ 3 then 28 else 0 := by unfold ruleE; rw [if_neg (by rw [h]; decide), show (bf.any fun o => decide (o.name = r.name)) = false from h2, if_neg (by decide), if_neg (by rw [h3]; decide)]
set_option maxRecDepth 8000 in
set_option maxHeartbeats 4000000 in
theorem fcheck_any (lv fsv : Value) (l : List RuleD) (fs : List Feat) (w : World) (hR : RulesM w lv l) (hF : Feats w fsv fs) : Calls Tryz.prog 34 #[lv, fsv] w (OneV (.int .i64 (tabE l fs)) w) := by
 obtain ⟨lp, lc, rfl⟩ := hR.form
 obtain ⟨fp, fc, rfl⟩ := hF.form
 have hll := hR.1
 have hcap := hR.cap
 replace hR := Lib.hid hR
 replace hF := Lib.hid hF
 obtain ⟨R, hRR⟩ : ∃ R, R = tabE l fs := ⟨_, rfl⟩
 rw [← hRR]
 by_cases h64 : 64 < l.length
 · have d1 : decide ((64 : Int) < (l.length : Int)) = true := decide_eq_true (by omega)
   have d2 : decide (64 < l.length) = true := decide_eq_true h64
   have hRR : R = 3 := by rw [hRR]; unfold tabE; rw [if_pos h64]
   subst hRR
   go_enter Tryz.func34, Tryz.ntmps34
   go_wp2
   go_ret
   exact ⟨rfl, Ext.refl _⟩
 · have d1 : decide ((64 : Int) < (l.length : Int)) = false := decide_eq_false (by omega)
   have d2 : decide (64 < l.length) = false := decide_eq_false h64
   have hR0 : R = tabFrom l fs 0 (l.length - 0) := by rw [hRR]; unfold tabE; rw [if_neg h64]; rfl
   clear hRR
   replace hR0 := Lib.hid hR0
   go_enter Tryz.func34, Tryz.ntmps34
   go_wp2_with fail
   go_loopw [14] (fun i wr => ∃ k : Nat, k ≤ l.length ∧ i = .int .i64 k ∧ R = tabFrom l fs k (l.length - k) ∧ Ext w wr) (fun i _ => l.length - (intOf i).toNat)
   case atStart => exact ⟨0, Nat.zero_le _, rfl, hR0.out, Ext.refl _⟩
   case round =>
    clear hR0
    obtain ⟨k, hk, rfl, hRk, hE⟩ := hrel
    by_cases hlt : k < l.length
    · obtain ⟨b, off, rfl, sv, hkid⟩ := hR.out.at (by omega)
      obtain ⟨hc, hsu⟩ := hkid k hlt
      rw [tab_step l fs k hlt] at hRk
      replace hsu := hsu.ext hE
      obtain ⟨h0, h1, h2, h3, h4, h5, h6, h7, h8, h9⟩ := hc.ext hE
      have bl : b < wr.heap.size := cell_lt h0
      have htk := (hR.out.take k (by omega)).ext hE
      obtain ⟨uq, uc, huv⟩ := hsu.form
      clear hc hkid
      have e1 := fun a => ruleE_1 (bf := l.take k) (r := l.getD k rD) (fs := fs) a
      have e2 := fun a b => ruleE_2 (bf := l.take k) (r := l.getD k rD) (fs := fs) a b
      have e3 := fun a b c => ruleE_3 (bf := l.take k) (r := l.getD k rD) (fs := fs) a b c
      have e4 := fun a b c => ruleE_4 (bf := l.take k) (r := l.getD k rD) (fs := fs) a b c
      generalize ruleE (l.take k) (l.getD k rD) fs = RE at *
      generalize l.getD k rD = r at *
      rw [huv] at hsu h5
      clear huv
      replace hRk := Lib.hid hRk
      replace e1 := Lib.hid e1
      replace e2 := Lib.hid e2
      replace e3 := Lib.hid e3
      replace e4 := Lib.hid e4
      have kN := Lib.hid (fun w2 => isName_any r.name w2)
      have kC := Lib.hid (fun L w2 (hE2 : Ext wr w2) (hL : w2.cell? ⟨L, 0, none⟩ = some (.string r.name)) => contains_same L r.name _ _ w2 (htk.ext hE2) hL)
      have kP := Lib.hid (fun w2 => possible_any r uq r.when.args.length uc w2)
      have kX := Lib.hid (fun w2 (hE2 : Ext wr w2) => check_any r.when (hsu.ext hE2) _ fs (hF.out.ext (hE.trans hE2)))
      rw [idx_any] at kC
      generalize (l.take k).any (sameN r.name) = dup at *
      generalize checkV r.when fs = CV at *
      unfold TyPost exAgg at kX
      unfold ruleAgg at kP
      clear htk hsu
      cases hn : nameB r.name with
      | false =>
       have hRE := e1.out hn
       have hRk := hRk.out
       rw [hRE, if_pos (by decide)] at hRk
       rw [hn] at kN
       clear e1 e2 e3 e4
       go_wp2_with fail
       refine (kN.out _).mono ?_
       rintro e w2 ⟨rfl, rfl⟩
       go_wp2
       go_ret
       exact ⟨by rw [hRk]; rfl, xt⟩
      | true =>
       rw [hn] at kN
       replace e2 := Lib.hid (e2.out hn)
       replace e3 := Lib.hid (e3.out hn)
       replace e4 := Lib.hid (e4.out hn)
       clear e1 hn
       go_wp2_with fail
       refine (kN.out _).mono ?_
       rintro e w2 ⟨rfl, rfl⟩
       have hb0 := Blk.new wr #[.string r.name, .int .i64 r.when.op, .string r.when.name, .string r.when.text, .int .i64 r.when.n, .slice uq r.when.args.length uc, .int .i64 r.bps, .int .i64 r.fixed, .int .i64 r.mn, .int .i64 r.mx] 56
       have hEa : Ext wr (wr.alloc (.cells #[.string r.name, .int .i64 r.when.op, .string r.when.name, .string r.when.text, .int .i64 r.when.n, .slice uq r.when.args.length uc, .int .i64 r.bps, .int .i64 r.fixed, .int .i64 r.mn, .int .i64 r.mx] 56)) := xt
       generalize wr.alloc (.cells #[.string r.name, .int .i64 r.when.op, .string r.when.name, .string r.when.text, .int .i64 r.when.n, .slice uq r.when.args.length uc, .int .i64 r.bps, .int .i64 r.fixed, .int .i64 r.mn, .int .i64 r.mx] 56) = w3 at *
       replace hb0 := Lib.hid hb0
       clear kN h0 h1 h2 h3 h4 h5 h6 h7 h8 h9 bl
       go_wp2_with fail
       refine (kC.out _ w3 hEa ((hb0.out.cell 0).trans rfl)).mono ?_
       rintro e w4 ⟨rfl, hE4⟩
       replace hb0 := Lib.hid (hb0.out.ext hE4)
       replace hEa := hEa.trans hE4
       clear hE4 kC
       cases dup with
       | true =>
        have hRE := e2.out rfl
        have hRk := hRk.out
        rw [hRE, if_pos (by decide)] at hRk
        clear e2 e3 e4
        go_wp2
        go_ret
        exact ⟨by rw [hRk]; rfl, hE.trans hEa⟩
       | false =>
        replace e3 := Lib.hid (e3.out rfl)
        replace e4 := Lib.hid (e4.out rfl)
        clear e2
        have x0 : w4.cell? ⟨wr.heap.size, 0, none⟩ = some (.string r.name) := (hb0.out.cell 0).trans rfl
        have x1 : w4.cell? ⟨wr.heap.size, 1, none⟩ = some (.int .i64 r.when.op) := (hb0.out.cell 1).trans rfl
        have x2 : w4.cell? ⟨wr.heap.size, 2, none⟩ = some (.string r.when.name) := (hb0.out.cell 2).trans rfl
        have x3 : w4.cell? ⟨wr.heap.size, 3, none⟩ = some (.string r.when.text) := (hb0.out.cell 3).trans rfl
        have x4 : w4.cell? ⟨wr.heap.size, 4, none⟩ = some (.int .i64 r.when.n) := (hb0.out.cell 4).trans rfl
        have x5 : w4.cell? ⟨wr.heap.size, 5, none⟩ = some (.slice uq r.when.args.length uc) := (hb0.out.cell 5).trans rfl
        have x6 : w4.cell? ⟨wr.heap.size, 6, none⟩ = some (.int .i64 r.bps) := (hb0.out.cell 6).trans rfl
        have x7 : w4.cell? ⟨wr.heap.size, 7, none⟩ = some (.int .i64 r.fixed) := (hb0.out.cell 7).trans rfl
        have x8 : w4.cell? ⟨wr.heap.size, 8, none⟩ = some (.int .i64 r.mn) := (hb0.out.cell 8).trans rfl
        have x9 : w4.cell? ⟨wr.heap.size, 9, none⟩ = some (.int .i64 r.mx) := (hb0.out.cell 9).trans rfl
        go_wp2_with fail
        refine (kP.out _).mono ?_
        rintro e w5 ⟨rfl, hE5⟩
        replace hb0 := Lib.hid (hb0.out.ext hE5)
        replace hEa := hEa.trans hE5
        clear hE5 kP x0 x1 x2 x3 x4 x5 x6 x7 x8 x9
        cases hp : possB r with
        | false =>
         have hRE := e3.out hp
         have hRk := hRk.out
         rw [hRE, if_pos (by decide)] at hRk
         clear e3 e4 hp
         go_wp2
         go_ret
         exact ⟨by rw [hRk]; rfl, hE.trans hEa⟩
        | true =>
         have hRE := e4.out hp
         clear e3 e4 hp
         have x1 : w5.cell? ⟨wr.heap.size, 1, none⟩ = some (.int .i64 r.when.op) := (hb0.out.cell 1).trans rfl
         have x2 : w5.cell? ⟨wr.heap.size, 2, none⟩ = some (.string r.when.name) := (hb0.out.cell 2).trans rfl
         have x3 : w5.cell? ⟨wr.heap.size, 3, none⟩ = some (.string r.when.text) := (hb0.out.cell 3).trans rfl
         have x4 : w5.cell? ⟨wr.heap.size, 4, none⟩ = some (.int .i64 r.when.n) := (hb0.out.cell 4).trans rfl
         have x5 : w5.cell? ⟨wr.heap.size, 5, none⟩ = some (.slice uq r.when.args.length uc) := (hb0.out.cell 5).trans rfl
         replace hRE := Lib.hid hRE
         obtain ⟨ck, ce⟩ := CV
         go_wp2_with fail
         refine (kX.out _ hEa).mono ?_
         rintro e w6 ⟨rfl, hE6⟩
         replace hE := hE.trans (hEa.trans hE6)
         clear hE6 hEa kX x1 x2 x3 x4 x5 hb0
         by_cases hce : ce ≠ 0
         · have dd : (ce != 0) = true := by simpa using hce
           have hRk := hRk.out
           rw [hRE.out, if_pos hce, if_pos hce] at hRk
           clear hRE
           go_wp2
           go_ret
           exact ⟨by rw [hRk]; rfl, hE⟩
         · obtain rfl : ce = 0 := by omega
           by_cases hck : ck ≠ 3
           · have dd : (ck != 3) = true := by simpa using hck
             have hRk := hRk.out
             rw [hRE.out, if_neg hce, if_pos hck, if_pos (by decide)] at hRk
             clear hRE
             go_wp2
             go_ret
             exact ⟨by rw [hRk]; rfl, hE⟩
           · obtain rfl : ck = 3 := by omega
             have hRk := hRk.out
             rw [hRE.out, if_neg hce, if_neg hck, if_neg (by decide)] at hRk
             replace hRk := Lib.hid hRk
             clear hRE
             go_wp2
             go_roundw
             case rel => exact ⟨k + 1, by omega, by go_num, hRk.out, hE⟩
             case measure => simp [intOf]; omega
    · have hz : l.length - k = 0 := by omega
      rw [hz, tabFrom] at hRk
      go_wp2
      go_ret
      exact ⟨by rw [hRk]; rfl, hE⟩
end Go.Proofs.YtmnhmkjmcckneaaGreatDoor
