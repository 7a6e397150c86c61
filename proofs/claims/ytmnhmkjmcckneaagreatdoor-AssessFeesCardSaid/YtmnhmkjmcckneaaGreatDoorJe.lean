/- The contract of the reference's Check of a fee table (walk; printed by gen/h25.py). -/
import Derived.Test.YtmnhmkjmcckneaaGreatDoorJx
import Derived.Test.YtmnhmkjmcckneaaGreatDoorGu
import Derived.Test.YtmnhmkjmcckneaaGreatDoorGy
import Derived.Test.YtmnhmkjmcckneaaGreatDoorHd
import Derived.Deep.QuietTactic
import Derived.BigQuiet
namespace Go.Proofs.YtmnhmkjmcckneaaGreatDoor
open Go.RowKit
theorem getD_take {l : List RuleD} {k m : Nat} (hm : m < k) : (l.take k).getD m rD = l.getD m rD := by
 simp only [List.getD_eq_getElem?_getD]
 rw [List.getElem?_take_of_lt hm]
theorem any_none {l : List RuleD} {k : Nat} {nm : ByteArray} (h : ∀ m, m < k → (l.getD m rD).name ≠ nm) : (l.take k).any (sameN nm) = false := by
 rw [List.any_eq_false]
 intro r hr
 obtain ⟨m, hm, rfl⟩ := List.mem_iff_getElem.1 hr
 have hmk : m < k := by rw [List.length_take] at hm; omega
 have := h m hmk
 rw [← getD_take hmk, List.getD_eq_getElem?_getD, List.getElem?_eq_getElem hm, Option.getD_some] at this
 unfold sameN
 simpa using this
theorem any_some {l : List RuleD} {k m : Nat} {nm : ByteArray} (hk : k ≤ l.length) (hm : m < k) (h : (l.getD m rD).name = nm) : (l.take k).any (sameN nm) = true := by
 rw [List.any_eq_true]
 have hml : m < (l.take k).length := by rw [List.length_take]; omega
 refine ⟨(l.take k)[m], List.getElem_mem hml, ?_⟩
 have e : (l.take k)[m] = l.getD m rD := by rw [← getD_take hm, List.getD_eq_getElem?_getD, List.getElem?_eq_getElem hml, Option.getD_some]
 rw [e]
 unfold sameN
 exact decide_eq_true h
/-- What is known of the rules of a table, for the reference's Check. -/
def ChIn (l : List RuleD) : Prop := ∀ i, i < l.length → StrOk [(l.getD i rD).when] ∧ (l.getD i rD).when.parts.length ≤ 1000000 ∧ (l.getD i rD).name.size ≤ 1000
set_option maxRecDepth 8000 in
set_option maxHeartbeats 8000000 in
theorem rtab_any (lv : Value) (fp : Option Addr) (fc : Nat) (l : List RuleD) (fs : List Feat) (w : World) (hR : RulesM w lv l) (hI : ChIn l) (hF : Feats w (.slice fp fs.length fc) fs) (hcap : fs.length ≤ fc) (hs : ∀ i, i < fs.length → (fs.getD i fD).name.size ≤ 140737488355328) : Calls Tryz.prog 36 #[lv, .slice fp fs.length fc] w (OneW (.int .i64 (tabE l fs)) w) := by
 obtain ⟨lp, lc, rfl⟩ := hR.form
 have hll := hR.1
 replace hR := Lib.hid hR
 replace hF := Lib.hid hF
 replace hI := Lib.hid hI
 replace hs := Lib.hid hs
 replace hcap := Lib.hid hcap
 obtain ⟨R, hRR⟩ : ∃ R, R = tabE l fs := ⟨_, rfl⟩
 rw [← hRR]
 by_cases h64 : 64 < l.length
 · have d1 : decide ((64 : Int) < (l.length : Int)) = true := decide_eq_true (by omega)
   have hRR : R = 3 := by rw [hRR]; unfold tabE; rw [if_pos h64]
   subst hRR
   go_enter Tryz.func36, Tryz.ntmps36
   go_wp2
   go_ret
   exact ⟨rfl, Ext.refl _⟩
 · have d1 : decide ((64 : Int) < (l.length : Int)) = false := decide_eq_false (by omega)
   have hR0 : R = tabFrom l fs 0 (l.length - 0) := by rw [hRR]; unfold tabE; rw [if_neg h64]; rfl
   clear hRR
   replace hR0 := Lib.hid hR0
   go_enter Tryz.func36, Tryz.ntmps36
   go_wp2_with fail
   go_loopw [5] (fun i wr => ∃ k : Nat, k ≤ l.length ∧ i = .int .i64 k ∧ R = tabFrom l fs k (l.length - k) ∧ Ext w wr) (fun i _ => l.length - (intOf i).toNat)
   case atStart => exact ⟨0, Nat.zero_le _, rfl, hR0.out, Ext.refl _⟩
   case round =>
    clear hR0
    obtain ⟨k, hk, rfl, hRk, hE⟩ := hrel
    by_cases hlt : k < l.length
    · obtain ⟨b, off, rfl, sv, hkid⟩ := hR.out.at (by omega)
      obtain ⟨hc, hsu⟩ := hkid k hlt
      obtain ⟨hi1, hi2, hi3⟩ := hI.out k hlt
      rw [tab_step l fs k hlt] at hRk
      have hnm := Lib.hid (fun m (hm : m < l.length) w2 (h : Ext w w2) => show w2.cell? ⟨b, off + m * 10, none⟩ = some (.string (l.getD m rD).name) from ((hkid m hm).1.ext h).1)
      have any1 := Lib.hid (fun nm h => any_none (l := l) (k := k) (nm := nm) h)
      have any2 := Lib.hid (fun m nm (hm : m < k) h => any_some (l := l) (k := k) (m := m) (nm := nm) (by omega) hm h)
      have e1 := fun a => ruleE_1 (bf := l.take k) (r := l.getD k rD) (fs := fs) a
      have e2 := fun a b => ruleE_2 (bf := l.take k) (r := l.getD k rD) (fs := fs) a b
      have e3 := fun a b c => ruleE_3 (bf := l.take k) (r := l.getD k rD) (fs := fs) a b c
      have e4 := fun a b c => ruleE_4 (bf := l.take k) (r := l.getD k rD) (fs := fs) a b c
      generalize ruleE (l.take k) (l.getD k rD) fs = RE at *
      clear hkid
      generalize l.getD k rD = r at *
      obtain ⟨uq, uc, huv⟩ := hsu.form
      rw [huv] at hsu hc
      clear huv
      replace hRk := Lib.hid hRk
      have kN := Lib.hid (fun w2 => rname8_any r.name w2 hi3)
      have kP := Lib.hid (fun w2 => rpossible_any r uq r.when.args.length uc w2)
      have kX := Lib.hid (fun w2 (hE2 : Ext w w2) => rcheck24_any r.when (hsu.ext hE2) hi1 hi2 fp fc fs (hF.out.ext hE2) hcap.out hs.out)
      clear hi1 hi2 hi3 hsu
      have e1 := Lib.hid e1
      have e2 := Lib.hid e2
      have e3 := Lib.hid e3
      have e4 := Lib.hid e4
      generalize checkV r.when fs = CV at *
      unfold TyPost exAgg at kX
      unfold ruleAgg at kP
      have hcw := Lib.hid (fun w2 (h : Ext w w2) => hc.ext h)
      clear hc
      obtain ⟨h0, h1, h2, h3, h4, h5, h6, h7, h8, h9⟩ := hcw.out wr hE
      cases hn : nameB r.name with
      | false =>
       have hRE := e1.out hn
       have hRk := hRk.out
       rw [hRE, if_pos (by decide)] at hRk
       rw [hn] at kN
       clear e1 e2 e3 e4 any1 any2
       go_wp2_with fail
       refine (kN.out _).mono ?_
       rintro e w2 ⟨rfl, hE2⟩
       go_wp2
       go_ret
       exact ⟨by rw [hRk]; rfl, hE.trans hE2⟩
      | true =>
       rw [hn] at kN
       replace e2 := Lib.hid (e2.out hn)
       replace e3 := Lib.hid (e3.out hn)
       replace e4 := Lib.hid (e4.out hn)
       clear e1 hn
       go_wp2_with fail
       refine (kN.out _).mono ?_
       rintro e w2 ⟨rfl, hE2⟩
       replace hE := hE.trans hE2
       clear hE2 kN h0 h1 h2 h3 h4 h5 h6 h7 h8 h9
       go_wp2_with fail
       go_loopw [6] (fun i wr => ∃ m : Nat, m ≤ k ∧ i = .int .i64 m ∧ (∀ m', m' < m → (l.getD m' rD).name ≠ r.name) ∧ Ext w wr) (fun i _ => k - (intOf i).toNat)
       case atStart => exact ⟨0, Nat.zero_le _, rfl, fun m h => absurd h (by omega), hE⟩
       case round =>
        clear hE
        obtain ⟨m, hm, rfl, hne, hE⟩ := hrel
        by_cases hmk : m < k
        · obtain ⟨h0, h1, h2, h3, h4, h5, h6, h7, h8, h9⟩ := hcw.out wr hE
          have y0 := hnm.out m (by omega) wr hE
          have hnx := Lib.hid (fun (h : (l.getD m rD).name ≠ r.name) m' (hm' : m' < m + 1) => show (l.getD m' rD).name ≠ r.name by
           by_cases e : m' = m
           · rw [e]; exact h
           · exact hne m' (by omega))
          have an2 := Lib.hid (fun h => any2.out m r.name hmk h)
          replace hne := Lib.hid hne
          have d2 : decide ((m : Int) < (k : Int)) = true := decide_eq_true (by omega)
          have i1 : (m : Int) < (l.length : Int) := by omega
          have i2 : (k : Int) < (l.length : Int) := by omega
          generalize (l.getD m rD).name = nm at *
          by_cases hq : nm = r.name
          · have dq : (nm.toList == r.name.toList) = true := by rw [same_strEq]; exact decide_eq_true hq
            have hRE := e2.out (an2.out hq)
            have hRk := hRk.out
            rw [hRE, if_pos (by decide)] at hRk
            clear e2 e3 e4 any1 any2 an2 hnx hq
            go_wp2_with fail
            go_quiet (fail)
            go_wp2
            go_ret
            exact ⟨by rw [hRk]; rfl, xt⟩
          · have dq : (nm.toList == r.name.toList) = false := by rw [same_strEq]; exact decide_eq_false hq
            have hnx2 := Lib.hid (hnx.out hq)
            clear hnx hq an2
            go_wp2_with fail
            go_quiet (fail)
            go_wp2
            go_roundw
            case rel => exact ⟨m + 1, by omega, by go_num, hnx2.out, xt⟩
            case measure => simp [intOf]; omega
        · obtain rfl : m = k := by omega
          have hd := any1.out r.name hne
          have hd2 : decide ((m : Int) < (m : Int)) = false := decide_eq_false (by omega)
          clear hne any1 any2 hnm
          replace e3 := Lib.hid (e3.out hd)
          replace e4 := Lib.hid (e4.out hd)
          clear e2 hd
          obtain ⟨h0, h1, h2, h3, h4, h5, h6, h7, h8, h9⟩ := hcw.out wr hE
          go_wp2_with fail
          refine (kP.out _).mono ?_
          rintro e w5 ⟨rfl, hE5⟩
          replace hE := hE.trans hE5
          clear hE5 kP h0 h1 h2 h3 h4 h5 h6 h7 h8 h9
          cases hp : possB r with
          | false =>
           have hRE := e3.out hp
           have hRk := hRk.out
           rw [hRE, if_pos (by decide)] at hRk
           clear e3 e4 hp
           go_wp2
           go_ret
           exact ⟨by rw [hRk]; rfl, hE⟩
          | true =>
           have hRE := e4.out hp
           clear e3 e4 hp
           obtain ⟨h0, h1, h2, h3, h4, h5, h6, h7, h8, h9⟩ := hcw.out w5 hE
           replace hRE := Lib.hid hRE
           obtain ⟨ck, ce⟩ := CV
           go_wp2_with fail
           refine (kX.out _ hE).mono ?_
           rintro e w6 ⟨rfl, hE6⟩
           replace hE := hE.trans hE6
           clear hE6 kX h0 h1 h2 h3 h4 h5 h6 h7 h8 h9
           by_cases hce : ce ≠ 0
           · have dd : (ce != 0) = true := by simpa using hce
             have hRk := hRk.out
             rw [hRE.out, if_pos hce, if_pos hce] at hRk
             clear hRE
             go_wp2
             go_ret
             exact ⟨by rw [hRk]; rfl, hE⟩
           · obtain rfl : ce = 0 := by omega
             by_cases hck : ck ≠ 3
             · have dd : (ck != 3) = true := by simpa using hck
               have hRk := hRk.out
               rw [hRE.out, if_neg hce, if_pos hck, if_pos (by decide)] at hRk
               clear hRE
               go_wp2
               go_ret
               exact ⟨by rw [hRk]; rfl, hE⟩
             · obtain rfl : ck = 3 := by omega
               have hRk := hRk.out
               rw [hRE.out, if_neg hce, if_neg hck, if_neg (by decide)] at hRk
               replace hRk := Lib.hid hRk
               clear hRE hck hce
               go_wp2
               go_roundw
               case rel => exact ⟨m + 1, by omega, by go_num, hRk.out, hE⟩
               case measure => simp [intOf]; omega
    · obtain rfl : k = l.length := by omega
      rw [Nat.sub_self] at hRk
      have hRk : R = 0 := hRk
      clear hlt hk
      go_wp2
      go_ret
      exact ⟨by rw [hRk]; rfl, hE⟩
end Go.Proofs.YtmnhmkjmcckneaaGreatDoor
