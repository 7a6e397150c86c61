/- Contracts of pan's sum, Luhn, Check, of the points of a record, and of record.Check (walks; printed by gen/h5.py). -/
import Derived.Test.YtmnhmkjmcckneaaGreatDoorHr
namespace Go.Proofs.YtmnhmkjmcckneaaGreatDoor
open Go.RowKit
theorem getD_at (s : ByteArray) (k : Nat) (h : k < s.size) : s.data.toList.getD k 48 = s[k] := by
 have hk : k < s.data.toList.length := by rw [Array.length_toList]; exact h
 rw [List.getD_eq_getElem?_getD, List.getElem?_eq_getElem hk, Option.getD_some]
 simp [ByteArray.getElem_eq_getElem_data]
set_option maxRecDepth 8000 in
set_option maxHeartbeats 4000000 in
theorem psum_any (s : ByteArray) (w : World) (hall : s.data.toList.all dgtB = true) (hs : s.size ≤ 1000) : Calls Tryz.prog 151 #[.string s] w (OneW (.int .i64 (luhnTo s s.size)) w) := by
 have hbd := Lib.hid (luhnTo_bd s hall)
 have hdg := Lib.hid (getD_dgt s hall)
 have hstep := Lib.hid (fun k => show luhnTo s (k + 1) = luhnTo s k + luhnD (decide ((s.size - k) % 2 = 0)) (((s.data.toList.getD k 48).toNat : Int) - 48) from rfl)
 have hget := Lib.hid (getD_at s)
 have h00 : luhnTo s 0 = 0 := rfl
 replace hall := Lib.hid hall
 go_enter Tryz.func151, Tryz.ntmps151
 go_wp2_with fail
 go_loopw [3] (fun t wr => ∃ k : Nat, k ≤ s.size ∧ wr = w.iter s k ∧ t = .int .i64 (luhnTo s k)) (fun _ wr => s.size - wr.iterPos w.heap.size)
 case atStart => exact ⟨0, Nat.zero_le _, rfl, by rw [h00]⟩
 case round =>
  clear h00
  obtain ⟨k, hk, rfl, rfl⟩ := hrel
  by_cases hlt : k < s.size
  · have hb := hbd.out k
    have hd := hdg.out k
    have hst := hstep.out k
    rw [hget.out k hlt] at hd hst
    have hc256 := s[k].toNat_lt
    have hnx : ∀ ty, (Instr.next (.pointer (some ⟨w.heap.size, 0, none⟩)) true ty).run Tryz.prog (w.iter s k) = _ := fun ty => run_next_ascii w s k ty hlt (by omega)
    generalize luhnTo s k = S0 at *
    obtain ⟨m, hm⟩ : ∃ m : Nat, m = s[k].toNat := ⟨_, rfl⟩
    rw [← hm] at hd hst hnx
    clear hm hc256
    have e1 : wrap32 ((m : Int) - 48) = (m : Int) - 48 := by unfold wrap32; omega
    have e2 : wrap64 ((m : Int) - 48) = (m : Int) - 48 := by unfold wrap64; omega
    have e3 : wrap64 ((s.size : Int) - (k : Int)) = (s.size : Int) - (k : Int) := by unfold wrap64; omega
    have e4 : ((s.size : Int) - (k : Int)).tmod 2 = ((s.size - k) % 2 : Nat) := by rw [Int.tmod_eq_emod_of_nonneg (by omega)]; omega
    have e5 : wrap64 (((m : Int) - 48) * 2) = ((m : Int) - 48) * 2 := by unfold wrap64; omega
    have e6 : wrap64 (((m : Int) - 48) * 2 - 9) = ((m : Int) - 48) * 2 - 9 := by unfold wrap64; omega
    by_cases hp : (s.size - k) % 2 = 0
    · rw [decide_eq_true hp] at hst
      have d1 : ((((s.size - k) % 2 : Nat) : Int) == 0) = true := by rw [hp]; rfl
      by_cases h9 : 9 < 2 * ((m : Int) - 48)
      · have d2 : decide ((9 : Int) < ((m : Int) - 48) * 2) = true := decide_eq_true (by omega)
        have hS : luhnTo s (k + 1) = S0 + (((m : Int) - 48) * 2 - 9) := by rw [hst]; unfold luhnD; rw [if_pos rfl, if_pos h9]; omega
        replace hS := Lib.hid hS
        clear hst
        go_wp2
        go_roundw
        case rel => exact ⟨k + 1, by omega, rfl, by rw [hS.out]⟩
        case measure => simp; omega
      · have d2 : decide ((9 : Int) < ((m : Int) - 48) * 2) = false := decide_eq_false (by omega)
        have hS : luhnTo s (k + 1) = S0 + ((m : Int) - 48) * 2 := by rw [hst]; unfold luhnD; rw [if_pos rfl, if_neg h9]; omega
        replace hS := Lib.hid hS
        clear hst
        go_wp2
        go_roundw
        case rel => exact ⟨k + 1, by omega, rfl, by rw [hS.out]⟩
        case measure => simp; omega
    · rw [decide_eq_false hp] at hst
      have d1 : ((((s.size - k) % 2 : Nat) : Int) == 0) = false := by simp; omega
      have hS : luhnTo s (k + 1) = S0 + ((m : Int) - 48) := by rw [hst]; unfold luhnD; rw [if_neg (by decide)]
      replace hS := Lib.hid hS
      clear hst
      go_wp2
      go_roundw
      case rel => exact ⟨k + 1, by omega, rfl, by rw [hS.out]⟩
      case measure => simp; omega
  · have hnx : ∀ ty, (Instr.next (.pointer (some ⟨w.heap.size, 0, none⟩)) true ty).run Tryz.prog (w.iter s k) = _ := fun ty => run_next_end w s k ty hlt
    have hke : k = s.size := by omega
    have hE := Lib.hid (Ext.iter w s)
    rw [hke] at hnx ⊢
    clear hlt hk hke
    generalize luhnTo s s.size = S0 at *
    go_wp2
    go_ret
    exact ⟨rfl, hE.out _⟩
def luhnB (s : ByteArray) : Bool := s.data.toList.all dgtB && decide (luhnTo s s.size % 10 = 0)
set_option maxHeartbeats 1000000 in
theorem luhn_any (s : ByteArray) (w : World) (h0 : 0 < s.size) (hs : s.size ≤ 1000) : Calls Tryz.prog 119 #[.string s] w (OneW (.bool (luhnB s)) w) := by
 have e0 := ne_list (s := s) (by omega)
 have e1 := ne_isE (s := s) (by omega)
 have kD := Lib.hid (fun w1 => pdigits_any s w1 (by omega))
 have kS := Lib.hid (fun w1 h => psum_any s w1 h hs)
 have hB := Lib.hid (show luhnB s = (s.data.toList.all dgtB && decide (luhnTo s s.size % 10 = 0)) from rfl)
 generalize luhnB s = R at *
 have hbd := Lib.hid (fun h => (luhnTo_bd s h s.size).1)
 generalize luhnTo s s.size = L at *
 go_enter Tryz.func119, Tryz.ntmps119
 go_wp2_with fail
 refine (kD.out _).mono ?_
 rintro e w1 ⟨rfl, hE1⟩
 cases hd : s.data.toList.all dgtB with
 | false =>
  have hR := Lib.hid (show R = false by rw [hB.out, hd]; rfl)
  clear hB
  go_wp2
  go_ret
  exact ⟨by rw [hR.out]; rfl, hE1⟩
 | true =>
  have h0L := hbd.out hd
  have hk := kS.out w1 hd
  have hR := Lib.hid (show R = decide (L % 10 = 0) by rw [hB.out, hd]; rfl)
  have e4 : L.tmod 10 = L % 10 := Int.tmod_eq_emod_of_nonneg h0L
  clear hd hB
  go_wp2_with fail
  refine hk.mono ?_
  rintro e w2 ⟨rfl, hE2⟩
  by_cases hz : L % 10 = 0
  · have d1 : ((L % 10 : Int) == 0) = true := by simp [hz]
    replace hR := Lib.hid (hR.out.trans (decide_eq_true hz))
    go_wp2
    go_ret
    exact ⟨by rw [hR.out]; rfl, hE1.trans hE2⟩
  · have d1 : ((L % 10 : Int) == 0) = false := by simp [hz]
    replace hR := Lib.hid (hR.out.trans (decide_eq_false hz))
    go_wp2
    go_ret
    exact ⟨by rw [hR.out]; rfl, hE1.trans hE2⟩
set_option maxHeartbeats 1000000 in
theorem pcheck_any (s : ByteArray) (w : World) : Calls Tryz.prog 81 #[.string s] w (OneW (.int .i64 (panE s)) w) := by
 have hP := Lib.hid (show panE s = if s.size < 12 then 1 else if 19 < s.size then 3 else if s.data.toList.all dgtB = false then 2 else if luhnTo s s.size % 10 ≠ 0 then 9 else 0 from rfl)
 generalize panE s = P at *
 by_cases h1 : s.size < 12
 · have d1 : decide ((s.size : Int) < 12) = true := decide_eq_true (by omega)
   have hR := Lib.hid (hP.out.trans (if_pos h1))
   clear hP
   go_enter Tryz.func81, Tryz.ntmps81
   go_wp2
   go_ret
   exact ⟨by rw [hR.out]; rfl, Ext.refl _⟩
 · have d1 : decide ((s.size : Int) < 12) = false := decide_eq_false (by omega)
   replace hP := Lib.hid (hP.out.trans (if_neg h1))
   by_cases h2 : 19 < s.size
   · have d2 : decide ((19 : Int) < (s.size : Int)) = true := decide_eq_true (by omega)
     have hR := Lib.hid (hP.out.trans (if_pos h2))
     clear hP
     go_enter Tryz.func81, Tryz.ntmps81
     go_wp2
     go_ret
     exact ⟨by rw [hR.out]; rfl, Ext.refl _⟩
   · have d2 : decide ((19 : Int) < (s.size : Int)) = false := decide_eq_false (by omega)
     replace hP := Lib.hid (hP.out.trans (if_neg h2))
     have kD := Lib.hid (fun w1 => pdigits_any s w1 (by omega))
     have kL := Lib.hid (fun w1 => luhn_any s w1 (by omega) (by omega))
     have hB := Lib.hid (show luhnB s = (s.data.toList.all dgtB && decide (luhnTo s s.size % 10 = 0)) from rfl)
     generalize luhnB s = B at *
     generalize luhnTo s s.size = L at *
     go_enter Tryz.func81, Tryz.ntmps81
     go_wp2_with fail
     refine (kD.out _).mono ?_
     rintro e w1 ⟨rfl, hE1⟩
     cases hd : s.data.toList.all dgtB with
     | false =>
      have hR := Lib.hid (hP.out.trans (if_pos hd))
      clear hP hd hB
      go_wp2
      go_ret
      exact ⟨by rw [hR.out]; rfl, hE1⟩
     | true =>
      replace hP := Lib.hid (hP.out.trans (if_neg (by rw [hd]; decide)))
      replace hB := Lib.hid (show B = decide (L % 10 = 0) by rw [hB.out, hd]; rfl)
      clear hd
      go_wp2_with fail
      refine (kL.out _).mono ?_
      rintro e w2 ⟨rfl, hE2⟩
      by_cases hz : L % 10 = 0
      · obtain rfl : B = true := hB.out.trans (decide_eq_true hz)
        have hR := Lib.hid (hP.out.trans (if_neg (by simp [hz])))
        clear hP hB hz
        go_wp2
        go_ret
        exact ⟨by rw [hR.out]; rfl, hE1.trans hE2⟩
      · obtain rfl : B = false := hB.out.trans (decide_eq_false hz)
        have hR := Lib.hid (hP.out.trans (if_pos hz))
        clear hP hB hz
        go_wp2
        go_ret
        exact ⟨by rw [hR.out]; rfl, hE1.trans hE2⟩
set_option maxRecDepth 8000 in
set_option maxHeartbeats 2000000 in
theorem pKind (r : RecD) (w : World) : Calls Tryz.prog 53 #[recAgg r] w (OneW (.int .i64 (pointE r 0)) w) := by
 obtain ⟨kind, id, auth, acq, iss, mer, card, amt, cur, date, cat, fin⟩ := r
 simp only [recAgg, pointE]
 by_cases h1 : 1 ≤ kind
 · have d1 : decide (kind < 1) = false := decide_eq_false (by omega)
   by_cases h2 : kind ≤ 4
   · have d2 : decide (4 < kind) = false := decide_eq_false (by omega)
     rw [if_pos ⟨h1, h2⟩]
     clear h1 h2
     go_enter Tryz.func53, Tryz.ntmps53
     go_wp2
     go_ret
     exact ⟨rfl, xt⟩
   · have d2 : decide (4 < kind) = true := decide_eq_true (by omega)
     rw [if_neg (fun h => h2 h.2)]
     clear h1 h2
     go_enter Tryz.func53, Tryz.ntmps53
     go_wp2
     go_ret
     exact ⟨rfl, xt⟩
 · have d1 : decide (kind < 1) = true := decide_eq_true (by omega)
   rw [if_neg (fun h => h1 h.1)]
   clear h1
   go_enter Tryz.func53, Tryz.ntmps53
   go_wp2
   go_ret
   exact ⟨rfl, xt⟩
set_option maxRecDepth 8000 in
set_option maxHeartbeats 2000000 in
theorem pDate (r : RecD) (w : World) : Calls Tryz.prog 58 #[recAgg r] w (OneW (.int .i64 (pointE r 5)) w) := by
 obtain ⟨kind, id, auth, acq, iss, mer, card, amt, cur, date, cat, fin⟩ := r
 simp only [recAgg, pointE]
 by_cases h1 : 0 ≤ date
 · have d1 : decide (date < 0) = false := decide_eq_false (by omega)
   by_cases h2 : date ≤ 99999
   · have d2 : decide (99999 < date) = false := decide_eq_false (by omega)
     rw [if_pos ⟨h1, h2⟩]
     clear h1 h2
     go_enter Tryz.func58, Tryz.ntmps58
     go_wp2
     go_ret
     exact ⟨rfl, xt⟩
   · have d2 : decide (99999 < date) = true := decide_eq_true (by omega)
     rw [if_neg (fun h => h2 h.2)]
     clear h1 h2
     go_enter Tryz.func58, Tryz.ntmps58
     go_wp2
     go_ret
     exact ⟨rfl, xt⟩
 · have d1 : decide (date < 0) = true := decide_eq_true (by omega)
   rw [if_neg (fun h => h1 h.1)]
   clear h1
   go_enter Tryz.func58, Tryz.ntmps58
   go_wp2
   go_ret
   exact ⟨rfl, xt⟩
set_option maxRecDepth 8000 in
set_option maxHeartbeats 2000000 in
theorem pLim (r : RecD) (w : World) : Calls Tryz.prog 57 #[recAgg r] w (OneW (.int .i64 (pointE r 4)) w) := by
 obtain ⟨kind, id, auth, acq, iss, mer, card, amt, cur, date, cat, fin⟩ := r
 obtain ⟨R, hR⟩ : ∃ R, R = pointE ⟨kind, id, auth, acq, iss, mer, card, amt, cur, date, cat, fin⟩ 4 := ⟨_, rfl⟩
 rw [← hR]
 simp only [pointE] at hR
 simp only [recAgg]
 replace hR := Lib.hid hR
 by_cases h0 : 1 ≤ amt
 · have d0 : decide (amt < 1) = false := decide_eq_false (by omega)
   by_cases h1 : amt ≤ 999999999999
   · have d1 : decide (999999999999 < amt) = false := decide_eq_false (by omega)
     by_cases h2 : 0 ≤ cat
     · have d2 : decide (cat < 0) = false := decide_eq_false (by omega)
       by_cases h3 : cat ≤ 9999
       · have d3 : decide (9999 < cat) = false := decide_eq_false (by omega)
         have hRR := Lib.hid (hR.out.trans (if_pos (by simp [limB]; omega)))
         clear h0 h1 h2 h3 hR
         go_enter Tryz.func57, Tryz.ntmps57
         go_wp2
         go_ret
         exact ⟨by rw [hRR.out]; rfl, xt⟩
       · have d3 : decide (9999 < cat) = true := decide_eq_true (by omega)
         have hRR := Lib.hid (hR.out.trans (if_neg (by intro h; simp [limB] at h; omega)))
         clear h3 hR
         go_enter Tryz.func57, Tryz.ntmps57
         go_wp2
         go_ret
         exact ⟨by rw [hRR.out]; rfl, xt⟩
     · have d2 : decide (cat < 0) = true := decide_eq_true (by omega)
       have hRR := Lib.hid (hR.out.trans (if_neg (by intro h; simp [limB] at h; omega)))
       clear h2 hR
       go_enter Tryz.func57, Tryz.ntmps57
       go_wp2
       go_ret
       exact ⟨by rw [hRR.out]; rfl, xt⟩
   · have d1 : decide (999999999999 < amt) = true := decide_eq_true (by omega)
     have hRR := Lib.hid (hR.out.trans (if_neg (by intro h; simp [limB] at h; omega)))
     clear h1 hR
     go_enter Tryz.func57, Tryz.ntmps57
     go_wp2
     go_ret
     exact ⟨by rw [hRR.out]; rfl, xt⟩
 · have d0 : decide (amt < 1) = true := decide_eq_true (by omega)
   have hRR := Lib.hid (hR.out.trans (if_neg (by intro h; simp [limB] at h; omega)))
   clear h0 hR
   go_enter Tryz.func57, Tryz.ntmps57
   go_wp2
   go_ret
   exact ⟨by rw [hRR.out]; rfl, xt⟩
set_option maxRecDepth 8000 in
set_option maxHeartbeats 2000000 in
theorem pAmt (r : RecD) (w : World) : Calls Tryz.prog 56 #[recAgg r] w (OneW (.int .i64 (pointE r 3)) w) := by
 obtain ⟨kind, id, auth, acq, iss, mer, card, amt, cur, date, cat, fin⟩ := r
 simp only [recAgg, pointE]
 have kM := Lib.hid (fun w1 => mcheck_any amt cur w1)
 generalize monE amt cur = M at *
 go_enter Tryz.func56, Tryz.ntmps56
 go_wp2_with fail
 refine (kM.out _).mono ?_
 rintro e w1 ⟨rfl, hE1⟩
 have hE : Ext w w1 := Ext.trans xt hE1
 clear hE1 kM
 go_wp2
 go_ret
 exact ⟨rfl, hE⟩
set_option maxRecDepth 8000 in
set_option maxHeartbeats 2000000 in
theorem pCard (r : RecD) (w : World) : Calls Tryz.prog 55 #[recAgg r] w (OneW (.int .i64 (pointE r 2)) w) := by
 obtain ⟨kind, id, auth, acq, iss, mer, card, amt, cur, date, cat, fin⟩ := r
 obtain ⟨R, hR⟩ : ∃ R, R = pointE ⟨kind, id, auth, acq, iss, mer, card, amt, cur, date, cat, fin⟩ 2 := ⟨_, rfl⟩
 rw [← hR]
 simp only [pointE] at hR
 simp only [recAgg]
 have kP := Lib.hid (fun w1 => pcheck_any card w1)
 generalize panE card = M at *
 replace hR := Lib.hid hR
 go_enter Tryz.func55, Tryz.ntmps55
 go_wp2_with fail
 refine (kP.out _).mono ?_
 rintro e w1 ⟨rfl, hE1⟩
 have hE : Ext w w1 := Ext.trans xt hE1
 clear hE1 kP
 by_cases hz : M = 0
 · have hRR := Lib.hid (hR.out.trans (if_pos hz))
   subst hz
   clear hR
   go_wp2
   go_ret
   exact ⟨by rw [hRR.out]; rfl, hE⟩
 · have d1 : (M != 0) = true := by simp [hz]
   have hRR := Lib.hid (hR.out.trans (if_neg hz))
   clear hz hR
   go_wp2
   go_ret
   exact ⟨by rw [hRR.out]; rfl, hE⟩
set_option maxRecDepth 8000 in
set_option maxHeartbeats 2000000 in
theorem pNames (r : RecD) (w : World) : Calls Tryz.prog 54 #[recAgg r] w (OneW (.int .i64 (pointE r 1)) w) := by
 obtain ⟨kind, id, auth, acq, iss, mer, card, amt, cur, date, cat, fin⟩ := r
 obtain ⟨R, hR⟩ : ∃ R, R = pointE ⟨kind, id, auth, acq, iss, mer, card, amt, cur, date, cat, fin⟩ 1 := ⟨_, rfl⟩
 rw [← hR]
 simp only [pointE, namesR] at hR
 simp only [recAgg]
 replace hR := Lib.hid hR
 go_enter Tryz.func54, Tryz.ntmps54
 go_wp2_with fail
 refine (isIdent_any id _).mono ?_
 rintro e w1 ⟨rfl, hE1⟩
 have hb := Lib.hid ((Blk.new w #[.int .i64 kind, .string id, .string auth, .string acq, .string iss, .string mer, .string card, .int .i64 amt, .string cur, .int .i64 date, .int .i64 cat, .bool fin] 108).ext hE1)
 have hE : Ext w w1 := Ext.trans xt hE1
 clear hE1
 cases a1 : idS id with
 | false =>
  have hR : R = 5 := by rw [hR.out]; simp [a1]
  subst hR
  go_wp2
  go_ret
  exact ⟨rfl, hE⟩
 | true =>
  have x2 : w1.cell? ⟨w.heap.size, 2, none⟩ = some (.string auth) := (hb.out.cell 2).trans rfl
  have key : ∀ wz, Ext w wz → Blk wz w.heap.size #[.int .i64 kind, .string id, .string auth, .string acq, .string iss, .string mer, .string card, .int .i64 amt, .string cur, .int .i64 date, .int .i64 cat, .bool fin] 108 → True := fun _ _ _ => trivial
  clear key
  by_cases hz : auth.size = 0
  · have e0 := emp_list hz
    have x3 : w1.cell? ⟨w.heap.size, 3, none⟩ = some (.string acq) := (hb.out.cell 3).trans rfl
    go_wp2_with fail
    refine (isName_any acq _).mono ?_
    rintro e wa ⟨rfl, rfl⟩
    cases a3 : nameB acq with
    | false =>
     have hR : R = 5 := by rw [hR.out]; simp [a1, hz, a3]
     subst hR
     go_wp2
     go_ret
     exact ⟨rfl, hE⟩
    | true =>
     have x4 : w1.cell? ⟨w.heap.size, 4, none⟩ = some (.string iss) := (hb.out.cell 4).trans rfl
     go_wp2_with fail
     refine (isName_any iss _).mono ?_
     rintro e wa ⟨rfl, rfl⟩
     cases a4 : nameB iss with
     | false =>
      have hR : R = 5 := by rw [hR.out]; simp [a1, hz, a3, a4]
      subst hR
      go_wp2
      go_ret
      exact ⟨rfl, hE⟩
     | true =>
      have x5 : w1.cell? ⟨w.heap.size, 5, none⟩ = some (.string mer) := (hb.out.cell 5).trans rfl
      go_wp2_with fail
      refine (isIdent_any mer _).mono ?_
      rintro e w9 ⟨rfl, hE9⟩
      replace hE := hE.trans hE9
      cases a5 : idS mer with
      | false =>
       have hR : R = 5 := by rw [hR.out]; simp [a1, hz, a3, a4, a5]
       subst hR
       go_wp2
       go_ret
       exact ⟨rfl, hE⟩
      | true =>
       have hR : R = 0 := by rw [hR.out]; simp [a1, hz, a3, a4, a5]
       subst hR
       go_wp2
       go_ret
       exact ⟨rfl, hE⟩
  · have e0 := ne_list hz
    have e1 := ne_isE hz
    go_wp2_with fail
    refine (isIdent_any auth _).mono ?_
    rintro e w2 ⟨rfl, hE2⟩
    replace hb := Lib.hid (hb.out.ext hE2)
    replace hE := hE.trans hE2
    clear hE2 x2
    cases a2 : idS auth with
    | false =>
     have hR : R = 5 := by rw [hR.out]; simp [a1, hz, a2]
     subst hR
     go_wp2
     go_ret
     exact ⟨rfl, hE⟩
    | true =>
     have x3 : w2.cell? ⟨w.heap.size, 3, none⟩ = some (.string acq) := (hb.out.cell 3).trans rfl
     go_wp2_with fail
     refine (isName_any acq _).mono ?_
     rintro e wa ⟨rfl, rfl⟩
     cases a3 : nameB acq with
     | false =>
      have hR : R = 5 := by rw [hR.out]; simp [a1, hz, a2, a3]
      subst hR
      go_wp2
      go_ret
      exact ⟨rfl, hE⟩
     | true =>
      have x4 : w2.cell? ⟨w.heap.size, 4, none⟩ = some (.string iss) := (hb.out.cell 4).trans rfl
      go_wp2_with fail
      refine (isName_any iss _).mono ?_
      rintro e wa ⟨rfl, rfl⟩
      cases a4 : nameB iss with
      | false =>
       have hR : R = 5 := by rw [hR.out]; simp [a1, hz, a2, a3, a4]
       subst hR
       go_wp2
       go_ret
       exact ⟨rfl, hE⟩
      | true =>
       have x5 : w2.cell? ⟨w.heap.size, 5, none⟩ = some (.string mer) := (hb.out.cell 5).trans rfl
       go_wp2_with fail
       refine (isIdent_any mer _).mono ?_
       rintro e w9 ⟨rfl, hE9⟩
       replace hE := hE.trans hE9
       cases a5 : idS mer with
       | false =>
        have hR : R = 5 := by rw [hR.out]; simp [a1, hz, a2, a3, a4, a5]
        subst hR
        go_wp2
        go_ret
        exact ⟨rfl, hE⟩
       | true =>
        have hR : R = 0 := by rw [hR.out]; simp [a1, hz, a2, a3, a4, a5]
        subst hR
        go_wp2
        go_ret
        exact ⟨rfl, hE⟩
set_option maxRecDepth 8000 in
set_option maxHeartbeats 4000000 in
theorem rcheck_any (r : RecD) (w : World) : Calls Tryz.prog 28 #[recAgg r] w (OneW (.int .i64 (recE r)) w) := by
 have k0 := Lib.hid (fun w1 => pKind r w1)
 have k1 := Lib.hid (fun w1 => pNames r w1)
 have k2 := Lib.hid (fun w1 => pCard r w1)
 have k3 := Lib.hid (fun w1 => pAmt r w1)
 have k4 := Lib.hid (fun w1 => pLim r w1)
 have k5 := Lib.hid (fun w1 => pDate r w1)
 have hat := Lib.hid (fun k a b c => recE_at (r := r) (k := k) a b c)
 have hok := Lib.hid (fun a => recE_ok (r := r) a)
 generalize recE r = R at *
 generalize pointE r = PE at *
 obtain ⟨kind, id, auth, acq, iss, mer, card, amt, cur, date, cat, fin⟩ := r
 simp only [recAgg] at k0 k1 k2 k3 k4 k5 ⊢
 go_enter Tryz.func28, Tryz.ntmps28
 go_wp2_with fail
 have hb1 : Blk ((w.alloc (.cells #[.int .i64 kind, .string id, .string auth, .string acq, .string iss, .string mer, .string card, .int .i64 amt, .string cur, .int .i64 date, .int .i64 cat, .bool fin] 28)).alloc (.cells #[.func (Fn.func 53) #[] #[], .func (Fn.func 54) #[] #[], .func (Fn.func 55) #[] #[], .func (Fn.func 56) #[] #[], .func (Fn.func 57) #[] #[], .func (Fn.func 58) #[] #[]] 106)) w.heap.size #[.int .i64 kind, .string id, .string auth, .string acq, .string iss, .string mer, .string card, .int .i64 amt, .string cur, .int .i64 date, .int .i64 cat, .bool fin] 28 := (Blk.new w #[.int .i64 kind, .string id, .string auth, .string acq, .string iss, .string mer, .string card, .int .i64 amt, .string cur, .int .i64 date, .int .i64 cat, .bool fin] 28).alloc _
 have hb2 : Blk ((w.alloc (.cells #[.int .i64 kind, .string id, .string auth, .string acq, .string iss, .string mer, .string card, .int .i64 amt, .string cur, .int .i64 date, .int .i64 cat, .bool fin] 28)).alloc (.cells #[.func (Fn.func 53) #[] #[], .func (Fn.func 54) #[] #[], .func (Fn.func 55) #[] #[], .func (Fn.func 56) #[] #[], .func (Fn.func 57) #[] #[], .func (Fn.func 58) #[] #[]] 106)) (w.heap.size + 1) #[.func (Fn.func 53) #[] #[], .func (Fn.func 54) #[] #[], .func (Fn.func 55) #[] #[], .func (Fn.func 56) #[] #[], .func (Fn.func 57) #[] #[], .func (Fn.func 58) #[] #[]] 106 := Blk.new' (w.alloc (.cells #[.int .i64 kind, .string id, .string auth, .string acq, .string iss, .string mer, .string card, .int .i64 amt, .string cur, .int .i64 date, .int .i64 cat, .bool fin] 28)) _ _ (w.heap.size + 1) (by simp)
 have hE0 : Ext w ((w.alloc (.cells #[.int .i64 kind, .string id, .string auth, .string acq, .string iss, .string mer, .string card, .int .i64 amt, .string cur, .int .i64 date, .int .i64 cat, .bool fin] 28)).alloc (.cells #[.func (Fn.func 53) #[] #[], .func (Fn.func 54) #[] #[], .func (Fn.func 55) #[] #[], .func (Fn.func 56) #[] #[], .func (Fn.func 57) #[] #[], .func (Fn.func 58) #[] #[]] 106)) := xt
 generalize ((w.alloc (.cells #[.int .i64 kind, .string id, .string auth, .string acq, .string iss, .string mer, .string card, .int .i64 amt, .string cur, .int .i64 date, .int .i64 cat, .bool fin] 28)).alloc (.cells #[.func (Fn.func 53) #[] #[], .func (Fn.func 54) #[] #[], .func (Fn.func 55) #[] #[], .func (Fn.func 56) #[] #[], .func (Fn.func 57) #[] #[], .func (Fn.func 58) #[] #[]] 106)) = w0 at *
 replace hb1 := Lib.hid hb1
 replace hb2 := Lib.hid hb2
 go_loopw [10] (fun i wr => ∃ k : Nat, k ≤ 6 ∧ i = .int .i64 k ∧ (∀ j, j < k → PE j = 0) ∧ Ext w0 wr) (fun i _ => 6 - (intOf i).toNat)
 case atStart => exact ⟨0, by omega, rfl, fun j hj => absurd hj (by omega), Ext.refl _⟩
 case round =>
  obtain ⟨k, hk, rfl, hall, hE⟩ := hrel
  by_cases hlt : k < 6
  · have hat1 := fun h => hat.out k hlt hall h
    have hnext : PE k = 0 → ∀ j, j < k + 1 → PE j = 0 := fun h j hj => by
     by_cases e : j = k
     · subst e; exact h
     · exact hall j (by omega)
    have hb := Lib.hid (hb1.out.ext hE)
    have hf := Lib.hid (hb2.out.ext hE)
    clear hall
    have x0 : wr.cell? ⟨w.heap.size, 0, none⟩ = some (.int .i64 kind) := (hb.out.cell 0).trans rfl
    have x1 : wr.cell? ⟨w.heap.size, 1, none⟩ = some (.string id) := (hb.out.cell 1).trans rfl
    have x2 : wr.cell? ⟨w.heap.size, 2, none⟩ = some (.string auth) := (hb.out.cell 2).trans rfl
    have x3 : wr.cell? ⟨w.heap.size, 3, none⟩ = some (.string acq) := (hb.out.cell 3).trans rfl
    have x4 : wr.cell? ⟨w.heap.size, 4, none⟩ = some (.string iss) := (hb.out.cell 4).trans rfl
    have x5 : wr.cell? ⟨w.heap.size, 5, none⟩ = some (.string mer) := (hb.out.cell 5).trans rfl
    have x6 : wr.cell? ⟨w.heap.size, 6, none⟩ = some (.string card) := (hb.out.cell 6).trans rfl
    have x7 : wr.cell? ⟨w.heap.size, 7, none⟩ = some (.int .i64 amt) := (hb.out.cell 7).trans rfl
    have x8 : wr.cell? ⟨w.heap.size, 8, none⟩ = some (.string cur) := (hb.out.cell 8).trans rfl
    have x9 : wr.cell? ⟨w.heap.size, 9, none⟩ = some (.int .i64 date) := (hb.out.cell 9).trans rfl
    have x10 : wr.cell? ⟨w.heap.size, 10, none⟩ = some (.int .i64 cat) := (hb.out.cell 10).trans rfl
    have x11 : wr.cell? ⟨w.heap.size, 11, none⟩ = some (.bool fin) := (hb.out.cell 11).trans rfl
    have hcase : k = 0 ∨ k = 1 ∨ k = 2 ∨ k = 3 ∨ k = 4 ∨ k = 5 := by omega
    rcases hcase with rfl | rfl | rfl | rfl | rfl | rfl
    · have y : wr.cell? ⟨w.heap.size + 1, 0, none⟩ = some (.func (Fn.func 53) #[] #[]) := (hf.out.cell 0).trans rfl
      generalize PE 0 = P at *
      replace hat1 := Lib.hid hat1
      replace hnext := Lib.hid hnext
      clear hlt hk
      go_wp2_with fail
      refine (k0.out _).mono ?_
      rintro e w2 ⟨rfl, hE2⟩
      replace hE := hE.trans hE2
      clear hE2 y x0 x1 x2 x3 x4 x5 x6 x7 x8 x9 x10 x11
      by_cases hz : P = 0
      · have hn := Lib.hid (hnext.out hz)
        subst hz
        clear hat1 hnext
        go_wp2
        go_roundw
        case rel => exact ⟨1, by omega, by go_num, hn.out, hE⟩
        case measure => simp [intOf]
      · have d : (P != 0) = true := by simp [hz]
        have hR := Lib.hid (hat1.out hz)
        clear hat1 hnext
        go_wp2
        go_ret
        exact ⟨by rw [hR.out]; rfl, hE0.trans hE⟩
    · have y : wr.cell? ⟨w.heap.size + 1, 1, none⟩ = some (.func (Fn.func 54) #[] #[]) := (hf.out.cell 1).trans rfl
      generalize PE 1 = P at *
      replace hat1 := Lib.hid hat1
      replace hnext := Lib.hid hnext
      clear hlt hk
      go_wp2_with fail
      refine (k1.out _).mono ?_
      rintro e w2 ⟨rfl, hE2⟩
      replace hE := hE.trans hE2
      clear hE2 y x0 x1 x2 x3 x4 x5 x6 x7 x8 x9 x10 x11
      by_cases hz : P = 0
      · have hn := Lib.hid (hnext.out hz)
        subst hz
        clear hat1 hnext
        go_wp2
        go_roundw
        case rel => exact ⟨2, by omega, by go_num, hn.out, hE⟩
        case measure => simp [intOf]
      · have d : (P != 0) = true := by simp [hz]
        have hR := Lib.hid (hat1.out hz)
        clear hat1 hnext
        go_wp2
        go_ret
        exact ⟨by rw [hR.out]; rfl, hE0.trans hE⟩
    · have y : wr.cell? ⟨w.heap.size + 1, 2, none⟩ = some (.func (Fn.func 55) #[] #[]) := (hf.out.cell 2).trans rfl
      generalize PE 2 = P at *
      replace hat1 := Lib.hid hat1
      replace hnext := Lib.hid hnext
      clear hlt hk
      go_wp2_with fail
      refine (k2.out _).mono ?_
      rintro e w2 ⟨rfl, hE2⟩
      replace hE := hE.trans hE2
      clear hE2 y x0 x1 x2 x3 x4 x5 x6 x7 x8 x9 x10 x11
      by_cases hz : P = 0
      · have hn := Lib.hid (hnext.out hz)
        subst hz
        clear hat1 hnext
        go_wp2
        go_roundw
        case rel => exact ⟨3, by omega, by go_num, hn.out, hE⟩
        case measure => simp [intOf]
      · have d : (P != 0) = true := by simp [hz]
        have hR := Lib.hid (hat1.out hz)
        clear hat1 hnext
        go_wp2
        go_ret
        exact ⟨by rw [hR.out]; rfl, hE0.trans hE⟩
    · have y : wr.cell? ⟨w.heap.size + 1, 3, none⟩ = some (.func (Fn.func 56) #[] #[]) := (hf.out.cell 3).trans rfl
      generalize PE 3 = P at *
      replace hat1 := Lib.hid hat1
      replace hnext := Lib.hid hnext
      clear hlt hk
      go_wp2_with fail
      refine (k3.out _).mono ?_
      rintro e w2 ⟨rfl, hE2⟩
      replace hE := hE.trans hE2
      clear hE2 y x0 x1 x2 x3 x4 x5 x6 x7 x8 x9 x10 x11
      by_cases hz : P = 0
      · have hn := Lib.hid (hnext.out hz)
        subst hz
        clear hat1 hnext
        go_wp2
        go_roundw
        case rel => exact ⟨4, by omega, by go_num, hn.out, hE⟩
        case measure => simp [intOf]
      · have d : (P != 0) = true := by simp [hz]
        have hR := Lib.hid (hat1.out hz)
        clear hat1 hnext
        go_wp2
        go_ret
        exact ⟨by rw [hR.out]; rfl, hE0.trans hE⟩
    · have y : wr.cell? ⟨w.heap.size + 1, 4, none⟩ = some (.func (Fn.func 57) #[] #[]) := (hf.out.cell 4).trans rfl
      generalize PE 4 = P at *
      replace hat1 := Lib.hid hat1
      replace hnext := Lib.hid hnext
      clear hlt hk
      go_wp2_with fail
      refine (k4.out _).mono ?_
      rintro e w2 ⟨rfl, hE2⟩
      replace hE := hE.trans hE2
      clear hE2 y x0 x1 x2 x3 x4 x5 x6 x7 x8 x9 x10 x11
      by_cases hz : P = 0
      · have hn := Lib.hid (hnext.out hz)
        subst hz
        clear hat1 hnext
        go_wp2
        go_roundw
        case rel => exact ⟨5, by omega, by go_num, hn.out, hE⟩
        case measure => simp [intOf]
      · have d : (P != 0) = true := by simp [hz]
        have hR := Lib.hid (hat1.out hz)
        clear hat1 hnext
        go_wp2
        go_ret
        exact ⟨by rw [hR.out]; rfl, hE0.trans hE⟩
    · have y : wr.cell? ⟨w.heap.size + 1, 5, none⟩ = some (.func (Fn.func 58) #[] #[]) := (hf.out.cell 5).trans rfl
      generalize PE 5 = P at *
      replace hat1 := Lib.hid hat1
      replace hnext := Lib.hid hnext
      clear hlt hk
      go_wp2_with fail
      refine (k5.out _).mono ?_
      rintro e w2 ⟨rfl, hE2⟩
      replace hE := hE.trans hE2
      clear hE2 y x0 x1 x2 x3 x4 x5 x6 x7 x8 x9 x10 x11
      by_cases hz : P = 0
      · have hn := Lib.hid (hnext.out hz)
        subst hz
        clear hat1 hnext
        go_wp2
        go_roundw
        case rel => exact ⟨6, by omega, by go_num, hn.out, hE⟩
        case measure => simp [intOf]
      · have d : (P != 0) = true := by simp [hz]
        have hR := Lib.hid (hat1.out hz)
        clear hat1 hnext
        go_wp2
        go_ret
        exact ⟨by rw [hR.out]; rfl, hE0.trans hE⟩
  · have hR := Lib.hid (hok.out (fun j hj => hall j (by omega)))
    have hke : k = 6 := by omega
    subst hke
    clear hall hat
    go_wp2
    go_ret
    exact ⟨by rw [hR.out]; rfl, hE0.trans hE⟩
end Go.Proofs.YtmnhmkjmcckneaaGreatDoor
