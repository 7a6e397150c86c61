/- Contracts of the reference's number, bare, IsId, IsName (walks; printed by gen/g1.py). -/
import Derived.Test.YtangdoidkcelfaaGreatDoorEb
import Derived.Test.YtangdoidkcelfaaGreatDoorEl
namespace Go.Proofs.YtangdoidkcelfaaGreatDoor
open Go.RowKit
theorem rnumber_any (n : Int) (w : World) : Calls Tryz.prog 110 #[.int .i64 n] w fun e w' => e = .returned (.bool (nbrB n)) ∧ w = w' := by
 unfold nbrB
 by_cases c0 : -4611686018427387904 ≤ n
 · have d0 : decide (-4611686018427387904 ≤ n) = true := by simp [c0]
   by_cases c1 : n ≤ 4611686018427387904
   · have d1 : decide (n ≤ 4611686018427387904) = true := by simp [c1]
     rw [d0, d1]
     clear c0 c1
     go_enter Tryz.func110, Tryz.ntmps110
     go_wp2
     go_ret
     exact ⟨rfl, rfl⟩
   · have d1 : decide (n ≤ 4611686018427387904) = false := by simp; omega
     rw [d0, d1]
     clear c0 c1
     go_enter Tryz.func110, Tryz.ntmps110
     go_wp2
     go_ret
     exact ⟨rfl, rfl⟩
 · have d0 : decide (-4611686018427387904 ≤ n) = false := by simp; omega
   rw [d0]
   clear c0
   go_enter Tryz.func110, Tryz.ntmps110
   go_wp2
   go_ret
   exact ⟨rfl, rfl⟩
/-- A byte of an identifier. -/
def idC (c : UInt8) : Bool := wrdB c || decide (c.toNat = 45)
def idS (s : ByteArray) : Bool := decide (1 ≤ s.size ∧ s.size ≤ 16) && s.data.toList.all idC
def OneW (v : Value) (w : World) (e : Ending) (w' : World) : Prop := e = .returned v ∧ Ext w w'
theorem idC_iff (c : UInt8) : idC c = true ↔ (97 ≤ c.toNat ∧ c.toNat ≤ 122) ∨ (65 ≤ c.toNat ∧ c.toNat ≤ 90) ∨ (48 ≤ c.toNat ∧ c.toNat ≤ 57) ∨ c.toNat = 95 ∨ c.toNat = 45 := by
 unfold idC wrdB ltrB dgtB
 simp only [Bool.or_eq_true, Bool.and_eq_true, decide_eq_true_eq]
 omega
set_option maxRecDepth 8000 in
set_option maxHeartbeats 4000000 in
theorem isId_any (s : ByteArray) (w : World) (hs : s.size ≤ 140737488355328) : Calls Tryz.prog 133 #[.string s] w (OneW (.bool (idS s)) w) := by
 obtain ⟨R, hR⟩ : ∃ R, R = idS s := ⟨_, rfl⟩
 rw [← hR]
 have hbad : s.data.toList.all idC = false → R = false := fun h => by rw [hR]; unfold idS; rw [h, Bool.and_false]
 have hgood : s.data.toList.all idC = true → R = decide (1 ≤ s.size ∧ s.size ≤ 16) := fun h => by rw [hR]; unfold idS; rw [h, Bool.and_true]
 replace hbad := Lib.hid hbad
 replace hgood := Lib.hid hgood
 clear hR
 go_enter Tryz.func133, Tryz.ntmps133
 go_wp2_with fail
 go_loopw [3] (fun i wr => ∃ k : Nat, k ≤ s.size ∧ i = .int .i64 k ∧ (s.data.toList.take k).all idC = true ∧ Ext w wr) (fun i _ => s.size - (intOf i).toNat)
 case atStart => exact ⟨0, Nat.zero_le _, rfl, by simp, Ext.refl _⟩
 case round =>
  obtain ⟨k, hk, rfl, hall, hE⟩ := hrel
  by_cases hlt : k < s.size
  · have hst := all_takeB idC s k hlt
    rw [hall, Bool.true_and] at hst
    have hb := all_badB idC s k hlt
    have hic := idC_iff s[k]
    replace hst := Lib.hid hst
    replace hb := Lib.hid hb
    replace hall := Lib.hid hall
    by_cases c97 : 97 ≤ s[k].toNat
    · have d97 : decide ((97 : Int) ≤ (s[k].toNat : Int)) = true := decide_eq_true (by omega)
      by_cases c122 : s[k].toNat ≤ 122
      · have d122 : decide ((s[k].toNat : Int) ≤ 122) = true := decide_eq_true (by omega)
        have hg := Lib.hid (hic.2 (by omega))
        clear hic
        go_wp2
        go_roundw
        case rel => exact ⟨k + 1, by omega, by go_num, by rw [hst.out, hg.out], hE⟩
        case measure => simp [intOf]; omega
      · have d122 : decide ((s[k].toNat : Int) ≤ 122) = false := decide_eq_false (by omega)
        have d65 : decide ((65 : Int) ≤ (s[k].toNat : Int)) = true := decide_eq_true (by omega)
        have d90 : decide ((s[k].toNat : Int) ≤ 90) = false := decide_eq_false (by omega)
        have d48 : decide ((48 : Int) ≤ (s[k].toNat : Int)) = true := decide_eq_true (by omega)
        have d57 : decide ((s[k].toNat : Int) ≤ 57) = false := decide_eq_false (by omega)
        have e95 : ((s[k].toNat : Int) == 95) = false := by simp; omega
        have g95 : (s[k].toNat == 95) = false := by simp; omega
        have e45 : ((s[k].toNat : Int) == 45) = false := by simp; omega
        have g45 : (s[k].toNat == 45) = false := by simp; omega
        have hR := Lib.hid (hbad.out (hb.out (by cases hc : idC s[k] with | false => rfl | true => (have := hic.1 hc; omega))))
        clear hic
        go_wp2
        go_ret
        exact ⟨by rw [hR.out]; rfl, hE⟩
    · have d97 : decide ((97 : Int) ≤ (s[k].toNat : Int)) = false := decide_eq_false (by omega)
      by_cases c65 : 65 ≤ s[k].toNat
      · have d65 : decide ((65 : Int) ≤ (s[k].toNat : Int)) = true := decide_eq_true (by omega)
        by_cases c90 : s[k].toNat ≤ 90
        · have d90 : decide ((s[k].toNat : Int) ≤ 90) = true := decide_eq_true (by omega)
          have hg := Lib.hid (hic.2 (by omega))
          clear hic
          go_wp2
          go_roundw
          case rel => exact ⟨k + 1, by omega, by go_num, by rw [hst.out, hg.out], hE⟩
          case measure => simp [intOf]; omega
        · have d90 : decide ((s[k].toNat : Int) ≤ 90) = false := decide_eq_false (by omega)
          have d48 : decide ((48 : Int) ≤ (s[k].toNat : Int)) = true := decide_eq_true (by omega)
          have d57 : decide ((s[k].toNat : Int) ≤ 57) = false := decide_eq_false (by omega)
          by_cases c95 : s[k].toNat = 95
          · skip
            have e95 : ((s[k].toNat : Int) == 95) = true := by simp; omega
            have g95 : (s[k].toNat == 95) = true := by simp; omega
            have hg := Lib.hid (hic.2 (by omega))
            clear hic
            go_wp2
            go_roundw
            case rel => exact ⟨k + 1, by omega, by go_num, by rw [hst.out, hg.out], hE⟩
            case measure => simp [intOf]; omega
          · skip
            have e95 : ((s[k].toNat : Int) == 95) = false := by simp; omega
            have g95 : (s[k].toNat == 95) = false := by simp; omega
            have e45 : ((s[k].toNat : Int) == 45) = false := by simp; omega
            have g45 : (s[k].toNat == 45) = false := by simp; omega
            have hR := Lib.hid (hbad.out (hb.out (by cases hc : idC s[k] with | false => rfl | true => (have := hic.1 hc; omega))))
            clear hic
            go_wp2
            go_ret
            exact ⟨by rw [hR.out]; rfl, hE⟩
      · have d65 : decide ((65 : Int) ≤ (s[k].toNat : Int)) = false := decide_eq_false (by omega)
        by_cases c48 : 48 ≤ s[k].toNat
        · have d48 : decide ((48 : Int) ≤ (s[k].toNat : Int)) = true := decide_eq_true (by omega)
          by_cases c57 : s[k].toNat ≤ 57
          · have d57 : decide ((s[k].toNat : Int) ≤ 57) = true := decide_eq_true (by omega)
            have hg := Lib.hid (hic.2 (by omega))
            clear hic
            go_wp2
            go_roundw
            case rel => exact ⟨k + 1, by omega, by go_num, by rw [hst.out, hg.out], hE⟩
            case measure => simp [intOf]; omega
          · have d57 : decide ((s[k].toNat : Int) ≤ 57) = false := decide_eq_false (by omega)
            have e95 : ((s[k].toNat : Int) == 95) = false := by simp; omega
            have g95 : (s[k].toNat == 95) = false := by simp; omega
            have e45 : ((s[k].toNat : Int) == 45) = false := by simp; omega
            have g45 : (s[k].toNat == 45) = false := by simp; omega
            have hR := Lib.hid (hbad.out (hb.out (by cases hc : idC s[k] with | false => rfl | true => (have := hic.1 hc; omega))))
            clear hic
            go_wp2
            go_ret
            exact ⟨by rw [hR.out]; rfl, hE⟩
        · have d48 : decide ((48 : Int) ≤ (s[k].toNat : Int)) = false := decide_eq_false (by omega)
          by_cases c45 : s[k].toNat = 45
          · skip
            have e95 : ((s[k].toNat : Int) == 95) = false := by simp; omega
            have g95 : (s[k].toNat == 95) = false := by simp; omega
            have e45 : ((s[k].toNat : Int) == 45) = true := by simp; omega
            have g45 : (s[k].toNat == 45) = true := by simp; omega
            have hg := Lib.hid (hic.2 (by omega))
            clear hic
            go_wp2
            go_roundw
            case rel => exact ⟨k + 1, by omega, by go_num, by rw [hst.out, hg.out], hE⟩
            case measure => simp [intOf]; omega
          · skip
            have e95 : ((s[k].toNat : Int) == 95) = false := by simp; omega
            have g95 : (s[k].toNat == 95) = false := by simp; omega
            have e45 : ((s[k].toNat : Int) == 45) = false := by simp; omega
            have g45 : (s[k].toNat == 45) = false := by simp; omega
            have hR := Lib.hid (hbad.out (hb.out (by cases hc : idC s[k] with | false => rfl | true => (have := hic.1 hc; omega))))
            clear hic
            go_wp2
            go_ret
            exact ⟨by rw [hR.out]; rfl, hE⟩
  · have hkk : s.data.toList.take k = s.data.toList := List.take_of_length_le (by have : s.data.toList.length = s.size := rfl; omega)
    rw [hkk] at hall
    have hR := hgood.out hall
    clear hkk hall
    by_cases h1 : 1 ≤ s.size
    · have d1 : decide ((1 : Int) ≤ (s.size : Int)) = true := by simp; omega
      have d1' : decide (1 ≤ s.size) = true := by simp [h1]
      by_cases h2 : s.size ≤ 16
      · have d2 : decide ((s.size : Int) ≤ 16) = true := by simp; omega
        have d2' : decide (s.size ≤ 16) = true := by simp [h2]
        rw [decide_eq_true ⟨h1, h2⟩] at hR
        replace hR := Lib.hid hR
        go_wp2
        go_ret
        exact ⟨by rw [hR.out]; rfl, hE⟩
      · have d2 : decide ((s.size : Int) ≤ 16) = false := by simp; omega
        have d2' : decide (s.size ≤ 16) = false := by simp; omega
        rw [decide_eq_false (fun h => h2 h.2)] at hR
        replace hR := Lib.hid hR
        go_wp2
        go_ret
        exact ⟨by rw [hR.out]; rfl, hE⟩
    · have d1 : decide ((1 : Int) ≤ (s.size : Int)) = false := decide_eq_false (by omega)
      have d1' : decide (1 ≤ s.size) = false := decide_eq_false (by omega)
      rw [decide_eq_false (fun h => h1 h.1)] at hR
      replace hR := Lib.hid hR
      go_wp2
      go_ret
      exact ⟨by rw [hR.out]; rfl, hE⟩
theorem strOk_self {op : Int} {nm tx : ByteArray} {n : Int} {args : List Ex} (h : StrOk [.mk op nm tx n args]) : nm.size ≤ 140737488355328 ∧ tx.size ≤ 140737488355328 := h (.mk op nm tx n args) (by simp [Ex.parts.partsL, parts_mk])
theorem strOk_kid {op : Int} {nm tx : ByteArray} {n : Int} {args : List Ex} (h : StrOk [.mk op nm tx n args]) {k : Nat} (hk : k < args.length) : StrOk [args.getD k exD] := by
 intro p hp
 refine h p ?_
 simp only [Ex.parts.partsL, List.append_nil] at hp ⊢
 rw [parts_mk]
 refine List.mem_cons_of_mem _ ((mem_partsL args p).2 ⟨args.getD k exD, ?_, hp⟩)
 rw [List.getD_eq_getElem?_getD, List.getElem?_eq_getElem hk, Option.getD_some]
 exact List.getElem_mem hk
set_option maxHeartbeats 1000000 in
theorem printable_any (s : ByteArray) (w : World) (hs : s.size ≤ 140737488355328) : Calls Tryz.prog 134 #[.string s] w (BlP (litB s) w) := by
 obtain ⟨R, hR⟩ : ∃ R, R = litB s := ⟨_, rfl⟩
 rw [← hR]
 have hbad : s.data.toList.all litC = false → R = false := fun h => by rw [hR]; unfold litB; rw [h, Bool.and_false]
 have hgood : s.data.toList.all litC = true → R = decide (s.size ≤ 100) := fun h => by rw [hR]; unfold litB; rw [h, Bool.and_true]
 replace hbad := Lib.hid hbad
 replace hgood := Lib.hid hgood
 clear hR
 go_enter Tryz.func134, Tryz.ntmps134
 go_wp2
 go_loop [3] (fun i => ∃ k : Nat, k ≤ s.size ∧ i = .int .i64 k ∧ (s.data.toList.take k).all litC = true) (fun i => s.size - (intOf i).toNat)
 case atStart => exact ⟨0, Nat.zero_le _, rfl, rfl⟩
 case round =>
  obtain ⟨k, hk, rfl, hall⟩ := hrel
  have hH := Lib.hid hall
  clear hall
  by_cases hlt : k < s.size
  · by_cases c1 : s[k].toNat < 32
    · have hB := Lib.hid (hbad.out (all_badB litC s k hlt (by simp [litC]; omega)))
      have d1 : decide ((s[k].toNat : Int) < 32) = true := decide_eq_true (by omega)
      go_wp2
      go_ret
      exact ⟨ret_boolE hB.out.symm, rfl⟩
    · have d1 : decide ((s[k].toNat : Int) < 32) = false := decide_eq_false (by omega)
      by_cases c2 : s[k].toNat ≤ 126
      · have d2 : decide (126 < (s[k].toNat : Int)) = false := decide_eq_false (by omega)
        by_cases c3 : s[k].toNat = 34
        · have hB := Lib.hid (hbad.out (all_badB litC s k hlt (by simp [litC]; omega)))
          have d3 : ((s[k].toNat : Int) == 34) = true := by simp; omega
          clear c1 c2
          go_wp2
          go_ret
          exact ⟨ret_boolE hB.out.symm, rfl⟩
        · have hB := Lib.hid (show litC s[k] = true by simp [litC]; omega)
          have d3 : ((s[k].toNat : Int) == 34) = false := by simp; omega
          go_wp2
          go_round
          case rel => exact ⟨k + 1, by omega, by go_num, by rw [all_takeB litC s k hlt, hH.out, hB.out]; rfl⟩
          case measure => simp [intOf]; omega
      · have hB := Lib.hid (hbad.out (all_badB litC s k hlt (by simp [litC]; omega)))
        have d2 : decide (126 < (s[k].toNat : Int)) = true := decide_eq_true (by omega)
        go_wp2
        go_ret
        exact ⟨ret_boolE hB.out.symm, rfl⟩
  · have hk' : s.data.toList.take k = s.data.toList := List.take_of_length_le (by have : s.data.toList.length = s.size := rfl; omega)
    have hA := hH.out
    rw [hk'] at hA
    have hR := hgood.out hA
    clear hk' hA hH hbad hgood
    by_cases h100 : s.size ≤ 100
    · rw [decide_eq_true h100] at hR
      have d1 : decide ((s.size : Int) ≤ 100) = true := decide_eq_true (by omega)
      have d2 : decide (s.size ≤ 100) = true := decide_eq_true h100
      replace hR := Lib.hid hR
      go_wp2
      go_ret
      exact ⟨ret_boolE hR.out.symm, rfl⟩
    · rw [decide_eq_false h100] at hR
      have d1 : decide ((s.size : Int) ≤ 100) = false := decide_eq_false (by omega)
      have d2 : decide (s.size ≤ 100) = false := decide_eq_false h100
      replace hR := Lib.hid hR
      go_wp2
      go_ret
      exact ⟨ret_boolE hR.out.symm, rfl⟩
/-- No byte of a text is a hyphen. -/
def noHy (s : ByteArray) : Bool := s.data.toList.all fun c => !decide (c.toNat = 45)
theorem nameB_of (s : ByteArray) (h : idS s = true) : (h0 : 0 < s.size) → nameB s = (ltrB s[0] && noHy s) := by
 intro h0
 unfold idS at h
 simp only [Bool.and_eq_true, decide_eq_true_eq] at h
 obtain ⟨⟨h1, h2⟩, h3⟩ := h
 rw [nameB_at s h0 h2]
 congr 1
 unfold noHy
 have hx : ∀ c : UInt8, idC c = true → wrdB c = !decide (c.toNat = 45) := by
  intro c hc
  unfold idC at hc
  by_cases e : c.toNat = 45
  · rw [decide_eq_true e]
    have : wrdB c = false := by unfold wrdB ltrB dgtB; simp [e]
    rw [this]; rfl
  · rw [decide_eq_false e] at hc ⊢
    simpa using hc
 have hy : ∀ l : List UInt8, l.all idC = true → l.all wrdB = l.all fun c => !decide (c.toNat = 45) := by
  intro l
  induction l with
  | nil => intro _; rfl
  | cons c r ih =>
   intro hl
   simp only [List.all_cons, Bool.and_eq_true] at hl ⊢
   rw [hx c hl.1, ih hl.2]
 exact hy _ h3
theorem nameB_id (s : ByteArray) (h : idS s = false) : nameB s = false := by
 cases hn : nameB s with
 | false => rfl
 | true =>
  unfold nameB at hn
  simp only [Bool.and_eq_true, decide_eq_true_eq] at hn
  obtain ⟨⟨h1, -⟩, h3⟩ := hn
  unfold idS at h
  rw [decide_eq_true h1, Bool.true_and] at h
  have hy : ∀ l : List UInt8, l.all wrdB = true → l.all idC = true := by
   intro l
   induction l with
   | nil => intro _; rfl
   | cons c r ih =>
    intro hl
    simp only [List.all_cons, Bool.and_eq_true] at hl ⊢
    exact ⟨by unfold idC; rw [hl.1]; rfl, ih hl.2⟩
  rw [hy _ h3] at h
  exact h
theorem ltr_iff (c : UInt8) : ltrB c = true ↔ (97 ≤ c.toNat ∧ c.toNat ≤ 122) ∨ (65 ≤ c.toNat ∧ c.toNat ≤ 90) := by
 unfold ltrB
 simp only [Bool.or_eq_true, Bool.and_eq_true, decide_eq_true_eq]
set_option maxRecDepth 8000 in
set_option maxHeartbeats 2000000 in
theorem risName_any (s : ByteArray) (w : World) (hs : s.size ≤ 140737488355328) : Calls Tryz.prog 109 #[.string s] w (OneW (.bool (nameB s)) w) := by
 have kI := Lib.hid (fun w1 => isId_any s w1 hs)
 cases hid : idS s with
 | false =>
  rw [hid] at kI
  rw [nameB_id s hid]
  clear hid
  go_enter Tryz.func109, Tryz.ntmps109
  go_wp2_with fail
  refine (kI.out _).mono ?_
  rintro e w1 ⟨rfl, hE1⟩
  go_wp2
  go_ret
  exact ⟨rfl, hE1⟩
 | true =>
  rw [hid] at kI
  have h0 : 0 < s.size := by
   unfold idS at hid
   simp only [Bool.and_eq_true, decide_eq_true_eq] at hid
   omega
  rw [nameB_of s hid h0]
  have hl := Lib.hid (ltr_iff s[0])
  clear hid
  obtain ⟨R, hR⟩ : ∃ R, R = (ltrB s[0] && noHy s) := ⟨_, rfl⟩
  rw [← hR]
  replace hR := Lib.hid hR
  go_enter Tryz.func109, Tryz.ntmps109
  go_wp2_with fail
  refine (kI.out _).mono ?_
  rintro e w1 ⟨rfl, hE1⟩
  clear kI
  by_cases hL : (97 ≤ s[0].toNat ∧ s[0].toNat ≤ 122) ∨ (65 ≤ s[0].toNat ∧ s[0].toNat ≤ 90)
  · have hR2 := Lib.hid (show R = noHy s by rw [hR.out, hl.out.2 hL, Bool.true_and])
    clear hR hl
    have main : ∀ (Q : Prop), Q → Q := fun _ h => h
    clear main
    rcases hL with ⟨a1, a2⟩ | ⟨a1, a2⟩
    · have d1 : decide ((97 : Int) ≤ (s[0].toNat : Int)) = true := decide_eq_true (by omega)
      have d2 : decide ((s[0].toNat : Int) ≤ 122) = true := decide_eq_true (by omega)
      clear a1 a2
      go_wp2_with fail
      go_loop [3] (fun i => ∃ k : Nat, k ≤ s.size ∧ i = .int .i64 k ∧ (s.data.toList.take k).all (fun c => !decide (c.toNat = 45)) = true) (fun i => s.size - (intOf i).toNat)
      case atStart => exact ⟨0, Nat.zero_le _, rfl, rfl⟩
      case round =>
       obtain ⟨k, hk, rfl, hall⟩ := hrel
       have hH := Lib.hid hall
       clear hall
       by_cases hlt : k < s.size
       · by_cases c3 : s[k].toNat = 45
         · have hB := Lib.hid (hR2.out.trans (show noHy s = false from all_badB (fun c => !decide (c.toNat = 45)) s k hlt (by simp [c3])))
           have e3 : ((s[k].toNat : Int) == 45) = true := by simp; omega
           clear c3
           go_wp2
           go_ret
           exact ⟨by rw [hB.out]; rfl, hE1⟩
         · have hB := Lib.hid (show (!decide (s[k].toNat = 45)) = true by simp [c3])
           have e3 : ((s[k].toNat : Int) == 45) = false := by simp; omega
           clear c3
           go_wp2
           go_round
           case rel => exact ⟨k + 1, by omega, by go_num, by rw [all_takeB (fun c => !decide (c.toNat = 45)) s k hlt, hH.out, hB.out]; rfl⟩
           case measure => simp [intOf]; omega
       · have hk' : s.data.toList.take k = s.data.toList := List.take_of_length_le (by have : s.data.toList.length = s.size := rfl; omega)
         have hA := hH.out
         rw [hk'] at hA
         have hR3 := Lib.hid (hR2.out.trans (show noHy s = true from hA))
         clear hk' hA hH
         go_wp2
         go_ret
         exact ⟨by rw [hR3.out]; rfl, hE1⟩
    · have d1 : decide ((97 : Int) ≤ (s[0].toNat : Int)) = false := decide_eq_false (by omega)
      have d2 : decide ((65 : Int) ≤ (s[0].toNat : Int)) = true := decide_eq_true (by omega)
      have d3 : decide ((s[0].toNat : Int) ≤ 90) = true := decide_eq_true (by omega)
      clear a1 a2
      go_wp2_with fail
      go_loop [3] (fun i => ∃ k : Nat, k ≤ s.size ∧ i = .int .i64 k ∧ (s.data.toList.take k).all (fun c => !decide (c.toNat = 45)) = true) (fun i => s.size - (intOf i).toNat)
      case atStart => exact ⟨0, Nat.zero_le _, rfl, rfl⟩
      case round =>
       obtain ⟨k, hk, rfl, hall⟩ := hrel
       have hH := Lib.hid hall
       clear hall
       by_cases hlt : k < s.size
       · by_cases c3 : s[k].toNat = 45
         · have hB := Lib.hid (hR2.out.trans (show noHy s = false from all_badB (fun c => !decide (c.toNat = 45)) s k hlt (by simp [c3])))
           have e3 : ((s[k].toNat : Int) == 45) = true := by simp; omega
           clear c3
           go_wp2
           go_ret
           exact ⟨by rw [hB.out]; rfl, hE1⟩
         · have hB := Lib.hid (show (!decide (s[k].toNat = 45)) = true by simp [c3])
           have e3 : ((s[k].toNat : Int) == 45) = false := by simp; omega
           clear c3
           go_wp2
           go_round
           case rel => exact ⟨k + 1, by omega, by go_num, by rw [all_takeB (fun c => !decide (c.toNat = 45)) s k hlt, hH.out, hB.out]; rfl⟩
           case measure => simp [intOf]; omega
       · have hk' : s.data.toList.take k = s.data.toList := List.take_of_length_le (by have : s.data.toList.length = s.size := rfl; omega)
         have hA := hH.out
         rw [hk'] at hA
         have hR3 := Lib.hid (hR2.out.trans (show noHy s = true from hA))
         clear hk' hA hH
         go_wp2
         go_ret
         exact ⟨by rw [hR3.out]; rfl, hE1⟩
  · have hR2 := Lib.hid (show R = false by
     rw [hR.out]
     cases hx : ltrB s[0] with
     | false => rfl
     | true => exact absurd (hl.out.1 hx) hL)
    clear hR hl
    by_cases b1 : 97 ≤ s[0].toNat
    · have d1 : decide ((97 : Int) ≤ (s[0].toNat : Int)) = true := decide_eq_true (by omega)
      have d2 : decide ((s[0].toNat : Int) ≤ 122) = false := decide_eq_false (by omega)
      have d3 : decide ((65 : Int) ≤ (s[0].toNat : Int)) = true := decide_eq_true (by omega)
      have d4 : decide ((s[0].toNat : Int) ≤ 90) = false := decide_eq_false (by omega)
      clear hL b1
      go_wp2
      go_ret
      exact ⟨by rw [hR2.out]; rfl, hE1⟩
    · have d1 : decide ((97 : Int) ≤ (s[0].toNat : Int)) = false := decide_eq_false (by omega)
      by_cases b2 : 65 ≤ s[0].toNat
      · have d3 : decide ((65 : Int) ≤ (s[0].toNat : Int)) = true := decide_eq_true (by omega)
        have d4 : decide ((s[0].toNat : Int) ≤ 90) = false := decide_eq_false (by omega)
        clear hL b1 b2
        go_wp2
        go_ret
        exact ⟨by rw [hR2.out]; rfl, hE1⟩
      · have d3 : decide ((65 : Int) ≤ (s[0].toNat : Int)) = false := decide_eq_false (by omega)
        clear hL b1 b2
        go_wp2
        go_ret
        exact ⟨by rw [hR2.out]; rfl, hE1⟩
end Go.Proofs.YtangdoidkcelfaaGreatDoor
