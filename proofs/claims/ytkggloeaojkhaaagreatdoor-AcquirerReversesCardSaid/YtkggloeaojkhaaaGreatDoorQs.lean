/- What the functions of the package message return: plain functions. Contract of message.Check (walk). -/
import Derived.Test.YtkggloeaojkhaaaGreatDoorQg
import Derived.Test.YtkggloeaojkhaaaGreatDoorQh
import Derived.Test.YtkggloeaojkhaaaGreatDoorQb
namespace Go.Proofs.YtkggloeaojkhaaaGreatDoor
open Go.RowKit
/-- Whether the numbers ascend. -/
def ascB (es : List El) : Bool := decide (∀ j, j < es.length - 1 → (es.getD j elD).1 < (es.getD (j + 1) elD).1)
theorem asc_true {es : List El} (h : ∀ j, j + 1 < es.length → (es.getD j elD).1 < (es.getD (j + 1) elD).1) : ascB es = true := by
 unfold ascB; rw [decide_eq_true_iff]; exact fun j hj => h j (by omega)
theorem asc_false {es : List El} (j : Nat) (hj : j + 1 < es.length) (h : (es.getD (j + 1) elD).1 ≤ (es.getD j elD).1) : ascB es = false := by
 unfold ascB; rw [decide_eq_false_iff_not]; intro k; have := k j (by omega); omega
theorem asc_get {es : List El} (h : ascB es = true) (j : Nat) (hj : j + 1 < es.length) : (es.getD j elD).1 < (es.getD (j + 1) elD).1 := by
 unfold ascB at h; rw [decide_eq_true_iff] at h; exact h j (by omega)
/-- The first error of the elements. -/
def errL : List El → Int
 | [] => 0
 | x :: l => if chkC x.1 x.2 ≠ 0 then chkC x.1 x.2 else errL l
theorem errL_at : ∀ (es : List El) (k : Nat), k < es.length → (∀ j, j < k → chkC (es.getD j elD).1 (es.getD j elD).2 = 0) → chkC (es.getD k elD).1 (es.getD k elD).2 ≠ 0 → errL es = chkC (es.getD k elD).1 (es.getD k elD).2
 | [], k, h, _, _ => absurd h (by simp)
 | x :: l, 0, _, _, h => by
  have h' : chkC x.1 x.2 ≠ 0 := by simpa using h
  rw [errL, if_pos h']; rfl
 | x :: l, k + 1, hk, hj, h => by
  have h0 : ¬ chkC x.1 x.2 ≠ 0 := by have := hj 0 (by omega); simpa using this
  rw [errL, if_neg h0]
  exact errL_at l k (by simpa using hk) (fun j h' => by simpa using hj (j + 1) (by omega)) (by simpa using h)
theorem errL_none : ∀ (es : List El), (∀ j, j < es.length → chkC (es.getD j elD).1 (es.getD j elD).2 = 0) → errL es = 0
 | [], _ => rfl
 | x :: l, hj => by
  have h0 : ¬ chkC x.1 x.2 ≠ 0 := by have := hj 0 (by simp); simpa using this
  rw [errL, if_neg h0]
  exact errL_none l (fun j h' => by simpa using hj (j + 1) (by simpa using h'))
theorem errL_zero : ∀ (es : List El), errL es = 0 → ∀ x ∈ es, chkC x.1 x.2 = 0
 | [], _, x, hx => by cases hx
 | y :: l, h, x, hx => by
  by_cases h0 : chkC y.1 y.2 ≠ 0
  · rw [errL, if_pos h0] at h; exact absurd h h0
  · rw [errL, if_neg h0] at h
    rcases List.mem_cons.1 hx with rfl | hx
    · simpa using h0
    · exact errL_zero l h x hx
/-- Whether the required elements are there. -/
def reqB (ty : Int) (es : List El) : Bool := (reqL ty).all fun n => getB n es
/-- What Check returns. -/
def mchk (ty : Int) (es : List El) : Int :=
 if ty < 1 ∨ 9999 < ty then 4 else if ascB es = false then 2 else if errL es ≠ 0 then errL es else if reqB ty es then 0 else 1
theorem mchk_range {ty : Int} {es : List El} (h : ty < 1 ∨ 9999 < ty) : mchk ty es = 4 := by unfold mchk; rw [if_pos h]
theorem mchk_asc {ty : Int} {es : List El} (h : ¬ (ty < 1 ∨ 9999 < ty)) (h1 : ascB es = false) : mchk ty es = 2 := by unfold mchk; rw [if_neg h, if_pos h1]
theorem mchk_err {ty : Int} {es : List El} (h : ¬ (ty < 1 ∨ 9999 < ty)) (h1 : ascB es = true) (h2 : errL es ≠ 0) : mchk ty es = errL es := by unfold mchk; rw [if_neg h, if_neg (by rw [h1]; decide), if_pos h2]
theorem mchk_req {ty : Int} {es : List El} (h : ¬ (ty < 1 ∨ 9999 < ty)) (h1 : ascB es = true) (h2 : errL es = 0) : mchk ty es = if reqB ty es then 0 else 1 := by unfold mchk; rw [if_neg h, if_neg (by rw [h1]; decide), if_neg (by rw [h2]; decide)]
theorem mchk_zero {ty : Int} {es : List El} (h : mchk ty es = 0) : 1 ≤ ty ∧ ty ≤ 9999 ∧ ascB es = true ∧ errL es = 0 ∧ reqB ty es = true := by
 unfold mchk at h
 by_cases a : ty < 1 ∨ 9999 < ty
 · rw [if_pos a] at h; cases h
 · rw [if_neg a] at h
   by_cases b : ascB es = false
   · rw [if_pos b] at h; cases h
   · rw [if_neg b] at h
     by_cases c : errL es ≠ 0
     · rw [if_pos c] at h; exact absurd h c
     · rw [if_neg c] at h
       by_cases d : reqB ty es = true
       · exact ⟨by omega, by omega, by simpa using b, by simpa using c, d⟩
       · rw [if_neg d] at h; cases h
/-- The four digits of a type. -/
def dig4 (n : Nat) : List UInt8 := [UInt8.ofNat (48 + n / 1000), UInt8.ofNat (48 + n / 100 % 10), UInt8.ofNat (48 + n / 10 % 10), UInt8.ofNat (48 + n % 10)]
/-- The encodings of the elements. -/
def encEs (es : List El) : List UInt8 := es.flatMap fun x => (encS x.1 x.2).data.toList
theorem encEs_snoc (es : List El) (k : Nat) (hk : k < es.length) : encEs (es.take (k + 1)) = encEs (es.take k) ++ (encS (es.getD k elD).1 (es.getD k elD).2).data.toList := by
 unfold encEs
 rw [List.take_succ_eq_append_getElem hk, List.flatMap_append]
 simp [List.getElem?_eq_getElem hk]
def numsL (es : List El) : List Int := es.map fun x => x.1
/-- The encoding of a message. -/
def encM (ty : Int) (es : List El) : List UInt8 := if mchk ty es = 0 then dig4 ty.toNat ++ (bmL (bof (numsL es) (0, 0)).1 (bof (numsL es) (0, 0)).2 ++ encEs es) else []
def encMS (ty : Int) (es : List El) : ByteArray := ⟨(encM ty es).toArray⟩
/-- Decoding of the elements with some numbers: the error, the elements and the rest. -/
def decEs : List Int → List El → ByteArray → Int × List El × ByteArray
 | [], acc, rest => (0, acc, rest)
 | n :: l, acc, rest => if decC n rest ≠ 0 then (decC n rest, acc, rest) else decEs l (acc ++ [(n, decV n rest)]) (decR n rest)
end Go.Proofs.YtkggloeaojkhaaaGreatDoor
namespace Go.Proofs.YtkggloeaojkhaaaGreatDoor
open Go.RowKit
theorem reqL_len (k : Int) : (reqL k).length ≤ 20 := by
 unfold reqL
 repeat (first | (split; · decide) | decide)
theorem req_bad {ty : Int} {es : List El} (j : Nat) (hj : j < (reqL ty).length) (h : getB ((reqL ty).getD j 0) es = false) : reqB ty es = false := by
 unfold reqB
 rw [List.all_eq_false]
 refine ⟨(reqL ty)[j], List.getElem_mem hj, ?_⟩
 simp only [List.getD_eq_getElem?_getD, List.getElem?_eq_getElem hj, Option.getD_some] at h
 rw [h]; decide
theorem req_ok {ty : Int} {es : List El} (h : ∀ j, j < (reqL ty).length → getB ((reqL ty).getD j 0) es = true) : reqB ty es = true := by
 unfold reqB
 rw [List.all_eq_true]
 intro x hx
 obtain ⟨k, hk, rfl⟩ := List.getElem_of_mem hx
 have := h k hk
 simpa only [List.getD_eq_getElem?_getD, List.getElem?_eq_getElem hk, Option.getD_some] using this
/-- The values are not too long. -/
def SmallV (es : List El) : Prop := ∀ j, j < es.length → (es.getD j elD).2.size ≤ 1000000
set_option maxRecDepth 8000 in
set_option maxHeartbeats 4000000 in
theorem mcheck_any (ty : Int) (v : Value) (es : List El) (w : World) (g : Gl w) (hv : Elems w v es) (hl : es.length ≤ 1000000) (hsv : SmallV es) :
 Calls Tryz.prog 35 #[msgAgg ty v] w (OneV (.int .i64 (mchk ty es)) w) := by
 have hV := Lib.hid hv
 have hSV := Lib.hid hsv
 obtain ⟨q, cp, rfl, hp⟩ := hv
 have hP := Lib.hid hp
 clear hp hsv
 unfold msgAgg
 by_cases hr : ty < 1 ∨ 9999 < ty
 · have hM := Lib.hid (mchk_range (es := es) hr)
   by_cases h1 : ty < 1
   · go_enter Tryz.func35, Tryz.ntmps35
     go_wp2
     go_ret
     rw [hM.out]
     exact ⟨rfl, xt⟩
   · have h2 : 9999 < ty := by omega
     go_enter Tryz.func35, Tryz.ntmps35
     go_wp2
     go_ret
     rw [hM.out]
     exact ⟨rfl, xt⟩
 · have hr1 : 1 ≤ ty := by omega
   have hr2 : ty ≤ 9999 := by omega
   have hR := Lib.hid hr
   clear hr
   go_enter Tryz.func35, Tryz.ntmps35
   go_wp2
   go_loopw [3] (fun i wr => ∃ k : Nat, 1 ≤ k ∧ (k ≤ es.length ∨ k = 1) ∧ i = .int .i64 k ∧ Ext w wr ∧ Blk wr w.heap.size #[.int .i64 ty, .slice q es.length cp] 29 ∧ ∀ j, j + 1 < k → (es.getD j elD).1 < (es.getD (j + 1) elD).1) (fun i _ => es.length + 1 - (intOf i).toNat)
   case atStart => exact ⟨1, by omega, Or.inr rfl, rfl, xt, Blk.new _ _ _, fun j hj => absurd hj (by omega)⟩
   case round =>
    obtain ⟨k, hk1, hk2, rfl, hE, hB, hasc⟩ := hrel
    have hA := Lib.hid hasc
    clear hasc
    have z0 := hB.cell 0
    have z1 := hB.cell 1
    simp at z0 z1
    by_cases hlt : k < es.length
    · obtain ⟨b, off, rfl, hcs⟩ := hP.out (by omega)
      obtain ⟨km, hkm⟩ : ∃ km, k = km + 1 := ⟨k - 1, by omega⟩
      have c0 := hE.get (hcs k hlt).1
      have c1 := hE.get (hcs km (by omega)).1
      have hsub : IntKind.i64.wrap ((k : Int) - 1) = (km : Int) := by rw [IntKind.wrap_i64] <;> omega
      have hb1 : (km : Int) < es.length := by omega
      have hb2 : (0 : Int) ≤ km := by omega
      have hKM := Lib.hid hkm
      clear hcs hkm
      generalize hx : (es.getD k elD).1 = n1 at *
      generalize hy : (es.getD km elD).1 = n0 at *
      have HX := Lib.hid (And.intro hx hy)
      clear hx hy
      by_cases hle : n1 ≤ n0
      · have hF := Lib.hid (asc_false (es := es) km (by have := hKM.out; omega) (by rw [← hKM.out, HX.out.1, HX.out.2]; exact hle))
        have hM := Lib.hid (mchk_asc hR.out hF.out)
        go_wp2
        go_quiet (fail)
        clear hsub
        go_wp2
        go_ret
        rw [hM.out]
        exact ⟨rfl, hE.drewN _⟩
      · go_wp2
        go_quiet (fail)
        clear hsub
        go_wp2
        go_roundw
        case rel => exact ⟨k + 1, by omega, Or.inl (by omega), by go_num, hE.drewN _, hB.drewN _, fun j hj => (by
         by_cases e : j = km
         · subst e; have h1 := HX.out; have h2 := hKM.out; rw [← h2, h1.1, h1.2]; omega
         · exact hA.out j (by have := hKM.out; omega))⟩
        case measure => simp [intOf]; omega
    · have hAsc := Lib.hid (asc_true (es := es) (fun j hj => hA.out j (by omega)))
      clear hA
      go_wp2
      obtain ⟨wo, rfl⟩ : ∃ wo : World, wo = wr := ⟨_, rfl⟩
      go_loopw [43] (fun i wr => ∃ m : Nat, m ≤ es.length ∧ i = .int .i64 m ∧ Ext w wr ∧ Blk wr w.heap.size #[.int .i64 ty, .slice q es.length cp] 29 ∧ ∀ j, j < m → chkC (es.getD j elD).1 (es.getD j elD).2 = 0) (fun i _ => es.length - (intOf i).toNat)
      case atStart => exact ⟨0, by omega, rfl, hE, hB, fun j hj => absurd hj (by omega)⟩
      case round =>
       obtain ⟨m, hm, rfl, hE2, hB2, hck⟩ := hrel
       have hCk := Lib.hid hck
       clear hck z0 z1
       have z0 := hB2.cell 0
       have z1 := hB2.cell 1
       simp at z0 z1
       by_cases hmt : m < es.length
       · obtain ⟨b, off, rfl, hcs⟩ := hP.out (by omega)
         have c0 := hE2.get (hcs m hmt).1
         have c1 := hE2.get (hcs m hmt).2
         have hs1 := hSV.out m hmt
         have g2 := g.ext hE2
         clear hcs
         generalize hx : (es.getD m elD).1 = n at *
         generalize hy : (es.getD m elD).2 = s at *
         have HX := Lib.hid (And.intro hx hy)
         clear hx hy
         go_wp2_with fail
         refine (checkF n s _ (g2.ext xt) hs1).mono ?_
         rintro e w3 ⟨rfl, hE3⟩
         have hB3 := (hB2.alloc _).ext hE3
         have hE4 : Ext w w3 := (hE2.alloc _).trans hE3
         clear hE3
         by_cases hz : chkC n s = 0
         · rw [hz]
           have hZ := Lib.hid hz
           clear hz
           go_wp2
           go_roundw
           case rel => exact ⟨m + 1, by omega, by go_num, hE4, hB3, fun j hj => (by
            by_cases e : j = m
            · subst e; rw [HX.out.1, HX.out.2]; exact hZ.out
            · exact hCk.out j (by omega))⟩
           case measure => simp [intOf]; omega
         · have hzb : (chkC n s != 0) = true := by simpa using hz
           have hEr := errL_at es m hmt hCk.out (by rw [HX.out.1, HX.out.2]; exact hz)
           rw [HX.out.1, HX.out.2] at hEr
           have hM := Lib.hid ((mchk_err hR.out hAsc.out (by rw [hEr]; exact hz)).trans hEr)
           clear hEr hz
           generalize chkC n s = ec at *
           go_wp2
           go_ret
           rw [hM.out]
           exact ⟨rfl, hE4⟩
       · have hErr := Lib.hid (errL_none es (fun j hj => hCk.out j (by omega)))
         have hM := Lib.hid (mchk_req (ty := ty) hR.out hAsc.out hErr.out)
         clear hCk
         go_wp2_with fail
         refine (required_any ty _).mono ?_
         rintro e w3 ⟨rv, rfl, hi3, hE3⟩
         have hB3 := hB2.ext hE3
         have hE4 : Ext w w3 := hE2.trans hE3
         have hrl := reqL_len ty
         obtain ⟨p3, c3, rfl, hp3⟩ : ∃ p c, rv = .slice p (reqL ty).length c ∧ (0 < (reqL ty).length → ∃ b off, p = some ⟨b, off, none⟩ ∧ ∀ i, i < (reqL ty).length → w3.cell? ⟨b, off + i, none⟩ = some (.int .i64 ((reqL ty).getD i 0))) := by
          rcases hi3 with ⟨rfl, h0⟩ | ⟨b, off, cap, rfl, hc⟩
          · exact ⟨none, 0, by rw [h0]; rfl, fun h => by rw [h0] at h; simp at h⟩
          · exact ⟨_, cap, rfl, fun _ => ⟨b, off, rfl, hc⟩⟩
         have hP3 := Lib.hid hp3
         have hQ := Lib.hid (And.intro (@req_bad ty es) (@req_ok ty es))
         have hEc := Lib.hid hE4
         generalize reqL ty = rq at *
         clear hp3 hi3 hE3
         go_wp2
         obtain ⟨wo2, rfl⟩ : ∃ wo2 : World, wo2 = w3 := ⟨_, rfl⟩
         go_loopw [60] (fun i wr => ∃ r : Nat, r ≤ rq.length ∧ i = .int .i64 r ∧ Ext wo2 wr ∧ Blk wr w.heap.size #[.int .i64 ty, .slice q es.length cp] 29 ∧ ∀ j, j < r → getB (rq.getD j 0) es = true) (fun i _ => rq.length - (intOf i).toNat)
         case atStart => exact ⟨0, by omega, rfl, Ext.refl _, hB3, fun j hj => absurd hj (by omega)⟩
         case round =>
          obtain ⟨r, hr, rfl, hE5, hB5, hgt⟩ := hrel
          have hGt := Lib.hid hgt
          clear hgt z0 z1
          have z0 := hB5.cell 0
          have z1 := hB5.cell 1
          simp at z0 z1
          by_cases hrt : r < rq.length
          · obtain ⟨b3, off3, rfl, hc3⟩ := hP3.out (by omega)
            have d0 := hE5.get (hc3 r hrt)
            have hE6 := hEc.out.trans hE5
            clear hc3
            generalize hx : rq.getD r 0 = n at *
            have HX := Lib.hid hx
            clear hx
            go_wp2_with fail
            refine (get_any ty n _ es _ (hV.out.ext hE6) hl).mono ?_
            rintro e w7 ⟨rfl, hE7⟩
            have hE8 := hE5.trans hE7
            have hB8 := hB5.ext hE7
            cases hgb : getB n es with
            | true =>
             have hG := Lib.hid hgb
             clear hgb
             go_wp2
             go_roundw
             case rel => exact ⟨r + 1, by omega, by go_num, hE8, hB8, fun j hj => (by
              by_cases e : j = r
              · subst e; rw [HX.out]; exact hG.out
              · exact hGt.out j (by omega))⟩
             case measure => simp [intOf]; omega
            | false =>
             have hRB := Lib.hid (hQ.out.1 r hrt (by rw [HX.out]; exact hgb))
             clear hgb
             go_wp2
             go_ret
             rw [hM.out, hRB.out]
             exact ⟨rfl, hEc.out.trans hE8⟩
          · have hRB := Lib.hid (hQ.out.2 (fun j hj => hGt.out j (by omega)))
            go_wp2
            go_ret
            rw [hM.out, hRB.out]
            exact ⟨rfl, hEc.out.trans hE5⟩
end Go.Proofs.YtkggloeaojkhaaaGreatDoor
