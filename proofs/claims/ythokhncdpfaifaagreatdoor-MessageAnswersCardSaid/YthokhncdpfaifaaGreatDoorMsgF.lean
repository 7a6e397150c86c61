/- Contracts of message.Answers and of the reference's agrees and Answers (walks). Contract of message.Reply (walk). Contracts of the law's sign and awake (walks). Contract of the law's awake (walk). -/
import Derived.Test.YthokhncdpfaifaaGreatDoorMsgE
namespace Go.Proofs.YthokhncdpfaifaaGreatDoor
open Go.RowKit
/-- Whether a reply has an element of a message, if the message has it. -/
def agrB (es rs : List El) (n : Int) : Bool := !getB n es || (getB n rs && decide (getS n rs = getS n es))
def ansB (t1 t2 : Int) (es rs : List El) : Bool := asksB t1 && decide (t2 = t1 + 10) && agrB es rs 11 && agrB es rs 37 && agrB es rs 56
theorem asks_bd {n : Int} (h : asksB n = true) : 1 ≤ n ∧ n ≤ 9989 := by unfold asksB at h; simp at h; omega
def ansL : List Int := [11, 37, 56]
theorem ans_ok {t1 t2 : Int} {es rs : List El} (h : asksB t1 = true) (h2 : t2 = t1 + 10) (h3 : ∀ j, j < 3 → agrB es rs (ansL.getD j 0) = true) : ansB t1 t2 es rs = true := by
  have a := h3 0 (by omega); have b := h3 1 (by omega); have c := h3 2 (by omega)
  unfold ansL at a b c
  simp at a b c
  unfold ansB
  rw [h, decide_eq_true h2, a, b, c]; rfl
theorem ans_bad {t1 t2 : Int} {es rs : List El} (j : Nat) (hj : j < 3) (h3 : agrB es rs (ansL.getD j 0) = false) : ansB t1 t2 es rs = false := by
  unfold ansB
  match j, hj with
  | 0, _ => unfold ansL at h3; simp at h3; rw [h3]; simp
  | 1, _ => unfold ansL at h3; simp at h3; rw [h3]; simp
  | 2, _ => unfold ansL at h3; simp at h3; rw [h3]; simp
set_option maxRecDepth 8000 in
set_option maxHeartbeats 4000000 in
theorem answers_any (t1 t2 : Int) (v1 v2 : Value) (es rs : List El) (w : World) (h1 : Elems w v1 es) (h2 : Elems w v2 rs) (hl1 : es.length ≤ 1000000) (hl2 : rs.length ≤ 1000000) :
    Calls Tryz.prog 20 #[msgAgg t1 v1, msgAgg t2 v2] w (OneV (.bool (ansB t1 t2 es rs)) w) := by
  have hV1 := Lib.hid h1
  have hV2 := Lib.hid h2
  obtain ⟨q1, c1, rfl, _⟩ := h1
  obtain ⟨q2, c2, rfl, _⟩ := h2
  unfold msgAgg
  cases ha : asksB t1 with
  | false =>
    have hR := Lib.hid (show ansB t1 t2 es rs = false by unfold ansB; rw [ha]; rfl)
    go_enter Tryz.func20, Tryz.ntmps20
    go_wp2_with fail
    refine (hasReply_any t1 _).mono ?_
    rintro e w1 ⟨rfl, rfl⟩
    rw [ha]
    go_wp2
    go_ret
    rw [hR.out]
    exact ⟨rfl, (by repeat (first | with_reducible exact Ext.refl _ | with_reducible exact hE0 | with_reducible exact hE | with_reducible refine Ext.alloc ?_ _ | with_reducible refine Ext.drewN ?_ _ | with_reducible refine Ext.drew ?_ | ((with_reducible refine Ext.setCell ?_ ?side _); (case side => first | exact Nat.le_refl _ | (simp; done) | (simp; omega)))))⟩
  | true =>
    obtain ⟨hb1, hb2⟩ := asks_bd ha
    by_cases ht : t2 = t1 + 10
    · have htb : (t2 != t1 + 10) = false := by simpa using ht
      have hT := Lib.hid ht
      have hA := Lib.hid ha
      clear ht
      go_enter Tryz.func20, Tryz.ntmps20
      go_wp2_with fail
      refine (hasReply_any t1 _).mono ?_
      rintro e w1 ⟨rfl, rfl⟩
      rw [ha]
      clear ha
      go_wp2
      have hlit : ∀ wr, ∀ B, Blk wr B (litInts ansL) 3 → ∀ j, j < 3 → wr.cell? ⟨B, 0 + j, none⟩ = some (.int .i64 (ansL.getD j 0)) := by
        intro wr B hB j hj
        rw [hB.cell, Nat.zero_add]
        match j, hj with
        | 0, _ => rfl
        | 1, _ => rfl
        | 2, _ => rfl
      have hLit := Lib.hid hlit
      clear hlit
      go_loopw [25] (fun i wr => ∃ k : Nat, k ≤ 3 ∧ i = .int .i64 k ∧ Ext w wr ∧ Blk wr w.heap.size #[.int .i64 t1, .slice q1 es.length c1] 24 ∧ Blk wr (w.heap.size + 1) #[.int .i64 t2, .slice q2 rs.length c2] 24 ∧ Blk wr (w.heap.size + 1 + 1) (litInts ansL) 3 ∧ ∀ j, j < k → agrB es rs (ansL.getD j 0) = true) (fun i _ => 3 - (intOf i).toNat)
      case atStart => exact ⟨0, by omega, rfl, (by repeat (first | with_reducible exact Ext.refl _ | with_reducible exact hE0 | with_reducible exact hE | with_reducible refine Ext.alloc ?_ _ | with_reducible refine Ext.drewN ?_ _ | with_reducible refine Ext.drew ?_ | ((with_reducible refine Ext.setCell ?_ ?side _); (case side => first | exact Nat.le_refl _ | (simp; done) | (simp; omega))))), ((Blk.new _ _ _).alloc _).alloc _, (Blk.new' _ _ _ _ (by simp)).alloc _, Blk.new' _ _ _ _ (by simp), fun j hj => absurd hj (by omega)⟩
      case round =>
        obtain ⟨k, hk, rfl, hE, hB1, hB2, hB3, hag⟩ := hrel
        have hAg := Lib.hid hag
        clear hag
        by_cases hlt : k < 3
        · have z0 := hB1.cell 0
          have z1 := hB1.cell 1
          have y0 := hB2.cell 0
          have y1 := hB2.cell 1
          simp at z0 z1 y0 y1
          have d0 := hLit.out wr _ hB3 k hlt
          rw [Nat.zero_add] at d0
          have hBad := Lib.hid (@ans_bad t1 t2 es rs k hlt)
          generalize hx : ansL.getD k 0 = n at *
          have HX := Lib.hid hx
          clear hx
          go_wp2_with fail
          refine (get_any t1 n _ es _ (hV1.out.ext hE) hl1).mono ?_
          rintro e w2 ⟨rfl, hE2⟩
          have hB1' := hB1.ext hE2
          have hB2' := hB2.ext hE2
          have hB3' := hB3.ext hE2
          have hEw := hE.trans hE2
          clear hB1 hB2 hB3 hE hE2 z0 z1 y0 y1 d0
          have y0 := hB2'.cell 0
          have y1 := hB2'.cell 1
          simp at y0 y1
          cases hgb : getB n es with
          | false =>
            have hG := Lib.hid (show agrB es rs n = true by unfold agrB; rw [hgb]; rfl)
            clear hgb
            go_wp2
            go_roundw
            case rel => exact ⟨k + 1, by omega, by go_num, hEw, hB1', hB2', hB3', fun j hj => (by
              by_cases e : j = k
              · subst e; rw [HX.out]; exact hG.out
              · exact hAg.out j (by omega))⟩
            case measure => simp [intOf]; omega
          | true =>
            go_wp2_with fail
            refine (get_any t2 n _ rs _ (hV2.out.ext hEw) hl2).mono ?_
            rintro e w3 ⟨rfl, hE3⟩
            have hB1'' := hB1'.ext hE3
            have hB2'' := hB2'.ext hE3
            have hB3'' := hB3'.ext hE3
            have hEw3 := hEw.trans hE3
            cases hgr : getB n rs with
            | false =>
              have hG := Lib.hid (hBad.out (show agrB es rs n = false by unfold agrB; rw [hgb, hgr]; rfl))
              clear hgb hgr
              go_wp2
              go_ret
              rw [hG.out]
              exact ⟨rfl, hEw3⟩
            | true =>
              by_cases he : getS n rs = getS n es
              · have heb := strEq he
                have hG := Lib.hid (show agrB es rs n = true by unfold agrB; rw [hgb, hgr, decide_eq_true he]; rfl)
                clear hgb hgr he
                generalize getS n rs = sr at *
                generalize getS n es = se at *
                go_wp2
                go_roundw
                case rel => exact ⟨k + 1, by omega, by go_num, hEw3, hB1'', hB2'', hB3'', fun j hj => (by
                  by_cases e : j = k
                  · subst e; rw [HX.out]; exact hG.out
                  · exact hAg.out j (by omega))⟩
                case measure => simp [intOf]; omega
              · have heb := strNe he
                have hG := Lib.hid (hBad.out (show agrB es rs n = false by unfold agrB; rw [hgb, hgr, decide_eq_false he]; rfl))
                clear hgb hgr he
                generalize getS n rs = sr at *
                generalize getS n es = se at *
                go_wp2
                go_ret
                rw [hG.out]
                exact ⟨rfl, hEw3⟩
        · have hOk := Lib.hid (ans_ok hA.out hT.out (fun j hj => hAg.out j (by omega)))
          go_wp2
          go_ret
          rw [hOk.out]
          exact ⟨rfl, hE⟩
    · have htb : (t2 != t1 + 10) = true := by simpa using ht
      have hR := Lib.hid (show ansB t1 t2 es rs = false by unfold ansB; rw [decide_eq_false ht]; simp)
      clear ht
      go_enter Tryz.func20, Tryz.ntmps20
      go_wp2_with fail
      refine (hasReply_any t1 _).mono ?_
      rintro e w1 ⟨rfl, rfl⟩
      rw [ha]
      clear ha
      go_wp2
      go_ret
      rw [hR.out]
      exact ⟨rfl, (by repeat (first | with_reducible exact Ext.refl _ | with_reducible exact hE0 | with_reducible exact hE | with_reducible refine Ext.alloc ?_ _ | with_reducible refine Ext.drewN ?_ _ | with_reducible refine Ext.drew ?_ | ((with_reducible refine Ext.setCell ?_ ?side _); (case side => first | exact Nat.le_refl _ | (simp; done) | (simp; omega)))))⟩
end Go.Proofs.YthokhncdpfaifaaGreatDoor
namespace Go.Proofs.YthokhncdpfaifaaGreatDoor
open Go.RowKit
def repN : List Int := [2, 4, 7, 11, 32, 37, 39, 41, 42, 49, 56, 70, 100]
def repOne (es : List El) (code : ByteArray) (n : Int) : List El := if n = 39 then [(39, code)] else if getB n es then [(n, getS n es)] else []
def repK (es : List El) (code : ByteArray) (k : Nat) : List El := (repN.take k).flatMap (repOne es code)
theorem repK_succ (es : List El) (code : ByteArray) (k : Nat) (hk : k < 13) : repK es code (k + 1) = repK es code k ++ repOne es code (repN.getD k 0) := by
  unfold repK
  rw [List.take_succ_eq_append_getElem (show k < repN.length from hk), List.flatMap_append]
  simp [List.getElem?_eq_getElem (show k < repN.length from hk)]
theorem repOne_len (es : List El) (code : ByteArray) (n : Int) : (repOne es code n).length ≤ 1 := by
  unfold repOne; split; simp; split <;> simp
theorem repK_len (es : List El) (code : ByteArray) (k : Nat) : k ≤ 13 → (repK es code k).length ≤ k := by
  induction k with
  | zero => intro _; simp [repK]
  | succ k ih =>
    intro hk
    rw [repK_succ es code k (by omega), List.length_append]
    have := ih (by omega); have := repOne_len es code (repN.getD k 0); omega
def codeB (code : ByteArray) : Bool := decide (code.size = 2) && allS digB code
def repE (ty : Int) (code : ByteArray) : Int := if asksB ty = false then 8 else if codeB code = false then 2 else 0
def repT (ty : Int) (code : ByteArray) : Int := if repE ty code = 0 then ty + 10 else 0
def repL (ty : Int) (es : List El) (code : ByteArray) : List El := if repE ty code = 0 then repK es code 13 else []
def RepPost (ty : Int) (es : List El) (code : ByteArray) (w : World) (e : Ending) (w' : World) : Prop := ∃ v, e = .returned (.tuple #[msgAgg (repT ty code) v, .int .i64 (repE ty code)]) ∧ Elems w' v (repL ty es code) ∧ Ext w w'
theorem rep_bad {ty : Int} {es : List El} {code : ByteArray} {c : Int} (h : repE ty code = c) (hc : c ≠ 0) : repT ty code = 0 ∧ repL ty es code = [] := by
  unfold repT repL; rw [h, if_neg hc, if_neg hc]; exact ⟨rfl, rfl⟩
set_option maxRecDepth 8000 in
set_option maxHeartbeats 4000000 in
theorem reply_any (ty : Int) (v : Value) (es : List El) (code : ByteArray) (w : World) (hv : Elems w v es) (hl : es.length ≤ 1000000) (hcs : code.size ≤ 1000000) :
    Calls Tryz.prog 18 #[msgAgg ty v, .string code] w (RepPost ty es code w) := by
  have hV := Lib.hid hv
  obtain ⟨q, cp, rfl, _⟩ := hv
  unfold msgAgg
  cases ha : asksB ty with
  | false =>
    have hE8 : repE ty code = 8 := by unfold repE; rw [if_pos ha]
    have hD := Lib.hid (And.intro hE8 (rep_bad (es := es) hE8 (by decide)))
    clear hE8
    go_enter Tryz.func18, Tryz.ntmps18
    go_wp2_with fail
    refine (hasReply_any ty _).mono ?_
    rintro e w1 ⟨rfl, rfl⟩
    rw [ha]
    go_wp2
    refine bodyPost_ret (v := .tuple #[msgAgg 0 (.slice none 0 0), .int .i64 8]) ?_ rfl ⟨.slice none 0 0, by rw [hD.out.1, hD.out.2.1], by rw [hD.out.2.2]; exact elems_nil _, (by repeat (first | with_reducible exact Ext.refl _ | with_reducible exact hE0 | with_reducible exact hE | with_reducible refine Ext.alloc ?_ _ | with_reducible refine Ext.drewN ?_ _ | with_reducible refine Ext.drew ?_ | ((with_reducible refine Ext.setCell ?_ ?side _); (case side => first | exact Nat.le_refl _ | (simp; done) | (simp; omega)))))⟩
    simp [results, Tryz.results18, go_sem, msgAgg]
  | true =>
    obtain ⟨hb1, hb2⟩ := asks_bd ha
    cases hcb : codeB code with
    | false =>
      have hE2 : repE ty code = 2 := by unfold repE; rw [if_neg (by rw [ha]; decide), if_pos hcb]
      have hD := Lib.hid (And.intro hE2 (rep_bad (es := es) hE2 (by decide)))
      clear hE2
      by_cases h2 : code.size = 2
      · have hdg : allS digB code = false := by unfold codeB at hcb; rw [decide_eq_true h2] at hcb; simpa using hcb
        have hsz : ((code.size : Int) != 2) = false := by rw [bne_eq_false_iff_eq]; omega
        have H2 := Lib.hid h2
        clear h2 hcb
        go_enter Tryz.func18, Tryz.ntmps18
        go_wp2_with fail
        refine (hasReply_any ty _).mono ?_
        rintro e w1 ⟨rfl, rfl⟩
        rw [ha]
        clear ha
        go_wp2_with fail
        refine (areDigits_any code _ hcs).mono ?_
        rintro e w1 ⟨rfl, rfl⟩
        rw [hdg, Bool.false_and]
        clear hdg
        go_wp2
        refine bodyPost_ret (v := .tuple #[msgAgg 0 (.slice none 0 0), .int .i64 2]) ?_ rfl ⟨.slice none 0 0, by rw [hD.out.1, hD.out.2.1], by rw [hD.out.2.2]; exact elems_nil _, (by repeat (first | with_reducible exact Ext.refl _ | with_reducible exact hE0 | with_reducible exact hE | with_reducible refine Ext.alloc ?_ _ | with_reducible refine Ext.drewN ?_ _ | with_reducible refine Ext.drew ?_ | ((with_reducible refine Ext.setCell ?_ ?side _); (case side => first | exact Nat.le_refl _ | (simp; done) | (simp; omega)))))⟩
        simp [results, Tryz.results18, go_sem, msgAgg]
      · have hsz : ((code.size : Int) != 2) = true := by simp; omega
        clear h2 hcb
        go_enter Tryz.func18, Tryz.ntmps18
        go_wp2_with fail
        refine (hasReply_any ty _).mono ?_
        rintro e w1 ⟨rfl, rfl⟩
        rw [ha]
        clear ha
        go_wp2
        refine bodyPost_ret (v := .tuple #[msgAgg 0 (.slice none 0 0), .int .i64 2]) ?_ rfl ⟨.slice none 0 0, by rw [hD.out.1, hD.out.2.1], by rw [hD.out.2.2]; exact elems_nil _, (by repeat (first | with_reducible exact Ext.refl _ | with_reducible exact hE0 | with_reducible exact hE | with_reducible refine Ext.alloc ?_ _ | with_reducible refine Ext.drewN ?_ _ | with_reducible refine Ext.drew ?_ | ((with_reducible refine Ext.setCell ?_ ?side _); (case side => first | exact Nat.le_refl _ | (simp; done) | (simp; omega)))))⟩
        simp [results, Tryz.results18, go_sem, msgAgg]
    | true =>
      have hE0 : repE ty code = 0 := by unfold repE; rw [if_neg (by rw [ha]; decide), if_neg (by rw [hcb]; decide)]
      have hD : Hid (repE ty code = 0 ∧ repT ty code = ty + 10 ∧ repL ty es code = repK es code 13) := Lib.hid ⟨hE0, by unfold repT; rw [if_pos hE0], by unfold repL; rw [if_pos hE0]⟩
      have hcc : code.size = 2 ∧ allS digB code = true := by unfold codeB at hcb; simpa using hcb
      have hdg : (allS digB code && decide (0 < code.size)) = true := by rw [hcc.2, hcc.1]; rfl
      have hsz : ((code.size : Int) != 2) = false := by rw [bne_eq_false_iff_eq]; omega
      obtain ⟨i0, hi, hz0, hz1, hz2⟩ := info_parts infoEl
      have hI := Lib.hid hi
      have hZ0 := Lib.hid hz0
      have hZ1 := Lib.hid hz1
      have hZ2 := Lib.hid hz2
      have hlit : ∀ wr, ∀ B, Blk wr B (litInts repN) 3 → ∀ j, j < 13 → wr.cell? ⟨B, j, none⟩ = some (.int .i64 (repN.getD j 0)) := by
        intro wr B hB j hj
        rw [hB.cell]
        unfold litInts
        rw [List.getElem?_toArray, List.getElem?_map, List.getElem?_eq_getElem (show j < repN.length from hj)]
        simp [List.getElem?_eq_getElem (show j < repN.length from hj)]
      have hLit := Lib.hid hlit
      clear hi hz0 hz1 hz2 hE0 hcb hcc hlit
      go_enter Tryz.func18, Tryz.ntmps18
      go_wp2_with fail
      refine (hasReply_any ty _).mono ?_
      rintro e w1 ⟨rfl, rfl⟩
      rw [ha]
      clear ha
      go_wp2_with fail
      refine (areDigits_any code _ hcs).mono ?_
      rintro e w1 ⟨rfl, rfl⟩
      rw [hdg]
      clear hdg
      go_wp2
      have hE0 : Ext w ((((w.alloc (.cells #[.int .i64 ty, .slice q es.length cp] 24)).alloc (.cells #[.int .i64 0, .slice none 0 0] 24)).alloc (.cells #[.int .i64 (ty + 10), .slice none 0 0] 24)).alloc (.cells (litInts repN) 3)) := (by repeat (first | with_reducible exact Ext.refl _ | with_reducible exact hE0 | with_reducible exact hE | with_reducible refine Ext.alloc ?_ _ | with_reducible refine Ext.drewN ?_ _ | with_reducible refine Ext.drew ?_ | ((with_reducible refine Ext.setCell ?_ ?side _); (case side => first | exact Nat.le_refl _ | (simp; done) | (simp; omega)))))
      have hA1 := (((Blk.new w #[.int .i64 ty, .slice q es.length cp] 24).alloc (.cells #[.int .i64 0, .slice none 0 0] 24)).alloc (.cells #[.int .i64 (ty + 10), .slice none 0 0] 24)).alloc (.cells (litInts repN) 3)
      have hA2 : Blk ((((w.alloc (.cells #[.int .i64 ty, .slice q es.length cp] 24)).alloc (.cells #[.int .i64 0, .slice none 0 0] 24)).alloc (.cells #[.int .i64 (ty + 10), .slice none 0 0] 24)).alloc (.cells (litInts repN) 3)) (w.heap.size + 1) #[.int .i64 0, .slice none 0 0] 24 := ((Blk.new' _ _ _ _ (by simp)).alloc _).alloc _
      have hA3 : Blk ((((w.alloc (.cells #[.int .i64 ty, .slice q es.length cp] 24)).alloc (.cells #[.int .i64 0, .slice none 0 0] 24)).alloc (.cells #[.int .i64 (ty + 10), .slice none 0 0] 24)).alloc (.cells (litInts repN) 3)) (w.heap.size + 1 + 1) #[.int .i64 (ty + 10), .slice none 0 0] 24 := (Blk.new' _ _ _ _ (by simp)).alloc _
      have hA4 : Blk ((((w.alloc (.cells #[.int .i64 ty, .slice q es.length cp] 24)).alloc (.cells #[.int .i64 0, .slice none 0 0] 24)).alloc (.cells #[.int .i64 (ty + 10), .slice none 0 0] 24)).alloc (.cells (litInts repN) 3)) (w.heap.size + 1 + 1 + 1) (litInts repN) 3 := Blk.new' _ _ _ _ (by simp)
      go_loopw [31] (fun i wr => ∃ (k : Nat) (vv : Value), k ≤ 13 ∧ i = .int .i64 k ∧ Blk wr (w.heap.size + 1 + 1) #[.int .i64 (ty + 10), vv] 24 ∧ wr.ownsRow ((((w.alloc (.cells #[.int .i64 ty, .slice q es.length cp] 24)).alloc (.cells #[.int .i64 0, .slice none 0 0] 24)).alloc (.cells #[.int .i64 (ty + 10), .slice none 0 0] 24)).alloc (.cells (litInts repN) 3)).heap.size 41 2 vv (repK es code k).length (elCells (repK es code k)) ∧ ExtBut (w.heap.size + 1 + 1) ((((w.alloc (.cells #[.int .i64 ty, .slice q es.length cp] 24)).alloc (.cells #[.int .i64 0, .slice none 0 0] 24)).alloc (.cells #[.int .i64 (ty + 10), .slice none 0 0] 24)).alloc (.cells (litInts repN) 3)) wr) (fun i _ => 13 - (intOf i).toNat)
      case atStart => exact ⟨0, .slice none 0 0, by omega, rfl, hA3, ⟨rfl, Or.inl ⟨rfl, rfl⟩⟩, ExtBut.refl _ _⟩
      case round =>
        obtain ⟨k, vv, hk, rfl, hMr, hown, hEb⟩ := hrel
        generalize hW : ((((w.alloc (.cells #[.int .i64 ty, .slice q es.length cp] 24)).alloc (.cells #[.int .i64 0, .slice none 0 0] 24)).alloc (.cells #[.int .i64 (ty + 10), .slice none 0 0] 24)).alloc (.cells (litInts repN) 3)) = w0 at *
        have hW0 : w.heap.size + 1 + 1 + 1 < w0.heap.size := hA4.lt
        clear hW
        have hEw : Ext w wr := ExtBut.after hE0 hEb (by omega)
        have hB1 := hA1.but hEb (by omega)
        have hB2 := hA2.but hEb (by omega)
        have hB4 := hA4.but hEb (by omega)
        have hsz0 := hEb.size
        have z0 := hB1.cell 0
        have z1 := hB1.cell 1
        simp at z0 z1
        have hKl := repK_len es code k hk
        by_cases hlt : k < 13
        · have d0 := hLit.out wr _ hB4 k hlt
          have hS := Lib.hid (repK_succ es code k hlt)
          generalize hx : repN.getD k 0 = n at *
          clear hx
          generalize repK es code k = acc at *
          obtain ⟨vp, vc, rfl⟩ := owns_form hown
          go_wp2_with fail
          refine (get_any ty n _ es _ (hV.out.ext hEw) hl).mono ?_
          rintro e w3 ⟨rfl, hE3⟩
          have hM3 := hMr.ext hE3
          have hown3 := owns_ext hown hE3
          have hEb3 := hEb.trans (ExtBut.of_ext hE3)
          have hs3 := hEb3.size
          clear hE3 hMr hown hEb z0 z1 d0
          have m0 := hM3.cell 0
          have m1 := hM3.cell 1
          have g0 := hM3.fz 0
          have g1 := hM3.fz 1
          have ml := hM3.lt
          simp at m0 m1
          by_cases h39 : n = 39
          · subst h39
            have hO := Lib.hid (show repOne es code 39 = [(39, code)] by unfold repOne; rw [if_pos rfl])
            go_wp2_with (at_builtin; refine wpList_append_own _ rfl _ _ 22 rfl w0.heap.size 41 i0 (.agg #[.int .i64 0, .string ⟨#[]⟩]) 2 24 Tryz.underlying22 hI.out hZ0.out hZ1.out hZ2.out rfl (by decide) (.slice vp acc.length vc) _ _ rfl (hown3.alloc _) ⟨w3.heap.size, 0, none⟩ 1 1 [.int .i64 39, .string code] rfl rfl ?_ ?_ ?_ ?_ ?_ ?_)
            · exact cell_two_new' _ _ _ _ _ rfl
            · exact two_one _ _
            · unfold maxLen; omega
            · omega
            · simp; omega
            intro v' w5 hown5 hgrow5 _
            have hM5 : Blk w5 (w.heap.size + 1 + 1) #[.int .i64 (ty + 10), .slice vp acc.length vc] 24 := Blk.grown (hM3.alloc (.cells #[.int .i64 39, .string code] 41)) hgrow5 (fun e => by have := (hown3.lt _ e.symm).1; omega)
            have s1 := hM5.cell 1
            have s2 := hM5.fz 1
            have s3 := hM5.lt
            simp at s1
            obtain ⟨vp', vc', rfl⟩ := owns_form hown5
            have hEb5 : ExtBut (w.heap.size + 1 + 1) w0 w5 := ExtBut.grown (b := w3.alloc (.cells #[.int .i64 39, .string code] 41)) (hEb3.alloc _) hgrow5 (fun k hk => (hown3.lt k hk).1)
            go_wp2
            go_roundw
            case rel => exact ⟨k + 1, _, by omega, by go_num, hM5.set 1 _, by rw [hS.out, hO.out, elCells_snoc]; simpa using owns_set hown5 (by omega), hEb5.setCell 1 _⟩
            case measure => simp [intOf]; omega
          · have h39b : (n == 39) = false := by simpa using h39
            cases hgb : getB n es with
            | true =>
              have hO := Lib.hid (show repOne es code n = [(n, getS n es)] by unfold repOne; rw [if_neg h39, if_pos hgb])
              clear hgb h39
              generalize getS n es = sv at *
              go_wp2_with (at_builtin; refine wpList_append_own _ rfl _ _ 22 rfl w0.heap.size 41 i0 (.agg #[.int .i64 0, .string ⟨#[]⟩]) 2 24 Tryz.underlying22 hI.out hZ0.out hZ1.out hZ2.out rfl (by decide) (.slice vp acc.length vc) _ _ rfl (hown3.alloc _) ⟨w3.heap.size, 0, none⟩ 1 1 [.int .i64 n, .string sv] rfl rfl ?_ ?_ ?_ ?_ ?_ ?_)
              · exact cell_two_new' _ _ _ _ _ rfl
              · exact two_one _ _
              · unfold maxLen; omega
              · omega
              · simp; omega
              intro v' w5 hown5 hgrow5 _
              have hM5 : Blk w5 (w.heap.size + 1 + 1) #[.int .i64 (ty + 10), .slice vp acc.length vc] 24 := Blk.grown (hM3.alloc (.cells #[.int .i64 n, .string sv] 41)) hgrow5 (fun e => by have := (hown3.lt _ e.symm).1; omega)
              have s1 := hM5.cell 1
              have s2 := hM5.fz 1
              have s3 := hM5.lt
              simp at s1
              obtain ⟨vp', vc', rfl⟩ := owns_form hown5
              have hEb5 : ExtBut (w.heap.size + 1 + 1) w0 w5 := ExtBut.grown (b := w3.alloc (.cells #[.int .i64 n, .string sv] 41)) (hEb3.alloc _) hgrow5 (fun k hk => (hown3.lt k hk).1)
              go_wp2
              go_roundw
              case rel => exact ⟨k + 1, _, by omega, by go_num, hM5.set 1 _, by rw [hS.out, hO.out, elCells_snoc]; simpa using owns_set hown5 (by omega), hEb5.setCell 1 _⟩
              case measure => simp [intOf]; omega
            | false =>
              have hO := Lib.hid (show repOne es code n = [] by unfold repOne; rw [if_neg h39, if_neg (by rw [hgb]; decide)])
              clear hgb h39
              go_wp2
              go_roundw
              case rel => exact ⟨k + 1, _, by omega, by go_num, hM3, by rw [hS.out, hO.out]; simpa using hown3, hEb3⟩
              case measure => simp [intOf]; omega
        · obtain rfl : k = 13 := by omega
          have m0 := hMr.cell 0
          have m1 := hMr.cell 1
          have q0 := hB2.cell 0
          have q1 := hB2.cell 1
          have k0 := hB2.fz 0
          have k1 := hB2.fz 1
          have ql := hB2.lt
          have ml := hMr.lt
          simp at m0 m1 q0 q1
          generalize repK es code 13 = acc at *
          have hown3 := Lib.hid hown
          obtain ⟨vp, vc, rfl⟩ := owns_form hown
          clear hown
          go_wp2
          refine bodyPost_ret (v := .tuple #[msgAgg (ty + 10) (.slice vp acc.length vc), .int .i64 0]) ?_ rfl ⟨.slice vp acc.length vc, by rw [hD.out.1, hD.out.2.1], ?_, ?_⟩
          · simp [results, Tryz.results18, go_sem, msgAgg, q0, q1]
          · rw [hD.out.2.2]
            exact elems_of_owns (owns_set (owns_set hown3.out (by omega)) (by omega))
          · exact (hEw.setCell (by simp) _).setCell (by simp) _
end Go.Proofs.YthokhncdpfaifaaGreatDoor
namespace Go.Proofs.YthokhncdpfaifaaGreatDoor
open Go.RowKit
def signE : List El := [(11, ⟨#[48, 48, 48, 48, 48, 49]⟩), (70, ⟨#[51, 48, 49]⟩)]
def MsgGot (ty : Int) (es : List El) (w : World) (e : Ending) (w' : World) : Prop := ∃ v, e = .returned (msgAgg ty v) ∧ Elems w' v es ∧ Ext w w'
set_option maxRecDepth 4000 in
set_option maxHeartbeats 400000 in
theorem sign_any (w : World) : Calls Tryz.prog 31 #[] w (MsgGot 800 signE w) := by
  go_enter Tryz.func31, Tryz.ntmps31
  go_wp2
  refine bodyPost_ret (v := msgAgg 800 (.slice (some ⟨w.heap.size + 1, 0, none⟩) 2 2)) ?_ rfl ⟨_, rfl, ⟨_, 2, rfl, fun _ => ⟨_, 0, rfl, fun i hi => ?_⟩⟩, (by repeat (first | with_reducible exact Ext.refl _ | with_reducible exact hE0 | with_reducible exact hE | with_reducible refine Ext.alloc ?_ _ | with_reducible refine Ext.drewN ?_ _ | with_reducible refine Ext.drew ?_ | ((with_reducible refine Ext.setCell ?_ ?side _); (case side => first | exact Nat.le_refl _ | (simp; done) | (simp; omega)))))⟩
  · simp [results, Tryz.results31, go_sem, msgAgg]
  · have hi : i < 2 := hi
    match i, hi with
    | 0, _ => exact ⟨by simp [go_sem, signE], by simp [go_sem, signE]⟩
    | 1, _ => exact ⟨by simp [go_sem, signE], by simp [go_sem, signE]⟩
def signS : ByteArray := ⟨#[48, 56, 48, 48, 56, 48, 50, 48, 48, 48, 48, 48, 48, 48, 48, 48, 48, 48, 48, 48, 48, 52, 48, 48, 48, 48, 48, 48, 48, 48, 48, 48, 48, 48, 48, 48, 48, 48, 48, 48, 48, 49, 51, 48, 49]⟩
def repS : List El := [(11, ⟨#[48, 48, 48, 48, 48, 49]⟩), (39, ⟨#[48, 48]⟩), (70, ⟨#[51, 48, 49]⟩)]
theorem aw1 : mchk 800 signE = 0 := by decide +kernel
theorem aw2 : encMS 800 signE = signS := by decide +kernel
theorem aw3 : decW signS = (0, 800, signE) := by decide +kernel
theorem aw4 : repE 800 ⟨#[48, 48]⟩ = 0 ∧ repT 800 ⟨#[48, 48]⟩ = 810 ∧ repL 800 signE ⟨#[48, 48]⟩ = repS := by decide +kernel
theorem aw5 : sameB 800 800 signE signE = true := by decide +kernel
theorem aw6 : ansB 800 810 signE repS = true := by decide +kernel
theorem aw7 : SmallV signE := by
  intro j hj
  have hj : j < 2 := hj
  match j, hj with
  | 0, _ => decide
  | 1, _ => decide
end Go.Proofs.YthokhncdpfaifaaGreatDoor
namespace Go.Proofs.YthokhncdpfaifaaGreatDoor
open Go.RowKit
theorem signDec (w : World) (g : Gl w) : Calls Tryz.prog 15 #[.string signS] w fun e w' => ∃ v, e = .returned (.tuple #[msgAgg 800 v, .int .i64 0]) ∧ Elems w' v signE ∧ Ext w w' := by
  refine (mdecode_any signS w g (by decide)).mono ?_
  rintro e w' ⟨v, rfl, h1, h2⟩
  rw [aw3] at h1 ⊢
  exact ⟨v, rfl, h1, h2⟩
theorem signRep (v : Value) (w : World) (hv : Elems w v signE) : Calls Tryz.prog 18 #[msgAgg 800 v, .string ⟨#[48, 48]⟩] w fun e w' => ∃ v, e = .returned (.tuple #[msgAgg 810 v, .int .i64 0]) ∧ Elems w' v repS ∧ Ext w w' := by
  refine (reply_any 800 v signE ⟨#[48, 48]⟩ w hv (by decide) (by decide)).mono ?_
  rintro e w' ⟨v, rfl, h1, h2⟩
  rw [aw4.1, aw4.2.1]
  rw [aw4.2.2] at h1
  exact ⟨v, rfl, h1, h2⟩
theorem signEnc (v : Value) (w : World) (g : Gl w) (hv : Elems w v signE) : Calls Tryz.prog 11 #[msgAgg 800 v] w fun e w' => e = .returned (.tuple #[.string signS, .int .i64 0]) ∧ Ext w w' := by
  refine (mencode_any 800 v signE w g hv (by decide) aw7).mono ?_
  rintro e w' ⟨rfl, h2⟩
  rw [aw1, aw2]
  exact ⟨rfl, h2⟩
theorem elems_form {w : World} {v : Value} {es : List El} (h : Elems w v es) : ∃ p c, v = .slice p es.length c := by obtain ⟨p, c, hv, _⟩ := h; exact ⟨p, c, hv⟩
set_option maxRecDepth 8000 in
set_option maxHeartbeats 4000000 in
theorem awake_any (w : World) (g : Gl w) : Calls Tryz.prog 10 #[] w (OneV (.bool true) w) := by
  go_enter Tryz.func10, Tryz.ntmps10
  go_wp2_with fail
  refine (sign_any _).mono ?_
  rintro e w1 ⟨v1, rfl, hv1, hE1⟩
  go_wp2_with fail
  refine (signEnc v1 _ (g.ext hE1) hv1).mono ?_
  rintro e w2 ⟨rfl, hE2⟩
  have hE02 := hE1.trans hE2
  clear hE1 hE2 hv1
  go_wp2_with fail
  refine (signDec _ (g.ext hE02)).mono ?_
  rintro e w3 ⟨v3, rfl, hv3, hE3⟩
  have hE03 := hE02.trans hE3
  have hV3 := Lib.hid hv3
  obtain ⟨p3, c3, rfl⟩ := elems_form hv3
  clear hE02 hE3 hv3
  unfold msgAgg
  go_wp2_with fail
  refine (sign_any _).mono ?_
  rintro e w4 ⟨v4, rfl, hv4, hE4⟩
  go_wp2_with fail
  refine (signRep v4 _ hv4).mono ?_
  rintro e w5 ⟨v5, rfl, hv5, hE5⟩
  have hE35 : Ext (w3.alloc (.cells #[.int .i64 800, .slice p3 signE.length c3] 24)) w5 := hE4.trans hE5
  have hB3 := (Blk.new w3 _ _).ext hE35
  have hV35 := Lib.hid (hV3.out.ext (((Ext.refl w3).alloc _).trans hE35))
  have hE05 := (hE03.alloc _).trans hE35
  have hV5 := Lib.hid hv5
  obtain ⟨p5, c5, rfl⟩ := elems_form hv5
  have hlt5 := hB3.lt
  clear hE4 hE5 hE35 hv4 hv5 hV3
  unfold msgAgg
  go_wp2_with fail
  obtain ⟨BB, hBB⟩ : ∃ BB, BB = w5.heap.size := ⟨_, rfl⟩
  obtain ⟨BA, hBA⟩ : ∃ BA, BA = w3.heap.size := ⟨_, rfl⟩
  rw [← hBB, ← hBA]
  have hE0 : Ext w (w5.alloc (.cells #[.int .i64 810, .slice p5 repS.length c5] 24)) := hE05.alloc _
  have hB5 : Blk (w5.alloc (.cells #[.int .i64 810, .slice p5 repS.length c5] 24)) BB #[.int .i64 810, .slice p5 repS.length c5] 24 := by rw [hBB]; exact Blk.new w5 _ _
  have hB3' : Blk (w5.alloc (.cells #[.int .i64 810, .slice p5 repS.length c5] 24)) BA #[.int .i64 800, .slice p3 signE.length c3] 24 := by rw [hBA]; exact hB3.alloc _
  have hVa := Lib.hid (hV35.out.ext ((Ext.refl w5).alloc (.cells #[.int .i64 810, .slice p5 repS.length c5] 24)))
  have hVb := Lib.hid (hV5.out.ext ((Ext.refl w5).alloc (.cells #[.int .i64 810, .slice p5 repS.length c5] 24)))
  generalize w5.alloc (.cells #[.int .i64 810, .slice p5 repS.length c5] 24) = w9 at *
  have x0 : w9.cell? ⟨BA, 0, none⟩ = some (.int .i64 800) := hB3'.cell 0
  have x1 : w9.cell? ⟨BA, 1, none⟩ = some (.slice p3 signE.length c3) := hB3'.cell 1
  have x2 : w9.cell? ⟨BB, 0, none⟩ = some (.int .i64 810) := hB5.cell 0
  have x3 : w9.cell? ⟨BB, 1, none⟩ = some (.slice p5 repS.length c5) := hB5.cell 1
  have hr3 : ((repS.length : Int) == 3) = true := by decide
  have hss : (signS.toList == [48, 56, 48, 48, 56, 48, 50, 48, 48, 48, 48, 48, 48, 48, 48, 48, 48, 48, 48, 48, 48, 52, 48, 48, 48, 48, 48, 48, 48, 48, 48, 48, 48, 48, 48, 48, 48, 48, 48, 48, 48, 49, 51, 48, 49]) = true := by decide +kernel
  clear hBB hBA hB3 hB5 hB3' hV35 hV5 hE05 hlt5
  go_region_held3 (fun w' => w'.cell? ⟨BA, 0, none⟩ = some (.int .i64 800) ∧ w'.cell? ⟨BA, 1, none⟩ = some (.slice p3 signE.length c3) ∧ w'.cell? ⟨BB, 0, none⟩ = some (.int .i64 810) ∧ w'.cell? ⟨BB, 1, none⟩ = some (.slice p5 repS.length c5)) (first | exact ⟨by assumption, by assumption, by assumption, by assumption⟩ | exact ⟨x0, x1, x2, x3⟩) (first | (go_at_call 31; refine (sign_any _).mono ?_; rintro e w6 ⟨sv, rfl, hsv, hE6⟩; have hS := ext_at hE0 (by first | exact hE6 | exact Ext.undrew hE6); have hE0 := hE0.trans hS; have x0 := hS.get x0; have x1 := hS.get x1; have x2 := hS.get x2; have x3 := hS.get x3; have hVa := Lib.hid (hVa.out.ext hS); have hVb := Lib.hid (hVb.out.ext hS); have hSv := Lib.hid hsv; clear hsv hE6 hS) | (go_at_call 17; refine (rSame_any 800 800 _ _ signE signE _ (by first | exact hVa.out | exact hVa.out.ext (Ext.refl _).drew) (by first | exact hSv.out | exact hSv.out.ext (Ext.refl _).drew) (by decide) (by decide)).mono ?_; rintro e w6 ⟨rfl, hE6⟩; rw [aw5]; have hS := ext_at hE0 (by first | exact hE6 | exact Ext.undrew hE6); have hE0 := hE0.trans hS; have x0 := hS.get x0; have x1 := hS.get x1; have x2 := hS.get x2; have x3 := hS.get x3; have hVa := Lib.hid (hVa.out.ext hS); have hVb := Lib.hid (hVb.out.ext hS); clear hE6 hS hSv) | (go_at_call 20; refine (answers_any 800 810 _ _ signE repS _ (by first | exact hSv.out | exact hSv.out.ext (Ext.refl _).drew) (by first | exact hVb.out | exact hVb.out.ext (Ext.refl _).drew) (by decide) (by decide)).mono ?_; rintro e w6 ⟨rfl, hE6⟩; rw [aw6]; have hS := ext_at hE0 (by first | exact hE6 | exact Ext.undrew hE6); have hE0 := hE0.trans hS; have x0 := hS.get x0; have x1 := hS.get x1; have x2 := hS.get x2; have x3 := hS.get x3; have hVa := Lib.hid (hVa.out.ext hS); have hVb := Lib.hid (hVb.out.ext hS); clear hE6 hS hSv))
  all_goals go_wp2
  all_goals go_ret
  all_goals exact ⟨rfl, hE0⟩
end Go.Proofs.YthokhncdpfaifaaGreatDoor
