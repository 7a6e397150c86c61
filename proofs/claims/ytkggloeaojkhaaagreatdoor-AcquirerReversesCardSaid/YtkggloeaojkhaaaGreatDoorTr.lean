/- The reference's Reply, with the row of its elements (walk; printed by gen/h97.py). -/
import Derived.Test.YtkggloeaojkhaaaGreatDoorTe
namespace Go.Proofs.YtkggloeaojkhaaaGreatDoor
open Go.RowKit
theorem elsT_nil (w : World) : ElsT w (.slice none 0 0) [] := ⟨0, World.ownsRow_nil _ _ _ _⟩
def RepPostT (ty : Int) (es : List El) (code : ByteArray) (w : World) (e : Ending) (w' : World) : Prop := ∃ v, e = .returned (.tuple #[msgAgg (repT ty code) v, .int .i64 (repE ty code)]) ∧ ElsT w' v (repL ty es code) ∧ Ext w w'
set_option maxRecDepth 8000 in
set_option maxHeartbeats 16000000 in
theorem rreplyT_any (ty : Int) (v : Value) (es : List El) (code : ByteArray) (w : World) (hv : Elems w v es) (hl : es.length ≤ 1000000) (hcs : code.size ≤ 1000000) :
 Calls Tryz.prog 11 #[msgAgg ty v, .string code] w (RepPostT ty es code w) := by
 have hV := Lib.hid hv
 obtain ⟨q, cp, rfl⟩ := elems_form hv
 clear hv
 unfold msgAgg
 cases ha : asksB ty with
 | false =>
  have hE8 : repE ty code = 8 := by unfold repE; rw [if_pos ha]
  have hD := Lib.hid (And.intro hE8 (rep_bad (es := es) hE8 (by decide)))
  clear hE8
  go_enter Tryz.func11, Tryz.ntmps11
  go_wp2_with fail
  refine (asks_any ty _).mono ?_
  rintro e w1 ⟨rfl, rfl⟩
  rw [ha]
  go_wp2
  refine bodyPost_ret (v := .tuple #[msgAgg 0 (.slice none 0 0), .int .i64 8]) ?_ rfl ⟨.slice none 0 0, by rw [hD.out.1, hD.out.2.1], by rw [hD.out.2.2]; exact elsT_nil _, xt⟩
  simp [results, Tryz.results11, go_sem, msgAgg]
 | true =>
  obtain ⟨hb1, hb2⟩ := asks_bd ha
  cases hcb : codeB code with
  | false =>
   have hE2 : repE ty code = 2 := by unfold repE; rw [if_neg (by rw [ha]; decide), if_pos hcb]
   have hD := Lib.hid (And.intro hE2 (rep_bad (es := es) hE2 (by decide)))
   clear hE2
   go_enter Tryz.func11, Tryz.ntmps11
   go_wp2_with fail
   refine (asks_any ty _).mono ?_
   rintro e w1 ⟨rfl, rfl⟩
   rw [ha]
   clear ha
   go_wp2_with fail
   refine (rValue_any2 code _ hcs).mono ?_
   rintro e w1 ⟨z, rfl, rfl⟩
   cases hdg : allS digB code with
   | false =>
    clear hcb
    go_wp2
    refine bodyPost_ret (v := .tuple #[msgAgg 0 (.slice none 0 0), .int .i64 2]) ?_ rfl ⟨.slice none 0 0, by rw [hD.out.1, hD.out.2.1], by rw [hD.out.2.2]; exact elsT_nil _, xt⟩
    simp [results, Tryz.results11, go_sem, msgAgg]
   | true =>
    have hsz : ((code.size : Int) != 2) = true := by
     unfold codeB at hcb; rw [hdg, Bool.and_true] at hcb
     have := of_decide_eq_false hcb
     simp; omega
    clear hcb hdg
    go_wp2
    refine bodyPost_ret (v := .tuple #[msgAgg 0 (.slice none 0 0), .int .i64 2]) ?_ rfl ⟨.slice none 0 0, by rw [hD.out.1, hD.out.2.1], by rw [hD.out.2.2]; exact elsT_nil _, xt⟩
    simp [results, Tryz.results11, go_sem, msgAgg]
  | true =>
   have hE0 : repE ty code = 0 := by unfold repE; rw [if_neg (by rw [ha]; decide), if_neg (by rw [hcb]; decide)]
   have hD : Hid (repE ty code = 0 ∧ repT ty code = ty + 10 ∧ repL ty es code = repK es code 13) := Lib.hid ⟨hE0, by unfold repT; rw [if_pos hE0], by unfold repL; rw [if_pos hE0]⟩
   have hcc : code.size = 2 ∧ allS digB code = true := by unfold codeB at hcb; simpa using hcb
   have hdg := hcc.2
   have hsz : ((code.size : Int) != 2) = false := by rw [bne_eq_false_iff_eq]; omega
   obtain ⟨i0, hi, hz0, hz1, hz2⟩ := info_parts infoEl
   have hI := Lib.hid hi
   have hZ0 := Lib.hid hz0
   have hZ1 := Lib.hid hz1
   have hZ2 := Lib.hid hz2
   clear hi hz0 hz1 hz2 hE0 hcb hcc
   go_enter Tryz.func11, Tryz.ntmps11
   go_wp2_with fail
   refine (asks_any ty _).mono ?_
   rintro e w1 ⟨rfl, rfl⟩
   rw [ha]
   clear ha
   go_wp2_with fail
   refine (rValue_any2 code _ hcs).mono ?_
   rintro e w1 ⟨z, rfl, rfl⟩
   rw [hdg]
   clear hdg
   go_wp2
   have hE0 : Ext w (((w.alloc (.cells #[.int .i64 ty, .slice q es.length cp] 29)).alloc (.cells #[.int .i64 0, .slice none 0 0] 29)).alloc (.cells #[.int .i64 (ty + 10), .slice none 0 0] 29)) := xt
   have hA1 := ((Blk.new w #[.int .i64 ty, .slice q es.length cp] 29).alloc (.cells #[.int .i64 0, .slice none 0 0] 29)).alloc (.cells #[.int .i64 (ty + 10), .slice none 0 0] 29)
   have hA2 : Blk (((w.alloc (.cells #[.int .i64 ty, .slice q es.length cp] 29)).alloc (.cells #[.int .i64 0, .slice none 0 0] 29)).alloc (.cells #[.int .i64 (ty + 10), .slice none 0 0] 29)) (w.heap.size + 1) #[.int .i64 0, .slice none 0 0] 29 := (Blk.new' _ _ _ _ (by simp)).alloc _
   have hA3 : Blk (((w.alloc (.cells #[.int .i64 ty, .slice q es.length cp] 29)).alloc (.cells #[.int .i64 0, .slice none 0 0] 29)).alloc (.cells #[.int .i64 (ty + 10), .slice none 0 0] 29)) (w.heap.size + 1 + 1) #[.int .i64 (ty + 10), .slice none 0 0] 29 := Blk.new' _ _ _ _ (by simp)
   go_loopw [9] (fun i wr => ∃ (n : Nat) (vv : Value), 2 ≤ n ∧ n ≤ 101 ∧ i = .int .i64 n ∧ Blk wr (w.heap.size + 1 + 1) #[.int .i64 (ty + 10), vv] 29 ∧ wr.ownsRow (((w.alloc (.cells #[.int .i64 ty, .slice q es.length cp] 29)).alloc (.cells #[.int .i64 0, .slice none 0 0] 29)).alloc (.cells #[.int .i64 (ty + 10), .slice none 0 0] 29)).heap.size 97 2 vv (acR es code n).length (elCells (acR es code n)) ∧ ExtBut (w.heap.size + 1 + 1) (((w.alloc (.cells #[.int .i64 ty, .slice q es.length cp] 29)).alloc (.cells #[.int .i64 0, .slice none 0 0] 29)).alloc (.cells #[.int .i64 (ty + 10), .slice none 0 0] 29)) wr) (fun i _ => 101 - (intOf i).toNat)
   case atStart => exact ⟨2, .slice none 0 0, by omega, by omega, rfl, hA3, by rw [acR_zero]; exact ⟨rfl, Or.inl ⟨rfl, rfl⟩⟩, ExtBut.refl _ _⟩
   case round =>
    obtain ⟨n, vv, hn1, hn101, rfl, hMr, hown, hEb⟩ := hrel
    generalize hW : (((w.alloc (.cells #[.int .i64 ty, .slice q es.length cp] 29)).alloc (.cells #[.int .i64 0, .slice none 0 0] 29)).alloc (.cells #[.int .i64 (ty + 10), .slice none 0 0] 29)) = w0 at *
    have hW0 : w.heap.size + 1 + 1 < w0.heap.size := hA3.lt
    clear hW
    have hEw : Ext w wr := ExtBut.after hE0 hEb (by omega)
    have hB1 := hA1.but hEb (by omega)
    have hB2 := hA2.but hEb (by omega)
    have hsz0 := hEb.size
    have z0 := hB1.cell 0
    have z1 := hB1.cell 1
    simp at z0 z1
    have hKl := acR_len es code n
    by_cases hn2 : n ≤ 100
    · have hSu := acR_succ es code n hn2
      obtain ⟨vp, vc, rfl⟩ := owns_form hown
      go_wp2_with fail
      refine (rGet_any ty n _ es _ (hV.out.ext hEw) hl).mono ?_
      rintro e w3 ⟨rfl, hE3⟩
      have hM3 := hMr.ext hE3
      have hown3 := owns_ext hown hE3
      have hEb3 := hEb.trans (ExtBut.of_ext hE3)
      have hs3 := hEb3.size
      clear hE3 hMr hown hEb z0 z1
      have m0 := hM3.cell 0
      have m1 := hM3.cell 1
      have g0 := hM3.fz 0
      have g1 := hM3.fz 1
      have ml := hM3.lt
      simp at m0 m1
      by_cases hmem : (n : Int) ∈ repN
      · rw [if_pos hmem] at hSu
        by_cases h39 : n = 39
        · have hS := Lib.hid (hSu.trans (show _ = acR es code n ++ [((n : Int), code)] by rw [h39, show repOne es code ((39 : Nat) : Int) = [(39, code)] by unfold repOne; simp]; rfl))
          have b2 : ((n : Int) == 2) = false := by rw [beq_eq_false_iff_ne]; omega
          have b4 : ((n : Int) == 4) = false := by rw [beq_eq_false_iff_ne]; omega
          have b7 : ((n : Int) == 7) = false := by rw [beq_eq_false_iff_ne]; omega
          have b11 : ((n : Int) == 11) = false := by rw [beq_eq_false_iff_ne]; omega
          have b32 : ((n : Int) == 32) = false := by rw [beq_eq_false_iff_ne]; omega
          have b37 : ((n : Int) == 37) = false := by rw [beq_eq_false_iff_ne]; omega
          have b41 : ((n : Int) == 41) = false := by rw [beq_eq_false_iff_ne]; omega
          have b42 : ((n : Int) == 42) = false := by rw [beq_eq_false_iff_ne]; omega
          have b49 : ((n : Int) == 49) = false := by rw [beq_eq_false_iff_ne]; omega
          have b56 : ((n : Int) == 56) = false := by rw [beq_eq_false_iff_ne]; omega
          have b70 : ((n : Int) == 70) = false := by rw [beq_eq_false_iff_ne]; omega
          have b100 : ((n : Int) == 100) = false := by rw [beq_eq_false_iff_ne]; omega
          have b39 : ((n : Int) == 39) = true := by rw [beq_iff_eq]; omega
          clear hSu hmem h39
          generalize getS (n : Int) es = sv at *
          generalize getB (n : Int) es = gb at *
          generalize acR es code n = acc at *
          go_wp2_with (at_builtin; refine wpList_append_own _ rfl _ _ 27 rfl w0.heap.size 97 i0 (.agg #[.int .i64 0, .string ⟨#[]⟩]) 2 24 Tryz.underlying27 hI.out hZ0.out hZ1.out hZ2.out rfl (by decide) (.slice vp acc.length vc) _ _ rfl (hown3.alloc _) ⟨w3.heap.size, 0, none⟩ 1 1 [.int .i64 n, .string code] rfl rfl ?_ ?_ ?_ ?_ ?_ ?_)
          · exact cell_two_new' _ _ _ _ _ rfl
          · exact two_one _ _
          · unfold maxLen; omega
          · omega
          · simp; omega
          intro v' w5 hown5 hgrow5 _
          have hM5 : Blk w5 (w.heap.size + 1 + 1) #[.int .i64 (ty + 10), .slice vp acc.length vc] 29 := Blk.grown (hM3.alloc (.cells #[.int .i64 n, .string code] 97)) hgrow5 (fun e => by have := (hown3.lt _ e.symm).1; omega)
          have s1 := hM5.cell 1
          have s2 := hM5.fz 1
          have s3 := hM5.lt
          simp at s1
          obtain ⟨vp', vc', rfl⟩ := owns_form hown5
          have hEb5 : ExtBut (w.heap.size + 1 + 1) w0 w5 := ExtBut.grown (b := w3.alloc (.cells #[.int .i64 n, .string code] 97)) (hEb3.alloc _) hgrow5 (fun k hk => (hown3.lt k hk).1)
          go_wp2
          go_roundw
          case rel => exact ⟨n + 1, _, by omega, by omega, by go_num, hM5.set 1 _, by rw [hS.out, show acc ++ [((n : Int), code)] = acc ++ [((n : Int), code)] from rfl, elCells_snoc]; simpa using owns_set hown5 (by omega), hEb5.setCell 1 _⟩
          case measure => simp [intOf]; omega
        · have hne : (n : Int) ≠ 39 := by omega
          have hc := repN_mem n hn2 hmem
          cases hgb : getB (n : Int) es with
          | true =>
           have hS := Lib.hid (hSu.trans (by rw [repOne_yes _ _ _ hne hgb]))
           clear hSu hmem hgb
           generalize getS (n : Int) es = sv at *
           generalize acR es code n = acc at *
           rcases hc with hc | hc | hc | hc | hc | hc | hc | hc | hc | hc | hc | hc | hc
           · have b2 : ((n : Int) == 2) = true := by rw [beq_iff_eq]; omega
             have b4 : ((n : Int) == 4) = false := by rw [beq_eq_false_iff_ne]; omega
             have b7 : ((n : Int) == 7) = false := by rw [beq_eq_false_iff_ne]; omega
             have b11 : ((n : Int) == 11) = false := by rw [beq_eq_false_iff_ne]; omega
             have b32 : ((n : Int) == 32) = false := by rw [beq_eq_false_iff_ne]; omega
             have b37 : ((n : Int) == 37) = false := by rw [beq_eq_false_iff_ne]; omega
             have b41 : ((n : Int) == 41) = false := by rw [beq_eq_false_iff_ne]; omega
             have b42 : ((n : Int) == 42) = false := by rw [beq_eq_false_iff_ne]; omega
             have b49 : ((n : Int) == 49) = false := by rw [beq_eq_false_iff_ne]; omega
             have b56 : ((n : Int) == 56) = false := by rw [beq_eq_false_iff_ne]; omega
             have b70 : ((n : Int) == 70) = false := by rw [beq_eq_false_iff_ne]; omega
             have b100 : ((n : Int) == 100) = false := by rw [beq_eq_false_iff_ne]; omega
             have b39 : ((n : Int) == 39) = false := by rw [beq_eq_false_iff_ne]; omega
             clear hc h39 hne
             go_wp2_with (at_builtin; refine wpList_append_own _ rfl _ _ 27 rfl w0.heap.size 97 i0 (.agg #[.int .i64 0, .string ⟨#[]⟩]) 2 24 Tryz.underlying27 hI.out hZ0.out hZ1.out hZ2.out rfl (by decide) (.slice vp acc.length vc) _ _ rfl (hown3.alloc _) ⟨w3.heap.size, 0, none⟩ 1 1 [.int .i64 n, .string sv] rfl rfl ?_ ?_ ?_ ?_ ?_ ?_)
             · exact cell_two_new' _ _ _ _ _ rfl
             · exact two_one _ _
             · unfold maxLen; omega
             · omega
             · simp; omega
             intro v' w5 hown5 hgrow5 _
             have hM5 : Blk w5 (w.heap.size + 1 + 1) #[.int .i64 (ty + 10), .slice vp acc.length vc] 29 := Blk.grown (hM3.alloc (.cells #[.int .i64 n, .string sv] 97)) hgrow5 (fun e => by have := (hown3.lt _ e.symm).1; omega)
             have s1 := hM5.cell 1
             have s2 := hM5.fz 1
             have s3 := hM5.lt
             simp at s1
             obtain ⟨vp', vc', rfl⟩ := owns_form hown5
             have hEb5 : ExtBut (w.heap.size + 1 + 1) w0 w5 := ExtBut.grown (b := w3.alloc (.cells #[.int .i64 n, .string sv] 97)) (hEb3.alloc _) hgrow5 (fun k hk => (hown3.lt k hk).1)
             go_wp2
             go_roundw
             case rel => exact ⟨n + 1, _, by omega, by omega, by go_num, hM5.set 1 _, by rw [hS.out, show acc ++ [((n : Int), sv)] = acc ++ [((n : Int), sv)] from rfl, elCells_snoc]; simpa using owns_set hown5 (by omega), hEb5.setCell 1 _⟩
             case measure => simp [intOf]; omega
           · have b2 : ((n : Int) == 2) = false := by rw [beq_eq_false_iff_ne]; omega
             have b4 : ((n : Int) == 4) = true := by rw [beq_iff_eq]; omega
             have b7 : ((n : Int) == 7) = false := by rw [beq_eq_false_iff_ne]; omega
             have b11 : ((n : Int) == 11) = false := by rw [beq_eq_false_iff_ne]; omega
             have b32 : ((n : Int) == 32) = false := by rw [beq_eq_false_iff_ne]; omega
             have b37 : ((n : Int) == 37) = false := by rw [beq_eq_false_iff_ne]; omega
             have b41 : ((n : Int) == 41) = false := by rw [beq_eq_false_iff_ne]; omega
             have b42 : ((n : Int) == 42) = false := by rw [beq_eq_false_iff_ne]; omega
             have b49 : ((n : Int) == 49) = false := by rw [beq_eq_false_iff_ne]; omega
             have b56 : ((n : Int) == 56) = false := by rw [beq_eq_false_iff_ne]; omega
             have b70 : ((n : Int) == 70) = false := by rw [beq_eq_false_iff_ne]; omega
             have b100 : ((n : Int) == 100) = false := by rw [beq_eq_false_iff_ne]; omega
             have b39 : ((n : Int) == 39) = false := by rw [beq_eq_false_iff_ne]; omega
             clear hc h39 hne
             go_wp2_with (at_builtin; refine wpList_append_own _ rfl _ _ 27 rfl w0.heap.size 97 i0 (.agg #[.int .i64 0, .string ⟨#[]⟩]) 2 24 Tryz.underlying27 hI.out hZ0.out hZ1.out hZ2.out rfl (by decide) (.slice vp acc.length vc) _ _ rfl (hown3.alloc _) ⟨w3.heap.size, 0, none⟩ 1 1 [.int .i64 n, .string sv] rfl rfl ?_ ?_ ?_ ?_ ?_ ?_)
             · exact cell_two_new' _ _ _ _ _ rfl
             · exact two_one _ _
             · unfold maxLen; omega
             · omega
             · simp; omega
             intro v' w5 hown5 hgrow5 _
             have hM5 : Blk w5 (w.heap.size + 1 + 1) #[.int .i64 (ty + 10), .slice vp acc.length vc] 29 := Blk.grown (hM3.alloc (.cells #[.int .i64 n, .string sv] 97)) hgrow5 (fun e => by have := (hown3.lt _ e.symm).1; omega)
             have s1 := hM5.cell 1
             have s2 := hM5.fz 1
             have s3 := hM5.lt
             simp at s1
             obtain ⟨vp', vc', rfl⟩ := owns_form hown5
             have hEb5 : ExtBut (w.heap.size + 1 + 1) w0 w5 := ExtBut.grown (b := w3.alloc (.cells #[.int .i64 n, .string sv] 97)) (hEb3.alloc _) hgrow5 (fun k hk => (hown3.lt k hk).1)
             go_wp2
             go_roundw
             case rel => exact ⟨n + 1, _, by omega, by omega, by go_num, hM5.set 1 _, by rw [hS.out, show acc ++ [((n : Int), sv)] = acc ++ [((n : Int), sv)] from rfl, elCells_snoc]; simpa using owns_set hown5 (by omega), hEb5.setCell 1 _⟩
             case measure => simp [intOf]; omega
           · have b2 : ((n : Int) == 2) = false := by rw [beq_eq_false_iff_ne]; omega
             have b4 : ((n : Int) == 4) = false := by rw [beq_eq_false_iff_ne]; omega
             have b7 : ((n : Int) == 7) = true := by rw [beq_iff_eq]; omega
             have b11 : ((n : Int) == 11) = false := by rw [beq_eq_false_iff_ne]; omega
             have b32 : ((n : Int) == 32) = false := by rw [beq_eq_false_iff_ne]; omega
             have b37 : ((n : Int) == 37) = false := by rw [beq_eq_false_iff_ne]; omega
             have b41 : ((n : Int) == 41) = false := by rw [beq_eq_false_iff_ne]; omega
             have b42 : ((n : Int) == 42) = false := by rw [beq_eq_false_iff_ne]; omega
             have b49 : ((n : Int) == 49) = false := by rw [beq_eq_false_iff_ne]; omega
             have b56 : ((n : Int) == 56) = false := by rw [beq_eq_false_iff_ne]; omega
             have b70 : ((n : Int) == 70) = false := by rw [beq_eq_false_iff_ne]; omega
             have b100 : ((n : Int) == 100) = false := by rw [beq_eq_false_iff_ne]; omega
             have b39 : ((n : Int) == 39) = false := by rw [beq_eq_false_iff_ne]; omega
             clear hc h39 hne
             go_wp2_with (at_builtin; refine wpList_append_own _ rfl _ _ 27 rfl w0.heap.size 97 i0 (.agg #[.int .i64 0, .string ⟨#[]⟩]) 2 24 Tryz.underlying27 hI.out hZ0.out hZ1.out hZ2.out rfl (by decide) (.slice vp acc.length vc) _ _ rfl (hown3.alloc _) ⟨w3.heap.size, 0, none⟩ 1 1 [.int .i64 n, .string sv] rfl rfl ?_ ?_ ?_ ?_ ?_ ?_)
             · exact cell_two_new' _ _ _ _ _ rfl
             · exact two_one _ _
             · unfold maxLen; omega
             · omega
             · simp; omega
             intro v' w5 hown5 hgrow5 _
             have hM5 : Blk w5 (w.heap.size + 1 + 1) #[.int .i64 (ty + 10), .slice vp acc.length vc] 29 := Blk.grown (hM3.alloc (.cells #[.int .i64 n, .string sv] 97)) hgrow5 (fun e => by have := (hown3.lt _ e.symm).1; omega)
             have s1 := hM5.cell 1
             have s2 := hM5.fz 1
             have s3 := hM5.lt
             simp at s1
             obtain ⟨vp', vc', rfl⟩ := owns_form hown5
             have hEb5 : ExtBut (w.heap.size + 1 + 1) w0 w5 := ExtBut.grown (b := w3.alloc (.cells #[.int .i64 n, .string sv] 97)) (hEb3.alloc _) hgrow5 (fun k hk => (hown3.lt k hk).1)
             go_wp2
             go_roundw
             case rel => exact ⟨n + 1, _, by omega, by omega, by go_num, hM5.set 1 _, by rw [hS.out, show acc ++ [((n : Int), sv)] = acc ++ [((n : Int), sv)] from rfl, elCells_snoc]; simpa using owns_set hown5 (by omega), hEb5.setCell 1 _⟩
             case measure => simp [intOf]; omega
           · have b2 : ((n : Int) == 2) = false := by rw [beq_eq_false_iff_ne]; omega
             have b4 : ((n : Int) == 4) = false := by rw [beq_eq_false_iff_ne]; omega
             have b7 : ((n : Int) == 7) = false := by rw [beq_eq_false_iff_ne]; omega
             have b11 : ((n : Int) == 11) = true := by rw [beq_iff_eq]; omega
             have b32 : ((n : Int) == 32) = false := by rw [beq_eq_false_iff_ne]; omega
             have b37 : ((n : Int) == 37) = false := by rw [beq_eq_false_iff_ne]; omega
             have b41 : ((n : Int) == 41) = false := by rw [beq_eq_false_iff_ne]; omega
             have b42 : ((n : Int) == 42) = false := by rw [beq_eq_false_iff_ne]; omega
             have b49 : ((n : Int) == 49) = false := by rw [beq_eq_false_iff_ne]; omega
             have b56 : ((n : Int) == 56) = false := by rw [beq_eq_false_iff_ne]; omega
             have b70 : ((n : Int) == 70) = false := by rw [beq_eq_false_iff_ne]; omega
             have b100 : ((n : Int) == 100) = false := by rw [beq_eq_false_iff_ne]; omega
             have b39 : ((n : Int) == 39) = false := by rw [beq_eq_false_iff_ne]; omega
             clear hc h39 hne
             go_wp2_with (at_builtin; refine wpList_append_own _ rfl _ _ 27 rfl w0.heap.size 97 i0 (.agg #[.int .i64 0, .string ⟨#[]⟩]) 2 24 Tryz.underlying27 hI.out hZ0.out hZ1.out hZ2.out rfl (by decide) (.slice vp acc.length vc) _ _ rfl (hown3.alloc _) ⟨w3.heap.size, 0, none⟩ 1 1 [.int .i64 n, .string sv] rfl rfl ?_ ?_ ?_ ?_ ?_ ?_)
             · exact cell_two_new' _ _ _ _ _ rfl
             · exact two_one _ _
             · unfold maxLen; omega
             · omega
             · simp; omega
             intro v' w5 hown5 hgrow5 _
             have hM5 : Blk w5 (w.heap.size + 1 + 1) #[.int .i64 (ty + 10), .slice vp acc.length vc] 29 := Blk.grown (hM3.alloc (.cells #[.int .i64 n, .string sv] 97)) hgrow5 (fun e => by have := (hown3.lt _ e.symm).1; omega)
             have s1 := hM5.cell 1
             have s2 := hM5.fz 1
             have s3 := hM5.lt
             simp at s1
             obtain ⟨vp', vc', rfl⟩ := owns_form hown5
             have hEb5 : ExtBut (w.heap.size + 1 + 1) w0 w5 := ExtBut.grown (b := w3.alloc (.cells #[.int .i64 n, .string sv] 97)) (hEb3.alloc _) hgrow5 (fun k hk => (hown3.lt k hk).1)
             go_wp2
             go_roundw
             case rel => exact ⟨n + 1, _, by omega, by omega, by go_num, hM5.set 1 _, by rw [hS.out, show acc ++ [((n : Int), sv)] = acc ++ [((n : Int), sv)] from rfl, elCells_snoc]; simpa using owns_set hown5 (by omega), hEb5.setCell 1 _⟩
             case measure => simp [intOf]; omega
           · have b2 : ((n : Int) == 2) = false := by rw [beq_eq_false_iff_ne]; omega
             have b4 : ((n : Int) == 4) = false := by rw [beq_eq_false_iff_ne]; omega
             have b7 : ((n : Int) == 7) = false := by rw [beq_eq_false_iff_ne]; omega
             have b11 : ((n : Int) == 11) = false := by rw [beq_eq_false_iff_ne]; omega
             have b32 : ((n : Int) == 32) = true := by rw [beq_iff_eq]; omega
             have b37 : ((n : Int) == 37) = false := by rw [beq_eq_false_iff_ne]; omega
             have b41 : ((n : Int) == 41) = false := by rw [beq_eq_false_iff_ne]; omega
             have b42 : ((n : Int) == 42) = false := by rw [beq_eq_false_iff_ne]; omega
             have b49 : ((n : Int) == 49) = false := by rw [beq_eq_false_iff_ne]; omega
             have b56 : ((n : Int) == 56) = false := by rw [beq_eq_false_iff_ne]; omega
             have b70 : ((n : Int) == 70) = false := by rw [beq_eq_false_iff_ne]; omega
             have b100 : ((n : Int) == 100) = false := by rw [beq_eq_false_iff_ne]; omega
             have b39 : ((n : Int) == 39) = false := by rw [beq_eq_false_iff_ne]; omega
             clear hc h39 hne
             go_wp2_with (at_builtin; refine wpList_append_own _ rfl _ _ 27 rfl w0.heap.size 97 i0 (.agg #[.int .i64 0, .string ⟨#[]⟩]) 2 24 Tryz.underlying27 hI.out hZ0.out hZ1.out hZ2.out rfl (by decide) (.slice vp acc.length vc) _ _ rfl (hown3.alloc _) ⟨w3.heap.size, 0, none⟩ 1 1 [.int .i64 n, .string sv] rfl rfl ?_ ?_ ?_ ?_ ?_ ?_)
             · exact cell_two_new' _ _ _ _ _ rfl
             · exact two_one _ _
             · unfold maxLen; omega
             · omega
             · simp; omega
             intro v' w5 hown5 hgrow5 _
             have hM5 : Blk w5 (w.heap.size + 1 + 1) #[.int .i64 (ty + 10), .slice vp acc.length vc] 29 := Blk.grown (hM3.alloc (.cells #[.int .i64 n, .string sv] 97)) hgrow5 (fun e => by have := (hown3.lt _ e.symm).1; omega)
             have s1 := hM5.cell 1
             have s2 := hM5.fz 1
             have s3 := hM5.lt
             simp at s1
             obtain ⟨vp', vc', rfl⟩ := owns_form hown5
             have hEb5 : ExtBut (w.heap.size + 1 + 1) w0 w5 := ExtBut.grown (b := w3.alloc (.cells #[.int .i64 n, .string sv] 97)) (hEb3.alloc _) hgrow5 (fun k hk => (hown3.lt k hk).1)
             go_wp2
             go_roundw
             case rel => exact ⟨n + 1, _, by omega, by omega, by go_num, hM5.set 1 _, by rw [hS.out, show acc ++ [((n : Int), sv)] = acc ++ [((n : Int), sv)] from rfl, elCells_snoc]; simpa using owns_set hown5 (by omega), hEb5.setCell 1 _⟩
             case measure => simp [intOf]; omega
           · have b2 : ((n : Int) == 2) = false := by rw [beq_eq_false_iff_ne]; omega
             have b4 : ((n : Int) == 4) = false := by rw [beq_eq_false_iff_ne]; omega
             have b7 : ((n : Int) == 7) = false := by rw [beq_eq_false_iff_ne]; omega
             have b11 : ((n : Int) == 11) = false := by rw [beq_eq_false_iff_ne]; omega
             have b32 : ((n : Int) == 32) = false := by rw [beq_eq_false_iff_ne]; omega
             have b37 : ((n : Int) == 37) = true := by rw [beq_iff_eq]; omega
             have b41 : ((n : Int) == 41) = false := by rw [beq_eq_false_iff_ne]; omega
             have b42 : ((n : Int) == 42) = false := by rw [beq_eq_false_iff_ne]; omega
             have b49 : ((n : Int) == 49) = false := by rw [beq_eq_false_iff_ne]; omega
             have b56 : ((n : Int) == 56) = false := by rw [beq_eq_false_iff_ne]; omega
             have b70 : ((n : Int) == 70) = false := by rw [beq_eq_false_iff_ne]; omega
             have b100 : ((n : Int) == 100) = false := by rw [beq_eq_false_iff_ne]; omega
             have b39 : ((n : Int) == 39) = false := by rw [beq_eq_false_iff_ne]; omega
             clear hc h39 hne
             go_wp2_with (at_builtin; refine wpList_append_own _ rfl _ _ 27 rfl w0.heap.size 97 i0 (.agg #[.int .i64 0, .string ⟨#[]⟩]) 2 24 Tryz.underlying27 hI.out hZ0.out hZ1.out hZ2.out rfl (by decide) (.slice vp acc.length vc) _ _ rfl (hown3.alloc _) ⟨w3.heap.size, 0, none⟩ 1 1 [.int .i64 n, .string sv] rfl rfl ?_ ?_ ?_ ?_ ?_ ?_)
             · exact cell_two_new' _ _ _ _ _ rfl
             · exact two_one _ _
             · unfold maxLen; omega
             · omega
             · simp; omega
             intro v' w5 hown5 hgrow5 _
             have hM5 : Blk w5 (w.heap.size + 1 + 1) #[.int .i64 (ty + 10), .slice vp acc.length vc] 29 := Blk.grown (hM3.alloc (.cells #[.int .i64 n, .string sv] 97)) hgrow5 (fun e => by have := (hown3.lt _ e.symm).1; omega)
             have s1 := hM5.cell 1
             have s2 := hM5.fz 1
             have s3 := hM5.lt
             simp at s1
             obtain ⟨vp', vc', rfl⟩ := owns_form hown5
             have hEb5 : ExtBut (w.heap.size + 1 + 1) w0 w5 := ExtBut.grown (b := w3.alloc (.cells #[.int .i64 n, .string sv] 97)) (hEb3.alloc _) hgrow5 (fun k hk => (hown3.lt k hk).1)
             go_wp2
             go_roundw
             case rel => exact ⟨n + 1, _, by omega, by omega, by go_num, hM5.set 1 _, by rw [hS.out, show acc ++ [((n : Int), sv)] = acc ++ [((n : Int), sv)] from rfl, elCells_snoc]; simpa using owns_set hown5 (by omega), hEb5.setCell 1 _⟩
             case measure => simp [intOf]; omega
           · have b2 : ((n : Int) == 2) = false := by rw [beq_eq_false_iff_ne]; omega
             have b4 : ((n : Int) == 4) = false := by rw [beq_eq_false_iff_ne]; omega
             have b7 : ((n : Int) == 7) = false := by rw [beq_eq_false_iff_ne]; omega
             have b11 : ((n : Int) == 11) = false := by rw [beq_eq_false_iff_ne]; omega
             have b32 : ((n : Int) == 32) = false := by rw [beq_eq_false_iff_ne]; omega
             have b37 : ((n : Int) == 37) = false := by rw [beq_eq_false_iff_ne]; omega
             have b41 : ((n : Int) == 41) = true := by rw [beq_iff_eq]; omega
             have b42 : ((n : Int) == 42) = false := by rw [beq_eq_false_iff_ne]; omega
             have b49 : ((n : Int) == 49) = false := by rw [beq_eq_false_iff_ne]; omega
             have b56 : ((n : Int) == 56) = false := by rw [beq_eq_false_iff_ne]; omega
             have b70 : ((n : Int) == 70) = false := by rw [beq_eq_false_iff_ne]; omega
             have b100 : ((n : Int) == 100) = false := by rw [beq_eq_false_iff_ne]; omega
             have b39 : ((n : Int) == 39) = false := by rw [beq_eq_false_iff_ne]; omega
             clear hc h39 hne
             go_wp2_with (at_builtin; refine wpList_append_own _ rfl _ _ 27 rfl w0.heap.size 97 i0 (.agg #[.int .i64 0, .string ⟨#[]⟩]) 2 24 Tryz.underlying27 hI.out hZ0.out hZ1.out hZ2.out rfl (by decide) (.slice vp acc.length vc) _ _ rfl (hown3.alloc _) ⟨w3.heap.size, 0, none⟩ 1 1 [.int .i64 n, .string sv] rfl rfl ?_ ?_ ?_ ?_ ?_ ?_)
             · exact cell_two_new' _ _ _ _ _ rfl
             · exact two_one _ _
             · unfold maxLen; omega
             · omega
             · simp; omega
             intro v' w5 hown5 hgrow5 _
             have hM5 : Blk w5 (w.heap.size + 1 + 1) #[.int .i64 (ty + 10), .slice vp acc.length vc] 29 := Blk.grown (hM3.alloc (.cells #[.int .i64 n, .string sv] 97)) hgrow5 (fun e => by have := (hown3.lt _ e.symm).1; omega)
             have s1 := hM5.cell 1
             have s2 := hM5.fz 1
             have s3 := hM5.lt
             simp at s1
             obtain ⟨vp', vc', rfl⟩ := owns_form hown5
             have hEb5 : ExtBut (w.heap.size + 1 + 1) w0 w5 := ExtBut.grown (b := w3.alloc (.cells #[.int .i64 n, .string sv] 97)) (hEb3.alloc _) hgrow5 (fun k hk => (hown3.lt k hk).1)
             go_wp2
             go_roundw
             case rel => exact ⟨n + 1, _, by omega, by omega, by go_num, hM5.set 1 _, by rw [hS.out, show acc ++ [((n : Int), sv)] = acc ++ [((n : Int), sv)] from rfl, elCells_snoc]; simpa using owns_set hown5 (by omega), hEb5.setCell 1 _⟩
             case measure => simp [intOf]; omega
           · have b2 : ((n : Int) == 2) = false := by rw [beq_eq_false_iff_ne]; omega
             have b4 : ((n : Int) == 4) = false := by rw [beq_eq_false_iff_ne]; omega
             have b7 : ((n : Int) == 7) = false := by rw [beq_eq_false_iff_ne]; omega
             have b11 : ((n : Int) == 11) = false := by rw [beq_eq_false_iff_ne]; omega
             have b32 : ((n : Int) == 32) = false := by rw [beq_eq_false_iff_ne]; omega
             have b37 : ((n : Int) == 37) = false := by rw [beq_eq_false_iff_ne]; omega
             have b41 : ((n : Int) == 41) = false := by rw [beq_eq_false_iff_ne]; omega
             have b42 : ((n : Int) == 42) = true := by rw [beq_iff_eq]; omega
             have b49 : ((n : Int) == 49) = false := by rw [beq_eq_false_iff_ne]; omega
             have b56 : ((n : Int) == 56) = false := by rw [beq_eq_false_iff_ne]; omega
             have b70 : ((n : Int) == 70) = false := by rw [beq_eq_false_iff_ne]; omega
             have b100 : ((n : Int) == 100) = false := by rw [beq_eq_false_iff_ne]; omega
             have b39 : ((n : Int) == 39) = false := by rw [beq_eq_false_iff_ne]; omega
             clear hc h39 hne
             go_wp2_with (at_builtin; refine wpList_append_own _ rfl _ _ 27 rfl w0.heap.size 97 i0 (.agg #[.int .i64 0, .string ⟨#[]⟩]) 2 24 Tryz.underlying27 hI.out hZ0.out hZ1.out hZ2.out rfl (by decide) (.slice vp acc.length vc) _ _ rfl (hown3.alloc _) ⟨w3.heap.size, 0, none⟩ 1 1 [.int .i64 n, .string sv] rfl rfl ?_ ?_ ?_ ?_ ?_ ?_)
             · exact cell_two_new' _ _ _ _ _ rfl
             · exact two_one _ _
             · unfold maxLen; omega
             · omega
             · simp; omega
             intro v' w5 hown5 hgrow5 _
             have hM5 : Blk w5 (w.heap.size + 1 + 1) #[.int .i64 (ty + 10), .slice vp acc.length vc] 29 := Blk.grown (hM3.alloc (.cells #[.int .i64 n, .string sv] 97)) hgrow5 (fun e => by have := (hown3.lt _ e.symm).1; omega)
             have s1 := hM5.cell 1
             have s2 := hM5.fz 1
             have s3 := hM5.lt
             simp at s1
             obtain ⟨vp', vc', rfl⟩ := owns_form hown5
             have hEb5 : ExtBut (w.heap.size + 1 + 1) w0 w5 := ExtBut.grown (b := w3.alloc (.cells #[.int .i64 n, .string sv] 97)) (hEb3.alloc _) hgrow5 (fun k hk => (hown3.lt k hk).1)
             go_wp2
             go_roundw
             case rel => exact ⟨n + 1, _, by omega, by omega, by go_num, hM5.set 1 _, by rw [hS.out, show acc ++ [((n : Int), sv)] = acc ++ [((n : Int), sv)] from rfl, elCells_snoc]; simpa using owns_set hown5 (by omega), hEb5.setCell 1 _⟩
             case measure => simp [intOf]; omega
           · have b2 : ((n : Int) == 2) = false := by rw [beq_eq_false_iff_ne]; omega
             have b4 : ((n : Int) == 4) = false := by rw [beq_eq_false_iff_ne]; omega
             have b7 : ((n : Int) == 7) = false := by rw [beq_eq_false_iff_ne]; omega
             have b11 : ((n : Int) == 11) = false := by rw [beq_eq_false_iff_ne]; omega
             have b32 : ((n : Int) == 32) = false := by rw [beq_eq_false_iff_ne]; omega
             have b37 : ((n : Int) == 37) = false := by rw [beq_eq_false_iff_ne]; omega
             have b41 : ((n : Int) == 41) = false := by rw [beq_eq_false_iff_ne]; omega
             have b42 : ((n : Int) == 42) = false := by rw [beq_eq_false_iff_ne]; omega
             have b49 : ((n : Int) == 49) = true := by rw [beq_iff_eq]; omega
             have b56 : ((n : Int) == 56) = false := by rw [beq_eq_false_iff_ne]; omega
             have b70 : ((n : Int) == 70) = false := by rw [beq_eq_false_iff_ne]; omega
             have b100 : ((n : Int) == 100) = false := by rw [beq_eq_false_iff_ne]; omega
             have b39 : ((n : Int) == 39) = false := by rw [beq_eq_false_iff_ne]; omega
             clear hc h39 hne
             go_wp2_with (at_builtin; refine wpList_append_own _ rfl _ _ 27 rfl w0.heap.size 97 i0 (.agg #[.int .i64 0, .string ⟨#[]⟩]) 2 24 Tryz.underlying27 hI.out hZ0.out hZ1.out hZ2.out rfl (by decide) (.slice vp acc.length vc) _ _ rfl (hown3.alloc _) ⟨w3.heap.size, 0, none⟩ 1 1 [.int .i64 n, .string sv] rfl rfl ?_ ?_ ?_ ?_ ?_ ?_)
             · exact cell_two_new' _ _ _ _ _ rfl
             · exact two_one _ _
             · unfold maxLen; omega
             · omega
             · simp; omega
             intro v' w5 hown5 hgrow5 _
             have hM5 : Blk w5 (w.heap.size + 1 + 1) #[.int .i64 (ty + 10), .slice vp acc.length vc] 29 := Blk.grown (hM3.alloc (.cells #[.int .i64 n, .string sv] 97)) hgrow5 (fun e => by have := (hown3.lt _ e.symm).1; omega)
             have s1 := hM5.cell 1
             have s2 := hM5.fz 1
             have s3 := hM5.lt
             simp at s1
             obtain ⟨vp', vc', rfl⟩ := owns_form hown5
             have hEb5 : ExtBut (w.heap.size + 1 + 1) w0 w5 := ExtBut.grown (b := w3.alloc (.cells #[.int .i64 n, .string sv] 97)) (hEb3.alloc _) hgrow5 (fun k hk => (hown3.lt k hk).1)
             go_wp2
             go_roundw
             case rel => exact ⟨n + 1, _, by omega, by omega, by go_num, hM5.set 1 _, by rw [hS.out, show acc ++ [((n : Int), sv)] = acc ++ [((n : Int), sv)] from rfl, elCells_snoc]; simpa using owns_set hown5 (by omega), hEb5.setCell 1 _⟩
             case measure => simp [intOf]; omega
           · have b2 : ((n : Int) == 2) = false := by rw [beq_eq_false_iff_ne]; omega
             have b4 : ((n : Int) == 4) = false := by rw [beq_eq_false_iff_ne]; omega
             have b7 : ((n : Int) == 7) = false := by rw [beq_eq_false_iff_ne]; omega
             have b11 : ((n : Int) == 11) = false := by rw [beq_eq_false_iff_ne]; omega
             have b32 : ((n : Int) == 32) = false := by rw [beq_eq_false_iff_ne]; omega
             have b37 : ((n : Int) == 37) = false := by rw [beq_eq_false_iff_ne]; omega
             have b41 : ((n : Int) == 41) = false := by rw [beq_eq_false_iff_ne]; omega
             have b42 : ((n : Int) == 42) = false := by rw [beq_eq_false_iff_ne]; omega
             have b49 : ((n : Int) == 49) = false := by rw [beq_eq_false_iff_ne]; omega
             have b56 : ((n : Int) == 56) = true := by rw [beq_iff_eq]; omega
             have b70 : ((n : Int) == 70) = false := by rw [beq_eq_false_iff_ne]; omega
             have b100 : ((n : Int) == 100) = false := by rw [beq_eq_false_iff_ne]; omega
             have b39 : ((n : Int) == 39) = false := by rw [beq_eq_false_iff_ne]; omega
             clear hc h39 hne
             go_wp2_with (at_builtin; refine wpList_append_own _ rfl _ _ 27 rfl w0.heap.size 97 i0 (.agg #[.int .i64 0, .string ⟨#[]⟩]) 2 24 Tryz.underlying27 hI.out hZ0.out hZ1.out hZ2.out rfl (by decide) (.slice vp acc.length vc) _ _ rfl (hown3.alloc _) ⟨w3.heap.size, 0, none⟩ 1 1 [.int .i64 n, .string sv] rfl rfl ?_ ?_ ?_ ?_ ?_ ?_)
             · exact cell_two_new' _ _ _ _ _ rfl
             · exact two_one _ _
             · unfold maxLen; omega
             · omega
             · simp; omega
             intro v' w5 hown5 hgrow5 _
             have hM5 : Blk w5 (w.heap.size + 1 + 1) #[.int .i64 (ty + 10), .slice vp acc.length vc] 29 := Blk.grown (hM3.alloc (.cells #[.int .i64 n, .string sv] 97)) hgrow5 (fun e => by have := (hown3.lt _ e.symm).1; omega)
             have s1 := hM5.cell 1
             have s2 := hM5.fz 1
             have s3 := hM5.lt
             simp at s1
             obtain ⟨vp', vc', rfl⟩ := owns_form hown5
             have hEb5 : ExtBut (w.heap.size + 1 + 1) w0 w5 := ExtBut.grown (b := w3.alloc (.cells #[.int .i64 n, .string sv] 97)) (hEb3.alloc _) hgrow5 (fun k hk => (hown3.lt k hk).1)
             go_wp2
             go_roundw
             case rel => exact ⟨n + 1, _, by omega, by omega, by go_num, hM5.set 1 _, by rw [hS.out, show acc ++ [((n : Int), sv)] = acc ++ [((n : Int), sv)] from rfl, elCells_snoc]; simpa using owns_set hown5 (by omega), hEb5.setCell 1 _⟩
             case measure => simp [intOf]; omega
           · have b2 : ((n : Int) == 2) = false := by rw [beq_eq_false_iff_ne]; omega
             have b4 : ((n : Int) == 4) = false := by rw [beq_eq_false_iff_ne]; omega
             have b7 : ((n : Int) == 7) = false := by rw [beq_eq_false_iff_ne]; omega
             have b11 : ((n : Int) == 11) = false := by rw [beq_eq_false_iff_ne]; omega
             have b32 : ((n : Int) == 32) = false := by rw [beq_eq_false_iff_ne]; omega
             have b37 : ((n : Int) == 37) = false := by rw [beq_eq_false_iff_ne]; omega
             have b41 : ((n : Int) == 41) = false := by rw [beq_eq_false_iff_ne]; omega
             have b42 : ((n : Int) == 42) = false := by rw [beq_eq_false_iff_ne]; omega
             have b49 : ((n : Int) == 49) = false := by rw [beq_eq_false_iff_ne]; omega
             have b56 : ((n : Int) == 56) = false := by rw [beq_eq_false_iff_ne]; omega
             have b70 : ((n : Int) == 70) = true := by rw [beq_iff_eq]; omega
             have b100 : ((n : Int) == 100) = false := by rw [beq_eq_false_iff_ne]; omega
             have b39 : ((n : Int) == 39) = false := by rw [beq_eq_false_iff_ne]; omega
             clear hc h39 hne
             go_wp2_with (at_builtin; refine wpList_append_own _ rfl _ _ 27 rfl w0.heap.size 97 i0 (.agg #[.int .i64 0, .string ⟨#[]⟩]) 2 24 Tryz.underlying27 hI.out hZ0.out hZ1.out hZ2.out rfl (by decide) (.slice vp acc.length vc) _ _ rfl (hown3.alloc _) ⟨w3.heap.size, 0, none⟩ 1 1 [.int .i64 n, .string sv] rfl rfl ?_ ?_ ?_ ?_ ?_ ?_)
             · exact cell_two_new' _ _ _ _ _ rfl
             · exact two_one _ _
             · unfold maxLen; omega
             · omega
             · simp; omega
             intro v' w5 hown5 hgrow5 _
             have hM5 : Blk w5 (w.heap.size + 1 + 1) #[.int .i64 (ty + 10), .slice vp acc.length vc] 29 := Blk.grown (hM3.alloc (.cells #[.int .i64 n, .string sv] 97)) hgrow5 (fun e => by have := (hown3.lt _ e.symm).1; omega)
             have s1 := hM5.cell 1
             have s2 := hM5.fz 1
             have s3 := hM5.lt
             simp at s1
             obtain ⟨vp', vc', rfl⟩ := owns_form hown5
             have hEb5 : ExtBut (w.heap.size + 1 + 1) w0 w5 := ExtBut.grown (b := w3.alloc (.cells #[.int .i64 n, .string sv] 97)) (hEb3.alloc _) hgrow5 (fun k hk => (hown3.lt k hk).1)
             go_wp2
             go_roundw
             case rel => exact ⟨n + 1, _, by omega, by omega, by go_num, hM5.set 1 _, by rw [hS.out, show acc ++ [((n : Int), sv)] = acc ++ [((n : Int), sv)] from rfl, elCells_snoc]; simpa using owns_set hown5 (by omega), hEb5.setCell 1 _⟩
             case measure => simp [intOf]; omega
           · have b2 : ((n : Int) == 2) = false := by rw [beq_eq_false_iff_ne]; omega
             have b4 : ((n : Int) == 4) = false := by rw [beq_eq_false_iff_ne]; omega
             have b7 : ((n : Int) == 7) = false := by rw [beq_eq_false_iff_ne]; omega
             have b11 : ((n : Int) == 11) = false := by rw [beq_eq_false_iff_ne]; omega
             have b32 : ((n : Int) == 32) = false := by rw [beq_eq_false_iff_ne]; omega
             have b37 : ((n : Int) == 37) = false := by rw [beq_eq_false_iff_ne]; omega
             have b41 : ((n : Int) == 41) = false := by rw [beq_eq_false_iff_ne]; omega
             have b42 : ((n : Int) == 42) = false := by rw [beq_eq_false_iff_ne]; omega
             have b49 : ((n : Int) == 49) = false := by rw [beq_eq_false_iff_ne]; omega
             have b56 : ((n : Int) == 56) = false := by rw [beq_eq_false_iff_ne]; omega
             have b70 : ((n : Int) == 70) = false := by rw [beq_eq_false_iff_ne]; omega
             have b100 : ((n : Int) == 100) = true := by rw [beq_iff_eq]; omega
             have b39 : ((n : Int) == 39) = false := by rw [beq_eq_false_iff_ne]; omega
             clear hc h39 hne
             go_wp2_with (at_builtin; refine wpList_append_own _ rfl _ _ 27 rfl w0.heap.size 97 i0 (.agg #[.int .i64 0, .string ⟨#[]⟩]) 2 24 Tryz.underlying27 hI.out hZ0.out hZ1.out hZ2.out rfl (by decide) (.slice vp acc.length vc) _ _ rfl (hown3.alloc _) ⟨w3.heap.size, 0, none⟩ 1 1 [.int .i64 n, .string sv] rfl rfl ?_ ?_ ?_ ?_ ?_ ?_)
             · exact cell_two_new' _ _ _ _ _ rfl
             · exact two_one _ _
             · unfold maxLen; omega
             · omega
             · simp; omega
             intro v' w5 hown5 hgrow5 _
             have hM5 : Blk w5 (w.heap.size + 1 + 1) #[.int .i64 (ty + 10), .slice vp acc.length vc] 29 := Blk.grown (hM3.alloc (.cells #[.int .i64 n, .string sv] 97)) hgrow5 (fun e => by have := (hown3.lt _ e.symm).1; omega)
             have s1 := hM5.cell 1
             have s2 := hM5.fz 1
             have s3 := hM5.lt
             simp at s1
             obtain ⟨vp', vc', rfl⟩ := owns_form hown5
             have hEb5 : ExtBut (w.heap.size + 1 + 1) w0 w5 := ExtBut.grown (b := w3.alloc (.cells #[.int .i64 n, .string sv] 97)) (hEb3.alloc _) hgrow5 (fun k hk => (hown3.lt k hk).1)
             go_wp2
             go_roundw
             case rel => exact ⟨n + 1, _, by omega, by omega, by go_num, hM5.set 1 _, by rw [hS.out, show acc ++ [((n : Int), sv)] = acc ++ [((n : Int), sv)] from rfl, elCells_snoc]; simpa using owns_set hown5 (by omega), hEb5.setCell 1 _⟩
             case measure => simp [intOf]; omega
           · exact absurd hc h39
          | false =>
           have hS := Lib.hid (hSu.trans (by rw [repOne_no _ _ _ hne hgb, List.append_nil]))
           clear hSu hmem hgb
           generalize getS (n : Int) es = sv at *
           generalize acR es code n = acc at *
           rcases hc with hc | hc | hc | hc | hc | hc | hc | hc | hc | hc | hc | hc | hc
           · have b2 : ((n : Int) == 2) = true := by rw [beq_iff_eq]; omega
             have b4 : ((n : Int) == 4) = false := by rw [beq_eq_false_iff_ne]; omega
             have b7 : ((n : Int) == 7) = false := by rw [beq_eq_false_iff_ne]; omega
             have b11 : ((n : Int) == 11) = false := by rw [beq_eq_false_iff_ne]; omega
             have b32 : ((n : Int) == 32) = false := by rw [beq_eq_false_iff_ne]; omega
             have b37 : ((n : Int) == 37) = false := by rw [beq_eq_false_iff_ne]; omega
             have b41 : ((n : Int) == 41) = false := by rw [beq_eq_false_iff_ne]; omega
             have b42 : ((n : Int) == 42) = false := by rw [beq_eq_false_iff_ne]; omega
             have b49 : ((n : Int) == 49) = false := by rw [beq_eq_false_iff_ne]; omega
             have b56 : ((n : Int) == 56) = false := by rw [beq_eq_false_iff_ne]; omega
             have b70 : ((n : Int) == 70) = false := by rw [beq_eq_false_iff_ne]; omega
             have b100 : ((n : Int) == 100) = false := by rw [beq_eq_false_iff_ne]; omega
             have b39 : ((n : Int) == 39) = false := by rw [beq_eq_false_iff_ne]; omega
             clear hc h39 hne
             go_wp2
             go_roundw
             case rel => exact ⟨n + 1, _, by omega, by omega, by go_num, hM3, by rw [hS.out]; exact hown3, hEb3⟩
             case measure => simp [intOf]; omega
           · have b2 : ((n : Int) == 2) = false := by rw [beq_eq_false_iff_ne]; omega
             have b4 : ((n : Int) == 4) = true := by rw [beq_iff_eq]; omega
             have b7 : ((n : Int) == 7) = false := by rw [beq_eq_false_iff_ne]; omega
             have b11 : ((n : Int) == 11) = false := by rw [beq_eq_false_iff_ne]; omega
             have b32 : ((n : Int) == 32) = false := by rw [beq_eq_false_iff_ne]; omega
             have b37 : ((n : Int) == 37) = false := by rw [beq_eq_false_iff_ne]; omega
             have b41 : ((n : Int) == 41) = false := by rw [beq_eq_false_iff_ne]; omega
             have b42 : ((n : Int) == 42) = false := by rw [beq_eq_false_iff_ne]; omega
             have b49 : ((n : Int) == 49) = false := by rw [beq_eq_false_iff_ne]; omega
             have b56 : ((n : Int) == 56) = false := by rw [beq_eq_false_iff_ne]; omega
             have b70 : ((n : Int) == 70) = false := by rw [beq_eq_false_iff_ne]; omega
             have b100 : ((n : Int) == 100) = false := by rw [beq_eq_false_iff_ne]; omega
             have b39 : ((n : Int) == 39) = false := by rw [beq_eq_false_iff_ne]; omega
             clear hc h39 hne
             go_wp2
             go_roundw
             case rel => exact ⟨n + 1, _, by omega, by omega, by go_num, hM3, by rw [hS.out]; exact hown3, hEb3⟩
             case measure => simp [intOf]; omega
           · have b2 : ((n : Int) == 2) = false := by rw [beq_eq_false_iff_ne]; omega
             have b4 : ((n : Int) == 4) = false := by rw [beq_eq_false_iff_ne]; omega
             have b7 : ((n : Int) == 7) = true := by rw [beq_iff_eq]; omega
             have b11 : ((n : Int) == 11) = false := by rw [beq_eq_false_iff_ne]; omega
             have b32 : ((n : Int) == 32) = false := by rw [beq_eq_false_iff_ne]; omega
             have b37 : ((n : Int) == 37) = false := by rw [beq_eq_false_iff_ne]; omega
             have b41 : ((n : Int) == 41) = false := by rw [beq_eq_false_iff_ne]; omega
             have b42 : ((n : Int) == 42) = false := by rw [beq_eq_false_iff_ne]; omega
             have b49 : ((n : Int) == 49) = false := by rw [beq_eq_false_iff_ne]; omega
             have b56 : ((n : Int) == 56) = false := by rw [beq_eq_false_iff_ne]; omega
             have b70 : ((n : Int) == 70) = false := by rw [beq_eq_false_iff_ne]; omega
             have b100 : ((n : Int) == 100) = false := by rw [beq_eq_false_iff_ne]; omega
             have b39 : ((n : Int) == 39) = false := by rw [beq_eq_false_iff_ne]; omega
             clear hc h39 hne
             go_wp2
             go_roundw
             case rel => exact ⟨n + 1, _, by omega, by omega, by go_num, hM3, by rw [hS.out]; exact hown3, hEb3⟩
             case measure => simp [intOf]; omega
           · have b2 : ((n : Int) == 2) = false := by rw [beq_eq_false_iff_ne]; omega
             have b4 : ((n : Int) == 4) = false := by rw [beq_eq_false_iff_ne]; omega
             have b7 : ((n : Int) == 7) = false := by rw [beq_eq_false_iff_ne]; omega
             have b11 : ((n : Int) == 11) = true := by rw [beq_iff_eq]; omega
             have b32 : ((n : Int) == 32) = false := by rw [beq_eq_false_iff_ne]; omega
             have b37 : ((n : Int) == 37) = false := by rw [beq_eq_false_iff_ne]; omega
             have b41 : ((n : Int) == 41) = false := by rw [beq_eq_false_iff_ne]; omega
             have b42 : ((n : Int) == 42) = false := by rw [beq_eq_false_iff_ne]; omega
             have b49 : ((n : Int) == 49) = false := by rw [beq_eq_false_iff_ne]; omega
             have b56 : ((n : Int) == 56) = false := by rw [beq_eq_false_iff_ne]; omega
             have b70 : ((n : Int) == 70) = false := by rw [beq_eq_false_iff_ne]; omega
             have b100 : ((n : Int) == 100) = false := by rw [beq_eq_false_iff_ne]; omega
             have b39 : ((n : Int) == 39) = false := by rw [beq_eq_false_iff_ne]; omega
             clear hc h39 hne
             go_wp2
             go_roundw
             case rel => exact ⟨n + 1, _, by omega, by omega, by go_num, hM3, by rw [hS.out]; exact hown3, hEb3⟩
             case measure => simp [intOf]; omega
           · have b2 : ((n : Int) == 2) = false := by rw [beq_eq_false_iff_ne]; omega
             have b4 : ((n : Int) == 4) = false := by rw [beq_eq_false_iff_ne]; omega
             have b7 : ((n : Int) == 7) = false := by rw [beq_eq_false_iff_ne]; omega
             have b11 : ((n : Int) == 11) = false := by rw [beq_eq_false_iff_ne]; omega
             have b32 : ((n : Int) == 32) = true := by rw [beq_iff_eq]; omega
             have b37 : ((n : Int) == 37) = false := by rw [beq_eq_false_iff_ne]; omega
             have b41 : ((n : Int) == 41) = false := by rw [beq_eq_false_iff_ne]; omega
             have b42 : ((n : Int) == 42) = false := by rw [beq_eq_false_iff_ne]; omega
             have b49 : ((n : Int) == 49) = false := by rw [beq_eq_false_iff_ne]; omega
             have b56 : ((n : Int) == 56) = false := by rw [beq_eq_false_iff_ne]; omega
             have b70 : ((n : Int) == 70) = false := by rw [beq_eq_false_iff_ne]; omega
             have b100 : ((n : Int) == 100) = false := by rw [beq_eq_false_iff_ne]; omega
             have b39 : ((n : Int) == 39) = false := by rw [beq_eq_false_iff_ne]; omega
             clear hc h39 hne
             go_wp2
             go_roundw
             case rel => exact ⟨n + 1, _, by omega, by omega, by go_num, hM3, by rw [hS.out]; exact hown3, hEb3⟩
             case measure => simp [intOf]; omega
           · have b2 : ((n : Int) == 2) = false := by rw [beq_eq_false_iff_ne]; omega
             have b4 : ((n : Int) == 4) = false := by rw [beq_eq_false_iff_ne]; omega
             have b7 : ((n : Int) == 7) = false := by rw [beq_eq_false_iff_ne]; omega
             have b11 : ((n : Int) == 11) = false := by rw [beq_eq_false_iff_ne]; omega
             have b32 : ((n : Int) == 32) = false := by rw [beq_eq_false_iff_ne]; omega
             have b37 : ((n : Int) == 37) = true := by rw [beq_iff_eq]; omega
             have b41 : ((n : Int) == 41) = false := by rw [beq_eq_false_iff_ne]; omega
             have b42 : ((n : Int) == 42) = false := by rw [beq_eq_false_iff_ne]; omega
             have b49 : ((n : Int) == 49) = false := by rw [beq_eq_false_iff_ne]; omega
             have b56 : ((n : Int) == 56) = false := by rw [beq_eq_false_iff_ne]; omega
             have b70 : ((n : Int) == 70) = false := by rw [beq_eq_false_iff_ne]; omega
             have b100 : ((n : Int) == 100) = false := by rw [beq_eq_false_iff_ne]; omega
             have b39 : ((n : Int) == 39) = false := by rw [beq_eq_false_iff_ne]; omega
             clear hc h39 hne
             go_wp2
             go_roundw
             case rel => exact ⟨n + 1, _, by omega, by omega, by go_num, hM3, by rw [hS.out]; exact hown3, hEb3⟩
             case measure => simp [intOf]; omega
           · have b2 : ((n : Int) == 2) = false := by rw [beq_eq_false_iff_ne]; omega
             have b4 : ((n : Int) == 4) = false := by rw [beq_eq_false_iff_ne]; omega
             have b7 : ((n : Int) == 7) = false := by rw [beq_eq_false_iff_ne]; omega
             have b11 : ((n : Int) == 11) = false := by rw [beq_eq_false_iff_ne]; omega
             have b32 : ((n : Int) == 32) = false := by rw [beq_eq_false_iff_ne]; omega
             have b37 : ((n : Int) == 37) = false := by rw [beq_eq_false_iff_ne]; omega
             have b41 : ((n : Int) == 41) = true := by rw [beq_iff_eq]; omega
             have b42 : ((n : Int) == 42) = false := by rw [beq_eq_false_iff_ne]; omega
             have b49 : ((n : Int) == 49) = false := by rw [beq_eq_false_iff_ne]; omega
             have b56 : ((n : Int) == 56) = false := by rw [beq_eq_false_iff_ne]; omega
             have b70 : ((n : Int) == 70) = false := by rw [beq_eq_false_iff_ne]; omega
             have b100 : ((n : Int) == 100) = false := by rw [beq_eq_false_iff_ne]; omega
             have b39 : ((n : Int) == 39) = false := by rw [beq_eq_false_iff_ne]; omega
             clear hc h39 hne
             go_wp2
             go_roundw
             case rel => exact ⟨n + 1, _, by omega, by omega, by go_num, hM3, by rw [hS.out]; exact hown3, hEb3⟩
             case measure => simp [intOf]; omega
           · have b2 : ((n : Int) == 2) = false := by rw [beq_eq_false_iff_ne]; omega
             have b4 : ((n : Int) == 4) = false := by rw [beq_eq_false_iff_ne]; omega
             have b7 : ((n : Int) == 7) = false := by rw [beq_eq_false_iff_ne]; omega
             have b11 : ((n : Int) == 11) = false := by rw [beq_eq_false_iff_ne]; omega
             have b32 : ((n : Int) == 32) = false := by rw [beq_eq_false_iff_ne]; omega
             have b37 : ((n : Int) == 37) = false := by rw [beq_eq_false_iff_ne]; omega
             have b41 : ((n : Int) == 41) = false := by rw [beq_eq_false_iff_ne]; omega
             have b42 : ((n : Int) == 42) = true := by rw [beq_iff_eq]; omega
             have b49 : ((n : Int) == 49) = false := by rw [beq_eq_false_iff_ne]; omega
             have b56 : ((n : Int) == 56) = false := by rw [beq_eq_false_iff_ne]; omega
             have b70 : ((n : Int) == 70) = false := by rw [beq_eq_false_iff_ne]; omega
             have b100 : ((n : Int) == 100) = false := by rw [beq_eq_false_iff_ne]; omega
             have b39 : ((n : Int) == 39) = false := by rw [beq_eq_false_iff_ne]; omega
             clear hc h39 hne
             go_wp2
             go_roundw
             case rel => exact ⟨n + 1, _, by omega, by omega, by go_num, hM3, by rw [hS.out]; exact hown3, hEb3⟩
             case measure => simp [intOf]; omega
           · have b2 : ((n : Int) == 2) = false := by rw [beq_eq_false_iff_ne]; omega
             have b4 : ((n : Int) == 4) = false := by rw [beq_eq_false_iff_ne]; omega
             have b7 : ((n : Int) == 7) = false := by rw [beq_eq_false_iff_ne]; omega
             have b11 : ((n : Int) == 11) = false := by rw [beq_eq_false_iff_ne]; omega
             have b32 : ((n : Int) == 32) = false := by rw [beq_eq_false_iff_ne]; omega
             have b37 : ((n : Int) == 37) = false := by rw [beq_eq_false_iff_ne]; omega
             have b41 : ((n : Int) == 41) = false := by rw [beq_eq_false_iff_ne]; omega
             have b42 : ((n : Int) == 42) = false := by rw [beq_eq_false_iff_ne]; omega
             have b49 : ((n : Int) == 49) = true := by rw [beq_iff_eq]; omega
             have b56 : ((n : Int) == 56) = false := by rw [beq_eq_false_iff_ne]; omega
             have b70 : ((n : Int) == 70) = false := by rw [beq_eq_false_iff_ne]; omega
             have b100 : ((n : Int) == 100) = false := by rw [beq_eq_false_iff_ne]; omega
             have b39 : ((n : Int) == 39) = false := by rw [beq_eq_false_iff_ne]; omega
             clear hc h39 hne
             go_wp2
             go_roundw
             case rel => exact ⟨n + 1, _, by omega, by omega, by go_num, hM3, by rw [hS.out]; exact hown3, hEb3⟩
             case measure => simp [intOf]; omega
           · have b2 : ((n : Int) == 2) = false := by rw [beq_eq_false_iff_ne]; omega
             have b4 : ((n : Int) == 4) = false := by rw [beq_eq_false_iff_ne]; omega
             have b7 : ((n : Int) == 7) = false := by rw [beq_eq_false_iff_ne]; omega
             have b11 : ((n : Int) == 11) = false := by rw [beq_eq_false_iff_ne]; omega
             have b32 : ((n : Int) == 32) = false := by rw [beq_eq_false_iff_ne]; omega
             have b37 : ((n : Int) == 37) = false := by rw [beq_eq_false_iff_ne]; omega
             have b41 : ((n : Int) == 41) = false := by rw [beq_eq_false_iff_ne]; omega
             have b42 : ((n : Int) == 42) = false := by rw [beq_eq_false_iff_ne]; omega
             have b49 : ((n : Int) == 49) = false := by rw [beq_eq_false_iff_ne]; omega
             have b56 : ((n : Int) == 56) = true := by rw [beq_iff_eq]; omega
             have b70 : ((n : Int) == 70) = false := by rw [beq_eq_false_iff_ne]; omega
             have b100 : ((n : Int) == 100) = false := by rw [beq_eq_false_iff_ne]; omega
             have b39 : ((n : Int) == 39) = false := by rw [beq_eq_false_iff_ne]; omega
             clear hc h39 hne
             go_wp2
             go_roundw
             case rel => exact ⟨n + 1, _, by omega, by omega, by go_num, hM3, by rw [hS.out]; exact hown3, hEb3⟩
             case measure => simp [intOf]; omega
           · have b2 : ((n : Int) == 2) = false := by rw [beq_eq_false_iff_ne]; omega
             have b4 : ((n : Int) == 4) = false := by rw [beq_eq_false_iff_ne]; omega
             have b7 : ((n : Int) == 7) = false := by rw [beq_eq_false_iff_ne]; omega
             have b11 : ((n : Int) == 11) = false := by rw [beq_eq_false_iff_ne]; omega
             have b32 : ((n : Int) == 32) = false := by rw [beq_eq_false_iff_ne]; omega
             have b37 : ((n : Int) == 37) = false := by rw [beq_eq_false_iff_ne]; omega
             have b41 : ((n : Int) == 41) = false := by rw [beq_eq_false_iff_ne]; omega
             have b42 : ((n : Int) == 42) = false := by rw [beq_eq_false_iff_ne]; omega
             have b49 : ((n : Int) == 49) = false := by rw [beq_eq_false_iff_ne]; omega
             have b56 : ((n : Int) == 56) = false := by rw [beq_eq_false_iff_ne]; omega
             have b70 : ((n : Int) == 70) = true := by rw [beq_iff_eq]; omega
             have b100 : ((n : Int) == 100) = false := by rw [beq_eq_false_iff_ne]; omega
             have b39 : ((n : Int) == 39) = false := by rw [beq_eq_false_iff_ne]; omega
             clear hc h39 hne
             go_wp2
             go_roundw
             case rel => exact ⟨n + 1, _, by omega, by omega, by go_num, hM3, by rw [hS.out]; exact hown3, hEb3⟩
             case measure => simp [intOf]; omega
           · have b2 : ((n : Int) == 2) = false := by rw [beq_eq_false_iff_ne]; omega
             have b4 : ((n : Int) == 4) = false := by rw [beq_eq_false_iff_ne]; omega
             have b7 : ((n : Int) == 7) = false := by rw [beq_eq_false_iff_ne]; omega
             have b11 : ((n : Int) == 11) = false := by rw [beq_eq_false_iff_ne]; omega
             have b32 : ((n : Int) == 32) = false := by rw [beq_eq_false_iff_ne]; omega
             have b37 : ((n : Int) == 37) = false := by rw [beq_eq_false_iff_ne]; omega
             have b41 : ((n : Int) == 41) = false := by rw [beq_eq_false_iff_ne]; omega
             have b42 : ((n : Int) == 42) = false := by rw [beq_eq_false_iff_ne]; omega
             have b49 : ((n : Int) == 49) = false := by rw [beq_eq_false_iff_ne]; omega
             have b56 : ((n : Int) == 56) = false := by rw [beq_eq_false_iff_ne]; omega
             have b70 : ((n : Int) == 70) = false := by rw [beq_eq_false_iff_ne]; omega
             have b100 : ((n : Int) == 100) = true := by rw [beq_iff_eq]; omega
             have b39 : ((n : Int) == 39) = false := by rw [beq_eq_false_iff_ne]; omega
             clear hc h39 hne
             go_wp2
             go_roundw
             case rel => exact ⟨n + 1, _, by omega, by omega, by go_num, hM3, by rw [hS.out]; exact hown3, hEb3⟩
             case measure => simp [intOf]; omega
           · exact absurd hc h39
      · rw [if_neg hmem, List.append_nil] at hSu
        have hS := Lib.hid hSu
        have hno : (n : Int) ≠ 2 ∧ (n : Int) ≠ 4 ∧ (n : Int) ≠ 7 ∧ (n : Int) ≠ 11 ∧ (n : Int) ≠ 32 ∧ (n : Int) ≠ 37 ∧ (n : Int) ≠ 41 ∧ (n : Int) ≠ 42 ∧ (n : Int) ≠ 49 ∧ (n : Int) ≠ 56 ∧ (n : Int) ≠ 70 ∧ (n : Int) ≠ 100 ∧ (n : Int) ≠ 39 := by
         refine ⟨?_, ?_, ?_, ?_, ?_, ?_, ?_, ?_, ?_, ?_, ?_, ?_, ?_⟩ <;> (intro e; exact hmem (by rw [e]; decide))
        obtain ⟨e2, e4, e7, e11, e32, e37, e41, e42, e49, e56, e70, e100, e39⟩ := hno
        have b2 : ((n : Int) == 2) = false := by rw [beq_eq_false_iff_ne]; exact e2
        have b4 : ((n : Int) == 4) = false := by rw [beq_eq_false_iff_ne]; exact e4
        have b7 : ((n : Int) == 7) = false := by rw [beq_eq_false_iff_ne]; exact e7
        have b11 : ((n : Int) == 11) = false := by rw [beq_eq_false_iff_ne]; exact e11
        have b32 : ((n : Int) == 32) = false := by rw [beq_eq_false_iff_ne]; exact e32
        have b37 : ((n : Int) == 37) = false := by rw [beq_eq_false_iff_ne]; exact e37
        have b41 : ((n : Int) == 41) = false := by rw [beq_eq_false_iff_ne]; exact e41
        have b42 : ((n : Int) == 42) = false := by rw [beq_eq_false_iff_ne]; exact e42
        have b49 : ((n : Int) == 49) = false := by rw [beq_eq_false_iff_ne]; exact e49
        have b56 : ((n : Int) == 56) = false := by rw [beq_eq_false_iff_ne]; exact e56
        have b70 : ((n : Int) == 70) = false := by rw [beq_eq_false_iff_ne]; exact e70
        have b100 : ((n : Int) == 100) = false := by rw [beq_eq_false_iff_ne]; exact e100
        have b39 : ((n : Int) == 39) = false := by rw [beq_eq_false_iff_ne]; exact e39
        clear hSu hmem e2 e4 e7 e11 e32 e37 e41 e42 e49 e56 e70 e100 e39
        generalize getS (n : Int) es = sv at *
        generalize getB (n : Int) es = gb at *
        generalize acR es code n = acc at *
        go_wp2
        go_roundw
        case rel => exact ⟨n + 1, _, by omega, by omega, by go_num, hM3, by rw [hS.out]; exact hown3, hEb3⟩
        case measure => simp [intOf]; omega
    · obtain rfl : n = 101 := by omega
      rw [acR_end] at hown
      have m0 := hMr.cell 0
      have m1 := hMr.cell 1
      have q0 := hB2.cell 0
      have q1 := hB2.cell 1
      have k0 := hB2.fz 0
      have k1 := hB2.fz 1
      have ql := hB2.lt
      have ml := hMr.lt
      simp at m0 m1 q0 q1
      generalize repK es code 13 = acc at *
      have hown3 := Lib.hid hown
      obtain ⟨vp, vc, rfl⟩ := owns_form hown
      clear hown
      go_wp2
      refine bodyPost_ret (v := .tuple #[msgAgg (ty + 10) (.slice vp acc.length vc), .int .i64 0]) ?_ rfl ⟨.slice vp acc.length vc, by rw [hD.out.1, hD.out.2.1], ?_, ?_⟩
      · simp [results, Tryz.results11, go_sem, msgAgg, q0, q1]
      · rw [hD.out.2.2]
        exact ⟨_, owns_set (owns_set hown3.out (by omega)) (by omega)⟩
      · exact (hEw.setCell (by simp) _).setCell (by simp) _
end Go.Proofs.YtkggloeaojkhaaaGreatDoor
