/- Contracts of the reference's Without and With (walks). Written by gen/rwith.py. -/
import Derived.Test.YthokhncdpfaifaaGreatDoorMelp
import Derived.Test.YthokhncdpfaifaaGreatDoorMsgrr
namespace Go.Proofs.YthokhncdpfaifaaGreatDoor
open Go.RowKit
set_option maxRecDepth 8000 in
set_option maxHeartbeats 8000000 in
theorem rWithout_any (ty n : Int) (v : Value) (es : List El) (w : World) (hv : Elems w v es) (hl : es.length ≤ 1000000) :
    Calls Tryz.prog 29 #[msgAgg ty v, .int .i64 n] w (MsgGot ty (keepL (fun m => m != n) es) w) := by
  have hV := Lib.hid hv
  obtain ⟨q, cp, rfl⟩ := elems_form hv
  have hP := Lib.hid (elems_cells hv)
  clear hv
  obtain ⟨i0, hi, hz0, hz1, hz2⟩ := info_parts infoEl
  have hI := Lib.hid hi
  have hZ0 := Lib.hid hz0
  have hZ1 := Lib.hid hz1
  have hZ2 := Lib.hid hz2
  clear hi hz0 hz1 hz2
  unfold msgAgg
  go_enter Tryz.func29, Tryz.ntmps29
  go_wp2
  have hE0 : Ext w (((w.alloc (.cells #[.int .i64 ty, .slice q es.length cp] 24)).alloc (.cells #[.int .i64 0, .slice none 0 0] 24)).alloc (.cells #[.int .i64 ty, .slice none 0 0] 24)) := (by repeat (first | with_reducible exact Ext.refl _ | with_reducible exact hE0 | with_reducible exact hE | with_reducible refine Ext.alloc ?_ _ | with_reducible refine Ext.drewN ?_ _ | with_reducible refine Ext.drew ?_ | ((with_reducible refine Ext.setCell ?_ ?side _); (case side => first | exact Nat.le_refl _ | (simp; done) | (simp; omega)))))
  have hA1 := ((Blk.new w #[.int .i64 ty, .slice q es.length cp] 24).alloc (.cells #[.int .i64 0, .slice none 0 0] 24)).alloc (.cells #[.int .i64 ty, .slice none 0 0] 24)
  have hA2 : Blk (((w.alloc (.cells #[.int .i64 ty, .slice q es.length cp] 24)).alloc (.cells #[.int .i64 0, .slice none 0 0] 24)).alloc (.cells #[.int .i64 ty, .slice none 0 0] 24)) (w.heap.size + 1) #[.int .i64 0, .slice none 0 0] 24 := (Blk.new' _ _ _ _ (by simp)).alloc _
  have hA3 : Blk (((w.alloc (.cells #[.int .i64 ty, .slice q es.length cp] 24)).alloc (.cells #[.int .i64 0, .slice none 0 0] 24)).alloc (.cells #[.int .i64 ty, .slice none 0 0] 24)) (w.heap.size + 1 + 1) #[.int .i64 ty, .slice none 0 0] 24 := Blk.new' _ _ _ _ (by simp)
  go_loopw [6] (fun i wr => ∃ (k : Nat) (vv : Value), k ≤ es.length ∧ i = .int .i64 k ∧ Blk wr (w.heap.size + 1 + 1) #[.int .i64 ty, vv] 24 ∧ wr.ownsRow (((w.alloc (.cells #[.int .i64 ty, .slice q es.length cp] 24)).alloc (.cells #[.int .i64 0, .slice none 0 0] 24)).alloc (.cells #[.int .i64 ty, .slice none 0 0] 24)).heap.size 41 2 vv (keepL (fun m => m != n) (es.take k)).length (elCells (keepL (fun m => m != n) (es.take k))) ∧ ExtBut (w.heap.size + 1 + 1) (((w.alloc (.cells #[.int .i64 ty, .slice q es.length cp] 24)).alloc (.cells #[.int .i64 0, .slice none 0 0] 24)).alloc (.cells #[.int .i64 ty, .slice none 0 0] 24)) wr) (fun i _ => es.length - (intOf i).toNat)
  case atStart => exact ⟨0, .slice none 0 0, by omega, rfl, hA3, ⟨rfl, Or.inl ⟨rfl, rfl⟩⟩, ExtBut.refl _ _⟩
  case round =>
    obtain ⟨k, vv, hk, rfl, hMr, hown, hEb⟩ := hrel
    generalize hW : (((w.alloc (.cells #[.int .i64 ty, .slice q es.length cp] 24)).alloc (.cells #[.int .i64 0, .slice none 0 0] 24)).alloc (.cells #[.int .i64 ty, .slice none 0 0] 24)) = w0 at *
    have hW0 : w.heap.size + 1 + 1 < w0.heap.size := hA3.lt
    clear hW
    have hEw : Ext w wr := ExtBut.after hE0 hEb (by omega)
    have hB1 := hA1.but hEb (by omega)
    have hB2 := hA2.but hEb (by omega)
    have hsz0 := hEb.size
    have z0 := hB1.cell 0
    have z1 := hB1.cell 1
    simp at z0 z1
    have hKl := keep_len (fun m => m != n) es k
    have m0 := hMr.cell 0
    have m1 := hMr.cell 1
    have g0 := hMr.fz 0
    have g1 := hMr.fz 1
    have ml := hMr.lt
    simp at m0 m1
    by_cases hlt : k < es.length
    · have hS := Lib.hid (keep_snoc (fun m => m != n) es k hlt)
      obtain ⟨b, off, rfl, hcs⟩ := hP.out (by omega)
      have c0 := hEw.get (hcs k hlt).1
      have c1 := hEw.get (hcs k hlt).2
      clear hcs
      generalize hx : es.getD k elD = x at *
      obtain ⟨m, s⟩ := x
      clear hx
      generalize keepL (fun m => m != n) (es.take k) = acc at *
      obtain ⟨vp, vc, rfl⟩ := owns_form hown
      by_cases hm : m = n
      · have hmb : (m != n) = false := by simpa using hm
        have hM := Lib.hid hmb
        clear hm
        go_wp2
        go_roundw
        case rel => exact ⟨k + 1, _, by omega, by go_num, hMr, by rw [hS.out, hM.out]; simpa using hown, hEb⟩
        case measure => simp [intOf]; omega
      · have hmb : (m != n) = true := by simpa using hm
        have hM := Lib.hid hmb
        clear hm
        go_wp2
        go_region_law ((refine step_append_lies _ (by rfl) _ _ _ (by rfl) w0.heap.size 41 i0 (.agg #[.int .i64 0, .string ⟨#[]⟩]) 2 24 Tryz.underlying22 hI.out hZ0.out hZ1.out hZ2.out rfl (by omega) (.slice vp acc.length vc) acc.length (elCells acc) (by rfl) (by first | exact (hown.alloc _).drew | exact hown.alloc _) ⟨wr.heap.size, 0, none⟩ 1 1 [.int .i64 m, .string s] (by rfl) (by rfl) (by first | exact cell_two_new' _ _ _ _ _ rfl) (two_one _ _) (by omega) (by unfold maxLen; omega) (by omega) (by simp; omega) (wr.heap.size + 1) (by simp) ?_; intro gg cap w5 hown5 hgrow5 hat5 hgl5; have hgrow5 := grown_undrew hgrow5; have hM5 : Blk w5 (w.heap.size + 1 + 1) #[.int .i64 ty, .slice vp acc.length vc] 24 := Blk.grown (hMr.alloc (.cells #[.int .i64 m, .string s] 41)) hgrow5 (fun e => by have := (hown.lt _ e.symm).1; omega); have s1 := hM5.cell 1; have s2 := hM5.fz 1; have s3 := hM5.lt; simp at s1))
        all_goals
          go_wp2
          have hEb5 : ExtBut (w.heap.size + 1 + 1) w0 w5 := ExtBut.grown (b := wr.alloc (.cells #[.int .i64 m, .string s] 41)) (hEb.alloc _) hgrow5 (fun k hk => (hown.lt k hk).1)
          go_roundw
          case rel => exact ⟨k + 1, _, by omega, by go_num, hM5.set 1 _, by rw [hS.out, hM.out, if_pos rfl, elCells_snoc]; simpa using owns_set hown5 (by omega), hEb5.setCell 1 _⟩
          case measure => simp [intOf]; omega
    · have hkk : es.take k = es := List.take_of_length_le (by omega)
      rw [hkk] at hown
      have q0 := hB2.cell 0
      have q1 := hB2.cell 1
      have k0 := hB2.fz 0
      have k1 := hB2.fz 1
      have ql := hB2.lt
      simp at q0 q1
      generalize hacc : keepL (fun m => m != n) es = acc at *
      have hacc := Lib.hid hacc
      have hown3 := Lib.hid hown
      obtain ⟨vp, vc, rfl⟩ := owns_form hown
      clear hown hKl
      go_wp2
      refine bodyPost_ret (v := msgAgg ty (.slice vp acc.length vc)) ?_ rfl ⟨.slice vp acc.length vc, rfl, ?_, ?_⟩
      · simp [results, Tryz.results29, go_sem, msgAgg, q0, q1]
      · rw [hacc.out]; exact elems_of_owns (owns_set (owns_set hown3.out (by omega)) (by omega))
      · exact (hEw.setCell (by simp) _).setCell (by simp) _
def RWithPost (ty n : Int) (val : ByteArray) (es : List El) (w : World) (e : Ending) (w' : World) : Prop :=
  (chkC n val ≠ 0 ∧ e = .returned (.tuple #[msgAgg 0 (.slice none 0 0), .int .i64 (chkC n val)]) ∧ Ext w w') ∨
  (chkC n val = 0 ∧ ∃ v, e = .returned (.tuple #[msgAgg ty v, .int .i64 0]) ∧ Elems w' v (rwL n val es) ∧ Ext w w')
set_option maxRecDepth 8000 in
set_option maxHeartbeats 16000000 in
theorem rWith_any (ty n : Int) (val : ByteArray) (v : Value) (es : List El) (w : World) (hv : Elems w v es) (hl : es.length ≤ 100000) (hvs : val.size ≤ 1000000) :
    Calls Tryz.prog 30 #[msgAgg ty v, .int .i64 n, .string val] w (RWithPost ty n val es w) := by
  have hV := Lib.hid hv
  obtain ⟨q, cp, rfl⟩ := elems_form hv
  have hP := Lib.hid (elems_cells hv)
  clear hv
  obtain ⟨i0, hi, hz0, hz1, hz2⟩ := info_parts infoEl
  have hI := Lib.hid hi
  have hZ0 := Lib.hid hz0
  have hZ1 := Lib.hid hz1
  have hZ2 := Lib.hid hz2
  clear hi hz0 hz1 hz2
  unfold msgAgg
  go_enter Tryz.func30, Tryz.ntmps30
  go_wp2_with fail
  refine (rCheckF n val _ hvs).mono ?_
  rintro e w1 ⟨rfl, hE1⟩
  have hA0 := ((Blk.new w #[.int .i64 ty, .slice q es.length cp] 24).alloc (.cells #[.int .i64 0, .slice none 0 0] 24)).ext hE1
  have hA1 := (Blk.new' (w.alloc (.cells #[.int .i64 ty, .slice q es.length cp] 24)) #[.int .i64 0, .slice none 0 0] 24 (w.heap.size + 1) (by simp)).ext hE1
  have hE01 : Ext w w1 := (((Ext.refl w).alloc _).alloc _).trans hE1
  clear hE1
  have z0 := hA0.cell 0
  have z1 := hA0.cell 1
  have r0 := hA1.cell 0
  have r1 := hA1.cell 1
  have f0 := hA1.fz 0
  have f1 := hA1.fz 1
  have rl := hA1.lt
  simp at z0 z1 r0 r1
  by_cases hz : chkC n val = 0
  · have hZ := Lib.hid hz
    rw [hz]
    clear hz
    go_wp2
    have hC0 := hA0.alloc (.cells #[.int .i64 ty, .slice none 0 0] 24)
    have hC1 := hA1.alloc (.cells #[.int .i64 ty, .slice none 0 0] 24)
    have hCO := Blk.new w1 #[.int .i64 ty, .slice none 0 0] 24
    have hE0 : Ext w (w1.alloc (.cells #[.int .i64 ty, .slice none 0 0] 24)) := hE01.alloc _
    obtain ⟨OB, hOB⟩ : ∃ OB, OB = w1.heap.size := ⟨_, rfl⟩
    rw [← hOB] at hCO
    have hOBw : w.heap.size + 1 < OB := by rw [hOB]; exact rl
    rw [← hOB]
    clear hA0 hA1 z0 z1 r0 r1 f0 f1 rl hE01
    generalize hW : w1.alloc (.cells #[.int .i64 ty, .slice none 0 0] 24) = w0 at *
    have hW0 : OB < w0.heap.size := hCO.lt
    clear hW hOB
    go_loopw [10, 11] (fun d i wr => ∃ (k : Nat) (vv : Value), k ≤ es.length ∧ i = .int .i64 k ∧ d = .bool (rwSt n val (es.take k)).2 ∧ Blk wr OB #[.int .i64 ty, vv] 24 ∧ wr.ownsRow w0.heap.size 41 2 vv (rwSt n val (es.take k)).1.length (elCells (rwSt n val (es.take k)).1) ∧ ExtBut OB w0 wr) (fun _ i _ => es.length - (intOf i).toNat)
    case atStart => exact ⟨0, .slice none 0 0, by omega, rfl, rfl, hCO, ⟨rfl, Or.inl ⟨rfl, rfl⟩⟩, ExtBut.refl _ _⟩
    case round =>
      obtain ⟨k, vv, hk, rfl, rfl, hMr, hown, hEb⟩ := hrel
      have hEw : Ext w wr := ExtBut.after hE0 hEb (by omega)
      have hB0 := hC0.but hEb (by omega)
      have hB1 := hC1.but hEb (by omega)
      have hsz0 := hEb.size
      have z0 := hB0.cell 0
      have z1 := hB0.cell 1
      simp at z0 z1
      have hKl := rwSt_len n val es k hk
      have ml := hMr.lt
      by_cases hlt : k < es.length
      · have hS := Lib.hid (rwSt_snoc n val es k hlt)
        obtain ⟨b, off, rfl, hcs⟩ := hP.out (by omega)
        have c0 := hEw.get (hcs k hlt).1
        have c1 := hEw.get (hcs k hlt).2
        clear hcs
        generalize hx : es.getD k elD = x at *
        obtain ⟨m, s⟩ := x
        clear hx
        generalize rwSt n val (es.take k) = st at *
        obtain ⟨acc, d⟩ := st
        simp only at hown hKl
        have hownX := hown.alloc (.cells #[.int .i64 m, .string s] 41)
        have hMX := hMr.alloc (.cells #[.int .i64 m, .string s] 41)
        have hEbX := hEb.alloc (.cells #[.int .i64 m, .string s] 41)
        have hXX := Blk.new wr #[.int .i64 m, .string s] 41
        have m0 := hMr.cell 0
        have m1 := hMr.cell 1
        have g0 := hMr.fz 0
        have g1 := hMr.fz 1
        simp at m0 m1
        cases d with
        | true =>
          by_cases hm : m = n
          · have hmb : (m != n) = false := by simpa using hm
            have hM := Lib.hid hm
            clear hm
            go_wp2
            go_roundw
            case rel => exact ⟨k + 1, _, by omega, by go_num, by rw [hS.out]; simp [rwStep], hMX, by rw [hS.out]; simpa [rwStep, hM.out] using hownX, hEbX⟩
            case measure => simp [intOf]; omega
          · have hmb : (m != n) = true := by simpa using hm
            have hM := Lib.hid hm
            clear hm
            obtain ⟨vp5, vc5, rfl⟩ := owns_form hownX
            go_wp2_with (at_builtin; refine wpList_append_own _ rfl _ _ 22 rfl w0.heap.size 41 i0 (.agg #[.int .i64 0, .string ⟨#[]⟩]) 2 24 Tryz.underlying22 hI.out hZ0.out hZ1.out hZ2.out rfl (by decide) (.slice vp5 acc.length vc5) _ _ rfl (hownX.alloc _) ⟨wr.heap.size + 1, 0, none⟩ 1 1 [.int .i64 m, .string s] rfl rfl ?_ ?_ ?_ ?_ ?_ ?_)
            any_goals (first | exact ⟨rfl, rfl⟩ | (unfold maxLen; omega) | omega | exact cell_two_new' _ _ _ _ _ (by simp) | exact cell_two_new' _ _ _ _ _ rfl | exact two_one _ _ | (simp; omega))
            intro v5 w5 hown5 hgrow5 _
            have hM5 : Blk w5 OB #[.int .i64 ty, .slice vp5 acc.length vc5] 24 := Blk.grown (hMX.alloc (.cells #[.int .i64 m, .string s] 41)) hgrow5 (fun e => by have := (hownX.lt _ e.symm).1; omega)
            have hEb5 : ExtBut OB w0 w5 := ExtBut.grown (b := (wr.alloc (.cells #[.int .i64 m, .string s] 41)).alloc (.cells #[.int .i64 m, .string s] 41)) (hEbX.alloc _) hgrow5 (fun k hk => (hownX.lt k hk).1)
            have s15 := hM5.cell 1
            have s25 := hM5.fz 1
            have s35 := hM5.lt
            simp at s15
            obtain ⟨pp5, pc5, rfl⟩ := owns_form hown5
            go_wp2
            go_roundw
            case rel => exact ⟨k + 1, _, by omega, by go_num, by rw [hS.out]; simp [rwStep], hM5.set 1 _, by rw [hS.out]; simpa [rwStep, hM.out, elCells_snoc] using owns_set hown5 (by omega), hEb5.setCell 1 _⟩
            case measure => simp [intOf]; omega
        | false =>
          by_cases hge : n ≤ m
          · have hG := Lib.hid hge
            by_cases hm : m = n
            · have hmb : (m != n) = false := by simpa using hm
              have hM := Lib.hid hm
              clear hm
              obtain ⟨vp5, vc5, rfl⟩ := owns_form hownX
              go_wp2_with (at_builtin; refine wpList_append_own _ rfl _ _ 22 rfl w0.heap.size 41 i0 (.agg #[.int .i64 0, .string ⟨#[]⟩]) 2 24 Tryz.underlying22 hI.out hZ0.out hZ1.out hZ2.out rfl (by decide) (.slice vp5 acc.length vc5) _ _ rfl (hownX.alloc _) ⟨wr.heap.size + 1, 0, none⟩ 1 1 [.int .i64 n, .string val] rfl rfl ?_ ?_ ?_ ?_ ?_ ?_)
              any_goals (first | exact ⟨rfl, rfl⟩ | (unfold maxLen; omega) | omega | exact cell_two_new' _ _ _ _ _ (by simp) | exact cell_two_new' _ _ _ _ _ rfl | exact two_one _ _ | (simp; omega))
              intro v5 w5 hown5 hgrow5 _
              have hM5 : Blk w5 OB #[.int .i64 ty, .slice vp5 acc.length vc5] 24 := Blk.grown (hMX.alloc (.cells #[.int .i64 n, .string val] 41)) hgrow5 (fun e => by have := (hownX.lt _ e.symm).1; omega)
              have hEb5 : ExtBut OB w0 w5 := ExtBut.grown (b := (wr.alloc (.cells #[.int .i64 m, .string s] 41)).alloc (.cells #[.int .i64 n, .string val] 41)) (hEbX.alloc _) hgrow5 (fun k hk => (hownX.lt k hk).1)
              have s15 := hM5.cell 1
              have s25 := hM5.fz 1
              have s35 := hM5.lt
              simp at s15
              obtain ⟨pp5, pc5, rfl⟩ := owns_form hown5
              have hX5 := Blk.grown (hXX.alloc (.cells #[.int .i64 n, .string val] 41)) hgrow5 (fun e => by have := (hown.lt _ e.symm).2; omega)
              have x0 := hX5.cell 0
              have x1 := hX5.cell 1
              simp at x0 x1
              go_wp2
              go_roundw
              case rel => exact ⟨k + 1, _, by omega, by go_num, by rw [hS.out]; simp [rwStep, hG.out], hM5.set 1 _, by rw [hS.out]; simpa [rwStep, hM.out, hG.out, elCells_snoc] using owns_set hown5 (by omega), hEb5.setCell 1 _⟩
              case measure => simp [intOf]; omega
            · have hmb : (m != n) = true := by simpa using hm
              have hM := Lib.hid hm
              clear hm
              obtain ⟨vp5, vc5, rfl⟩ := owns_form hownX
              go_wp2_with (at_builtin; refine wpList_append_own _ rfl _ _ 22 rfl w0.heap.size 41 i0 (.agg #[.int .i64 0, .string ⟨#[]⟩]) 2 24 Tryz.underlying22 hI.out hZ0.out hZ1.out hZ2.out rfl (by decide) (.slice vp5 acc.length vc5) _ _ rfl (hownX.alloc _) ⟨wr.heap.size + 1, 0, none⟩ 1 1 [.int .i64 n, .string val] rfl rfl ?_ ?_ ?_ ?_ ?_ ?_)
              any_goals (first | exact ⟨rfl, rfl⟩ | (unfold maxLen; omega) | omega | exact cell_two_new' _ _ _ _ _ (by simp) | exact cell_two_new' _ _ _ _ _ rfl | exact two_one _ _ | (simp; omega))
              intro v5 w5 hown5 hgrow5 _
              have hM5 : Blk w5 OB #[.int .i64 ty, .slice vp5 acc.length vc5] 24 := Blk.grown (hMX.alloc (.cells #[.int .i64 n, .string val] 41)) hgrow5 (fun e => by have := (hownX.lt _ e.symm).1; omega)
              have hEb5 : ExtBut OB w0 w5 := ExtBut.grown (b := (wr.alloc (.cells #[.int .i64 m, .string s] 41)).alloc (.cells #[.int .i64 n, .string val] 41)) (hEbX.alloc _) hgrow5 (fun k hk => (hownX.lt k hk).1)
              have s15 := hM5.cell 1
              have s25 := hM5.fz 1
              have s35 := hM5.lt
              simp at s15
              obtain ⟨pp5, pc5, rfl⟩ := owns_form hown5
              have hX5 := Blk.grown (hXX.alloc (.cells #[.int .i64 n, .string val] 41)) hgrow5 (fun e => by have := (hown.lt _ e.symm).2; omega)
              have x0 := hX5.cell 0
              have x1 := hX5.cell 1
              simp at x0 x1
              have hown6 := owns_set (o := 1) (u := .slice pp5 (acc.length + 1) pc5) hown5 (show OB < w0.heap.size by omega)
              have hM6 := hM5.set 1 (.slice pp5 (acc.length + 1) pc5)
              have hEb6 := hEb5.setCell 1 (.slice pp5 (acc.length + 1) pc5)
              have hs5 := hEb5.size
              go_wp2_with (at_builtin; refine wpList_append_own _ rfl _ _ 22 rfl w0.heap.size 41 i0 (.agg #[.int .i64 0, .string ⟨#[]⟩]) 2 24 Tryz.underlying22 hI.out hZ0.out hZ1.out hZ2.out rfl (by decide) (.slice pp5 (acc.length + 1) pc5) _ _ rfl (hown6.alloc _) ⟨w5.heap.size, 0, none⟩ 1 1 [.int .i64 m, .string s] rfl rfl ?_ ?_ ?_ ?_ ?_ ?_)
              any_goals (first | exact ⟨rfl, rfl⟩ | (unfold maxLen; omega) | omega | exact cell_two_new' _ _ _ _ _ (by simp) | exact cell_two_new' _ _ _ _ _ rfl | exact two_one _ _ | (simp; omega))
              intro v7 w7 hown7 hgrow7 _
              have hM7 := Blk.grown (hM6.alloc (.cells #[.int .i64 m, .string s] 41)) hgrow7 (fun e => by have := (hown6.lt _ e.symm).1; omega)
              have hEb7 : ExtBut OB w0 w7 := ExtBut.grown (b := (w5.setCell ⟨OB, 1, none⟩ (.slice pp5 (acc.length + 1) pc5)).alloc (.cells #[.int .i64 m, .string s] 41)) (hEb6.alloc _) hgrow7 (fun k hk => (hown6.lt k hk).1)
              have s17 := hM7.cell 1
              have s27 := hM7.fz 1
              have s37 := hM7.lt
              simp at s17
              obtain ⟨pp7, pc7, rfl⟩ := owns_form hown7
              go_wp2
              go_roundw
              case rel => exact ⟨k + 1, .slice pp7 (acc.length + 1 + 1) pc7, by omega, by go_num, by rw [hS.out]; simp [rwStep, hG.out], by simpa using hM7.set 1 (.slice pp7 (acc.length + 1 + 1) pc7), by rw [hS.out]; simpa [rwStep, hM.out, hG.out, elCells_append, elCells] using owns_set (o := 1) (u := .slice pp7 (acc.length + 1 + 1) pc7) hown7 (show OB < w0.heap.size by omega), hEb7.setCell 1 _⟩
              case measure => simp [intOf]; omega
          · have hm : m ≠ n := by omega
            have hmb : (m != n) = true := by simpa using hm
            have hM := Lib.hid hm
            have hG := Lib.hid (eq_false hge)
            have hgb : decide (n ≤ m) = false := by simpa using hge
            clear hm
            obtain ⟨vp5, vc5, rfl⟩ := owns_form hownX
            go_wp2_with (at_builtin; refine wpList_append_own _ rfl _ _ 22 rfl w0.heap.size 41 i0 (.agg #[.int .i64 0, .string ⟨#[]⟩]) 2 24 Tryz.underlying22 hI.out hZ0.out hZ1.out hZ2.out rfl (by decide) (.slice vp5 acc.length vc5) _ _ rfl (hownX.alloc _) ⟨wr.heap.size + 1, 0, none⟩ 1 1 [.int .i64 m, .string s] rfl rfl ?_ ?_ ?_ ?_ ?_ ?_)
            any_goals (first | exact ⟨rfl, rfl⟩ | (unfold maxLen; omega) | omega | exact cell_two_new' _ _ _ _ _ (by simp) | exact cell_two_new' _ _ _ _ _ rfl | exact two_one _ _ | (simp; omega))
            intro v5 w5 hown5 hgrow5 _
            have hM5 : Blk w5 OB #[.int .i64 ty, .slice vp5 acc.length vc5] 24 := Blk.grown (hMX.alloc (.cells #[.int .i64 m, .string s] 41)) hgrow5 (fun e => by have := (hownX.lt _ e.symm).1; omega)
            have hEb5 : ExtBut OB w0 w5 := ExtBut.grown (b := (wr.alloc (.cells #[.int .i64 m, .string s] 41)).alloc (.cells #[.int .i64 m, .string s] 41)) (hEbX.alloc _) hgrow5 (fun k hk => (hownX.lt k hk).1)
            have s15 := hM5.cell 1
            have s25 := hM5.fz 1
            have s35 := hM5.lt
            simp at s15
            obtain ⟨pp5, pc5, rfl⟩ := owns_form hown5
            go_wp2
            go_roundw
            case rel => exact ⟨k + 1, _, by omega, by go_num, by rw [hS.out]; simp [rwStep, hG.out], hM5.set 1 _, by rw [hS.out]; simpa [rwStep, hM.out, hG.out, elCells_snoc] using owns_set hown5 (by omega), hEb5.setCell 1 _⟩
            case measure => simp [intOf]; omega
      · have hkk : es.take k = es := List.take_of_length_le (by omega)
        rw [hkk] at hown
        rw [hkk]
        have hL : rwL n val es = rwEnd n val (rwSt n val es) := rfl
        have hKl := rwSt_len n val es es.length (Nat.le_refl _)
        rw [List.take_length] at hKl
        generalize rwSt n val es = st at *
        obtain ⟨acc, d⟩ := st
        simp only at hown hKl
        have m0 := hMr.cell 0
        have m1 := hMr.cell 1
        have g0 := hMr.fz 0
        have g1 := hMr.fz 1
        have q0 := hB1.cell 0
        have q1 := hB1.cell 1
        have k0 := hB1.fz 0
        have k1 := hB1.fz 1
        have ql := hB1.lt
        simp at m0 m1 q0 q1
        cases d with
        | true =>
          have hL2 := Lib.hid (show rwL n val es = acc from hL)
          have hown3 := Lib.hid hown
          obtain ⟨vp, vc, rfl⟩ := owns_form hown
          clear hown hL
          go_wp2
          refine bodyPost_ret (v := .tuple #[msgAgg ty (.slice vp acc.length vc), .int .i64 0]) ?_ rfl (Or.inr ⟨hZ.out, .slice vp acc.length vc, rfl, ?_, ?_⟩)
          · simp [results, Tryz.results30, go_sem, msgAgg, q0, q1]
          · rw [hL2.out]; exact elems_of_owns (owns_set (owns_set hown3.out (by omega)) (by omega))
          · exact (hEw.setCell (by simp) _).setCell (by simp) _
        | false =>
          have hL2 := Lib.hid (show rwL n val es = acc ++ [(n, val)] from hL)
          clear hL
          obtain ⟨vp5, vc5, rfl⟩ := owns_form hown
          go_wp2_with (at_builtin; refine wpList_append_own _ rfl _ _ 22 rfl w0.heap.size 41 i0 (.agg #[.int .i64 0, .string ⟨#[]⟩]) 2 24 Tryz.underlying22 hI.out hZ0.out hZ1.out hZ2.out rfl (by decide) (.slice vp5 acc.length vc5) _ _ rfl (hown.alloc _) ⟨wr.heap.size, 0, none⟩ 1 1 [.int .i64 n, .string val] rfl rfl ?_ ?_ ?_ ?_ ?_ ?_)
          any_goals (first | exact ⟨rfl, rfl⟩ | (unfold maxLen; omega) | omega | exact cell_two_new' _ _ _ _ _ (by simp) | exact cell_two_new' _ _ _ _ _ rfl | exact two_one _ _ | (simp; omega))
          intro v5 w5 hown5 hgrow5 _
          have hM5 : Blk w5 OB #[.int .i64 ty, .slice vp5 acc.length vc5] 24 := Blk.grown (hMr.alloc (.cells #[.int .i64 n, .string val] 41)) hgrow5 (fun e => by have := (hown.lt _ e.symm).1; omega)
          have hEb5 : ExtBut OB w0 w5 := ExtBut.grown (b := (wr).alloc (.cells #[.int .i64 n, .string val] 41)) (hEb.alloc _) hgrow5 (fun k hk => (hown.lt k hk).1)
          have s15 := hM5.cell 1
          have s25 := hM5.fz 1
          have s35 := hM5.lt
          simp at s15
          obtain ⟨pp5, pc5, rfl⟩ := owns_form hown5
          have hR5 : Blk w5 (w.heap.size + 1) #[.int .i64 0, .slice none 0 0] 24 := Blk.grown (hB1.alloc (.cells #[.int .i64 n, .string val] 41)) hgrow5 (fun e => by have := (hown.lt _ e.symm).1; omega)
          have s05 := hM5.cell 0
          have t0 := hR5.cell 0
          have t1 := hR5.cell 1
          have t2 := hR5.fz 0
          have t3 := hR5.fz 1
          have t4 := hR5.lt
          simp at t0 t1 s05
          have hEw5 : Ext w w5 := ExtBut.after hE0 hEb5 (by omega)
          go_wp2
          refine bodyPost_ret (v := .tuple #[msgAgg ty (.slice pp5 (acc.length + 1) pc5), .int .i64 0]) ?_ rfl (Or.inr ⟨hZ.out, .slice pp5 (acc.length + 1) pc5, rfl, ?_, ?_⟩)
          · simp [results, Tryz.results30, go_sem, msgAgg, t0, t1]
          · rw [hL2.out]
            have h8 : ((((w5.setCell ⟨OB, 1, none⟩ (.slice pp5 (acc.length + 1) pc5)).setCell ⟨w.heap.size + 1, 0, none⟩ (.int .i64 ty)).setCell ⟨w.heap.size + 1, 1, none⟩ (.slice pp5 (acc.length + 1) pc5))).ownsRow w0.heap.size 41 2 (.slice pp5 (acc.length + 1) pc5) (acc ++ [(n, val)]).length (elCells (acc ++ [(n, val)])) := by
              simpa [elCells_snoc] using owns_set (o := 1) (u := .slice pp5 (acc.length + 1) pc5) (owns_set (o := 0) (u := .int .i64 ty) (owns_set (o := 1) (u := .slice pp5 (acc.length + 1) pc5) hown5 (show OB < w0.heap.size by omega)) (show w.heap.size + 1 < w0.heap.size by omega)) (show w.heap.size + 1 < w0.heap.size by omega)
            exact elems_of_owns h8
          · exact ((hEw5.setCell (by show w.heap.size ≤ OB; omega) _).setCell (by simp) _).setCell (by simp) _
  · have hzb : (chkC n val != 0) = true := by simpa using hz
    have hZ := Lib.hid hz
    clear hz
    go_wp2
    refine bodyPost_ret (v := .tuple #[msgAgg 0 (.slice none 0 0), .int .i64 (chkC n val)]) ?_ rfl (Or.inl ⟨hZ.out, rfl, (hE01.setCell (by simp) _).setCell (by simp) _⟩)
    simp [results, Tryz.results30, go_sem, msgAgg, r0, r1]
end Go.Proofs.YthokhncdpfaifaaGreatDoor
