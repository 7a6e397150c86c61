/- Contract of message.insert (walk). -/
import Derived.Test.YthokhncdpfaifaaGreatDoorMsgB
namespace Go.Proofs.YthokhncdpfaifaaGreatDoor
open Go.RowKit
set_option maxRecDepth 8000 in
set_option maxHeartbeats 2000000 in
theorem insert_some (c : Nat) (cap : Value) (p : Int → Bool) (es : List El) (n : Int) (s : ByteArray) (g cp : Nat) (cur : Array Value) (w : World) (hb : w.heap[g]? = some (.cells cur 41 (0, 0))) (hx : cur.toList.take (es.length * 2) = elCells es) (hlc : es.length ≤ cp) (hcp : cp ≤ maxLen) (hl : es.length ≤ 1000000)
    (hcf : ∀ (args : Array Value) (w : World), (callFunc c args).run Tryz.prog w = .ok (.enter c args) w)
    (hcl : ∀ wr, Ext w wr → ∀ (n : Int) (s : ByteArray), Calls Tryz.prog c #[.agg #[.int .i64 n, .string s], cap] wr (OneV (.bool (p n)) wr)) :
    Calls Tryz.prog 62 #[.slice (some ⟨g, 0, none⟩) es.length cp, .agg #[.int .i64 n, .string s], .func (.func c) #[] #[cap]] w (ElemsPost (insL p (n, s) es) w) := by
  unfold maxLen at hcp
  have hEl : Elems w (.slice (some ⟨g, 0, none⟩) es.length cp) es := by
    refine ⟨_, cp, rfl, fun _ => ⟨g, 0, rfl, fun i hi => ?_⟩⟩
    have hc := elCells_at es i hi
    rw [← hx, List.getElem?_take, if_pos (by omega), List.getElem?_take, if_pos (by omega)] at hc
    unfold World.cell?
    simp only [hb, Nat.zero_add]
    exact ⟨by simpa using hc.1, by simpa using hc.2⟩
  have hHb := Lib.hid hb
  have hHx := Lib.hid hx
  have hHe := Lib.hid hEl
  have hC := Lib.hid hcl
  have hgs : g < w.heap.size := (Array.getElem?_eq_some_iff.1 hb).1
  clear hb hx hEl hcl
  obtain ⟨i0, hi, hz0, hz1, hz2⟩ := info_parts infoEl
  have hI := Lib.hid hi
  have hZ0 := Lib.hid hz0
  have hZ1 := Lib.hid hz1
  have hZ2 := Lib.hid hz2
  clear hi hz0 hz1 hz2
  obtain ⟨k, hk, hins, hfi⟩ := ins_key p es (n, s)
  have hIns := Lib.hid hins
  clear hins
  go_enter Tryz.func62, Tryz.ntmps62
  go_wp2_with fail
  refine (mfind_any c cap _ p es _ (hHe.out.ext ((Ext.refl w).alloc _)) hl hcf (fun wr hE n s => hC.out wr (((Ext.refl w).alloc _).trans hE) n s)).mono ?_
  rintro e w1 ⟨rfl, hE1⟩
  have hE2 : Ext w w1 := ((Ext.refl w).alloc _).trans hE1
  have hB := (Blk.new w _ _).ext hE1
  have z0 := hB.cell 0
  have z1 := hB.cell 1
  simp at z0 z1
  have hs2 := hE2.size
  have hlt := hB.lt
  have hb1 := Lib.hid ((hE2.block g hgs).trans hHb.out)
  clear hE1 hB hC hHe
  rcases hfi with hfi | ⟨hfi, hke⟩
  · rw [hfi]
    clear hfi
    go_wp2_with (at_make; refine wpList_make_own _ rfl _ _ 22 rfl w.heap.size 41 i0 (.agg #[.int .i64 0, .string ⟨#[]⟩]) 2 Tryz.underlying22 hI.out hZ0.out hZ1.out _ _ _ (es.length + 1) rfl rfl (by simp) ?_ ?_ ?_ ?_)
    · rw [hZ2.out]; omega
    · unfold maxLen; omega
    · omega
    intro w2 hown2 hgrow2
    have hb2 : Below w1.heap.size w1 w2 := Below.grown (Below.refl _ _) hgrow2 (Nat.le_refl _) (fun k hk => by cases hk)
    clear hgrow2
    have hz2 := hb2.size
    go_wp2_with (at_builtin; refine wpList_append_fits_any _ rfl _ _ 22 rfl w.heap.size 41 i0 2 Tryz.underlying22 hI.out hZ1.out w1.heap.size 0 (es.length + 1) [] rfl hown2 (some ⟨g, 0, none⟩) k cp (elCells (es.take k)) rfl ?_ ?_ ?_ ?_ ?_ ?_)
    · rw [elCells_len, List.length_take, Nat.min_eq_left hk]
    · intro h; cases h
    · intro ad had j u hu
      cases had
      have := row_part (w := w2) (g := g) ((hb2.block g (by omega)).trans hb1.out) hHx.out 0 k (by omega) j u (by simpa using hu)
      simpa using this
    · exact fun u hu => elCells_one u _ hu
    · omega
    intro w3 hown3 hgrow3
    have hb3 : Below w1.heap.size w1 w3 := Below.grown hb2 hgrow3 hz2 (fun k hk => by cases hk; exact Nat.le_refl _)
    clear hgrow3 hown2 hb2
    have hz3 := hb3.size
    have u0 : w3.cell? ⟨w.heap.size, 0, none⟩ = some (.int .i64 n) := (hb3.cell (by simpa using hlt)).trans z0
    have u1 : w3.cell? ⟨w.heap.size, 1, none⟩ = some (.string s) := (hb3.cell (by simpa using hlt)).trans z1
    clear z0 z1
    have hown3 : w3.ownsRow w.heap.size 41 2 (.slice (some ⟨w1.heap.size, 0, none⟩) k (es.length + 1)) k (elCells (es.take k)) := by simpa using hown3
    go_wp2_with (at_builtin; refine wpList_append_fits _ rfl _ _ 22 rfl w.heap.size 41 i0 2 Tryz.underlying22 hI.out hZ1.out w1.heap.size k (es.length + 1) _ rfl (hown3.alloc _) ⟨w3.heap.size, 0, none⟩ 1 1 [.int .i64 n, .string s] rfl rfl ?_ ?_ ?_ ?_)
    · exact cell_two_new' _ _ _ _ _ rfl
    · intro u hu
      rcases List.mem_cons.1 hu with rfl | hu
      · rfl
      · rw [List.mem_singleton.1 hu]; rfl
    · omega
    intro w4 hown4 hgrow4
    have hb4 : Below w1.heap.size w1 w4 := Below.grown (Below.alloc hb3 hz3 _) hgrow4 (by simp; omega) (fun k hk => by cases hk; exact Nat.le_refl _)
    clear hgrow4 hown3 hb3
    have hz4 := hb4.size
    by_cases hck : cp = k
    · subst hck
      have hfin : w4.ownsRow w.heap.size 41 2 (.slice (some ⟨w1.heap.size, 0, none⟩) (cp + 1) (es.length + 1)) (insL p (n, s) es).length (elCells (insL p (n, s) es)) := by
        rw [hIns.out]
        have hlen : (es.take cp ++ (n, s) :: es.drop cp).length = cp + 1 := by simp; omega
        have hdr : es.drop cp = [] := List.drop_of_length_le (by omega)
        rw [hlen, hdr, elCells_append]
        exact hown4
      have hFin := Lib.hid hfin
      clear hfin
      go_wp2
      go_ret
      exact ⟨.slice (some ⟨w1.heap.size, 0, none⟩) (cp + 1) (es.length + 1), rfl, hFin.out, hE2.trans hb4⟩
    · go_wp2_with (at_builtin; refine wpList_append_fits_any _ rfl _ _ 22 rfl w.heap.size 41 i0 2 Tryz.underlying22 hI.out hZ1.out w1.heap.size (k + 1) (es.length + 1) _ rfl hown4 _ (es.length - k) (cp - k) (elCells (es.drop k)) rfl ?_ ?_ ?_ ?_ ?_ ?_)
      · rw [elCells_len, List.length_drop]
      · intro h; cases h
      · intro ad had j u hu
        have hj := (List.getElem?_eq_some_iff.1 hu).1
        rw [elCells_len, List.length_drop] at hj
        cases had
        exact row_part (w := w4) (g := g) ((hb4.block g (by omega)).trans hb1.out) hHx.out k (es.length - k) (by omega) j u (by rw [List.take_of_length_le (by rw [List.length_drop]; omega)]; exact hu)
      · exact fun u hu => elCells_one u _ hu
      · omega
      intro w5 hown5 hgrow5
      have hb5 : Below w1.heap.size w1 w5 := Below.grown hb4 hgrow5 hz4 (fun k hk => by cases hk; exact Nat.le_refl _)
      have hfin : w5.ownsRow w.heap.size 41 2 (.slice (some ⟨w1.heap.size, 0, none⟩) (k + 1 + (es.length - k)) (es.length + 1)) (insL p (n, s) es).length (elCells (insL p (n, s) es)) := by
        rw [hIns.out]
        have hlen : (es.take k ++ (n, s) :: es.drop k).length = k + 1 + (es.length - k) := by simp; omega
        have hcl : elCells (es.take k ++ (n, s) :: es.drop k) = elCells (es.take k) ++ [.int .i64 n, .string s] ++ elCells (es.drop k) := by
          rw [elCells_append, show ((n, s) :: es.drop k : List El) = [(n, s)] ++ es.drop k from rfl, elCells_append]; simp [elCells]
        rw [hlen, hcl]
        simpa using hown5
      have hFin := Lib.hid hfin
      clear hfin hown5 hgrow5
      go_wp2
      go_ret
      exact ⟨.slice (some ⟨w1.heap.size, 0, none⟩) (k + 1 + (es.length - k)) (es.length + 1), rfl, hFin.out, hE2.trans hb5⟩
  · rw [hfi]
    clear hfi
    subst hke
    go_wp2_with (at_make; refine wpList_make_own _ rfl _ _ 22 rfl w.heap.size 41 i0 (.agg #[.int .i64 0, .string ⟨#[]⟩]) 2 Tryz.underlying22 hI.out hZ0.out hZ1.out _ _ _ (es.length + 1) rfl rfl (by simp) ?_ ?_ ?_ ?_)
    · rw [hZ2.out]; omega
    · unfold maxLen; omega
    · omega
    intro w2 hown2 hgrow2
    have hb2 : Below w1.heap.size w1 w2 := Below.grown (Below.refl _ _) hgrow2 (Nat.le_refl _) (fun k hk => by cases hk)
    clear hgrow2
    have hz2 := hb2.size
    go_wp2_with (at_builtin; refine wpList_append_fits_any _ rfl _ _ 22 rfl w.heap.size 41 i0 2 Tryz.underlying22 hI.out hZ1.out w1.heap.size 0 (es.length + 1) [] rfl hown2 (some ⟨g, 0, none⟩) es.length cp (elCells (es.take es.length)) rfl ?_ ?_ ?_ ?_ ?_ ?_)
    · rw [elCells_len, List.length_take, Nat.min_eq_left hk]
    · intro h; cases h
    · intro ad had j u hu
      cases had
      have := row_part (w := w2) (g := g) ((hb2.block g (by omega)).trans hb1.out) hHx.out 0 es.length (by omega) j u (by simpa using hu)
      simpa using this
    · exact fun u hu => elCells_one u _ hu
    · omega
    intro w3 hown3 hgrow3
    have hb3 : Below w1.heap.size w1 w3 := Below.grown hb2 hgrow3 hz2 (fun k hk => by cases hk; exact Nat.le_refl _)
    clear hgrow3 hown2 hb2
    have hz3 := hb3.size
    have u0 : w3.cell? ⟨w.heap.size, 0, none⟩ = some (.int .i64 n) := (hb3.cell (by simpa using hlt)).trans z0
    have u1 : w3.cell? ⟨w.heap.size, 1, none⟩ = some (.string s) := (hb3.cell (by simpa using hlt)).trans z1
    clear z0 z1
    have hown3 : w3.ownsRow w.heap.size 41 2 (.slice (some ⟨w1.heap.size, 0, none⟩) es.length (es.length + 1)) es.length (elCells (es.take es.length)) := by simpa using hown3
    go_wp2_with (at_builtin; refine wpList_append_fits _ rfl _ _ 22 rfl w.heap.size 41 i0 2 Tryz.underlying22 hI.out hZ1.out w1.heap.size es.length (es.length + 1) _ rfl (hown3.alloc _) ⟨w3.heap.size, 0, none⟩ 1 1 [.int .i64 n, .string s] rfl rfl ?_ ?_ ?_ ?_)
    · exact cell_two_new' _ _ _ _ _ rfl
    · intro u hu
      rcases List.mem_cons.1 hu with rfl | hu
      · rfl
      · rw [List.mem_singleton.1 hu]; rfl
    · omega
    intro w4 hown4 hgrow4
    have hb4 : Below w1.heap.size w1 w4 := Below.grown (Below.alloc hb3 hz3 _) hgrow4 (by simp; omega) (fun k hk => by cases hk; exact Nat.le_refl _)
    clear hgrow4 hown3 hb3
    have hz4 := hb4.size
    have hfin : w4.ownsRow w.heap.size 41 2 (.slice (some ⟨w1.heap.size, 0, none⟩) (es.length + 1) (es.length + 1)) (insL p (n, s) es).length (elCells (insL p (n, s) es)) := by
      rw [hIns.out]
      have hlen : (es.take es.length ++ (n, s) :: es.drop es.length).length = es.length + 1 := by simp
      have hdr : es.drop es.length = [] := List.drop_of_length_le (by omega)
      rw [hlen, hdr, List.take_of_length_le (Nat.le_refl _), elCells_append]
      exact hown4
    have hFin := Lib.hid hfin
    clear hfin
    by_cases hck : cp = es.length
    · subst hck
      go_wp2
      go_ret
      exact ⟨.slice (some ⟨w1.heap.size, 0, none⟩) (es.length + 1) (es.length + 1), rfl, hFin.out, hE2.trans hb4⟩
    · go_wp2
      go_ret
      exact ⟨.slice (some ⟨w1.heap.size, 0, none⟩) (es.length + 1) (es.length + 1), rfl, hFin.out, hE2.trans hb4⟩
end Go.Proofs.YthokhncdpfaifaaGreatDoor
