/- Slices of elements that a call makes; contract of message.keep (walk). Contract of message.Without (walk). Contract of message.insert (walk). -/
import Derived.Test.YthokhncdpfaifaaGreatDoorMsgA
import Derived.OwnWalk
import Derived.Laws.OwnMore
import Derived.Deep.RegionHeld3
namespace Go.Proofs.YthokhncdpfaifaaGreatDoor
open Go.RowKit
/-- The cells of elements. -/
def elCells (es : List El) : List Value := es.flatMap fun x => [.int .i64 x.1, .string x.2]
theorem elCells_snoc (es : List El) (x : El) : elCells (es ++ [x]) = elCells es ++ [.int .i64 x.1, .string x.2] := by simp [elCells]
theorem elCells_len (es : List El) : (elCells es).length = es.length * 2 := by
  induction es with
  | nil => rfl
  | cons x l ih => simp only [elCells, List.flatMap_cons, List.length_append, List.length_cons, List.length_nil] at ih ⊢; omega
theorem elCells_at (es : List El) (i : Nat) (hi : i < es.length) : (elCells es)[i * 2]? = some (.int .i64 (es.getD i elD).1) ∧ (elCells es)[i * 2 + 1]? = some (.string (es.getD i elD).2) := by
  induction es generalizing i with
  | nil => cases hi
  | cons x l ih =>
    cases i with
    | zero => exact ⟨rfl, rfl⟩
    | succ i =>
      have := ih i (by simpa using hi)
      have e : elCells (x :: l) = [.int .i64 x.1, .string x.2] ++ elCells l := rfl
      rw [e, List.getElem?_append_right (by simp; omega), List.getElem?_append_right (by simp; omega)]
      simpa [show (i + 1) * 2 - 2 = i * 2 by omega, show (i + 1) * 2 + 1 - 2 = i * 2 + 1 by omega] using this
theorem infoEl : (Tryz.prog.info? 41).map (fun i => (i.zero, i.size, i.bytes)) = some (some (.agg #[.int .i64 0, .string ⟨#[]⟩]), 2, 24) := by kernel_rfl
theorem elems_of_owns {w : World} {B : Nat} {v : Value} {es : List El} (h : w.ownsRow B 41 2 v es.length (elCells es)) : Elems w v es := by
  obtain ⟨_, h | ⟨g, cap, cur, rfl, _, hb, _, _, _, hx⟩⟩ := h
  · exact ⟨none, 0, by rw [h.1, h.2], fun h0 => absurd h.2 (by omega)⟩
  · refine ⟨some ⟨g, 0, none⟩, cap, rfl, fun _ => ⟨g, 0, rfl, fun i hi => ?_⟩⟩
    have hc := elCells_at es i hi
    rw [← hx] at hc
    rw [List.getElem?_take, if_pos (by omega), List.getElem?_take, if_pos (by omega)] at hc
    unfold World.cell?
    simp only [hb, Nat.zero_add]
    exact ⟨by simpa using hc.1, by simpa using hc.2⟩
theorem owns_ext {w w' : World} {B : Nat} {T : TypeId} {sz : Nat} {v : Value} {n : Nat} {xs : List Value} (h : w.ownsRow B T sz v n xs) (k : Ext w w') : w'.ownsRow B T sz v n xs := by
  obtain ⟨h1, h | ⟨g, cap, cur, hv, hg, hb, h2⟩⟩ := h
  · exact ⟨h1, Or.inl h⟩
  · refine ⟨h1, Or.inr ⟨g, cap, cur, hv, hg, ?_, h2⟩⟩
    rw [k.block g (Array.getElem?_eq_some_iff.1 hb).1, hb]
theorem owns_set {w : World} {B C o : Nat} {T : TypeId} {sz : Nat} {v u : Value} {n : Nat} {xs : List Value} (h : w.ownsRow B T sz v n xs) (hC : C < B) : (w.setCell ⟨C, o, none⟩ u).ownsRow B T sz v n xs := by
  obtain ⟨h1, h | ⟨g, cap, cur, hv, hg, hb, h2⟩⟩ := h
  · exact ⟨h1, Or.inl h⟩
  · refine ⟨h1, Or.inr ⟨g, cap, cur, hv, hg, ?_, h2⟩⟩
    rw [Below.heap_setCell _ _ _ _ (show g ≠ C by omega), hb]
theorem owns_form {w : World} {B : Nat} {T : TypeId} {sz : Nat} {v : Value} {n : Nat} {xs : List Value} (h : w.ownsRow B T sz v n xs) : ∃ p c, v = .slice p n c := by
  obtain ⟨_, h | ⟨g, cap, cur, hv, _⟩⟩ := h
  · exact ⟨none, 0, by rw [h.1, h.2]⟩
  · exact ⟨_, _, hv⟩
/-- The result is a slice of new elements. -/
def ElemsPost (es : List El) (w : World) (e : Ending) (w' : World) : Prop := ∃ v, e = .returned v ∧ w'.ownsRow w.heap.size 41 2 v es.length (elCells es) ∧ Ext w w'
theorem cell_two_new' (w : World) (a b : Value) (T : TypeId) (n : Nat) (h : n = w.heap.size) : ∀ j u, [a, b][j]? = some u → (w.alloc (.cells #[a, b] T)).cell? ((⟨n, 0, none⟩ : Addr).add j) = some u := by
  subst h
  intro j u hu
  have hB := Blk.new w #[a, b] T
  cases j with
  | zero => exact (hB.cell 0).trans hu
  | succ j =>
    cases j with
    | zero => exact (hB.cell 1).trans hu
    | succ j => simp at hu
def keepL (p : Int → Bool) (es : List El) : List El := es.filter fun x => p x.1
theorem keep_snoc (p : Int → Bool) (es : List El) (k : Nat) (hk : k < es.length) : keepL p (es.take (k + 1)) = keepL p (es.take k) ++ if p (es.getD k elD).1 then [es.getD k elD] else [] := by
  unfold keepL
  rw [List.take_succ_eq_append_getElem hk, List.filter_append]
  simp only [List.getD_eq_getElem?_getD, List.getElem?_eq_getElem hk, Option.getD_some, List.filter_cons, List.filter_nil]
theorem keep_len (p : Int → Bool) (es : List El) (k : Nat) : (keepL p (es.take k)).length ≤ es.length := by
  unfold keepL
  have h1 := List.length_filter_le (fun x : El => p x.1) (es.take k)
  have h2 : (es.take k).length ≤ es.length := by rw [List.length_take]; omega
  omega
set_option maxRecDepth 8000 in
set_option maxHeartbeats 2000000 in
theorem keep_any (c : Nat) (cap v : Value) (p : Int → Bool) (es : List El) (w : World) (hv : Elems w v es) (hl : es.length ≤ 1000000)
    (hcf : ∀ (args : Array Value) (w : World), (callFunc c args).run Tryz.prog w = .ok (.enter c args) w)
    (hcl : ∀ wr, Ext w wr → ∀ (n : Int) (s : ByteArray), Calls Tryz.prog c #[.agg #[.int .i64 n, .string s], cap] wr (OneV (.bool (p n)) wr)) :
    Calls Tryz.prog 64 #[v, .func (.func c) #[] #[cap]] w (ElemsPost (keepL p es) w) := by
  obtain ⟨q, cp, rfl, hp⟩ := hv
  have hP := Lib.hid hp
  have hC := Lib.hid hcl
  clear hp hcl
  obtain ⟨i0, hi, hz0, hz1, hz2⟩ := info_parts infoEl
  have hI := Lib.hid hi
  have hZ0 := Lib.hid hz0
  have hZ1 := Lib.hid hz1
  have hZ2 := Lib.hid hz2
  clear hi hz0 hz1 hz2
  go_enter Tryz.func64, Tryz.ntmps64
  go_wp2_with (at_make; refine wpList_make_own _ rfl _ _ 22 rfl w.heap.size 41 i0 (.agg #[.int .i64 0, .string ⟨#[]⟩]) 2 Tryz.underlying22 hI.out hZ0.out hZ1.out _ _ _ es.length rfl rfl rfl ?_ ?_ ?_ ?_)
  · rw [hZ2.out]; omega
  · unfold maxLen; omega
  · exact Nat.le_refl _
  intro w2 hown hgrow
  have hE : Ext w w2 := Below.grown (Below.refl _ _) hgrow (Nat.le_refl _) (fun k hk => by cases hk)
  clear hgrow
  go_wp2
  go_loopw [5, 13] (fun u i wr => ∃ k : Nat, k ≤ es.length ∧ i = .int .i64 k ∧ wr.ownsRow w.heap.size 41 2 u (keepL p (es.take k)).length (elCells (keepL p (es.take k))) ∧ Ext w wr) (fun _ i _ => es.length - (intOf i).toNat)
  case atStart => exact ⟨0, by omega, rfl, hown, hE⟩
  case round =>
    obtain ⟨k, hk, rfl, hownr, hEr⟩ := hrel
    by_cases hlt : k < es.length
    · obtain ⟨b, off, rfl, hcs⟩ := hP.out (by omega)
      have c0 := hEr.get (hcs k hlt).1
      have c1 := hEr.get (hcs k hlt).2
      clear hcs
      have hS := Lib.hid (keep_snoc p es k hlt)
      have hKl := keep_len p es k
      generalize hx : es.getD k elD = x at *
      obtain ⟨n, s⟩ := x
      generalize keepL p (es.take k) = ks at *
      clear hx
      go_wp2_with fail
      refine (hC.out _ (hEr.alloc _) n s).mono ?_
      rintro e w3 ⟨rfl, hE3⟩
      have hB := (Blk.new wr _ _).ext hE3
      have z0 := hB.cell 0
      have z1 := hB.cell 1
      simp at z0 z1
      have hE4 := (hEr.alloc _).trans hE3
      have hs4 := hE4.size
      have hlt4 := hB.lt
      have hown4 := owns_ext (hownr.alloc (.cells #[.int .i64 n, .string s] 41)) hE3
      clear hE3 hB hownr hEr
      cases hpn : p n with
      | true =>
        have hpn := Lib.hid hpn
        go_wp2_with (at_builtin; refine wpList_append_own _ rfl _ _ 22 rfl w.heap.size 41 i0 (.agg #[.int .i64 0, .string ⟨#[]⟩]) 2 24 Tryz.underlying22 hI.out hZ0.out hZ1.out hZ2.out rfl (by decide) _ _ _ rfl (hown4.alloc _) ⟨w3.heap.size, 0, none⟩ 1 1 [.int .i64 n, .string s] rfl rfl ?_ ?_ ?_ ?_ ?_ ?_)
        · exact cell_two_new' _ _ _ _ _ rfl
        · intro u hu
          rcases List.mem_cons.1 hu with rfl | hu
          · rfl
          · rw [List.mem_singleton.1 hu]; rfl
        · unfold maxLen; omega
        · omega
        · simp; omega
        intro v' w5 hown5 hgrow5 _
        go_wp2
        go_roundw
        case rel => exact ⟨k + 1, by omega, by go_num, by rw [hS.out, hpn.out, if_pos rfl, elCells_snoc]; simpa using hown5, Below.grown (hE4.alloc _) hgrow5 (by simp; omega) (fun k hk => (hown4.lt k hk).1)⟩
        case measure => simp [intOf]; omega
      | false =>
        have hpn := Lib.hid hpn
        go_wp2
        go_roundw
        case rel => exact ⟨k + 1, by omega, by go_num, by rw [hS.out, hpn.out]; simpa using hown4, hE4⟩
        case measure => simp [intOf]; omega
    · have hkk : es.take k = es := List.take_of_length_le (by omega)
      rw [hkk] at hownr
      go_wp2
      go_ret
      exact ⟨_, rfl, hownr, hEr⟩
end Go.Proofs.YthokhncdpfaifaaGreatDoor
namespace Go.Proofs.YthokhncdpfaifaaGreatDoor
open Go.RowKit
theorem without1_any (B : Nat) (n m : Int) (s : ByteArray) (w : World) (hc : w.cell? ⟨B, 0, none⟩ = some (.int .i64 n)) :
    Calls Tryz.prog 65 #[.agg #[.int .i64 m, .string s], .pointer (some ⟨B, 0, none⟩)] w (OneV (.bool (m != n)) w) := by
  have hB : B < w.heap.size := cell_lt hc
  go_enter Tryz.func65, Tryz.ntmps65
  go_wp2
  go_ret
  exact ⟨rfl, (Ext.refl w).alloc _⟩
def MsgPost (ty : Int) (es : List El) (w : World) (e : Ending) (w' : World) : Prop := ∃ v, e = .returned (msgAgg ty v) ∧ w'.ownsRow w.heap.size 41 2 v es.length (elCells es) ∧ Ext w w'
theorem owns_mono {w : World} {B C : Nat} {T : TypeId} {sz : Nat} {v : Value} {n : Nat} {xs : List Value} (h : w.ownsRow B T sz v n xs) (hC : C ≤ B) : w.ownsRow C T sz v n xs := by
  obtain ⟨h1, h | ⟨g, cap, cur, hv, hg, h2⟩⟩ := h
  · exact ⟨h1, Or.inl h⟩
  · exact ⟨h1, Or.inr ⟨g, cap, cur, hv, by omega, h2⟩⟩
set_option maxRecDepth 8000 in
set_option maxHeartbeats 2000000 in
theorem without_any (ty n : Int) (v : Value) (es : List El) (w : World) (hv : Elems w v es) (hl : es.length ≤ 1000000) :
    Calls Tryz.prog 28 #[msgAgg ty v, .int .i64 n] w (MsgPost ty (keepL (fun m => m != n) es) w) := by
  have hV := Lib.hid hv
  obtain ⟨q, cp, rfl, _⟩ := hv
  unfold msgAgg
  go_enter Tryz.func28, Tryz.ntmps28
  go_wp2_with fail
  go_region_held3 (fun w' => w'.cell? ⟨w.heap.size, 0, none⟩ = some (.int .i64 ty) ∧ w'.cell? ⟨w.heap.size, 1, none⟩ = some (.slice q es.length cp)) (first | exact ⟨(World.cell?_setCell_far _ _ _ _ (by simp; omega)).trans ((World.cell?_setCell_far _ _ _ _ (by simp; omega)).trans (hE1.get (by simp [go_sem, World.cell?_alloc_past]))), (World.cell?_setCell_far _ _ _ _ (by simp; omega)).trans ((World.cell?_setCell_far _ _ _ _ (by simp; omega)).trans (hE1.get (by simp [go_sem, World.cell?_alloc_past])))⟩ | exact ⟨hE1.get (by simp [go_sem, World.cell?_alloc_past]), hE1.get (by simp [go_sem, World.cell?_alloc_past])⟩ | simp [go_sem, World.cell?_alloc_past]) ((go_at_call 64; refine (keep_any 65 _ _ (fun m => m != n) es _ (hV.out.ext (by repeat (first | with_reducible exact Ext.refl _ | with_reducible exact hE0 | with_reducible exact hE | with_reducible refine Ext.alloc ?_ _ | with_reducible refine Ext.drewN ?_ _ | with_reducible refine Ext.drew ?_ | ((with_reducible refine Ext.setCell ?_ ?side _); (case side => first | exact Nat.le_refl _ | (simp; done) | (simp; omega)))))) hl (fun _ _ => by kernel_rfl) (fun wr hE m s => without1_any _ n m s wr (hE.get (by simp [go_sem, World.cell?_alloc_past])))).mono ?_; rintro e w1 ⟨v1, rfl, hi1, hE1⟩; have hI1 := Lib.hid hi1; obtain ⟨p1, cq, rfl⟩ := owns_form hi1; have y0 : w1.cell? ⟨w.heap.size + 1 + 1, 0, none⟩ = some (.int .i64 0) := hE1.get (by simp [go_sem]); have y1 : w1.cell? ⟨w.heap.size + 1 + 1, 1, none⟩ = some (.slice none 0 0) := hE1.get (by simp [go_sem]); have k0 : w1.frozen? ⟨w.heap.size + 1 + 1, 0, none⟩ = false := hE1.fz (by simp) (by simp [go_sem]); have k1 : w1.frozen? ⟨w.heap.size + 1 + 1, 1, none⟩ = false := hE1.fz (by simp) (by simp [go_sem])))
  go_wp2
  have hE0 : Ext w w1 := ((by repeat (first | with_reducible exact Ext.refl _ | with_reducible exact hE0 | with_reducible exact hE | with_reducible refine Ext.alloc ?_ _ | with_reducible refine Ext.drewN ?_ _ | with_reducible refine Ext.drew ?_ | ((with_reducible refine Ext.setCell ?_ ?side _); (case side => first | exact Nat.le_refl _ | (simp; done) | (simp; omega))))) : Ext w _).trans hE1
  have hi2 := owns_mono (C := w.heap.size + 1 + 1 + 1) hi1 (by simp)
  refine bodyPost_ret (v := msgAgg ty (.slice p1 (keepL (fun m => m != n) es).length cq)) (by simp [results, Tryz.results28, go_sem, msgAgg, y0, y1]) rfl ⟨_, rfl, owns_mono (owns_set (owns_set hi2 (by omega)) (by omega)) (by omega), (by repeat (first | with_reducible exact Ext.refl _ | with_reducible exact hE0 | with_reducible exact hE | with_reducible refine Ext.alloc ?_ _ | with_reducible refine Ext.drewN ?_ _ | with_reducible refine Ext.drew ?_ | ((with_reducible refine Ext.setCell ?_ ?side _); (case side => first | exact Nat.le_refl _ | (simp; done) | (simp; omega)))))⟩
end Go.Proofs.YthokhncdpfaifaaGreatDoor
namespace Go.Proofs.YthokhncdpfaifaaGreatDoor
open Go.RowKit
/-- x before the first element for which p holds, or at the end. -/
def insL (p : Int → Bool) (x : El) (es : List El) : List El := es.takeWhile (fun y => !p y.1) ++ x :: es.dropWhile (fun y => !p y.1)
theorem first_take (p : Int → Bool) : ∀ (es : List El), (match firstP p es with | some k => es.take k = es.takeWhile (fun y => !p y.1) ∧ es.drop k = es.dropWhile (fun y => !p y.1) | none => es = es.takeWhile (fun y => !p y.1) ∧ es.dropWhile (fun y => !p y.1) = [])
  | [] => ⟨rfl, rfl⟩
  | x :: l => by
    have ih := first_take p l
    unfold firstP
    by_cases h : p x.1 = true
    · rw [if_pos h]
      simp [h]
    · rw [if_neg h]
      have h' : p x.1 = false := by simpa using h
      cases hf : firstP p l with
      | none => rw [hf] at ih; simpa [h'] using ih
      | some k => rw [hf] at ih; simpa [h'] using ih


theorem ins_key (p : Int → Bool) (es : List El) (x : El) : ∃ k : Nat, k ≤ es.length ∧ insL p x es = es.take k ++ x :: es.drop k ∧ (findI p es = (k : Int) ∨ (findI p es = -1 ∧ k = es.length)) := by
  have hft := first_take p es
  cases hf : firstP p es with
  | none =>
    rw [hf] at hft
    refine ⟨es.length, Nat.le_refl _, ?_, Or.inr ⟨by unfold findI; rw [hf], rfl⟩⟩
    unfold insL; rw [hft.2, ← hft.1]; simp
  | some k =>
    rw [hf] at hft
    refine ⟨k, Nat.le_of_lt (firstP_spec p es k hf).1, ?_, Or.inl (by unfold findI; rw [hf])⟩
    unfold insL; rw [← hft.1, ← hft.2]
theorem elCells_append (a b : List El) : elCells (a ++ b) = elCells a ++ elCells b := by simp [elCells]
theorem elCells_one (u : Value) (es : List El) (h : u ∈ elCells es) : u.oneCell' = true := by
  unfold elCells at h
  rw [List.mem_flatMap] at h
  obtain ⟨x, _, hx⟩ := h
  rcases List.mem_cons.1 hx with rfl | hx
  · rfl
  · rw [List.mem_singleton.1 hx]; rfl
/-- The cells of a part of a row. -/
theorem row_part {w : World} {g : Nat} {cur : Array Value} {T : TypeId} {es : List El} (hb : w.heap[g]? = some (.cells cur T (0, 0))) (hx : cur.toList.take (es.length * 2) = elCells es) (k m : Nat) (hkm : k + m ≤ es.length) :
    ∀ j u, (elCells ((es.drop k).take m))[j]? = some u → w.cell? ((⟨g, k * 2, none⟩ : Addr).add j) = some u := by
  intro j u hu
  have hj : j < m * 2 := by
    have h1 := (List.getElem?_eq_some_iff.1 hu).1
    rw [elCells_len, List.length_take, List.length_drop] at h1
    omega
  have hsplit : elCells es = elCells (es.take k) ++ (elCells ((es.drop k).take m) ++ elCells ((es.drop k).drop m)) := by
    rw [← elCells_append, List.take_append_drop, ← elCells_append, List.take_append_drop]
  have h2 : (elCells es)[k * 2 + j]? = some u := by
    rw [hsplit, List.getElem?_append_right (by rw [elCells_len, List.length_take]; omega), List.getElem?_append_left (by rw [elCells_len, elCells_len, List.length_take, List.length_take, List.length_drop]; omega)]
    rw [elCells_len, List.length_take, show k * 2 + j - min k es.length * 2 = j by omega]
    exact hu
  rw [← hx, List.getElem?_take, if_pos (by omega)] at h2
  have hadd : (⟨g, k * 2, none⟩ : Addr).add j = ⟨g, k * 2 + j, none⟩ := by
    unfold Addr.add
    split
    · rename_i h0; rw [h0]; rfl
    · rfl
  rw [hadd]
  unfold World.cell?
  simp only [hb]
  simpa using h2
end Go.Proofs.YthokhncdpfaifaaGreatDoor
