/- Contract of message.insert at whatever slice that a call has made (walk). -/
import Derived.Test.YthokhncdpfaifaaGreatDoorMsgi
namespace Go.Proofs.YthokhncdpfaifaaGreatDoor
open Go.RowKit
set_option maxRecDepth 8000 in
set_option maxHeartbeats 2000000 in
theorem insert_nil (c : Nat) (cap : Value) (p : Int → Bool) (n : Int) (s : ByteArray) (w : World)
    (hcf : ∀ (args : Array Value) (w : World), (callFunc c args).run Tryz.prog w = .ok (.enter c args) w)
    (hcl : ∀ wr, Ext w wr → ∀ (n : Int) (s : ByteArray), Calls Tryz.prog c #[.agg #[.int .i64 n, .string s], cap] wr (OneV (.bool (p n)) wr)) :
    Calls Tryz.prog 62 #[.slice none 0 0, .agg #[.int .i64 n, .string s], .func (.func c) #[] #[cap]] w (ElemsPost (insL p (n, s) []) w) := by
  have hC := Lib.hid hcl
  clear hcl
  obtain ⟨i0, hi, hz0, hz1, hz2⟩ := info_parts infoEl
  have hI := Lib.hid hi
  have hZ0 := Lib.hid hz0
  have hZ1 := Lib.hid hz1
  have hZ2 := Lib.hid hz2
  clear hi hz0 hz1 hz2
  have hEl : Elems w (.slice none 0 0) [] := ⟨none, 0, rfl, fun h => by simp at h⟩
  go_enter Tryz.func62, Tryz.ntmps62
  go_wp2_with fail
  refine (mfind_any c cap _ p [] _ (hEl.ext ((Ext.refl w).alloc _)) (by simp) hcf (fun wr hE n s => hC.out wr (((Ext.refl w).alloc _).trans hE) n s)).mono ?_
  rintro e w1 ⟨rfl, hE1⟩
  have hE2 : Ext w w1 := ((Ext.refl w).alloc _).trans hE1
  have hB := (Blk.new w _ _).ext hE1
  have z0 := hB.cell 0
  have z1 := hB.cell 1
  simp at z0 z1
  have hs2 := hE2.size
  have hlt := hB.lt
  have hfi : findI p [] = -1 := rfl
  rw [hfi]
  clear hE1 hB hC hfi hEl
  have hmk : ∀ w : World, (Instr.makeSlice 22 (.int .i64 0) (.int .i64 1)).run Tryz.prog w = .ok (.slice (some ⟨w.heap.size, 0, none⟩) 0 1) (w.alloc (.cells #[.int .i64 0, .string ⟨#[]⟩] 41)) := fun _ => by kernel_rfl
  go_wp2
  go_ret
  refine ⟨.slice (some ⟨w1.heap.size, 0, none⟩) 1 1, rfl, ⟨rfl, Or.inr ⟨w1.heap.size, 1, #[.int .i64 n, .string s], rfl, hs2, ?_, Nat.le_refl _, by unfold maxLen; omega, rfl, rfl⟩⟩, ?_⟩
  · exact (Blk.new w1 _ _).alloc _
  · exact (hE2.alloc _).alloc _
theorem insert_any (c : Nat) (cap v : Value) (p : Int → Bool) (es : List El) (n : Int) (s : ByteArray) (B : Nat) (w : World) (hv : w.ownsRow B 41 2 v es.length (elCells es)) (hl : es.length ≤ 1000000)
    (hcf : ∀ (args : Array Value) (w : World), (callFunc c args).run Tryz.prog w = .ok (.enter c args) w)
    (hcl : ∀ wr, Ext w wr → ∀ (n : Int) (s : ByteArray), Calls Tryz.prog c #[.agg #[.int .i64 n, .string s], cap] wr (OneV (.bool (p n)) wr)) :
    Calls Tryz.prog 62 #[v, .agg #[.int .i64 n, .string s], .func (.func c) #[] #[cap]] w (ElemsPost (insL p (n, s) es) w) := by
  obtain ⟨_, ⟨rfl, h0⟩ | ⟨g, cp, cur, rfl, _, hb, hlc, hcp, _, hx⟩⟩ := hv
  · have : es = [] := List.length_eq_zero_iff.1 h0
    subst this
    exact insert_nil c cap p n s w hcf hcl
  · exact insert_some c cap p es n s g cp cur w hb hx hlc hcp hl hcf hcl
end Go.Proofs.YthokhncdpfaifaaGreatDoor
