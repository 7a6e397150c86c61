/- The uses of the law's table among the arguments. -/
import Derived.Test.YtpdpjindmghfpaaEopn
import Derived.Test.YtpdpjindmghfpaaEtb
namespace Go.Proofs.Ytpdpjindmghfpaa
open Go.ChangeShapes Go.WideShapes Go.ChangeAt Go.WideMaps Go.WideElems Go.RowKit
theorem cUsE : Try.prog.cellsOf 136 = 4 := by kernel_rfl
theorem bUsE : Try.prog.bytesOf 136 = 40 := by kernel_rfl
theorem usFields : ∃ f0 f1 f2 f3 : Field, Try.prog.underlying 136 = some (.struct #[f0, f1, f2, f3]) ∧ (f0.offset = 0 ∧ f1.offset = 1 ∧ f2.offset = 2 ∧ f3.offset = 3) ∧ f0.type = 9 ∧ f1.type = 3 ∧ f2.type = 2 ∧ f3.type = 2 := ⟨_, _, _, _, Try.underlying136, ⟨rfl, rfl, rfl, rfl⟩, rfl, rfl, rfl, rfl⟩
/-- The slice v reads as the uses, however many. -/
def UsesL (w : World) (v : Value) (l : List UseD) : Prop :=
  l.length ≤ 140737488355328 ∧ ((∃ p c, v = .slice p 0 c ∧ l = []) ∨ ∃ b off c, v = .slice (some ⟨b, off, none⟩) l.length c ∧ ∀ i, i < l.length → (w.cell? ⟨b, off + i * 4, none⟩ = some (.string (l.getD i uD).name) ∧ w.cell? ⟨b, off + i * 4 + 1, none⟩ = some (.int .i64 (l.getD i uD).window) ∧ w.cell? ⟨b, off + i * 4 + 1 + 1, none⟩ = some (.int .i64 (l.getD i uD).cnt) ∧ w.cell? ⟨b, off + i * 4 + 1 + 1 + 1, none⟩ = some (.int .i64 (l.getD i uD).sm)))
theorem UsesL.few {w : World} {v : Value} {l : List UseD} (h : UsesL w v l) (hl : l.length ≤ 1000000) : UsesM w v l := ⟨hl, h.2⟩
theorem UsesL.form {w : World} {v : Value} {l : List UseD} (h : UsesL w v l) : ∃ p c, v = .slice p l.length c := by
  rcases h.2 with ⟨p, c, hv, hl⟩ | ⟨b, off, c, hv, hc⟩
  · exact ⟨p, c, by rw [hv, hl]; rfl⟩
  · exact ⟨_, _, hv⟩
theorem reach_arg {H : Type} {ts : List TypeId} {ds : List (DataW H)} (h : (DataW.weightsEach Try.prog ts ds).all (· ≤ reachBytes) = true) (j : Nat) (t : TypeId) (d : DataW H) (ht : ts[j]? = some t) (hd : ds[j]? = some d) : InReach t d := by
  intro n hn
  have := List.all_eq_true.1 h n (DataW.weights_mem_each ht hd n hn)
  exact of_decide_eq_true this
instance : Inhabited UseD := ⟨uD⟩
section
variable {H : Type} {enc : TypeId × Value → H} {W : World} {base : Nat} {sp : Nat → Bool} {held : Bool}
theorem open_uses {v : Value} {d : DataW H} {p : List MemPlace} (hc : v.cells.toList = [v]) (h : DataW.Trod enc Try.prog W base sp held 33 v d p) (hw : InReach 33 d) : ∃ l, UsesL W v l ∧ ∀ f ∈ l, f.name.size ≤ 140737488355328 := by
  obtain ⟨fuel, h⟩ := h
  obtain ⟨f0, f1, f2, f3, hu, ho, t0, t1, t2, t3⟩ := usFields
  rw [hc] at h
  rcases open_quads Try.underlying33 hu cUsE ho (by rw [t0]; exact cStrE) (by rw [t1]; exact cIntE) (by rw [t2]; exact cI64E) (by rw [t3]; exact cI64E) h hw with h0 | ⟨a, len, cap, h0, hlc, hcm, hx⟩
  · obtain rfl : v = _ := by simpa using h0
    exact ⟨[], ⟨by simp, Or.inl ⟨none, 0, rfl, rfl⟩⟩, by simp⟩
  · obtain rfl : v = _ := by simpa using h0
    by_cases hz : len = 0
    · subst hz
      exact ⟨[], ⟨by simp, Or.inl ⟨_, _, rfl, rfl⟩⟩, by simp⟩
    · have key : ∀ i, i < len → ∃ f : UseD, (W.cell? (a.add (i * 4)) = some (.string f.name) ∧ W.cell? (a.add (i * 4 + 1)) = some (.int .i64 f.window) ∧ W.cell? (a.add (i * 4 + 2)) = some (.int .i64 f.cnt) ∧ W.cell? (a.add (i * 4 + 3)) = some (.int .i64 f.sm)) ∧ f.name.size ≤ 140737488355328 := by
        intro i hi
        obtain ⟨v0, v1, v2, v3, y0, y1, y2, y3, n, ⟨e0, e1, e2, e3⟩, g0, g1, g2, g3, u0, -, -, -⟩ := hx i hi
        rw [t0] at g0
        rw [t1] at g1
        rw [t2] at g2
        rw [t3] at g3
        obtain ⟨m0, q0, r0, -⟩ := DataW.trod_string Try.underlying9 g0
        obtain ⟨m1, q1, -, -⟩ := DataW.trod_int Try.underlying3 g1
        obtain ⟨m2, q2, -, -⟩ := DataW.trod_int Try.underlying2 g2
        obtain ⟨m3, q3, -, -⟩ := DataW.trod_int Try.underlying2 g3
        simp only [List.cons.injEq, and_true] at q0 q1 q2 q3
        subst q0 q1 q2 q3
        rw [r0] at u0
        exact ⟨⟨m0, m1, m2, m3⟩, ⟨e0, e1, e2, e3⟩, reach_str u0⟩
      obtain ⟨q, hq⟩ := Go.Deep.choose_lt (α := UseD) key
      obtain ⟨b, off, spot⟩ := a
      have hspot : spot = none := by simpa [Addr.add] using World.cell?_spot (hq 0 (by omega)).1.1
      subst hspot
      refine ⟨(List.range len).map q, ⟨by rw [bUsE] at hcm; have := Nat.le_trans hcm reachN_le; simp; omega, Or.inr ⟨b, off, cap, by simp, fun i hi => ?_⟩⟩, fun f hf => ?_⟩
      · have hi : i < len := by simpa using hi
        obtain ⟨⟨c0, c1, c2, c3⟩, -⟩ := hq i hi
        rw [Addr.add_lit] at c0 c1 c2 c3
        have hg : ((List.range len).map q).getD i uD = q i := by simp [List.getD_eq_getElem?_getD, hi]
        rw [hg]
        exact ⟨c0, by rw [← Nat.add_assoc] at c1; exact c1, by rw [← Nat.add_assoc] at c2; exact c2, by rw [← Nat.add_assoc] at c3; exact c3⟩
      · obtain ⟨i, hi, rfl⟩ := List.mem_map.1 hf
        exact (hq i (List.mem_range.1 hi)).2
end
section
variable {H : Type} {enc : TypeId × Value → H} {W W' : World} {sp : Nat → Bool}
set_option maxRecDepth 100000 in
theorem shut_uses {v : Value} {d : DataW H} {p : List MemPlace} (h : DataW.Trod enc Try.prog W 0 (fun _ => true) true 33 v d p) (hE : Ext W W') (hlt : ∀ x ∈ p, x.block < W.heap.size) (hsp : ∀ x ∈ p, sp x.block = true) :
    DataW.Trod enc Try.prog W' 0 sp true 33 v d p :=
  Trod_stays laidB (by kernel_rfl) (of_decide_eq_true (by kernel_rfl)) h (fun x hx => hE.below.same (hlt x hx)) hsp
end
end Go.Proofs.Ytpdpjindmghfpaa
