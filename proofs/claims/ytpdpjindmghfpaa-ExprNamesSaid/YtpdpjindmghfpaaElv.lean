/- Contracts of Levels and deeper (walks). -/
import Derived.Test.YtpdpjindmghfpaaEsp
namespace Go.Proofs.Ytpdpjindmghfpaa
open Go.RowKit
def OneV (v : Value) (w : World) (e : Ending) (w' : World) : Prop := e = .returned v ∧ Ext w w'
/-- What the arguments of an expression in memory are good for. -/
def Kids (w : World) (P : Ex → Value → Prop) (v : Value) (l : List Ex) : Prop :=
  ∀ p c, v = .slice p l.length c → 0 < l.length → ∃ b off, p = some ⟨b, off, none⟩ ∧ ∃ sv : Nat → Value, ∀ i, i < l.length → ExCells w b (off + i * 5) (l.getD i exD) (sv i) ∧ ExS w (sv i) (l.getD i exD).args ∧ P (l.getD i exD) (sv i)
theorem ExS.ind {w : World} {P : Ex → Value → Prop} (step : ∀ x v, ExS w v x.args → Kids w P v x.args → P x v) {v : Value} {l : List Ex} (h : ExS w v l) : ∀ x : Ex, x.args = l → P x v := by
  induction h with
  | nil p c =>
    intro x hx
    refine step x _ (by rw [hx]; exact .nil p c) ?_
    rw [hx]
    intro p' c' _ h0
    cases h0
  | row b off c args sv hpos hlen hcap hc hs ih =>
    intro x hx
    refine step x _ (by rw [hx]; exact .row b off c args sv hpos hlen hcap hc hs) ?_
    rw [hx]
    intro p' c' hv _
    cases hv
    exact ⟨b, off, rfl, sv, fun i hi => ⟨hc i hi, hs i hi, ih i hi _ rfl⟩⟩
theorem exAgg_mk (op : Int) (nm tx : ByteArray) (n : Int) (args : List Ex) (u : Value) : exAgg (.mk op nm tx n args) u = .agg #[.int .i64 op, .string nm, .string tx, .int .i64 n, u] := rfl
theorem ExCells.five {w : World} {b o : Nat} {x : Ex} {u : Value} (h : ExCells w b o x u) : w.cell? ⟨b, o, none⟩ = some (.int .i64 x.op) ∧ w.cell? ⟨b, o + 1, none⟩ = some (.string x.name) ∧ w.cell? ⟨b, o + 1 + 1, none⟩ = some (.string x.text) ∧ w.cell? ⟨b, o + 1 + 1 + 1, none⟩ = some (.int .i64 x.n) ∧ w.cell? ⟨b, o + 1 + 1 + 1 + 1, none⟩ = some u := h
set_option maxRecDepth 8000 in
set_option maxHeartbeats 2000000 in
theorem levels_any {w : World} {v : Value} {l : List Ex} (h : ExS w v l) : ∀ (x : Ex), x.args = l → ∀ w', Ext w w' → x.levels ≤ 1000000 → Calls Try.prog 15 #[exAgg x v] w' (OneV (.int .i64 x.levels) w') := by
  refine ExS.ind (P := fun x v => ∀ w', Ext w w' → x.levels ≤ 1000000 → Calls Try.prog 15 #[exAgg x v] w' (OneV (.int .i64 x.levels) w')) ?_ h
  clear h
  intro x v hS hK w' hE hl
  obtain ⟨op, nm, tx, n, args⟩ := x
  obtain ⟨q, cp, rfl⟩ := hS.form
  have hlen := hS.len
  have hK := Lib.hid hK
  simp only [Ex.args] at hK hlen ⊢
  rw [levels_eq] at hl ⊢
  simp only [Ex.args] at hl ⊢
  rw [exAgg_mk]
  clear hS
  go_enter Try.func15, Try.ntmps15
  go_wp2_with fail
  go_loopw [3, 9] (fun d i wr => ∃ k : Nat, k ≤ args.length ∧ i = .int .i64 k ∧ d = .int .i64 (Ex.levels.levelsL (args.take k)) ∧ Ext w' wr) (fun _ i _ => args.length - (intOf i).toNat)
  case atStart => exact ⟨0, Nat.zero_le _, rfl, rfl, (by repeat (first | with_reducible exact Ext.refl _ | with_reducible exact hE0 | with_reducible exact hE | with_reducible refine Ext.alloc ?_ _ | with_reducible refine Ext.drewN ?_ _ | with_reducible refine Ext.drew ?_ | ((with_reducible refine Ext.setCell ?_ ?side _); (case side => first | exact Nat.le_refl _ | (simp; done) | (simp; omega)))))⟩
  case round =>
    obtain ⟨k, hk, rfl, rfl, hEr⟩ := hrel
    by_cases hlt : k < args.length
    · obtain ⟨b, off, rfl, sv, hkid⟩ := hK.out _ _ rfl (by omega)
      obtain ⟨hc, hsu, hP⟩ := hkid k hlt
      have hform := hsu.form
      obtain ⟨c0, c1, c2, c3, c4⟩ := (hc.ext (hE.trans hEr)).five
      have hle := levels_le args k hlt
      have hsn := Lib.hid (levelsL_snoc args k hlt)
      have hb1 : Ex.levels.levelsL (args.take k) ≤ Ex.levels.levelsL args := by
        have h2 : Ex.levels.levelsL args = max (Ex.levels.levelsL (args.take k)) (Ex.levels.levelsL (args.drop k)) := by rw [← levelsL_append, List.take_append_drop]
        omega
      have hP := Lib.hid hP
      clear hc hkid hsu
      generalize args.getD k exD = y at *
      generalize Ex.levels.levelsL (args.take k) = d at *
      generalize sv k = u at *
      obtain ⟨uq, uc, rfl⟩ := hform
      go_wp2_with fail
      refine (hP.out _ ((hE.trans hEr).alloc _) (by omega)).mono ?_
      rintro e w1 ⟨rfl, hE1⟩
      have hE2 := (hEr.alloc _).trans hE1
      clear hE1 c0 c1 c2 c3 c4
      generalize y.levels = yl at *
      go_wp2
      go_roundw
      case rel => exact ⟨k + 1, by omega, by go_num, by rw [hsn.out]; go_num, hE2⟩
      case measure => simp [intOf]; omega
    · have hkk : args.take k = args := List.take_of_length_le (by omega)
      rw [hkk]
      clear hkk
      go_wp2
      go_ret
      exact ⟨by go_num, hEr⟩
end Go.Proofs.Ytpdpjindmghfpaa
