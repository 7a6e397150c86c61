/- Contracts of Levels and deeper (walks). -/
import Derived.Test.YtpdpjindmghfpaaGreatDoorEsp
namespace Go.Proofs.YtpdpjindmghfpaaGreatDoor
open Go.RowKit
def OneV (v : Value) (w : World) (e : Ending) (w' : World) : Prop := e = .returned v ∧ Ext w w'
/-- What the arguments of an expression in memory are good for. -/
def Kids (w : World) (P : Ex → Value → Prop) (v : Value) (l : List Ex) : Prop :=
  ∀ p c, v = .slice p l.length c → 0 < l.length → ∃ b off, p = some ⟨b, off, none⟩ ∧ ∃ sv : Nat → Value, ∀ i, i < l.length → ExCells w b (off + i * 5) (l.getD i exD) (sv i) ∧ ExS w (sv i) (l.getD i exD).args ∧ P (l.getD i exD) (sv i)
theorem ExS.ind {w : World} {P : Ex → Value → Prop} (step : ∀ x v, ExS w v x.args → Kids w P v x.args → P x v) {v : Value} {l : List Ex} (h : ExS w v l) : ∀ x : Ex, x.args = l → P x v := by
  induction h with
  | nil p c =>
    intro x hx
    refine step x _ (by rw [hx]; exact .nil p c) ?_
    rw [hx]
    intro p' c' _ h0
    cases h0
  | row b off c args sv hpos hlen hcap hc hs ih =>
    intro x hx
    refine step x _ (by rw [hx]; exact .row b off c args sv hpos hlen hcap hc hs) ?_
    rw [hx]
    intro p' c' hv _
    cases hv
    exact ⟨b, off, rfl, sv, fun i hi => ⟨hc i hi, hs i hi, ih i hi _ rfl⟩⟩
theorem exAgg_mk (op : Int) (nm tx : ByteArray) (n : Int) (args : List Ex) (u : Value) : exAgg (.mk op nm tx n args) u = .agg #[.int .i64 op, .string nm, .string tx, .int .i64 n, u] := rfl
theorem ExCells.five {w : World} {b o : Nat} {x : Ex} {u : Value} (h : ExCells w b o x u) : w.cell? ⟨b, o, none⟩ = some (.int .i64 x.op) ∧ w.cell? ⟨b, o + 1, none⟩ = some (.string x.name) ∧ w.cell? ⟨b, o + 1 + 1, none⟩ = some (.string x.text) ∧ w.cell? ⟨b, o + 1 + 1 + 1, none⟩ = some (.int .i64 x.n) ∧ w.cell? ⟨b, o + 1 + 1 + 1 + 1, none⟩ = some u := h
end Go.Proofs.YtpdpjindmghfpaaGreatDoor
