/- Features in memory, however many. -/
import Derived.Test.YtpdpjindmghfpaaGreatDoorEns
namespace Go.Proofs.YtpdpjindmghfpaaGreatDoor
open Go.RowKit
/-- The slice v reads as the features, however many. -/
def FeatsL (w : World) (v : Value) (l : List Feat) : Prop :=
  l.length ≤ 140737488355328 ∧ ((∃ p c, v = .slice p 0 c ∧ l = []) ∨ ∃ b off c, v = .slice (some ⟨b, off, none⟩) l.length c ∧ ∀ i, i < l.length → (w.cell? ⟨b, off + i * 4, none⟩ = some (.string (l.getD i fD).name) ∧ w.cell? ⟨b, off + i * 4 + 1, none⟩ = some (.int .i64 (l.getD i fD).kind) ∧ w.cell? ⟨b, off + i * 4 + 1 + 1, none⟩ = some (.int .i64 (l.getD i fD).n) ∧ w.cell? ⟨b, off + i * 4 + 1 + 1 + 1, none⟩ = some (.string (l.getD i fD).text)))
theorem FeatsL.few {w : World} {v : Value} {l : List Feat} (h : FeatsL w v l) (hl : l.length ≤ 1000000) : Feats w v l := ⟨hl, h.2⟩
theorem FeatsL.ext {w w' : World} {v : Value} {l : List Feat} (h : FeatsL w v l) (k : Ext w w') : FeatsL w' v l := by
  refine ⟨h.1, ?_⟩
  rcases h.2 with h | ⟨b, off, c, hv, hc⟩
  · exact Or.inl h
  · exact Or.inr ⟨b, off, c, hv, fun i hi => ⟨k.get (hc i hi).1, k.get (hc i hi).2.1, k.get (hc i hi).2.2.1, k.get (hc i hi).2.2.2⟩⟩
theorem FeatsL.form {w : World} {v : Value} {l : List Feat} (h : FeatsL w v l) : ∃ p c, v = .slice p l.length c := by
  rcases h.2 with ⟨p, c, hv, hl⟩ | ⟨b, off, c, hv, hc⟩
  · exact ⟨p, c, by rw [hv, hl]; rfl⟩
  · exact ⟨_, _, hv⟩
theorem FeatsL.at {w : World} {p : Option Addr} {c : Nat} {l : List Feat} (h : FeatsL w (.slice p l.length c) l) (h0 : 0 < l.length) : ∃ b off, p = some ⟨b, off, none⟩ ∧ ∀ i, i < l.length → (w.cell? ⟨b, off + i * 4, none⟩ = some (.string (l.getD i fD).name) ∧ w.cell? ⟨b, off + i * 4 + 1, none⟩ = some (.int .i64 (l.getD i fD).kind) ∧ w.cell? ⟨b, off + i * 4 + 1 + 1, none⟩ = some (.int .i64 (l.getD i fD).n) ∧ w.cell? ⟨b, off + i * 4 + 1 + 1 + 1, none⟩ = some (.string (l.getD i fD).text)) := by
  rcases h.2 with ⟨p', c', hv, hl⟩ | ⟨b, off, c', hv, hc⟩
  · rw [hl] at h0; cases h0
  · injection hv with h1 h2 h3
    exact ⟨b, off, h1, hc⟩
end Go.Proofs.YtpdpjindmghfpaaGreatDoor
