/- What a call that changes some blocks leaves as it was (a frame for data that can be changed). -/
import Derived.Test.YtkggloeaojkhaaaGreatDoorQa
import Derived.Laws.AppendOwn
namespace Go.Proofs.YtkggloeaojkhaaaGreatDoor
open Go.RowKit
/-- All blocks but those of F are as they were; blocks may have been added. -/
structure Chg (F : Nat → Prop) (w w' : World) : Prop where
 os : w'.os = w.os
 tape : w'.tape = w.tape
 output : w'.output = w.output
 size : w.heap.size ≤ w'.heap.size
 block : ∀ k, k < w.heap.size → ¬ F k → w'.heap[k]? = w.heap[k]?
theorem Chg.refl (F : Nat → Prop) (w : World) : Chg F w w := ⟨rfl, rfl, rfl, Nat.le_refl _, fun _ _ _ => rfl⟩
theorem Chg.trans {F : Nat → Prop} {a b c : World} (h : Chg F a b) (k : Chg F b c) : Chg F a c :=
 ⟨k.os.trans h.os, k.tape.trans h.tape, k.output.trans h.output, Nat.le_trans h.size k.size, fun i hi hf => (k.block i (Nat.lt_of_lt_of_le hi h.size) hf).trans (h.block i hi hf)⟩
theorem Chg.mono {F G : Nat → Prop} {a b : World} (h : Chg F a b) (hi : ∀ k, k < a.heap.size → F k → G k) : Chg G a b :=
 ⟨h.os, h.tape, h.output, h.size, fun k hk hg => h.block k hk (fun hf => hg (hi k hk hf))⟩
theorem Chg.ofExt {F : Nat → Prop} {a b : World} (h : Ext a b) : Chg F a b := ⟨h.os, h.tape, h.output, h.size, fun k hk _ => h.block k hk⟩
/-- What changes young blocks alone only adds. -/
theorem Chg.toExt {F : Nat → Prop} {w a b : World} (hE : Ext w a) (h : Chg F a b) (hF : ∀ k, F k → w.heap.size ≤ k) : Ext w b := by
 refine ⟨h.os.trans hE.os, h.tape.trans hE.tape, h.output.trans hE.output, Nat.le_trans hE.size h.size, fun k hk => ?_⟩
 rw [h.block k (Nat.lt_of_lt_of_le hk hE.size) (fun hf => by have := hF k hf; omega)]
 exact hE.block k hk
/-- Two changes, the second of blocks of the first or of younger ones. -/
theorem Chg.comp {F G : Nat → Prop} {a b c : World} (h : Chg F a b) (k : Chg G b c) (hg : ∀ i, G i → F i ∨ a.heap.size ≤ i) : Chg F a c :=
 ⟨k.os.trans h.os, k.tape.trans h.tape, k.output.trans h.output, Nat.le_trans h.size k.size, fun i hi hf => (k.block i (Nat.lt_of_lt_of_le hi h.size) (fun hG => by rcases hg i hG with h1 | h1; exact hf h1; omega)).trans (h.block i hi hf)⟩
theorem Chg.ext {F : Nat → Prop} {a b c : World} (h : Chg F a b) (k : Ext b c) : Chg F a c := h.trans (Chg.ofExt k)
theorem Chg.pre {F : Nat → Prop} {a b c : World} (k : Ext a b) (h : Chg F b c) : Chg F a c := (Chg.ofExt k).trans h
theorem Chg.setCell {F : Nat → Prop} {a b : World} (h : Chg F a b) {p : Addr} (hp : F p.block ∨ a.heap.size ≤ p.block) (v : Value) : Chg F a (b.setCell p v) := by
 refine ⟨h.os, h.tape, h.output, Nat.le_trans h.size (by simp [World.setCell]), fun k hk hf => ?_⟩
 have hne : k ≠ p.block := fun e => by
  rcases hp with h1 | h1
  · exact hf (e ▸ h1)
  · omega
 obtain ⟨pb, po, ps⟩ := p
 have := h.block k hk hf
 rw [← this]
 exact Below.heap_setCell _ _ _ _ hne
theorem Chg.ofGrown {w w' : World} {row : Option Nat} (h : w.grownBy w' row) : Chg (fun k => some k = row) w w' :=
 ⟨h.os, h.tape, h.output, h.size, fun k hk hf => h.block k hk hf⟩
/-- A block that is not changed holds what it held. -/
theorem Blk.chg {F : Nat → Prop} {w w' : World} {B : Nat} {cs : Array Value} {T : TypeId} (h : Blk w B cs T) (k : Chg F w w') (hF : ¬ F B) : Blk w' B cs T := by
 have hl := h.lt
 unfold Blk at *
 rw [k.block B hl hF, h]
theorem Chg.cell {F : Nat → Prop} {w w' : World} (h : Chg F w w') {p : Addr} {v : Value} (hF : ¬ F p.block) (y : w.cell? p = some v) : w'.cell? p = some v :=
 (World.cell?_of_block (h.block p.block (cell_lt y) hF)).trans y
/-- An own row that is not changed is as it was. -/
theorem ownsRow_chg {F : Nat → Prop} {w w' : World} {base n size : Nat} {e : TypeId} {v : Value} {xs : List Value} (h : w.ownsRow base e size v n xs) (k : Chg F w w') (hF : ∀ b, v.ownBlock = some b → ¬ F b) : w'.ownsRow base e size v n xs := by
 obtain ⟨h1, h2 | ⟨g, cap, cur, hv, hg, hb, hr⟩⟩ := h
 · exact ⟨h1, Or.inl h2⟩
 · have hown : v.ownBlock = some g := by rw [hv]; rfl
   have hb' : Blk w g cur e := hb
   exact ⟨h1, Or.inr ⟨g, cap, cur, hv, hg, hb'.chg k (hF g hown), hr⟩⟩
end Go.Proofs.YtkggloeaojkhaaaGreatDoor
