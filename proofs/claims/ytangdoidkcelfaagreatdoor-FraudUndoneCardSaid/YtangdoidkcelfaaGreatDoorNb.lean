/- An engine's memory under changes (printed by gen/h43.py). -/
import Derived.Test.YtangdoidkcelfaaGreatDoorKj
import Derived.Test.YtangdoidkcelfaaGreatDoorKf
namespace Go.Proofs.YtangdoidkcelfaaGreatDoor
open Go.RowKit Go.Sort
/-- An engine but for its uses. -/
structure EngN (w : World) (X V : Nat) (uv vv rv tv : Value) (d : EngD) : Prop where
 lt : X < V
 x : Blk w X #[.pointer (some ⟨V, 0, none⟩), .int .i64 d.hor, .int .i64 d.last, uv, rv, tv, .int .i64 d.refer, .int .i64 d.decline] 91
 v : VelM w V V vv d.vel
 r : FrsB w (fun j => X < j ∧ j < V) rv d.rules
 t : StrsB w (fun j => X < j ∧ j < V) tv d.names
theorem EngM.n {w : World} {X V : Nat} {uv vv rv tv : Value} {d : EngD} (h : EngM w X V uv vv rv tv d) : EngN w X V uv vv rv tv d := ⟨h.lt, h.x, h.v, h.r, h.t⟩
theorem EngN.chg {F : Nat → Prop} {w w' : World} {X V : Nat} {uv vv rv tv : Value} {d : EngD} (h : EngN w X V uv vv rv tv d) (k : Chg F w w') (hX : ¬ F X) (hV : ¬ F V) (hv : ∀ b, vv.ownBlock = some b → ¬ F b) (hr : ∀ j, X < j → j < V → ¬ F j) : EngN w' X V uv vv rv tv d :=
 ⟨h.lt, h.x.chg k hX, ⟨h.v.1.chg k hV, h.v.2.chg k hv⟩, h.r.chg k fun j hj => hr j hj.1 hj.2, h.t.chg k fun j hj => hr j hj.1 hj.2⟩
theorem EngN.ext {w w' : World} {X V : Nat} {uv vv rv tv : Value} {d : EngD} (h : EngN w X V uv vv rv tv d) (k : Ext w w') : EngN w' X V uv vv rv tv d := ⟨h.lt, h.x.ext k, h.v.ext k, h.r.ext k, h.t.ext k⟩
/-- Where an own row of uses lies. -/
theorem UsesR.blk {T : TypeId} {w : World} {B k : Nat} {v : Value} {l : List UseV} (h : UsesR T w B v l) (hk : v.ownBlock = some k) : B ≤ k ∧ k < w.heap.size ∧ ∃ cs, Blk w k cs T := by
 obtain ⟨-, -, ⟨hv, -⟩ | ⟨g, cap, cur, hv, hg, hb, -⟩⟩ := h
 · rw [hv] at hk; cases hk
 · rw [hv] at hk
   injection hk with hk
   have hk : g = k := hk
   subst hk
   exact ⟨hg, (Array.getElem?_eq_some_iff.1 hb).1, cur, hb⟩
theorem blk_ty {w : World} {k : Nat} {cs cs' : Array Value} {T T' : TypeId} (h : Blk w k cs T) (h' : Blk w k cs' T') : T = T' := by
 unfold Blk at h h'
 rw [h] at h'
 injection h' with h'
 injection h'
theorem UsesR.sepB {T T' : TypeId} {w : World} {B b : Nat} {v : Value} {l : List UseV} {cs : Array Value} (h : UsesR T w B v l) (hb : Blk w b cs T') (hT : T ≠ T') : v.ownBlock ≠ some b := by
 intro hk
 obtain ⟨-, -, cs', h2⟩ := h.blk hk
 exact hT (blk_ty h2 hb)
theorem EngN.fX {w : World} {X V : Nat} {uv vv rv tv : Value} {d : EngD} (h : EngN w X V uv vv rv tv d) : EngF w X V X := ⟨Or.inl rfl, _, _, _, h.x, Or.inl rfl⟩
theorem EngN.fV {w : World} {X V : Nat} {uv vv rv tv : Value} {d : EngD} (h : EngN w X V uv vv rv tv d) : EngF w X V V := ⟨Or.inr (Nat.le_refl _), _, _, _, h.v.1, Or.inr (Or.inl rfl)⟩
theorem EngN.fv {w : World} {X V k : Nat} {uv vv rv tv : Value} {d : EngD} (h : EngN w X V uv vv rv tv d) (hk : vv.ownBlock = some k) : EngF w X V k := by
 obtain ⟨h1, -, cs, h2⟩ := h.v.2.blk hk
 exact ⟨Or.inr h1, cs, _, _, h2, Or.inr (Or.inr (Or.inl rfl))⟩
theorem UsesR.fU {w : World} {X V k : Nat} {uv : Value} {l : List UseV} (h : UsesR 135 w V uv l) (hk : uv.ownBlock = some k) : EngF w X V k := by
 obtain ⟨h1, -, cs, h2⟩ := h.blk hk
 exact ⟨Or.inr h1, cs, _, _, h2, Or.inr (Or.inr (Or.inr rfl))⟩
theorem EngF.pre {a b c : World} {X V : Nat} (h : Ext a b) (k : Chg (EngF b X V) b c) : Chg (EngF a X V) a c := by
 refine ⟨k.os.trans h.os, k.tape.trans h.tape, k.output.trans h.output, Nat.le_trans h.size k.size, fun i hi hf => ?_⟩
 have e := h.block i hi
 rw [k.block i (Nat.lt_of_lt_of_le hi h.size) (fun hF => hf ?_), e]
 obtain ⟨h1, cs, T, z, h2, h3⟩ := hF
 exact ⟨h1, cs, T, z, by rw [← e]; exact h2, h3⟩
theorem EngF.step {a b c : World} {X V : Nat} {G : Nat → Prop} (h : Chg (EngF a X V) a b) (k : Chg G b c) (hG : ∀ i, i < b.heap.size → G i → EngF b X V i) : Chg (EngF a X V) a c := EngF.trans h (k.mono hG)
theorem EngF.ext {a b c : World} {X V : Nat} (h : Chg (EngF a X V) a b) (k : Ext b c) : Chg (EngF a X V) a c := Chg.ext h k
/-- The uses are laid anew. -/
theorem EngN.setU {w : World} {X V : Nat} {uv uv' vv rv tv : Value} {d : EngD} {us : List UseV} (h : EngN w X V uv vv rv tv d) (hU : UsesR 135 w V uv' us) : EngM (w.setCell ⟨X, 3, none⟩ uv') X V uv' vv rv tv ⟨d.vel, d.hor, d.last, us, d.rules, d.names, d.refer, d.decline⟩ := by
 have hc : Chg (fun k => k = X) w (w.setCell ⟨X, 3, none⟩ uv') := (Chg.refl (fun k => k = X) w).setCell (p := ⟨X, 3, none⟩) (Or.inl rfl) _
 have hlt := h.lt
 have hv : ∀ b, vv.ownBlock = some b → ¬ b = X := fun b hb e => by have := (h.v.2.blk hb).1; omega
 refine ⟨h.lt, ?_, ⟨h.v.1.chg hc (by omega), h.v.2.chg hc hv⟩, hU.chg hc fun b hb e => by have := (hU.blk hb).1; omega, h.r.chg hc fun j hj e => by omega, h.t.chg hc fun j hj e => by omega⟩
 have h2 := h.x.set 3 uv'
 exact h2
theorem EngM.setL {w : World} {X V : Nat} {uv vv rv tv : Value} {d : EngD} (h : EngM w X V uv vv rv tv d) (now : Int) : EngM (w.setCell ⟨X, 2, none⟩ (.int .i64 now)) X V uv vv rv tv ⟨d.vel, d.hor, now, d.uses, d.rules, d.names, d.refer, d.decline⟩ := by
 have hc : Chg (fun k => k = X) w (w.setCell ⟨X, 2, none⟩ (.int .i64 now)) := (Chg.refl (fun k => k = X) w).setCell (p := ⟨X, 2, none⟩) (Or.inl rfl) _
 have hlt := h.lt
 refine ⟨h.lt, ?_, ⟨h.v.1.chg hc (by omega), h.v.2.chg hc fun b hb e => by have := (h.v.2.blk hb).1; omega⟩, h.u.chg hc fun b hb e => by have := (h.u.blk hb).1; omega, h.r.chg hc fun j hj e => by omega, h.t.chg hc fun j hj e => by omega⟩
 exact h.x.set 2 _
theorem EngM.velC {w w' : World} {X V : Nat} {uv vv vv' rv tv : Value} {d : EngD} {vel : VelD} (h : EngM w X V uv vv rv tv d) (hC : Chg (fun k => k = V ∨ vv.ownBlock = some k) w w') (hV : VelM w' V V vv' vel) : EngM w' X V uv vv' rv tv ⟨vel, d.hor, d.last, d.uses, d.rules, d.names, d.refer, d.decline⟩ := by
 have hlt := h.lt
 have hv : ∀ b, vv.ownBlock = some b → V ≤ b := fun b hb => (h.v.2.blk hb).1
 refine ⟨h.lt, h.x.chg hC ?_, hV, h.u.chg hC ?_, h.r.chg hC ?_, h.t.chg hC ?_⟩
 · rintro (e | e)
   · omega
   · have := hv _ e; omega
 · rintro b hb (e | e)
   · subst e
     exact h.u.sepB h.v.1 (by decide) hb
   · obtain ⟨-, -, cs, h2⟩ := h.v.2.blk e
     exact h.u.sepB h2 (by decide) hb
 · rintro j ⟨h1, h2⟩ (e | e)
   · omega
   · have := hv _ e; omega
 · rintro j ⟨h1, h2⟩ (e | e)
   · omega
   · have := hv _ e; omega
/-- The row of the uses is changed. -/
theorem EngM.usesC {w w' : World} {X V : Nat} {uv vv rv tv : Value} {d : EngD} (h : EngM w X V uv vv rv tv d) (hC : Chg (fun k => uv.ownBlock = some k) w w') : EngN w' X V uv vv rv tv d := by
 have hlt := h.lt
 have hu : ∀ b, uv.ownBlock = some b → V ≤ b := fun b hb => (h.u.blk hb).1
 refine h.n.chg hC (fun e => by have := hu _ e; omega) (fun e => h.u.sepB h.v.1 (by decide) e) (fun b hb e => ?_) (fun j h1 h2 e => by have := hu _ e; omega)
 obtain ⟨-, -, cs, h2⟩ := h.v.2.blk hb
 exact h.u.sepB h2 (by decide) e
/-- The plain law of add. -/
theorem addV_time {d : EngD} {now amt : Int} {ks : List ByteArray} (h : timeB now = false ∨ now < d.last) : addV d now ks amt = (d, 14) := by unfold addV; rw [if_pos h]
theorem addV_amt {d : EngD} {now amt : Int} {ks : List ByteArray} (h : ¬ (timeB now = false ∨ now < d.last)) (h2 : amt < 0 ∨ 999999999999 < amt) : addV d now ks amt = (d, 4) := by unfold addV; rw [if_neg h, if_pos h2]
theorem addV_name {d : EngD} {now amt : Int} {ks : List ByteArray} (h : ¬ (timeB now = false ∨ now < d.last)) (h2 : ¬ (amt < 0 ∨ 999999999999 < amt)) (h3 : ks.any (fun k => decide (40 < k.size)) = true) : addV d now ks amt = (d, 5) := by unfold addV; rw [if_neg h, if_neg h2, if_pos h3]
theorem addV_full {d : EngD} {now amt : Int} {ks : List ByteArray} (h : ¬ (timeB now = false ∨ now < d.last)) (h2 : ¬ (amt < 0 ∨ 999999999999 < amt)) (h3 : ks.any (fun k => decide (40 < k.size)) = false) (h4 : 1000 < ks.length + (d.uses.filter fun u => decide (now - d.hor < u.t)).length) : addV d now ks amt = (d, 12) := by unfold addV; rw [if_neg h, if_neg h2, if_neg (by rw [h3]; exact Bool.false_ne_true), if_pos h4]
def addN (d : EngD) (now : Int) (ks : List ByteArray) (amt : Int) : EngD :=
 if ks = [] then ⟨d.vel, d.hor, now, d.uses, d.rules, d.names, d.refer, d.decline⟩ else ⟨ks.foldl (fun v k => (velAdd v ⟨k, now, amt⟩).1) d.vel, d.hor, now, (d.uses.filter fun u => decide (now - d.hor < u.t)) ++ ks.map (fun k => ⟨k, now, amt⟩), d.rules, d.names, d.refer, d.decline⟩
theorem addV_ok {d : EngD} {now amt : Int} {ks : List ByteArray} (h : ¬ (timeB now = false ∨ now < d.last)) (h2 : ¬ (amt < 0 ∨ 999999999999 < amt)) (h3 : ks.any (fun k => decide (40 < k.size)) = false) (h4 : ¬ 1000 < ks.length + (d.uses.filter fun u => decide (now - d.hor < u.t)).length) : addV d now ks amt = (addN d now ks amt, 0) := by
 unfold addV addN
 rw [if_neg h, if_neg h2, if_neg (by rw [h3]; exact Bool.false_ne_true), if_neg h4]
 split <;> rfl
end Go.Proofs.YtangdoidkcelfaaGreatDoor
