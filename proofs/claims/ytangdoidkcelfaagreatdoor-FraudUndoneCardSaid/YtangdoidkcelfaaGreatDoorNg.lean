/- The contract of law 26's awake (walk; printed by gen/h48.py). -/
import Derived.Test.YtangdoidkcelfaaGreatDoorNd
import Derived.Test.YtangdoidkcelfaaGreatDoorNe
import Derived.Test.YtangdoidkcelfaaGreatDoorNf
import Derived.Test.YtangdoidkcelfaaGreatDoorKl
import Derived.Test.YtangdoidkcelfaaGreatDoorKy
namespace Go.Proofs.YtangdoidkcelfaaGreatDoor
open Go.RowKit Go.Sort
theorem ownsRow_blk {w : World} {B n size k : Nat} {T : TypeId} {v : Value} {xs : List Value} (h : w.ownsRow B T size v n xs) (hk : v.ownBlock = some k) : ∃ cs, Blk w k cs T := by
 obtain ⟨-, ⟨hv, -⟩ | ⟨g, cap, cur, hv, hg, hb, -⟩⟩ := h
 · rw [hv] at hk; cases hk
 · rw [hv] at hk
   injection hk with hk
   have hk : g = k := hk
   subst hk
   exact ⟨cur, hb⟩
theorem FtO.engF {w w' : World} {B X V : Nat} {v : Value} {l : List Feat} (h : FtO w B v l) (k : Chg (EngF w X V) w w') : FtO w' B v l :=
 h.chg k fun b hb => by
  obtain ⟨cs, h1⟩ := ownsRow_blk h.2 hb
  exact not_engF h1 (by decide) (by decide) (by decide) (by decide)
theorem KysM.engF {w w' : World} {X V : Nat} {v : Value} {l : List ByteArray} (h : KysM w v l) (hT : StrT w v) (k : Chg (EngF w X V) w w') : KysM w' v l ∧ StrT w' v := by
 have hn : ∀ b, v.ownBlock = some b → ¬ EngF w X V b := fun b hb => by
  obtain ⟨cs, h1⟩ := hT b hb
  exact not_engF h1 (by decide) (by decide) (by decide) (by decide)
 refine ⟨?_, fun b hb => ?_⟩
 · obtain ⟨p, c, rfl, h2, h3⟩ := h
   refine ⟨p, c, rfl, h2, fun h0 => ?_⟩
   obtain ⟨b, off, rfl, h5⟩ := h3 h0
   exact ⟨b, off, rfl, fun i hi => k.cell (hn b rfl) (h5 i hi)⟩
 · obtain ⟨cs, h1⟩ := hT b hb
   exact ⟨cs, h1.chg k (hn b hb)⟩
/-- What changes an engine that was made behind w only adds to w. -/
theorem engF_ext {w a b : World} {X V : Nat} (hE : Ext w a) (h : Chg (EngF a X V) a b) (hX : w.heap.size ≤ X) (hV : X < V) : Ext w b :=
 Chg.toExt hE h fun k hk => by
  obtain ⟨h1 | h1, -⟩ := hk <;> omega
theorem str_of {r : ByteArray} {l : List UInt8} (h : r.data.toList = l) : r = ⟨l.toArray⟩ := by
 obtain ⟨⟨m⟩⟩ := r
 simp only at h
 rw [h]
/-- The engine of awake: new, and behind one and two purchases. -/
def awD0 : EngD := newV samF 50 100
def awD1 : EngD := (addV awD0 10 (keysV awD0.names (purF 1 2000)) 2000).1
def awD2 : EngD := (addV awD1 20 (keysV awD1.names (purF 1 2000)) 2000).1
theorem aw_e1 : (addV awD0 10 (keysV awD0.names (purF 1 2000)) 2000).2 = 0 := by decide +kernel
theorem aw_e2 : (addV awD1 20 (keysV awD1.names (purF 1 2000)) 2000).2 = 0 := by decide +kernel
def VerD.same (a b : VerD) : Bool := decide (a.act = b.act) && decide (a.score = b.score) && decide (a.fired.map (·.data.toList) = b.fired.map (·.data.toList))
theorem map_inj_ba : ∀ {a b : List ByteArray}, a.map (·.data.toList) = b.map (·.data.toList) → a = b
 | [], [], _ => rfl
 | [], _ :: _, h => by cases h
 | _ :: _, [], h => by cases h
 | x :: a, y :: b, h => by
  injection h with h1 h2
  rw [str_of h1, map_inj_ba h2]
theorem VerD.of_same {a b : VerD} (h : a.same b = true) : a = b := by
 obtain ⟨a1, a2, a3⟩ := a
 obtain ⟨b1, b2, b3⟩ := b
 simp only [VerD.same, Bool.and_eq_true, decide_eq_true_eq] at h
 obtain ⟨⟨rfl, rfl⟩, h3⟩ := h
 rw [map_inj_ba h3]
theorem aw_v0 : judgeV awD0 0 (purF 1 2000) = ⟨1, 80, [larN]⟩ := VerD.of_same (by decide +kernel)
theorem aw_v1 : judgeV awD2 30 (purF 1 2000) = ⟨2, 110, [manN, larN]⟩ := VerD.of_same (by decide +kernel)
theorem aw_v2 : judgeV awD2 80 (purF 1 2000) = ⟨1, 80, [larN]⟩ := VerD.of_same (by decide +kernel)
theorem aw_t1 : explV ⟨1, 80, [larN]⟩ = [114, 101, 102, 101, 114, 32, 56, 48, 32, 108, 97, 114, 103, 101] := by decide +kernel
theorem aw_t2 : explV ⟨2, 110, [manN, larN]⟩ = [100, 101, 99, 108, 105, 110, 101, 32, 49, 49, 48, 32, 109, 97, 110, 121, 32, 108, 97, 114, 103, 101] := by decide +kernel
theorem purF_txt (c : Nat) (a : Int) : TxtB (purF c a) := by
 intro f hf
 simp only [purF, List.mem_cons, List.not_mem_nil, or_false] at hf
 rcases hf with rfl | rfl | rfl | rfl | rfl | rfl | rfl | rfl | rfl <;> simp [digS, ByteArray.size]
end Go.Proofs.YtangdoidkcelfaaGreatDoor
