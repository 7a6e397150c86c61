/- Contracts of fraud.isTime and Judge (walks; printed by gen/h39.py). -/
import Derived.Test.YtangdoidkcelfaaGreatDoorKx
namespace Go.Proofs.YtangdoidkcelfaaGreatDoor
open Go.RowKit Go.Sort
set_option maxHeartbeats 1000000 in
theorem ftime_any (n : Int) (w : World) : Calls Tryz.prog 40 #[.int .i64 n] w fun e w' => e = .returned (.bool (timeB n)) ∧ w' = w := by
 unfold timeB
 by_cases h1 : 0 ≤ n
 · by_cases h2 : n ≤ 1099511627776
   · have d1 : decide (0 ≤ n) = true := decide_eq_true h1
     have d2 : decide (n ≤ 1099511627776) = true := decide_eq_true h2
     rw [d1, d2]
     clear h1 h2
     go_enter Tryz.func40, Tryz.ntmps40
     go_wp2
     go_ret
     exact ⟨rfl, rfl⟩
   · have d1 : decide (0 ≤ n) = true := decide_eq_true h1
     have d2 : decide (n ≤ 1099511627776) = false := decide_eq_false h2
     rw [d1, d2]
     clear h1 h2
     go_enter Tryz.func40, Tryz.ntmps40
     go_wp2
     go_ret
     exact ⟨rfl, rfl⟩
 · have d1 : decide (0 ≤ n) = false := decide_eq_false h1
   rw [d1]
   clear h1
   go_enter Tryz.func40, Tryz.ntmps40
   go_wp2
   go_ret
   exact ⟨rfl, rfl⟩
/-- What an engine keeps to. -/
structure EngOk (d : EngD) : Prop where
 hor : 1 ≤ d.vel.hor ∧ d.vel.hor ≤ 10000000
 few : d.vel.uses.length ≤ 1000
 amt : AmtB d.vel.uses
 names : ∀ s ∈ d.names, s.length ≤ 16
 rules : d.rules.length ≤ 64
 range : ∀ r ∈ d.rules, 0 ≤ r.act ∧ r.act ≤ 2 ∧ 0 ≤ r.score ∧ r.score ≤ 1000
def verAgg (v : VerD) (fv : Value) : Value := .agg #[.int .i64 v.act, .int .i64 v.score, fv]
def JudgeP (d : EngD) (now : Int) (l : List Feat) (w : World) (e : Ending) (w' : World) : Prop :=
 Ext w w' ∧ ((timeB now = false ∧ e = .returned (.tuple #[.agg #[.int .i64 0, .int .i64 0, .slice none 0 0], .int .i64 14])) ∨ (timeB now = true ∧ ∃ fv, e = .returned (.tuple #[verAgg (judgeV d now l) fv, .int .i64 0]) ∧ KysM w' fv (judgeV d now l).fired ∧ StrT w' fv))
theorem KV.mono {w : World} {b n m : Nat} {f : ByteArray → Option Value} (h : KV w b n f) (hm : n ≤ m) : KV w b m f := by
 obtain ⟨k, D, h1, h2, h3⟩ := h
 exact ⟨k, D, h1, by omega, h3⟩
theorem nm_take {names : List (List UInt8)} {k : Nat} (h : k < names.length) : names.take (k + 1) = names.take k ++ [names.getD k []] := by
 rw [List.take_add_one, List.getD_eq_getElem?_getD, List.getElem?_eq_getElem h]
 rfl
theorem ba_eq {s : List UInt8} {b : ByteArray} : (⟨s.toArray⟩ : ByteArray) = b ↔ s = b.data.toList := by
 constructor
 · intro h; subst h; rfl
 · intro h; subst h; rfl
theorem srcF_put (names : List (List UInt8)) (l : List Feat) (k : Nat) (h : k < names.length) (hb : keyB l ⟨(names.getD k []).toArray⟩ = true) : putV (srcF (names.take k) l) ⟨(names.getD k []).toArray⟩ (.string (keyS l ⟨(names.getD k []).toArray⟩)) = srcF (names.take (k + 1)) l := by
 funext s
 rw [nm_take h]
 unfold putV srcF
 rw [List.any_append]
 generalize names.getD k [] = x at *
 by_cases e : s = ⟨x.toArray⟩
 · subst e
   rw [if_pos rfl]
   simp [hb]
 · rw [if_neg e]
   have e2 : ¬ x = s.data.toList := fun h => e (ba_eq.2 h).symm
   simp [e2]
theorem srcF_skip (names : List (List UInt8)) (l : List Feat) (k : Nat) (h : k < names.length) (hb : keyB l ⟨(names.getD k []).toArray⟩ = false) : srcF (names.take k) l = srcF (names.take (k + 1)) l := by
 funext s
 rw [nm_take h]
 unfold srcF
 rw [List.any_append]
 generalize names.getD k [] = x at *
 by_cases e : s = ⟨x.toArray⟩
 · subst e
   simp [hb]
 · have e2 : ¬ x = s.data.toList := fun h => e (ba_eq.2 h).symm
   simp [e2]
/-- The verdict of the first k rules. -/
def verK (l : List Feat) (S : Bool → ByteArray → Int → Int) (rs : List FrR) (k : Nat) : VerD := (rs.take k).foldl (stepV l S) ⟨0, 0, []⟩
theorem verK_step (l : List Feat) (S : Bool → ByteArray → Int → Int) (rs : List FrR) (k : Nat) (h : k < rs.length) : verK l S rs (k + 1) = stepV l S (verK l S rs k) (rs.getD k frD) := by
 unfold verK
 rw [fr_take h, List.foldl_append]
 rfl
theorem verK_bd (l : List Feat) (S : Bool → ByteArray → Int → Int) (rs : List FrR) (h : ∀ r ∈ rs, 0 ≤ r.act ∧ r.act ≤ 2 ∧ 0 ≤ r.score ∧ r.score ≤ 1000) : ∀ k, k ≤ rs.length → (0 ≤ (verK l S rs k).act ∧ (verK l S rs k).act ≤ 2) ∧ (0 ≤ (verK l S rs k).score ∧ (verK l S rs k).score ≤ (k : Int) * 1000) ∧ (verK l S rs k).fired.length ≤ k
 | 0, _ => ⟨⟨Int.le_refl 0, by show (0 : Int) ≤ 2; decide⟩, ⟨Int.le_refl 0, by show (0 : Int) ≤ 0 * 1000; decide⟩, Nat.le_refl 0⟩
 | k + 1, hk => by
  obtain ⟨⟨h1, h2⟩, ⟨h3, h4⟩, h5⟩ := verK_bd l S rs h k (by omega)
  have hr := h (rs.getD k frD) (by rw [List.getD_eq_getElem?_getD, List.getElem?_eq_getElem (by omega : k < rs.length), Option.getD_some]; exact List.getElem_mem _)
  rw [verK_step l S rs k (by omega)]
  unfold stepV
  split
  · simp only [List.length_append, List.length_cons, List.length_nil]
    refine ⟨⟨by omega, by omega⟩, ⟨by omega, ?_⟩, by omega⟩
    push_cast
    omega
  · refine ⟨⟨h1, h2⟩, ⟨h3, ?_⟩, by omega⟩
    push_cast
    omega
theorem stepV_no {l : List Feat} {S : Bool → ByteArray → Int → Int} {v : VerD} {r : FrR} (h : ¬ ((evalV r.when l S).2 = 0 ∧ (evalV r.when l S).1.kind = 3 ∧ (evalV r.when l S).1.n = 1)) : stepV l S v r = v := by
 unfold stepV holdB
 rw [if_neg]
 intro hc
 simp only [Bool.and_eq_true, decide_eq_true_eq] at hc
 exact h ⟨hc.1.1, hc.1.2, hc.2⟩
theorem stepV_yes {l : List Feat} {S : Bool → ByteArray → Int → Int} {v : VerD} {r : FrR} (h1 : (evalV r.when l S).2 = 0) (h2 : (evalV r.when l S).1.kind = 3) (h3 : (evalV r.when l S).1.n = 1) : stepV l S v r = ⟨max v.act r.act, v.score + r.score, v.fired ++ [r.name]⟩ := by
 unfold stepV holdB
 rw [if_pos]
 rw [h1, h2, h3]
 rfl
theorem kys_sep {w : World} {B b n : Nat} {T : TypeId} {cs : Array Value} {v : Value} {xs : List Value} (h : w.ownsRow B 9 1 v n xs) (hb : Blk w b cs T) (hT : T ≠ 9) : v.ownBlock ≠ some b := by
 intro hv2
 obtain ⟨-, ⟨hv, -⟩ | ⟨g, cap, cur, hv, -, hg, -⟩⟩ := h
 · rw [hv] at hv2; cases hv2
 · rw [hv] at hv2
   injection hv2 with hv2
   have hv2 : g = b := hv2
   subst hv2
   unfold Blk at hb
   rw [hb] at hg
   injection hg with hg
   injection hg with _ hg
   exact hT hg

end Go.Proofs.YtangdoidkcelfaaGreatDoor
