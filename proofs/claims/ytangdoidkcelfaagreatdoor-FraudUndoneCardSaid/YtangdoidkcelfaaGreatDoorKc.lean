/- Uses of keys over windows (layer 23) as data, and where they lie: what velocity computes, in plain words. -/
import Derived.Test.YtangdoidkcelfaaGreatDoorKa
import Derived.Laws.CopyOwn
namespace Go.Proofs.YtangdoidkcelfaaGreatDoor
open Go.RowKit
structure UseV where
 key : ByteArray
 t : Int
 amt : Int
deriving DecidableEq
def useD : UseV := ⟨⟨#[]⟩, 0, 0⟩
def useCells (u : UseV) : List Value := [.string u.key, .int .i64 u.t, .int .i64 u.amt]
def useFlat (l : List UseV) : List Value := l.flatMap useCells
theorem useFlat_append (l m : List UseV) : useFlat (l ++ m) = useFlat l ++ useFlat m := by simp [useFlat]
theorem useFlat_snoc (l : List UseV) (x : UseV) : useFlat (l ++ [x]) = useFlat l ++ useCells x := by simp [useFlat]
theorem useFlat_len : ∀ l : List UseV, (useFlat l).length = l.length * 3
 | [] => rfl
 | x :: l => by
  have := useFlat_len l
  simp only [useFlat, List.flatMap_cons, List.length_append, List.length_cons] at *
  rw [this]
  simp only [useCells, List.length_cons, List.length_nil]
  omega
theorem useFlat_get : ∀ (l : List UseV) (i : Nat), i < l.length → ∀ c, c < 3 → (useFlat l)[i * 3 + c]? = (useCells (l.getD i useD))[c]?
 | [], i, hi, _, _ => by simp at hi
 | x :: l, 0, _, c, hc => by
  simp only [useFlat, List.flatMap_cons]
  rw [List.getElem?_append_left (by simp only [useCells, List.length_cons, List.length_nil]; omega)]
  simp
 | x :: l, i + 1, hi, c, hc => by
  have ih := useFlat_get l i (by simpa using hi) c hc
  simp only [useFlat, List.flatMap_cons, List.getD_cons_succ]
  rw [← ih, List.getElem?_append_right (by simp only [useCells, List.length_cons, List.length_nil]; omega)]
  congr 1
  simp only [useCells, List.length_cons, List.length_nil]
  omega
theorem use_one (u : UseV) : ∀ v ∈ useCells u, v.oneCell' = true := by
 intro v hv
 simp only [useCells, List.mem_cons, List.not_mem_nil, or_false] at hv
 rcases hv with rfl | rfl | rfl <;> rfl
/-- v is a slice of the call's own, in a block from B on, of elements of type T, and reads as the uses. -/
def UsesR (T : TypeId) (w : World) (B : Nat) (v : Value) (l : List UseV) : Prop := l.length ≤ 1000000 ∧ w.ownsRow B T 3 v l.length (useFlat l)
theorem UsesR.nil (T : TypeId) (w : World) (B : Nat) : UsesR T w B (.slice none 0 0) [] := ⟨by simp, rfl, Or.inl ⟨rfl, rfl⟩⟩
theorem UsesR.form {T : TypeId} {w : World} {B : Nat} {v : Value} {l : List UseV} (h : UsesR T w B v l) : ∃ p c, v = .slice p l.length c := by
 obtain ⟨_, _, ⟨h, h0⟩ | ⟨g, cap, cur, hv, _⟩⟩ := h
 · exact ⟨none, 0, by rw [h0]; exact h⟩
 · exact ⟨_, _, hv⟩
theorem UsesR.ext {T : TypeId} {w w' : World} {B : Nat} {v : Value} {l : List UseV} (h : UsesR T w B v l) (k : Ext w w') : UsesR T w' B v l := ⟨h.1, ownsRow_chg h.2 (Chg.ofExt (F := fun _ => False) k) fun _ _ h => h⟩
theorem UsesR.chg {F : Nat → Prop} {T : TypeId} {w w' : World} {B : Nat} {v : Value} {l : List UseV} (h : UsesR T w B v l) (k : Chg F w w') (hF : ∀ b, v.ownBlock = some b → ¬ F b) : UsesR T w' B v l := ⟨h.1, ownsRow_chg h.2 k hF⟩
theorem UsesR.push {T : TypeId} {w' : World} {B g cap : Nat} {l : List UseV} {u : UseV} (hl : l.length < 1000000) (hown : w'.ownsRow B T 3 (.slice (some ⟨g, 0, none⟩) (l.length + 1) cap) (l.length + 1) (useFlat l ++ useCells u)) : UsesR T w' B (.slice (some ⟨g, 0, none⟩) (l.length + 1) cap) (l ++ [u]) := by
 refine ⟨by simp; omega, ?_⟩
 rw [useFlat_snoc]
 simpa using hown
/-- Where the uses lie: nowhere, or in a row of a block. -/
theorem UsesR.lie {T : TypeId} {w : World} {B : Nat} {v : Value} {l : List UseV} (h : UsesR T w B v l) : (v = .slice none 0 0 ∧ l = []) ∨ ∃ g cap, v = .slice (some ⟨g, 0, none⟩) l.length cap ∧ B ≤ g ∧ l.length ≤ cap ∧ cap ≤ maxLen ∧ ∀ i, i < l.length → w.cell? ⟨g, i * 3, none⟩ = some (.string (l.getD i useD).key) ∧ w.cell? ⟨g, i * 3 + 1, none⟩ = some (.int .i64 (l.getD i useD).t) ∧ w.cell? ⟨g, i * 3 + 2, none⟩ = some (.int .i64 (l.getD i useD).amt) := by
 obtain ⟨h0, h4, ⟨hv, hn⟩ | ⟨g, cap, cur, hv, hg, hb, hcap, hcm, hcs, htk⟩⟩ := h
 · exact Or.inl ⟨hv, List.length_eq_zero_iff.1 hn⟩
 · refine Or.inr ⟨g, cap, hv, hg, hcap, hcm, fun i hi => ?_⟩
   have hcell : ∀ c u, c < 3 → (useCells (l.getD i useD))[c]? = some u → w.cell? ⟨g, i * 3 + c, none⟩ = some u := by
    intro c u hc hj
    have hb' : Blk w g cur T := hb
    rw [hb'.cell, ← Array.getElem?_toList, ← hj, ← useFlat_get l i hi c hc, ← htk]
    rw [List.getElem?_take_of_lt (by omega)]
   exact ⟨hcell 0 _ (by omega) rfl, hcell 1 _ (by omega) rfl, hcell 2 _ (by omega) rfl⟩
theorem take_drop_cut {α : Type} (cur : List α) (L : List UseV) (f : List UseV → List α) (i n cap : Nat) (hf : ∀ l : List UseV, (f l).length = l.length * 3) (ha : ∀ a b, f (a ++ b) = f a ++ f b) (hc : cur.length = cap * 3) (hl : L.length ≤ cap) (ht : cur.take (L.length * 3) = f L) (hi : i + n ≤ L.length) :
 (cur.take (i * 3) ++ f (L.drop (i + n)) ++ cur.drop (i * 3 + (f (L.drop (i + n))).length)).length = cap * 3 ∧ (cur.take (i * 3) ++ f (L.drop (i + n)) ++ cur.drop (i * 3 + (f (L.drop (i + n))).length)).take ((L.take i ++ L.drop (i + n)).length * 3) = f (L.take i ++ L.drop (i + n)) := by
 have e1 : (f (L.drop (i + n))).length = (L.length - (i + n)) * 3 := by rw [hf, List.length_drop]
 have e2 : cur.take (i * 3) = f (L.take i) := by
  have h1 : cur.take (i * 3) = (cur.take (L.length * 3)).take (i * 3) := by rw [List.take_take]; congr 1; omega
  rw [h1, ht]
  conv => lhs; rw [← List.take_append_drop i L]
  rw [ha, List.take_append_of_le_length (by rw [hf, List.length_take]; omega)]
  exact List.take_of_length_le (by rw [hf, List.length_take]; omega)
 have e3 : (L.take i ++ L.drop (i + n)).length = i + (L.length - (i + n)) := by simp; omega
 constructor
 · simp only [List.length_append, List.length_take, List.length_drop, e1]
   omega
 · rw [e3, ha, e2, List.take_append_of_le_length (by rw [List.length_append, e1, hf, List.length_take]; omega)]
   exact List.take_of_length_le (by rw [List.length_append, e1, hf, List.length_take]; omega)
/-- What remove's copy leaves of the uses. -/
theorem UsesR.cut {T : TypeId} {w : World} {B g cap i n : Nat} {l : List UseV} (h : UsesR T w B (.slice (some ⟨g, 0, none⟩) l.length cap) l) (hi : i + n ≤ l.length) : ∃ cur : Array Value, w.heap[g]? = some (.cells cur T (0, 0)) ∧ cur.size = cap * 3 ∧ l.length ≤ cap ∧ cap ≤ maxLen ∧ B ≤ g ∧ (∀ j v, (useFlat (l.drop (i + n)))[j]? = some v → w.cell? ((⟨g, (i + n) * 3, none⟩ : Addr).add j) = some v) ∧ (∀ v ∈ useFlat (l.drop (i + n)), v.oneCell' = true) ∧
 UsesR T (w.setRow g (cur.toList.take (i * 3) ++ useFlat (l.drop (i + n)) ++ cur.toList.drop (i * 3 + (useFlat (l.drop (i + n))).length)).toArray) B (.slice (some ⟨g, 0, none⟩) (l.take i ++ l.drop (i + n)).length cap) (l.take i ++ l.drop (i + n)) := by
 obtain ⟨h0, h4, ⟨hv, hn⟩ | ⟨g', cap', cur, hv, hg, hb, hcap, hcm, hcs, htk⟩⟩ := h
 · cases hv
 · injection hv with hv1 hv2 hv3
   injection hv1 with hv1
   injection hv1 with hv1 _ _
   subst hv1 hv3
   obtain ⟨a1, a2⟩ := take_drop_cut cur.toList l useFlat i n cap useFlat_len useFlat_append (by simpa using hcs) hcap htk hi
   refine ⟨cur, hb, hcs, hcap, hcm, hg, fun j v hj => ?_, fun v hv => ?_, ⟨by simp; omega, by rw [useFlat_len], Or.inr ⟨g, cap, _, rfl, hg, setRow_heap w g _ _ _ _ hb, by simp; omega, hcm, by simpa using a1, by simpa using a2⟩⟩⟩
   · have hb' : Blk w g cur T := hb
     have hjl : j < (useFlat (l.drop (i + n))).length := (List.getElem?_eq_some_iff.1 hj).1
     rw [useFlat_len, List.length_drop] at hjl
     have e : (⟨g, (i + n) * 3, none⟩ : Addr).add j = ⟨g, (i + n) * 3 + j, none⟩ := by unfold Addr.add; split <;> simp_all
     rw [e, hb'.cell, ← Array.getElem?_toList, ← hj]
     have e2 : useFlat (l.drop (i + n)) = (useFlat l).drop ((i + n) * 3) := by
      conv => rhs; rw [← List.take_append_drop (i + n) l]
      rw [useFlat_append, List.drop_left' (by rw [useFlat_len, List.length_take]; omega)]
     rw [e2, List.getElem?_drop, ← htk, List.getElem?_take_of_lt (by omega)]
   · unfold useFlat at hv
     obtain ⟨u, -, hu⟩ := List.mem_flatMap.1 hv
     exact use_one u v hu
theorem Chg.setRow {F : Nat → Prop} {w w' : World} (h : Chg F w w') {g : Nat} (hg : F g ∨ w.heap.size ≤ g) (cs : Array Value) : Chg F w (w'.setRow g cs) := by
 refine ⟨h.os, h.tape, h.output, Nat.le_trans h.size (by simp [World.setRow]), fun k hk hf => ?_⟩
 rw [setRow_other w' g k cs (fun e => by rcases hg with hg | hg; exact hf (e ▸ hg); omega)]
 exact h.block k hk hf
/-- Whether a number is a time. -/
def timeB (n : Int) : Bool := decide (0 ≤ n) && decide (n ≤ 1099511627776)
/-- How many uses are too old. -/
def oldN (h now : Int) : List UseV → Nat
 | [] => 0
 | u :: l => if u.t ≤ now - h then oldN h now l + 1 else 0
theorem oldN_le (h now : Int) : ∀ l : List UseV, oldN h now l ≤ l.length
 | [] => Nat.le_refl _
 | u :: l => by
  rw [oldN]
  have := oldN_le h now l
  split
  · simp only [List.length_cons]; omega
  · omega
theorem oldN_drop (h now : Int) : ∀ (l : List UseV) (k : Nat), k ≤ l.length → (∀ j, j < k → (l.getD j useD).t ≤ now - h) → oldN h now l = k + oldN h now (l.drop k)
 | l, 0, _, _ => by simp
 | [], k + 1, hk, _ => by simp at hk
 | u :: l, k + 1, hk, ha => by
  have h0 : u.t ≤ now - h := ha 0 (by omega)
  rw [oldN, if_pos h0, List.drop_succ_cons, oldN_drop h now l k (by simpa using hk) (fun j hj => by have := ha (j + 1) (by omega); simpa using this)]
  omega
/-- What the windows remember. -/
structure VelD where
 hor : Int
 last : Int
 uses : List UseV
def velAdd (d : VelD) (u : UseV) : VelD × Int :=
 if u.key.size = 0 ∨ 40 < u.key.size then (d, 5)
 else if timeB u.t = false ∨ u.t < d.last then (d, 14)
 else if u.amt < 0 ∨ 999999999999 < u.amt then (d, 4)
 else if 1000 ≤ d.uses.length - oldN d.hor u.t d.uses then (d, 12)
 else (⟨d.hor, u.t, d.uses.drop (oldN d.hor u.t d.uses) ++ [u]⟩, 0)
/-- The list without the last of the uses that are u. -/
def remLast (u : UseV) : List UseV → Option (List UseV)
 | [] => none
 | x :: l => match remLast u l with
  | some m => some (x :: m)
  | none => if x = u then some l else none
def velRem (d : VelD) (u : UseV) : VelD × Int := match remLast u d.uses with
 | some m => (⟨d.hor, d.last, m⟩, 0)
 | none => (d, 6)
def inWin (key : ByteArray) (now win : Int) (u : UseV) : Bool := decide (u.key = key) && decide (now - win < u.t) && decide (u.t ≤ now)
def velCount (d : VelD) (key : ByteArray) (now win : Int) : Int := if win < 1 ∨ d.hor < win ∨ timeB now = false then 0 else ((d.uses.filter (inWin key now win)).length : Int)
def velSum (d : VelD) (key : ByteArray) (now win : Int) : Int := if win < 1 ∨ d.hor < win ∨ timeB now = false then 0 else ((d.uses.filter (inWin key now win)).map (·.amt)).sum
end Go.Proofs.YtangdoidkcelfaaGreatDoor
