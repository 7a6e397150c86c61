/- Slices of results that a call made itself: what an append leaves; parts of them. -/
import Derived.Test.YtmnhmkjmcckneaaGreatDoorHg
import Derived.Test.YtmnhmkjmcckneaaGreatDoorHeld
namespace Go.Proofs.YtmnhmkjmcckneaaGreatDoor
open Go.RowKit
def resCells (x : ResD) : List Value := [.string x.i.rule, .int .i64 x.i.amt, .string x.i.why, .string x.s.rule, .int .i64 x.s.amt, .string x.s.why, .string x.m.rule, .int .i64 x.m.amt, .string x.m.why, .int .i64 x.card, .int .i64 x.iss, .int .i64 x.acq, .int .i64 x.shop, .int .i64 x.net]
def resFlat (l : List ResD) : List Value := l.flatMap resCells
theorem resFlat_snoc (l : List ResD) (x : ResD) : resFlat (l ++ [x]) = resFlat l ++ resCells x := by simp [resFlat]
theorem resFlat_get : ∀ (l : List ResD) (i : Nat), i < l.length → ∀ c, c < 14 → (resFlat l)[i * 14 + c]? = (resCells (l.getD i resD))[c]?
 | [], i, hi, _, _ => by simp at hi
 | x :: l, 0, _, c, hc => by
  simp only [resFlat, List.flatMap_cons]
  rw [List.getElem?_append_left (by simp only [resCells, List.length_cons, List.length_nil]; omega)]
  simp
 | x :: l, i + 1, hi, c, hc => by
  have ih := resFlat_get l i (by simpa using hi) c hc
  simp only [resFlat, List.flatMap_cons, List.getD_cons_succ]
  rw [← ih, List.getElem?_append_right (by simp only [resCells, List.length_cons, List.length_nil]; omega)]
  congr 1
  simp only [resCells, List.length_cons, List.length_nil]
  omega
/-- v is a slice that a call made, from block B on, and reads as the results ys. -/
def RS (w : World) (B : Nat) (v : Value) (ys : List ResD) : Prop := ys.length ≤ 1000000 ∧ w.ownsRow B 35 14 v ys.length (resFlat ys)
theorem RS.nil (w : World) (B : Nat) : RS w B (.slice none 0 0) [] := ⟨by simp, rfl, Or.inl ⟨rfl, rfl⟩⟩
theorem RS.ext {w w' : World} {B : Nat} {v : Value} {ys : List ResD} (h : RS w B v ys) (k : Ext w w') : RS w' B v ys := ⟨h.1, ownsRow_extE h.2 k⟩
theorem RS.form {w : World} {B : Nat} {v : Value} {ys : List ResD} (h : RS w B v ys) : ∃ p c, v = .slice p ys.length c := by
 obtain ⟨_, _, ⟨h, h0⟩ | ⟨g, cap, cur, hv, _⟩⟩ := h
 · exact ⟨none, 0, by rw [h0]; exact h⟩
 · exact ⟨_, _, hv⟩
theorem RS.push {w' : World} {B g cap : Nat} {ys : List ResD} {y : ResD} (hl : ys.length < 1000000) (hown : w'.ownsRow B 35 14 (.slice (some ⟨g, 0, none⟩) (ys.length + 1) cap) (ys.length + 1) (resFlat ys ++ resCells y)) : RS w' B (.slice (some ⟨g, 0, none⟩) (ys.length + 1) cap) (ys ++ [y]) := by
 refine ⟨by simp; omega, ?_⟩
 rw [resFlat_snoc]
 simpa using hown
/-- Where the results lie: nowhere (none), or in a row of a block. -/
theorem RS.lie {w : World} {B : Nat} {v : Value} {ys : List ResD} (h : RS w B v ys) : (v = .slice none 0 0 ∧ ys = []) ∨ ∃ g cap, v = .slice (some ⟨g, 0, none⟩) ys.length cap ∧ ys.length ≤ cap ∧ cap ≤ maxLen ∧ ∀ i, i < ys.length → ResC w g (i * 14) (ys.getD i resD) := by
 obtain ⟨h0, h4, ⟨hv, hn⟩ | ⟨g, cap, cur, hv, hg, hb, hcap, hcm, hcs, htk⟩⟩ := h
 · exact Or.inl ⟨hv, List.length_eq_zero_iff.1 hn⟩
 · refine Or.inr ⟨g, cap, hv, hcap, hcm, fun i hi => ?_⟩
   · have hcell : ∀ c u, c < 14 → (resCells (ys.getD i resD))[c]? = some u → w.cell? ⟨g, i * 14 + c, none⟩ = some u := by
      intro c u hc hj
      have hb' : Blk w g cur 35 := hb
      rw [hb'.cell, ← Array.getElem?_toList, ← hj, ← resFlat_get ys i hi c hc, ← htk]
      rw [List.getElem?_take_of_lt (by omega)]
     exact ⟨hcell 0 _ (by omega) rfl, hcell 1 _ (by omega) rfl, hcell 2 _ (by omega) rfl, hcell 3 _ (by omega) rfl, hcell 4 _ (by omega) rfl, hcell 5 _ (by omega) rfl, hcell 6 _ (by omega) rfl, hcell 7 _ (by omega) rfl, hcell 8 _ (by omega) rfl, hcell 9 _ (by omega) rfl, hcell 10 _ (by omega) rfl, hcell 11 _ (by omega) rfl, hcell 12 _ (by omega) rfl, hcell 13 _ (by omega) rfl⟩
theorem res_part {w : World} {g m n : Nat} {c : Nat} {ys : List ResD} (hm : m + n ≤ ys.length) (hl : ys.length ≤ 1000000) (h : ∀ i, i < ys.length → ResC w g (i * 14) (ys.getD i resD)) : ResM w (.slice (some ⟨g, m * 14, none⟩) n c) ((ys.drop m).take n) := by
 have hlen : ((ys.drop m).take n).length = n := by rw [List.length_take, List.length_drop]; omega
 refine ⟨by omega, Or.inr ⟨g, m * 14, c, by rw [hlen], fun i hi => ?_⟩⟩
 rw [hlen] at hi
 have e : ((ys.drop m).take n).getD i resD = ys.getD (m + i) resD := by
  simp only [List.getD_eq_getElem?_getD]
  rw [List.getElem?_take_of_lt hi, List.getElem?_drop]
 have e2 : m * 14 + i * 14 = (m + i) * 14 := by omega
 rw [e, e2]
 exact h (m + i) (by omega)
theorem RS.toM {w : World} {B : Nat} {v : Value} {ys : List ResD} (h : RS w B v ys) : ResM w v ys := by
 have hl := h.1
 rcases h.lie with ⟨rfl, rfl⟩ | ⟨g, cap, rfl, -, -, hc⟩
 · exact ⟨by simp, Or.inl ⟨none, 0, rfl, rfl⟩⟩
 · exact ⟨by omega, Or.inr ⟨g, 0, cap, rfl, fun i hi => by rw [Nat.zero_add]; exact hc i hi⟩⟩
theorem rev_drop {ys : List ResD} {m : Nat} (h : m < ys.length) : (ys.drop (m + 1)).reverse ++ [ys.getD m resD] = (ys.drop m).reverse := by
 rw [List.drop_eq_getElem_cons h, List.reverse_cons, List.getD_eq_getElem?_getD, List.getElem?_eq_getElem h]
 rfl
theorem part_take {w w2 : World} {g cap M : Nat} {ys : List ResD} (hl : ys.length ≤ 1000000) (hM : M ≤ ys.length) (h : ∀ i, i < ys.length → ResC w g (i * 14) (ys.getD i resD)) (k : Ext w w2) : ResM w2 (.slice (some ⟨g, 0, none⟩) M cap) (ys.take M) := by
 have r := res_part (w := w2) (g := g) (m := 0) (n := M) (c := cap) (ys := ys) (by omega) hl (fun i hi => (h i hi).ext k)
 rw [List.drop_zero, Nat.zero_mul] at r
 exact r
theorem part_drop {w w2 : World} {g c M n : Nat} {ys : List ResD} (hn : n = ys.length) (hl : ys.length ≤ 1000000) (hM : M ≤ n) (h : ∀ i, i < ys.length → ResC w g (i * 14) (ys.getD i resD)) (k : Ext w w2) : ResM w2 (.slice (some ⟨g, M * 14, none⟩) (n - M) c) (ys.drop M) := by
 have r := res_part (w := w2) (g := g) (m := M) (n := n - M) (c := c) (ys := ys) (by omega) hl (fun i hi => (h i hi).ext k)
 rw [show (ys.drop M).take (n - M) = ys.drop M from List.take_of_length_le (by rw [List.length_drop]; omega)] at r
 exact r
theorem part_end {w : World} {p : Option Addr} {c n M : Nat} {ys : List ResD} (hn : n = ys.length) (h : n ≤ M) : ResM w (.slice p (n - M) c) (ys.drop M) := by
 have e : ys.drop M = [] := List.drop_eq_nil_of_le (by omega)
 rw [e, show n - M = 0 by omega]
 exact ⟨by simp, Or.inl ⟨_, _, rfl, rfl⟩⟩
theorem infoReE : (Tryz.prog.info? 35).map (fun i => (i.zero, i.size, i.bytes)) = some (some (.agg #[.string ⟨#[]⟩, .int .i64 0, .string ⟨#[]⟩, .string ⟨#[]⟩, .int .i64 0, .string ⟨#[]⟩, .string ⟨#[]⟩, .int .i64 0, .string ⟨#[]⟩, .int .i64 0, .int .i64 0, .int .i64 0, .int .i64 0, .int .i64 0]), 14, 160) := by kernel_rfl
theorem re_one (x : ResD) : ∀ u ∈ resCells x, u.oneCell' = true := by
 intro u hu
 simp only [resCells, List.mem_cons, List.not_mem_nil, or_false] at hu
 rcases hu with rfl | rfl | rfl | rfl | rfl | rfl | rfl | rfl | rfl | rfl | rfl | rfl | rfl | rfl <;> rfl
theorem cell_re_new {W : World} {x : ResD} {T : TypeId} {B : Nat} (h : Blk W B (resCells x).toArray T) : ∀ j u, (resCells x)[j]? = some u → W.cell? ((⟨B, 0, none⟩ : Addr).add j) = some u := by
 intro j u hj
 have e : (⟨B, 0, none⟩ : Addr).add j = ⟨B, j, none⟩ := by
  simp [Addr.add]
  exact fun h => h.symm
 rw [e, h.cell j]
 simpa using hj
/-- The cells of a sum. -/
def sumC (f : Nat → Int) : Array Value := #[.string ⟨#[115, 117, 109]⟩, .int .i64 (f 5), .string ⟨#[]⟩, .string ⟨#[115, 117, 109]⟩, .int .i64 (f 6), .string ⟨#[]⟩, .string ⟨#[115, 117, 109]⟩, .int .i64 (f 7), .string ⟨#[]⟩, .int .i64 (f 0), .int .i64 (f 1), .int .i64 (f 2), .int .i64 (f 3), .int .i64 (f 4)]
end Go.Proofs.YtmnhmkjmcckneaaGreatDoor
