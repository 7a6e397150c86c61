/- Rows of four numbers and the results made of them: sums, balance (plain facts). -/
import Derived.Test.YtmnhmkjmcckneaaGreatDoorHt
namespace Go.Proofs.YtmnhmkjmcckneaaGreatDoor
open Go.RowKit
structure Q4D where
 a : Int
 b : Int
 c : Int
 d : Int
def q4D : Q4D := ⟨0, 0, 0, 0⟩
def q4N (q : Q4D) : Nat → Int
 | 0 => q.a
 | 1 => q.b
 | 2 => q.c
 | _ => q.d
def aS1 : ByteArray := ⟨#[97]⟩
def wS1 : ByteArray := ⟨#[119]⟩
/-- The result made of a row. -/
def resQ (q : Q4D) : ResD := ⟨⟨aS1, q.a, emS⟩, lineD, ⟨emS, q.b, wS1⟩, q.a, q.b, q.c, q.d, -q.a - q.b - q.c - q.d⟩
def InQ (n : Int) : Prop := -1099511627776 ≤ n ∧ n ≤ 1099511627776
def Q4Ok (q : Q4D) : Prop := ∀ j, j < 4 → InQ (q4N q j)
/-- A number of at most 2^42. -/
def In42 (n : Int) : Prop := -4398046511104 ≤ n ∧ n ≤ 4398046511104
theorem resQ_in {q : Q4D} (h : Q4Ok q) : ∀ j, j < 8 → In42 (numN (resQ q) j) := by
 have h0 := h 0 (by omega)
 have h1 := h 1 (by omega)
 have h2 := h 2 (by omega)
 have h3 := h 3 (by omega)
 unfold InQ at h0 h1 h2 h3
 simp only [q4N] at h0 h1 h2 h3
 intro j hj
 unfold In42
 match j, hj with
 | 0, _ => show _ ≤ q.a ∧ q.a ≤ _; omega
 | 1, _ => show _ ≤ q.b ∧ q.b ≤ _; omega
 | 2, _ => show _ ≤ q.c ∧ q.c ≤ _; omega
 | 3, _ => show _ ≤ q.d ∧ q.d ≤ _; omega
 | 4, _ => show _ ≤ -q.a - q.b - q.c - q.d ∧ -q.a - q.b - q.c - q.d ≤ _; omega
 | 5, _ => show _ ≤ q.a ∧ q.a ≤ _; omega
 | 6, _ => show (_ : Int) ≤ 0 ∧ (0 : Int) ≤ _; omega
 | 7, _ => show _ ≤ q.b ∧ q.b ≤ _; omega
/-- Results whose numbers are small. -/
def Small (l : List ResD) : Prop := ∀ x ∈ l, ∀ j, j < 8 → In42 (numN x j)
theorem tot_in {l : List ResD} (h : Small l) {j : Nat} (hj : j < 8) : -(4398046511104 * (l.length : Int)) ≤ tot l j ∧ tot l j ≤ 4398046511104 * (l.length : Int) := by
 induction l with
 | nil => simp [tot]
 | cons x l ih =>
  have h1 := h x (List.mem_cons_self ..) j hj
  have h2 := ih fun y hy => h y (List.mem_cons_of_mem _ hy)
  unfold In42 at h1
  rw [tot_cons, List.length_cons]
  push_cast
  omega
theorem sums_ok {l : List ResD} (h : Small l) (hl : l.length ≤ 40) : sumsV l = (sumR (tot l), 0) := by
 apply sumsV_ok
 intro k hk j hj
 have hm : l.getD k resD ∈ l := by rw [List.getD_eq_getElem?_getD, List.getElem?_eq_getElem hk, Option.getD_some]; exact List.getElem_mem hk
 have h1 := h _ hm j hj
 have h2 := tot_in (l := l.take (k + 1)) (fun y hy => h y (List.mem_of_mem_take hy)) hj
 have h3 : (l.take (k + 1)).length ≤ 40 := by rw [List.length_take]; omega
 unfold In42 at h1
 unfold stepB
 rw [Bool.and_eq_true, totalB_iff, totalB_iff]
 omega
theorem numN_sumR (f : Nat → Int) : ∀ j, j < 8 → numN (sumR f) j = f j
 | 0, _ => rfl
 | 1, _ => rfl
 | 2, _ => rfl
 | 3, _ => rfl
 | 4, _ => rfl
 | 5, _ => rfl
 | 6, _ => rfl
 | 7, _ => rfl
 | j + 8, h => by omega
theorem sumR_congr {f g : Nat → Int} (h : ∀ j, j < 8 → f j = g j) : sumR f = sumR g := by
 unfold sumR
 rw [h 0 (by omega), h 1 (by omega), h 2 (by omega), h 3 (by omega), h 4 (by omega), h 5 (by omega), h 6 (by omega), h 7 (by omega)]
theorem tot_reverse (l : List ResD) (j : Nat) : tot l.reverse j = tot l j := by
 induction l with
 | nil => rfl
 | cons x l ih => rw [List.reverse_cons, tot_append, ih, tot_cons, tot_cons, tot_nil]; omega
theorem small_reverse {l : List ResD} (h : Small l) : Small l.reverse := fun x hx => h x (List.mem_reverse.1 hx)
/-- The sum of the sums of two parts is the sum. -/
theorem sums_two {l : List ResD} (h : Small l) (hl : l.length ≤ 40) (m : Nat) : sumsV [sumR (tot (l.take m)), sumR (tot (l.drop m))] = (sumR (tot l), 0) := by
 have e : ∀ j, j < 8 → tot [sumR (tot (l.take m)), sumR (tot (l.drop m))] j = tot l j := fun j hj => by
  rw [tot_cons, tot_cons, tot_nil, numN_sumR _ j hj, numN_sumR _ j hj]
  conv => rhs; rw [← List.take_append_drop m l, tot_append]
  omega
 have ht : Small (l.take m) := fun y hy => h y (List.mem_of_mem_take hy)
 have hd : Small (l.drop m) := fun y hy => h y (List.mem_of_mem_drop hy)
 rw [← sumR_congr e]
 apply sumsV_ok
 intro k hk j hj
 have h1 := tot_in ht hj
 have h2 := tot_in hd hj
 have h3 : (l.take m).length ≤ 40 := by rw [List.length_take]; omega
 have h4 : (l.drop m).length ≤ 40 := by rw [List.length_drop]; omega
 have hk : k < 2 := hk
 unfold stepB
 rw [Bool.and_eq_true, totalB_iff, totalB_iff]
 match k, hk with
 | 0, _ =>
  show (_ ≤ numN (sumR (tot (l.take m))) j ∧ numN (sumR (tot (l.take m))) j ≤ _) ∧ _ ≤ tot [sumR (tot (l.take m))] j ∧ tot [sumR (tot (l.take m))] j ≤ _
  rw [tot_cons, tot_nil, numN_sumR _ j hj]
  omega
 | 1, _ =>
  show (_ ≤ numN (sumR (tot (l.drop m))) j ∧ numN (sumR (tot (l.drop m))) j ≤ _) ∧ _ ≤ tot [sumR (tot (l.take m)), sumR (tot (l.drop m))] j ∧ tot [sumR (tot (l.take m)), sumR (tot (l.drop m))] j ≤ _
  rw [tot_cons, tot_cons, tot_nil, numN_sumR _ j hj, numN_sumR _ j hj]
  omega
theorem small_resQ {l : List Q4D} (h : ∀ q ∈ l, Q4Ok q) : Small (l.map resQ) := fun x hx => by
 obtain ⟨q, hq, rfl⟩ := List.mem_map.1 hx
 exact resQ_in (h q hq)
theorem zero_resQ (l : List Q4D) : tot (l.map resQ) 0 + tot (l.map resQ) 1 + tot (l.map resQ) 2 + tot (l.map resQ) 3 + tot (l.map resQ) 4 = 0 ∧ tot (l.map resQ) 6 = 0 := by
 induction l with
 | nil => exact ⟨rfl, rfl⟩
 | cons q l ih =>
  obtain ⟨h1, h2⟩ := ih
  rw [List.map_cons]
  simp only [tot_cons]
  rw [h2]
  refine ⟨?_, rfl⟩
  show q.a + _ + (q.b + _) + (q.c + _) + (q.d + _) + (-q.a - q.b - q.c - q.d + _) = 0
  omega
theorem bal_resQ {l : List Q4D} (h : ∀ q ∈ l, Q4Ok q) (hl : l.length ≤ 40) : balB (sumR (tot (l.map resQ))) = true := by
 have hs := small_resQ h
 obtain ⟨z1, -⟩ := zero_resQ l
 have h0 := tot_in hs (j := 0) (by omega)
 have h1 := tot_in hs (j := 1) (by omega)
 have h2 := tot_in hs (j := 2) (by omega)
 have h3 := tot_in hs (j := 3) (by omega)
 have h4 := tot_in hs (j := 4) (by omega)
 rw [List.length_map] at h0 h1 h2 h3 h4
 generalize tot (l.map resQ) = f at *
 unfold balB totalB sumR
 simp only [Bool.and_eq_true, decide_eq_true_eq]
 omega
/-- The slice v reads as the rows. -/
def QC (w : World) (b o : Nat) (q : Q4D) : Prop := ∀ j, j < 4 → w.cell? ⟨b, o + j, none⟩ = some (.int .i64 (q4N q j))
theorem QC.ext {w w' : World} {b o : Nat} {q : Q4D} (h : QC w b o q) (k : Ext w w') : QC w' b o q := fun j hj => k.get (h j hj)
def QM (w : World) (v : Value) (l : List Q4D) : Prop :=
 l.length ≤ 140737488355328 ∧ ((∃ p c, v = .slice p 0 c ∧ l = []) ∨ ∃ b off c, v = .slice (some ⟨b, off, none⟩) l.length c ∧ ∀ i, i < l.length → QC w b (off + i * 4) (l.getD i q4D))
theorem QM.form {w : World} {v : Value} {l : List Q4D} (h : QM w v l) : ∃ p c, v = .slice p l.length c := by
 rcases h.2 with ⟨p, c, hv, hl⟩ | ⟨b, off, c, hv, -⟩
 · exact ⟨p, c, by rw [hv, hl]; rfl⟩
 · exact ⟨_, _, hv⟩
theorem QM.at {w : World} {p : Option Addr} {c : Nat} {l : List Q4D} (h : QM w (.slice p l.length c) l) (h0 : 0 < l.length) : ∃ b off, p = some ⟨b, off, none⟩ ∧ ∀ i, i < l.length → QC w b (off + i * 4) (l.getD i q4D) := by
 rcases h.2 with ⟨p', c', hv, hl⟩ | ⟨b, off, c', hv, hc⟩
 · rw [hl] at h0; cases h0
 · injection hv with h1 h2 h3
   exact ⟨b, off, h1, hc⟩
end Go.Proofs.YtmnhmkjmcckneaaGreatDoor
