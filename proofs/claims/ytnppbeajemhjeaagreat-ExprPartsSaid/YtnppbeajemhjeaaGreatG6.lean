/- Contracts of the reference's num, truth, product, two, used (of no uses), leaf (walks; printed by gen/g6.py). -/
import Derived.Test.YtnppbeajemhjeaaGreatG5
import Derived.Test.YtnppbeajemhjeaaGreatEg
namespace Go.Proofs.YtnppbeajemhjeaaGreat
open Go.RowKit
/-- What the reference's evaluation returns. -/
def EvP (o : Option Feat) (w : World) (e : Ending) (w' : World) : Prop := e = .returned (.tuple #[.agg #[.string (o.getD fD).name, .int .i64 (o.getD fD).kind, .int .i64 (o.getD fD).n, .string (o.getD fD).text], .int .i64 (if o.isSome then 0 else 4)]) ∧ Ext w w'
theorem evP_none {w w' : World} {e : Ending} (h : EvP none w e w') : e = .returned (.tuple #[.agg #[.string ⟨#[]⟩, .int .i64 0, .int .i64 0, .string ⟨#[]⟩], .int .i64 4]) ∧ Ext w w' := h
theorem evP_some {f : Feat} {w w' : World} {e : Ending} (h : EvP (some f) w e w') : e = .returned (.tuple #[.agg #[.string f.name, .int .i64 f.kind, .int .i64 f.n, .string f.text], .int .i64 0]) ∧ Ext w w' := h
theorem evP_n {R : Option Feat} {w w' : World} (hR : R = none) (h : Ext w w') : EvP R w (.returned (.tuple #[.agg #[.string ⟨#[]⟩, .int .i64 0, .int .i64 0, .string ⟨#[]⟩], .int .i64 4])) w' := by subst hR; exact ⟨rfl, h⟩
theorem evP_s {R : Option Feat} {f : Feat} {w w' : World} (hR : R = some f) (h : Ext w w') : EvP R w (.returned (.tuple #[.agg #[.string f.name, .int .i64 f.kind, .int .i64 f.n, .string f.text], .int .i64 0])) w' := by subst hR; exact ⟨rfl, h⟩
def numO (n : Int) : Option Feat := if nbrB n then some (numF n) else none
set_option maxRecDepth 8000 in
set_option maxHeartbeats 1000000 in
theorem rnum_any (n : Int) (w : World) : Calls Tryz.prog 91 #[.int .i64 n] w (EvP (numO n) w) := by
  obtain ⟨R, hR⟩ : ∃ R, R = numO n := ⟨_, rfl⟩
  rw [← hR]
  unfold numO at hR
  cases hn : nbrB n with
  | true =>
    have hR2 := Lib.hid (show R = some ⟨⟨#[]⟩, 1, n, ⟨#[]⟩⟩ by rw [hR, if_pos hn]; rfl)
    clear hR
    go_enter Tryz.func91, Tryz.ntmps91
    go_wp2_with fail
    refine (rnumber_any n _).mono ?_
    rintro e w1 ⟨rfl, rfl⟩
    rw [hn]
    clear hn
    go_wp2
    exact bodyPost_ret (v := .tuple #[.agg #[.string ⟨#[]⟩, .int .i64 1, .int .i64 n, .string ⟨#[]⟩], .int .i64 0]) (by simp [results, Tryz.results91, go_sem]) rfl (evP_s (f := ⟨⟨#[]⟩, 1, n, ⟨#[]⟩⟩) hR2.out (by repeat (first | with_reducible exact Ext.refl _ | with_reducible exact hE0 | with_reducible exact hE | with_reducible refine Ext.alloc ?_ _ | with_reducible refine Ext.drewN ?_ _ | with_reducible refine Ext.drew ?_ | ((with_reducible refine Ext.setCell ?_ ?side _); (case side => first | exact Nat.le_refl _ | (simp; done) | (simp; omega))))))
  | false =>
    have hR2 := Lib.hid (show R = none by rw [hR, if_neg (by rw [hn]; simp)])
    clear hR
    go_enter Tryz.func91, Tryz.ntmps91
    go_wp2_with fail
    refine (rnumber_any n _).mono ?_
    rintro e w1 ⟨rfl, rfl⟩
    rw [hn]
    clear hn
    go_wp2
    exact bodyPost_ret (v := .tuple #[.agg #[.string ⟨#[]⟩, .int .i64 0, .int .i64 0, .string ⟨#[]⟩], .int .i64 4]) (by simp [results, Tryz.results91, go_sem]) rfl (evP_n hR2.out (by repeat (first | with_reducible exact Ext.refl _ | with_reducible exact hE0 | with_reducible exact hE | with_reducible refine Ext.alloc ?_ _ | with_reducible refine Ext.drewN ?_ _ | with_reducible refine Ext.drew ?_ | ((with_reducible refine Ext.setCell ?_ ?side _); (case side => first | exact Nat.le_refl _ | (simp; done) | (simp; omega))))))
theorem rtruth_any (b : Bool) (w : World) : Calls Tryz.prog 90 #[.bool b] w (EvP (some (truthF b)) w) := by
  cases b with
  | true =>
    go_enter Tryz.func90, Tryz.ntmps90
    go_wp2
    exact bodyPost_ret (v := .tuple #[.agg #[.string ⟨#[]⟩, .int .i64 3, .int .i64 1, .string ⟨#[]⟩], .int .i64 0]) (by simp [results, Tryz.results90, go_sem]) rfl (evP_s (f := ⟨⟨#[]⟩, 3, 1, ⟨#[]⟩⟩) rfl (by repeat (first | with_reducible exact Ext.refl _ | with_reducible exact hE0 | with_reducible exact hE | with_reducible refine Ext.alloc ?_ _ | with_reducible refine Ext.drewN ?_ _ | with_reducible refine Ext.drew ?_ | ((with_reducible refine Ext.setCell ?_ ?side _); (case side => first | exact Nat.le_refl _ | (simp; done) | (simp; omega))))))
  | false =>
    go_enter Tryz.func90, Tryz.ntmps90
    go_wp2
    exact bodyPost_ret (v := .tuple #[.agg #[.string ⟨#[]⟩, .int .i64 3, .int .i64 0, .string ⟨#[]⟩], .int .i64 0]) (by simp [results, Tryz.results90, go_sem]) rfl (evP_s (f := ⟨⟨#[]⟩, 3, 0, ⟨#[]⟩⟩) rfl (by repeat (first | with_reducible exact Ext.refl _ | with_reducible exact hE0 | with_reducible exact hE | with_reducible refine Ext.alloc ?_ _ | with_reducible refine Ext.drewN ?_ _ | with_reducible refine Ext.drew ?_ | ((with_reducible refine Ext.setCell ?_ ?side _); (case side => first | exact Nat.le_refl _ | (simp; done) | (simp; omega))))))
def PrP (a b : Int) (w : World) (e : Ending) (w' : World) : Prop := ∃ m c, e = .returned (.tuple #[.int .i64 m, .bool c]) ∧ mulV a b = (if c then some m else none) ∧ w = w'
theorem most_div {x y : Int} (_ : 0 ≤ x) (hy : 0 < y) : x ≤ 4611686018427387904 / y ↔ x * y ≤ 4611686018427387904 := Int.le_ediv_iff_mul_le hy
theorem mul_abs (a b : Int) : nbrB (a * b) = true ↔ (a.natAbs : Int) * b.natAbs ≤ 4611686018427387904 := by
  rw [natAbs_mul_le]
  have h2 : (a.natAbs : Int) * b.natAbs = ((a.natAbs * b.natAbs : Nat) : Int) := (Int.natCast_mul _ _).symm
  rw [h2]
  generalize a.natAbs * b.natAbs = P
  constructor
  · intro h; omega
  · intro h; omega
set_option maxRecDepth 8000 in
set_option maxHeartbeats 2000000 in
theorem rproduct_any (a b : Int) (w : World) (ha : nbrB a = true) (hb : nbrB b = true) : Calls Tryz.prog 101 #[.int .i64 a, .int .i64 b] w (PrP a b w) := by
  rw [nbr_iff] at ha hb
  by_cases a0 : a = 0
  · have d0 : (a == 0) = true := by simpa using a0
    have hm := Lib.hid (show mulV a b = (if true then some 0 else none) by rw [a0]; simp [mulV, nbrB])
    clear ha hb a0
    go_enter Tryz.func101, Tryz.ntmps101
    go_wp2
    go_ret2
    exact ⟨0, true, rfl, hm.out, rfl⟩
  · have d0 : (a == 0) = false := by simpa using a0
    by_cases b0 : b = 0
    · have d1 : (b == 0) = true := by simpa using b0
      have hm := Lib.hid (show mulV a b = (if true then some 0 else none) by rw [b0]; simp [mulV, nbrB])
      clear ha hb a0 b0
      go_enter Tryz.func101, Tryz.ntmps101
      go_wp2
      go_ret2
      exact ⟨0, true, rfl, hm.out, rfl⟩
    · have d1 : (b == 0) = false := by simpa using b0
      obtain ⟨x, hx⟩ : ∃ x : Int, x = a.natAbs := ⟨_, rfl⟩
      obtain ⟨y, hy⟩ : ∃ y : Int, y = b.natAbs := ⟨_, rfl⟩
      have hy0 : 0 < y := by omega
      obtain ⟨Q, hQ⟩ : ∃ Q, Q = (4611686018427387904 : Int) / y := ⟨_, rfl⟩
      have eQ : (4611686018427387904 : Int).tdiv y = Q := by rw [hQ, Int.tdiv_eq_ediv_of_nonneg (by omega)]
      have hdiv : x ≤ Q ↔ nbrB (a * b) = true := by rw [hQ, most_div (by omega) hy0, mul_abs, ← hx, ← hy]
      have hwr : nbrB (a * b) = true → wrap64 (a * b) = a * b := fun h => by rw [nbr_iff] at h; exact wrap64_id _ (by omega) (by omega)
      have hQr : 0 ≤ Q ∧ Q ≤ 4611686018427387904 := by
        rw [hQ]
        exact ⟨Int.ediv_nonneg (by omega) (by omega), Int.ediv_le_self _ (by omega)⟩
      have eQw : wrap64 Q = Q := wrap64_id _ (by omega) (by omega)
      have hMb : ∃ m, m = wrap64 (a * b) := ⟨_, rfl⟩
      obtain ⟨M, hM⟩ := hMb
      have y0 : (y == 0) = false := by simp; omega
      have yn : ¬ y = 0 := by omega
      have sg : (¬ a < 0 ∧ x = a ∨ a < 0 ∧ x = -a ∧ wrap64 (-a) = x) ∧ (¬ b < 0 ∧ y = b ∨ b < 0 ∧ y = -b ∧ wrap64 (-b) = y) := by
        refine ⟨?_, ?_⟩
        · by_cases h : a < 0
          · exact Or.inr ⟨h, by omega, by rw [wrap64_id _ (by omega) (by omega)]; omega⟩
          · exact Or.inl ⟨h, by omega⟩
        · by_cases h : b < 0
          · exact Or.inr ⟨h, by omega, by rw [wrap64_id _ (by omega) (by omega)]; omega⟩
          · exact Or.inl ⟨h, by omega⟩
      have hres : (x ≤ Q → mulV a b = some M ∧ nbrB M = true) ∧ (¬ x ≤ Q → mulV a b = none) := by
        refine ⟨fun h => ?_, fun h => ?_⟩
        · have h1 := hdiv.1 h
          have h2 := hwr h1
          rw [hM, h2]
          exact ⟨by unfold mulV; rw [if_pos h1], h1⟩
        · unfold mulV
          rw [if_neg (fun h1 => h (hdiv.2 h1))]
      replace hres := Lib.hid hres
      have eM : wrap64 (a * b) = M := hM.symm
      clear hdiv hwr hM hQr hQ ha hb a0 b0 hx hy hy0
      obtain ⟨sa, sb⟩ := sg
      rcases sa with ⟨sa1, sa2⟩ | ⟨sa1, sa2, sa3⟩
      · have da : decide (a < 0) = false := decide_eq_false sa1
        rcases sb with ⟨sb1, sb2⟩ | ⟨sb1, sb2, sb3⟩
        · have db : decide (b < 0) = false := decide_eq_false sb1
          subst sa2 sb2
          clear sa1 sb1
          by_cases hc : x ≤ Q
          · have dc : decide (x ≤ Q) = true := decide_eq_true hc
            obtain ⟨h1, h2⟩ := hres.out.1 hc
            have h1 := Lib.hid h1
            clear hc hres
            go_enter Tryz.func101, Tryz.ntmps101
            go_wp2_with fail
            refine (rnumber_any M _).mono ?_
            rintro e w1 ⟨rfl, rfl⟩
            rw [h2]
            go_wp2
            go_ret2
            exact ⟨_, true, rfl, h1.out, rfl⟩
          · have dc : decide (x ≤ Q) = false := decide_eq_false hc
            have h1 := Lib.hid (hres.out.2 hc)
            clear hc hres
            go_enter Tryz.func101, Tryz.ntmps101
            go_wp2
            go_ret2
            exact ⟨_, false, rfl, h1.out, rfl⟩
        · have db : decide (b < 0) = true := decide_eq_true sb1
          subst sa2
          clear sa1 sb1 sb2
          by_cases hc : x ≤ Q
          · have dc : decide (x ≤ Q) = true := decide_eq_true hc
            obtain ⟨h1, h2⟩ := hres.out.1 hc
            have h1 := Lib.hid h1
            clear hc hres
            go_enter Tryz.func101, Tryz.ntmps101
            go_wp2_with fail
            refine (rnumber_any M _).mono ?_
            rintro e w1 ⟨rfl, rfl⟩
            rw [h2]
            go_wp2
            go_ret2
            exact ⟨_, true, rfl, h1.out, rfl⟩
          · have dc : decide (x ≤ Q) = false := decide_eq_false hc
            have h1 := Lib.hid (hres.out.2 hc)
            clear hc hres
            go_enter Tryz.func101, Tryz.ntmps101
            go_wp2
            go_ret2
            exact ⟨_, false, rfl, h1.out, rfl⟩
      · have da : decide (a < 0) = true := decide_eq_true sa1
        rcases sb with ⟨sb1, sb2⟩ | ⟨sb1, sb2, sb3⟩
        · have db : decide (b < 0) = false := decide_eq_false sb1
          subst sb2
          clear sa1 sa2 sb1
          by_cases hc : x ≤ Q
          · have dc : decide (x ≤ Q) = true := decide_eq_true hc
            obtain ⟨h1, h2⟩ := hres.out.1 hc
            have h1 := Lib.hid h1
            clear hc hres
            go_enter Tryz.func101, Tryz.ntmps101
            go_wp2_with fail
            refine (rnumber_any M _).mono ?_
            rintro e w1 ⟨rfl, rfl⟩
            rw [h2]
            go_wp2
            go_ret2
            exact ⟨_, true, rfl, h1.out, rfl⟩
          · have dc : decide (x ≤ Q) = false := decide_eq_false hc
            have h1 := Lib.hid (hres.out.2 hc)
            clear hc hres
            go_enter Tryz.func101, Tryz.ntmps101
            go_wp2
            go_ret2
            exact ⟨_, false, rfl, h1.out, rfl⟩
        · have db : decide (b < 0) = true := decide_eq_true sb1
          clear sa1 sa2 sb1 sb2
          by_cases hc : x ≤ Q
          · have dc : decide (x ≤ Q) = true := decide_eq_true hc
            obtain ⟨h1, h2⟩ := hres.out.1 hc
            have h1 := Lib.hid h1
            clear hc hres
            go_enter Tryz.func101, Tryz.ntmps101
            go_wp2_with fail
            refine (rnumber_any M _).mono ?_
            rintro e w1 ⟨rfl, rfl⟩
            rw [h2]
            go_wp2
            go_ret2
            exact ⟨_, true, rfl, h1.out, rfl⟩
          · have dc : decide (x ≤ Q) = false := decide_eq_false hc
            have h1 := Lib.hid (hres.out.2 hc)
            clear hc hres
            go_enter Tryz.func101, Tryz.ntmps101
            go_wp2
            go_ret2
            exact ⟨_, false, rfl, h1.out, rfl⟩
theorem featNe (a b : Feat) (w : World) : (binOp .neq 36 (.agg #[.string a.name, .int .i64 a.kind, .int .i64 a.n, .string a.text]) (.agg #[.string b.name, .int .i64 b.kind, .int .i64 b.n, .string b.text])).run Tryz.prog w = .ok (.bool (decide (a ≠ b))) w := by
  rcases feat_cases a b with h | ⟨hne, h⟩
  · subst h
    rw [decide_eq_false (by simp)]
    go_simp
  · rw [decide_eq_true hne]
    obtain ⟨an, ak, am, at'⟩ := a
    obtain ⟨bn, bk, bm, bt⟩ := b
    simp only at h ⊢
    rcases h with h | ⟨e1, h⟩ | ⟨e1, e2, h⟩ | ⟨e1, e2, e3, h⟩
    · have g := bytes_ne h
      go_simp
    · have g : (ak == bk) = false := by simp [h]
      subst e1
      go_simp
    · have g : (am == bm) = false := by simp [h]
      subst e1
      subst e2
      go_simp
    · have g := bytes_ne h
      subst e1
      subst e2
      subst e3
      go_simp
theorem num_sum {a b : Int} (ha : nbrB a = true) (hb : nbrB b = true) : numO (wrap64 (a + b)) = (sumV a b).map numF := by
  rw [nbr_iff] at ha hb
  unfold numO sumV
  by_cases h : nbrB (a + b) = true
  · have h2 := (nbr_iff _).1 h
    rw [wrap64_id _ (by omega) (by omega), if_pos h, if_pos h]; rfl
  · have h3 : nbrB (wrap64 (a + b)) = false := by
      cases e : nbrB (wrap64 (a + b)) with
      | false => rfl
      | true =>
        exfalso
        rw [nbr_iff] at e h
        unfold wrap64 at e
        omega
    rw [if_neg (by rw [h3]; simp), if_neg h]; rfl
theorem num_mul {a b m : Int} {c : Bool} (h : mulV a b = (if c then some m else none)) (hc : c = true) : numO m = (mulV a b).map numF := by
  subst hc
  rw [if_pos rfl] at h
  rw [h]
  have := mulV_ok h
  unfold numO
  rw [if_pos this]; rfl
set_option maxRecDepth 8000 in
set_option maxHeartbeats 2000000 in
theorem rtwo8 (a b : Feat) (w : World) : Calls Tryz.prog 92 #[.int .i64 8, .agg #[.string a.name, .int .i64 a.kind, .int .i64 a.n, .string a.text], .agg #[.string b.name, .int .i64 b.kind, .int .i64 b.n, .string b.text]] w (EvP (comb 8 a b) w) := by
  have hR := Lib.hid (show comb 8 a b = some (truthF (decide (a = b))) by simp [comb])
  have kT := Lib.hid (fun w1 => rtruth_any (decide (a = b)) w1)
  have hq := fun (w : World) => featEq a b w
  generalize comb 8 a b = R at *
  generalize truthF (decide (a = b)) = f at *
  generalize decide (a = b) = bb at *
  go_enter Tryz.func92, Tryz.ntmps92
  have hb := Blk.new' ((w.alloc (.cells #[.string a.name, .int .i64 a.kind, .int .i64 a.n, .string a.text] 36)).alloc (.cells #[.string b.name, .int .i64 b.kind, .int .i64 b.n, .string b.text] 36)) #[.string ⟨#[]⟩, .int .i64 0, .int .i64 0, .string ⟨#[]⟩] 36 (w.heap.size + 1 + 1) (by simp)
  go_wp2_with fail
  refine (kT.out _).mono ?_
  clear hq
  rintro e w1 hq
  obtain ⟨rfl, hE1⟩ := evP_some hq
  have hbr := hb.ext hE1
  have z0 := hbr.cell 0
  have z1 := hbr.cell 1
  have z2 := hbr.cell 2
  have z3 := hbr.cell 3
  have f0 := hbr.fz 0
  have f1 := hbr.fz 1
  have f2 := hbr.fz 2
  have f3 := hbr.fz 3
  simp at z0 z1 z2 z3
  have zl : w.heap.size + 1 + 1 < w1.heap.size := hbr.lt
  have hE : Ext w w1 := Ext.trans (by repeat (first | with_reducible exact Ext.refl _ | with_reducible exact hE0 | with_reducible exact hE | with_reducible refine Ext.alloc ?_ _ | with_reducible refine Ext.drewN ?_ _ | with_reducible refine Ext.drew ?_ | ((with_reducible refine Ext.setCell ?_ ?side _); (case side => first | exact Nat.le_refl _ | (simp; done) | (simp; omega))))) hE1
  clear hE1 hbr hb
  clear kT
  go_wp2
  exact bodyPost_ret (v := .tuple #[.agg #[.string f.name, .int .i64 f.kind, .int .i64 f.n, .string f.text], .int .i64 0]) (by first | (simp [results, Tryz.results92, go_sem, z0, z1, z2, z3]; done) | simp [results, Tryz.results92, go_sem]) rfl (evP_s (f := f) hR.out (by repeat (first | with_reducible exact Ext.refl _ | with_reducible exact hE0 | with_reducible exact hE | with_reducible refine Ext.alloc ?_ _ | with_reducible refine Ext.drewN ?_ _ | with_reducible refine Ext.drew ?_ | ((with_reducible refine Ext.setCell ?_ ?side _); (case side => first | exact Nat.le_refl _ | (simp; done) | (simp; omega))))))
set_option maxRecDepth 8000 in
set_option maxHeartbeats 2000000 in
theorem rtwo9 (a b : Feat) (w : World) : Calls Tryz.prog 92 #[.int .i64 9, .agg #[.string a.name, .int .i64 a.kind, .int .i64 a.n, .string a.text], .agg #[.string b.name, .int .i64 b.kind, .int .i64 b.n, .string b.text]] w (EvP (comb 9 a b) w) := by
  have hR := Lib.hid (show comb 9 a b = some (truthF (decide (a ≠ b))) by unfold comb; rw [if_neg (by omega), if_pos rfl])
  have kT := Lib.hid (fun w1 => rtruth_any (decide (a ≠ b)) w1)
  have hq := fun (w : World) => featNe a b w
  generalize comb 9 a b = R at *
  generalize truthF (decide (a ≠ b)) = f at *
  generalize decide (a ≠ b) = bb at *
  go_enter Tryz.func92, Tryz.ntmps92
  have hb := Blk.new' ((w.alloc (.cells #[.string a.name, .int .i64 a.kind, .int .i64 a.n, .string a.text] 36)).alloc (.cells #[.string b.name, .int .i64 b.kind, .int .i64 b.n, .string b.text] 36)) #[.string ⟨#[]⟩, .int .i64 0, .int .i64 0, .string ⟨#[]⟩] 36 (w.heap.size + 1 + 1) (by simp)
  go_wp2_with fail
  refine (kT.out _).mono ?_
  clear hq
  rintro e w1 hq
  obtain ⟨rfl, hE1⟩ := evP_some hq
  have hbr := hb.ext hE1
  have z0 := hbr.cell 0
  have z1 := hbr.cell 1
  have z2 := hbr.cell 2
  have z3 := hbr.cell 3
  have f0 := hbr.fz 0
  have f1 := hbr.fz 1
  have f2 := hbr.fz 2
  have f3 := hbr.fz 3
  simp at z0 z1 z2 z3
  have zl : w.heap.size + 1 + 1 < w1.heap.size := hbr.lt
  have hE : Ext w w1 := Ext.trans (by repeat (first | with_reducible exact Ext.refl _ | with_reducible exact hE0 | with_reducible exact hE | with_reducible refine Ext.alloc ?_ _ | with_reducible refine Ext.drewN ?_ _ | with_reducible refine Ext.drew ?_ | ((with_reducible refine Ext.setCell ?_ ?side _); (case side => first | exact Nat.le_refl _ | (simp; done) | (simp; omega))))) hE1
  clear hE1 hbr hb
  clear kT
  go_wp2
  exact bodyPost_ret (v := .tuple #[.agg #[.string f.name, .int .i64 f.kind, .int .i64 f.n, .string f.text], .int .i64 0]) (by first | (simp [results, Tryz.results92, go_sem, z0, z1, z2, z3]; done) | simp [results, Tryz.results92, go_sem]) rfl (evP_s (f := f) hR.out (by repeat (first | with_reducible exact Ext.refl _ | with_reducible exact hE0 | with_reducible exact hE | with_reducible refine Ext.alloc ?_ _ | with_reducible refine Ext.drewN ?_ _ | with_reducible refine Ext.drew ?_ | ((with_reducible refine Ext.setCell ?_ ?side _); (case side => first | exact Nat.le_refl _ | (simp; done) | (simp; omega))))))
set_option maxRecDepth 8000 in
set_option maxHeartbeats 2000000 in
theorem rtwo10 (a b : Feat) (w : World) : Calls Tryz.prog 92 #[.int .i64 10, .agg #[.string a.name, .int .i64 a.kind, .int .i64 a.n, .string a.text], .agg #[.string b.name, .int .i64 b.kind, .int .i64 b.n, .string b.text]] w (EvP (comb 10 a b) w) := by
  have hR := Lib.hid (show comb 10 a b = some (truthF (decide (a.n < b.n))) by simp [comb])
  have kT := Lib.hid (fun w1 => rtruth_any (decide (a.n < b.n)) w1)
  generalize comb 10 a b = R at *
  generalize truthF (decide (a.n < b.n)) = f at *
  go_enter Tryz.func92, Tryz.ntmps92
  have hb := Blk.new' ((w.alloc (.cells #[.string a.name, .int .i64 a.kind, .int .i64 a.n, .string a.text] 36)).alloc (.cells #[.string b.name, .int .i64 b.kind, .int .i64 b.n, .string b.text] 36)) #[.string ⟨#[]⟩, .int .i64 0, .int .i64 0, .string ⟨#[]⟩] 36 (w.heap.size + 1 + 1) (by simp)
  go_wp2_with fail
  refine (kT.out _).mono ?_
  rintro e w1 hq
  obtain ⟨rfl, hE1⟩ := evP_some hq
  have hbr := hb.ext hE1
  have z0 := hbr.cell 0
  have z1 := hbr.cell 1
  have z2 := hbr.cell 2
  have z3 := hbr.cell 3
  have f0 := hbr.fz 0
  have f1 := hbr.fz 1
  have f2 := hbr.fz 2
  have f3 := hbr.fz 3
  simp at z0 z1 z2 z3
  have zl : w.heap.size + 1 + 1 < w1.heap.size := hbr.lt
  have hE : Ext w w1 := Ext.trans (by repeat (first | with_reducible exact Ext.refl _ | with_reducible exact hE0 | with_reducible exact hE | with_reducible refine Ext.alloc ?_ _ | with_reducible refine Ext.drewN ?_ _ | with_reducible refine Ext.drew ?_ | ((with_reducible refine Ext.setCell ?_ ?side _); (case side => first | exact Nat.le_refl _ | (simp; done) | (simp; omega))))) hE1
  clear hE1 hbr hb
  clear kT
  go_wp2
  exact bodyPost_ret (v := .tuple #[.agg #[.string f.name, .int .i64 f.kind, .int .i64 f.n, .string f.text], .int .i64 0]) (by first | (simp [results, Tryz.results92, go_sem, z0, z1, z2, z3]; done) | simp [results, Tryz.results92, go_sem]) rfl (evP_s (f := f) hR.out (by repeat (first | with_reducible exact Ext.refl _ | with_reducible exact hE0 | with_reducible exact hE | with_reducible refine Ext.alloc ?_ _ | with_reducible refine Ext.drewN ?_ _ | with_reducible refine Ext.drew ?_ | ((with_reducible refine Ext.setCell ?_ ?side _); (case side => first | exact Nat.le_refl _ | (simp; done) | (simp; omega))))))
set_option maxRecDepth 8000 in
set_option maxHeartbeats 2000000 in
theorem rtwo11 (a b : Feat) (w : World) : Calls Tryz.prog 92 #[.int .i64 11, .agg #[.string a.name, .int .i64 a.kind, .int .i64 a.n, .string a.text], .agg #[.string b.name, .int .i64 b.kind, .int .i64 b.n, .string b.text]] w (EvP (comb 11 a b) w) := by
  have hR := Lib.hid (show comb 11 a b = some (truthF (decide (a.n ≤ b.n))) by simp [comb])
  have kT := Lib.hid (fun w1 => rtruth_any (decide (a.n ≤ b.n)) w1)
  generalize comb 11 a b = R at *
  generalize truthF (decide (a.n ≤ b.n)) = f at *
  go_enter Tryz.func92, Tryz.ntmps92
  have hb := Blk.new' ((w.alloc (.cells #[.string a.name, .int .i64 a.kind, .int .i64 a.n, .string a.text] 36)).alloc (.cells #[.string b.name, .int .i64 b.kind, .int .i64 b.n, .string b.text] 36)) #[.string ⟨#[]⟩, .int .i64 0, .int .i64 0, .string ⟨#[]⟩] 36 (w.heap.size + 1 + 1) (by simp)
  go_wp2_with fail
  refine (kT.out _).mono ?_
  rintro e w1 hq
  obtain ⟨rfl, hE1⟩ := evP_some hq
  have hbr := hb.ext hE1
  have z0 := hbr.cell 0
  have z1 := hbr.cell 1
  have z2 := hbr.cell 2
  have z3 := hbr.cell 3
  have f0 := hbr.fz 0
  have f1 := hbr.fz 1
  have f2 := hbr.fz 2
  have f3 := hbr.fz 3
  simp at z0 z1 z2 z3
  have zl : w.heap.size + 1 + 1 < w1.heap.size := hbr.lt
  have hE : Ext w w1 := Ext.trans (by repeat (first | with_reducible exact Ext.refl _ | with_reducible exact hE0 | with_reducible exact hE | with_reducible refine Ext.alloc ?_ _ | with_reducible refine Ext.drewN ?_ _ | with_reducible refine Ext.drew ?_ | ((with_reducible refine Ext.setCell ?_ ?side _); (case side => first | exact Nat.le_refl _ | (simp; done) | (simp; omega))))) hE1
  clear hE1 hbr hb
  clear kT
  go_wp2
  exact bodyPost_ret (v := .tuple #[.agg #[.string f.name, .int .i64 f.kind, .int .i64 f.n, .string f.text], .int .i64 0]) (by first | (simp [results, Tryz.results92, go_sem, z0, z1, z2, z3]; done) | simp [results, Tryz.results92, go_sem]) rfl (evP_s (f := f) hR.out (by repeat (first | with_reducible exact Ext.refl _ | with_reducible exact hE0 | with_reducible exact hE | with_reducible refine Ext.alloc ?_ _ | with_reducible refine Ext.drewN ?_ _ | with_reducible refine Ext.drew ?_ | ((with_reducible refine Ext.setCell ?_ ?side _); (case side => first | exact Nat.le_refl _ | (simp; done) | (simp; omega))))))
set_option maxRecDepth 8000 in
set_option maxHeartbeats 2000000 in
theorem rtwo12 (a b : Feat) (w : World) (ha : nbrB a.n = true) (hb0 : nbrB b.n = true) : Calls Tryz.prog 92 #[.int .i64 12, .agg #[.string a.name, .int .i64 a.kind, .int .i64 a.n, .string a.text], .agg #[.string b.name, .int .i64 b.kind, .int .i64 b.n, .string b.text]] w (EvP (comb 12 a b) w) := by
  have hR0 := Lib.hid (show comb 12 a b = numO (wrap64 (a.n + b.n)) by rw [num_sum ha hb0]; simp [comb])
  have kT := Lib.hid (fun w1 => rnum_any (wrap64 (a.n + b.n)) w1)
  generalize comb 12 a b = R at *
  generalize numO (wrap64 (a.n + b.n)) = R0 at *
  clear ha hb0
  cases R0 with
  | none =>
    go_enter Tryz.func92, Tryz.ntmps92
    have hb := Blk.new' ((w.alloc (.cells #[.string a.name, .int .i64 a.kind, .int .i64 a.n, .string a.text] 36)).alloc (.cells #[.string b.name, .int .i64 b.kind, .int .i64 b.n, .string b.text] 36)) #[.string ⟨#[]⟩, .int .i64 0, .int .i64 0, .string ⟨#[]⟩] 36 (w.heap.size + 1 + 1) (by simp)
    go_wp2_with fail
    refine (kT.out _).mono ?_
    rintro e w1 hq
    obtain ⟨rfl, hE1⟩ := evP_none hq
    have hbr := hb.ext hE1
    have z0 := hbr.cell 0
    have z1 := hbr.cell 1
    have z2 := hbr.cell 2
    have z3 := hbr.cell 3
    have f0 := hbr.fz 0
    have f1 := hbr.fz 1
    have f2 := hbr.fz 2
    have f3 := hbr.fz 3
    simp at z0 z1 z2 z3
    have zl : w.heap.size + 1 + 1 < w1.heap.size := hbr.lt
    have hE : Ext w w1 := Ext.trans (by repeat (first | with_reducible exact Ext.refl _ | with_reducible exact hE0 | with_reducible exact hE | with_reducible refine Ext.alloc ?_ _ | with_reducible refine Ext.drewN ?_ _ | with_reducible refine Ext.drew ?_ | ((with_reducible refine Ext.setCell ?_ ?side _); (case side => first | exact Nat.le_refl _ | (simp; done) | (simp; omega))))) hE1
    clear hE1 hbr hb
    clear kT
    go_wp2
    exact bodyPost_ret (v := .tuple #[.agg #[.string ⟨#[]⟩, .int .i64 0, .int .i64 0, .string ⟨#[]⟩], .int .i64 4]) (by first | (simp [results, Tryz.results92, go_sem, z0, z1, z2, z3]; done) | simp [results, Tryz.results92, go_sem]) rfl (evP_n hR0.out (by repeat (first | with_reducible exact Ext.refl _ | with_reducible exact hE0 | with_reducible exact hE | with_reducible refine Ext.alloc ?_ _ | with_reducible refine Ext.drewN ?_ _ | with_reducible refine Ext.drew ?_ | ((with_reducible refine Ext.setCell ?_ ?side _); (case side => first | exact Nat.le_refl _ | (simp; done) | (simp; omega))))))
  | some f =>
    go_enter Tryz.func92, Tryz.ntmps92
    have hb := Blk.new' ((w.alloc (.cells #[.string a.name, .int .i64 a.kind, .int .i64 a.n, .string a.text] 36)).alloc (.cells #[.string b.name, .int .i64 b.kind, .int .i64 b.n, .string b.text] 36)) #[.string ⟨#[]⟩, .int .i64 0, .int .i64 0, .string ⟨#[]⟩] 36 (w.heap.size + 1 + 1) (by simp)
    go_wp2_with fail
    refine (kT.out _).mono ?_
    rintro e w1 hq
    obtain ⟨rfl, hE1⟩ := evP_some hq
    have hbr := hb.ext hE1
    have z0 := hbr.cell 0
    have z1 := hbr.cell 1
    have z2 := hbr.cell 2
    have z3 := hbr.cell 3
    have f0 := hbr.fz 0
    have f1 := hbr.fz 1
    have f2 := hbr.fz 2
    have f3 := hbr.fz 3
    simp at z0 z1 z2 z3
    have zl : w.heap.size + 1 + 1 < w1.heap.size := hbr.lt
    have hE : Ext w w1 := Ext.trans (by repeat (first | with_reducible exact Ext.refl _ | with_reducible exact hE0 | with_reducible exact hE | with_reducible refine Ext.alloc ?_ _ | with_reducible refine Ext.drewN ?_ _ | with_reducible refine Ext.drew ?_ | ((with_reducible refine Ext.setCell ?_ ?side _); (case side => first | exact Nat.le_refl _ | (simp; done) | (simp; omega))))) hE1
    clear hE1 hbr hb
    clear kT
    go_wp2
    exact bodyPost_ret (v := .tuple #[.agg #[.string f.name, .int .i64 f.kind, .int .i64 f.n, .string f.text], .int .i64 0]) (by first | (simp [results, Tryz.results92, go_sem, z0, z1, z2, z3]; done) | simp [results, Tryz.results92, go_sem]) rfl (evP_s (f := f) hR0.out (by repeat (first | with_reducible exact Ext.refl _ | with_reducible exact hE0 | with_reducible exact hE | with_reducible refine Ext.alloc ?_ _ | with_reducible refine Ext.drewN ?_ _ | with_reducible refine Ext.drew ?_ | ((with_reducible refine Ext.setCell ?_ ?side _); (case side => first | exact Nat.le_refl _ | (simp; done) | (simp; omega))))))
set_option maxRecDepth 8000 in
set_option maxHeartbeats 2000000 in
theorem rtwo13 (a b : Feat) (w : World) (ha : nbrB a.n = true) (hb0 : nbrB b.n = true) : Calls Tryz.prog 92 #[.int .i64 13, .agg #[.string a.name, .int .i64 a.kind, .int .i64 a.n, .string a.text], .agg #[.string b.name, .int .i64 b.kind, .int .i64 b.n, .string b.text]] w (EvP (comb 13 a b) w) := by
  have hR0 := Lib.hid (show comb 13 a b = numO (wrap64 (a.n - b.n)) by rw [show a.n - b.n = a.n + -b.n by omega, num_sum ha (nbr_neg hb0)]; simp [comb])
  have kT := Lib.hid (fun w1 => rnum_any (wrap64 (a.n - b.n)) w1)
  generalize comb 13 a b = R at *
  generalize numO (wrap64 (a.n - b.n)) = R0 at *
  clear ha hb0
  cases R0 with
  | none =>
    go_enter Tryz.func92, Tryz.ntmps92
    have hb := Blk.new' ((w.alloc (.cells #[.string a.name, .int .i64 a.kind, .int .i64 a.n, .string a.text] 36)).alloc (.cells #[.string b.name, .int .i64 b.kind, .int .i64 b.n, .string b.text] 36)) #[.string ⟨#[]⟩, .int .i64 0, .int .i64 0, .string ⟨#[]⟩] 36 (w.heap.size + 1 + 1) (by simp)
    go_wp2_with fail
    refine (kT.out _).mono ?_
    rintro e w1 hq
    obtain ⟨rfl, hE1⟩ := evP_none hq
    have hbr := hb.ext hE1
    have z0 := hbr.cell 0
    have z1 := hbr.cell 1
    have z2 := hbr.cell 2
    have z3 := hbr.cell 3
    have f0 := hbr.fz 0
    have f1 := hbr.fz 1
    have f2 := hbr.fz 2
    have f3 := hbr.fz 3
    simp at z0 z1 z2 z3
    have zl : w.heap.size + 1 + 1 < w1.heap.size := hbr.lt
    have hE : Ext w w1 := Ext.trans (by repeat (first | with_reducible exact Ext.refl _ | with_reducible exact hE0 | with_reducible exact hE | with_reducible refine Ext.alloc ?_ _ | with_reducible refine Ext.drewN ?_ _ | with_reducible refine Ext.drew ?_ | ((with_reducible refine Ext.setCell ?_ ?side _); (case side => first | exact Nat.le_refl _ | (simp; done) | (simp; omega))))) hE1
    clear hE1 hbr hb
    clear kT
    go_wp2
    exact bodyPost_ret (v := .tuple #[.agg #[.string ⟨#[]⟩, .int .i64 0, .int .i64 0, .string ⟨#[]⟩], .int .i64 4]) (by first | (simp [results, Tryz.results92, go_sem, z0, z1, z2, z3]; done) | simp [results, Tryz.results92, go_sem]) rfl (evP_n hR0.out (by repeat (first | with_reducible exact Ext.refl _ | with_reducible exact hE0 | with_reducible exact hE | with_reducible refine Ext.alloc ?_ _ | with_reducible refine Ext.drewN ?_ _ | with_reducible refine Ext.drew ?_ | ((with_reducible refine Ext.setCell ?_ ?side _); (case side => first | exact Nat.le_refl _ | (simp; done) | (simp; omega))))))
  | some f =>
    go_enter Tryz.func92, Tryz.ntmps92
    have hb := Blk.new' ((w.alloc (.cells #[.string a.name, .int .i64 a.kind, .int .i64 a.n, .string a.text] 36)).alloc (.cells #[.string b.name, .int .i64 b.kind, .int .i64 b.n, .string b.text] 36)) #[.string ⟨#[]⟩, .int .i64 0, .int .i64 0, .string ⟨#[]⟩] 36 (w.heap.size + 1 + 1) (by simp)
    go_wp2_with fail
    refine (kT.out _).mono ?_
    rintro e w1 hq
    obtain ⟨rfl, hE1⟩ := evP_some hq
    have hbr := hb.ext hE1
    have z0 := hbr.cell 0
    have z1 := hbr.cell 1
    have z2 := hbr.cell 2
    have z3 := hbr.cell 3
    have f0 := hbr.fz 0
    have f1 := hbr.fz 1
    have f2 := hbr.fz 2
    have f3 := hbr.fz 3
    simp at z0 z1 z2 z3
    have zl : w.heap.size + 1 + 1 < w1.heap.size := hbr.lt
    have hE : Ext w w1 := Ext.trans (by repeat (first | with_reducible exact Ext.refl _ | with_reducible exact hE0 | with_reducible exact hE | with_reducible refine Ext.alloc ?_ _ | with_reducible refine Ext.drewN ?_ _ | with_reducible refine Ext.drew ?_ | ((with_reducible refine Ext.setCell ?_ ?side _); (case side => first | exact Nat.le_refl _ | (simp; done) | (simp; omega))))) hE1
    clear hE1 hbr hb
    clear kT
    go_wp2
    exact bodyPost_ret (v := .tuple #[.agg #[.string f.name, .int .i64 f.kind, .int .i64 f.n, .string f.text], .int .i64 0]) (by first | (simp [results, Tryz.results92, go_sem, z0, z1, z2, z3]; done) | simp [results, Tryz.results92, go_sem]) rfl (evP_s (f := f) hR0.out (by repeat (first | with_reducible exact Ext.refl _ | with_reducible exact hE0 | with_reducible exact hE | with_reducible refine Ext.alloc ?_ _ | with_reducible refine Ext.drewN ?_ _ | with_reducible refine Ext.drew ?_ | ((with_reducible refine Ext.setCell ?_ ?side _); (case side => first | exact Nat.le_refl _ | (simp; done) | (simp; omega))))))
set_option maxRecDepth 8000 in
set_option maxHeartbeats 2000000 in
theorem rtwo14 (a b : Feat) (w : World) (ha : nbrB a.n = true) (hb0 : nbrB b.n = true) : Calls Tryz.prog 92 #[.int .i64 14, .agg #[.string a.name, .int .i64 a.kind, .int .i64 a.n, .string a.text], .agg #[.string b.name, .int .i64 b.kind, .int .i64 b.n, .string b.text]] w (EvP (comb 14 a b) w) := by
  have kP := Lib.hid (fun w1 => rproduct_any a.n b.n w1 ha hb0)
  have kT := Lib.hid (fun m w1 => rnum_any m w1)
  have hR0 := Lib.hid (show comb 14 a b = (mulV a.n b.n).map numF by simp [comb])
  generalize comb 14 a b = R at *
  clear ha hb0
  unfold PrP at kP
  go_enter Tryz.func92, Tryz.ntmps92
  have hb := Blk.new' ((w.alloc (.cells #[.string a.name, .int .i64 a.kind, .int .i64 a.n, .string a.text] 36)).alloc (.cells #[.string b.name, .int .i64 b.kind, .int .i64 b.n, .string b.text] 36)) #[.string ⟨#[]⟩, .int .i64 0, .int .i64 0, .string ⟨#[]⟩] 36 (w.heap.size + 1 + 1) (by simp)
  go_wp2_with fail
  refine (kP.out _).mono ?_
  rintro e w1 ⟨m, c, rfl, hm, rfl⟩
  cases c with
  | false =>
    have hR := Lib.hid (show R = none by rw [hR0.out, hm]; rfl)
    clear hm hR0 kT kP hb
    go_wp2
    exact bodyPost_ret (v := .tuple #[.agg #[.string ⟨#[]⟩, .int .i64 0, .int .i64 0, .string ⟨#[]⟩], .int .i64 4]) (by simp [results, Tryz.results92, go_sem]) rfl (evP_n hR.out (by repeat (first | with_reducible exact Ext.refl _ | with_reducible exact hE0 | with_reducible exact hE | with_reducible refine Ext.alloc ?_ _ | with_reducible refine Ext.drewN ?_ _ | with_reducible refine Ext.drew ?_ | ((with_reducible refine Ext.setCell ?_ ?side _); (case side => first | exact Nat.le_refl _ | (simp; done) | (simp; omega))))))
  | true =>
    have hR := Lib.hid (show R = numO m by rw [hR0.out, num_mul hm rfl])
    clear hm hR0 kP
    have kT2 := Lib.hid (fun w1 => kT.out m w1)
    generalize numO m = R0 at *
    clear kT
    cases R0 with
    | none =>
      go_wp2_with fail
      refine (kT2.out _).mono ?_
      rintro e w1 hq
      obtain ⟨rfl, hE1⟩ := evP_none hq
      have hbr := hb.ext hE1
      have z0 := hbr.cell 0
      have z1 := hbr.cell 1
      have z2 := hbr.cell 2
      have z3 := hbr.cell 3
      have f0 := hbr.fz 0
      have f1 := hbr.fz 1
      have f2 := hbr.fz 2
      have f3 := hbr.fz 3
      simp at z0 z1 z2 z3
      have zl : w.heap.size + 1 + 1 < w1.heap.size := hbr.lt
      have hE : Ext w w1 := Ext.trans (by repeat (first | with_reducible exact Ext.refl _ | with_reducible exact hE0 | with_reducible exact hE | with_reducible refine Ext.alloc ?_ _ | with_reducible refine Ext.drewN ?_ _ | with_reducible refine Ext.drew ?_ | ((with_reducible refine Ext.setCell ?_ ?side _); (case side => first | exact Nat.le_refl _ | (simp; done) | (simp; omega))))) hE1
      clear hE1 hbr hb
      clear kT2
      go_wp2
      exact bodyPost_ret (v := .tuple #[.agg #[.string ⟨#[]⟩, .int .i64 0, .int .i64 0, .string ⟨#[]⟩], .int .i64 4]) (by first | (simp [results, Tryz.results92, go_sem, z0, z1, z2, z3]; done) | simp [results, Tryz.results92, go_sem]) rfl (evP_n hR.out (by repeat (first | with_reducible exact Ext.refl _ | with_reducible exact hE0 | with_reducible exact hE | with_reducible refine Ext.alloc ?_ _ | with_reducible refine Ext.drewN ?_ _ | with_reducible refine Ext.drew ?_ | ((with_reducible refine Ext.setCell ?_ ?side _); (case side => first | exact Nat.le_refl _ | (simp; done) | (simp; omega))))))
    | some f =>
      go_wp2_with fail
      refine (kT2.out _).mono ?_
      rintro e w1 hq
      obtain ⟨rfl, hE1⟩ := evP_some hq
      have hbr := hb.ext hE1
      have z0 := hbr.cell 0
      have z1 := hbr.cell 1
      have z2 := hbr.cell 2
      have z3 := hbr.cell 3
      have f0 := hbr.fz 0
      have f1 := hbr.fz 1
      have f2 := hbr.fz 2
      have f3 := hbr.fz 3
      simp at z0 z1 z2 z3
      have zl : w.heap.size + 1 + 1 < w1.heap.size := hbr.lt
      have hE : Ext w w1 := Ext.trans (by repeat (first | with_reducible exact Ext.refl _ | with_reducible exact hE0 | with_reducible exact hE | with_reducible refine Ext.alloc ?_ _ | with_reducible refine Ext.drewN ?_ _ | with_reducible refine Ext.drew ?_ | ((with_reducible refine Ext.setCell ?_ ?side _); (case side => first | exact Nat.le_refl _ | (simp; done) | (simp; omega))))) hE1
      clear hE1 hbr hb
      clear kT2
      go_wp2
      exact bodyPost_ret (v := .tuple #[.agg #[.string f.name, .int .i64 f.kind, .int .i64 f.n, .string f.text], .int .i64 0]) (by first | (simp [results, Tryz.results92, go_sem, z0, z1, z2, z3]; done) | simp [results, Tryz.results92, go_sem]) rfl (evP_s (f := f) hR.out (by repeat (first | with_reducible exact Ext.refl _ | with_reducible exact hE0 | with_reducible exact hE | with_reducible refine Ext.alloc ?_ _ | with_reducible refine Ext.drewN ?_ _ | with_reducible refine Ext.drew ?_ | ((with_reducible refine Ext.setCell ?_ ?side _); (case side => first | exact Nat.le_refl _ | (simp; done) | (simp; omega))))))
set_option maxRecDepth 8000 in
set_option maxHeartbeats 2000000 in
theorem rtwox (a b : Feat) (w : World) (op : Int) (hop : op = 6 ∨ op = 7) : Calls Tryz.prog 92 #[.int .i64 op, .agg #[.string a.name, .int .i64 a.kind, .int .i64 a.n, .string a.text], .agg #[.string b.name, .int .i64 b.kind, .int .i64 b.n, .string b.text]] w (EvP (comb op a b) w) := by
  have hR := Lib.hid (show comb op a b = some b by unfold comb; rcases hop with rfl | rfl <;> simp)
  generalize comb op a b = R at *
  have o8 : (op == 8) = false := by simp; omega
  have o9 : (op == 9) = false := by simp; omega
  have o10 : (op == 10) = false := by simp; omega
  have o11 : (op == 11) = false := by simp; omega
  have o12 : (op == 12) = false := by simp; omega
  have o13 : (op == 13) = false := by simp; omega
  have o14 : (op == 14) = false := by simp; omega
  clear hop
  go_enter Tryz.func92, Tryz.ntmps92
  go_wp2
  exact bodyPost_ret (v := .tuple #[.agg #[.string b.name, .int .i64 b.kind, .int .i64 b.n, .string b.text], .int .i64 0]) (by simp [results, Tryz.results92, go_sem]) rfl (evP_s (f := b) hR.out (by repeat (first | with_reducible exact Ext.refl _ | with_reducible exact hE0 | with_reducible exact hE | with_reducible refine Ext.alloc ?_ _ | with_reducible refine Ext.drewN ?_ _ | with_reducible refine Ext.drew ?_ | ((with_reducible refine Ext.setCell ?_ ?side _); (case side => first | exact Nat.le_refl _ | (simp; done) | (simp; omega))))))
theorem rtwo_any (op : Int) (a b : Feat) (w : World) (hop : 6 ≤ op ∧ op ≤ 14) (hn : op = 12 ∨ op = 13 ∨ op = 14 → nbrB a.n = true ∧ nbrB b.n = true) : Calls Tryz.prog 92 #[.int .i64 op, .agg #[.string a.name, .int .i64 a.kind, .int .i64 a.n, .string a.text], .agg #[.string b.name, .int .i64 b.kind, .int .i64 b.n, .string b.text]] w (EvP (comb op a b) w) := by
  have h : (op = 6 ∨ op = 7) ∨ op = 8 ∨ op = 9 ∨ op = 10 ∨ op = 11 ∨ op = 12 ∨ op = 13 ∨ op = 14 := by omega
  rcases h with h | rfl | rfl | rfl | rfl | rfl | rfl | rfl
  · exact rtwox a b w op h
  · exact rtwo8 a b w
  · exact rtwo9 a b w
  · exact rtwo10 a b w
  · exact rtwo11 a b w
  · exact rtwo12 a b w (hn (by omega)).1 (hn (by omega)).2
  · exact rtwo13 a b w (hn (by omega)).1 (hn (by omega)).2
  · exact rtwo14 a b w (hn (by omega)).1 (hn (by omega)).2
set_option maxRecDepth 8000 in
theorem rused_nil (nm : ByteArray) (n : Int) (w : World) : Calls Tryz.prog 100 #[.slice none 0 0, .string nm, .int .i64 n] w fun e w' => e = .returned (.agg #[.string ⟨#[]⟩, .int .i64 0, .int .i64 0, .int .i64 0]) ∧ Ext w w' := by
  go_enter Tryz.func100, Tryz.ntmps100
  go_wp2
  go_loop [7] (fun i => i = .int .i64 0) (fun _ => 0)
  case atStart => rfl
  case round =>
    subst hrel
    go_wp2
    exact bodyPost_ret (v := .agg #[.string ⟨#[]⟩, .int .i64 0, .int .i64 0, .int .i64 0]) (by simp [results, Tryz.results100, go_sem]) rfl ⟨rfl, (by repeat (first | with_reducible exact Ext.refl _ | with_reducible exact hE0 | with_reducible exact hE | with_reducible refine Ext.alloc ?_ _ | with_reducible refine Ext.drewN ?_ _ | with_reducible refine Ext.drew ?_ | ((with_reducible refine Ext.setCell ?_ ?side _); (case side => first | exact Nat.le_refl _ | (simp; done) | (simp; omega)))))⟩
end Go.Proofs.YtnppbeajemhjeaaGreat
