/- Contract of combine (walks; printed by gen/comb.py). Contract of the reference's Same (a walk; printed by gen/rsame.py). The contract of expr.Same, which compares the arguments by slices.EqualFunc (walks). -/
import Derived.Test.YtmnhmkjmcckneaaGreatDoorEb
import Derived.Test.YtmnhmkjmcckneaaGreatDoorEd
import Derived.StillTailTactics
namespace Go.Proofs.YtmnhmkjmcckneaaGreatDoor
open Go.RowKit
def OptF (o : Option Feat) (w : World) (e : Ending) (w' : World) : Prop := e = .returned (.tuple #[ftAgg (o.getD fD), .bool o.isSome]) ∧ Ext w w'
theorem bytes_ne {a b : ByteArray} (h : a ≠ b) : ¬ a.toList = b.toList := by
 intro e
 exact h (strT (by rw [e]; simp))
theorem feat_cases (a b : Feat) : a = b ∨ (a ≠ b ∧ (a.name ≠ b.name ∨ (a.name = b.name ∧ a.kind ≠ b.kind) ∨ (a.name = b.name ∧ a.kind = b.kind ∧ a.n ≠ b.n) ∨ (a.name = b.name ∧ a.kind = b.kind ∧ a.n = b.n ∧ a.text ≠ b.text))) := by
 obtain ⟨n1, k1, m1, t1⟩ := a
 obtain ⟨n2, k2, m2, t2⟩ := b
 by_cases h1 : n1 = n2 <;> by_cases h2 : k1 = k2 <;> by_cases h3 : m1 = m2 <;> by_cases h4 : t1 = t2 <;> simp_all

set_option maxRecDepth 8000 in
set_option maxHeartbeats 4000000 in
theorem comb8 (a b : Feat) (w : World) : Calls Tryz.prog 173 #[.int .i64 8, .agg #[.string a.name, .int .i64 a.kind, .int .i64 a.n, .string a.text], .agg #[.string b.name, .int .i64 b.kind, .int .i64 b.n, .string b.text]] w (OptF (comb 8 a b) w) := by
 rcases feat_cases a b with h | ⟨hne, h⟩
 · have hV := Lib.hid (show comb 8 a b = some (truthF true) by subst h; simp [comb])
   subst h
   go_enter Tryz.func173, Tryz.ntmps173
   go_wp2_with fail
   refine (truth_t _).mono ?_
   rintro e w1 ⟨rfl, hE1⟩
   obtain ⟨⟨x0, x1, x2, x3⟩, f0, f1, f2, f3⟩ := new4 (w.heap.size + 1 + 1) (by first | rfl | simp) hE1
   have hE : Ext w w1 := Ext.trans xt hE1
   clear hE1
   go_wp2
   exact bodyPost_ret (v := .tuple #[.agg #[.string ⟨#[]⟩, .int .i64 3, .int .i64 1, .string ⟨#[]⟩], .bool true]) (by first | (simp [results, Tryz.results173, go_sem, x0, x1, x2, x3]; done) | simp [results, Tryz.results173, go_sem]) rfl ⟨by rw [hV.out]; rfl, xt⟩
 · have hV := Lib.hid (show comb 8 a b = some (truthF false) by simp [comb, hne])
   clear hne
   obtain ⟨an, ak, am, at'⟩ := a
   obtain ⟨bn, bk, bm, bt⟩ := b
   simp only at h ⊢
   rcases h with h | ⟨e1, h⟩ | ⟨e1, e2, h⟩ | ⟨e1, e2, e3, h⟩
   · have g := bytes_ne h
     clear h
     go_enter Tryz.func173, Tryz.ntmps173
     go_wp2_with fail
     refine (truth_f _).mono ?_
     rintro e w1 ⟨rfl, hE1⟩
     obtain ⟨⟨x0, x1, x2, x3⟩, f0, f1, f2, f3⟩ := new4 (w.heap.size + 1 + 1) (by first | rfl | simp) hE1
     have hE : Ext w w1 := Ext.trans xt hE1
     clear hE1
     go_wp2
     exact bodyPost_ret (v := .tuple #[.agg #[.string ⟨#[]⟩, .int .i64 3, .int .i64 0, .string ⟨#[]⟩], .bool true]) (by first | (simp [results, Tryz.results173, go_sem, x0, x1, x2, x3]; done) | simp [results, Tryz.results173, go_sem]) rfl ⟨by rw [hV.out]; rfl, xt⟩
   · subst e1
     have g : (ak == bk) = false := by simp [h]
     go_enter Tryz.func173, Tryz.ntmps173
     go_wp2_with fail
     refine (truth_f _).mono ?_
     rintro e w1 ⟨rfl, hE1⟩
     obtain ⟨⟨x0, x1, x2, x3⟩, f0, f1, f2, f3⟩ := new4 (w.heap.size + 1 + 1) (by first | rfl | simp) hE1
     have hE : Ext w w1 := Ext.trans xt hE1
     clear hE1
     go_wp2
     exact bodyPost_ret (v := .tuple #[.agg #[.string ⟨#[]⟩, .int .i64 3, .int .i64 0, .string ⟨#[]⟩], .bool true]) (by first | (simp [results, Tryz.results173, go_sem, x0, x1, x2, x3]; done) | simp [results, Tryz.results173, go_sem]) rfl ⟨by rw [hV.out]; rfl, xt⟩
   · subst e1
     subst e2
     have g : (am == bm) = false := by simp [h]
     go_enter Tryz.func173, Tryz.ntmps173
     go_wp2_with fail
     refine (truth_f _).mono ?_
     rintro e w1 ⟨rfl, hE1⟩
     obtain ⟨⟨x0, x1, x2, x3⟩, f0, f1, f2, f3⟩ := new4 (w.heap.size + 1 + 1) (by first | rfl | simp) hE1
     have hE : Ext w w1 := Ext.trans xt hE1
     clear hE1
     go_wp2
     exact bodyPost_ret (v := .tuple #[.agg #[.string ⟨#[]⟩, .int .i64 3, .int .i64 0, .string ⟨#[]⟩], .bool true]) (by first | (simp [results, Tryz.results173, go_sem, x0, x1, x2, x3]; done) | simp [results, Tryz.results173, go_sem]) rfl ⟨by rw [hV.out]; rfl, xt⟩
   · subst e1
     subst e2
     subst e3
     have g := bytes_ne h
     clear h
     go_enter Tryz.func173, Tryz.ntmps173
     go_wp2_with fail
     refine (truth_f _).mono ?_
     rintro e w1 ⟨rfl, hE1⟩
     obtain ⟨⟨x0, x1, x2, x3⟩, f0, f1, f2, f3⟩ := new4 (w.heap.size + 1 + 1) (by first | rfl | simp) hE1
     have hE : Ext w w1 := Ext.trans xt hE1
     clear hE1
     go_wp2
     exact bodyPost_ret (v := .tuple #[.agg #[.string ⟨#[]⟩, .int .i64 3, .int .i64 0, .string ⟨#[]⟩], .bool true]) (by first | (simp [results, Tryz.results173, go_sem, x0, x1, x2, x3]; done) | simp [results, Tryz.results173, go_sem]) rfl ⟨by rw [hV.out]; rfl, xt⟩
set_option maxRecDepth 8000 in
set_option maxHeartbeats 4000000 in
theorem comb9 (a b : Feat) (w : World) : Calls Tryz.prog 173 #[.int .i64 9, .agg #[.string a.name, .int .i64 a.kind, .int .i64 a.n, .string a.text], .agg #[.string b.name, .int .i64 b.kind, .int .i64 b.n, .string b.text]] w (OptF (comb 9 a b) w) := by
 rcases feat_cases a b with h | ⟨hne, h⟩
 · have hV := Lib.hid (show comb 9 a b = some (truthF false) by subst h; simp [comb])
   subst h
   go_enter Tryz.func173, Tryz.ntmps173
   go_wp2_with fail
   refine (truth_f _).mono ?_
   rintro e w1 ⟨rfl, hE1⟩
   obtain ⟨⟨x0, x1, x2, x3⟩, f0, f1, f2, f3⟩ := new4 (w.heap.size + 1 + 1) (by first | rfl | simp) hE1
   have hE : Ext w w1 := Ext.trans xt hE1
   clear hE1
   go_wp2
   exact bodyPost_ret (v := .tuple #[.agg #[.string ⟨#[]⟩, .int .i64 3, .int .i64 0, .string ⟨#[]⟩], .bool true]) (by first | (simp [results, Tryz.results173, go_sem, x0, x1, x2, x3]; done) | simp [results, Tryz.results173, go_sem]) rfl ⟨by rw [hV.out]; rfl, xt⟩
 · have hV := Lib.hid (show comb 9 a b = some (truthF true) by simp [comb, hne])
   clear hne
   obtain ⟨an, ak, am, at'⟩ := a
   obtain ⟨bn, bk, bm, bt⟩ := b
   simp only at h ⊢
   rcases h with h | ⟨e1, h⟩ | ⟨e1, e2, h⟩ | ⟨e1, e2, e3, h⟩
   · have g := bytes_ne h
     clear h
     go_enter Tryz.func173, Tryz.ntmps173
     go_wp2_with fail
     refine (truth_t _).mono ?_
     rintro e w1 ⟨rfl, hE1⟩
     obtain ⟨⟨x0, x1, x2, x3⟩, f0, f1, f2, f3⟩ := new4 (w.heap.size + 1 + 1) (by first | rfl | simp) hE1
     have hE : Ext w w1 := Ext.trans xt hE1
     clear hE1
     go_wp2
     exact bodyPost_ret (v := .tuple #[.agg #[.string ⟨#[]⟩, .int .i64 3, .int .i64 1, .string ⟨#[]⟩], .bool true]) (by first | (simp [results, Tryz.results173, go_sem, x0, x1, x2, x3]; done) | simp [results, Tryz.results173, go_sem]) rfl ⟨by rw [hV.out]; rfl, xt⟩
   · subst e1
     have g : (ak == bk) = false := by simp [h]
     go_enter Tryz.func173, Tryz.ntmps173
     go_wp2_with fail
     refine (truth_t _).mono ?_
     rintro e w1 ⟨rfl, hE1⟩
     obtain ⟨⟨x0, x1, x2, x3⟩, f0, f1, f2, f3⟩ := new4 (w.heap.size + 1 + 1) (by first | rfl | simp) hE1
     have hE : Ext w w1 := Ext.trans xt hE1
     clear hE1
     go_wp2
     exact bodyPost_ret (v := .tuple #[.agg #[.string ⟨#[]⟩, .int .i64 3, .int .i64 1, .string ⟨#[]⟩], .bool true]) (by first | (simp [results, Tryz.results173, go_sem, x0, x1, x2, x3]; done) | simp [results, Tryz.results173, go_sem]) rfl ⟨by rw [hV.out]; rfl, xt⟩
   · subst e1
     subst e2
     have g : (am == bm) = false := by simp [h]
     go_enter Tryz.func173, Tryz.ntmps173
     go_wp2_with fail
     refine (truth_t _).mono ?_
     rintro e w1 ⟨rfl, hE1⟩
     obtain ⟨⟨x0, x1, x2, x3⟩, f0, f1, f2, f3⟩ := new4 (w.heap.size + 1 + 1) (by first | rfl | simp) hE1
     have hE : Ext w w1 := Ext.trans xt hE1
     clear hE1
     go_wp2
     exact bodyPost_ret (v := .tuple #[.agg #[.string ⟨#[]⟩, .int .i64 3, .int .i64 1, .string ⟨#[]⟩], .bool true]) (by first | (simp [results, Tryz.results173, go_sem, x0, x1, x2, x3]; done) | simp [results, Tryz.results173, go_sem]) rfl ⟨by rw [hV.out]; rfl, xt⟩
   · subst e1
     subst e2
     subst e3
     have g := bytes_ne h
     clear h
     go_enter Tryz.func173, Tryz.ntmps173
     go_wp2_with fail
     refine (truth_t _).mono ?_
     rintro e w1 ⟨rfl, hE1⟩
     obtain ⟨⟨x0, x1, x2, x3⟩, f0, f1, f2, f3⟩ := new4 (w.heap.size + 1 + 1) (by first | rfl | simp) hE1
     have hE : Ext w w1 := Ext.trans xt hE1
     clear hE1
     go_wp2
     exact bodyPost_ret (v := .tuple #[.agg #[.string ⟨#[]⟩, .int .i64 3, .int .i64 1, .string ⟨#[]⟩], .bool true]) (by first | (simp [results, Tryz.results173, go_sem, x0, x1, x2, x3]; done) | simp [results, Tryz.results173, go_sem]) rfl ⟨by rw [hV.out]; rfl, xt⟩
set_option maxRecDepth 8000 in
set_option maxHeartbeats 4000000 in
theorem comb10 (a b : Feat) (w : World) : Calls Tryz.prog 173 #[.int .i64 10, .agg #[.string a.name, .int .i64 a.kind, .int .i64 a.n, .string a.text], .agg #[.string b.name, .int .i64 b.kind, .int .i64 b.n, .string b.text]] w (OptF (comb 10 a b) w) := by
 by_cases h : a.n < b.n
 · have hV := Lib.hid (show comb 10 a b = some (truthF true) by unfold comb; rw [if_neg (by decide), if_neg (by decide), if_pos rfl, decide_eq_true h])
   have g := decide_eq_true h
   clear h
   go_enter Tryz.func173, Tryz.ntmps173
   go_wp2_with fail
   refine (truth_t _).mono ?_
   rintro e w1 ⟨rfl, hE1⟩
   obtain ⟨⟨x0, x1, x2, x3⟩, f0, f1, f2, f3⟩ := new4 (w.heap.size + 1 + 1) (by first | rfl | simp) hE1
   have hE : Ext w w1 := Ext.trans xt hE1
   clear hE1
   go_wp2
   exact bodyPost_ret (v := .tuple #[.agg #[.string ⟨#[]⟩, .int .i64 3, .int .i64 1, .string ⟨#[]⟩], .bool true]) (by first | (simp [results, Tryz.results173, go_sem, x0, x1, x2, x3]; done) | simp [results, Tryz.results173, go_sem]) rfl ⟨by rw [hV.out]; rfl, xt⟩
 · have hV := Lib.hid (show comb 10 a b = some (truthF false) by unfold comb; rw [if_neg (by decide), if_neg (by decide), if_pos rfl, decide_eq_false h])
   have g := decide_eq_false h
   clear h
   go_enter Tryz.func173, Tryz.ntmps173
   go_wp2_with fail
   refine (truth_f _).mono ?_
   rintro e w1 ⟨rfl, hE1⟩
   obtain ⟨⟨x0, x1, x2, x3⟩, f0, f1, f2, f3⟩ := new4 (w.heap.size + 1 + 1) (by first | rfl | simp) hE1
   have hE : Ext w w1 := Ext.trans xt hE1
   clear hE1
   go_wp2
   exact bodyPost_ret (v := .tuple #[.agg #[.string ⟨#[]⟩, .int .i64 3, .int .i64 0, .string ⟨#[]⟩], .bool true]) (by first | (simp [results, Tryz.results173, go_sem, x0, x1, x2, x3]; done) | simp [results, Tryz.results173, go_sem]) rfl ⟨by rw [hV.out]; rfl, xt⟩
set_option maxRecDepth 8000 in
set_option maxHeartbeats 4000000 in
theorem comb11 (a b : Feat) (w : World) : Calls Tryz.prog 173 #[.int .i64 11, .agg #[.string a.name, .int .i64 a.kind, .int .i64 a.n, .string a.text], .agg #[.string b.name, .int .i64 b.kind, .int .i64 b.n, .string b.text]] w (OptF (comb 11 a b) w) := by
 by_cases h : a.n ≤ b.n
 · have hV := Lib.hid (show comb 11 a b = some (truthF true) by unfold comb; rw [if_neg (by decide), if_neg (by decide), if_neg (by decide), if_pos rfl, decide_eq_true h])
   have g := decide_eq_true h
   clear h
   go_enter Tryz.func173, Tryz.ntmps173
   go_wp2_with fail
   refine (truth_t _).mono ?_
   rintro e w1 ⟨rfl, hE1⟩
   obtain ⟨⟨x0, x1, x2, x3⟩, f0, f1, f2, f3⟩ := new4 (w.heap.size + 1 + 1) (by first | rfl | simp) hE1
   have hE : Ext w w1 := Ext.trans xt hE1
   clear hE1
   go_wp2
   exact bodyPost_ret (v := .tuple #[.agg #[.string ⟨#[]⟩, .int .i64 3, .int .i64 1, .string ⟨#[]⟩], .bool true]) (by first | (simp [results, Tryz.results173, go_sem, x0, x1, x2, x3]; done) | simp [results, Tryz.results173, go_sem]) rfl ⟨by rw [hV.out]; rfl, xt⟩
 · have hV := Lib.hid (show comb 11 a b = some (truthF false) by unfold comb; rw [if_neg (by decide), if_neg (by decide), if_neg (by decide), if_pos rfl, decide_eq_false h])
   have g := decide_eq_false h
   clear h
   go_enter Tryz.func173, Tryz.ntmps173
   go_wp2_with fail
   refine (truth_f _).mono ?_
   rintro e w1 ⟨rfl, hE1⟩
   obtain ⟨⟨x0, x1, x2, x3⟩, f0, f1, f2, f3⟩ := new4 (w.heap.size + 1 + 1) (by first | rfl | simp) hE1
   have hE : Ext w w1 := Ext.trans xt hE1
   clear hE1
   go_wp2
   exact bodyPost_ret (v := .tuple #[.agg #[.string ⟨#[]⟩, .int .i64 3, .int .i64 0, .string ⟨#[]⟩], .bool true]) (by first | (simp [results, Tryz.results173, go_sem, x0, x1, x2, x3]; done) | simp [results, Tryz.results173, go_sem]) rfl ⟨by rw [hV.out]; rfl, xt⟩
set_option maxRecDepth 8000 in
set_option maxHeartbeats 4000000 in
theorem comb12 (a b : Feat) (w : World) (ha : nbrB a.n = true) (hb : nbrB b.n = true) : Calls Tryz.prog 173 #[.int .i64 12, .agg #[.string a.name, .int .i64 a.kind, .int .i64 a.n, .string a.text], .agg #[.string b.name, .int .i64 b.kind, .int .i64 b.n, .string b.text]] w (OptF (comb 12 a b) w) := by
 have hc := Lib.hid (fun w => sum_any a.n b.n w ha hb)
 have hV := Lib.hid (show comb 12 a b = (sumV a.n b.n).map numF by simp [comb])
 clear ha hb
 go_enter Tryz.func173, Tryz.ntmps173
 go_wp2_with fail
 refine (hc.out _).mono ?_
 rintro e w1 ⟨rfl, rfl⟩
 cases ho : sumV a.n b.n with
 | none =>
  rw [ho] at hV
  replace hV := Lib.hid hV.out
  clear hc ho
  simp only [Option.getD_none, Option.isSome_none]
  go_wp2
  exact bodyPost_ret (v := .tuple #[.agg #[.string ⟨#[]⟩, .int .i64 0, .int .i64 0, .string ⟨#[]⟩], .bool false]) (by first | (simp [results, Tryz.results173, go_sem, x0, x1, x2, x3]; done) | simp [results, Tryz.results173, go_sem]) rfl ⟨by rw [hV.out]; rfl, xt⟩
 | some m =>
  rw [ho] at hV
  replace hV := Lib.hid hV.out
  clear hc ho
  simp only [Option.getD_some, Option.isSome_some]
  go_wp2_with fail
  refine (number_any m _).mono ?_
  rintro e w1 ⟨rfl, hE1⟩
  obtain ⟨⟨x0, x1, x2, x3⟩, f0, f1, f2, f3⟩ := new4 (w.heap.size + 1 + 1) (by first | rfl | simp) hE1
  have hE : Ext w w1 := Ext.trans xt hE1
  clear hE1
  go_wp2
  exact bodyPost_ret (v := .tuple #[.agg #[.string ⟨#[]⟩, .int .i64 1, .int .i64 m, .string ⟨#[]⟩], .bool true]) (by first | (simp [results, Tryz.results173, go_sem, x0, x1, x2, x3]; done) | simp [results, Tryz.results173, go_sem]) rfl ⟨by rw [hV.out]; rfl, xt⟩
set_option maxRecDepth 8000 in
set_option maxHeartbeats 4000000 in
theorem comb13 (a b : Feat) (w : World) (ha : nbrB a.n = true) (hb : nbrB b.n = true) : Calls Tryz.prog 173 #[.int .i64 13, .agg #[.string a.name, .int .i64 a.kind, .int .i64 a.n, .string a.text], .agg #[.string b.name, .int .i64 b.kind, .int .i64 b.n, .string b.text]] w (OptF (comb 13 a b) w) := by
 have hb2 : nbrB (-b.n) = true := by rw [nbr_iff] at hb ⊢; omega
 have e1 : wrap64 (-b.n) = -b.n := by rw [nbr_iff] at hb; exact wrap64_id _ (by omega) (by omega)
 have hc := Lib.hid (fun w => sum_any a.n (-b.n) w ha hb2)
 have hV := Lib.hid (show comb 13 a b = (sumV a.n (-b.n)).map numF by simp [comb])
 clear ha hb hb2
 go_enter Tryz.func173, Tryz.ntmps173
 go_wp2_with fail
 try rw [e1]
 refine (hc.out _).mono ?_
 rintro e w1 ⟨rfl, rfl⟩
 cases ho : sumV a.n (-b.n) with
 | none =>
  rw [ho] at hV
  replace hV := Lib.hid hV.out
  clear hc ho
  simp only [Option.getD_none, Option.isSome_none]
  go_wp2
  exact bodyPost_ret (v := .tuple #[.agg #[.string ⟨#[]⟩, .int .i64 0, .int .i64 0, .string ⟨#[]⟩], .bool false]) (by first | (simp [results, Tryz.results173, go_sem, x0, x1, x2, x3]; done) | simp [results, Tryz.results173, go_sem]) rfl ⟨by rw [hV.out]; rfl, xt⟩
 | some m =>
  rw [ho] at hV
  replace hV := Lib.hid hV.out
  clear hc ho
  simp only [Option.getD_some, Option.isSome_some]
  go_wp2_with fail
  refine (number_any m _).mono ?_
  rintro e w1 ⟨rfl, hE1⟩
  obtain ⟨⟨x0, x1, x2, x3⟩, f0, f1, f2, f3⟩ := new4 (w.heap.size + 1 + 1) (by first | rfl | simp) hE1
  have hE : Ext w w1 := Ext.trans xt hE1
  clear hE1
  go_wp2
  exact bodyPost_ret (v := .tuple #[.agg #[.string ⟨#[]⟩, .int .i64 1, .int .i64 m, .string ⟨#[]⟩], .bool true]) (by first | (simp [results, Tryz.results173, go_sem, x0, x1, x2, x3]; done) | simp [results, Tryz.results173, go_sem]) rfl ⟨by rw [hV.out]; rfl, xt⟩
set_option maxRecDepth 8000 in
set_option maxHeartbeats 4000000 in
theorem comb14 (a b : Feat) (w : World) (ha : nbrB a.n = true) (hb : nbrB b.n = true) : Calls Tryz.prog 173 #[.int .i64 14, .agg #[.string a.name, .int .i64 a.kind, .int .i64 a.n, .string a.text], .agg #[.string b.name, .int .i64 b.kind, .int .i64 b.n, .string b.text]] w (OptF (comb 14 a b) w) := by
 have hc := Lib.hid (fun w => product_any a.n b.n w ha hb)
 have hV := Lib.hid (show comb 14 a b = (mulV a.n b.n).map numF by simp [comb])
 clear ha hb
 go_enter Tryz.func173, Tryz.ntmps173
 go_wp2_with fail
 refine (hc.out _).mono ?_
 rintro e w1 ⟨rfl, rfl⟩
 cases ho : mulV a.n b.n with
 | none =>
  rw [ho] at hV
  replace hV := Lib.hid hV.out
  clear hc ho
  simp only [Option.getD_none, Option.isSome_none]
  go_wp2
  exact bodyPost_ret (v := .tuple #[.agg #[.string ⟨#[]⟩, .int .i64 0, .int .i64 0, .string ⟨#[]⟩], .bool false]) (by first | (simp [results, Tryz.results173, go_sem, x0, x1, x2, x3]; done) | simp [results, Tryz.results173, go_sem]) rfl ⟨by rw [hV.out]; rfl, xt⟩
 | some m =>
  rw [ho] at hV
  replace hV := Lib.hid hV.out
  clear hc ho
  simp only [Option.getD_some, Option.isSome_some]
  go_wp2_with fail
  refine (number_any m _).mono ?_
  rintro e w1 ⟨rfl, hE1⟩
  obtain ⟨⟨x0, x1, x2, x3⟩, f0, f1, f2, f3⟩ := new4 (w.heap.size + 1 + 1) (by first | rfl | simp) hE1
  have hE : Ext w w1 := Ext.trans xt hE1
  clear hE1
  go_wp2
  exact bodyPost_ret (v := .tuple #[.agg #[.string ⟨#[]⟩, .int .i64 1, .int .i64 m, .string ⟨#[]⟩], .bool true]) (by first | (simp [results, Tryz.results173, go_sem, x0, x1, x2, x3]; done) | simp [results, Tryz.results173, go_sem]) rfl ⟨by rw [hV.out]; rfl, xt⟩
set_option maxRecDepth 8000 in
set_option maxHeartbeats 4000000 in
theorem combx (op : Int) (a b : Feat) (w : World) (hop : op < 8 ∨ 14 < op) : Calls Tryz.prog 173 #[.int .i64 op, .agg #[.string a.name, .int .i64 a.kind, .int .i64 a.n, .string a.text], .agg #[.string b.name, .int .i64 b.kind, .int .i64 b.n, .string b.text]] w (OptF (comb op a b) w) := by
 have o8 : (op == 8) = false := by simp; omega
 have o9 : (op == 9) = false := by simp; omega
 have o10 : (op == 10) = false := by simp; omega
 have o11 : (op == 11) = false := by simp; omega
 have o12 : (op == 12) = false := by simp; omega
 have o13 : (op == 13) = false := by simp; omega
 have o14 : (op == 14) = false := by simp; omega
 have hV := Lib.hid (show comb op a b = some b by unfold comb; rw [if_neg (by omega), if_neg (by omega), if_neg (by omega), if_neg (by omega), if_neg (by omega), if_neg (by omega), if_neg (by omega)])
 clear hop
 go_enter Tryz.func173, Tryz.ntmps173
 go_wp2
 exact bodyPost_ret (v := .tuple #[.agg #[.string b.name, .int .i64 b.kind, .int .i64 b.n, .string b.text], .bool true]) (by first | (simp [results, Tryz.results173, go_sem, x0, x1, x2, x3]; done) | simp [results, Tryz.results173, go_sem]) rfl ⟨by rw [hV.out]; rfl, xt⟩
theorem combine_any (op : Int) (a b : Feat) (w : World) (hn : op = 12 ∨ op = 13 ∨ op = 14 → nbrB a.n = true ∧ nbrB b.n = true) : Calls Tryz.prog 173 #[.int .i64 op, .agg #[.string a.name, .int .i64 a.kind, .int .i64 a.n, .string a.text], .agg #[.string b.name, .int .i64 b.kind, .int .i64 b.n, .string b.text]] w (OptF (comb op a b) w) := by
 by_cases h : op < 8 ∨ 14 < op
 · exact combx op a b w h
 · have h' : op = 8 ∨ op = 9 ∨ op = 10 ∨ op = 11 ∨ op = 12 ∨ op = 13 ∨ op = 14 := by omega
   rcases h' with rfl | rfl | rfl | rfl | rfl | rfl | rfl
   · exact comb8 a b w
   · exact comb9 a b w
   · exact comb10 a b w
   · exact comb11 a b w
   · exact comb12 a b w (hn (by omega)).1 (hn (by omega)).2
   · exact comb13 a b w (hn (by omega)).1 (hn (by omega)).2
   · exact comb14 a b w (hn (by omega)).1 (hn (by omega)).2
end Go.Proofs.YtmnhmkjmcckneaaGreatDoor
namespace Go.Proofs.YtmnhmkjmcckneaaGreatDoor
open Go.RowKit
/-- Whether two expressions are equal. -/
def Ex.same : Ex → Ex → Bool
 | .mk o1 n1 t1 k1 a1, .mk o2 n2 t2 k2 a2 => decide (o1 = o2) && decide (n1 = n2) && decide (t1 = t2) && decide (k1 = k2) && sameL a1 a2
where sameL : List Ex → List Ex → Bool
 | [], [] => true
 | x :: r, y :: s => x.same y && sameL r s
 | _, _ => false
theorem sameL_iff : ∀ (a b : List Ex), Ex.same.sameL a b = true ↔ a.length = b.length ∧ ∀ i, i < a.length → (a.getD i exD).same (b.getD i exD) = true
 | [], [] => by simp [Ex.same.sameL]
 | [], y :: s => by simp [Ex.same.sameL]
 | x :: r, [] => by simp [Ex.same.sameL]
 | x :: r, y :: s => by
  rw [Ex.same.sameL, Bool.and_eq_true, sameL_iff r s]
  constructor
  · rintro ⟨h1, h2, h3⟩
    refine ⟨by simp [h2], fun i hi => ?_⟩
    cases i with
    | zero => exact h1
    | succ i => exact h3 i (by simpa using hi)
  · rintro ⟨h1, h2⟩
    exact ⟨h2 0 (by simp), by simpa using h1, fun i hi => h2 (i + 1) (by simpa using hi)⟩
theorem same_refl : ∀ x : Ex, x.same x = true
 | .mk op nm tx n args => by
  rw [Ex.same]
  simp only [decide_true, Bool.true_and]
  rw [sameL_iff]
  refine ⟨rfl, fun i hi => ?_⟩
  have hm : args.getD i exD ∈ args := by
   rw [List.getD_eq_getElem?_getD, List.getElem?_eq_getElem hi, Option.getD_some]
   exact List.getElem_mem hi
  exact same_refl (args.getD i exD)
termination_by x => SizeOf.sizeOf x
decreasing_by
 have := List.sizeOf_lt_of_mem hm
 simp only [Ex.mk.sizeOf_spec]
 omega
theorem same_false {o1 o2 k1 k2 : Int} {n1 n2 t1 t2 : ByteArray} {a1 a2 : List Ex} (h : o1 ≠ o2 ∨ n1 ≠ n2 ∨ t1 ≠ t2 ∨ k1 ≠ k2 ∨ Ex.same.sameL a1 a2 = false) : (Ex.mk o1 n1 t1 k1 a1).same (.mk o2 n2 t2 k2 a2) = false := by
 rw [Ex.same]
 rcases h with h | h | h | h | h <;> simp [h]
theorem same_true {o k : Int} {n t : ByteArray} {a1 a2 : List Ex} (h : Ex.same.sameL a1 a2 = true) : (Ex.mk o n t k a1).same (.mk o n t k a2) = true := by
 rw [Ex.same]
 simp [h]

set_option maxRecDepth 8000 in
set_option maxHeartbeats 4000000 in
theorem rsame_any {w : World} {v : Value} {l0 : List Ex} (h : ExS w v l0) : ∀ x : Ex, x.args = l0 → ∀ (y : Ex) (u : Value), ExS w u y.args → ∀ w', Ext w w' → Calls Tryz.prog 111 #[exAgg x v, exAgg y u] w' (OneV (.bool (x.same y)) w') := by
 refine ExS.ind (P := fun x v => ∀ (y : Ex) (u : Value), ExS w u y.args → ∀ w', Ext w w' → Calls Tryz.prog 111 #[exAgg x v, exAgg y u] w' (OneV (.bool (x.same y)) w')) ?_ h
 clear h
 intro x v hS hK y u hT w' hE
 obtain ⟨o1, n1, t1, k1, a1⟩ := x
 obtain ⟨o2, n2, t2, k2, a2⟩ := y
 obtain ⟨q1, c1, rfl⟩ := hS.form
 obtain ⟨q2, c2, rfl⟩ := hT.form
 have hl1 := hS.len
 have hl2 := hT.len
 simp only [Ex.args] at hS hT hK hl1 hl2 ⊢
 simp only [exAgg_mk]
 replace hK := Lib.hid hK
 have hsf := Lib.hid (same_false (o1 := o1) (o2 := o2) (k1 := k1) (k2 := k2) (n1 := n1) (n2 := n2) (t1 := t1) (t2 := t2) (a1 := a1) (a2 := a2))
 have hst := Lib.hid (fun (e1 : o1 = o2) (e2 : n1 = n2) (e3 : t1 = t2) (e4 : k1 = k2) (h : Ex.same.sameL a1 a2 = true) => show (Ex.mk o1 n1 t1 k1 a1).same (.mk o2 n2 t2 k2 a2) = true by subst e1; subst e2; subst e3; subst e4; exact same_true h)
 generalize (Ex.mk o1 n1 t1 k1 a1).same (.mk o2 n2 t2 k2 a2) = R at *
 replace hT := Lib.hid hT
 clear hS
 by_cases e1 : o1 = o2
 · by_cases e2 : n1 = n2
   · by_cases e3 : t1 = t2
     · by_cases e4 : k1 = k2
       · by_cases e5 : a1.length = a2.length
         · replace hst := Lib.hid (hst.out e1 e2 e3 e4)
           subst e1
           subst e2
           subst e3
           subst e4
           have d5 : ((a1.length : Int) != (a2.length : Int)) = false := by simp [e5]
           have d6 : ((a1.length : Int) == (a2.length : Int)) = true := by simp [e5]
           have hlen2 : (a2.length : Int) = a1.length := by rw [e5]
           replace e5 := Lib.hid e5
           rw [← e5.out] at hT hl2
           rw [← e5.out]
           clear d5 d6 hlen2
           go_enter Tryz.func111, Tryz.ntmps111
           go_wp2_with fail
           have hba : Blk ((w'.alloc (.cells #[.int .i64 o1, .string n1, .string t1, .int .i64 k1, .slice q1 a1.length c1] 54)).alloc (.cells #[.int .i64 o1, .string n1, .string t1, .int .i64 k1, .slice q2 a1.length c2] 54)) w'.heap.size #[.int .i64 o1, .string n1, .string t1, .int .i64 k1, .slice q1 a1.length c1] 54 := (Blk.new _ _ _).alloc _
           have hbb : Blk ((w'.alloc (.cells #[.int .i64 o1, .string n1, .string t1, .int .i64 k1, .slice q1 a1.length c1] 54)).alloc (.cells #[.int .i64 o1, .string n1, .string t1, .int .i64 k1, .slice q2 a1.length c2] 54)) (w'.heap.size + 1) #[.int .i64 o1, .string n1, .string t1, .int .i64 k1, .slice q2 a1.length c2] 54 := Blk.new' _ _ _ _ (by simp)
           have hE0 : Ext w' ((w'.alloc (.cells #[.int .i64 o1, .string n1, .string t1, .int .i64 k1, .slice q1 a1.length c1] 54)).alloc (.cells #[.int .i64 o1, .string n1, .string t1, .int .i64 k1, .slice q2 a1.length c2] 54)) := xt
           generalize ((w'.alloc (.cells #[.int .i64 o1, .string n1, .string t1, .int .i64 k1, .slice q1 a1.length c1] 54)).alloc (.cells #[.int .i64 o1, .string n1, .string t1, .int .i64 k1, .slice q2 a1.length c2] 54)) = w0 at *
           replace hba := Lib.hid hba
           replace hbb := Lib.hid hbb
           go_loopw [5] (fun i wr => ∃ k : Nat, k ≤ a1.length ∧ i = .int .i64 k ∧ (∀ j, j < k → (a1.getD j exD).same (a2.getD j exD) = true) ∧ Ext w0 wr) (fun i _ => a1.length - (intOf i).toNat)
           case atStart => exact ⟨0, Nat.zero_le _, rfl, fun j hj => absurd hj (by omega), Ext.refl _⟩
           case round =>
            obtain ⟨k, hk, rfl, hall, hEr⟩ := hrel
            replace hall := Lib.hid hall
            have x4 : wr.cell? ⟨w'.heap.size, 4, none⟩ = some (.slice q1 a1.length c1) := ((hba.out.ext hEr).cell 4).trans rfl
            have y4 : wr.cell? ⟨w'.heap.size + 1, 4, none⟩ = some (.slice q2 a1.length c2) := ((hbb.out.ext hEr).cell 4).trans rfl
            by_cases hlt : k < a1.length
            · obtain ⟨b, off, rfl, sv, hkid⟩ := hK.out _ _ rfl (by omega)
              obtain ⟨hc, hsu, hP⟩ := hkid k hlt
              have hT2 := hT.out
              rw [e5.out] at hT2
              obtain ⟨b2, off2, rfl, sv2, hkid2⟩ := hT2.at (by have := e5.out; omega)
              obtain ⟨hc2, hsu2⟩ := hkid2 k (by have := e5.out; omega)
              have hform := hsu.form
              have hform2 := hsu2.form
              have hEw := hE.trans (hE0.trans hEr)
              obtain ⟨c0, c1', c2', c3, c4⟩ := (hc.ext hEw).five
              obtain ⟨d0, d1, d2, d3, d4⟩ := (hc2.ext hEw).five
              replace hP := Lib.hid (hP _ _ hsu2)
              have hbad : (a1.getD k exD).same (a2.getD k exD) = false → R = false := fun h => hsf.out (Or.inr (Or.inr (Or.inr (Or.inr (by
               cases hs : Ex.same.sameL a1 a2 with
               | false => rfl
               | true => have := ((sameL_iff a1 a2).1 hs).2 k hlt; rw [h] at this; cases this)))))
              replace hbad := Lib.hid hbad
              have hgood : (a1.getD k exD).same (a2.getD k exD) = true → ∀ j, j < k + 1 → (a1.getD j exD).same (a2.getD j exD) = true := fun h j hj => by
               by_cases e : j = k
               · subst e; exact h
               · exact hall.out j (by omega)
              replace hgood := Lib.hid hgood
              clear hc hkid hsu hc2 hkid2 hsu2 hT2
              generalize (a1.getD k exD).same (a2.getD k exD) = sk at *
              generalize a1.getD k exD = y at *
              generalize a2.getD k exD = z at *
              generalize sv k = u at *
              generalize sv2 k = u2 at *
              obtain ⟨uq, uc, rfl⟩ := hform
              obtain ⟨uq2, uc2, rfl⟩ := hform2
              go_wp2_with fail
              refine wp_region_still_tail 10 (by kernel_rfl) (by kernel_rfl) ?_
              simp only [List.take_succ_cons, List.take_zero, List.drop_succ_cons, List.drop_zero]
              repeat still_step
              refine wpStill_nil ?_
              clear c0 c1' c2' c3 c4 d0 d1 d2 d3 d4
              go_wp2_with fail
              refine (hP.out _ (hEw.drew)).mono ?_
              rintro e w2 ⟨rfl, hE2⟩
              replace hEr : Ext w0 w2 := hEr.trans (Ext.trans (Ext.refl _).drew hE2)
              clear hE2 x4 y4 hEw
              cases sk with
              | false =>
               have hR := Lib.hid (hbad.out rfl)
               go_wp2
               go_ret
               exact ⟨by rw [hR.out]; rfl, hE0.trans hEr⟩
              | true =>
               have hgd := Lib.hid (hgood.out rfl)
               clear hgood hbad
               go_wp2
               go_roundw
               case rel => exact ⟨k + 1, by omega, by go_num, hgd.out, hEr⟩
               case measure => simp [intOf]; omega
            · have hR := Lib.hid (hst.out ((sameL_iff a1 a2).2 ⟨e5.out, fun j hj => hall.out j (by omega)⟩))
              go_wp2
              go_ret
              exact ⟨by rw [hR.out]; rfl, hE0.trans hEr⟩
         · have hR := Lib.hid (hsf.out (Or.inr (Or.inr (Or.inr (Or.inr (by
            cases hs : Ex.same.sameL a1 a2 with
            | false => rfl
            | true => exact absurd ((sameL_iff a1 a2).1 hs).1 e5))))))
           subst e1
           subst e2
           subst e3
           subst e4
           have d5 : (a1.length != a2.length) = true := by simpa using e5
           have d6 : (a1.length == a2.length) = false := by simpa using e5
           have d7 : ((a1.length : Int) != (a2.length : Int)) = true := by simp; omega
           have d8 : ((a1.length : Int) == (a2.length : Int)) = false := by simp; omega
           clear hst hsf
           go_enter Tryz.func111, Tryz.ntmps111
           go_wp2
           go_ret
           exact ⟨by rw [hR.out]; rfl, xt⟩
       · have hR := Lib.hid (hsf.out (Or.inr (Or.inr (Or.inr (Or.inl e4)))))
         subst e1
         subst e2
         subst e3
         have d5 : (k1 != k2) = true := by simpa using e4
         have d6 : (k1 == k2) = false := by simpa using e4
         clear hst hsf
         go_enter Tryz.func111, Tryz.ntmps111
         go_wp2
         go_ret
         exact ⟨by rw [hR.out]; rfl, xt⟩
     · have hR := Lib.hid (hsf.out (Or.inr (Or.inr (Or.inl e3))))
       subst e1
       subst e2
       have d5 := bytes_ne e3
       have d6 := strNe e3
       clear hst hsf
       go_enter Tryz.func111, Tryz.ntmps111
       go_wp2
       go_ret
       exact ⟨by rw [hR.out]; rfl, xt⟩
   · have hR := Lib.hid (hsf.out (Or.inr (Or.inl e2)))
     subst e1
     have d5 := bytes_ne e2
     have d6 := strNe e2
     clear hst hsf
     go_enter Tryz.func111, Tryz.ntmps111
     go_wp2
     go_ret
     exact ⟨by rw [hR.out]; rfl, xt⟩
 · have hR := Lib.hid (hsf.out (Or.inl e1))
   have d5 : (o1 != o2) = true := by simpa using e1
   have d6 : (o1 == o2) = false := by simpa using e1
   clear hst hsf
   go_enter Tryz.func111, Tryz.ntmps111
   go_wp2
   go_ret
   exact ⟨by rw [hR.out]; rfl, xt⟩
end Go.Proofs.YtmnhmkjmcckneaaGreatDoor
namespace Go.Proofs.YtmnhmkjmcckneaaGreatDoor
open Go.RowKit
/-- What Same does at an expression that lies in memory. -/
def SameP (w : World) (x : Ex) (v : Value) : Prop := ∀ (y : Ex) (u : Value), ExS w u y.args → ∀ w', Ext w w' → Calls Tryz.prog 104 #[exAgg x v, exAgg y u] w' (OneV (.bool (x.same y)) w')
set_option maxRecDepth 8000 in
set_option maxHeartbeats 4000000 in
theorem eqf_any {w : World} {v1 v2 : Value} {a1 a2 : List Ex} (hS : ExS w v1 a1) (hK : Kids w (SameP w) v1 a1) (hT : ExS w v2 a2) (w' : World) (hE : Ext w w') : Calls Tryz.prog 137 #[v1, v2, .func (Fn.func 104) #[] #[]] w' (OneV (.bool (Ex.same.sameL a1 a2)) w') := by
 obtain ⟨q1, c1, rfl⟩ := hS.form
 obtain ⟨q2, c2, rfl⟩ := hT.form
 have hl1 := hS.len
 have hl2 := hT.len
 have hiff := Lib.hid (sameL_iff a1 a2)
 generalize Ex.same.sameL a1 a2 = R at *
 replace hK := Lib.hid hK
 replace hT := Lib.hid hT
 clear hS
 by_cases e5 : a1.length = a2.length
 · have d5 : ((a1.length : Int) != (a2.length : Int)) = false := by simp [e5]
   have d6 : (a1.length != a2.length) = false := by simp [e5]
   replace e5 := Lib.hid e5
   rw [← e5.out] at hT hl2
   rw [← e5.out]
   clear d5 d6
   go_enter Tryz.func137, Tryz.ntmps137
   go_wp2_with fail
   go_loopw [17] (fun i wr => ∃ k : Nat, k ≤ a1.length ∧ i = .int .i64 k ∧ (∀ j, j < k → (a1.getD j exD).same (a2.getD j exD) = true) ∧ Ext w' wr) (fun i _ => a1.length - (intOf i).toNat)
   case atStart => exact ⟨0, Nat.zero_le _, rfl, fun j hj => absurd hj (by omega), Ext.refl _⟩
   case round =>
    obtain ⟨k, hk, rfl, hall, hEr⟩ := hrel
    replace hall := Lib.hid hall
    by_cases hlt : k < a1.length
    · obtain ⟨b, off, rfl, sv, hkid⟩ := hK.out _ _ rfl (by omega)
      obtain ⟨hc, hsu, hP⟩ := hkid k hlt
      have hT2 := hT.out
      rw [e5.out] at hT2
      obtain ⟨b2, off2, rfl, sv2, hkid2⟩ := hT2.at (by have := e5.out; omega)
      obtain ⟨hc2, hsu2⟩ := hkid2 k (by have := e5.out; omega)
      have hform := hsu.form
      have hform2 := hsu2.form
      have hEw := hE.trans hEr
      obtain ⟨c0, c1', c2', c3, c4⟩ := (hc.ext hEw).five
      obtain ⟨d0, d1, d2, d3, d4⟩ := (hc2.ext hEw).five
      replace hP := Lib.hid (hP _ _ hsu2)
      have hbad : (a1.getD k exD).same (a2.getD k exD) = false → R = false := fun h => by
       cases hr : R with
       | false => rfl
       | true => have := (hiff.out.1 hr).2 k hlt; rw [h] at this; cases this
      replace hbad := Lib.hid hbad
      have hgood : (a1.getD k exD).same (a2.getD k exD) = true → ∀ j, j < k + 1 → (a1.getD j exD).same (a2.getD j exD) = true := fun h j hj => by
       by_cases e : j = k
       · subst e; exact h
       · exact hall.out j (by omega)
      replace hgood := Lib.hid hgood
      clear hc hkid hsu hc2 hkid2 hsu2 hT2
      generalize (a1.getD k exD).same (a2.getD k exD) = sk at *
      generalize a1.getD k exD = y at *
      generalize a2.getD k exD = z at *
      generalize sv k = u at *
      generalize sv2 k = u2 at *
      obtain ⟨uq, uc, rfl⟩ := hform
      obtain ⟨uq2, uc2, rfl⟩ := hform2
      unfold exAgg at hP
      have hb2 : b2 < wr.heap.size := cell_lt d0
      go_wp2_with fail
      refine (hP.out _ (hEw.trans xt)).mono ?_
      rintro e w2 ⟨rfl, hE2⟩
      replace hEr : Ext w' w2 := hEr.trans (Ext.trans xt hE2)
      clear hE2 hEw c0 c1' c2' c3 c4 d0 d1 d2 d3 d4
      cases sk with
      | false =>
       have hR := Lib.hid (hbad.out rfl)
       go_wp2
       go_ret
       exact ⟨by rw [hR.out]; rfl, hEr⟩
      | true =>
       have hgd := Lib.hid (hgood.out rfl)
       clear hgood hbad
       go_wp2
       go_roundw
       case rel => exact ⟨k + 1, by omega, by go_num, hgd.out, hEr⟩
       case measure => simp [intOf]; omega
    · have hR := Lib.hid (hiff.out.2 ⟨e5.out, fun j hj => hall.out j (by omega)⟩)
      go_wp2
      go_ret
      exact ⟨by rw [hR.out]; rfl, hEr⟩
 · have hR : R = false := by
    cases hr : R with
    | false => rfl
    | true => exact absurd (hiff.out.1 hr).1 e5
   have d5 : (a1.length != a2.length) = true := by simpa using e5
   have d7 : ((a1.length : Int) != (a2.length : Int)) = true := by simp; omega
   subst hR
   go_enter Tryz.func137, Tryz.ntmps137
   go_wp2
   go_ret
   exact ⟨rfl, xt⟩
set_option maxRecDepth 8000 in
set_option maxHeartbeats 4000000 in
theorem esame_any {w : World} {v : Value} {l0 : List Ex} (h : ExS w v l0) : ∀ x : Ex, x.args = l0 → SameP w x v := by
 refine ExS.ind (P := fun x v => SameP w x v) ?_ h
 clear h
 intro x v hS hK y u hT w' hE
 have kE := Lib.hid (fun w2 (h : Ext w w2) => eqf_any hS hK hT w2 h)
 obtain ⟨o1, n1, t1, k1, a1⟩ := x
 obtain ⟨o2, n2, t2, k2, a2⟩ := y
 obtain ⟨q1, c1, rfl⟩ := hS.form
 obtain ⟨q2, c2, rfl⟩ := hT.form
 simp only [Ex.args] at kE ⊢
 simp only [exAgg_mk]
 have hsf := Lib.hid (same_false (o1 := o1) (o2 := o2) (k1 := k1) (k2 := k2) (n1 := n1) (n2 := n2) (t1 := t1) (t2 := t2) (a1 := a1) (a2 := a2))
 have hst := Lib.hid (fun (e1 : o1 = o2) (e2 : n1 = n2) (e3 : t1 = t2) (e4 : k1 = k2) => show (Ex.mk o1 n1 t1 k1 a1).same (.mk o2 n2 t2 k2 a2) = Ex.same.sameL a1 a2 by subst e1; subst e2; subst e3; subst e4; rw [Ex.same]; simp)
 generalize (Ex.mk o1 n1 t1 k1 a1).same (.mk o2 n2 t2 k2 a2) = R at *
 clear hS hT hK
 by_cases e1 : o1 = o2
 · by_cases e2 : n1 = n2
   · by_cases e3 : t1 = t2
     · by_cases e4 : k1 = k2
       · replace hst := Lib.hid (hst.out e1 e2 e3 e4)
         subst e1
         subst e2
         subst e3
         subst e4
         clear hsf
         generalize Ex.same.sameL a1 a2 = R2 at *
         obtain rfl := hst.out
         clear hst
         go_enter Tryz.func104, Tryz.ntmps104
         go_wp2_with fail
         refine (kE.out _ (hE.trans xt)).mono ?_
         rintro e w2 ⟨rfl, hE2⟩
         have hE9 : Ext w' w2 := Ext.trans xt hE2
         clear kE hE2
         go_wp2
         go_ret
         exact ⟨rfl, hE9⟩
       · have hR := Lib.hid (hsf.out (Or.inr (Or.inr (Or.inr (Or.inl e4)))))
         subst e1
         subst e2
         subst e3
         have d5 : (k1 != k2) = true := by simpa using e4
         clear hst hsf
         go_enter Tryz.func104, Tryz.ntmps104
         go_wp2
         go_ret
         exact ⟨by rw [hR.out]; rfl, xt⟩
     · have hR := Lib.hid (hsf.out (Or.inr (Or.inr (Or.inl e3))))
       subst e1
       subst e2
       have d5 := bytes_ne e3
       have d6 := strNe e3
       clear hst hsf
       go_enter Tryz.func104, Tryz.ntmps104
       go_wp2
       go_ret
       exact ⟨by rw [hR.out]; rfl, xt⟩
   · have hR := Lib.hid (hsf.out (Or.inr (Or.inl e2)))
     subst e1
     have d5 := bytes_ne e2
     have d6 := strNe e2
     clear hst hsf
     go_enter Tryz.func104, Tryz.ntmps104
     go_wp2
     go_ret
     exact ⟨by rw [hR.out]; rfl, xt⟩
 · have hR := Lib.hid (hsf.out (Or.inl e1))
   have d5 : (o1 != o2) = true := by simpa using e1
   clear hst hsf
   go_enter Tryz.func104, Tryz.ntmps104
   go_wp2
   go_ret
   exact ⟨by rw [hR.out]; rfl, xt⟩
end Go.Proofs.YtmnhmkjmcckneaaGreatDoor
