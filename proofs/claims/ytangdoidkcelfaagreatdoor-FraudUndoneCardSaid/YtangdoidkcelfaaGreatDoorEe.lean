/- Contract of combine (walks; printed by gen/comb.py). Contract of the reference's Same (a walk; printed by gen/rsame.py). The contract of expr.Same, which compares the arguments by slices.EqualFunc (walks). -/
import Derived.Test.YtangdoidkcelfaaGreatDoorEb
import Derived.Test.YtangdoidkcelfaaGreatDoorEd
import Derived.StillTailTactics
namespace Go.Proofs.YtangdoidkcelfaaGreatDoor
open Go.RowKit
def OptF (o : Option Feat) (w : World) (e : Ending) (w' : World) : Prop := e = .returned (.tuple #[ftAgg (o.getD fD), .bool o.isSome]) ∧ Ext w w'
theorem bytes_ne {a b : ByteArray} (h : a ≠ b) : ¬ a.toList = b.toList := by
 intro e
 exact h (strT (by rw [e]; simp))
theorem feat_cases (a b : Feat) : a = b ∨ (a ≠ b ∧ (a.name ≠ b.name ∨ (a.name = b.name ∧ a.kind ≠ b.kind) ∨ (a.name = b.name ∧ a.kind = b.kind ∧ a.n ≠ b.n) ∨ (a.name = b.name ∧ a.kind = b.kind ∧ a.n = b.n ∧ a.text ≠ b.text))) := by
 obtain ⟨n1, k1, m1, t1⟩ := a
 obtain ⟨n2, k2, m2, t2⟩ := b
 by_cases h1 : n1 = n2 <;> by_cases h2 : k1 = k2 <;> by_cases h3 : m1 = m2 <;> by_cases h4 : t1 = t2 <;> simp_all

set_option maxRecDepth 8000 in
set_option maxHeartbeats 4000000 in
theorem comb8 (a b : Feat) (w : World) : Calls Tryz.prog 104 #[.int .i64 8, .agg #[.string a.name, .int .i64 a.kind, .int .i64 a.n, .string a.text], .agg #[.string b.name, .int .i64 b.kind, .int .i64 b.n, .string b.text]] w (OptF (comb 8 a b) w) := by
 rcases feat_cases a b with h | ⟨hne, h⟩
 · have hV := Lib.hid (show comb 8 a b = some (truthF true) by subst h; simp [comb])
   subst h
   go_enter Tryz.func104, Tryz.ntmps104
   go_wp2_with fail
   refine (truth_t _).mono ?_
   rintro e w1 ⟨rfl, hE1⟩
   obtain ⟨⟨x0, x1, x2, x3⟩, f0, f1, f2, f3⟩ := new4 (w.heap.size + 1 + 1) (by first | rfl | simp) hE1
   have hE : Ext w w1 := Ext.trans xt hE1
   clear hE1
   go_wp2
   exact bodyPost_ret (v := .tuple #[.agg #[.string ⟨#[]⟩, .int .i64 3, .int .i64 1, .string ⟨#[]⟩], .bool true]) (by first | (simp [results, Tryz.results104, go_sem, x0, x1, x2, x3]; done) | simp [results, Tryz.results104, go_sem]) rfl ⟨by rw [hV.out]; rfl, xt⟩
 · have hV := Lib.hid (show comb 8 a b = some (truthF false) by simp [comb, hne])
   clear hne
   obtain ⟨an, ak, am, at'⟩ := a
   obtain ⟨bn, bk, bm, bt⟩ := b
   simp only at h ⊢
   rcases h with h | ⟨e1, h⟩ | ⟨e1, e2, h⟩ | ⟨e1, e2, e3, h⟩
   · have g := bytes_ne h
     clear h
     go_enter Tryz.func104, Tryz.ntmps104
     go_wp2_with fail
     refine (truth_f _).mono ?_
     rintro e w1 ⟨rfl, hE1⟩
     obtain ⟨⟨x0, x1, x2, x3⟩, f0, f1, f2, f3⟩ := new4 (w.heap.size + 1 + 1) (by first | rfl | simp) hE1
     have hE : Ext w w1 := Ext.trans xt hE1
     clear hE1
     go_wp2
     exact bodyPost_ret (v := .tuple #[.agg #[.string ⟨#[]⟩, .int .i64 3, .int .i64 0, .string ⟨#[]⟩], .bool true]) (by first | (simp [results, Tryz.results104, go_sem, x0, x1, x2, x3]; done) | simp [results, Tryz.results104, go_sem]) rfl ⟨by rw [hV.out]; rfl, xt⟩
   · subst e1
     have g : (ak == bk) = false := by simp [h]
     go_enter Tryz.func104, Tryz.ntmps104
     go_wp2_with fail
     refine (truth_f _).mono ?_
     rintro e w1 ⟨rfl, hE1⟩
     obtain ⟨⟨x0, x1, x2, x3⟩, f0, f1, f2, f3⟩ := new4 (w.heap.size + 1 + 1) (by first | rfl | simp) hE1
     have hE : Ext w w1 := Ext.trans xt hE1
     clear hE1
     go_wp2
     exact bodyPost_ret (v := .tuple #[.agg #[.string ⟨#[]⟩, .int .i64 3, .int .i64 0, .string ⟨#[]⟩], .bool true]) (by first | (simp [results, Tryz.results104, go_sem, x0, x1, x2, x3]; done) | simp [results, Tryz.results104, go_sem]) rfl ⟨by rw [hV.out]; rfl, xt⟩
   · subst e1
     subst e2
     have g : (am == bm) = false := by simp [h]
     go_enter Tryz.func104, Tryz.ntmps104
     go_wp2_with fail
     refine (truth_f _).mono ?_
     rintro e w1 ⟨rfl, hE1⟩
     obtain ⟨⟨x0, x1, x2, x3⟩, f0, f1, f2, f3⟩ := new4 (w.heap.size + 1 + 1) (by first | rfl | simp) hE1
     have hE : Ext w w1 := Ext.trans xt hE1
     clear hE1
     go_wp2
     exact bodyPost_ret (v := .tuple #[.agg #[.string ⟨#[]⟩, .int .i64 3, .int .i64 0, .string ⟨#[]⟩], .bool true]) (by first | (simp [results, Tryz.results104, go_sem, x0, x1, x2, x3]; done) | simp [results, Tryz.results104, go_sem]) rfl ⟨by rw [hV.out]; rfl, xt⟩
   · subst e1
     subst e2
     subst e3
     have g := bytes_ne h
     clear h
     go_enter Tryz.func104, Tryz.ntmps104
     go_wp2_with fail
     refine (truth_f _).mono ?_
     rintro e w1 ⟨rfl, hE1⟩
     obtain ⟨⟨x0, x1, x2, x3⟩, f0, f1, f2, f3⟩ := new4 (w.heap.size + 1 + 1) (by first | rfl | simp) hE1
     have hE : Ext w w1 := Ext.trans xt hE1
     clear hE1
     go_wp2
     exact bodyPost_ret (v := .tuple #[.agg #[.string ⟨#[]⟩, .int .i64 3, .int .i64 0, .string ⟨#[]⟩], .bool true]) (by first | (simp [results, Tryz.results104, go_sem, x0, x1, x2, x3]; done) | simp [results, Tryz.results104, go_sem]) rfl ⟨by rw [hV.out]; rfl, xt⟩
set_option maxRecDepth 8000 in
set_option maxHeartbeats 4000000 in
theorem comb9 (a b : Feat) (w : World) : Calls Tryz.prog 104 #[.int .i64 9, .agg #[.string a.name, .int .i64 a.kind, .int .i64 a.n, .string a.text], .agg #[.string b.name, .int .i64 b.kind, .int .i64 b.n, .string b.text]] w (OptF (comb 9 a b) w) := by
 rcases feat_cases a b with h | ⟨hne, h⟩
 · have hV := Lib.hid (show comb 9 a b = some (truthF false) by subst h; simp [comb])
   subst h
   go_enter Tryz.func104, Tryz.ntmps104
   go_wp2_with fail
   refine (truth_f _).mono ?_
   rintro e w1 ⟨rfl, hE1⟩
   obtain ⟨⟨x0, x1, x2, x3⟩, f0, f1, f2, f3⟩ := new4 (w.heap.size + 1 + 1) (by first | rfl | simp) hE1
   have hE : Ext w w1 := Ext.trans xt hE1
   clear hE1
   go_wp2
   exact bodyPost_ret (v := .tuple #[.agg #[.string ⟨#[]⟩, .int .i64 3, .int .i64 0, .string ⟨#[]⟩], .bool true]) (by first | (simp [results, Tryz.results104, go_sem, x0, x1, x2, x3]; done) | simp [results, Tryz.results104, go_sem]) rfl ⟨by rw [hV.out]; rfl, xt⟩
 · have hV := Lib.hid (show comb 9 a b = some (truthF true) by simp [comb, hne])
   clear hne
   obtain ⟨an, ak, am, at'⟩ := a
   obtain ⟨bn, bk, bm, bt⟩ := b
   simp only at h ⊢
   rcases h with h | ⟨e1, h⟩ | ⟨e1, e2, h⟩ | ⟨e1, e2, e3, h⟩
   · have g := bytes_ne h
     clear h
     go_enter Tryz.func104, Tryz.ntmps104
     go_wp2_with fail
     refine (truth_t _).mono ?_
     rintro e w1 ⟨rfl, hE1⟩
     obtain ⟨⟨x0, x1, x2, x3⟩, f0, f1, f2, f3⟩ := new4 (w.heap.size + 1 + 1) (by first | rfl | simp) hE1
     have hE : Ext w w1 := Ext.trans xt hE1
     clear hE1
     go_wp2
     exact bodyPost_ret (v := .tuple #[.agg #[.string ⟨#[]⟩, .int .i64 3, .int .i64 1, .string ⟨#[]⟩], .bool true]) (by first | (simp [results, Tryz.results104, go_sem, x0, x1, x2, x3]; done) | simp [results, Tryz.results104, go_sem]) rfl ⟨by rw [hV.out]; rfl, xt⟩
   · subst e1
     have g : (ak == bk) = false := by simp [h]
     go_enter Tryz.func104, Tryz.ntmps104
     go_wp2_with fail
     refine (truth_t _).mono ?_
     rintro e w1 ⟨rfl, hE1⟩
     obtain ⟨⟨x0, x1, x2, x3⟩, f0, f1, f2, f3⟩ := new4 (w.heap.size + 1 + 1) (by first | rfl | simp) hE1
     have hE : Ext w w1 := Ext.trans xt hE1
     clear hE1
     go_wp2
     exact bodyPost_ret (v := .tuple #[.agg #[.string ⟨#[]⟩, .int .i64 3, .int .i64 1, .string ⟨#[]⟩], .bool true]) (by first | (simp [results, Tryz.results104, go_sem, x0, x1, x2, x3]; done) | simp [results, Tryz.results104, go_sem]) rfl ⟨by rw [hV.out]; rfl, xt⟩
   · subst e1
     subst e2
     have g : (am == bm) = false := by simp [h]
     go_enter Tryz.func104, Tryz.ntmps104
     go_wp2_with fail
     refine (truth_t _).mono ?_
     rintro e w1 ⟨rfl, hE1⟩
     obtain ⟨⟨x0, x1, x2, x3⟩, f0, f1, f2, f3⟩ := new4 (w.heap.size + 1 + 1) (by first | rfl | simp) hE1
     have hE : Ext w w1 := Ext.trans xt hE1
     clear hE1
     go_wp2
     exact bodyPost_ret (v := .tuple #[.agg #[.string ⟨#[]⟩, .int .i64 3, .int .i64 1, .string ⟨#[]⟩], .bool true]) (by first | (simp [results, Tryz.results104, go_sem, x0, x1, x2, x3]; done) | simp [results, Tryz.results104, go_sem]) rfl ⟨by rw [hV.out]; rfl, xt⟩
   · subst e1
     subst e2
     subst e3
     have g := bytes_ne h
     clear h
     go_enter Tryz.func104, Tryz.ntmps104
     go_wp2_with fail
     refine (truth_t _).mono ?_
     rintro e w1 ⟨rfl, hE1⟩
     obtain ⟨⟨x0, x1, x2, x3⟩, f0, f1, f2, f3⟩ := new4 (w.heap.size + 1 + 1) (by first | rfl | simp) hE1
     have hE : Ext w w1 := Ext.trans xt hE1
     clear hE1
     go_wp2
     exact bodyPost_ret (v := .tuple #[.agg #[.string ⟨#[]⟩, .int .i64 3, .int .i64 1, .string ⟨#[]⟩], .bool true]) (by first | (simp [results, Tryz.results104, go_sem, x0, x1, x2, x3]; done) | simp [results, Tryz.results104, go_sem]) rfl ⟨by rw [hV.out]; rfl, xt⟩
set_option maxRecDepth 8000 in
set_option maxHeartbeats 4000000 in
theorem comb10 (a b : Feat) (w : World) : Calls Tryz.prog 104 #[.int .i64 10, .agg #[.string a.name, .int .i64 a.kind, .int .i64 a.n, .string a.text], .agg #[.string b.name, .int .i64 b.kind, .int .i64 b.n, .string b.text]] w (OptF (comb 10 a b) w) := by
 by_cases h : a.n < b.n
 · have hV := Lib.hid (show comb 10 a b = some (truthF true) by unfold comb; rw [if_neg (by decide), if_neg (by decide), if_pos rfl, decide_eq_true h])
   have g := decide_eq_true h
   clear h
   go_enter Tryz.func104, Tryz.ntmps104
   go_wp2_with fail
   refine (truth_t _).mono ?_
   rintro e w1 ⟨rfl, hE1⟩
   obtain ⟨⟨x0, x1, x2, x3⟩, f0, f1, f2, f3⟩ := new4 (w.heap.size + 1 + 1) (by first | rfl | simp) hE1
   have hE : Ext w w1 := Ext.trans xt hE1
   clear hE1
   go_wp2
   exact bodyPost_ret (v := .tuple #[.agg #[.string ⟨#[]⟩, .int .i64 3, .int .i64 1, .string ⟨#[]⟩], .bool true]) (by first | (simp [results, Tryz.results104, go_sem, x0, x1, x2, x3]; done) | simp [results, Tryz.results104, go_sem]) rfl ⟨by rw [hV.out]; rfl, xt⟩
 · have hV := Lib.hid (show comb 10 a b = some (truthF false) by unfold comb; rw [if_neg (by decide), if_neg (by decide), if_pos rfl, decide_eq_false h])
   have g := decide_eq_false h
   clear h
   go_enter Tryz.func104, Tryz.ntmps104
   go_wp2_with fail
   refine (truth_f _).mono ?_
   rintro e w1 ⟨rfl, hE1⟩
   obtain ⟨⟨x0, x1, x2, x3⟩, f0, f1, f2, f3⟩ := new4 (w.heap.size + 1 + 1) (by first | rfl | simp) hE1
   have hE : Ext w w1 := Ext.trans xt hE1
   clear hE1
   go_wp2
   exact bodyPost_ret (v := .tuple #[.agg #[.string ⟨#[]⟩, .int .i64 3, .int .i64 0, .string ⟨#[]⟩], .bool true]) (by first | (simp [results, Tryz.results104, go_sem, x0, x1, x2, x3]; done) | simp [results, Tryz.results104, go_sem]) rfl ⟨by rw [hV.out]; rfl, xt⟩
set_option maxRecDepth 8000 in
set_option maxHeartbeats 4000000 in
theorem comb11 (a b : Feat) (w : World) : Calls Tryz.prog 104 #[.int .i64 11, .agg #[.string a.name, .int .i64 a.kind, .int .i64 a.n, .string a.text], .agg #[.string b.name, .int .i64 b.kind, .int .i64 b.n, .string b.text]] w (OptF (comb 11 a b) w) := by
 by_cases h : a.n ≤ b.n
 · have hV := Lib.hid (show comb 11 a b = some (truthF true) by unfold comb; rw [if_neg (by decide), if_neg (by decide), if_neg (by decide), if_pos rfl, decide_eq_true h])
   have g := decide_eq_true h
   clear h
   go_enter Tryz.func104, Tryz.ntmps104
   go_wp2_with fail
   refine (truth_t _).mono ?_
   rintro e w1 ⟨rfl, hE1⟩
   obtain ⟨⟨x0, x1, x2, x3⟩, f0, f1, f2, f3⟩ := new4 (w.heap.size + 1 + 1) (by first | rfl | simp) hE1
   have hE : Ext w w1 := Ext.trans xt hE1
   clear hE1
   go_wp2
   exact bodyPost_ret (v := .tuple #[.agg #[.string ⟨#[]⟩, .int .i64 3, .int .i64 1, .string ⟨#[]⟩], .bool true]) (by first | (simp [results, Tryz.results104, go_sem, x0, x1, x2, x3]; done) | simp [results, Tryz.results104, go_sem]) rfl ⟨by rw [hV.out]; rfl, xt⟩
 · have hV := Lib.hid (show comb 11 a b = some (truthF false) by unfold comb; rw [if_neg (by decide), if_neg (by decide), if_neg (by decide), if_pos rfl, decide_eq_false h])
   have g := decide_eq_false h
   clear h
   go_enter Tryz.func104, Tryz.ntmps104
   go_wp2_with fail
   refine (truth_f _).mono ?_
   rintro e w1 ⟨rfl, hE1⟩
   obtain ⟨⟨x0, x1, x2, x3⟩, f0, f1, f2, f3⟩ := new4 (w.heap.size + 1 + 1) (by first | rfl | simp) hE1
   have hE : Ext w w1 := Ext.trans xt hE1
   clear hE1
   go_wp2
   exact bodyPost_ret (v := .tuple #[.agg #[.string ⟨#[]⟩, .int .i64 3, .int .i64 0, .string ⟨#[]⟩], .bool true]) (by first | (simp [results, Tryz.results104, go_sem, x0, x1, x2, x3]; done) | simp [results, Tryz.results104, go_sem]) rfl ⟨by rw [hV.out]; rfl, xt⟩
set_option maxRecDepth 8000 in
set_option maxHeartbeats 4000000 in
theorem comb12 (a b : Feat) (w : World) (ha : nbrB a.n = true) (hb : nbrB b.n = true) : Calls Tryz.prog 104 #[.int .i64 12, .agg #[.string a.name, .int .i64 a.kind, .int .i64 a.n, .string a.text], .agg #[.string b.name, .int .i64 b.kind, .int .i64 b.n, .string b.text]] w (OptF (comb 12 a b) w) := by
 have hc := Lib.hid (fun w => sum_any a.n b.n w ha hb)
 have hV := Lib.hid (show comb 12 a b = (sumV a.n b.n).map numF by simp [comb])
 clear ha hb
 go_enter Tryz.func104, Tryz.ntmps104
 go_wp2_with fail
 refine (hc.out _).mono ?_
 rintro e w1 ⟨rfl, rfl⟩
 cases ho : sumV a.n b.n with
 | none =>
  rw [ho] at hV
  replace hV := Lib.hid hV.out
  clear hc ho
  simp only [Option.getD_none, Option.isSome_none]
  go_wp2
  exact bodyPost_ret (v := .tuple #[.agg #[.string ⟨#[]⟩, .int .i64 0, .int .i64 0, .string ⟨#[]⟩], .bool false]) (by first | (simp [results, Tryz.results104, go_sem, x0, x1, x2, x3]; done) | simp [results, Tryz.results104, go_sem]) rfl ⟨by rw [hV.out]; rfl, xt⟩
 | some m =>
  rw [ho] at hV
  replace hV := Lib.hid hV.out
  clear hc ho
  simp only [Option.getD_some, Option.isSome_some]
  go_wp2_with fail
  refine (number_any m _).mono ?_
  rintro e w1 ⟨rfl, hE1⟩
  obtain ⟨⟨x0, x1, x2, x3⟩, f0, f1, f2, f3⟩ := new4 (w.heap.size + 1 + 1) (by first | rfl | simp) hE1
  have hE : Ext w w1 := Ext.trans xt hE1
  clear hE1
  go_wp2
  exact bodyPost_ret (v := .tuple #[.agg #[.string ⟨#[]⟩, .int .i64 1, .int .i64 m, .string ⟨#[]⟩], .bool true]) (by first | (simp [results, Tryz.results104, go_sem, x0, x1, x2, x3]; done) | simp [results, Tryz.results104, go_sem]) rfl ⟨by rw [hV.out]; rfl, xt⟩
set_option maxRecDepth 8000 in
set_option maxHeartbeats 4000000 in
theorem comb13 (a b : Feat) (w : World) (ha : nbrB a.n = true) (hb : nbrB b.n = true) : Calls Tryz.prog 104 #[.int .i64 13, .agg #[.string a.name, .int .i64 a.kind, .int .i64 a.n, .string a.text], .agg #[.string b.name, .int .i64 b.kind, .int .i64 b.n, .string b.text]] w (OptF (comb 13 a b) w) := by
 have hb2 : nbrB (-b.n) = true := by rw [nbr_iff] at hb ⊢; omega
 have e1 : wrap64 (-b.n) = -b.n := by rw [nbr_iff] at hb; exact wrap64_id _ (by omega) (by omega)
 have hc := Lib.hid (fun w => sum_any a.n (-b.n) w ha hb2)
 have hV := Lib.hid (show comb 13 a b = (sumV a.n (-b.n)).map numF by simp [comb])
 clear ha hb hb2
 go_enter Tryz.func104, Tryz.ntmps104
 go_wp2_with fail
 try rw [e1]
 refine (hc.out _).mono ?_
 rintro e w1 ⟨rfl, rfl⟩
 cases ho : sumV a.n (-b.n) with
 | none =>
  rw [ho] at hV
  replace hV := Lib.hid hV.out
  clear hc ho
  simp only [Option.getD_none, Option.isSome_none]
  go_wp2
  exact bodyPost_ret (v := .tuple #[.agg #[.string ⟨#[]⟩, .int .i64 0, .int .i64 0, .string ⟨#[]⟩], .bool false]) (by first | (simp [results, Tryz.results104, go_sem, x0, x1, x2, x3]; done) | simp [results, Tryz.results104, go_sem]) rfl ⟨by rw [hV.out]; rfl, xt⟩
 | some m =>
  rw [ho] at hV
  replace hV := Lib.hid hV.out
  clear hc ho
  simp only [Option.getD_some, Option.isSome_some]
  go_wp2_with fail
  refine (number_any m _).mono ?_
  rintro e w1 ⟨rfl, hE1⟩
  obtain ⟨⟨x0, x1, x2, x3⟩, f0, f1, f2, f3⟩ := new4 (w.heap.size + 1 + 1) (by first | rfl | simp) hE1
  have hE : Ext w w1 := Ext.trans xt hE1
  clear hE1
  go_wp2
  exact bodyPost_ret (v := .tuple #[.agg #[.string ⟨#[]⟩, .int .i64 1, .int .i64 m, .string ⟨#[]⟩], .bool true]) (by first | (simp [results, Tryz.results104, go_sem, x0, x1, x2, x3]; done) | simp [results, Tryz.results104, go_sem]) rfl ⟨by rw [hV.out]; rfl, xt⟩
set_option maxRecDepth 8000 in
set_option maxHeartbeats 4000000 in
theorem comb14 (a b : Feat) (w : World) (ha : nbrB a.n = true) (hb : nbrB b.n = true) : Calls Tryz.prog 104 #[.int .i64 14, .agg #[.string a.name, .int .i64 a.kind, .int .i64 a.n, .string a.text], .agg #[.string b.name, .int .i64 b.kind, .int .i64 b.n, .string b.text]] w (OptF (comb 14 a b) w) := by
 have hc := Lib.hid (fun w => product_any a.n b.n w ha hb)
 have hV := Lib.hid (show comb 14 a b = (mulV a.n b.n).map numF by simp [comb])
 clear ha hb
 go_enter Tryz.func104, Tryz.ntmps104
 go_wp2_with fail
 refine (hc.out _).mono ?_
 rintro e w1 ⟨rfl, rfl⟩
 cases ho : mulV a.n b.n with
 | none =>
  rw [ho] at hV
  replace hV := Lib.hid hV.out
  clear hc ho
  simp only [Option.getD_none, Option.isSome_none]
  go_wp2
  exact bodyPost_ret (v := .tuple #[.agg #[.string ⟨#[]⟩, .int .i64 0, .int .i64 0, .string ⟨#[]⟩], .bool false]) (by first | (simp [results, Tryz.results104, go_sem, x0, x1, x2, x3]; done) | simp [results, Tryz.results104, go_sem]) rfl ⟨by rw [hV.out]; rfl, xt⟩
 | some m =>
  rw [ho] at hV
  replace hV := Lib.hid hV.out
  clear hc ho
  simp only [Option.getD_some, Option.isSome_some]
  go_wp2_with fail
  refine (number_any m _).mono ?_
  rintro e w1 ⟨rfl, hE1⟩
  obtain ⟨⟨x0, x1, x2, x3⟩, f0, f1, f2, f3⟩ := new4 (w.heap.size + 1 + 1) (by first | rfl | simp) hE1
  have hE : Ext w w1 := Ext.trans xt hE1
  clear hE1
  go_wp2
  exact bodyPost_ret (v := .tuple #[.agg #[.string ⟨#[]⟩, .int .i64 1, .int .i64 m, .string ⟨#[]⟩], .bool true]) (by first | (simp [results, Tryz.results104, go_sem, x0, x1, x2, x3]; done) | simp [results, Tryz.results104, go_sem]) rfl ⟨by rw [hV.out]; rfl, xt⟩
set_option maxRecDepth 8000 in
set_option maxHeartbeats 4000000 in
theorem combx (op : Int) (a b : Feat) (w : World) (hop : op < 8 ∨ 14 < op) : Calls Tryz.prog 104 #[.int .i64 op, .agg #[.string a.name, .int .i64 a.kind, .int .i64 a.n, .string a.text], .agg #[.string b.name, .int .i64 b.kind, .int .i64 b.n, .string b.text]] w (OptF (comb op a b) w) := by
 have o8 : (op == 8) = false := by simp; omega
 have o9 : (op == 9) = false := by simp; omega
 have o10 : (op == 10) = false := by simp; omega
 have o11 : (op == 11) = false := by simp; omega
 have o12 : (op == 12) = false := by simp; omega
 have o13 : (op == 13) = false := by simp; omega
 have o14 : (op == 14) = false := by simp; omega
 have hV := Lib.hid (show comb op a b = some b by unfold comb; rw [if_neg (by omega), if_neg (by omega), if_neg (by omega), if_neg (by omega), if_neg (by omega), if_neg (by omega), if_neg (by omega)])
 clear hop
 go_enter Tryz.func104, Tryz.ntmps104
 go_wp2
 exact bodyPost_ret (v := .tuple #[.agg #[.string b.name, .int .i64 b.kind, .int .i64 b.n, .string b.text], .bool true]) (by first | (simp [results, Tryz.results104, go_sem, x0, x1, x2, x3]; done) | simp [results, Tryz.results104, go_sem]) rfl ⟨by rw [hV.out]; rfl, xt⟩
theorem combine_any (op : Int) (a b : Feat) (w : World) (hn : op = 12 ∨ op = 13 ∨ op = 14 → nbrB a.n = true ∧ nbrB b.n = true) : Calls Tryz.prog 104 #[.int .i64 op, .agg #[.string a.name, .int .i64 a.kind, .int .i64 a.n, .string a.text], .agg #[.string b.name, .int .i64 b.kind, .int .i64 b.n, .string b.text]] w (OptF (comb op a b) w) := by
 by_cases h : op < 8 ∨ 14 < op
 · exact combx op a b w h
 · have h' : op = 8 ∨ op = 9 ∨ op = 10 ∨ op = 11 ∨ op = 12 ∨ op = 13 ∨ op = 14 := by omega
   rcases h' with rfl | rfl | rfl | rfl | rfl | rfl | rfl
   · exact comb8 a b w
   · exact comb9 a b w
   · exact comb10 a b w
   · exact comb11 a b w
   · exact comb12 a b w (hn (by omega)).1 (hn (by omega)).2
   · exact comb13 a b w (hn (by omega)).1 (hn (by omega)).2
   · exact comb14 a b w (hn (by omega)).1 (hn (by omega)).2
end Go.Proofs.YtangdoidkcelfaaGreatDoor
namespace Go.Proofs.YtangdoidkcelfaaGreatDoor
open Go.RowKit
/-- Whether two expressions are equal. -/
def Ex.same : Ex → Ex → Bool
 | .mk o1 n1 t1 k1 a1, .mk o2 n2 t2 k2 a2 => decide (o1 = o2) && decide (n1 = n2) && decide (t1 = t2) && decide (k1 = k2) && sameL a1 a2
where sameL : List Ex → List Ex → Bool
 | [], [] => true
 | x :: r, y :: s => x.same y && sameL r s
 | _, _ => false
theorem sameL_iff : ∀ (a b : List Ex), Ex.same.sameL a b = true ↔ a.length = b.length ∧ ∀ i, i < a.length → (a.getD i exD).same (b.getD i exD) = true
 | [], [] => by simp [Ex.same.sameL]
 | [], y :: s => by simp [Ex.same.sameL]
 | x :: r, [] => by simp [Ex.same.sameL]
 | x :: r, y :: s => by
  rw [Ex.same.sameL, Bool.and_eq_true, sameL_iff r s]
  constructor
  · rintro ⟨h1, h2, h3⟩
    refine ⟨by simp [h2], fun i hi => ?_⟩
    cases i with
    | zero => exact h1
    | succ i => exact h3 i (by simpa using hi)
  · rintro ⟨h1, h2⟩
    exact ⟨h2 0 (by simp), by simpa using h1, fun i hi => h2 (i + 1) (by simpa using hi)⟩
theorem same_refl : ∀ x : Ex, x.same x = true
 | .mk op nm tx n args => by
  rw [Ex.same]
  simp only [decide_true, Bool.true_and]
  rw [sameL_iff]
  refine ⟨rfl, fun i hi => ?_⟩
  have hm : args.getD i exD ∈ args := by
   rw [List.getD_eq_getElem?_getD, List.getElem?_eq_getElem hi, Option.getD_some]
   exact List.getElem_mem hi
  exact same_refl (args.getD i exD)
termination_by x => SizeOf.sizeOf x
decreasing_by
 have := List.sizeOf_lt_of_mem hm
 simp only [Ex.mk.sizeOf_spec]
 omega
theorem same_false {o1 o2 k1 k2 : Int} {n1 n2 t1 t2 : ByteArray} {a1 a2 : List Ex} (h : o1 ≠ o2 ∨ n1 ≠ n2 ∨ t1 ≠ t2 ∨ k1 ≠ k2 ∨ Ex.same.sameL a1 a2 = false) : (Ex.mk o1 n1 t1 k1 a1).same (.mk o2 n2 t2 k2 a2) = false := by
 rw [Ex.same]
 rcases h with h | h | h | h | h <;> simp [h]
theorem same_true {o k : Int} {n t : ByteArray} {a1 a2 : List Ex} (h : Ex.same.sameL a1 a2 = true) : (Ex.mk o n t k a1).same (.mk o n t k a2) = true := by
 rw [Ex.same]
 simp [h]

end Go.Proofs.YtangdoidkcelfaaGreatDoor
namespace Go.Proofs.YtangdoidkcelfaaGreatDoor
open Go.RowKit
end Go.Proofs.YtangdoidkcelfaaGreatDoor
