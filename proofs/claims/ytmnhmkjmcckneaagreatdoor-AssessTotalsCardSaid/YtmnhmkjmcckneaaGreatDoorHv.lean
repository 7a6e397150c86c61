/- Contracts of law38's equal, sample and bought (walks); the chapter's examples (printed by gen/h10.py). -/
import Derived.Test.YtmnhmkjmcckneaaGreatDoorHs
import Derived.Test.YtmnhmkjmcckneaaGreatDoorG1
import Derived.Test.YtmnhmkjmcckneaaGreatDoorEi
import Derived.Test.YtmnhmkjmcckneaaGreatDoorEd
namespace Go.Proofs.YtmnhmkjmcckneaaGreatDoor
open Go.RowKit
/-- The rules of the chapter's examples. -/
def catX : Ex := .mk 3 catN emS 0 []
def eqX (x : Ex) (n : Int) : Ex := .mk 8 emS emS 0 [x, leafN n]
def ruF : RuleD := ⟨⟨#[102, 111, 111, 100]⟩, eqX catX 5411, 50, 0, 0, 0⟩
def ruR : RuleD := ⟨⟨#[114, 101, 115, 116]⟩, eqX (leafN 1) 1, 100, 0, 0, 0⟩
def ruS : RuleD := ⟨⟨#[97, 108, 108]⟩, eqX (leafN 1) 1, 0, 2, 0, 0⟩
def ruM : RuleD := ⟨⟨#[97, 108, 108]⟩, eqX (leafN 1) 1, 150, 0, 10, 0⟩
def samT : TabsD := ⟨[ruF, ruR], [ruS], [ruM]⟩
def samT1 : TabsD := ⟨[ruF], [ruS], [ruM]⟩
def bouR (k c : Int) : RecD := ⟨k, ⟨#[112]⟩, ⟨#[]⟩, ⟨#[115, 104, 111, 112, 98, 97, 110, 107]⟩, ⟨#[104, 111, 109, 101, 98, 97, 110, 107]⟩, ⟨#[83, 72, 79, 80, 49]⟩, ⟨#[52, 48, 48, 48, 48, 48, 48, 48, 48, 48, 48, 48, 48, 48, 55, 55]⟩, 1000, ⟨#[69, 85, 82]⟩, 1, c, false⟩
def resX : ResD := ⟨⟨⟨#[102, 111, 111, 100]⟩, 5, ⟨#[99, 97, 116, 101, 103, 111, 114, 121, 61, 53, 52, 49, 49]⟩⟩, ⟨⟨#[97, 108, 108]⟩, 2, ⟨#[]⟩⟩, ⟨⟨#[97, 108, 108]⟩, 15, ⟨#[]⟩⟩, -1000, 5, 8, 985, 2⟩
def resY : ResD := ⟨⟨⟨#[114, 101, 115, 116]⟩, 10, ⟨#[]⟩⟩, ⟨⟨#[97, 108, 108]⟩, 2, ⟨#[]⟩⟩, ⟨⟨#[97, 108, 108]⟩, 15, ⟨#[]⟩⟩, 1000, -10, -7, -985, 2⟩
theorem rec_x : recE (bouR 1 5411) = 0 := by decide +kernel
theorem rec_y : recE (bouR 2 7995) = 0 := by decide +kernel
theorem tab_sam : tabsE samT = 0 := by decide +kernel
theorem tab_sam1 : tabsE samT1 = 6 := by decide +kernel
theorem hold_f : holdsB (recF (bouR 1 5411)) ruF = true := by decide +kernel
theorem hold_fn : holdsB (recF (bouR 2 7995)) ruF = false := by decide +kernel
theorem hold_r : holdsB (recF (bouR 2 7995)) ruR = true := by decide +kernel
theorem hold_s1 : holdsB (recF (bouR 1 5411)) ruS = true := by decide +kernel
theorem hold_s2 : holdsB (recF (bouR 2 7995)) ruS = true := by decide +kernel
theorem hold_m1 : holdsB (recF (bouR 1 5411)) ruM = true := by decide +kernel
theorem hold_m2 : holdsB (recF (bouR 2 7995)) ruM = true := by decide +kernel
theorem occ_f : uniL ruF.when.occ = [bts catN] := by decide +kernel
theorem occ_r : uniL ruR.when.occ = [] := by decide +kernel
theorem occ_s : uniL ruS.when.occ = [] := by decide +kernel
theorem occ_m : uniL ruM.when.occ = [] := by decide +kernel
theorem why_f : whyV (recF (bouR 1 5411)) [bts catN] = ⟨#[99, 97, 116, 101, 103, 111, 114, 121, 61, 53, 52, 49, 49]⟩ := by decide +kernel
theorem why_n (fs : List Feat) : whyV fs [] = ⟨#[]⟩ := rfl
theorem fst_at {fs : List Feat} {r : RuleD} {l : List RuleD} {ns : List (List UInt8)} {n a : Int} {y : ByteArray} (h : holdsB fs r = true) (ho : uniL r.when.occ = ns) (hf : feeV r n = (a, 0)) (hw : whyV fs ns = y) : applyV (r :: l) fs n = (⟨r.name, a, y⟩, 0) := by
 have hi : idxF (holdsB fs) 0 (r :: l) = some 0 := by rw [idxF, if_pos h]
 unfold applyV
 rw [hi]
 simp only [List.getD_cons_zero]
 rw [hf, ho, hw]
 rfl
theorem ap_x0 : applyV samT.i (recF (bouR 1 5411)) 1000 = (⟨⟨#[102, 111, 111, 100]⟩, 5, ⟨#[99, 97, 116, 101, 103, 111, 114, 121, 61, 53, 52, 49, 49]⟩⟩, 0) := fst_at hold_f occ_f (by decide +kernel) why_f
theorem ap_x1 : applyV samT.s (recF (bouR 1 5411)) 1000 = (⟨⟨#[97, 108, 108]⟩, 2, ⟨#[]⟩⟩, 0) := fst_at hold_s1 occ_s (by decide +kernel) (why_n _)
theorem ap_x2 : applyV samT.m (recF (bouR 1 5411)) 1000 = (⟨⟨#[97, 108, 108]⟩, 15, ⟨#[]⟩⟩, 0) := fst_at hold_m1 occ_m (by decide +kernel) (why_n _)
theorem ap_y1 : applyV samT.s (recF (bouR 2 7995)) 1000 = (⟨⟨#[97, 108, 108]⟩, 2, ⟨#[]⟩⟩, 0) := fst_at hold_s2 occ_s (by decide +kernel) (why_n _)
theorem ap_y2 : applyV samT.m (recF (bouR 2 7995)) 1000 = (⟨⟨#[97, 108, 108]⟩, 15, ⟨#[]⟩⟩, 0) := fst_at hold_m2 occ_m (by decide +kernel) (why_n _)
theorem ap_y0 : applyV samT.i (recF (bouR 2 7995)) 1000 = (⟨⟨#[114, 101, 115, 116]⟩, 10, ⟨#[]⟩⟩, 0) := by
 have hi : idxF (holdsB (recF (bouR 2 7995))) 0 samT.i = some 1 := by
  show idxF _ 0 [ruF, ruR] = _
  rw [idxF, if_neg (by rw [hold_fn]; decide), idxF, if_pos hold_r]
 unfold applyV
 rw [hi]
 have hg : samT.i.getD 1 rD = ruR := rfl
 have hf : feeV ruR 1000 = (10, 0) := by decide +kernel
 simp only
 rw [hg, hf, occ_r, why_n]
 rfl
theorem as_x : assessV samT (bouR 1 5411) = (resX, 0) := by
 unfold assessV
 rw [if_neg (by rw [rec_x]; decide), if_neg (by rw [tab_sam]; decide), show (bouR 1 5411).amt = 1000 from rfl, ap_x0, ap_x1, ap_x2]
 rfl
theorem as_y : assessV samT (bouR 2 7995) = (resY, 0) := by
 unfold assessV
 rw [if_neg (by rw [rec_y]; decide), if_neg (by rw [tab_sam]; decide), show (bouR 2 7995).amt = 1000 from rfl, ap_y0, ap_y1, ap_y2]
 rfl
theorem parts_ru (r : RuleD) (h : r = ruF ∨ r = ruR ∨ r = ruS ∨ r = ruM) : r.when.parts.length ≤ 100 ∧ Sh2 r.when.parts ∧ r.name.size ≤ 100 := by
 have h1 : Sh2 [eqX catX 5411, catX, leafN 5411] := by
  intro p hp
  simp only [List.mem_cons, List.not_mem_nil, or_false] at hp
  rcases hp with rfl | rfl | rfl <;> decide
 have h2 : Sh2 [eqX (leafN 1) 1, leafN 1, leafN 1] := by
  intro p hp
  simp only [List.mem_cons, List.not_mem_nil, or_false] at hp
  rcases hp with rfl | rfl | rfl <;> decide
 rcases h with rfl | rfl | rfl | rfl
 · exact ⟨by decide, h1, by decide⟩
 · exact ⟨by decide, h2, by decide⟩
 · exact ⟨by decide, h2, by decide⟩
 · exact ⟨by decide, h2, by decide⟩
theorem few_sam : FewOk [ruF, ruR] := ⟨by decide, fun i hi => by
 have hi : i < 2 := hi
 match i, hi with
 | 0, _ => exact parts_ru ruF (Or.inl rfl)
 | 1, _ => exact parts_ru ruR (Or.inr (Or.inl rfl))⟩
theorem few_one {r : RuleD} (h : r = ruF ∨ r = ruR ∨ r = ruS ∨ r = ruM) : FewOk [r] := ⟨by simp, fun i hi => by
 have hi : i < 1 := hi
 match i, hi with
 | 0, _ => exact parts_ru r h⟩
theorem sma_sam : SmaOk samT := ⟨few_sam, few_one (Or.inr (Or.inr (Or.inl rfl))), few_one (Or.inr (Or.inr (Or.inr rfl)))⟩
theorem sma_sam1 : SmaOk samT1 := ⟨few_one (Or.inl rfl), few_one (Or.inr (Or.inr (Or.inl rfl))), few_one (Or.inr (Or.inr (Or.inr rfl)))⟩
def Eq38P (x : Ex) (n : Int) (w : World) (e : Ending) (w' : World) : Prop := ∃ p c, e = .returned (.agg #[.int .i64 8, .string ⟨#[]⟩, .string ⟨#[]⟩, .int .i64 0, .slice p 2 c]) ∧ ExB w' (fun j => w.heap.size ≤ j) (.slice p 2 c) [x, leafN n] ∧ Ext w w'
set_option maxRecDepth 8000 in
set_option maxHeartbeats 1000000 in
theorem eq38_one (n : Int) (w : World) : Calls Tryz.prog 52 #[.string ⟨#[]⟩, .int .i64 n] w (Eq38P (leafN 1) n w) := by
 go_enter Tryz.func52, Tryz.ntmps52
 go_wp2
 exact bodyPost_ret (v := .agg #[.int .i64 8, .string ⟨#[]⟩, .string ⟨#[]⟩, .int .i64 0, .slice (some ⟨w.heap.size + 1 + 1, 0, none⟩) 2 2]) (by simp [results, Tryz.results52, go_sem]) rfl ⟨_, 2, rfl, exb_two (ok := fun j => w.heap.size ≤ j) (x := leafN 1) (y := leafN n) (Blk.new' _ _ _ _ (by simp)) (by omega) (.nil none 0) (.nil none 0) (by omega), xt⟩
set_option maxRecDepth 8000 in
set_option maxHeartbeats 1000000 in
theorem eq38_cat (n : Int) (w : World) : Calls Tryz.prog 52 #[.string ⟨#[99, 97, 116, 101, 103, 111, 114, 121]⟩, .int .i64 n] w (Eq38P catX n w) := by
 go_enter Tryz.func52, Tryz.ntmps52
 go_wp2
 exact bodyPost_ret (v := .agg #[.int .i64 8, .string ⟨#[]⟩, .string ⟨#[]⟩, .int .i64 0, .slice (some ⟨w.heap.size + 1 + 1, 0, none⟩) 2 2]) (by simp [results, Tryz.results52, go_sem]) rfl ⟨_, 2, rfl, exb_two (ok := fun j => w.heap.size ≤ j) (x := catX) (y := leafN n) (Blk.new' _ _ _ _ (by simp)) (by omega) (.nil none 0) (.nil none 0) (by omega), xt⟩
theorem rules1_of {w : World} {B c : Nat} {p : Option Addr} {k : Nat} {T : TypeId} {r : RuleD} (h : Blk w B #[.string r.name, .int .i64 r.when.op, .string r.when.name, .string r.when.text, .int .i64 r.when.n, .slice p 2 c, .int .i64 r.bps, .int .i64 r.fixed, .int .i64 r.mn, .int .i64 r.mx] T) (h1 : ExS w (.slice p 2 c) r.when.args) (hk : 1 ≤ k) : RulesM w (.slice (some ⟨B, 0, none⟩) 1 k) [r] :=
 ⟨by simp, Or.inr ⟨B, 0, k, fun _ => .slice p 2 c, rfl, hk, fun i hi => by
  have hi : i < 1 := hi
  match i, hi with
  | 0, _ => exact ⟨⟨(h.cell 0).trans rfl, (h.cell 1).trans rfl, (h.cell 2).trans rfl, (h.cell 3).trans rfl, (h.cell 4).trans rfl, (h.cell 5).trans rfl, (h.cell 6).trans rfl, (h.cell 7).trans rfl, (h.cell 8).trans rfl, (h.cell 9).trans rfl⟩, h1⟩⟩⟩
theorem rules2_of {w : World} {B c1 c2 : Nat} {p1 p2 : Option Addr} {T : TypeId} (h : Blk w B #[.string ⟨#[102, 111, 111, 100]⟩, .int .i64 8, .string ⟨#[]⟩, .string ⟨#[]⟩, .int .i64 0, .slice p1 2 c1, .int .i64 50, .int .i64 0, .int .i64 0, .int .i64 0, .string ⟨#[114, 101, 115, 116]⟩, .int .i64 8, .string ⟨#[]⟩, .string ⟨#[]⟩, .int .i64 0, .slice p2 2 c2, .int .i64 100, .int .i64 0, .int .i64 0, .int .i64 0] T) (h1 : ExS w (.slice p1 2 c1) ruF.when.args) (h2 : ExS w (.slice p2 2 c2) ruR.when.args) : RulesM w (.slice (some ⟨B, 0, none⟩) 2 2) [ruF, ruR] ∧ RulesM w (.slice (some ⟨B, 0, none⟩) 1 2) [ruF] := by
 have k0 : RuleCells w B 0 ruF (.slice p1 2 c1) := ⟨(h.cell 0).trans rfl, (h.cell 1).trans rfl, (h.cell 2).trans rfl, (h.cell 3).trans rfl, (h.cell 4).trans rfl, (h.cell 5).trans rfl, (h.cell 6).trans rfl, (h.cell 7).trans rfl, (h.cell 8).trans rfl, (h.cell 9).trans rfl⟩
 have k1 : RuleCells w B 10 ruR (.slice p2 2 c2) := ⟨(h.cell 10).trans rfl, (h.cell 11).trans rfl, (h.cell 12).trans rfl, (h.cell 13).trans rfl, (h.cell 14).trans rfl, (h.cell 15).trans rfl, (h.cell 16).trans rfl, (h.cell 17).trans rfl, (h.cell 18).trans rfl, (h.cell 19).trans rfl⟩
 refine ⟨⟨by simp, Or.inr ⟨B, 0, 2, fun i => if i = 0 then .slice p1 2 c1 else .slice p2 2 c2, rfl, by simp, fun i hi => ?_⟩⟩, ⟨by simp, Or.inr ⟨B, 0, 2, fun _ => .slice p1 2 c1, rfl, by simp, fun i hi => ?_⟩⟩⟩
 · have hi : i < 2 := hi
   match i, hi with
   | 0, _ => exact ⟨k0, h1⟩
   | 1, _ => exact ⟨k1, h2⟩
 · have hi : i < 1 := hi
   match i, hi with
   | 0, _ => exact ⟨k0, h1⟩
def Sam38P (w : World) (e : Ending) (w' : World) : Prop := ∃ B1 B2 B3, e = .returned (.agg #[.slice (some ⟨B1, 0, none⟩) 2 2, .slice (some ⟨B2, 0, none⟩) 1 1, .slice (some ⟨B3, 0, none⟩) 1 1]) ∧ TabsM w' (.agg #[.slice (some ⟨B1, 0, none⟩) 2 2, .slice (some ⟨B2, 0, none⟩) 1 1, .slice (some ⟨B3, 0, none⟩) 1 1]) samT ∧ TabsM w' (.agg #[.slice (some ⟨B1, 0, none⟩) 1 2, .slice (some ⟨B2, 0, none⟩) 1 1, .slice (some ⟨B3, 0, none⟩) 1 1]) samT1 ∧ Ext w w'
theorem bou_any (k c : Int) (w : World) : Calls Tryz.prog 27 #[.int .i64 k, .int .i64 c] w (OneW (recAgg (bouR k c)) w) := by
 go_enter Tryz.func27, Tryz.ntmps27
 go_wp2
 exact bodyPost_ret (v := .agg #[.int .i64 k, .string ⟨#[112]⟩, .string ⟨#[]⟩, .string ⟨#[115, 104, 111, 112, 98, 97, 110, 107]⟩, .string ⟨#[104, 111, 109, 101, 98, 97, 110, 107]⟩, .string ⟨#[83, 72, 79, 80, 49]⟩, .string ⟨#[52, 48, 48, 48, 48, 48, 48, 48, 48, 48, 48, 48, 48, 48, 55, 55]⟩, .int .i64 1000, .string ⟨#[69, 85, 82]⟩, .int .i64 1, .int .i64 c, .bool false]) (by simp [results, Tryz.results27, go_sem]) rfl ⟨rfl, xt⟩
set_option maxRecDepth 8000 in
set_option maxHeartbeats 4000000 in
theorem sam38_any (w : World) : Calls Tryz.prog 26 #[] w (Sam38P w) := by
 go_enter Tryz.func26, Tryz.ntmps26
 go_wp2_with fail
 refine (eq38_cat 5411 _).mono ?_
 rintro e w1 ⟨p1, c1, rfl, h1, hE1⟩
 have hE : Ext w w1 := Ext.trans xt hE1
 replace h1 := Lib.hid (h1.imp (ok' := fun j => w.heap.size < j) (fun j hj _ => by simp at hj; omega))
 have hb0 := Lib.hid ((Blk.new w #[.slice none 0 0, .slice none 0 0, .slice none 0 0] 24).ext hE1)
 clear hE1
 go_wp2_with fail
 refine (eq38_one 1 _).mono ?_
 rintro e w2 ⟨p2, c2, rfl, h2, hE2⟩
 have hz1 := hb0.out.lt
 replace hb0 := Lib.hid (hb0.out.ext hE2)
 replace h1 := Lib.hid (h1.out.ext hE2)
 replace h2 := Lib.hid (h2.imp (ok' := fun j => w.heap.size < j) (fun j hj _ => by first | omega | (simp at hj; omega)))
 replace hE := hE.trans hE2
 clear hE2
 go_wp2_with fail
 refine (eq38_one 1 _).mono ?_
 rintro e w3 ⟨p3, c3, rfl, h3, hE3⟩
 have hb02 := hb0
 have hB1 := Lib.hid ((Blk.new w2 #[.string ⟨#[102, 111, 111, 100]⟩, .int .i64 8, .string ⟨#[]⟩, .string ⟨#[]⟩, .int .i64 0, .slice p1 2 c1, .int .i64 50, .int .i64 0, .int .i64 0, .int .i64 0, .string ⟨#[114, 101, 115, 116]⟩, .int .i64 8, .string ⟨#[]⟩, .string ⟨#[]⟩, .int .i64 0, .slice p2 2 c2, .int .i64 100, .int .i64 0, .int .i64 0, .int .i64 0] 56).ext hE3)
 have hN : Ext w2 w3 := ((Ext.refl w2).alloc _).trans hE3
 replace h1 := Lib.hid (h1.out.ext hN)
 replace h2 := Lib.hid (h2.out.ext hN)
 replace h3 := Lib.hid (h3.imp (ok' := fun j => w.heap.size < j) (fun j hj _ => by have := hb0.out.lt; first | omega | (simp at hj; omega)))
 replace hb0 := Lib.hid (hb0.out.ext hN)
 replace hE := hE.trans hN
 clear hE3 hN
 have hz2 := hb02.out.lt
 obtain ⟨B1, hB⟩ : ∃ B1, B1 = w2.heap.size := ⟨_, rfl⟩
 rw [← hB] at hB1 hz2 ⊢
 clear hB hb02
 go_wp2_with fail
 refine (eq38_one 1 _).mono ?_
 rintro e w4 ⟨p4, c4, rfl, h4, hE4⟩
 have hb03 := hb0
 have hB2 := Lib.hid ((Blk.new w3 #[.string ⟨#[97, 108, 108]⟩, .int .i64 8, .string ⟨#[]⟩, .string ⟨#[]⟩, .int .i64 0, .slice p3 2 c3, .int .i64 0, .int .i64 2, .int .i64 0, .int .i64 0] 56).ext hE4)
 have hN : Ext w3 w4 := ((Ext.refl w3).alloc _).trans hE4
 replace hB1 := Lib.hid (hB1.out.ext hN)
 replace h1 := Lib.hid (h1.out.ext hN)
 replace h2 := Lib.hid (h2.out.ext hN)
 replace h3 := Lib.hid (h3.out.ext hN)
 replace h4 := Lib.hid (h4.imp (ok' := fun j => w.heap.size < j) (fun j hj _ => by have := hb0.out.lt; first | omega | (simp at hj; omega)))
 replace hb0 := Lib.hid (hb0.out.ext hN)
 replace hE := hE.trans hN
 clear hE4 hN
 have hz3 := hb03.out.lt
 obtain ⟨B2, hB⟩ : ∃ B2, B2 = w3.heap.size := ⟨_, rfl⟩
 rw [← hB] at hB2 hz3 ⊢
 clear hB hb03
 have x0 : w4.cell? ⟨w.heap.size, 0, none⟩ = some (.slice none 0 0) := (hb0.out.cell 0).trans rfl
 have x1 : w4.cell? ⟨w.heap.size, 1, none⟩ = some (.slice none 0 0) := (hb0.out.cell 1).trans rfl
 have x2 : w4.cell? ⟨w.heap.size, 2, none⟩ = some (.slice none 0 0) := (hb0.out.cell 2).trans rfl
 have f0 : w4.frozen? ⟨w.heap.size, 0, none⟩ = false := hb0.out.fz 0
 have f1 : w4.frozen? ⟨w.heap.size, 1, none⟩ = false := hb0.out.fz 1
 have f2 : w4.frozen? ⟨w.heap.size, 2, none⟩ = false := hb0.out.fz 2
 have xs : w.heap.size < w4.heap.size := hb0.out.lt
 have xs1 : w.heap.size ≠ B1 := by omega
 have xs2 : w.heap.size ≠ B2 := by omega
 go_wp2
 obtain ⟨r1, r2⟩ := rules2_of (p1 := p1) (p2 := p2) (c1 := c1) (c2 := c2) (w := (((w4.setCell ⟨w.heap.size, 0, none⟩ (.slice (some ⟨B1, 0, none⟩) 2 2)).setCell ⟨w.heap.size, 1, none⟩ (.slice (some ⟨B2, 0, none⟩) 1 1)).setCell ⟨w.heap.size, 2, none⟩ (.slice (some ⟨w4.heap.size, 0, none⟩) 1 1)).alloc (.cells #[.string ⟨#[97, 108, 108]⟩, .int .i64 8, .string ⟨#[]⟩, .string ⟨#[]⟩, .int .i64 0, .slice p4 2 c4, .int .i64 150, .int .i64 0, .int .i64 10, .int .i64 0] 56)) (((((hB1.out.other _ _ (Ne.symm xs1)).other _ _ (Ne.symm xs1)).other _ _ (Ne.symm xs1)).alloc _)) ((((h1.out.set (fun j hj => by omega)).set (fun j hj => by omega)).set (fun j hj => by omega)).ext ((Ext.refl _).alloc _)).toS ((((h2.out.set (fun j hj => by omega)).set (fun j hj => by omega)).set (fun j hj => by omega)).ext ((Ext.refl _).alloc _)).toS
 have r3 := rules1_of (r := ruS) (k := 1) (p := p3) (c := c3) (w := (((w4.setCell ⟨w.heap.size, 0, none⟩ (.slice (some ⟨B1, 0, none⟩) 2 2)).setCell ⟨w.heap.size, 1, none⟩ (.slice (some ⟨B2, 0, none⟩) 1 1)).setCell ⟨w.heap.size, 2, none⟩ (.slice (some ⟨w4.heap.size, 0, none⟩) 1 1)).alloc (.cells #[.string ⟨#[97, 108, 108]⟩, .int .i64 8, .string ⟨#[]⟩, .string ⟨#[]⟩, .int .i64 0, .slice p4 2 c4, .int .i64 150, .int .i64 0, .int .i64 10, .int .i64 0] 56)) (((((hB2.out.other _ _ (Ne.symm xs2)).other _ _ (Ne.symm xs2)).other _ _ (Ne.symm xs2)).alloc _)) ((((h3.out.set (fun j hj => by omega)).set (fun j hj => by omega)).set (fun j hj => by omega)).ext ((Ext.refl _).alloc _)).toS (by omega)
 have r4 := rules1_of (B := w4.heap.size) (r := ruM) (k := 1) (p := p4) (c := c4) (w := (((w4.setCell ⟨w.heap.size, 0, none⟩ (.slice (some ⟨B1, 0, none⟩) 2 2)).setCell ⟨w.heap.size, 1, none⟩ (.slice (some ⟨B2, 0, none⟩) 1 1)).setCell ⟨w.heap.size, 2, none⟩ (.slice (some ⟨w4.heap.size, 0, none⟩) 1 1)).alloc (.cells #[.string ⟨#[97, 108, 108]⟩, .int .i64 8, .string ⟨#[]⟩, .string ⟨#[]⟩, .int .i64 0, .slice p4 2 c4, .int .i64 150, .int .i64 0, .int .i64 10, .int .i64 0] 56)) (Blk.new' _ _ _ _ (by simp)) ((((h4.out.set (fun j hj => by omega)).set (fun j hj => by omega)).set (fun j hj => by omega)).ext ((Ext.refl _).alloc _)).toS (by omega)
 exact bodyPost_ret (v := .agg #[.slice (some ⟨B1, 0, none⟩) 2 2, .slice (some ⟨B2, 0, none⟩) 1 1, .slice (some ⟨w4.heap.size, 0, none⟩) 1 1]) (by first | (simp [results, Tryz.results26, go_sem, x0, x1, x2, xs]; done) | simp [results, Tryz.results26, go_sem]) rfl ⟨_, _, _, rfl, ⟨_, _, _, rfl, r1, r3, r4⟩, ⟨_, _, _, rfl, r2, r3, r4⟩, xt⟩
end Go.Proofs.YtmnhmkjmcckneaaGreatDoor
