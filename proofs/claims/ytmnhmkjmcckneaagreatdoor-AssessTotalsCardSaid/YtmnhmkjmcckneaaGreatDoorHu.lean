/- The walk of the law AssessTotals behind the sum of the first part (printed by gen/h15.py). -/
import Derived.Test.YtmnhmkjmcckneaaGreatDoorHi
namespace Go.Proofs.YtmnhmkjmcckneaaGreatDoor
open Go.RowKit
/-- The code behind the first n statements. -/
def behind : Nat → Code → Code
 | 0, c => c
 | n + 1, .seq _ b => behind n b
 | _ + 1, c => c
/-- The code whose part behind the first four statements is another. -/
def plug4 : Code → Code → Code
 | .seq a (.seq b (.seq c (.seq d _))), e => .seq a (.seq b (.seq c (.seq d e)))
 | x, _ => x
/-- What follows the first loop of AssessTotals. -/
noncomputable def codeT38 : Code := behind 4 ((Tryz.f7.body).getD .skip)
/-- The code whose part behind the first five statements is another. -/
def plug5 : Code → Code → Code
 | .seq a (.seq b (.seq c (.seq d (.seq e _)))), f => .seq a (.seq b (.seq c (.seq d (.seq e f))))
 | x, _ => x
/-- What follows the sum of the first part. -/
noncomputable def codeU38 : Code := behind 5 codeT38
set_option maxRecDepth 8000 in
set_option maxHeartbeats 20000000 in
theorem totals_tail (w w4 : World) (gw : Gw w) (hE : Ext w w4) (ys : List ResD) (n cap M gB : Nat) (hn : n = ys.length) (hyl : ys.length ≤ 1000000) (hMn : M ≤ n) (hcap : n ≤ cap) (hcm : cap ≤ maxLen) (hn40 : n ≤ 40) (hcells0 : ∀ i, i < ys.length → ResC w4 gB (i * 14) (ys.getD i resD)) (S P Q : Nat → Int) (fq : sumsV (ys.drop M) = (sumR Q, 0)) (fz : sumsV [sumR P, sumR Q] = (sumR S, 0)) (f6 : balB (sumR S) = true) (f7 : Hid (S 6 = 0)) (BX BY BP : Nat) (bX : Hid (Blk w4 BX #[.string ⟨#[115, 117, 109]⟩, .int .i64 (S 5), .string ⟨#[]⟩, .string ⟨#[115, 117, 109]⟩, .int .i64 (S 6), .string ⟨#[]⟩, .string ⟨#[115, 117, 109]⟩, .int .i64 (S 7), .string ⟨#[]⟩, .int .i64 (S 0), .int .i64 (S 1), .int .i64 (S 2), .int .i64 (S 3), .int .i64 (S 4)] 35)) (bY : Hid (Blk w4 BY #[.string ⟨#[115, 117, 109]⟩, .int .i64 (S 5), .string ⟨#[]⟩, .string ⟨#[115, 117, 109]⟩, .int .i64 (S 6), .string ⟨#[]⟩, .string ⟨#[115, 117, 109]⟩, .int .i64 (S 7), .string ⟨#[]⟩, .int .i64 (S 0), .int .i64 (S 1), .int .i64 (S 2), .int .i64 (S 3), .int .i64 (S 4)] 35)) (bP : Hid (Blk w4 BP #[.string ⟨#[115, 117, 109]⟩, .int .i64 (P 5), .string ⟨#[]⟩, .string ⟨#[115, 117, 109]⟩, .int .i64 (P 6), .string ⟨#[]⟩, .string ⟨#[115, 117, 109]⟩, .int .i64 (P 7), .string ⟨#[]⟩, .int .i64 (P 0), .int .i64 (P 1), .int .i64 (P 2), .int .i64 (P 3), .int .i64 (P 4)] 35)) (q0 q1 q2 q3 q4 q6 q7 q8 q9 q17 q18 q19 q20 q21 q22 q23 q24 q25 q26 q27 q28 q29 q30 q31 q32 q33 q34 q35 q36 q37 q38 q39 q40 q41 q42 q43 q44 q45 q46 q47 q48 q49 q50 q51 q52 q53 q54 q55 q56 q57 q58 q59 q60 q61 q62 q63 q64 q65 q66 q67 q68 q69 q70 q71 q72 q73 q74 q75 q76 q77 q78 q79 q80 q81 q82 q83 q84 q85 q86 q87 q88 q89 q90 q91 q92 q93 q94 q95 q96 q97 q98 q99 q100 q101 q102 q103 q104 q105 q106 q107 q108 q109 q110 q111 q112 q113 q114 q115 q116 q117 q118 q119 q120 q121 q122 q123 q124 q125 q126 q127 q128 q129 q130 q131 q132 q133 q134 q135 q136 q137 q138 q139 q140 q141 q142 q143 q144 q145 q146 q147 q148 q149 q150 q151 q152 q153 q154 q155 q156 q157 q158 q159 q160 q161 q162 q163 q164 q165 q166 q167 q168 q169 q170 q171 q172 q173 q174 q175 q176 q177 q178 q179 q180 q181 q182 q183 q184 q185 q186 q187 q188 q189 q190 q191 q192 q193 q194 q195 q196 q197 q198 q199 q200 q201 q202 q203 q204 q205 q206 q207 q208 q209 q210 q211 q212 q213 q214 q215 : Value) : Code.wp Tryz.prog codeU38 (bodyPost Tryz.prog Tryz.f7 (OneV (.bool true) w)) ⟨#[q0, q1, q2, q3, q4, .slice (some ⟨gB, 0, none⟩) n cap, q6, q7, q8, q9, .pointer (some ⟨BX, 0, none⟩), .int .i64 0, .pointer (some ⟨BY, 0, none⟩), .int .i64 0, .int .i64 M, .pointer (some ⟨BP, 0, none⟩), .int .i64 0, q17, q18, q19, q20, q21, q22, q23, q24, q25, q26, q27, q28, q29, q30, q31, q32, q33, q34, q35, q36, q37, q38, q39, q40, q41, q42, q43, q44, q45, q46, q47, q48, q49, q50, q51, q52, q53, q54, q55, q56, q57, q58, q59, q60, q61, q62, q63, q64, q65, q66, q67, q68, q69, q70, q71, q72, q73, q74, q75, q76, q77, q78, q79, q80, q81, q82, q83, q84, q85, q86, q87, q88, q89, q90, q91, q92, q93, q94, q95, q96, q97, q98, q99, q100, q101, q102, q103, q104, q105, q106, q107, q108, q109, q110, q111, q112, q113, q114, q115, q116, q117, q118, q119, q120, q121, q122, q123, q124, q125, q126, q127, q128, q129, q130, q131, q132, q133, q134, q135, q136, q137, q138, q139, q140, q141, q142, q143, q144, q145, q146, q147, q148, q149, q150, q151, q152, q153, q154, q155, q156, q157, q158, q159, q160, q161, q162, q163, q164, q165, q166, q167, q168, q169, q170, q171, q172, q173, q174, q175, q176, q177, q178, q179, q180, q181, q182, q183, q184, q185, q186, q187, q188, q189, q190, q191, q192, q193, q194, q195, q196, q197, q198, q199, q200, q201, q202, q203, q204, q205, q206, q207, q208, q209, q210, q211, q212, q213, q214, q215], []⟩ w4 := by
 have kW := Lib.hid (fun w1 (h : Ext w w1) => awake38_any w1 (gw.ext h))
 have hcells := Lib.hid hcells0
 clear gw hcells0
 unfold codeU38
 conv => arg 2; whnf
 by_cases hcM : cap = M
 · have hnM : n ≤ M := by omega
   have hMz := Lib.hid (fun (w2 : World) p c => part_end (w := w2) (p := p) (c := c) hn hnM)
   clear hnM hn
   go_wp2_with fail
   refine (sums_at _ (ys.drop M) _ (hMz.out _ _ _) fq).mono ?_
   rintro e w5 ⟨rfl, hE6⟩
   replace bX := Lib.hid (bX.out.ext hE6)
   replace bY := Lib.hid (bY.out.ext hE6)
   replace bP := Lib.hid (bP.out.ext hE6)
   have hE4 := hE.trans hE6
   clear hE6 hE hMz hcells
   have ps := bP.out.lt
   have p0 : w5.cell? ⟨BP, 0, none⟩ = some (.string ⟨#[115, 117, 109]⟩) := (bP.out.cell 0).trans rfl
   have p1 : w5.cell? ⟨BP, 1, none⟩ = some (.int .i64 (P 5)) := (bP.out.cell 1).trans rfl
   have p2 : w5.cell? ⟨BP, 2, none⟩ = some (.string ⟨#[]⟩) := (bP.out.cell 2).trans rfl
   have p3 : w5.cell? ⟨BP, 3, none⟩ = some (.string ⟨#[115, 117, 109]⟩) := (bP.out.cell 3).trans rfl
   have p4 : w5.cell? ⟨BP, 4, none⟩ = some (.int .i64 (P 6)) := (bP.out.cell 4).trans rfl
   have p5 : w5.cell? ⟨BP, 5, none⟩ = some (.string ⟨#[]⟩) := (bP.out.cell 5).trans rfl
   have p6 : w5.cell? ⟨BP, 6, none⟩ = some (.string ⟨#[115, 117, 109]⟩) := (bP.out.cell 6).trans rfl
   have p7 : w5.cell? ⟨BP, 7, none⟩ = some (.int .i64 (P 7)) := (bP.out.cell 7).trans rfl
   have p8 : w5.cell? ⟨BP, 8, none⟩ = some (.string ⟨#[]⟩) := (bP.out.cell 8).trans rfl
   have p9 : w5.cell? ⟨BP, 9, none⟩ = some (.int .i64 (P 0)) := (bP.out.cell 9).trans rfl
   have p10 : w5.cell? ⟨BP, 10, none⟩ = some (.int .i64 (P 1)) := (bP.out.cell 10).trans rfl
   have p11 : w5.cell? ⟨BP, 11, none⟩ = some (.int .i64 (P 2)) := (bP.out.cell 11).trans rfl
   have p12 : w5.cell? ⟨BP, 12, none⟩ = some (.int .i64 (P 3)) := (bP.out.cell 12).trans rfl
   have p13 : w5.cell? ⟨BP, 13, none⟩ = some (.int .i64 (P 4)) := (bP.out.cell 13).trans rfl
   go_wp2_with fail
   have hQ2 : Blk ((w5.alloc (.cells #[.string ⟨#[115, 117, 109]⟩, .int .i64 (Q 5), .string ⟨#[]⟩, .string ⟨#[115, 117, 109]⟩, .int .i64 (Q 6), .string ⟨#[]⟩, .string ⟨#[115, 117, 109]⟩, .int .i64 (Q 7), .string ⟨#[]⟩, .int .i64 (Q 0), .int .i64 (Q 1), .int .i64 (Q 2), .int .i64 (Q 3), .int .i64 (Q 4)] 35)).alloc (.cells (resCells (sumR P) ++ resCells (sumR Q)).toArray 35)) (w5.heap.size + 1) (resCells (sumR P) ++ resCells (sumR Q)).toArray 35 := Blk.new' _ _ _ _ (by simp)
   refine (sums_at _ [sumR P, sumR Q] _ (res_two hQ2) fz).mono ?_
   rintro e w6 ⟨rfl, hE6⟩
   clear p0 p1 p2 p3 p4 p5 p6 p7 p8 p9 p10 p11 p12 p13 ps hQ2 bP
   have hE7 : Ext w5 w6 := (((Ext.refl w5).alloc (.cells #[.string ⟨#[115, 117, 109]⟩, .int .i64 (Q 5), .string ⟨#[]⟩, .string ⟨#[115, 117, 109]⟩, .int .i64 (Q 6), .string ⟨#[]⟩, .string ⟨#[115, 117, 109]⟩, .int .i64 (Q 7), .string ⟨#[]⟩, .int .i64 (Q 0), .int .i64 (Q 1), .int .i64 (Q 2), .int .i64 (Q 3), .int .i64 (Q 4)] 35)).alloc (.cells (resCells (sumR P) ++ resCells (sumR Q)).toArray 35)).trans hE6
   replace bX := Lib.hid (bX.out.ext hE7)
   replace bY := Lib.hid (bY.out.ext hE7)
   replace hE4 := hE4.trans hE7
   clear hE6 hE7
   have xs := bX.out.lt
   have ys1 := bY.out.lt
   have x0 : w6.cell? ⟨BX, 0, none⟩ = some (.string ⟨#[115, 117, 109]⟩) := (bX.out.cell 0).trans rfl
   have x1 : w6.cell? ⟨BX, 1, none⟩ = some (.int .i64 (S 5)) := (bX.out.cell 1).trans rfl
   have x2 : w6.cell? ⟨BX, 2, none⟩ = some (.string ⟨#[]⟩) := (bX.out.cell 2).trans rfl
   have x3 : w6.cell? ⟨BX, 3, none⟩ = some (.string ⟨#[115, 117, 109]⟩) := (bX.out.cell 3).trans rfl
   have x4 : w6.cell? ⟨BX, 4, none⟩ = some (.int .i64 (S 6)) := (bX.out.cell 4).trans rfl
   have x5 : w6.cell? ⟨BX, 5, none⟩ = some (.string ⟨#[]⟩) := (bX.out.cell 5).trans rfl
   have x6 : w6.cell? ⟨BX, 6, none⟩ = some (.string ⟨#[115, 117, 109]⟩) := (bX.out.cell 6).trans rfl
   have x7 : w6.cell? ⟨BX, 7, none⟩ = some (.int .i64 (S 7)) := (bX.out.cell 7).trans rfl
   have x8 : w6.cell? ⟨BX, 8, none⟩ = some (.string ⟨#[]⟩) := (bX.out.cell 8).trans rfl
   have x9 : w6.cell? ⟨BX, 9, none⟩ = some (.int .i64 (S 0)) := (bX.out.cell 9).trans rfl
   have x10 : w6.cell? ⟨BX, 10, none⟩ = some (.int .i64 (S 1)) := (bX.out.cell 10).trans rfl
   have x11 : w6.cell? ⟨BX, 11, none⟩ = some (.int .i64 (S 2)) := (bX.out.cell 11).trans rfl
   have x12 : w6.cell? ⟨BX, 12, none⟩ = some (.int .i64 (S 3)) := (bX.out.cell 12).trans rfl
   have x13 : w6.cell? ⟨BX, 13, none⟩ = some (.int .i64 (S 4)) := (bX.out.cell 13).trans rfl
   have y0 : w6.cell? ⟨BY, 0, none⟩ = some (.string ⟨#[115, 117, 109]⟩) := (bY.out.cell 0).trans rfl
   have y1 : w6.cell? ⟨BY, 1, none⟩ = some (.int .i64 (S 5)) := (bY.out.cell 1).trans rfl
   have y2 : w6.cell? ⟨BY, 2, none⟩ = some (.string ⟨#[]⟩) := (bY.out.cell 2).trans rfl
   have y3 : w6.cell? ⟨BY, 3, none⟩ = some (.string ⟨#[115, 117, 109]⟩) := (bY.out.cell 3).trans rfl
   have y4 : w6.cell? ⟨BY, 4, none⟩ = some (.int .i64 (S 6)) := (bY.out.cell 4).trans rfl
   have y5 : w6.cell? ⟨BY, 5, none⟩ = some (.string ⟨#[]⟩) := (bY.out.cell 5).trans rfl
   have y6 : w6.cell? ⟨BY, 6, none⟩ = some (.string ⟨#[115, 117, 109]⟩) := (bY.out.cell 6).trans rfl
   have y7 : w6.cell? ⟨BY, 7, none⟩ = some (.int .i64 (S 7)) := (bY.out.cell 7).trans rfl
   have y8 : w6.cell? ⟨BY, 8, none⟩ = some (.string ⟨#[]⟩) := (bY.out.cell 8).trans rfl
   have y9 : w6.cell? ⟨BY, 9, none⟩ = some (.int .i64 (S 0)) := (bY.out.cell 9).trans rfl
   have y10 : w6.cell? ⟨BY, 10, none⟩ = some (.int .i64 (S 1)) := (bY.out.cell 10).trans rfl
   have y11 : w6.cell? ⟨BY, 11, none⟩ = some (.int .i64 (S 2)) := (bY.out.cell 11).trans rfl
   have y12 : w6.cell? ⟨BY, 12, none⟩ = some (.int .i64 (S 3)) := (bY.out.cell 12).trans rfl
   have y13 : w6.cell? ⟨BY, 13, none⟩ = some (.int .i64 (S 4)) := (bY.out.cell 13).trans rfl
   go_wp2_with fail
   have hE5 : Ext w (w6.alloc (.cells #[.string ⟨#[115, 117, 109]⟩, .int .i64 (S 5), .string ⟨#[]⟩, .string ⟨#[115, 117, 109]⟩, .int .i64 (S 6), .string ⟨#[]⟩, .string ⟨#[115, 117, 109]⟩, .int .i64 (S 7), .string ⟨#[]⟩, .int .i64 (S 0), .int .i64 (S 1), .int .i64 (S 2), .int .i64 (S 3), .int .i64 (S 4)] 35)) := hE4.alloc _
   refine (bal_at (sumR S) _ f6).mono ?_
   rintro e w7 ⟨rfl, hE6⟩
   replace bX := Lib.hid ((bX.out.alloc (.cells #[.string ⟨#[115, 117, 109]⟩, .int .i64 (S 5), .string ⟨#[]⟩, .string ⟨#[115, 117, 109]⟩, .int .i64 (S 6), .string ⟨#[]⟩, .string ⟨#[115, 117, 109]⟩, .int .i64 (S 7), .string ⟨#[]⟩, .int .i64 (S 0), .int .i64 (S 1), .int .i64 (S 2), .int .i64 (S 3), .int .i64 (S 4)] 35)).ext hE6)
   replace hE4 := hE5.trans hE6
   clear hE5 hE6 bY x0 y0 x1 y1 x2 y2 x3 y3 x4 y4 x5 y5 x6 y6 x7 y7 x8 y8 x9 y9 x10 y10 x11 y11 x12 y12 x13 y13 xs ys1
   have x0 : w7.cell? ⟨BX, 0, none⟩ = some (.string ⟨#[115, 117, 109]⟩) := (bX.out.cell 0).trans rfl
   have x1 : w7.cell? ⟨BX, 1, none⟩ = some (.int .i64 (S 5)) := (bX.out.cell 1).trans rfl
   have x2 : w7.cell? ⟨BX, 2, none⟩ = some (.string ⟨#[]⟩) := (bX.out.cell 2).trans rfl
   have x3 : w7.cell? ⟨BX, 3, none⟩ = some (.string ⟨#[115, 117, 109]⟩) := (bX.out.cell 3).trans rfl
   have x4 : w7.cell? ⟨BX, 4, none⟩ = some (.int .i64 (S 6)) := (bX.out.cell 4).trans rfl
   have x5 : w7.cell? ⟨BX, 5, none⟩ = some (.string ⟨#[]⟩) := (bX.out.cell 5).trans rfl
   have x6 : w7.cell? ⟨BX, 6, none⟩ = some (.string ⟨#[115, 117, 109]⟩) := (bX.out.cell 6).trans rfl
   have x7 : w7.cell? ⟨BX, 7, none⟩ = some (.int .i64 (S 7)) := (bX.out.cell 7).trans rfl
   have x8 : w7.cell? ⟨BX, 8, none⟩ = some (.string ⟨#[]⟩) := (bX.out.cell 8).trans rfl
   have x9 : w7.cell? ⟨BX, 9, none⟩ = some (.int .i64 (S 0)) := (bX.out.cell 9).trans rfl
   have x10 : w7.cell? ⟨BX, 10, none⟩ = some (.int .i64 (S 1)) := (bX.out.cell 10).trans rfl
   have x11 : w7.cell? ⟨BX, 11, none⟩ = some (.int .i64 (S 2)) := (bX.out.cell 11).trans rfl
   have x12 : w7.cell? ⟨BX, 12, none⟩ = some (.int .i64 (S 3)) := (bX.out.cell 12).trans rfl
   have x13 : w7.cell? ⟨BX, 13, none⟩ = some (.int .i64 (S 4)) := (bX.out.cell 13).trans rfl
   have d6 : (S 6 == 0) = true := by rw [f7.out]; rfl
   go_wp2_with fail
   refine (kW.out _ hE4).mono ?_
   rintro e w9 ⟨rfl, hE9⟩
   have hE10 := hE4.trans hE9
   clear hE9
   go_wp2
   go_ret
   exact ⟨rfl, hE10⟩
 · have hMz := Lib.hid (fun c => part_drop (c := c) (M := M) hn hyl hMn hcells.out (Ext.refl w4))
   clear hn
   go_wp2_with fail
   refine (sums_at _ (ys.drop M) _ (hMz.out (cap - M)) fq).mono ?_
   rintro e w5 ⟨rfl, hE6⟩
   replace bX := Lib.hid (bX.out.ext hE6)
   replace bY := Lib.hid (bY.out.ext hE6)
   replace bP := Lib.hid (bP.out.ext hE6)
   have hE4 := hE.trans hE6
   clear hE6 hE hMz hcells
   have ps := bP.out.lt
   have p0 : w5.cell? ⟨BP, 0, none⟩ = some (.string ⟨#[115, 117, 109]⟩) := (bP.out.cell 0).trans rfl
   have p1 : w5.cell? ⟨BP, 1, none⟩ = some (.int .i64 (P 5)) := (bP.out.cell 1).trans rfl
   have p2 : w5.cell? ⟨BP, 2, none⟩ = some (.string ⟨#[]⟩) := (bP.out.cell 2).trans rfl
   have p3 : w5.cell? ⟨BP, 3, none⟩ = some (.string ⟨#[115, 117, 109]⟩) := (bP.out.cell 3).trans rfl
   have p4 : w5.cell? ⟨BP, 4, none⟩ = some (.int .i64 (P 6)) := (bP.out.cell 4).trans rfl
   have p5 : w5.cell? ⟨BP, 5, none⟩ = some (.string ⟨#[]⟩) := (bP.out.cell 5).trans rfl
   have p6 : w5.cell? ⟨BP, 6, none⟩ = some (.string ⟨#[115, 117, 109]⟩) := (bP.out.cell 6).trans rfl
   have p7 : w5.cell? ⟨BP, 7, none⟩ = some (.int .i64 (P 7)) := (bP.out.cell 7).trans rfl
   have p8 : w5.cell? ⟨BP, 8, none⟩ = some (.string ⟨#[]⟩) := (bP.out.cell 8).trans rfl
   have p9 : w5.cell? ⟨BP, 9, none⟩ = some (.int .i64 (P 0)) := (bP.out.cell 9).trans rfl
   have p10 : w5.cell? ⟨BP, 10, none⟩ = some (.int .i64 (P 1)) := (bP.out.cell 10).trans rfl
   have p11 : w5.cell? ⟨BP, 11, none⟩ = some (.int .i64 (P 2)) := (bP.out.cell 11).trans rfl
   have p12 : w5.cell? ⟨BP, 12, none⟩ = some (.int .i64 (P 3)) := (bP.out.cell 12).trans rfl
   have p13 : w5.cell? ⟨BP, 13, none⟩ = some (.int .i64 (P 4)) := (bP.out.cell 13).trans rfl
   go_wp2_with fail
   have hQ2 : Blk ((w5.alloc (.cells #[.string ⟨#[115, 117, 109]⟩, .int .i64 (Q 5), .string ⟨#[]⟩, .string ⟨#[115, 117, 109]⟩, .int .i64 (Q 6), .string ⟨#[]⟩, .string ⟨#[115, 117, 109]⟩, .int .i64 (Q 7), .string ⟨#[]⟩, .int .i64 (Q 0), .int .i64 (Q 1), .int .i64 (Q 2), .int .i64 (Q 3), .int .i64 (Q 4)] 35)).alloc (.cells (resCells (sumR P) ++ resCells (sumR Q)).toArray 35)) (w5.heap.size + 1) (resCells (sumR P) ++ resCells (sumR Q)).toArray 35 := Blk.new' _ _ _ _ (by simp)
   refine (sums_at _ [sumR P, sumR Q] _ (res_two hQ2) fz).mono ?_
   rintro e w6 ⟨rfl, hE6⟩
   clear p0 p1 p2 p3 p4 p5 p6 p7 p8 p9 p10 p11 p12 p13 ps hQ2 bP
   have hE7 : Ext w5 w6 := (((Ext.refl w5).alloc (.cells #[.string ⟨#[115, 117, 109]⟩, .int .i64 (Q 5), .string ⟨#[]⟩, .string ⟨#[115, 117, 109]⟩, .int .i64 (Q 6), .string ⟨#[]⟩, .string ⟨#[115, 117, 109]⟩, .int .i64 (Q 7), .string ⟨#[]⟩, .int .i64 (Q 0), .int .i64 (Q 1), .int .i64 (Q 2), .int .i64 (Q 3), .int .i64 (Q 4)] 35)).alloc (.cells (resCells (sumR P) ++ resCells (sumR Q)).toArray 35)).trans hE6
   replace bX := Lib.hid (bX.out.ext hE7)
   replace bY := Lib.hid (bY.out.ext hE7)
   replace hE4 := hE4.trans hE7
   clear hE6 hE7
   have xs := bX.out.lt
   have ys1 := bY.out.lt
   have x0 : w6.cell? ⟨BX, 0, none⟩ = some (.string ⟨#[115, 117, 109]⟩) := (bX.out.cell 0).trans rfl
   have x1 : w6.cell? ⟨BX, 1, none⟩ = some (.int .i64 (S 5)) := (bX.out.cell 1).trans rfl
   have x2 : w6.cell? ⟨BX, 2, none⟩ = some (.string ⟨#[]⟩) := (bX.out.cell 2).trans rfl
   have x3 : w6.cell? ⟨BX, 3, none⟩ = some (.string ⟨#[115, 117, 109]⟩) := (bX.out.cell 3).trans rfl
   have x4 : w6.cell? ⟨BX, 4, none⟩ = some (.int .i64 (S 6)) := (bX.out.cell 4).trans rfl
   have x5 : w6.cell? ⟨BX, 5, none⟩ = some (.string ⟨#[]⟩) := (bX.out.cell 5).trans rfl
   have x6 : w6.cell? ⟨BX, 6, none⟩ = some (.string ⟨#[115, 117, 109]⟩) := (bX.out.cell 6).trans rfl
   have x7 : w6.cell? ⟨BX, 7, none⟩ = some (.int .i64 (S 7)) := (bX.out.cell 7).trans rfl
   have x8 : w6.cell? ⟨BX, 8, none⟩ = some (.string ⟨#[]⟩) := (bX.out.cell 8).trans rfl
   have x9 : w6.cell? ⟨BX, 9, none⟩ = some (.int .i64 (S 0)) := (bX.out.cell 9).trans rfl
   have x10 : w6.cell? ⟨BX, 10, none⟩ = some (.int .i64 (S 1)) := (bX.out.cell 10).trans rfl
   have x11 : w6.cell? ⟨BX, 11, none⟩ = some (.int .i64 (S 2)) := (bX.out.cell 11).trans rfl
   have x12 : w6.cell? ⟨BX, 12, none⟩ = some (.int .i64 (S 3)) := (bX.out.cell 12).trans rfl
   have x13 : w6.cell? ⟨BX, 13, none⟩ = some (.int .i64 (S 4)) := (bX.out.cell 13).trans rfl
   have y0 : w6.cell? ⟨BY, 0, none⟩ = some (.string ⟨#[115, 117, 109]⟩) := (bY.out.cell 0).trans rfl
   have y1 : w6.cell? ⟨BY, 1, none⟩ = some (.int .i64 (S 5)) := (bY.out.cell 1).trans rfl
   have y2 : w6.cell? ⟨BY, 2, none⟩ = some (.string ⟨#[]⟩) := (bY.out.cell 2).trans rfl
   have y3 : w6.cell? ⟨BY, 3, none⟩ = some (.string ⟨#[115, 117, 109]⟩) := (bY.out.cell 3).trans rfl
   have y4 : w6.cell? ⟨BY, 4, none⟩ = some (.int .i64 (S 6)) := (bY.out.cell 4).trans rfl
   have y5 : w6.cell? ⟨BY, 5, none⟩ = some (.string ⟨#[]⟩) := (bY.out.cell 5).trans rfl
   have y6 : w6.cell? ⟨BY, 6, none⟩ = some (.string ⟨#[115, 117, 109]⟩) := (bY.out.cell 6).trans rfl
   have y7 : w6.cell? ⟨BY, 7, none⟩ = some (.int .i64 (S 7)) := (bY.out.cell 7).trans rfl
   have y8 : w6.cell? ⟨BY, 8, none⟩ = some (.string ⟨#[]⟩) := (bY.out.cell 8).trans rfl
   have y9 : w6.cell? ⟨BY, 9, none⟩ = some (.int .i64 (S 0)) := (bY.out.cell 9).trans rfl
   have y10 : w6.cell? ⟨BY, 10, none⟩ = some (.int .i64 (S 1)) := (bY.out.cell 10).trans rfl
   have y11 : w6.cell? ⟨BY, 11, none⟩ = some (.int .i64 (S 2)) := (bY.out.cell 11).trans rfl
   have y12 : w6.cell? ⟨BY, 12, none⟩ = some (.int .i64 (S 3)) := (bY.out.cell 12).trans rfl
   have y13 : w6.cell? ⟨BY, 13, none⟩ = some (.int .i64 (S 4)) := (bY.out.cell 13).trans rfl
   go_wp2_with fail
   have hE5 : Ext w (w6.alloc (.cells #[.string ⟨#[115, 117, 109]⟩, .int .i64 (S 5), .string ⟨#[]⟩, .string ⟨#[115, 117, 109]⟩, .int .i64 (S 6), .string ⟨#[]⟩, .string ⟨#[115, 117, 109]⟩, .int .i64 (S 7), .string ⟨#[]⟩, .int .i64 (S 0), .int .i64 (S 1), .int .i64 (S 2), .int .i64 (S 3), .int .i64 (S 4)] 35)) := hE4.alloc _
   refine (bal_at (sumR S) _ f6).mono ?_
   rintro e w7 ⟨rfl, hE6⟩
   replace bX := Lib.hid ((bX.out.alloc (.cells #[.string ⟨#[115, 117, 109]⟩, .int .i64 (S 5), .string ⟨#[]⟩, .string ⟨#[115, 117, 109]⟩, .int .i64 (S 6), .string ⟨#[]⟩, .string ⟨#[115, 117, 109]⟩, .int .i64 (S 7), .string ⟨#[]⟩, .int .i64 (S 0), .int .i64 (S 1), .int .i64 (S 2), .int .i64 (S 3), .int .i64 (S 4)] 35)).ext hE6)
   replace hE4 := hE5.trans hE6
   clear hE5 hE6 bY x0 y0 x1 y1 x2 y2 x3 y3 x4 y4 x5 y5 x6 y6 x7 y7 x8 y8 x9 y9 x10 y10 x11 y11 x12 y12 x13 y13 xs ys1
   have x0 : w7.cell? ⟨BX, 0, none⟩ = some (.string ⟨#[115, 117, 109]⟩) := (bX.out.cell 0).trans rfl
   have x1 : w7.cell? ⟨BX, 1, none⟩ = some (.int .i64 (S 5)) := (bX.out.cell 1).trans rfl
   have x2 : w7.cell? ⟨BX, 2, none⟩ = some (.string ⟨#[]⟩) := (bX.out.cell 2).trans rfl
   have x3 : w7.cell? ⟨BX, 3, none⟩ = some (.string ⟨#[115, 117, 109]⟩) := (bX.out.cell 3).trans rfl
   have x4 : w7.cell? ⟨BX, 4, none⟩ = some (.int .i64 (S 6)) := (bX.out.cell 4).trans rfl
   have x5 : w7.cell? ⟨BX, 5, none⟩ = some (.string ⟨#[]⟩) := (bX.out.cell 5).trans rfl
   have x6 : w7.cell? ⟨BX, 6, none⟩ = some (.string ⟨#[115, 117, 109]⟩) := (bX.out.cell 6).trans rfl
   have x7 : w7.cell? ⟨BX, 7, none⟩ = some (.int .i64 (S 7)) := (bX.out.cell 7).trans rfl
   have x8 : w7.cell? ⟨BX, 8, none⟩ = some (.string ⟨#[]⟩) := (bX.out.cell 8).trans rfl
   have x9 : w7.cell? ⟨BX, 9, none⟩ = some (.int .i64 (S 0)) := (bX.out.cell 9).trans rfl
   have x10 : w7.cell? ⟨BX, 10, none⟩ = some (.int .i64 (S 1)) := (bX.out.cell 10).trans rfl
   have x11 : w7.cell? ⟨BX, 11, none⟩ = some (.int .i64 (S 2)) := (bX.out.cell 11).trans rfl
   have x12 : w7.cell? ⟨BX, 12, none⟩ = some (.int .i64 (S 3)) := (bX.out.cell 12).trans rfl
   have x13 : w7.cell? ⟨BX, 13, none⟩ = some (.int .i64 (S 4)) := (bX.out.cell 13).trans rfl
   have d6 : (S 6 == 0) = true := by rw [f7.out]; rfl
   go_wp2_with fail
   refine (kW.out _ hE4).mono ?_
   rintro e w9 ⟨rfl, hE9⟩
   have hE10 := hE4.trans hE9
   clear hE9
   go_wp2
   go_ret
   exact ⟨rfl, hE10⟩
end Go.Proofs.YtmnhmkjmcckneaaGreatDoor
