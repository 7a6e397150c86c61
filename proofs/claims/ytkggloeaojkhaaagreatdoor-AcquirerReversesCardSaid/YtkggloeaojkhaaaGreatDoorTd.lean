/- acquirer's example (walk; printed by gen/h94.py). -/
import Derived.Test.YtkggloeaojkhaaaGreatDoorTc
namespace Go.Proofs.YtkggloeaojkhaaaGreatDoor
open Go.RowKit
set_option maxRecDepth 8000 in
set_option maxHeartbeats 16000000 in
theorem awake_any (w : World) (g : Gl w) : Calls Tryz.prog 14 #[] w (OneQ (.bool true) w) := by
 have hGB := g.gb
 have kN : Calls Tryz.prog 5 #[.string ⟨#[115, 104, 111, 112, 98, 97, 110, 107]⟩, .int .i64 3, .int .i64 60, .int .i64 30] w fun e w' => ∃ I : HostI, e = .returned (.tuple #[.pointer (some ⟨I.X, 0, none⟩), .int .i64 0]) ∧ HostM w' w.heap.size I aw0 ∧ Ext w w' := hNew_any awN 3 60 30 w (by kernel_rfl) (by decide) (by decide) (by decide) (by decide)
 have k1 := Lib.hid (fun I W (hE : Ext w W) h => awPur_any w.heap.size I W (g.ext hE) hGB hE.size h)
 have k2 := Lib.hid (fun W v hv => awRep_any W v hv)
 have k3 := Lib.hid (fun I W v (hE : Ext w W) h hv => awRec_any w.heap.size I W v (g.ext hE) hE.size h hv)
 have k4 := Lib.hid (fun I W (hE : Ext w W) h => awCap1_any w.heap.size I W (g.ext hE) hGB hE.size h)
 have k5 := Lib.hid (fun I W (hE : Ext w W) h => awCap2_any w.heap.size I W (g.ext hE) hGB hE.size h)
 have k6 := Lib.hid (fun I W (hE : Ext w W) h => awBat_any w.heap.size I W (g.ext hE) hGB hE.size h)
 have k7 := Lib.hid (fun I W h => awSal_any w.heap.size I W h)
 have k8 := Lib.hid (fun I W (hE : Ext w W) h => awCan_any w.heap.size I W (g.ext hE) hGB hE.size h)
 replace kN := Lib.hid kN
 unfold OneQ
 clear g hGB
 go_enter Tryz.func14, Tryz.ntmps14
 go_wp2_with fail
 refine (kN.out).mono ?_
 rintro e w1 ⟨I, rfl, hM0, hE1⟩
 replace hM0 := Lib.hid hM0
 clear kN
 go_wp2_with fail
 refine (k1.out I _ xt (hM0.out.ext xt)).mono ?_
 rintro e w2 ⟨v1, rfl, hv1, hM1, hF2⟩
 have hE2 : Ext w w2 := Typ.toExt xt hF2
 clear hF2 hM0 k1
 obtain ⟨q1, c1, rfl⟩ := elems_form hv1
 replace hv1 := Lib.hid hv1
 replace hM1 := Lib.hid hM1
 unfold msgAgg
 go_wp2_with fail
 refine (k2.out _ _ (hv1.out.ext xt)).mono ?_
 rintro e w3 ⟨v2, rfl, hv2, hE23⟩
 have hE3 : Ext w w3 := Ext.trans xt hE23
 replace hM1 := Lib.hid (hM1.out.ext (Ext.trans xt hE23))
 clear hE23 hv1 k2 hE2
 obtain ⟨q2, c2, rfl⟩ := elems_form hv2
 replace hv2 := Lib.hid hv2
 unfold msgAgg
 go_wp2_with fail
 refine (k3.out I _ _ xt (hM1.out.ext xt) (hv2.out.ext xt)).mono ?_
 rintro e w4 ⟨rfl, hM2, hF4⟩
 have hE4 : Ext w w4 := Typ.toExt xt hF4
 clear hF4 hM1 hv2 k3 hE3
 replace hM2 := Lib.hid hM2
 go_wp2_with fail
 refine (k4.out I _ xt (hM2.out.ext xt)).mono ?_
 rintro e w5 ⟨rfl, hM3, hF5⟩
 have hE5 : Ext w w5 := Typ.toExt xt hF5
 clear hF5 hM2 k4 hE4
 replace hM3 := Lib.hid hM3
 go_wp2_with fail
 refine (k5.out I _ xt (hM3.out.ext xt)).mono ?_
 rintro e w6 ⟨rfl, hM4, hF6⟩
 have hE6 : Ext w w6 := Typ.toExt xt hF6
 clear hF6 hM3 k5 hE5
 replace hM4 := Lib.hid hM4
 go_wp2_with fail
 refine (k6.out I _ xt (hM4.out.ext xt)).mono ?_
 rintro e w7 ⟨nm, gb, ob, c7, rfl, hc7, yid, hM5, hF7⟩
 have hE7 : Ext w w7 := Typ.toExt xt hF7
 clear hF7 hM4 k6 hE6
 replace hM5 := Lib.hid hM5
 have bB := Blk.new w7 #[.string ⟨#[70, 50, 48, 45, 49]⟩, .string nm, .int .i64 20, .slice (some ⟨gb, ob, none⟩) 1 c7] 107
 go_wp2_with fail
 refine (k7.out I _ (hM5.out.ext xt)).mono ?_
 rintro e w8 ⟨x, rfl, hs1, hs2, hs3, hE78⟩
 have hE8 : Ext w w8 := Ext.trans xt hE78
 have hE78' : Ext w7 w8 := Ext.trans xt hE78
 replace hM5 := Lib.hid (hM5.out.ext hE78')
 replace yid := hE78'.get yid
 replace bB := bB.ext hE78
 have b0 : w8.cell? ⟨w7.heap.size, 0, none⟩ = some (.string ⟨#[70, 50, 48, 45, 49]⟩) := (bB.cell 0).trans rfl
 have b3 : w8.cell? ⟨w7.heap.size, 3, none⟩ = some (.slice (some ⟨gb, ob, none⟩) 1 c7) := (bB.cell 3).trans rfl
 have lB := bB.lt
 have lY := cell_lt yid
 simp only at lY
 clear hE78 hE78' bB hE7 k7
 unfold salAgg
 rw [hs1, hs2, hs3]
 go_wp2_with fail
 refine (k8.out I _ xt (hM5.out.ext xt)).mono ?_
 rintro e w9 ⟨rfl, hF9⟩
 have hE9 : Ext w w9 := Typ.toExt xt hF9
 clear hF9 hM5 k8 hE8
 go_wp2_with fail
 try go_ret
 exact ⟨rfl, hE9⟩
end Go.Proofs.YtkggloeaojkhaaaGreatDoor
