/- The law cardnetlaw30.AcquirerReverses (walk; printed by gen/h96.py). -/
import Derived.Test.YtkggloeaojkhaaaGreatDoorTf
namespace Go.Proofs.YtkggloeaojkhaaaGreatDoor
open Go.RowKit
/-- The host ahead of the k-th round. -/
def rH (A T R n0 m : Int) : Nat → HostD → Prop
 | 0, d => d = rD1 A T R m
 | k + 1, d => ∃ tries, d = rE A T R n0 (n0 + (k : Int) * R + R) tries (n0 + (k : Int) * R)
/-- What the laws of Poll ask of a host. -/
def rQ (d : HostD) : Prop := d.q.known.length < 900000 ∧ ∀ e ∈ d.q.items, e.text.size ≤ 4000
theorem rQ_D (A T R m : Int) : rQ (rD1 A T R m) := ⟨by show 0 < 900000; decide, fun e he => by cases he⟩
theorem rQ_E (A T R n due tries now : Int) : rQ (rE A T R n due tries now) := ⟨by show 1 < 900000; decide, fun e he => by
 have h1 : e ∈ [(⟨rR2 n, rTx A n, due, tries⟩ : FwE)] := he
 simp only [List.mem_cons, List.not_mem_nil, or_false] at h1
 rw [h1]
 exact tx_len A n⟩
theorem rQ_F (A T R n now : Int) : rQ (rF A T R n now) := ⟨by show 1 < 900000; decide, fun e he => by cases he⟩
theorem rH_poll {A T R n0 m nw : Int} {k : Nat} {d : HostD} (h : rH A T R n0 m k d) (hk : k ≤ 20) (hn : nw = n0 + (k : Int) * R) (hR : 1 ≤ R ∧ R ≤ 256) (hm : 0 ≤ m ∧ m ≤ n0) (h0 : A + T ≤ n0) (hb : n0 ≤ 8000000000) :
 ∃ d', rQ d ∧ rQ d' ∧ pollV d nw = (d', [(420, rvEs (rR1 A) (rR2 n0))]) ∧ pollV d' nw = (d', []) ∧ rH A T R n0 m (k + 1) d' := by
 have hkR : 0 ≤ (k : Int) * R ∧ (k : Int) * R ≤ 20 * 256 := ⟨Int.mul_nonneg (by omega) (by omega), Int.mul_le_mul (by omega) hR.2 (by omega) (by omega)⟩
 cases k with
 | zero =>
  have h : d = rD1 A T R m := h
  subst h
  have e0 : nw = n0 := by rw [hn]; simp
  subst e0
  refine ⟨_, rQ_D A T R m, rQ_E A T R nw (nw + R) 1 nw, poll1 A T R nw m (by omega) hm.2 h0, poll2 A T R nw (nw + R) 1 nw nw (by omega) (Int.le_refl _) (by omega), 1, ?_⟩
  simp
 | succ k =>
  obtain ⟨tries, h⟩ := h
  subst h
  have e1 : nw = n0 + (k : Int) * R + R := by rw [hn]; push_cast; rw [Int.add_mul, Int.one_mul]; omega
  refine ⟨_, rQ_E _ _ _ _ _ _ _, rQ_E A T R n0 (nw + R) (wrap64 (tries + 1)) nw, poll3 A T R n0 _ tries _ nw (by omega) (by omega) (by omega), poll2 A T R n0 (nw + R) _ nw nw (by omega) (Int.le_refl _) (by omega), wrap64 (tries + 1), ?_⟩
  rw [hn]
theorem rv_store {W W' : World} {B : Nat} {I : HostI} {d : HostD} {bx : Nat} {a b ev : Value} {es : List El} (hb : Blk W bx #[a, b] 29) (hM : HostM W B I d) (hv : ElsT W ev es) (hW : W' = (W.setCell ⟨bx, 0, none⟩ (.int .i64 420)).setCell ⟨bx, 1, none⟩ ev) :
 HostM W' B I d ∧ Blk W' bx #[.int .i64 420, ev] 29 ∧ ElsT W' ev es := by
 have hC : Chg (fun k => k = bx) W W' := by
  rw [hW]
  exact Chg.setCell (F := fun k => k = bx) (Chg.setCell (F := fun k => k = bx) (Chg.refl _ _) (p := ⟨bx, 0, none⟩) (Or.inl rfl) _) (p := ⟨bx, 1, none⟩) (Or.inl rfl) _
 have hT : Chg (Typ [29] [] 0 W) W W' := hC.mono fun k _ e => by subst e; exact Typ.of hb (Nat.zero_le _) (by simp)
 have b2 := (hb.set 0 (.int .i64 420)).set 1 ev
 rw [← hW] at b2
 obtain ⟨bs, sv, wv, hX, ok⟩ := hM
 exact ⟨⟨bs, sv, wv, hX.away hT (by decide) (by simp), ok⟩, b2, hv.chg hT fun k cs hk => Typ.not hk (by decide)⟩
set_option maxRecDepth 8000 in
set_option maxHeartbeats 16000000 in
theorem law_reverses (x0 x1 x2 x3 x4 : Int) (w : World) (g : Gl w) (w0 : 0 ≤ x0 ∧ x0 ≤ 4294967295) (b1 : 0 ≤ x1 ∧ x1 ≤ 255) (b2 : 0 ≤ x2 ∧ x2 ≤ 255) (b3 : 0 ≤ x3 ∧ x3 ≤ 255) (b4 : 0 ≤ x4 ∧ x4 ≤ 255) : Calls Tryz.prog 3 #[.int .u32 x0, .int .u8 x1, .int .u8 x2, .int .u8 x3, .int .u8 x4] w (OneQ (.bool true) w) := by
 have hGB := g.gb
 obtain ⟨T, hT⟩ : ∃ T, T = x1 + 1 := ⟨_, rfl⟩
 obtain ⟨R, hR⟩ : ∃ R, R = x2 + 1 := ⟨_, rfl⟩
 have kN : Calls Tryz.prog 5 #[.string ⟨#[115, 104, 111, 112, 98, 97, 110, 107]⟩, .int .i64 3, .int .i64 (x1 + 1), .int .i64 (x2 + 1)] w fun e w' => ∃ I : HostI, e = .returned (.tuple #[.pointer (some ⟨I.X, 0, none⟩), .int .i64 0]) ∧ HostM w' w.heap.size I (hostNew awN 3 T R) ∧ Ext w w' := by
  rw [hT, hR]
  exact hNew_any awN 3 (x1 + 1) (x2 + 1) w (by kernel_rfl) (by decide) (by decide) (by omega) (by omega)
 have k1 := Lib.hid (fun I W (hE : Ext w W) h => rvPur_any w.heap.size I W x0 T R (by omega) (g.ext hE) hGB hE.size h)
 have hg := Lib.hid (fun W (hE : Ext w W) => g.ext hE)
 obtain ⟨P, hP, hP9⟩ : ∃ P : Nat, x4 % 20 = (P : Int) ∧ P ≤ 19 := ⟨(x4 % 20).toNat, by omega, by omega⟩
 have hDT : x0 + T = x0 + x1 + 1 := by omega
 have k2 := Lib.hid (fun I W (h : HostM W w.heap.size I (rD1 x0 T R x0)) => show Calls Tryz.prog 7 #[.pointer (some ⟨I.X, 0, none⟩)] W (OneQ (.tuple #[.int .i64 (x0 + x1 + 1), .bool true]) W) from by rw [← hDT]; exact rvNext_any w.heap.size I W x0 T R x0 h)
 have k3 := Lib.hid (fun I W n (hE : Ext w W) (hn : n = x0 + x1) h => rvPollN_any w.heap.size I W (rD1 x0 T R x0) (rD1 x0 T R n) n (poll0 x0 T R n x0 (by omega) (by omega) (by omega)) (g.ext hE) hGB hE.size h (rQ_D _ _ _ _).1 (rQ_D _ _ _ _).2)
 have kO := Lib.hid (fun I W n d d' hE hq h hd => rvPollO_any w.heap.size I W d d' n 420 (rvEs (rR1 x0) (rR2 (x0 + x1 + 1 + x3))) hq (g.ext hE) hGB (Ext.size hE) h (And.left hd) (And.right hd))
 have kZ := Lib.hid (fun I W n d d' hE hq h hd => rvPollN_any w.heap.size I W d d' n hq (g.ext hE) hGB (Ext.size hE) h (And.left hd) (And.right hd))
 replace hGB := Lib.hid hGB
 replace kN := Lib.hid kN
 unfold OneQ
 clear g
 go_enter Tryz.func3, Tryz.ntmps3
 go_wp2_with fail
 refine (kN.out).mono ?_
 rintro e w1 ⟨I, rfl, hM0, hE1⟩
 replace hM0 := Lib.hid hM0
 clear kN
 go_wp2_with fail
 refine (k1.out I _ xt (hM0.out.ext xt)).mono ?_
 rintro e w2 ⟨q1, n1, c1, rfl, hM1, hF2⟩
 have hE2 : Ext w w2 := Typ.toExt xt hF2
 clear hF2 hM0 k1 hE1
 replace hM1 := Lib.hid hM1
 go_wp2_with fail
 refine (k2.out I _ (hM1.out.ext xt)).mono ?_
 rintro e w3 ⟨rfl, hE23⟩
 have hE3 : Ext w w3 := Ext.trans xt hE23
 replace hM1 := Lib.hid (hM1.out.ext (Ext.trans xt hE23))
 clear hE23 hE2 k2
 have hb : (0 : Int) ≤ x0 + x1 := by omega
 go_wp2_with fail
 refine (k3.out I _ _ xt (by omega) (hM1.out.ext xt)).mono ?_
 rintro e w4 ⟨q4, c4, rfl, hM2, hF4⟩
 have hE4 : Ext w w4 := Typ.toExt xt hF4
 clear hF4 hM1 k3 hE3
 replace hM2 := Lib.hid hM2
 have bB0 := Blk.new w4 #[.int .i64 0, .slice none 0 0] 29
 have hst := Lib.hid (fun W (hE : Ext (w4.alloc (.cells #[.int .i64 0, .slice none 0 0] 29)) W) => show Ext w W ∧ (∃ d, HostM W w.heap.size I d ∧ rH x0 T R (x0 + x1 + 1 + x3) (x0 + x1) 0 d) ∧ ∃ ea eb, Blk W w4.heap.size #[ea, eb] 29 ∧ (0 < 0 → ea = .int .i64 420 ∧ ∃ q n c, eb = .slice q n c ∧ ElsT W eb (rvEs (rR1 x0) (rR2 (x0 + x1 + 1 + x3)))) from ⟨Ext.trans (hE4.alloc _) hE, ⟨_, hM2.out.ext (Ext.trans ((Ext.refl _).alloc _) hE), rfl⟩, _, _, bB0.ext hE, fun h => absurd h (by decide)⟩)
 have hbx := Lib.hid hE4.size
 go_wp2_with fail
 clear bB0 hE4 hM2
 go_loopw [19, 21] (fun nv iv wr => ∃ k : Nat, k ≤ P + 1 ∧ iv = .int .i64 k ∧ (∃ nw : Int, nv = .int .i64 nw ∧ nw = x0 + x1 + 1 + x3 + (k : Int) * R) ∧ Hid (Ext w wr ∧ (∃ d, HostM wr w.heap.size I d ∧ rH x0 T R (x0 + x1 + 1 + x3) (x0 + x1) k d) ∧ ∃ ea eb, Blk wr w4.heap.size #[ea, eb] 29 ∧ (0 < k → ea = .int .i64 420 ∧ ∃ q n c, eb = .slice q n c ∧ ElsT wr eb (rvEs (rR1 x0) (rR2 (x0 + x1 + 1 + x3)))))) (fun _ i _ => P + 1 - (intOf i).toNat)
 case atStart => exact ⟨0, Nat.zero_le _, rfl, ⟨_, rfl, by simp⟩, Lib.hid (hst.out _ (Ext.refl _))⟩
 case round =>
  obtain ⟨k, hk, rfl, ⟨nw, rfl, hnw⟩, hS⟩ := hrel
  clear hst
  obtain ⟨hE5, ⟨d, hM, hH⟩, ea, eb, hB5, hS4⟩ := hS.out
  clear hS
  have hkR : 0 ≤ (k : Int) * R ∧ (k : Int) * R ≤ 20 * 256 := ⟨Int.mul_nonneg (by omega) (by omega), Int.mul_le_mul (by omega) (by omega) (by omega) (by omega)⟩
  have hnb : 0 ≤ nw ∧ nw ≤ 5000000000 := by omega
  by_cases hlt : k ≤ P
  · obtain ⟨d', qd, qd', hp1, hp2, hH'⟩ := rH_poll hH (by omega) hnw (by omega) (by omega) (by omega) (by omega)
    have q : decide ((k : Int) ≤ x4 % 20) = true := decide_eq_true (by omega)
    clear hS4
    replace hM := Lib.hid hM
    replace hB5 := Lib.hid hB5
    replace hH' := Lib.hid hH'
    replace hp1 := Lib.hid hp1
    replace hp2 := Lib.hid hp2
    replace hnw := Lib.hid hnw
    replace qd := Lib.hid qd
    replace qd' := Lib.hid qd'
    replace hkR := Lib.hid hkR
    replace hP := Lib.hid hP
    clear hH hk
    go_wp2_with fail
    refine (kO.out I _ nw d d' xt hp1.out (hM.out.ext xt) qd.out).mono ?_
    rintro e w6 ⟨gb, ob, c6, ev, rfl, y0, y1, hv, ⟨cs, hcs⟩, hM6, hF6⟩
    have hE6 : Ext w w6 := Typ.toExt xt hF6
    have hB6 := Typ.blk hB5.out hF6 (by decide)
    clear hF6 hM hB5 hE5
    replace hM6 := Lib.hid hM6
    go_wp2_with fail
    refine (kZ.out I _ nw d' d' xt hp2.out (hM6.out.ext xt) qd'.out).mono ?_
    rintro e w7 ⟨q7, c7, rfl, hM7, hF7⟩
    have hE7 : Ext w w7 := Typ.toExt xt hF7
    have hB7 := Typ.blk hB6 hF7 (by decide)
    have hcs7 := Typ.blk hcs hF7 (by decide)
    have v0 : w7.cell? ⟨gb, ob, none⟩ = some (.int .i64 420) := (hcs7.cell ob).trans ((hcs.cell ob).symm.trans y0)
    have v1 : w7.cell? ⟨gb, ob + 1, none⟩ = some ev := (hcs7.cell (ob + 1)).trans ((hcs.cell (ob + 1)).symm.trans y1)
    have hv7 := hv.chg hF7 (fun b cs hb => Typ.not hb (by decide))
    obtain ⟨qe, ce, rfl⟩ := elems_form (ElsT.elems hv7)
    clear y0 y1 hcs hcs7 hF7 hB6 hv hM6 hE6
    have z0 := hB7.fz 0
    have z1 := hB7.fz 1
    have t0 : w7.cell? ⟨w4.heap.size, 0, none⟩ = some ea := (hB7.cell 0).trans rfl
    have t1 : w7.cell? ⟨w4.heap.size, 1, none⟩ = some eb := (hB7.cell 1).trans rfl
    have lB := hB7.lt
    replace hB7 := Lib.hid hB7
    replace hM7 := Lib.hid hM7
    replace hv7 := Lib.hid hv7
    have hEs := Lib.hid (fun (v : Value) => (hE7.setCell (p := ⟨w4.heap.size, 0, none⟩) hbx.out (.int .i64 420)).setCell (p := ⟨w4.heap.size, 1, none⟩) hbx.out v)
    go_wp2_with fail
    obtain ⟨W8, hW8⟩ : ∃ W8, W8 = (w7.setCell ⟨w4.heap.size, 0, none⟩ (.int .i64 420)).setCell ⟨w4.heap.size, 1, none⟩ (.slice qe (rvEs (rR1 x0) (rR2 (x0 + x1 + 1 + x3))).length ce) := ⟨_, rfl⟩
    obtain ⟨hM8, hB8, hv8⟩ := rv_store hB7.out hM7.out hv7.out hW8
    have hE8 := hEs.out (.slice qe (rvEs (rR1 x0) (rR2 (x0 + x1 + 1 + x3))).length ce)
    rw [← hW8] at hE8
    first | rw [← hW8] | simp only [← hW8]
    clear hW8 hEs hM7 hB7 hv7 z0 z1 t0 t1 lB v0 v1 hE7
    refine (rvGet_any _ _ _ W8 (ElsT.elems hv8)).mono ?_
    rintro e w9 ⟨rfl, hE89⟩
    have hM9 := Lib.hid (hM8.ext hE89)
    have hB9 := hB8.ext hE89
    have hv9 := Lib.hid (hv8.ext hE89)
    have hE9 := hE8.trans hE89
    have o0 : w9.cell? ⟨w4.heap.size, 0, none⟩ = some (.int .i64 420) := (hB9.cell 0).trans rfl
    have o1 : w9.cell? ⟨w4.heap.size, 1, none⟩ = some (.slice qe (rvEs (rR1 x0) (rR2 (x0 + x1 + 1 + x3))).length ce) := (hB9.cell 1).trans rfl
    replace hB9 := Lib.hid hB9
    clear hM8 hB8 hv8 hE8 hE89
    go_wp2_with fail
    refine (rvChk_any x0 _ _ w9 (ElsT.elems hv9.out)).mono ?_
    rintro e w10 ⟨rfl, hE910⟩
    have hfin := Lib.hid (show ∀ W, Ext w10 W → Ext w W ∧ (∃ d, HostM W w.heap.size I d ∧ rH x0 T R (x0 + x1 + 1 + x3) (x0 + x1) (k + 1) d) ∧ ∃ ea eb, Blk W w4.heap.size #[ea, eb] 29 ∧ (0 < k + 1 → ea = .int .i64 420 ∧ ∃ q n c, eb = .slice q n c ∧ ElsT W eb (rvEs (rR1 x0) (rR2 (x0 + x1 + 1 + x3)))) from fun W hE => ⟨(hE9.trans hE910).trans hE, ⟨_, hM9.out.ext (hE910.trans hE), hH'.out⟩, _, _, hB9.out.ext (hE910.trans hE), fun _ => ⟨rfl, _, _, _, rfl, hv9.out.ext (hE910.trans hE)⟩⟩)
    clear hM9 hB9 hv9 hE9 hE910 o0 o1
    go_wp2_with fail
    go_roundw
    case rel => exact ⟨k + 1, by omega, by go_num, ⟨_, rfl, by have := hnw.out; push_cast; rw [Int.add_mul, Int.one_mul]; omega⟩, Lib.hid (hfin.out _ (Ext.refl _))⟩
    case measure => simp [intOf]; omega
  · have hkP : k = P + 1 := by omega
    have q : decide ((k : Int) ≤ x4 % 20) = false := decide_eq_false (by omega)
    obtain ⟨rfl, qe, ne, ce, rfl, hv5⟩ := hS4 (by omega)
    rw [hkP] at hH
    obtain ⟨tries, rfl⟩ := hH
    obtain ⟨du, hdu⟩ : ∃ du, du = x0 + x1 + 1 + x3 + (P : Int) * R + R := ⟨_, rfl⟩
    obtain ⟨nb, hnb2⟩ : ∃ nb, nb = x0 + x1 + 1 + x3 + (P : Int) * R := ⟨_, rfl⟩
    rw [← hdu, ← hnb2] at hM
    have hle : nb ≤ nw := by rw [hnw, hkP]; push_cast; rw [Int.add_mul, Int.one_mul]; omega
    have o0 : wr.cell? ⟨w4.heap.size, 0, none⟩ = some (.int .i64 420) := (hB5.cell 0).trans rfl
    have o1 : wr.cell? ⟨w4.heap.size, 1, none⟩ = some (.slice qe ne ce) := (hB5.cell 1).trans rfl
    have k5 := Lib.hid (fun W v hE h hv => rvRecE_any w.heap.size I W x0 T R (x0 + x1 + 1 + x3) du tries nb nw v (by omega) hle (hg.out W hE) (Ext.size hE) h hv)
    have k6 := Lib.hid (fun W v hE h hv => rvRecF_any w.heap.size I W x0 T R (x0 + x1 + 1 + x3) nw nw v (by omega) (Int.le_refl _) (hg.out W hE) (Ext.size hE) h hv)
    have k7 := Lib.hid (fun W h => rvNextF_any w.heap.size I W x0 T R (x0 + x1 + 1 + x3) nw h)
    have k8 := Lib.hid (fun W (hE : Ext w W) h => rvPollN_any w.heap.size I W (rF x0 T R (x0 + x1 + 1 + x3) nw) _ (nw + 1000) (Prod.ext rfl (pollF x0 T R (x0 + x1 + 1 + x3) nw (nw + 1000) (by omega) (by omega))) (hg.out W hE) hGB.out hE.size h (rQ_F _ _ _ _ _).1 (rQ_F _ _ _ _ _).2)
    replace hnw := Lib.hid hnw
    replace hP := Lib.hid hP
    replace hkR := Lib.hid hkR
    replace hM := Lib.hid hM
    replace hv5 := Lib.hid hv5
    replace hkP := Lib.hid hkP
    clear hS4 hB5 kO kZ hdu hnb2 hk hlt
    have hE6 := hE5
    go_wp2_with fail
    refine (rvRep_any _ _ _ wr (ElsT.elems hv5.out)).mono ?_
    rintro e w6 ⟨v6, rfl, hv6, hE56⟩
    have hE7 : Ext w w6 := hE5.trans hE56
    replace hM := Lib.hid (hM.out.ext hE56)
    clear hE6 hE56 hv5 o0 o1 hE5
    obtain ⟨q6, c6, rfl⟩ := elems_form (ElsT.elems hv6)
    replace hv6 := Lib.hid hv6
    unfold msgAgg
    go_wp2_with fail
    refine (rvSale_any w.heap.size I _ x0 T R _ du tries nb (hM.out.ext xt)).mono ?_
    rintro e w7 ⟨x, rfl, hsx, hE67⟩
    have hE8 : Ext w w7 := Ext.trans xt hE67
    have hB7 := (Blk.new w6 #[.int .i64 430, .slice q6 (rvRe (rR1 x0) (rR2 (x0 + x1 + 1 + x3))).length c6] 29).ext hE67
    replace hM := Lib.hid (hM.out.ext (Ext.trans xt hE67))
    replace hv6 := Lib.hid (hv6.out.ext (Ext.trans xt hE67))
    have o0 : w7.cell? ⟨w6.heap.size, 0, none⟩ = some (.int .i64 430) := (hB7.cell 0).trans rfl
    have o1 : w7.cell? ⟨w6.heap.size, 1, none⟩ = some (.slice q6 (rvRe (rR1 x0) (rR2 (x0 + x1 + 1 + x3))).length c6) := (hB7.cell 1).trans rfl
    have lB := hB7.lt
    replace hB7 := Lib.hid hB7
    clear hE67 hE7
    unfold salAgg
    rw [hsx]
    go_wp2_with fail
    refine (k5.out _ _ xt (hM.out.ext xt) (ElsT.elems (hv6.out.ext xt))).mono ?_
    rintro e w8 ⟨rfl, hM8, hF8⟩
    have hE9 : Ext w w8 := Typ.toExt xt hF8
    have hB8 := Typ.blk (hB7.out.ext ((Ext.refl _).alloc _)) hF8 (by decide)
    have hv8 := (hv6.out.ext ((Ext.refl _).alloc _)).chg hF8 (fun b cs hb => Typ.not hb (by decide))
    clear o0 o1 lB hF8 hM hv6 hB7 hE8
    have o0 : w8.cell? ⟨w6.heap.size, 0, none⟩ = some (.int .i64 430) := (hB8.cell 0).trans rfl
    have o1 : w8.cell? ⟨w6.heap.size, 1, none⟩ = some (.slice q6 (rvRe (rR1 x0) (rR2 (x0 + x1 + 1 + x3))).length c6) := (hB8.cell 1).trans rfl
    have lB := hB8.lt
    replace hM8 := Lib.hid hM8
    replace hv8 := Lib.hid hv8
    clear hB8
    go_wp2_with fail
    refine (k6.out _ _ xt (hM8.out.ext xt) (ElsT.elems (hv8.out.ext xt))).mono ?_
    rintro e w9 ⟨rfl, hM9, hF9⟩
    have hE10 : Ext w w9 := Typ.toExt xt hF9
    clear o0 o1 lB hF9 hM8 hv8 hE9
    replace hM9 := Lib.hid hM9
    go_wp2_with fail
    refine (k7.out _ (hM9.out.ext xt)).mono ?_
    rintro e w10 ⟨tn, rfl, hE910⟩
    have hE11 : Ext w w10 := Ext.trans xt hE910
    replace hM9 := Lib.hid (hM9.out.ext hE910)
    clear hE910 hE10
    go_wp2_with fail
    refine (k8.out _ xt (hM9.out.ext xt)).mono ?_
    rintro e w11 ⟨q11, c11, rfl, -, hF11⟩
    have hE12 : Ext w w11 := Typ.toExt xt hF11
    clear hF11 hM9 hE11
    go_wp2_with fail
    refine (awake_any _ (hg.out _ xt)).mono ?_
    rintro e w12 ⟨rfl, hE13⟩
    have hE14 : Ext w w12 := Ext.trans xt hE13
    clear hE12 hE13
    go_wp2_with fail
    try go_ret
    exact ⟨rfl, hE14⟩
end Go.Proofs.YtkggloeaojkhaaaGreatDoor
