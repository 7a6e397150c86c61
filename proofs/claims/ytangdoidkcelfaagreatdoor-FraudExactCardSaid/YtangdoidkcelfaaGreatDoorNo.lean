/- Contracts of law 26's node, bounded, few (walks; printed by gen/h54.py). -/
import Derived.Test.YtangdoidkcelfaaGreatDoorNi
import Derived.Test.YtangdoidkcelfaaGreatDoorEl
namespace Go.Proofs.YtangdoidkcelfaaGreatDoor
open Go.RowKit
theorem strOk_mk {op : Int} {nm tx : ByteArray} {n : Int} {args : List Ex} (h : StrOk [.mk op nm tx n args]) : nm.size ≤ 140737488355328 ∧ tx.size ≤ 140737488355328 ∧ ∀ k, k < args.length → StrOk [args.getD k exD] := by
 have h0 := h (.mk op nm tx n args) (by rw [mem_partsL]; exact ⟨_, List.mem_singleton.2 rfl, by rw [parts_mk]; exact List.mem_cons_self ..⟩)
 refine ⟨h0.1, h0.2, fun k hk p hp => h p ?_⟩
 rw [mem_partsL] at hp ⊢
 obtain ⟨y, hy, hpy⟩ := hp
 rw [List.mem_singleton] at hy
 subst hy
 refine ⟨_, List.mem_singleton.2 rfl, ?_⟩
 rw [parts_mk]
 refine List.mem_cons_of_mem _ ((mem_partsL _ _).2 ⟨_, ?_, hpy⟩)
 rw [List.getD_eq_getElem?_getD, List.getElem?_eq_getElem hk, Option.getD_some]
 exact List.getElem_mem hk
def NodeP (x : Ex) (d : Int) (w : World) (e : Ending) (w' : World) : Prop := ∃ m : Int, e = .returned (.int .i64 m) ∧ 1 ≤ m ∧ m ≤ d + 2814749767107 ∧ (m ≤ d → (x.parts.length : Int) ≤ m) ∧ Ext w w'
set_option maxRecDepth 8000 in
set_option maxHeartbeats 4000000 in
theorem node_any {w : World} {v : Value} {l : List Ex} (h : ExS w v l) : ∀ (x : Ex), x.args = l → ∀ w', Ext w w' → StrOk [x] → ∀ d : Int, 0 ≤ d → d ≤ 300 → Calls Tryz.prog 45 #[exAgg x v, .int .i64 d] w' (NodeP x d w') := by
 refine ExS.ind (P := fun x v => ∀ w', Ext w w' → StrOk [x] → ∀ d : Int, 0 ≤ d → d ≤ 300 → Calls Tryz.prog 45 #[exAgg x v, .int .i64 d] w' (NodeP x d w')) ?_ h
 clear h
 intro x v hS hK w' hE hst d hd0 hd1
 obtain ⟨op, nm, tx, n, args⟩ := x
 obtain ⟨q, cp, rfl⟩ := hS.form
 have hlen := hS.len
 replace hK := Lib.hid hK
 simp only [Ex.args] at hK hlen ⊢
 obtain ⟨hnm, htx, hkid⟩ := strOk_mk hst
 have hpm := parts_mk op nm tx n args
 have hpl : (Ex.mk op nm tx n args).parts.length = (Ex.parts.partsL args).length + 1 := by rw [hpm]; rfl
 have hfin := Lib.hid (fun (m : Int) (w2 : World) (h1 : 1 ≤ m) (h2 : m ≤ d + 2814749767107) (h3 : m ≤ d → ((Ex.mk op nm tx n args).parts.length : Int) ≤ m) (h4 : Ext w' w2) => show NodeP (Ex.mk op nm tx n args) d w' (.returned (.int .i64 m)) w2 from ⟨m, rfl, h1, h2, h3, h4⟩)
 rw [exAgg_mk]
 replace hkid := Lib.hid hkid
 clear hpm hst
 generalize (Ex.mk op nm tx n args).parts.length = PL at *
 generalize Ex.mk op nm tx n args = X at *
 clear hS
 obtain ⟨g, hg⟩ : ∃ g : Nat, g = (nm.size + tx.size) / 100 := ⟨_, rfl⟩
 have hg1 : (g : Int) ≤ 2814749767106 := by omega
 have e0 : ((nm.size : Int) + (tx.size : Int)).tdiv 100 = (g : Int) := by rw [Int.tdiv_eq_ediv_of_nonneg (by omega)]; omega
 have hm0 := Lib.hid (show wrap64 (1 + wrap64 ((wrap64 ((nm.size : Int) + (tx.size : Int))).tdiv 100)) = 1 + (g : Int) by
  rw [show wrap64 ((nm.size : Int) + (tx.size : Int)) = (nm.size : Int) + (tx.size : Int) by unfold wrap64; omega, e0, show wrap64 (g : Int) = (g : Int) by unfold wrap64; omega]
  unfold wrap64
  omega)
 replace hnm := Lib.hid hnm
 replace htx := Lib.hid htx
 replace hlen := Lib.hid hlen
 have hg2 := Lib.hid hg1
 clear hg1 hg
 go_enter Tryz.func45, Tryz.ntmps45
 go_wp2_with fail
 have hg1 := hg2.out
 replace hlen := hlen.out
 have hb0 := Blk.new w' #[.int .i64 op, .string nm, .string tx, .int .i64 n, .slice q args.length cp] 40
 have hE0 : Ext w' (w'.alloc (.cells #[.int .i64 op, .string nm, .string tx, .int .i64 n, .slice q args.length cp] 40)) := xt
 generalize w'.alloc (.cells #[.int .i64 op, .string nm, .string tx, .int .i64 n, .slice q args.length cp] 40) = w0 at *
 replace hb0 := Lib.hid hb0
 go_wp2_with fail
 clear e0
 go_loopw [5, 6] (fun c i wr => ∃ (k : Nat) (m : Int), k ≤ args.length ∧ i = .int .i64 k ∧ c = .int .i64 m ∧ 1 ≤ m ∧ m ≤ d + 2814749767107 ∧ Hid (m ≤ d → ((Ex.parts.partsL (args.take k)).length : Int) + 1 ≤ m) ∧ Ext w0 wr) (fun _ i _ => args.length - (intOf i).toNat)
 case atStart => exact ⟨0, 1 + (g : Int), Nat.zero_le _, rfl, by rw [hm0.out], by omega, by omega, Lib.hid (fun _ => by show ((0 : Nat) : Int) + 1 ≤ 1 + (g : Int); omega), Ext.refl _⟩
 case round =>
  obtain ⟨k, m, hk, rfl, rfl, hm1, hm2, hm3, hEr⟩ := hrel
  have x4 : wr.cell? ⟨w'.heap.size, 4, none⟩ = some (.slice q args.length cp) := ((hb0.out.ext hEr).cell 4).trans rfl
  by_cases hlt : k < args.length ∧ m ≤ d
  · obtain ⟨hlt, hmm⟩ := hlt
    obtain ⟨b, off, rfl, sv, hkd⟩ := hK.out _ _ rfl (by omega)
    obtain ⟨hc, hsu, hP⟩ := hkd k hlt
    have hform := hsu.form
    have hEw := hE.trans (hE0.trans hEr)
    obtain ⟨c0, c1, c2, c3, c4⟩ := (hc.ext hEw).five
    have hsn := Lib.hid (partsL_snoc args k hlt)
    replace hP := Lib.hid (fun d' h0 h1 => hP _ hEw (hkid.out k hlt) d' h0 h1)
    clear hc hkd hsu
    generalize args.getD k exD = y at *
    generalize sv k = u at *
    obtain ⟨uq, uc, rfl⟩ := hform
    have e1 : wrap64 (d - m) = d - m := by unfold wrap64; omega
    have dd : decide (m ≤ d) = true := decide_eq_true hmm
    go_wp2_with fail
    refine (hP.out (d - m) (by omega) (by omega)).mono ?_
    rintro e w2 ⟨m2, rfl, g1, g2, g3, hE2⟩
    replace hEr := hEr.trans hE2
    replace g3 := Lib.hid g3
    clear c0 c1 c2 c3 c4 hE2 x4 hEw e1 dd
    go_wp2
    go_roundw
    case rel =>
     refine ⟨k + 1, m + m2, by omega, by go_num, by go_num, by omega, by omega, Lib.hid (fun h => ?_), hEr⟩
     have h5 := hm3.out hmm
     have h6 := g3.out (by omega)
     rw [hsn.out, List.length_append]
     push_cast
     omega
    case measure => simp [intOf]; omega
  · have hf := Lib.hid (show m ≤ d → (PL : Int) ≤ m from fun h => by
     have h5 := hm3.out h
     have h6 : k = args.length := by omega
     rw [h6, List.take_length] at h5
     omega)
    have hE9 := hE0.trans hEr
    clear hm3
    by_cases hlk : k < args.length
    · have h7 : ¬ m ≤ d := fun h => hlt ⟨hlk, h⟩
      have d5 : decide (m ≤ d) = false := decide_eq_false h7
      clear hlt
      go_wp2
      try go_ret
      exact hfin.out m _ hm1 hm2 hf.out hE9
    · clear hlt
      go_wp2
      try go_ret
      exact hfin.out m _ hm1 hm2 hf.out hE9
def BndOk (l : List FrR) : Prop := l.length ≤ 70 ∧ (l.flatMap (·.when.parts)).length ≤ 300
def BndP (l : List FrR) (w : World) (e : Ending) (w' : World) : Prop := ∃ b : Bool, e = .returned (.bool b) ∧ (b = true → BndOk l) ∧ Ext w w'
theorem flat_take {l : List FrR} {k : Nat} (h : k < l.length) : ((l.take (k + 1)).flatMap (·.when.parts)).length = ((l.take k).flatMap (·.when.parts)).length + (l.getD k frD).when.parts.length := by
 rw [fr_take h, List.flatMap_append, List.length_append]
 simp
set_option maxRecDepth 8000 in
set_option maxHeartbeats 4000000 in
theorem bounded_any (lv : Value) (l : List FrR) (w : World) (hR : FrsM w lv l) (hs : ∀ r ∈ l, StrOk [r.when]) : Calls Tryz.prog 17 #[lv] w (BndP l w) := by
 obtain ⟨lp, lc, rfl⟩ := hR.form
 have hll := hR.1
 have hno := Lib.hid (fun (w2 : World) (h : Ext w w2) => show BndP l w (.returned (.bool false)) w2 from ⟨false, rfl, (fun h => by cases h), h⟩)
 have hfin := Lib.hid (fun (b : Bool) (w2 : World) (hb : b = true → BndOk l) (h : Ext w w2) => show BndP l w (.returned (.bool b)) w2 from ⟨b, rfl, hb, h⟩)
 generalize BndP l w = PP at *
 replace hR := Lib.hid hR
 replace hs := Lib.hid hs
 go_enter Tryz.func17, Tryz.ntmps17
 go_wp2_with fail
 go_loopw [3, 4] (fun c i wr => ∃ (k : Nat) (m : Int), k ≤ l.length ∧ k ≤ 70 ∧ i = .int .i64 k ∧ c = .int .i64 m ∧ 0 ≤ m ∧ m ≤ 300 + 2814749767107 ∧ Hid (m ≤ 300 → (((l.take k).flatMap (·.when.parts)).length : Int) ≤ m) ∧ Ext w wr) (fun _ i _ => l.length - (intOf i).toNat)
 case atStart => exact ⟨0, 0, Nat.zero_le _, by omega, rfl, rfl, by omega, by omega, Lib.hid (fun _ => by simp), Ext.refl _⟩
 case round =>
  obtain ⟨k, m, hk, hk70, rfl, rfl, hm1, hm2, hm3, hE⟩ := hrel
  by_cases hlt : k < l.length
  · obtain ⟨b, off, rfl, sv, hkid⟩ := hR.out.at (by omega)
    obtain ⟨hc, hsu⟩ := hkid k hlt
    have hform := hsu.form
    obtain ⟨c0, c1, c2, c3, c4, c5, c6, c7⟩ := hc.ext hE
    have hso := hs.out (l.getD k frD) (by rw [List.getD_eq_getElem?_getD, List.getElem?_eq_getElem hlt, Option.getD_some]; exact List.getElem_mem hlt)
    have hst := Lib.hid (flat_take hlt)
    have kN := Lib.hid (fun d h0 h1 => node_any hsu (l.getD k frD).when rfl wr hE hso d h0 h1)
    clear hc hkid hso hsu
    generalize l.getD k frD = r at *
    obtain ⟨uq, uc, hu⟩ := hform
    rw [hu] at c5 kN
    clear hu
    unfold exAgg at kN
    by_cases h7 : 70 ≤ k
    · have q0 : decide (70 ≤ (k : Int)) = true := decide_eq_true (by omega)
      clear kN hst h7 hfin hm3
      go_wp2
      try go_ret
      exact hno.out _ hE
    · have q0 : decide (70 ≤ (k : Int)) = false := decide_eq_false (by omega)
      by_cases h3 : 300 < m
      · have q1 : decide (300 < m) = true := decide_eq_true h3
        clear kN hst h7 hfin hm3
        go_wp2
        try go_ret
        exact hno.out _ hE
      · have q1 : decide (300 < m) = false := decide_eq_false h3
        by_cases h1 : 100 < r.name.size
        · have q2 : decide (100 < (r.name.size : Int)) = true := decide_eq_true (by omega)
          clear kN hst h7 hfin hm3
          go_wp2
          try go_ret
          exact hno.out _ hE
        · have q2 : decide (100 < (r.name.size : Int)) = false := decide_eq_false (by omega)
          have e1 : wrap64 (300 - m) = 300 - m := by unfold wrap64; omega
          go_wp2_with fail
          refine (kN.out (300 - m) (by omega) (by omega)).mono ?_
          rintro e w2 ⟨m2, rfl, g1, g2, g3, hE2⟩
          replace g3 := Lib.hid g3
          replace hE := hE.trans hE2
          clear kN c0 c1 c2 c3 c4 c5 c6 c7 hE2 e1 q0 q1 q2
          go_wp2
          go_roundw
          case rel =>
           refine ⟨k + 1, m + m2, by omega, by omega, by go_num, by go_num, by omega, by omega, Lib.hid (fun h => ?_), hE⟩
           have h5 := hm3.out (by omega)
           have h6 := g3.out (by omega)
           rw [hst.out]
           push_cast
           omega
          case measure => simp [intOf]; omega
  · obtain rfl : k = l.length := by omega
    rw [List.take_length] at hm3
    have hf := Lib.hid (show decide (m ≤ 300) = true → BndOk l from fun h => by
     have h5 := hm3.out (of_decide_eq_true h)
     have h6 := of_decide_eq_true h
     exact ⟨hk70, by omega⟩)
    clear hm3
    go_wp2
    try go_ret
    exact hfin.out _ _ hf.out hE
def FewFP (l : List Feat) (w : World) (e : Ending) (w' : World) : Prop := ∃ b : Bool, e = .returned (.bool b) ∧ (b = true → l.length ≤ 30 ∧ TxtB l) ∧ Ext w w'
set_option maxRecDepth 8000 in
set_option maxHeartbeats 4000000 in
theorem fewf_any (lv : Value) (l : List Feat) (w : World) (hF : FeatsL w lv l) : Calls Tryz.prog 18 #[lv] w (FewFP l w) := by
 obtain ⟨lp, lc, rfl⟩ := hF.form
 have hll := hF.1
 have hno := Lib.hid (fun (w2 : World) (h : Ext w w2) => show FewFP l w (.returned (.bool false)) w2 from ⟨false, rfl, (fun h => by cases h), h⟩)
 have hyes := Lib.hid (fun (w2 : World) (hb : l.length ≤ 30 ∧ TxtB l) (h : Ext w w2) => show FewFP l w (.returned (.bool true)) w2 from ⟨true, rfl, fun _ => hb, h⟩)
 generalize FewFP l w = PP at *
 replace hF := Lib.hid hF
 go_enter Tryz.func18, Tryz.ntmps18
 go_wp2_with fail
 go_loopw [3] (fun i wr => ∃ k : Nat, k ≤ l.length ∧ k ≤ 30 ∧ i = .int .i64 k ∧ Hid (∀ j, j < k → (l.getD j fD).text.size ≤ 200) ∧ Ext w wr) (fun i _ => l.length - (intOf i).toNat)
 case atStart => exact ⟨0, Nat.zero_le _, by omega, rfl, Lib.hid (fun j hj => absurd hj (by omega)), Ext.refl _⟩
 case round =>
  obtain ⟨k, hk, hk30, rfl, hall, hE⟩ := hrel
  by_cases hlt : k < l.length
  · obtain ⟨b, off, rfl, hx⟩ := hF.out.at (by omega)
    obtain ⟨x0, x1, x2, x3⟩ := hx k hlt
    replace x0 := hE.get x0
    replace x1 := hE.get x1
    replace x2 := hE.get x2
    replace x3 := hE.get x3
    have hnx := Lib.hid (fun (hs : (l.getD k fD).text.size ≤ 200) j (hj : j < k + 1) => show (l.getD j fD).text.size ≤ 200 by
     by_cases e : j = k
     · rw [e]; exact hs
     · exact hall.out j (by omega))
    clear hx hall hyes
    generalize l.getD k fD = f at *
    by_cases h7 : 30 ≤ k
    · have q0 : decide (30 ≤ (k : Int)) = true := decide_eq_true (by omega)
      clear hnx h7
      go_wp2
      try go_ret
      exact hno.out _ hE
    · have q0 : decide (30 ≤ (k : Int)) = false := decide_eq_false (by omega)
      by_cases h1 : 100 < f.name.size
      · have q2 : decide (100 < (f.name.size : Int)) = true := decide_eq_true (by omega)
        clear hnx h7
        go_wp2
        try go_ret
        exact hno.out _ hE
      · have q2 : decide (100 < (f.name.size : Int)) = false := decide_eq_false (by omega)
        by_cases h2 : 200 < f.text.size
        · have q3 : decide (200 < (f.text.size : Int)) = true := decide_eq_true (by omega)
          clear hnx h7
          go_wp2
          try go_ret
          exact hno.out _ hE
        · have q3 : decide (200 < (f.text.size : Int)) = false := decide_eq_false (by omega)
          have hx2 := Lib.hid (hnx.out (by omega))
          clear hnx
          go_wp2
          go_roundw
          case rel => exact ⟨k + 1, by omega, by omega, by go_num, hx2, hE⟩
          case measure => simp [intOf]; omega
  · obtain rfl : k = l.length := by omega
    have hb : l.length ≤ 30 ∧ TxtB l := ⟨hk30, fun f hf => by
     obtain ⟨j, hj, rfl⟩ := List.getElem_of_mem hf
     have h := hall.out j hj
     rw [List.getD_eq_getElem?_getD, List.getElem?_eq_getElem hj, Option.getD_some] at h
     omega⟩
    replace hb := Lib.hid hb
    clear hall hno
    go_wp2
    try go_ret
    exact hyes.out _ hb.out hE
open Go.Sort
def TrkP (n : Nat) (w : World) (e : Ending) (w' : World) : Prop := ∃ p c, e = .returned (.slice p n c) ∧ Ext w w'
set_option maxRecDepth 8000 in
set_option maxHeartbeats 2000000 in
theorem tracked_any (X V : Nat) (uv vv rv tv : Value) (d : EngD) (w : World) (h : EngM w X V uv vv rv tv d) : Calls Tryz.prog 19 #[.pointer (some ⟨X, 0, none⟩)] w (TrkP d.names.length w) := by
 have a5 : w.cell? ⟨X, 5, none⟩ = some tv := (h.x.cell 5).trans rfl
 have kC : ∀ p c, tv = .slice p d.names.length c → Calls Tryz.prog 46 #[.slice p d.names.length c] w (TrkP d.names.length w) := by
  intro p c hv
  obtain ⟨p', c', h1, h2, h3⟩ := h.t
  rw [hv] at h1
  injection h1 with h1 _ h4
  subst h1 h4
  by_cases h0 : d.names.length = 0
  · rw [h0]
    cases p with
    | none =>
     refine (Tryz.slices_Clone_string_nil 0 c w).mono ?_
     rintro e w' ⟨rfl, rfl⟩
     exact ⟨none, 0, rfl, Ext.refl _⟩
    | some a =>
     refine (Tryz.slices_Clone_string_zero a c w).mono ?_
     rintro e w' ⟨v', rfl, hv', -, hE⟩
     obtain ⟨q, c2, rfl⟩ := own_form hv'
     exact ⟨q, c2, rfl, hE⟩
  · obtain ⟨b, rfl, -, -, h5⟩ := h3 (by omega)
    refine (Tryz.slices_Clone_string b 0 d.names.length c (d.names.map fun s => ⟨s.toArray⟩) w (by simp) (by omega) (fun j hj => ?_)).mono ?_
    · have hj : j < d.names.length := by simpa using hj
      rw [Nat.zero_add, h5 j hj]
      unfold encStr
      simp [List.getD_eq_getElem?_getD, hj]
    · rintro e w' ⟨v', rfl, hv', -, hE⟩
      obtain ⟨-, ⟨rfl, hn⟩ | ⟨g, cap, cur, rfl, -⟩⟩ := hv'
      · exact absurd hn h0
      · exact ⟨_, _, rfl, hE⟩
 obtain ⟨p, c, rfl⟩ : ∃ p c, tv = .slice p d.names.length c := by
  obtain ⟨p, c, h1, -⟩ := h.t
  exact ⟨p, c, h1⟩
 replace kC := Lib.hid (kC p c rfl)
 clear h
 generalize d.names.length = n at *
 go_enter Tryz.func19, Tryz.ntmps19
 go_wp2_with fail
 refine kC.out.mono ?_
 rintro e w1 ⟨q, c2, rfl, hE⟩
 go_wp2
 try go_ret
 exact ⟨q, c2, rfl, hE⟩
theorem srcS_nil (d : VelD) (l : List Feat) (now : Int) : srcS d [] l now = nilS := by
 funext c nm win
 unfold srcS nilS
 rw [if_neg (by rintro ⟨h, -⟩; cases h)]
theorem judge_nil {rs : List FrR} {refer decline now : Int} {l : List Feat} (h : trackV rs = []) : judgeV (newV rs refer decline) now l = endV refer decline (verK l nilS rs rs.length) := by
 unfold judgeV verK newV
 simp only
 rw [h, srcS_nil, List.take_length]
theorem verK_pre (l : List Feat) (S : Bool → ByteArray → Int → Int) (rs : List FrR) (k : Nat) : ∀ m, k ≤ m → m ≤ rs.length → ∃ t, (verK l S rs m).fired = (verK l S rs k).fired ++ t := by
 intro m hkm
 induction m with
 | zero =>
  intro _
  obtain rfl : k = 0 := by omega
  exact ⟨[], by simp⟩
 | succ m ih =>
  intro hm
  by_cases e : k = m + 1
  · subst e; exact ⟨[], by simp⟩
  · obtain ⟨t, ht⟩ := ih (by omega) (by omega)
    rw [verK_step l S rs m (by omega)]
    unfold stepV
    split
    · exact ⟨t ++ [(rs.getD m frD).name], by simp only [ht]; rw [List.append_assoc]⟩
    · exact ⟨t, ht⟩
/-- A rule that holds fires: its name stands where the law looks for it. -/
theorem fired_at {l : List Feat} {S : Bool → ByteArray → Int → Int} {rs : List FrR} {k : Nat} (hk : k < rs.length) (h : verK l S rs (k + 1) = ⟨max (verK l S rs k).act (rs.getD k frD).act, (verK l S rs k).score + (rs.getD k frD).score, (verK l S rs k).fired ++ [(rs.getD k frD).name]⟩) : (verK l S rs k).fired.length < (verK l S rs rs.length).fired.length ∧ (verK l S rs rs.length).fired.getD (verK l S rs k).fired.length ⟨#[]⟩ = (rs.getD k frD).name := by
 obtain ⟨t, ht⟩ := verK_pre l S rs (k + 1) rs.length (by omega) (Nat.le_refl _)
 rw [h] at ht
 simp only at ht
 rw [ht]
 constructor
 · simp only [List.length_append, List.length_cons, List.length_nil]; omega
 · rw [List.append_assoc, List.getD_eq_getElem?_getD, List.getElem?_append_right (Nat.le_refl _)]
   simp
end Go.Proofs.YtangdoidkcelfaaGreatDoor
