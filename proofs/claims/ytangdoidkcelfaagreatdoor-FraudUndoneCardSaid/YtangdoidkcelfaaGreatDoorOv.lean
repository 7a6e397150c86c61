/- Contracts of slices.Index and slices.Contains over fraud's uses (walks; printed by gen/h60.py). The contract of slices.Delete that takes the last of fraud's uses (walk; printed by gen/h61.py). The contract of velocity's Remove that takes the last use (walk; printed by gen/h62.py). -/
import Derived.Test.YtangdoidkcelfaaGreatDoorKu
import Derived.Test.YtangdoidkcelfaaGreatDoorNa
import Derived.Test.YtangdoidkcelfaaGreatDoorKf
import Derived.Deep.RegionLaw
import Derived.StillTailTactics
namespace Go.Proofs.YtangdoidkcelfaaGreatDoor
open Go.RowKit
/-- The first use that is u, counted from k on; or -1. -/
def fstU (u : UseV) (k : Nat) (l : List UseV) : Int := idxU (fun x => decide (u = x)) k l
theorem fstU_none {u : UseV} : ∀ {l : List UseV} (k : Nat), u ∉ l → fstU u k l = -1
 | [], _, _ => rfl
 | x :: l, k, h => by
  unfold fstU idxU
  rw [if_neg (by simp only [decide_eq_true_eq]; intro e; exact h (by rw [e]; exact List.mem_cons_self ..))]
  exact fstU_none (k + 1) (fun hm => h (List.mem_cons_of_mem _ hm))
theorem fstU_last {u : UseV} : ∀ {l : List UseV} (k : Nat), u ∉ l → fstU u k (l ++ [u]) = ((k + l.length : Nat) : Int)
 | [], k, _ => by
  show fstU u k [u] = _
  unfold fstU idxU
  rw [if_pos (by simp)]
  rfl
 | x :: l, k, h => by
  show fstU u k (x :: (l ++ [u])) = _
  unfold fstU idxU
  rw [if_neg (by simp only [decide_eq_true_eq]; intro e; exact h (by rw [e]; exact List.mem_cons_self ..))]
  have := fstU_last (u := u) (l := l) (k + 1) (fun hm => h (List.mem_cons_of_mem _ hm))
  unfold fstU at this
  rw [this, List.length_cons]
  congr 1
  omega
def useEqOn (T : TypeId) : Prop := ∀ (a b : UseV) (w : World), (binOp .eql T (useAgg a) (useAgg b)).run Tryz.prog w = .ok (.bool (decide (a = b))) w
theorem use_cases (a b : UseV) : a = b ∨ (a ≠ b ∧ (a.key ≠ b.key ∨ (a.key = b.key ∧ a.t ≠ b.t) ∨ (a.key = b.key ∧ a.t = b.t ∧ a.amt ≠ b.amt))) := by
 obtain ⟨ak, at', am⟩ := a
 obtain ⟨bk, bt, bm⟩ := b
 by_cases h1 : ak = bk
 · by_cases h2 : at' = bt
   · by_cases h3 : am = bm
     · exact Or.inl (by rw [h1, h2, h3])
     · exact Or.inr ⟨by rintro ⟨⟩; exact h3 rfl, Or.inr (Or.inr ⟨h1, h2, h3⟩)⟩
   · exact Or.inr ⟨by rintro ⟨⟩; exact h2 rfl, Or.inr (Or.inl ⟨h1, h2⟩)⟩
 · exact Or.inr ⟨by rintro ⟨⟩; exact h1 rfl, Or.inl h1⟩
theorem useEqF : useEqOn 135 := by
 intro a b w
 unfold useAgg
 rcases use_cases a b with h | ⟨hne, h⟩
 · subst h
   rw [decide_eq_true rfl]
   go_simp
 · rw [decide_eq_false hne]
   obtain ⟨ak, at', am⟩ := a
   obtain ⟨bk, bt, bm⟩ := b
   simp only at h ⊢
   rcases h with h | ⟨e1, h⟩ | ⟨e1, e2, h⟩
   · have g := bytes_ne h
     go_simp
   · have g : (at' == bt) = false := by simp [h]
     subst e1
     go_simp
   · have g : (am == bm) = false := by simp [h]
     subst e1
     subst e2
     go_simp
theorem useEqV : useEqOn 182 := by
 intro a b w
 unfold useAgg
 rcases use_cases a b with h | ⟨hne, h⟩
 · subst h
   rw [decide_eq_true rfl]
   go_simp
 · rw [decide_eq_false hne]
   obtain ⟨ak, at', am⟩ := a
   obtain ⟨bk, bt, bm⟩ := b
   simp only at h ⊢
   rcases h with h | ⟨e1, h⟩ | ⟨e1, e2, h⟩
   · have g := bytes_ne h
     go_simp
   · have g : (at' == bt) = false := by simp [h]
     subst e1
     go_simp
   · have g : (am == bm) = false := by simp [h]
     subst e1
     subst e2
     go_simp
set_option maxRecDepth 8000 in
set_option maxHeartbeats 4000000 in
theorem idx_use (B : Nat) (v : Value) (l : List UseV) (u : UseV) (w : World) (hU : UsesR 135 w B v l) : Calls Tryz.prog 77 #[v, useAgg u] w (OneQ (.int .i64 (fstU u 0 l)) w) := by
 obtain ⟨p, c, rfl⟩ := hU.form
 have hll := hU.1
 replace hU := Lib.hid hU
 have hend := Lib.hid (fun (n : Int) w' (h : Ext w w') (e : n = fstU u 0 l) => show OneQ (.int .i64 (fstU u 0 l)) w (.returned (.int .i64 n)) w' from ⟨by rw [e], h⟩)
 generalize OneQ (.int .i64 (fstU u 0 l)) w = PP at *
 obtain ⟨key, t, amt⟩ := u
 unfold useAgg
 go_enter Tryz.func77, Tryz.ntmps77
 go_wp2_with fail
 have bx := Lib.hid (Blk.new w #[.string key, .int .i64 t, .int .i64 amt] 135)
 have hE1 : Ext w (w.alloc (.cells #[.string key, .int .i64 t, .int .i64 amt] 135)) := xt
 generalize w.alloc (.cells #[.string key, .int .i64 t, .int .i64 amt] 135) = w1 at *
 go_loopw [8] (fun i wr => ∃ k : Nat, k ≤ l.length ∧ i = .int .i64 k ∧ Hid (fstU ⟨key, t, amt⟩ 0 l = fstU ⟨key, t, amt⟩ k (l.drop k)) ∧ Ext w1 wr) (fun i _ => l.length - (intOf i).toNat)
 case atStart => exact ⟨0, Nat.zero_le _, rfl, Lib.hid (by rw [List.drop_zero]), Ext.refl _⟩
 case round =>
  obtain ⟨k, hk, rfl, hf, hE⟩ := hrel
  have b1 := bx.out.ext hE
  have y0 : wr.cell? ⟨w.heap.size, 0, none⟩ = some (.string key) := (b1.cell 0).trans rfl
  have y1 : wr.cell? ⟨w.heap.size, 1, none⟩ = some (.int .i64 t) := (b1.cell 1).trans rfl
  have y2 : wr.cell? ⟨w.heap.size, 2, none⟩ = some (.int .i64 amt) := (b1.cell 2).trans rfl
  have lb := b1.lt
  clear b1
  by_cases hlt : k < l.length
  · have hst := Lib.hid (idxU_drop (fun x => decide ((⟨key, t, amt⟩ : UseV) = x)) hlt)
    rcases hU.out.lie with ⟨-, hnil⟩ | ⟨g, cap, hv, -, hcap, hcm, hc⟩
    · rw [hnil] at hlt; cases hlt
    injection hv with hp1 hp2 hp3
    subst hp1 hp3
    obtain ⟨x0, x1, x2⟩ := hc k hlt
    replace x0 := (hE1.trans hE).get x0
    replace x1 := (hE1.trans hE).get x1
    replace x2 := (hE1.trans hE).get x2
    clear hc
    generalize l.getD k useD = x at *
    have hq : ∀ w : World, (binOp .eql 135 (.agg #[.string key, .int .i64 t, .int .i64 amt]) (.agg #[.string x.key, .int .i64 x.t, .int .i64 x.amt])).run Tryz.prog w = .ok (.bool (decide ((⟨key, t, amt⟩ : UseV) = x))) w := fun w => useEqF ⟨key, t, amt⟩ x w
    by_cases he : (⟨key, t, amt⟩ : UseV) = x
    · rw [decide_eq_true he] at hq
      have hN := Lib.hid (hf.out.trans (hst.out.trans (if_pos (by simpa using he))))
      clear hst hf he
      go_wp2_with fail
      go_quiet (fail)
      go_wp2
      try go_ret
      exact hend.out _ _ ((hE1.trans hE).trans xt) hN.out.symm
    · rw [decide_eq_false he] at hq
      have hN := Lib.hid (hf.out.trans (hst.out.trans (if_neg (by simpa using he))))
      clear hst hf he
      go_wp2_with fail
      go_quiet (fail)
      go_wp2
      go_roundw
      case rel => exact ⟨k + 1, by omega, by go_num, hN, hE.trans xt⟩
      case measure => simp [intOf]; omega
  · obtain rfl : k = l.length := by omega
    have hN := hf.out
    rw [List.drop_length] at hN
    replace hN := Lib.hid (show fstU ⟨key, t, amt⟩ 0 l = -1 from hN)
    clear hf
    go_wp2_with fail
    try go_ret
    exact hend.out _ _ ((hE1.trans hE).trans xt) hN.out.symm
set_option maxRecDepth 8000 in
set_option maxHeartbeats 4000000 in
theorem con_use (B : Nat) (v : Value) (l : List UseV) (u : UseV) (w : World) (hU : UsesR 135 w B v l) : Calls Tryz.prog 75 #[v, useAgg u] w (OneQ (.bool (decide (0 ≤ fstU u 0 l))) w) := by
 obtain ⟨p, c, rfl⟩ := hU.form
 have hll := hU.1
 have kI := Lib.hid (fun w1 (h : Ext w w1) => idx_use B (.slice p l.length c) l u w1 (hU.ext h))
 clear hU
 have hend := Lib.hid (fun w' (h : Ext w w') => show OneQ (.bool (decide (0 ≤ fstU u 0 l))) w (.returned (.bool (decide (0 ≤ fstU u 0 l)))) w' from ⟨rfl, h⟩)
 generalize OneQ (.bool (decide (0 ≤ fstU u 0 l))) w = PP at *
 unfold OneQ useAgg at kI
 generalize fstU u 0 l = R at *
 obtain ⟨key, t, amt⟩ := u
 unfold useAgg
 simp only at kI
 go_enter Tryz.func75, Tryz.ntmps75
 go_wp2_with fail
 have hE1 : Ext w (w.alloc (.cells #[.string key, .int .i64 t, .int .i64 amt] 135)) := xt
 refine (kI.out _ hE1).mono ?_
 rintro e w2 ⟨rfl, hE2⟩
 go_wp2
 try go_ret
 exact hend.out _ ((hE1.trans hE2).trans xt)
end Go.Proofs.YtangdoidkcelfaaGreatDoor
namespace Go.Proofs.YtangdoidkcelfaaGreatDoor
open Go.RowKit
section
variable {P : Program}
theorem run_append_zero (w : World) (t tx ty e e' : TypeId) (i : TypeInfo) (ht : P.underlying t = some (.slice e)) (htx : P.underlying tx = some (.slice e')) (hi : P.info? e = some i) (base a : Option Addr) (sLen sCap c : Nat) (hle : sLen ≤ sCap) :
 (Builtin.append_ #[t, tx] ty #[.slice base sLen sCap, .slice a 0 c]).run P w = .ok (.slice base sLen sCap) w := by
 have hl : ∀ (x : Addr), (loadCells x 0).run P w = .ok #[] w := fun x => by simpa using run_loadCells_list (P := P) w x [] (by simp)
 cases base <;> cases a <;> simp [Builtin.append_, run_underlying ht, run_underlying htx, Builtin.lenOf, Builtin.firstCells, sizeOf, typeInfo, hi, hle, hl, storeCells]
theorem step_append_run {ops : Array Oper} {o : Oper} {a : Act} {w : World} {K : Act → World → Prop} {Q : Exit → Act → World → Prop} {E : Prop} (hgd : o.guard = none) (d s : Operand) (dT sT : TypeId)
 (ho : o.op = .call { callee := .builtin .append, args := #[d, s], argTypes := #[dT, sT] }) (v u : Value) (hd : a.eval d = v) (hs : a.eval s = u) {v' : Value} {w' : World} (hr : ∀ ty, (Builtin.append_ #[dT, sT] ty #[v, u]).run P w = .ok v' w') (h : K (a.put o.dst v') w') :
 if Region.wanted o (yielded ops a.tmps) = true then Oper.wp P o a w K Q else E := by
 have hw : Region.wanted o (yielded ops a.tmps) = true := by simp [Region.wanted, hgd]
 rw [if_pos hw]
 unfold Oper.wp
 simp [execOp, ho, resolve, invoke, builtin, hd, hs, hr, Result.andThen]
 exact h
end
/-- What Delete of the last use leaves. -/
def DelL (B : Nat) (v : Value) (A : List UseV) (w : World) (e : Ending) (w' : World) : Prop :=
 ∃ v', e = .returned v' ∧ UsesR 135 w' B v' A ∧ Chg (fun k => v.ownBlock = some k) w w' ∧ v'.ownBlock = v.ownBlock
set_option maxRecDepth 8000 in
set_option maxHeartbeats 4000000 in
theorem delLast_any (B : Nat) (v : Value) (A : List UseV) (u : UseV) (w : World) (hU : UsesR 135 w B v (A ++ [u])) : Calls Tryz.prog 78 #[v, .int .i64 A.length, .int .i64 ((A.length : Int) + 1)] w (DelL B v A w) := by
 obtain ⟨hl, hvl, ⟨rfl, hl0⟩ | ⟨g, cap, cur, rfl, hB, hb, hcap, hcm, hcs, htk⟩⟩ := hU
 · simp at hl0
 have hlen : (A ++ [u]).length = A.length + 1 := by simp
 rw [hlen] at hl hvl hcap htk ⊢
 have htA : cur.toList.take (A.length * 3) = useFlat A := by
  have h1 : cur.toList.take (A.length * 3) = (cur.toList.take ((A.length + 1) * 3)).take (A.length * 3) := by rw [List.take_take]; congr 1; omega
  rw [h1, htk, useFlat_snoc, List.take_append_of_le_length (by rw [useFlat_len]; omega)]
  exact List.take_of_length_le (by rw [useFlat_len]; omega)
 obtain ⟨i0, hI, hz0, hz1, hz2⟩ := info_partsE infoFuE
 have hap := Lib.hid (fun (w : World) ty (a : Option Addr) (c : Nat) => run_append_zero (P := Tryz.prog) w 87 87 ty 135 135 i0 Tryz.underlying87 Tryz.underlying87 hI (some ⟨g, 0, none⟩) a A.length cap c (by omega))
 have hzl := zeroCells_len (Value.agg #[.string ⟨#[]⟩, .int .i64 0, .int .i64 0]).cells 1
 have hrun := fun (wd : World) (hg : Blk wd g cur 135) => run_clear_wide2 (P := Tryz.prog) wd 87 135 (Value.agg #[.string ⟨#[]⟩, .int .i64 0, .int .i64 0]) Tryz.underlying87 zeroU (by intro v hv; simp [Value.cells] at hv; rcases hv with rfl | rfl | rfl <;> rfl) g (A.length * 3) 1 (cap - A.length) cur 135 (by omega) hg (by simp [Value.cells]; omega)
 generalize (Builtin.zeroCells (Value.agg #[.string ⟨#[]⟩, .int .i64 0, .int .i64 0]).cells 1).toList = zs at *
 have hzl3 : zs.length = 3 := hzl.trans rfl
 have hend := Lib.hid (fun (wd w3 : World) (hE : Ext w wd) (hw : w3 = wd.setRow g (cur.toList.take (A.length * 3) ++ zs ++ cur.toList.drop (A.length * 3 + zs.length)).toArray) => show DelL B (.slice (some ⟨g, 0, none⟩) (A.length + 1) cap) A w (.returned (.slice (some ⟨g, 0, none⟩) A.length cap)) w3 from by
  subst hw
  refine ⟨_, rfl, ⟨by omega, by rw [useFlat_len], Or.inr ⟨g, cap, (cur.toList.take (A.length * 3) ++ zs ++ cur.toList.drop (A.length * 3 + zs.length)).toArray, rfl, hB, setRow_heap wd g _ _ _ _ (hE.block _ (Blk.lt hb) |>.trans hb), by omega, hcm, ?_, ?_⟩⟩, Chg.setRow (F := fun k => some g = some k) (Chg.ofExt hE) (Or.inl rfl) _, rfl⟩
  · simp only [List.size_toArray, List.length_append, List.length_take, List.length_drop, Array.length_toList]
    omega
  · rw [List.append_assoc, List.take_append_of_le_length (by simp; omega), List.take_take, Nat.min_self]
    exact htA)
 generalize DelL B (.slice (some ⟨g, 0, none⟩) (A.length + 1) cap) A w = PP at *
 have hbd : Blk w.drew g cur 135 := Blk.ext hb (Ext.refl w).drew
 replace hrun := hrun w.drew hbd
 have hEd : Ext w w.drew := (Ext.refl w).drew
 replace hend := Lib.hid (hend.out w.drew _ hEd rfl)
 generalize hw3 : w.drew.setRow g (cur.toList.take (A.length * 3) ++ zs ++ cur.toList.drop (A.length * 3 + zs.length)).toArray = w3 at *
 have k1 : A.length ≤ cap := by omega
 have k2 : A.length + 1 ≤ cap := by omega
 have k4 : ¬ cap = A.length := by omega
 have hp0 : (0 : Int) ≤ (A.length : Int) + 1 := by omega
 have hp2 : ((A.length : Int) + 1).toNat = A.length + 1 := by omega
 have hp3 : (A.length : Int) + 1 ≤ (cap : Int) := by omega
 clear hw3 hzl hbd hb htk htA hI hz0 hz1 hz2 hcs hvl
 go_enter Tryz.func78, Tryz.ntmps78
 go_wp2_with fail
 obtain ⟨A2, hA2⟩ : ∃ a, (if cap = A.length + 1 then some (⟨g, 0, none⟩ : Addr) else some ⟨g, (A.length + 1) * 3, none⟩) = a := ⟨_, rfl⟩
 have hap2 := fun ty => hap.out w.drew ty A2 (cap - (A.length + 1))
 go_region_law (refine step_append_run rfl (.tmp 22) (.tmp 25) 87 87 rfl (.slice (some ⟨g, 0, none⟩) A.length cap) (.slice A2 0 (cap - (A.length + 1))) (by simp [Act.eval, Act.put]) (by simp [Act.eval, Act.put]) hap2 ?_)
 all_goals clear hap2
 all_goals go_wp2_with fail
 all_goals exact hend.out
end Go.Proofs.YtangdoidkcelfaaGreatDoor
namespace Go.Proofs.YtangdoidkcelfaaGreatDoor
open Go.RowKit
/-- What Remove of the last use leaves. -/
def RemL (B V : Nat) (v : Value) (hor last : Int) (A : List UseV) (w : World) (e : Ending) (w' : World) : Prop :=
 e = .returned (.int .i64 0) ∧ ∃ v', VelM w' B V v' ⟨hor, last, A⟩ ∧ Chg (fun k => k = V ∨ v.ownBlock = some k) w w' ∧ v'.ownBlock = v.ownBlock
set_option maxRecDepth 8000 in
set_option maxHeartbeats 4000000 in
theorem velRem_last (B V : Nat) (v : Value) (hor last : Int) (A : List UseV) (u : UseV) (w : World) (h : VelM w B V v ⟨hor, last, A ++ [u]⟩) : Calls Tryz.prog 76 #[.pointer (some ⟨V, 0, none⟩), .string u.key, .int .i64 u.t, .int .i64 u.amt] w (RemL B V v hor last A w) := by
 have kR := Lib.hid (fun w1 (k : Ext w w1) => velRemove_any B V A.length 1 v ⟨hor, last, A ++ [u]⟩ w1 (h.ext k) (by simp))
 have hend := Lib.hid (fun w1 (k : Ext w w1) e w2 (hP : RemP B V A.length 1 v ⟨hor, last, A ++ [u]⟩ w1 e w2) w3 (k3 : Ext w2 w3) => show RemL B V v hor last A w (.returned (.int .i64 0)) w3 from by
  obtain ⟨-, v', h1, h2, h3⟩ := hP
  have e1 : (A ++ [u]).take A.length ++ (A ++ [u]).drop (A.length + 1) = A := by simp
  simp only at h1
  rw [e1] at h1
  exact ⟨rfl, v', h1.ext k3, (Chg.pre k h2).ext k3, h3⟩)
 obtain ⟨hb, hu⟩ := h
 simp only at hb hu
 have hlen : (A ++ [u]).length = A.length + 1 := by simp
 have hll := hu.1
 obtain ⟨g, cap, rfl, hcap, hc⟩ : ∃ g cap, v = .slice (some ⟨g, 0, none⟩) (A.length + 1) cap ∧ A.length + 1 ≤ cap ∧ (w.cell? ⟨g, A.length * 3, none⟩ = some (.string u.key) ∧ w.cell? ⟨g, A.length * 3 + 1, none⟩ = some (.int .i64 u.t) ∧ w.cell? ⟨g, A.length * 3 + 2, none⟩ = some (.int .i64 u.amt)) := by
  rcases hu.lie with ⟨-, hn⟩ | ⟨g, cap, hv, -, hcap, -, hc⟩
  · simp at hn
  · rw [hlen] at hv hcap hc
    have h3 := hc A.length (by omega)
    rw [show (A ++ [u]).getD A.length useD = u by simp [List.getD_eq_getElem?_getD]] at h3
    exact ⟨g, cap, hv, hcap, h3⟩
 obtain ⟨x0, x1, x2⟩ := hc
 rw [hlen] at hll
 have y2 : w.cell? ⟨V, 2, none⟩ = some (.slice (some ⟨g, 0, none⟩) (A.length + 1) cap) := (hb.cell 2).trans rfl
 have hq : ∀ w : World, (binOp .eql 182 (.agg #[.string u.key, .int .i64 u.t, .int .i64 u.amt]) (.agg #[.string u.key, .int .i64 u.t, .int .i64 u.amt])).run Tryz.prog w = .ok (.bool true) w := fun w => by have := useEqV u u w; rw [decide_eq_true rfl] at this; exact this
 unfold RemP at kR
 simp only at kR
 clear hb hu hlen
 go_enter Tryz.func76, Tryz.ntmps76
 go_wp2_with fail
 go_loopw [9] (fun i wr => i = .int .i64 A.length ∧ Ext w wr) (fun i _ => (intOf i).toNat)
 case atStart => exact ⟨by go_num, Ext.refl _⟩
 case round =>
  obtain ⟨rfl, hE⟩ := hrel
  replace x0 := hE.get x0
  replace x1 := hE.get x1
  replace x2 := hE.get x2
  replace y2 := hE.get y2
  go_wp2_with fail
  refine (kR.out _ hE).mono ?_
  rintro e w2 hP
  have hE9 := Lib.hid (fun w3 k3 => hend.out _ hE e w2 hP w3 k3)
  obtain ⟨rfl, -⟩ := hP
  go_wp2_with fail
  try go_ret
  exact hE9.out _ (Ext.refl _)
end Go.Proofs.YtangdoidkcelfaaGreatDoor
