/- The contract of add (walk; printed by gen/h44.py). -/
import Derived.Test.YtangdoidkcelfaaGreatDoorNa
import Derived.Test.YtangdoidkcelfaaGreatDoorNb
namespace Go.Proofs.YtangdoidkcelfaaGreatDoor
open Go.RowKit Go.Sort
theorem keep_eq (now hor : Int) : keepB now hor = fun u => decide (now - hor < u.t) := by
 funext u
 unfold keepB oldB
 by_cases h : u.t ≤ now - hor
 · rw [decide_eq_true h, decide_eq_false (by omega)]; rfl
 · rw [decide_eq_false h, decide_eq_true (by omega)]; rfl
/-- What velocity's windows keep to. -/
structure VelOk (v : VelD) : Prop where
 hor : 1 ≤ v.hor ∧ v.hor ≤ 10000000
 few : v.uses.length ≤ 1000
 amt : AmtB v.uses
theorem velAdd_ok {v : VelD} {u : UseV} (h : VelOk v) : VelOk (velAdd v u).1 ∧ (velAdd v u).1.hor = v.hor := by
 unfold velAdd
 split
 · exact ⟨h, rfl⟩
 · split
   · exact ⟨h, rfl⟩
   · split
     · exact ⟨h, rfl⟩
     · rename_i h3
       split
       · exact ⟨h, rfl⟩
       · rename_i h4
         refine ⟨⟨h.hor, ?_, ?_⟩, rfl⟩
         · have := oldN_le v.hor u.t v.uses
           simp only [List.length_append, List.length_drop, List.length_cons, List.length_nil]
           omega
         · intro x hx
           rcases List.mem_append.1 hx with hx | hx
           · exact h.amt x (List.mem_of_mem_drop hx)
           · simp only [List.mem_cons, List.not_mem_nil, or_false] at hx
             subst hx
             omega
def velK (d : EngD) (now amt : Int) (ks : List ByteArray) (k : Nat) : VelD := (ks.take k).foldl (fun v s => (velAdd v ⟨s, now, amt⟩).1) d.vel
theorem ks_take {ks : List ByteArray} {k : Nat} (h : k < ks.length) : ks.take (k + 1) = ks.take k ++ [ks.getD k ⟨#[]⟩] := by
 rw [List.take_add_one, List.getD_eq_getElem?_getD, List.getElem?_eq_getElem h]
 rfl
theorem velK_ok {d : EngD} (now amt : Int) (ks : List ByteArray) (h : VelOk d.vel) : ∀ k, VelOk (velK d now amt ks k) ∧ (velK d now amt ks k).hor = d.vel.hor
 | 0 => ⟨h, rfl⟩
 | k + 1 => by
  by_cases hk : k < ks.length
  · have h1 := velK_ok now amt ks h k
    unfold velK at *
    rw [ks_take hk, List.foldl_append]
    have h2 := velAdd_ok (u := ⟨ks.getD k ⟨#[]⟩, now, amt⟩) h1.1
    exact ⟨h2.1, h2.2.trans h1.2⟩
  · have h1 := velK_ok now amt ks h k
    unfold velK at *
    rw [List.take_of_length_le (by omega)] at *
    exact h1
def usesK (d : EngD) (now amt : Int) (ks : List ByteArray) (k : Nat) : List UseV := (d.uses.filter fun u => decide (now - d.hor < u.t)) ++ (ks.take k).map (fun s => ⟨s, now, amt⟩)
/-- The engine behind k of the keys. -/
def addK (d : EngD) (now amt : Int) (ks : List ByteArray) (k : Nat) : EngD := ⟨velK d now amt ks k, d.hor, now, usesK d now amt ks k, d.rules, d.names, d.refer, d.decline⟩
theorem velK_step {d : EngD} {now amt : Int} {ks : List ByteArray} {k : Nat} (h : k < ks.length) : velK d now amt ks (k + 1) = (velAdd (velK d now amt ks k) ⟨ks.getD k ⟨#[]⟩, now, amt⟩).1 := by
 unfold velK
 rw [ks_take h, List.foldl_append]
 rfl
theorem usesK_step {d : EngD} {now amt : Int} {ks : List ByteArray} {k : Nat} (h : k < ks.length) : usesK d now amt ks (k + 1) = usesK d now amt ks k ++ [⟨ks.getD k ⟨#[]⟩, now, amt⟩] := by
 unfold usesK
 rw [ks_take h, List.map_append, List.append_assoc]
 rfl
theorem addK_end {d : EngD} {now amt : Int} {ks : List ByteArray} (h : 0 < ks.length) : addK d now amt ks ks.length = addN d now ks amt := by
 unfold addK addN velK usesK
 rw [List.take_length, if_neg (by intro e; rw [e] at h; cases h)]
theorem any_name {ks : List ByteArray} {k : Nat} (h : k < ks.length) (hb : 40 < (ks.getD k ⟨#[]⟩).size) : ks.any (fun k => decide (40 < k.size)) = true := by
 rw [List.any_eq_true]
 rw [List.getD_eq_getElem?_getD, List.getElem?_eq_getElem h, Option.getD_some] at hb
 exact ⟨_, List.getElem_mem h, decide_eq_true hb⟩
theorem any_none {ks : List ByteArray} (h : ∀ j, j < ks.length → (ks.getD j ⟨#[]⟩).size ≤ 40) : ks.any (fun k => decide (40 < k.size)) = false := by
 rw [List.any_eq_false]
 intro x hx
 obtain ⟨j, hj, rfl⟩ := List.getElem_of_mem hx
 have h1 := h j hj
 rw [List.getD_eq_getElem?_getD, List.getElem?_eq_getElem hj, Option.getD_some] at h1
 simp only [decide_eq_true_eq]
 omega
def recN (d : EngD) (now : Int) (ks : List ByteArray) (k : Nat) : Nat := ks.length + ((d.uses.take k).filter fun u => decide (now - d.hor < u.t)).length
theorem recN_step {d : EngD} {now : Int} {ks : List ByteArray} {k : Nat} (h : k < d.uses.length) : recN d now ks (k + 1) = if now - d.hor < (d.uses.getD k useD).t then recN d now ks k + 1 else recN d now ks k := by
 unfold recN
 rw [use_take2 h, List.filter_append, List.length_append]
 by_cases hc : now - d.hor < (d.uses.getD k useD).t
 · have e : ([d.uses.getD k useD].filter fun u => decide (now - d.hor < u.t)).length = 1 := by rw [List.filter_cons, if_pos (by exact decide_eq_true hc)]; rfl
   rw [if_pos hc, e, Nat.add_assoc]
 · have e : ([d.uses.getD k useD].filter fun u => decide (now - d.hor < u.t)).length = 0 := by rw [List.filter_cons, if_neg (by simpa using hc)]; rfl
   rw [if_neg hc, e, Nat.add_zero]
theorem recN_bd (d : EngD) (now : Int) (ks : List ByteArray) (k : Nat) : recN d now ks k ≤ ks.length + d.uses.length := by
 unfold recN
 have h1 := List.length_filter_le (fun u : UseV => decide (now - d.hor < u.t)) (d.uses.take k)
 have h2 : (d.uses.take k).length ≤ d.uses.length := by rw [List.length_take]; omega
 omega
/-- What add leaves. -/
def FAddP (X V : Nat) (rv tv : Value) (d : EngD) (now : Int) (ks : List ByteArray) (amt : Int) (w : World) (e : Ending) (w' : World) : Prop :=
 e = .returned (.int .i64 (addV d now ks amt).2) ∧ ∃ uv' vv', EngM w' X V uv' vv' rv tv (addV d now ks amt).1 ∧ Chg (EngF w X V) w w'
theorem fadd_err {X V : Nat} {uv vv rv tv : Value} {d : EngD} {now amt : Int} {ks : List ByteArray} {w : World} (h : EngM w X V uv vv rv tv d) (c : Int) (hc : addV d now ks amt = (d, c)) (w' : World) (hE : Ext w w') : FAddP X V rv tv d now ks amt w (.returned (.int .i64 c)) w' := by
 unfold FAddP
 rw [hc]
 exact ⟨rfl, uv, vv, h.ext hE, Chg.ofExt hE⟩
/-- The boxes of add's parameters. -/
structure AddB (w : World) (P4 P5 X : Nat) (now : Int) : Prop where
 b4 : Blk w P4 #[.pointer (some ⟨X, 0, none⟩)] 133
 b5 : Blk w P5 #[.int .i64 now] 3
theorem AddB.ext {w w' : World} {P4 P5 X : Nat} {now : Int} (h : AddB w P4 P5 X now) (k : Ext w w') : AddB w' P4 P5 X now := ⟨h.b4.ext k, h.b5.ext k⟩
theorem AddB.chg {F : Nat → Prop} {w w' : World} {P4 P5 X : Nat} {now : Int} (h : AddB w P4 P5 X now) (k : Chg F w w') (h4 : ¬ F P4) (h5 : ¬ F P5) : AddB w' P4 P5 X now := ⟨h.b4.chg k h4, h.b5.chg k h5⟩
theorem AddB.engF {w w' : World} {P4 P5 X V : Nat} {now : Int} (h : AddB w P4 P5 X now) (k : Chg (EngF w X V) w w') : AddB w' P4 P5 X now := ⟨h.b4.engF k (by decide) (by decide) (by decide) (by decide), h.b5.engF k (by decide) (by decide) (by decide) (by decide)⟩
/-- Behind DeleteFunc. -/
theorem fadd_mid {w4 w5 w6 : World} {X V P4 P5 : Nat} {uv vv rv tv v' : Value} {d : EngD} {now : Int} {us : List UseV} (h4 : EngM w4 X V uv vv rv tv d) (bB : AddB w4 P4 P5 X now) (hE : Ext w4 w5) (hU6 : UsesR 135 w6 V v' us) (hC6 : Chg (fun k => uv.ownBlock = some k) w5 w6) :
 (w6.cell? ⟨P4, 0, none⟩ = some (.pointer (some ⟨X, 0, none⟩)) ∧ w6.cell? ⟨X, 3, none⟩ = some uv ∧ w6.frozen? ⟨X, 3, none⟩ = false ∧ X < w6.heap.size) ∧
 EngM (w6.setCell ⟨X, 3, none⟩ v') X V v' vv rv tv ⟨d.vel, d.hor, d.last, us, d.rules, d.names, d.refer, d.decline⟩ ∧ Chg (EngF w4 X V) w4 (w6.setCell ⟨X, 3, none⟩ v') ∧ AddB (w6.setCell ⟨X, 3, none⟩ v') P4 P5 X now := by
 have h5 := h4.ext hE
 have hN := h5.usesC hC6
 have hb4 := bB.ext hE
 have b6 : AddB w6 P4 P5 X now := hb4.chg hC6 (fun e => h5.u.sepB hb4.b4 (by decide) e) (fun e => h5.u.sepB hb4.b5 (by decide) e)
 have hg : Chg (EngF w4 X V) w4 w6 := EngF.step (EngF.ext (Chg.refl _ _) hE) hC6 (fun i _ e => h5.u.fU e)
 have hs : Chg (EngF w6 X V) w6 (w6.setCell ⟨X, 3, none⟩ v') := ((Chg.refl (fun k => k = X) w6).setCell (p := ⟨X, 3, none⟩) (Or.inl rfl) _).mono (fun i _ e => by rw [e]; exact hN.fX)
 exact ⟨⟨(b6.b4.cell 0).trans rfl, (hN.x.cell 3).trans rfl, hN.x.fz 3, hN.x.lt⟩, hN.setU hU6, EngF.trans hg hs, b6.engF hs⟩
/-- Behind velocity's Add. -/
theorem fadd_vel {wr wx w8 : World} {X V P4 P5 : Nat} {uv vv vv' rv tv : Value} {d : EngD} {now : Int} {vel : VelD} (h : EngM wr X V uv vv rv tv d) (bB : AddB wr P4 P5 X now) (hE : Ext wr wx) (hC : Chg (fun k => k = V ∨ vv.ownBlock = some k) wx w8) (hV : VelM w8 V V vv' vel) :
 EngM w8 X V uv vv' rv tv ⟨vel, d.hor, d.last, d.uses, d.rules, d.names, d.refer, d.decline⟩ ∧ Chg (EngF wr X V) wr w8 ∧ AddB w8 P4 P5 X now := by
 have h2 := h.ext hE
 have hc : Chg (EngF wr X V) wr w8 := EngF.step (EngF.ext (Chg.refl _ _) hE) hC (fun i _ e => by
  rcases e with e | e
  · rw [e]; exact h2.n.fV
  · exact h2.n.fv e)
 exact ⟨h2.velC hC hV, hc, bB.engF hc⟩
/-- Behind the append of a use. -/
theorem fadd_push {w8 w9 : World} {X V P4 P5 gg cap : Nat} {up : Option Addr} {uc : Nat} {vv rv tv : Value} {d : EngD} {now : Int} {u : UseV} {us : List UseV} {C : Array Value} (h : EngM w8 X V (.slice up us.length uc) vv rv tv d) (_hus : d.uses = us) (bB : AddB w8 P4 P5 X now) (hl : us.length < 1000000)
 (hg : (w8.alloc (.cells C 135)).grownBy w9 (Value.ownBlock (.slice up us.length uc))) (hown : w9.ownsRow V 135 3 (.slice (some ⟨gg, 0, none⟩) (us.length + 1) cap) (us.length + 1) (useFlat us ++ useCells u)) :
 (w9.cell? ⟨P4, 0, none⟩ = some (.pointer (some ⟨X, 0, none⟩)) ∧ w9.cell? ⟨P5, 0, none⟩ = some (.int .i64 now) ∧ w9.cell? ⟨X, 3, none⟩ = some (.slice up us.length uc) ∧ w9.frozen? ⟨X, 3, none⟩ = false ∧ X < w9.heap.size) ∧
 EngM (w9.setCell ⟨X, 3, none⟩ (.slice (some ⟨gg, 0, none⟩) (us.length + 1) cap)) X V (.slice (some ⟨gg, 0, none⟩) (us.length + 1) cap) vv rv tv ⟨d.vel, d.hor, d.last, us ++ [u], d.rules, d.names, d.refer, d.decline⟩ ∧ Chg (EngF w8 X V) w8 (w9.setCell ⟨X, 3, none⟩ (.slice (some ⟨gg, 0, none⟩) (us.length + 1) cap)) ∧ AddB (w9.setCell ⟨X, 3, none⟩ (.slice (some ⟨gg, 0, none⟩) (us.length + 1) cap)) P4 P5 X now := by
 have hE : Ext w8 (w8.alloc (.cells C 135)) := (Ext.refl _).alloc _
 have h2 := h.ext hE
 have b2 := bB.ext hE
 have hC : Chg (fun k => Value.ownBlock (.slice up us.length uc) = some k) (w8.alloc (.cells C 135)) w9 := (Chg.ofGrown hg).mono (fun k _ e => e.symm)
 have hN := h2.usesC hC
 have b9 : AddB w9 P4 P5 X now := b2.chg hC (fun e => h2.u.sepB b2.b4 (by decide) e) (fun e => h2.u.sepB b2.b5 (by decide) e)
 have hg9 : Chg (EngF w8 X V) w8 w9 := EngF.step (EngF.ext (Chg.refl _ _) hE) hC (fun i _ e => h2.u.fU e)
 have hs : ∀ v', Chg (EngF w9 X V) w9 (w9.setCell ⟨X, 3, none⟩ v') := fun v' => ((Chg.refl (fun k => k = X) w9).setCell (p := ⟨X, 3, none⟩) (Or.inl rfl) _).mono (fun i _ e => by rw [e]; exact hN.fX)
 exact ⟨⟨(b9.b4.cell 0).trans rfl, (b9.b5.cell 0).trans rfl, (hN.x.cell 3).trans rfl, hN.x.fz 3, hN.x.lt⟩, hN.setU (UsesR.push hl hown), EngF.trans hg9 (hs _), b9.engF (hs _)⟩
theorem not_engF {w : World} {X V b : Nat} {cs : Array Value} {T : TypeId} (h : Blk w b cs T) (h1 : T ≠ 91) (h2 : T ≠ 123) (h3 : T ≠ 182) (h4 : T ≠ 135) : ¬ EngF w X V b := by
 rintro ⟨-, cs', T', z, e, ht⟩
 unfold Blk at h
 rw [h] at e
 injection e with e
 injection e with _ e
 subst e
 rcases ht with ht | ht | ht | ht
 · exact h1 ht
 · exact h2 ht
 · exact h3 ht
 · exact h4 ht
set_option maxRecDepth 8000 in
set_option maxHeartbeats 16000000 in
theorem fadd_any (X V : Nat) (uv vv rv tv : Value) (d : EngD) (now : Int) (kv : Value) (ks : List ByteArray) (amt : Int) (w : World) (h : EngM w X V uv vv rv tv d) (ok : VelOk d.vel) (hh : 1 ≤ d.hor ∧ d.hor ≤ 10000000) (hK : KysM w kv ks) (hKT : StrT w kv) : Calls Tryz.prog 43 #[.pointer (some ⟨X, 0, none⟩), .int .i64 now, kv, .int .i64 amt] w (FAddP X V rv tv d now ks amt w) := by
 have kT := Lib.hid (fun w1 => ftime_any now w1)
 obtain ⟨kp, kc, rfl, hkl, hkc⟩ := hK
 have a2 : w.cell? ⟨X, 2, none⟩ = some (.int .i64 d.last) := (h.x.cell 2).trans rfl
 have lX := h.x.lt
 have hXP := Lib.hid (show X ≠ w.heap.size by omega)
 have hXQ := Lib.hid (show X ≠ w.heap.size + 1 by omega)
 by_cases ht : timeB now = false
 · rw [ht] at kT
   have hV := Lib.hid (addV_time (ks := ks) (amt := amt) (d := d) (Or.inl ht))
   have hend := Lib.hid (fun w' (hE : Ext w w') => fadd_err (rv := rv) (tv := tv) h _ hV.out w' hE)
   skip
   generalize FAddP X V rv tv d now ks amt w = PP at *
   clear ok hKT hh hkc a2 h
   go_enter Tryz.func43, Tryz.ntmps43
   go_wp2_with fail
   go_quiet ((go_at_call 40; exact Calls.quiet_of_same (kT.out _)))
   go_wp2
   try go_ret
   exact hend.out _ xt
 have ht' : timeB now = true := by simpa using ht
 rw [ht'] at kT
 by_cases hl : now < d.last
 · have d2 : decide (now < d.last) = true := decide_eq_true hl
   have hV := Lib.hid (addV_time (ks := ks) (amt := amt) (d := d) (Or.inr hl))
   have hend := Lib.hid (fun w' (hE : Ext w w') => fadd_err (rv := rv) (tv := tv) h _ hV.out w' hE)
   skip
   generalize FAddP X V rv tv d now ks amt w = PP at *
   clear ok hKT hh hkc h ht ht' hl
   go_enter Tryz.func43, Tryz.ntmps43
   go_wp2_with fail
   go_quiet ((go_at_call 40; exact Calls.quiet_of_same (kT.out _)))
   go_wp2
   try go_ret
   exact hend.out _ xt
 have d2 : decide (now < d.last) = false := decide_eq_false hl
 have c1 : ¬ (timeB now = false ∨ now < d.last) := by rintro (h | h); exact ht h; exact hl h
 by_cases h3 : amt < 0
 · have d3 : decide (amt < 0) = true := decide_eq_true h3
   have hV := Lib.hid (addV_amt (ks := ks) (amt := amt) (d := d) c1 (Or.inl h3))
   have hend := Lib.hid (fun w' (hE : Ext w w') => fadd_err (rv := rv) (tv := tv) h _ hV.out w' hE)
   skip
   generalize FAddP X V rv tv d now ks amt w = PP at *
   clear ok hKT hh hkc h ht ht' hl c1 h3
   go_enter Tryz.func43, Tryz.ntmps43
   go_wp2_with fail
   go_quiet ((go_at_call 40; exact Calls.quiet_of_same (kT.out _)))
   go_wp2
   try go_ret
   exact hend.out _ xt
 have d3 : decide (amt < 0) = false := decide_eq_false h3
 by_cases h4 : 999999999999 < amt
 · have d4 : decide (999999999999 < amt) = true := decide_eq_true h4
   have hV := Lib.hid (addV_amt (ks := ks) (amt := amt) (d := d) c1 (Or.inr h4))
   have hend := Lib.hid (fun w' (hE : Ext w w') => fadd_err (rv := rv) (tv := tv) h _ hV.out w' hE)
   skip
   generalize FAddP X V rv tv d now ks amt w = PP at *
   clear ok hKT hh hkc h ht ht' hl c1 h3 h4
   go_enter Tryz.func43, Tryz.ntmps43
   go_wp2_with fail
   go_quiet ((go_at_call 40; exact Calls.quiet_of_same (kT.out _)))
   go_wp2
   try go_ret
   exact hend.out _ xt
 have d4 : decide (999999999999 < amt) = false := decide_eq_false h4
 have c2 : ¬ (amt < 0 ∨ 999999999999 < amt) := by omega
 have hnm := Lib.hid (fun k (hk : k < ks.length) (hb : 40 < (ks.getD k ⟨#[]⟩).size) w' (hE : Ext w w') => fadd_err (rv := rv) (tv := tv) h _ (addV_name c1 c2 (any_name hk hb)) w' hE)
 have hfl := Lib.hid (fun (hn : ks.any (fun k => decide (40 < k.size)) = false) (hf : 1000 < recN d now ks d.uses.length) w' (hE : Ext w w') => fadd_err (rv := rv) (tv := tv) h _ (addV_full c1 c2 hn (by unfold recN at hf; rw [List.take_length] at hf; exact hf)) w' hE)
 have hfin := Lib.hid (fun (hn : ks.any (fun k => decide (40 < k.size)) = false) (hf : ¬ 1000 < recN d now ks d.uses.length) e w' (hP : e = .returned (.int .i64 0) ∧ ∃ uv' vv', EngM w' X V uv' vv' rv tv (addN d now ks amt) ∧ Chg (EngF w X V) w w') => show FAddP X V rv tv d now ks amt w e w' from by
  unfold FAddP
  rw [addV_ok c1 c2 hn (by unfold recN at hf; rw [List.take_length] at hf; exact hf)]
  exact hP)
 generalize FAddP X V rv tv d now ks amt w = PP at *
 replace h := Lib.hid h
 replace ok := Lib.hid ok
 replace hkc := Lib.hid hkc
 replace hKT := Lib.hid hKT
 obtain ⟨i0, hI, hz0, hz1, hz2⟩ := info_partsE infoFuE
 replace hI := Lib.hid hI
 replace hz0 := Lib.hid hz0
 replace hz1 := Lib.hid hz1
 replace hz2 := Lib.hid hz2
 obtain ⟨n0, n1⟩ := (timeB_iff now).1 ht'
 have e1 : wrap64 (now - d.hor) = now - d.hor := by unfold wrap64; omega
 clear ht hl h3 h4 c1 c2
 go_enter Tryz.func43, Tryz.ntmps43
 go_wp2_with fail
 go_quiet ((go_at_call 40; exact Calls.quiet_of_same (kT.out _)))
 clear kT
 have hE1 : Ext w (((w.alloc (.cells #[.pointer (some ⟨X, 0, none⟩)] 133)).alloc (.cells #[.int .i64 now] 3)).drewN nq) := xt
 have bB : AddB (((w.alloc (.cells #[.pointer (some ⟨X, 0, none⟩)] 133)).alloc (.cells #[.int .i64 now] 3)).drewN nq) w.heap.size (w.heap.size + 1) X now := AddB.ext ⟨(Blk.new w _ _).alloc _, Blk.new' _ _ _ _ (by simp)⟩ (show Ext ((w.alloc (.cells #[.pointer (some ⟨X, 0, none⟩)] 133)).alloc (.cells #[.int .i64 now] 3)) (((w.alloc (.cells #[.pointer (some ⟨X, 0, none⟩)] 133)).alloc (.cells #[.int .i64 now] 3)).drewN nq) from xt)
 generalize (((w.alloc (.cells #[.pointer (some ⟨X, 0, none⟩)] 133)).alloc (.cells #[.int .i64 now] 3)).drewN nq) = w1 at *
 replace bB := Lib.hid bB
 replace hE1 := Lib.hid hE1
 go_wp2_with fail
 clear d2 d3 d4 a2
 go_loopw [35] (fun i wr => ∃ k : Nat, k ≤ ks.length ∧ i = .int .i64 k ∧ Hid (∀ j, j < k → (ks.getD j ⟨#[]⟩).size ≤ 40) ∧ Ext w1 wr) (fun i _ => ks.length - (intOf i).toNat)
 case atStart => exact ⟨0, Nat.zero_le _, rfl, Lib.hid (fun j hj => absurd hj (by omega)), Ext.refl _⟩
 case round =>
  obtain ⟨k, hk, rfl, hall, hE2⟩ := hrel
  by_cases hlt : k < ks.length
  · obtain ⟨b, off, rfl, hce⟩ := hkc.out (by omega)
    have c0 := hE2.get (hE1.out.get (hce k hlt))
    have hx := Lib.hid (hnm.out k hlt)
    have hnx := Lib.hid (fun (hs : (ks.getD k ⟨#[]⟩).size ≤ 40) j (hj : j < k + 1) => show (ks.getD j ⟨#[]⟩).size ≤ 40 by
     by_cases e : j = k
     · rw [e]; exact hs
     · exact hall.out j (by omega))
    clear hce hall hnm hfl hfin
    generalize ks.getD k ⟨#[]⟩ = nm at *
    by_cases hb : 40 < nm.size
    · have q1 : decide (40 < (nm.size : Int)) = true := decide_eq_true (by omega)
      have hx2 := Lib.hid (fun w' hE => hx.out hb w' hE)
      have hE9 := hE1.out.trans hE2
      clear hx hnx hb
      go_wp2
      try go_ret
      exact hx2.out _ xt
    · have q1 : decide (40 < (nm.size : Int)) = false := decide_eq_false (by omega)
      have hx2 := Lib.hid (hnx.out (by omega))
      clear hx hnx hb
      go_wp2
      go_roundw
      case rel => exact ⟨k + 1, by omega, by go_num, hx2, xt⟩
      case measure => simp [intOf]; omega
  · obtain rfl : k = ks.length := by omega
    rename World => w2
    have hn := Lib.hid (any_none hall.out)
    have hEa := Lib.hid (hE1.out.trans hE2)
    replace bB := Lib.hid (bB.out.ext hE2)
    obtain ⟨up, uc, rfl⟩ := h.out.u.form
    have y4 : w2.cell? ⟨w.heap.size, 0, none⟩ = some (.pointer (some ⟨X, 0, none⟩)) := (bB.out.b4.cell 0).trans rfl
    have y5 : w2.cell? ⟨w.heap.size + 1, 0, none⟩ = some (.int .i64 now) := (bB.out.b5.cell 0).trans rfl
    have hx := h.out.x.ext hEa.out
    have x1 : w2.cell? ⟨X, 1, none⟩ = some (.int .i64 d.hor) := (hx.cell 1).trans rfl
    have x2 : w2.cell? ⟨X, 2, none⟩ = some (.int .i64 d.last) := (hx.cell 2).trans rfl
    have x3 : w2.cell? ⟨X, 3, none⟩ = some (.slice up d.uses.length uc) := (hx.cell 3).trans rfl
    have l4 := bB.out.b4.lt
    have l5 := bB.out.b5.lt
    have lX2 := hx.lt
    have hll := h.out.u.1
    clear hx hnm hall hE1 hE2 hk hlt lX
    go_wp2_with fail
    go_loopw [11, 50] (fun a i wr => ∃ k : Nat, k ≤ d.uses.length ∧ a = .int .i64 (recN d now ks k) ∧ i = .int .i64 k ∧ Ext w2 wr) (fun _ i _ => d.uses.length - (intOf i).toNat)
    case atStart => exact ⟨0, Nat.zero_le _, by simp [recN], rfl, Ext.refl _⟩
    case round =>
     obtain ⟨k, hk, rfl, rfl, hE2⟩ := hrel
     have hrb := recN_bd d now ks k
     by_cases hlt : k < d.uses.length
     · rcases h.out.u.lie with ⟨-, hnil⟩ | ⟨g, cap, hv, -, -, -, hc⟩
       · rw [hnil] at hlt; cases hlt
       injection hv with hp1 hp2 hp3
       subst hp1 hp3
       obtain ⟨u0, u1, u2⟩ := hc k hlt
       replace u0 := hE2.get (hEa.out.get u0)
       replace u1 := hE2.get (hEa.out.get u1)
       replace u2 := hE2.get (hEa.out.get u2)
       replace y4 := hE2.get y4
       replace y5 := hE2.get y5
       replace x1 := hE2.get x1
       have l4 : w.heap.size < wr.heap.size := by have := hE2.size; omega
       have l5 : w.heap.size + 1 < wr.heap.size := by have := hE2.size; omega
       have lX2 : X < wr.heap.size := by have := hE2.size; omega
       have hst := Lib.hid (recN_step (ks := ks) (now := now) hlt)
       clear hc hfl hfin x2 x3
       generalize recN d now ks k = R at *
       generalize d.uses.getD k useD = u at *
       by_cases g1 : now - d.hor < u.t
       · have q1 : decide (now - d.hor < u.t) = true := decide_eq_true g1
         rw [if_pos g1] at hst
         clear g1
         go_wp2_with fail
         go_quiet (fail)
         go_wp2
         go_roundw
         case rel => exact ⟨k + 1, by omega, by rw [hst.out]; go_num, by go_num, xt⟩
         case measure => simp [intOf]; omega
       · have q1 : decide (now - d.hor < u.t) = false := decide_eq_false g1
         rw [if_neg g1] at hst
         clear g1
         go_wp2_with fail
         go_quiet (fail)
         go_wp2
         go_roundw
         case rel => exact ⟨k + 1, by omega, by rw [hst.out], by go_num, xt⟩
         case measure => simp [intOf]; omega
     · obtain rfl : k = d.uses.length := by omega
       rename World => w3
       replace hEa := Lib.hid (hEa.out.trans hE2)
       replace bB := Lib.hid (bB.out.ext hE2)
       replace y4 := hE2.get y4
       replace y5 := hE2.get y5
       have h3 := Lib.hid (h.out.ext hEa.out)
       have x2 : w3.cell? ⟨X, 2, none⟩ = some (.int .i64 d.last) := (h3.out.x.cell 2).trans rfl
       have x3 : w3.cell? ⟨X, 3, none⟩ = some (.slice up d.uses.length uc) := (h3.out.x.cell 3).trans rfl
       have f2 : w3.frozen? ⟨X, 2, none⟩ = false := h3.out.x.fz 2
       have l4 := bB.out.b4.lt
       have l5 := bB.out.b5.lt
       have lX2 := h3.out.x.lt
       clear hk hlt hE2 x1 e1
       by_cases hf : 1000 < recN d now ks d.uses.length
       · have q1 : decide (1000 < ((recN d now ks d.uses.length : Nat) : Int)) = true := decide_eq_true (by omega)
         have hx2 := Lib.hid (fun w' hE => hfl.out hn.out hf w' hE)
         generalize recN d now ks d.uses.length = R at *
         clear hfl hfin hf
         replace hEa := hEa.out
         go_wp2
         try go_ret
         exact hx2.out _ xt
       · have q1 : decide (1000 < ((recN d now ks d.uses.length : Nat) : Int)) = false := decide_eq_false (by omega)
         have hx2 := Lib.hid (fun e w' hE => hfin.out hn.out hf e w' hE)
         have hfk : Hid (ks.length + (usesK d now amt ks 0).length ≤ 1000) := Lib.hid (by unfold usesK; unfold recN at hf; rw [List.take_length] at hf; simpa using hf)
         generalize recN d now ks d.uses.length = R at *
         clear hfl hfin hf
         by_cases hk0 : ks.length = 0
         · have hx3 := Lib.hid (hx2.out (.returned (.int .i64 0)) (w3.setCell ⟨X, 2, none⟩ (.int .i64 now)) ⟨rfl, _, _, by unfold addN; rw [if_pos (List.length_eq_zero_iff.1 hk0)]; exact h3.out.setL now, EngF.step (EngF.pre hEa.out (Chg.refl _ _)) ((Chg.refl (fun k => k = X) w3).setCell (p := ⟨X, 2, none⟩) (Or.inl rfl) _) (fun i _ e => by rw [e]; exact h3.out.n.fX)⟩)
           have q2 : ((ks.length : Int) == 0) = true := by rw [hk0]; rfl
           clear hx2 hk0 hrb
           go_wp2
           try go_ret
           exact hx3.out
         · have q2 : ((ks.length : Int) == 0) = false := by rw [bool_decN]; exact decide_eq_false (by omega)
           have h4 := h3.out.setL now
           have hs3 : Chg (EngF w3 X V) w3 (w3.setCell ⟨X, 2, none⟩ (.int .i64 now)) := ((Chg.refl (fun k => k = X) w3).setCell (p := ⟨X, 2, none⟩) (Or.inl rfl) _).mono (fun i _ e => by rw [e]; exact h3.out.n.fX)
           have bB4 := bB.out.engF hs3
           have hg4 := Lib.hid (EngF.pre hEa.out hs3)
           go_wp2_with fail
           clear x2 x3 y4 y5 f2 l4 l5 lX2 bB h3 hEa hs3
           generalize w3.setCell ⟨X, 2, none⟩ (.int .i64 now) = w4 at *
           have y4 : w4.cell? ⟨w.heap.size, 0, none⟩ = some (.pointer (some ⟨X, 0, none⟩)) := (bB4.b4.cell 0).trans rfl
           have y5 : w4.cell? ⟨w.heap.size + 1, 0, none⟩ = some (.int .i64 now) := (bB4.b5.cell 0).trans rfl
           have x3 : w4.cell? ⟨X, 3, none⟩ = some (.slice up d.uses.length uc) := (h4.x.cell 3).trans rfl
           have kD := Lib.hid (fun w5 (hE : Ext w4 w5) => deleteFunc_any (w.heap.size + 1) w.heap.size X V now d.hor _ d.uses w5 (h4.u.ext hE) ⟨hE.get y5, hE.get y4, hE.get ((h4.x.cell 1).trans rfl)⟩ ht' hh ((h4.ext hE).u.sepB (bB4.ext hE).b5 (by decide)) ((h4.ext hE).u.sepB (bB4.ext hE).b4 (by decide)) ((h4.ext hE).u.sepB (h4.ext hE).x (by decide)))
           have hmf : ∀ (fn : Fn) (first cap : Array Value) (w : World), (Instr.makeFunc fn first cap).run Tryz.prog w = .ok (.func fn first cap) w := fun _ _ _ _ => rfl
           replace h4 := Lib.hid h4
           replace bB4 := Lib.hid bB4
           clear y5 hrb hll
           refine wp_region_held_drew (S := fun w' => w'.cell? ⟨w.heap.size, 0, none⟩ = some (.pointer (some ⟨X, 0, none⟩))) (by kernel_rfl) y4 (fun hH => ?_)
           have hE5 : Ext w4 w4.drew := xt
           replace h4 := Lib.hid (h4.out.ext hE5)
           replace bB4 := Lib.hid (bB4.out.ext hE5)
           replace hg4 := Lib.hid (EngF.ext hg4.out hE5)
           replace kD := Lib.hid (kD.out _ hE5)
           replace x3 := hE5.get x3
           clear y4 hE5
           generalize w4.drew = w5 at *
           have y4 : w5.cell? ⟨w.heap.size, 0, none⟩ = some (.pointer (some ⟨X, 0, none⟩)) := hH
           have lX5 := h4.out.x.lt
           refine wpAnyH_take (i := 0) (v := .pointer (some ⟨X, 0, none⟩)) rfl (by kernel_rfl) (by kernel_rfl) (by kernel_rfl) (fun _ _ _ h => h) (Or.inl ⟨by rfl, fun wS hS => by ((have y : wS.cell? ⟨w.heap.size, 0, none⟩ = some (.pointer (some ⟨X, 0, none⟩)) := hS); first | (go_simp; done) | (go_simp; with_reducible rfl) | rfl)⟩) hH ?_
           try simp only [Act.put, List.setIfInBounds_toArray]
           refine wpAnyH_take (i := 1) (v := .pointer (some ⟨X, 0, none⟩)) rfl (by kernel_rfl) (by kernel_rfl) (by kernel_rfl) (fun _ _ _ h => h) (Or.inl ⟨by rfl, fun wS hS => by ((have y : wS.cell? ⟨w.heap.size, 0, none⟩ = some (.pointer (some ⟨X, 0, none⟩)) := hS); first | (go_simp; done) | (go_simp; with_reducible rfl) | rfl)⟩) hH ?_
           try simp only [Act.put]
           refine wpAnyH_take (i := 2) (v := .pointer (some ⟨X, 0, none⟩)) rfl (by kernel_rfl) (by kernel_rfl) (by kernel_rfl) (fun _ _ _ h => h) (Or.inl ⟨by rfl, fun wS hS => by (skip; first | (go_simp; done) | (go_simp; with_reducible rfl) | rfl)⟩) hH ?_
           try simp only [Act.put]
           refine wpAnyH_take (i := 3) (v := .pointer (some ⟨X, 3, none⟩)) rfl (by kernel_rfl) (by kernel_rfl) (by kernel_rfl) (fun _ _ _ h => h) (Or.inl ⟨by rfl, fun wS hS => by (skip; first | (go_simp; done) | (go_simp; with_reducible rfl) | rfl)⟩) hH ?_
           try simp only [Act.put]
           refine wpAnyH_take (i := 5) (v := .func (.func 65) #[] #[.pointer (some ⟨w.heap.size + 1, 0, none⟩), .pointer (some ⟨w.heap.size, 0, none⟩)]) rfl (by kernel_rfl) (by kernel_rfl) (by kernel_rfl) (fun _ _ _ h => h) (Or.inl ⟨by rfl, fun wS hS => by (skip; first | (go_simp; done) | (go_simp; with_reducible rfl) | rfl)⟩) hH ?_
           try simp only [Act.put]
           refine wpAnyH_ready (rs := [4]) (by kernel_rfl) (by simp) (AllReadyH.cons rfl (fun K hK => ?_) AllReadyH.nil)
           go_simp
           refine hK.out _ _ y4 (fun hH => ?_)
           clear hK K
           try simp only [Act.put, List.setIfInBounds_toArray, List.set_cons_zero, List.set_cons_succ]
           refine wpAnyH_ready (rs := [6]) (by kernel_rfl) (by simp) (AllReadyH.cons rfl (fun K hK => ?_) AllReadyH.nil)
           go_simp
           refine kD.out.mono ?_
           rintro e w6 ⟨v', rfl, hU6, hC6, ho6⟩
           generalize hus : List.filter (keepB now d.hor) d.uses = us at *
           replace hus := Lib.hid hus
           obtain ⟨vp, vc, rfl⟩ := hU6.form
           have hQ := Lib.hid (fadd_mid h4.out bB4.out (Ext.refl _) hU6 hC6)
           have y4 := hQ.out.1.1
           have x3 := hQ.out.1.2.1
           have f3 := hQ.out.1.2.2.1
           have lX6 := hQ.out.1.2.2.2
           clear hU6 hC6
           try go_wp2_with fail
           refine hK.out _ _ y4 (fun hH => ?_)
           clear hK K
           try simp only [Act.put, List.setIfInBounds_toArray, List.set_cons_zero, List.set_cons_succ]
           refine wpAnyH_take (i := 7) (v := .pointer (some ⟨X, 0, none⟩)) rfl (by kernel_rfl) (by kernel_rfl) (by kernel_rfl) (fun _ _ _ h => h) (Or.inl ⟨by rfl, fun wS hS => by (skip; first | (go_simp; done) | (go_simp; with_reducible rfl) | rfl)⟩) hH ?_
           try simp only [Act.put, List.setIfInBounds_toArray]
           refine wpAnyH_take (i := 8) (v := .pointer (some ⟨X, 3, none⟩)) rfl (by kernel_rfl) (by kernel_rfl) (by kernel_rfl) (fun _ _ _ h => h) (Or.inl ⟨by rfl, fun wS hS => by (skip; first | (go_simp; done) | (go_simp; with_reducible rfl) | rfl)⟩) hH ?_
           try simp only [Act.put]
           refine wpAnyH_ready (rs := [9]) (by kernel_rfl) (by simp) (AllReadyH.cons rfl (fun K hK => ?_) AllReadyH.nil)
           go_simp
           refine hK.out _ _ ((World.cell?_setCell_far _ ⟨X, 3, none⟩ _ _ hXP.out).trans y4) (fun hH => ?_)
           clear hK K
           try simp only [Act.put, List.setIfInBounds_toArray, List.set_cons_zero, List.set_cons_succ]
           refine wpAnyH_done (by kernel_rfl) ?_ _
           obtain ⟨h7, hc7, bB7⟩ := hQ.out.2
           have hg7 := EngF.trans hg4.out hc7
           have he0 : addK d now amt ks 0 = ⟨d.vel, d.hor, now, us, d.rules, d.names, d.refer, d.decline⟩ := by
            unfold addK velK usesK
            rw [← keep_eq, hus.out]
            simp
           have h70 : EngM (w6.setCell ⟨X, 3, none⟩ (.slice vp us.length vc)) X V (.slice vp us.length vc) vv rv tv (addK d now amt ks 0) := by rw [he0]; exact h7
           replace h70 := Lib.hid h70
           replace hg7 := Lib.hid hg7
           replace bB7 := Lib.hid bB7
           clear hQ y4 x3 f3 lX6 hc7 h7 h4 bB4 hg4 kD hH lX5 ho6 he0 hmf
           generalize w6.setCell ⟨X, 3, none⟩ (.slice vp us.length vc) = w7 at *
           go_wp2_with fail
           go_loopw [86] (fun i wr => ∃ k : Nat, k ≤ ks.length ∧ i = .int .i64 k ∧ ∃ uv vv, EngM wr X V uv vv rv tv (addK d now amt ks k) ∧ Chg (EngF w X V) w wr ∧ AddB wr w.heap.size (w.heap.size + 1) X now) (fun i _ => ks.length - (intOf i).toNat)
           case atStart => exact ⟨0, Nat.zero_le _, rfl, _, _, h70.out, hg7.out, bB7.out⟩
           case round =>
            obtain ⟨k, hk, rfl, uv, vv2, hm, hg, bBr⟩ := hrel
            clear h70 hg7 bB7 h
            by_cases hlt : k < ks.length
            · obtain ⟨b, off, rfl, hce⟩ := hkc.out (by omega)
              obtain ⟨kcs, hkb⟩ := hKT.out b rfl
              have c0 := hg.cell (not_engF hkb (by decide) (by decide) (by decide) (by decide)) (hce k hlt)
              have hst1 := Lib.hid (velK_step (d := d) (now := now) (amt := amt) hlt)
              have hst2 := Lib.hid (usesK_step (d := d) (now := now) (amt := amt) hlt)
              obtain ⟨vok, vhor⟩ := velK_ok now amt ks ok.out k
              have hul : (usesK d now amt ks k).length ≤ 1000 := by
               have := hfk.out
               unfold usesK at *
               simp only [List.length_append, List.length_map, List.length_take, List.take_zero, List.map_nil, List.append_nil] at *
               omega
              have hsl := Lib.hid (fun k' => show addK d now amt ks k' = ⟨velK d now amt ks k', d.hor, now, usesK d now amt ks k', d.rules, d.names, d.refer, d.decline⟩ from rfl)
              rw [hsl.out k] at hm
              clear hce hkb hx2 hfk
              generalize ks.getD k ⟨#[]⟩ = nm at *
              generalize velK d now amt ks k = VK at *
              generalize usesK d now amt ks k = UK at *
              have y4 : wr.cell? ⟨w.heap.size, 0, none⟩ = some (.pointer (some ⟨X, 0, none⟩)) := (bBr.b4.cell 0).trans rfl
              have y5 : wr.cell? ⟨w.heap.size + 1, 0, none⟩ = some (.int .i64 now) := (bBr.b5.cell 0).trans rfl
              have x0 : wr.cell? ⟨X, 0, none⟩ = some (.pointer (some ⟨V, 0, none⟩)) := (hm.x.cell 0).trans rfl
              have lVr := hm.v.1.lt
              have kA := Lib.hid (fun wx (hE : Ext wr wx) => velAdd_any V V vv2 VK ⟨nm, now, amt⟩ wx (hm.v.ext hE) vok.hor (Nat.le_of_lt (hm.v.ext hE).1.lt) vok.few)
              replace hm := Lib.hid hm
              replace bBr := Lib.hid bBr
              replace hg := Lib.hid hg
              clear vok vhor lVr
              go_wp2_with fail
              go_region_held3 (fun w' => w'.cell? ⟨w.heap.size, 0, none⟩ = some (.pointer (some ⟨X, 0, none⟩)) ∧ w'.cell? ⟨w.heap.size + 1, 0, none⟩ = some (.int .i64 now) ∧ w'.cell? ⟨X, 0, none⟩ = some (.pointer (some ⟨V, 0, none⟩))) (first | exact ⟨y4, y5, x0⟩) ((go_at_call 66; refine (kA.out _ (by first | exact Ext.refl _ | exact (Ext.refl _).drew)).mono ?_; rintro e w8 ⟨rfl, vv3, hV8, hC8, -⟩; have hQ := Lib.hid (fadd_vel hm.out bBr.out (by first | exact Ext.refl _ | exact (Ext.refl _).drew) hC8 hV8); have y4 : w8.cell? ⟨w.heap.size, 0, none⟩ = some (.pointer (some ⟨X, 0, none⟩)) := (hQ.out.2.2.b4.cell 0).trans rfl; have y5 : w8.cell? ⟨w.heap.size + 1, 0, none⟩ = some (.int .i64 now) := (hQ.out.2.2.b5.cell 0).trans rfl; have x0 : w8.cell? ⟨X, 0, none⟩ = some (.pointer (some ⟨V, 0, none⟩)) := (hQ.out.1.x.cell 0).trans rfl; clear hV8 hC8))
              obtain ⟨hm8, hg8, bB8⟩ := hQ.out
              rw [← hst1.out] at hm8
              replace hg := Lib.hid (EngF.trans hg.out hg8)
              clear hQ hg8 hm bBr kA x0 y4 y5 hst1
              obtain ⟨VK2, hvk⟩ : ∃ v, velK d now amt ks (k + 1) = v := ⟨_, rfl⟩
              rw [hvk] at hm8
              replace hvk := Lib.hid hvk
              obtain ⟨up, uc, rfl⟩ := hm8.u.form
              have y4 : w8.cell? ⟨w.heap.size, 0, none⟩ = some (.pointer (some ⟨X, 0, none⟩)) := (bB8.b4.cell 0).trans rfl
              have y5 : w8.cell? ⟨w.heap.size + 1, 0, none⟩ = some (.int .i64 now) := (bB8.b5.cell 0).trans rfl
              go_wp2_with fail
              refine wp_region_held_drew (S := fun w' => w'.cell? ⟨w.heap.size, 0, none⟩ = some (.pointer (some ⟨X, 0, none⟩)) ∧ w'.cell? ⟨w.heap.size + 1, 0, none⟩ = some (.int .i64 now)) (by kernel_rfl) ⟨y4, y5⟩ (fun hH => ?_)
              have hE5 : Ext w8 w8.drew := xt
              replace hm8 := Lib.hid (hm8.ext hE5)
              replace bB8 := Lib.hid (bB8.ext hE5)
              replace hg := Lib.hid (EngF.ext hg.out hE5)
              clear y4 y5 hE5
              generalize w8.drew = w9 at *
              have y4 : w9.cell? ⟨w.heap.size, 0, none⟩ = some (.pointer (some ⟨X, 0, none⟩)) := hH.1
              have y5 : w9.cell? ⟨w.heap.size + 1, 0, none⟩ = some (.int .i64 now) := hH.2
              have x3 : w9.cell? ⟨X, 3, none⟩ = some (.slice up UK.length uc) := (hm8.out.x.cell 3).trans rfl
              have lX9 := hm8.out.x.lt
              have l49 := bB8.out.b4.lt
              have l59 := bB8.out.b5.lt
              have hrowU := Lib.hid hm8.out.u.2
              have lV9 := hm8.out.v.1.lt
              refine wpAnyH_take (i := 0) (v := .pointer (some ⟨X, 0, none⟩)) rfl (by kernel_rfl) (by kernel_rfl) (by kernel_rfl) (fun _ _ _ h => h) (Or.inl ⟨by rfl, fun wS hS => by ((have y : wS.cell? ⟨w.heap.size, 0, none⟩ = some (.pointer (some ⟨X, 0, none⟩)) := hS.1); first | (go_simp; done) | (go_simp; with_reducible rfl) | rfl)⟩) hH ?_
              try simp only [Act.put, List.setIfInBounds_toArray]
              refine wpAnyH_take (i := 1) (v := .pointer (some ⟨X, 0, none⟩)) rfl (by kernel_rfl) (by kernel_rfl) (by kernel_rfl) (fun _ _ _ h => h) (Or.inl ⟨by rfl, fun wS hS => by ((have y : wS.cell? ⟨w.heap.size, 0, none⟩ = some (.pointer (some ⟨X, 0, none⟩)) := hS.1); first | (go_simp; done) | (go_simp; with_reducible rfl) | rfl)⟩) hH ?_
              try simp only [Act.put]
              refine wpAnyH_take (i := 2) (v := .pointer (some ⟨X, 0, none⟩)) rfl (by kernel_rfl) (by kernel_rfl) (by kernel_rfl) (fun _ _ _ h => h) (Or.inl ⟨by rfl, fun wS hS => by (skip; first | (go_simp; done) | (go_simp; with_reducible rfl) | rfl)⟩) hH ?_
              try simp only [Act.put]
              refine wpAnyH_take (i := 3) (v := .pointer (some ⟨X, 3, none⟩)) rfl (by kernel_rfl) (by kernel_rfl) (by kernel_rfl) (fun _ _ _ h => h) (Or.inl ⟨by rfl, fun wS hS => by (skip; first | (go_simp; done) | (go_simp; with_reducible rfl) | rfl)⟩) hH ?_
              try simp only [Act.put]
              refine wpAnyH_take (i := 5) (v := .string nm) rfl (by kernel_rfl) (by kernel_rfl) (by kernel_rfl) (fun _ _ _ h => h) (Or.inl ⟨by rfl, fun wS hS => by (skip; first | (go_simp; done) | (go_simp; with_reducible rfl) | rfl)⟩) hH ?_
              try simp only [Act.put]
              refine wpAnyH_take (i := 6) (v := .int .i64 now) rfl (by kernel_rfl) (by kernel_rfl) (by kernel_rfl) (fun _ _ _ h => h) (Or.inl ⟨by rfl, fun wS hS => by ((have y : wS.cell? ⟨w.heap.size + 1, 0, none⟩ = some (.int .i64 now) := hS.2); first | (go_simp; done) | (go_simp; with_reducible rfl) | rfl)⟩) hH ?_
              try simp only [Act.put]
              refine wpAnyH_take (i := 7) (v := .int .i64 amt) rfl (by kernel_rfl) (by kernel_rfl) (by kernel_rfl) (fun _ _ _ h => h) (Or.inl ⟨by rfl, fun wS hS => by (skip; first | (go_simp; done) | (go_simp; with_reducible rfl) | rfl)⟩) hH ?_
              try simp only [Act.put]
              refine wpAnyH_take (i := 8) (v := .agg #[.string nm, .int .i64 now, .int .i64 amt]) rfl (by kernel_rfl) (by kernel_rfl) (by kernel_rfl) (fun _ _ _ h => h) (Or.inl ⟨by rfl, fun wS hS => by (skip; first | (go_simp; done) | (go_simp; with_reducible rfl) | rfl)⟩) hH ?_
              try simp only [Act.put]
              refine wpAnyH_ready (rs := [4, 9]) (by kernel_rfl) (by simp) (AllReadyH.cons rfl (fun K hK => ?_) (AllReadyH.cons rfl (fun K hK => ?_) AllReadyH.nil))
              · go_simp
                refine hK.out _ _ ⟨y4, y5⟩ (fun hH => ?_)
                clear hK K
                try simp only [Act.put, List.setIfInBounds_toArray, List.set_cons_zero, List.set_cons_succ]
                refine wpAnyH_ready (rs := [9]) (by kernel_rfl) (by simp) (AllReadyH.cons rfl (fun K hK => ?_) AllReadyH.nil)
                go_simp
                refine hK.out _ _ ⟨(((Ext.refl _).alloc _).get y4), (((Ext.refl _).alloc _).get y5)⟩ (fun hH => ?_)
                clear hK K
                try simp only [Act.put, List.setIfInBounds_toArray, List.set_cons_zero, List.set_cons_succ]
                clear y4 y5
                have y4 := hH.1
                have y5 := hH.2
                refine wpAnyH_ready (rs := [10]) (by kernel_rfl) (by simp) (AllReadyH.cons rfl (fun K hK => ?_) AllReadyH.nil)
                refine step_append_lies _ (by rfl) _ _ _ (by rfl) V 135 i0 (.agg #[.string ⟨#[]⟩, .int .i64 0, .int .i64 0]) 3 32 Tryz.underlying87 hI.out hz0.out hz1.out hz2.out rfl (by omega) (.slice up UK.length uc) UK.length (useFlat UK) (by rfl) (ownsRow_extE hrowU.out ((Ext.refl _).alloc _)) ⟨w9.heap.size, 0, none⟩ 1 1 (useCells ⟨nm, now, amt⟩) (by rfl) (by rfl) (World.news_of_block (Blk.new' w9 #[.string nm, .int .i64 now, .int .i64 amt] 135 _ (by simp))) (use_one _) (by omega) (by unfold maxLen; omega) (by omega) (by simp; omega) (w9.heap.size + 1) (by simp) ?_
                intro gg cap w10 hown10 hgrow10 hat10 hgl10
                have hP := Lib.hid (fadd_push (u := ⟨nm, now, amt⟩) hm8.out rfl bB8.out (by omega) hgrow10 hown10)
                clear hown10 hgrow10 hat10 hgl10 x3 y4 y5 lX9 l49 l59 lV9 hrowU
                have y4 := hP.out.1.1
                have y5 := hP.out.1.2.1
                have x3 := hP.out.1.2.2.1
                have f3 := hP.out.1.2.2.2.1
                have lX10 := hP.out.1.2.2.2.2
                refine hK.out _ _ ⟨y4, y5⟩ (fun hH => ?_)
                clear hK K
                try simp only [Act.put, List.setIfInBounds_toArray]
                refine wpAnyH_take (i := 11) (v := .pointer (some ⟨X, 0, none⟩)) rfl (by kernel_rfl) (by kernel_rfl) (by kernel_rfl) (fun _ _ _ h => h) (Or.inl ⟨by rfl, fun wS hS => by (skip; first | (go_simp; done) | (go_simp; with_reducible rfl) | rfl)⟩) hH ?_
                try simp only [Act.put]
                refine wpAnyH_take (i := 12) (v := .pointer (some ⟨X, 3, none⟩)) rfl (by kernel_rfl) (by kernel_rfl) (by kernel_rfl) (fun _ _ _ h => h) (Or.inl ⟨by rfl, fun wS hS => by (skip; first | (go_simp; done) | (go_simp; with_reducible rfl) | rfl)⟩) hH ?_
                try simp only [Act.put]
                refine wpAnyH_ready (rs := [13]) (by kernel_rfl) (by simp) (AllReadyH.cons rfl (fun K hK => ?_) AllReadyH.nil)
                go_simp
                refine hK.out _ _ ⟨(World.cell?_setCell_far _ ⟨X, 3, none⟩ _ _ hXP.out).trans y4, (World.cell?_setCell_far _ ⟨X, 3, none⟩ _ _ hXQ.out).trans y5⟩ (fun hH => ?_)
                clear hK K
                try simp only [Act.put, List.setIfInBounds_toArray, List.set_cons_zero, List.set_cons_succ]
                refine wpAnyH_done (by kernel_rfl) ?_ _
                obtain ⟨hmE, hgE, bBE⟩ := hP.out.2
                clear hP y4 y5 x3 f3 lX10 hH
                replace hmE := Lib.hid hmE
                replace hgE := Lib.hid (EngF.trans hg.out hgE)
                replace bBE := Lib.hid bBE
                generalize w10.setCell ⟨X, 3, none⟩ (.slice (some ⟨gg, 0, none⟩) (UK.length + 1) cap) = w11 at *
                go_wp2
                go_roundw
                case rel => exact ⟨k + 1, by omega, by go_num, _, _, by rw [hsl.out, hst2.out, hvk.out]; exact hmE.out, hgE.out, bBE.out⟩
                case measure => simp [intOf]; omega
              · go_simp
                refine hK.out _ _ ⟨(((Ext.refl _).alloc _).get y4), (((Ext.refl _).alloc _).get y5)⟩ (fun hH => ?_)
                clear hK K
                try simp only [Act.put, List.setIfInBounds_toArray, List.set_cons_zero, List.set_cons_succ]
                refine wpAnyH_ready (rs := [4]) (by kernel_rfl) (by simp) (AllReadyH.cons rfl (fun K hK => ?_) AllReadyH.nil)
                go_simp
                refine hK.out _ _ ⟨(((Ext.refl _).alloc _).get y4), (((Ext.refl _).alloc _).get y5)⟩ (fun hH => ?_)
                clear hK K
                try simp only [Act.put, List.setIfInBounds_toArray, List.set_cons_zero, List.set_cons_succ]
                clear y4 y5
                have y4 := hH.1
                have y5 := hH.2
                refine wpAnyH_ready (rs := [10]) (by kernel_rfl) (by simp) (AllReadyH.cons rfl (fun K hK => ?_) AllReadyH.nil)
                refine step_append_lies _ (by rfl) _ _ _ (by rfl) V 135 i0 (.agg #[.string ⟨#[]⟩, .int .i64 0, .int .i64 0]) 3 32 Tryz.underlying87 hI.out hz0.out hz1.out hz2.out rfl (by omega) (.slice up UK.length uc) UK.length (useFlat UK) (by rfl) (ownsRow_extE hrowU.out ((Ext.refl _).alloc _)) ⟨w9.heap.size, 0, none⟩ 1 1 (useCells ⟨nm, now, amt⟩) (by rfl) (by rfl) (World.news_of_block (Blk.new' w9 #[.string nm, .int .i64 now, .int .i64 amt] 135 _ (by simp))) (use_one _) (by omega) (by unfold maxLen; omega) (by omega) (by simp; omega) (w9.heap.size + 1) (by simp) ?_
                intro gg cap w10 hown10 hgrow10 hat10 hgl10
                have hP := Lib.hid (fadd_push (u := ⟨nm, now, amt⟩) hm8.out rfl bB8.out (by omega) hgrow10 hown10)
                clear hown10 hgrow10 hat10 hgl10 x3 y4 y5 lX9 l49 l59 lV9 hrowU
                have y4 := hP.out.1.1
                have y5 := hP.out.1.2.1
                have x3 := hP.out.1.2.2.1
                have f3 := hP.out.1.2.2.2.1
                have lX10 := hP.out.1.2.2.2.2
                refine hK.out _ _ ⟨y4, y5⟩ (fun hH => ?_)
                clear hK K
                try simp only [Act.put, List.setIfInBounds_toArray]
                refine wpAnyH_take (i := 11) (v := .pointer (some ⟨X, 0, none⟩)) rfl (by kernel_rfl) (by kernel_rfl) (by kernel_rfl) (fun _ _ _ h => h) (Or.inl ⟨by rfl, fun wS hS => by (skip; first | (go_simp; done) | (go_simp; with_reducible rfl) | rfl)⟩) hH ?_
                try simp only [Act.put]
                refine wpAnyH_take (i := 12) (v := .pointer (some ⟨X, 3, none⟩)) rfl (by kernel_rfl) (by kernel_rfl) (by kernel_rfl) (fun _ _ _ h => h) (Or.inl ⟨by rfl, fun wS hS => by (skip; first | (go_simp; done) | (go_simp; with_reducible rfl) | rfl)⟩) hH ?_
                try simp only [Act.put]
                refine wpAnyH_ready (rs := [13]) (by kernel_rfl) (by simp) (AllReadyH.cons rfl (fun K hK => ?_) AllReadyH.nil)
                go_simp
                refine hK.out _ _ ⟨(World.cell?_setCell_far _ ⟨X, 3, none⟩ _ _ hXP.out).trans y4, (World.cell?_setCell_far _ ⟨X, 3, none⟩ _ _ hXQ.out).trans y5⟩ (fun hH => ?_)
                clear hK K
                try simp only [Act.put, List.setIfInBounds_toArray, List.set_cons_zero, List.set_cons_succ]
                refine wpAnyH_done (by kernel_rfl) ?_ _
                obtain ⟨hmE, hgE, bBE⟩ := hP.out.2
                clear hP y4 y5 x3 f3 lX10 hH
                replace hmE := Lib.hid hmE
                replace hgE := Lib.hid (EngF.trans hg.out hgE)
                replace bBE := Lib.hid bBE
                generalize w10.setCell ⟨X, 3, none⟩ (.slice (some ⟨gg, 0, none⟩) (UK.length + 1) cap) = w11 at *
                go_wp2
                go_roundw
                case rel => exact ⟨k + 1, by omega, by go_num, _, _, by rw [hsl.out, hst2.out, hvk.out]; exact hmE.out, hgE.out, bBE.out⟩
                case measure => simp [intOf]; omega
            · obtain rfl : k = ks.length := by omega
              rw [addK_end (by omega)] at hm
              have hx3 := Lib.hid (hx2.out _ wr ⟨rfl, _, _, hm, hg⟩)
              clear hx2 hm hg bBr
              go_wp2
              try go_ret
              exact hx3.out
end Go.Proofs.YtangdoidkcelfaaGreatDoor
