/- Contract of Check (a walk); facts on valid features. Plain facts on types and values of expressions. Contracts of ask (walks): what a source says. -/
import Derived.Test.YtangdoidkcelfaaGreatDoorEd
import Derived.Test.YtangdoidkcelfaaGreatDoorEb
import Derived.Test.YtangdoidkcelfaaGreatDoorEc
import Derived.Defers
import Derived.Recover
namespace Go.Proofs.YtangdoidkcelfaaGreatDoor
open Go.RowKit
theorem namesE_all : ∀ (l before : List Feat), namesE before l = 0 → ∀ f ∈ l, featE f = 0
 | [], _, _, f, hf => by cases hf
 | g :: l, before, h, f, hf => by
  rw [namesE] at h
  by_cases h1 : featE g ≠ 0
  · rw [if_pos h1] at h; exact absurd h h1
  · rw [if_neg h1] at h
    by_cases h2 : (findN before g.name).isSome = true
    · rw [if_pos h2] at h; cases h
    · rw [if_neg h2] at h
      rcases List.mem_cons.1 hf with e | e
      · subst e; omega
      · exact namesE_all l _ h f e
theorem findN_mem {l : List Feat} {nm : ByteArray} {f : Feat} (h : findN l nm = some f) : f ∈ l ∧ f.name = nm := by
 unfold findN at h
 exact ⟨List.mem_of_find?_eq_some h, by have := List.find?_some h; simpa using this⟩
theorem featE_ok {f : Feat} (h : featE f = 0) : nameB f.name = true ∧ (f.kind = 2 ∨ (f.kind = 1 ∧ nbrB f.n = true) ∨ (f.kind = 3 ∧ (f.n = 0 ∨ f.n = 1))) := by
 unfold featE at h
 split at h
 · cases h
 · rename_i h1
   split at h
   · rename_i h2; exact ⟨by simpa using h1, h2⟩
   · cases h
theorem kinds_ok {l : List Feat} (h : namesE [] l = 0) : ∀ nm f, findN l nm = some f → f.kind = 1 ∨ f.kind = 2 ∨ f.kind = 3 := by
 intro nm f hf
 have := (featE_ok (namesE_all l [] h f (findN_mem hf).1)).2
 omega
/-- What a new block of five cells holds later. -/
theorem new5 {w w1 : World} {c0 c1 c2 c3 c4 : Value} {T : TypeId} (B : Nat) (hB : B = w.heap.size) (hE : Ext (w.alloc (.cells #[c0, c1, c2, c3, c4] T)) w1) :
 (w1.cell? ⟨B, 0, none⟩ = some c0 ∧ w1.cell? ⟨B, 1, none⟩ = some c1 ∧ w1.cell? ⟨B, 2, none⟩ = some c2 ∧ w1.cell? ⟨B, 3, none⟩ = some c3 ∧ w1.cell? ⟨B, 4, none⟩ = some c4) ∧ (w1.frozen? ⟨B, 0, none⟩ = false ∧ w1.frozen? ⟨B, 1, none⟩ = false ∧ w1.frozen? ⟨B, 2, none⟩ = false ∧ w1.frozen? ⟨B, 3, none⟩ = false ∧ w1.frozen? ⟨B, 4, none⟩ = false) := by
 have h := (Blk.new' w #[c0, c1, c2, c3, c4] T B hB).ext hE
 exact ⟨⟨(h.cell 0).trans rfl, (h.cell 1).trans rfl, (h.cell 2).trans rfl, (h.cell 3).trans rfl, (h.cell 4).trans rfl⟩, h.fz 0, h.fz 1, h.fz 2, h.fz 3, h.fz 4⟩
set_option maxRecDepth 8000 in
set_option maxHeartbeats 2000000 in
theorem check_any {w : World} {v : Value} (x : Ex) (hS : ExS w v x.args) (fv : Value) (l : List Feat) (hF : Feats w fv l) : Calls Tryz.prog 57 #[exAgg x v, fv] w (TyPost (checkV x l) w) := by
 obtain ⟨q, cp, rfl⟩ := hS.form
 obtain ⟨op, nm, tx, n, args⟩ := x
 simp only [Ex.args] at hS
 replace hS := Lib.hid hS
 replace hF := Lib.hid hF
 obtain ⟨R, hR⟩ : ∃ R, R = checkV (.mk op nm tx n args) l := ⟨_, rfl⟩
 rw [← hR]
 unfold checkV at hR
 obtain ⟨N0, hN0⟩ : ∃ N0, N0 = namesE [] l := ⟨_, rfl⟩
 rw [← hN0] at hR
 replace hR := Lib.hid hR
 replace hN0 := Lib.hid hN0
 rw [exAgg_mk]
 simp only [Ex.args]
 go_enter Tryz.func57, Tryz.ntmps57
 go_wp2_with fail
 refine (names_any _ fv l (hF.out.ext xt)).mono ?_
 rintro e w1 ⟨hE1, h⟩
 obtain ⟨⟨x0, x1, x2, x3, x4⟩, -⟩ := new5 w.heap.size rfl hE1
 have hE0 : Ext w w1 := Ext.trans xt hE1
 have hb1 := Lib.hid ((Blk.new w #[.int .i64 op, .string nm, .string tx, .int .i64 n, .slice q args.length cp] 40).ext hE1)
 clear hE1
 rcases h with ⟨h0, b, rfl, hbb, hM⟩ | ⟨hne, rfl⟩
 · have hR1 := Lib.hid (hR.out.trans (if_neg (by rw [hN0.out, h0]; simp)))
   have hk := Lib.hid (kinds_ok h0)
   replace hM := Lib.hid hM
   replace h0 := Lib.hid h0
   clear hR hN0
   go_wp2_with fail
   refine (deeper_any hS.out (.mk op nm tx n args) rfl _ hE0 8 (by omega) (by omega)).mono ?_
   rintro e w2 ⟨rfl, hE2⟩
   obtain ⟨hb2⟩ : Nonempty (Hid (Blk w2 w.heap.size #[.int .i64 op, .string nm, .string tx, .int .i64 n, .slice q args.length cp] 40)) := ⟨Lib.hid (hb1.out.ext hE2)⟩
   clear x0 x1 x2 x3 x4
   have x0 := (hb2.out.cell 0).trans (by rfl : _ = some (Value.int .i64 op))
   have x1 := (hb2.out.cell 1).trans (by rfl : _ = some (Value.string nm))
   have x2 := (hb2.out.cell 2).trans (by rfl : _ = some (Value.string tx))
   have x3 := (hb2.out.cell 3).trans (by rfl : _ = some (Value.int .i64 n))
   have x4 := (hb2.out.cell 4).trans (by rfl : _ = some (Value.slice q args.length cp))
   replace hE0 := hE0.trans hE2
   replace hM := Lib.hid (hM.out.ext hE2)
   clear hE2 hb1
   by_cases hd : 8 < (Ex.mk op nm tx n args).levels
   · have hR2 := Lib.hid (hR1.out.trans (if_pos hd))
     rw [show decide ((8 : Int) < ((Ex.mk op nm tx n args).levels : Int)) = true by simp; omega]
     clear hd hR1
     go_wp2
     go_ret2
     exact ⟨by rw [hR2.out]; rfl, hE0⟩
   · have hR2 := Lib.hid (hR1.out.trans (if_neg hd))
     rw [show decide ((8 : Int) < ((Ex.mk op nm tx n args).levels : Int)) = false by simp; omega]
     clear hd hR1
     go_wp2_with fail
     refine (formed_any hS.out (.mk op nm tx n args) rfl _ hE0).mono ?_
     rintro e w3 ⟨rfl, hE3⟩
     clear x0 x1 x2 x3 x4
     replace hb2 := Lib.hid (hb2.out.ext hE3)
     have x0 := (hb2.out.cell 0).trans (by rfl : _ = some (Value.int .i64 op))
     have x1 := (hb2.out.cell 1).trans (by rfl : _ = some (Value.string nm))
     have x2 := (hb2.out.cell 2).trans (by rfl : _ = some (Value.string tx))
     have x3 := (hb2.out.cell 3).trans (by rfl : _ = some (Value.int .i64 n))
     have x4 := (hb2.out.cell 4).trans (by rfl : _ = some (Value.slice q args.length cp))
     replace hE0 := hE0.trans hE3
     replace hM := Lib.hid (hM.out.ext hE3)
     clear hE3
     cases hf : (Ex.mk op nm tx n args).formed with
     | false =>
      have hR3 := Lib.hid (hR2.out.trans (if_pos hf))
      clear hf hR2
      go_wp2
      go_ret2
      exact ⟨by rw [hR3.out]; rfl, hE0⟩
     | true =>
      have hR3 := Lib.hid (hR2.out.trans (if_neg (by simp [hf])))
      replace hf := Lib.hid hf
      clear hR2
      go_wp2_with fail
      refine (typeOf_any (hS.out.ext hE0) l b hM.out hk.out (.mk op nm tx n args) rfl _ (Ext.refl _) hf.out).mono ?_
      rintro e w4 ⟨rfl, hE4⟩
      replace hE0 := hE0.trans hE4
      clear hE4 x0 x1 x2 x3 x4
      rw [← hR3.out]
      go_wp2
      go_ret2
      exact ⟨rfl, hE0⟩
 · have hR1 := Lib.hid (hR.out.trans (if_pos (by rw [hN0.out]; exact hne)))
   rw [← hN0.out] at hne ⊢
   have d1 : (N0 != 0) = true := by simpa using hne
   clear hR hne
   go_wp2
   go_ret2
   exact ⟨by rw [hR1.out]; rfl, hE0⟩
end Go.Proofs.YtangdoidkcelfaaGreatDoor
namespace Go.Proofs.YtangdoidkcelfaaGreatDoor
open Go.RowKit
theorem Ex.indOn {P : Ex → Prop} (h : ∀ op nm tx n args, (∀ a ∈ args, P a) → P (.mk op nm tx n args)) : ∀ x, P x
 | .mk op nm tx n args => h op nm tx n args (fun a _ => Ex.indOn h a)
termination_by x => SizeOf.sizeOf x
decreasing_by
 rename_i ha
 have := List.sizeOf_lt_of_mem ha
 simp only [Ex.mk.sizeOf_spec]
 omega
theorem tyL_err_ne (l : List Feat) : ∀ (args : List Ex) (c : Int), Ex.ty.tyL l args = .error c → c ≠ 0
 | [], c, h => by cases h
 | x :: r, c, h => by
  rw [Ex.ty.tyL] at h
  by_cases h1 : (x.ty l).2 ≠ 0
  · rw [if_pos h1] at h; injection h with h; subst h; exact h1
  · rw [if_neg h1] at h
    cases hr : Ex.ty.tyL l r with
    | error d => rw [hr] at h; injection h with h; subst h; exact tyL_err_ne l r d hr
    | ok ks => rw [hr] at h; cases h
theorem tyL_ok (l : List Feat) : ∀ (args : List Ex) (ks : List Int), Ex.ty.tyL l args = .ok ks → (∀ a ∈ args, (a.ty l).2 = 0) ∧ ks = args.map fun a => (a.ty l).1
 | [], ks, h => by
  rw [Ex.ty.tyL] at h
  injection h with h
  exact ⟨fun a ha => absurd ha (by simp), h.symm⟩
 | x :: r, ks, h => by
  rw [Ex.ty.tyL] at h
  by_cases h1 : (x.ty l).2 ≠ 0
  · rw [if_pos h1] at h; cases h
  · rw [if_neg h1] at h
    cases hr : Ex.ty.tyL l r with
    | error d => rw [hr] at h; cases h
    | ok js =>
     rw [hr] at h
     injection h with h
     obtain ⟨h2, h3⟩ := tyL_ok l r js hr
     refine ⟨fun a ha => ?_, by rw [← h, h3]; rfl⟩
     rcases List.mem_cons.1 ha with e | e
     · subst e; omega
     · exact h2 a e
theorem tyL_mk (l : List Feat) : ∀ (args : List Ex), (∀ a ∈ args, (a.ty l).2 = 0) → Ex.ty.tyL l args = .ok (args.map fun a => (a.ty l).1)
 | [], _ => rfl
 | x :: r, h => by
  rw [Ex.ty.tyL, if_neg (by have := h x (List.mem_cons_self ..); omega), tyL_mk l r (fun a ha => h a (List.mem_cons_of_mem _ ha))]
  rfl
/-- The kind of the feature that a part names. -/
def fkOf (l : List Feat) (op : Int) (nm : ByteArray) : Option Int := if op = 3 ∨ op = 16 ∨ op = 17 then (findN l nm).map Feat.kind else some 0
theorem ty_inv {l : List Feat} {op : Int} {nm tx : ByteArray} {n : Int} {args : List Ex} (h : ((Ex.mk op nm tx n args).ty l).2 = 0) :
 (∀ a ∈ args, (a.ty l).2 = 0) ∧ ∃ fk, fkOf l op nm = some fk ∧ byK op fk (args.map fun a => (a.ty l).1) ≠ 0 ∧ ((Ex.mk op nm tx n args).ty l).1 = byK op fk (args.map fun a => (a.ty l).1) := by
 cases hL : Ex.ty.tyL l args with
 | error c =>
  rw [ty_err hL] at h
  exact absurd h (tyL_err_ne l args c hL)
 | ok ks =>
  obtain ⟨h1, h2⟩ := tyL_ok l args ks hL
  subst h2
  refine ⟨h1, ?_⟩
  rw [ty_ok hL] at h ⊢
  unfold fkOf
  by_cases h3 : op = 3 ∨ op = 16 ∨ op = 17
  · rw [if_pos h3] at h ⊢
    rw [if_pos h3]
    cases hf : findN l nm with
    | none => rw [hf] at h; cases h
    | some f =>
     rw [hf] at h
     simp only at h ⊢
     by_cases h4 : byK op f.kind (args.map fun a => (a.ty l).1) = 0
     · rw [if_pos h4] at h; cases h
     · exact ⟨f.kind, rfl, h4, by rw [if_neg h4]⟩
  · rw [if_neg h3] at h ⊢
    rw [if_neg h3]
    by_cases h4 : byK op 0 (args.map fun a => (a.ty l).1) = 0
    · rw [if_pos h4] at h; cases h
    · exact ⟨0, rfl, h4, by rw [if_neg h4]⟩
theorem ty_mk {l : List Feat} {op : Int} {nm tx : ByteArray} {n : Int} {args : List Ex} (h : ∀ a ∈ args, (a.ty l).2 = 0) (fk : Int) (hf : fkOf l op nm = some fk) (hb : byK op fk (args.map fun a => (a.ty l).1) ≠ 0) :
 (Ex.mk op nm tx n args).ty l = (byK op fk (args.map fun a => (a.ty l).1), 0) := by
 rw [ty_ok (tyL_mk l args h)]
 unfold fkOf at hf
 by_cases h3 : op = 3 ∨ op = 16 ∨ op = 17
 · rw [if_pos h3] at hf ⊢
   cases hg : findN l nm with
   | none => rw [hg] at hf; cases hf
   | some f =>
    rw [hg] at hf
    simp only [Option.map_some, Option.some.injEq] at hf
    subst hf
    simp only [if_neg hb]
 · rw [if_neg h3] at hf ⊢
   injection hf with hf
   subst hf
   rw [if_neg hb]
/-- What values of a type look like. -/
def WellF (k : Int) (f : Feat) : Prop := f.name = emS ∧ f.kind = k ∧ ((k = 1 ∧ nbrB f.n = true ∧ f.text = emS) ∨ (k = 2 ∧ f.n = 0) ∨ (k = 3 ∧ (f.n = 0 ∨ f.n = 1) ∧ f.text = emS))
theorem wellF_truth (b : Bool) : WellF 3 (truthF b) := by
 refine ⟨rfl, rfl, Or.inr (Or.inr ⟨rfl, ?_, rfl⟩)⟩
 cases b <;> simp [truthF]
theorem wellF_num {n : Int} (h : nbrB n = true) : WellF 1 (numF n) := ⟨rfl, rfl, Or.inl ⟨rfl, h, rfl⟩⟩
theorem wellF_txt (t : ByteArray) : WellF 2 (txtF t) := ⟨rfl, rfl, Or.inr (Or.inl ⟨rfl, rfl⟩)⟩
theorem wellF_feat {l : List Feat} (hN : namesE [] l = 0) {nm : ByteArray} {f : Feat} (hf : findN l nm = some f) : WellF f.kind (featOf l nm) := by
 have h := (featE_ok (namesE_all l [] hN f (findN_mem hf).1)).2
 unfold featOf
 rw [hf]
 simp only
 by_cases h2 : f.kind = 2
 · rw [if_pos h2, h2]; exact wellF_txt _
 · rw [if_neg h2]
   refine ⟨rfl, rfl, ?_⟩
   rcases h with h | ⟨h, h'⟩ | ⟨h, h'⟩
   · exact absurd h h2
   · exact Or.inl ⟨h, h', rfl⟩
   · exact Or.inr (Or.inr ⟨h, h', rfl⟩)
theorem nbr_neg {n : Int} (h : nbrB n = true) : nbrB (-n) = true := by
 simp only [nbrB, Bool.and_eq_true, decide_eq_true_eq] at h ⊢; omega
theorem map_num {o : Option Int} {f : Feat} (h : o.map numF = some f) : ∃ m, o = some m ∧ f = numF m := by
 cases o with
 | none => cases h
 | some m => injection h with h; exact ⟨m, rfl, h.symm⟩
theorem sumV_ok {a b m : Int} (h : sumV a b = some m) : nbrB m = true := by
 unfold sumV at h
 split at h
 · injection h with h; subst h; assumption
 · cases h
theorem mulV_ok {a b m : Int} (h : mulV a b = some m) : nbrB m = true := by
 unfold mulV at h
 split at h
 · injection h with h; subst h; assumption
 · cases h
theorem byK_two {op : Int} {fk k1 k2 : Int} (h1 : 6 ≤ op) (h2 : op ≤ 14) (h : byK op fk [k1, k2] ≠ 0) :
 ((op = 6 ∨ op = 7) ∧ k1 = 3 ∧ k2 = 3 ∧ byK op fk [k1, k2] = 3) ∨ ((op = 8 ∨ op = 9) ∧ k1 = k2 ∧ byK op fk [k1, k2] = 3) ∨ ((op = 10 ∨ op = 11) ∧ k1 = 1 ∧ k2 = 1 ∧ byK op fk [k1, k2] = 3) ∨ ((op = 12 ∨ op = 13 ∨ op = 14) ∧ k1 = 1 ∧ k2 = 1 ∧ byK op fk [k1, k2] = 1) := by
 have h9 : op = 6 ∨ op = 7 ∨ op = 8 ∨ op = 9 ∨ op = 10 ∨ op = 11 ∨ op = 12 ∨ op = 13 ∨ op = 14 := by omega
 rcases h9 with rfl | rfl | rfl | rfl | rfl | rfl | rfl | rfl | rfl
 all_goals
  simp only [byK, allK, List.all_cons, List.all_nil, List.getD_cons_zero] at h ⊢
  simp at h ⊢
  first
  | (obtain ⟨rfl, rfl⟩ := h; simp)
  | (subst h; simp)
  | exact h
theorem byK_one {op : Int} {fk k1 : Int} (h1 : op = 4 ∨ op = 5) (h : byK op fk [k1] ≠ 0) : (op = 4 ∧ k1 = 3 ∧ byK op fk [k1] = 3) ∨ (op = 5 ∧ k1 = 1 ∧ byK op fk [k1] = 1) := by
 rcases h1 with rfl | rfl
 all_goals
  simp only [byK, allK, List.all_cons, List.all_nil] at h ⊢
  simp at h ⊢
  exact h
theorem byK_in {fk : Int} {ks : List Int} (h : byK 15 fk ks ≠ 0) : byK 15 fk ks = 3 ∧ allK ks (ks.getD 0 0) = true ∧ ks.getD 0 0 ≠ 3 := by
 simp only [byK] at h ⊢
 generalize ks.getD 0 0 = k0 at *
 simp at h ⊢
 exact h
theorem inV_bool (first : Feat) : ∀ (r : List (Option Feat)) (f : Feat), inV first r = some f → ∃ b, f = truthF b
 | [], f, h => by rw [inV] at h; injection h with h; exact ⟨_, h.symm⟩
 | none :: r, f, h => by rw [inV] at h; cases h
 | some v :: r, f, h => by
  rw [inV] at h
  by_cases hv : v = first
  · rw [if_pos hv] at h; injection h with h; exact ⟨_, h.symm⟩
  · rw [if_neg hv] at h; exact inV_bool first r f h
theorem evIn_bool (l : List Feat) (S : Bool → ByteArray → Int → Int) (first : Feat) (r : List Ex) (f : Feat) (h : Ex.ev.evIn l S first r = some f) : ∃ b, f = truthF b := inV_bool first _ f h
/-- How the value of an operator with arguments is made. -/
theorem ev_one {l : List Feat} {S : Bool → ByteArray → Int → Int} {op : Int} (h : op = 4 ∨ op = 5) (nm tx : ByteArray) (n : Int) (a : Ex) : (Ex.mk op nm tx n [a]).ev l S = match a.ev l S with | none => none | some f => if op = 4 then some (truthF (decide (f.n = 0))) else some (numF (-f.n)) := by
 rw [ev_mk]
 unfold evOp
 rw [if_neg (by omega), if_neg (by omega), if_neg (by omega), if_neg (by omega)]
 simp only [List.map_cons, List.map_nil]
 cases a.ev l S with
 | none => rfl
 | some f =>
  simp only
  rcases h with rfl | rfl <;> simp
theorem ev_two {l : List Feat} {S : Bool → ByteArray → Int → Int} {op : Int} (h : 6 ≤ op) (h' : op ≤ 14) (nm tx : ByteArray) (n : Int) (a b : Ex) : (Ex.mk op nm tx n [a, b]).ev l S = match a.ev l S with | none => none | some f => if (op = 6 ∧ f.n = 0) ∨ (op = 7 ∧ f.n = 1) then some f else match b.ev l S with | none => none | some g => comb op f g := by
 rw [ev_mk]
 unfold evOp
 rw [if_neg (by omega), if_neg (by omega), if_neg (by omega), if_neg (by omega)]
 simp only [List.map_cons, List.map_nil]
 cases a.ev l S with
 | none => rfl
 | some f =>
  simp only
  rw [if_neg (by omega), if_neg (by omega), if_neg (by omega)]
  cases b.ev l S <;> rfl
theorem ev_in {l : List Feat} {S : Bool → ByteArray → Int → Int} (nm tx : ByteArray) (n : Int) (a : Ex) (r : List Ex) : (Ex.mk 15 nm tx n (a :: r)).ev l S = match a.ev l S with | none => none | some f => Ex.ev.evIn l S f r := by
 rw [ev_mk]
 unfold evOp
 rw [if_neg (by omega), if_neg (by omega), if_neg (by omega), if_neg (by omega)]
 simp only [List.map_cons]
 cases a.ev l S with
 | none => rfl
 | some f => simp [Ex.ev.evIn]
theorem comb_well {op : Int} {f g v : Feat} {k k2 fk : Int} (h1 : 6 ≤ op) (h2 : op ≤ 14) (hb : byK op fk [k, k2] ≠ 0) (hg : WellF k2 g) (h : comb op f g = some v) : WellF (byK op fk [k, k2]) v := by
 rcases byK_two h1 h2 hb with ⟨ho, e1, e2, e3⟩ | ⟨ho, e1, e3⟩ | ⟨ho, e1, e2, e3⟩ | ⟨ho, e1, e2, e3⟩
 · rw [e3]
   unfold comb at h
   rw [if_neg (by omega), if_neg (by omega), if_neg (by omega), if_neg (by omega), if_neg (by omega), if_neg (by omega), if_neg (by omega)] at h
   injection h with h; subst h; rw [← e2]; exact hg
 · rw [e3]
   unfold comb at h
   rcases ho with rfl | rfl <;> (simp at h; subst h; exact wellF_truth _)
 · rw [e3]
   unfold comb at h
   rcases ho with rfl | rfl <;> (simp at h; subst h; exact wellF_truth _)
 · rw [e3]
   unfold comb at h
   rcases ho with rfl | rfl | rfl
   all_goals
    rw [if_neg (by omega), if_neg (by omega), if_neg (by omega), if_neg (by omega)] at h
   · rw [if_pos rfl] at h; obtain ⟨m, h2, rfl⟩ := map_num h; exact wellF_num (sumV_ok h2)
   · rw [if_neg (by omega), if_pos rfl] at h; obtain ⟨m, h2, rfl⟩ := map_num h; exact wellF_num (sumV_ok h2)
   · rw [if_neg (by omega), if_neg (by omega), if_pos rfl] at h; obtain ⟨m, h2, rfl⟩ := map_num h; exact wellF_num (mulV_ok h2)
theorem len1 {α : Type} {l : List α} (h : l.length = 1) : ∃ a, l = [a] := List.length_eq_one_iff.1 h
theorem len2 {α : Type} {l : List α} (h : l.length = 2) : ∃ a b, l = [a, b] := by
 match l, h with
 | [a, b], _ => exact ⟨a, b, rfl⟩
theorem ev_typed (l : List Feat) (hN : namesE [] l = 0) (S : Bool → ByteArray → Int → Int) : ∀ x : Ex, x.formed = true → (x.ty l).2 = 0 → ∀ f, x.ev l S = some f → WellF (x.ty l).1 f := by
 refine Ex.indOn ?_
 intro op nm tx n args ih hf ht f hv
 rw [formed_eq] at hf
 simp only [Bool.and_eq_true, List.all_eq_true] at hf
 obtain ⟨hfv, hfa⟩ := hf
 obtain ⟨hta, fk, hfk, hb, hk⟩ := ty_inv ht
 rw [hk]
 rcases fv_cut hfv with ⟨ho, hl⟩ | ⟨ho, hl⟩ | ⟨⟨ho, ho'⟩, hl⟩ | ⟨ho, hl, hl'⟩
 · obtain rfl := List.length_eq_zero_iff.1 hl
   rw [ev_mk] at hv
   unfold evOp at hv
   rcases ho with rfl | rfl | rfl | rfl | rfl
   · simp at hv
     subst hv
     have : nbrB n = true := by simp [hasFv] at hfv; exact hfv.1.1
     simpa [byK] using wellF_num this
   · simp at hv
     subst hv
     simpa [byK] using wellF_txt tx
   · simp at hv
     subst hv
     unfold fkOf at hfk
     simp only [true_or, if_true, Option.map_eq_some_iff] at hfk
     obtain ⟨g, hg, rfl⟩ := hfk
     simpa [byK] using wellF_feat hN hg
   · simp only [show ¬ (16 : Int) = 1 by omega, show ¬ (16 : Int) = 2 by omega, show ¬ (16 : Int) = 3 by omega, if_false, true_or, if_true] at hv
     split at hv
     · injection hv with hv; subst hv
       have e : byK 16 fk ([].map fun a => (Ex.ty l a).1) = 1 := by
        simp [byK] at hb ⊢; exact hb
       rw [e]; exact wellF_num (by assumption)
     · cases hv
   · simp only [show ¬ (17 : Int) = 1 by omega, show ¬ (17 : Int) = 2 by omega, show ¬ (17 : Int) = 3 by omega, if_false, or_true, if_true] at hv
     split at hv
     · injection hv with hv; subst hv
       have e : byK 17 fk ([].map fun a => (Ex.ty l a).1) = 1 := by
        simp [byK] at hb ⊢; exact hb
       rw [e]; exact wellF_num (by assumption)
     · cases hv
 · obtain ⟨a, rfl⟩ := len1 hl
   rw [ev_one ho] at hv
   cases ha : a.ev l S with
   | none => rw [ha] at hv; cases hv
   | some g =>
    rw [ha] at hv
    simp only at hv
    have hg := ih a (by simp) (hfa a (by simp)) (hta a (by simp)) g ha
    simp only [List.map_cons, List.map_nil] at hb ⊢
    rcases byK_one ho hb with ⟨rfl, e1, e2⟩ | ⟨rfl, e1, e2⟩
    · rw [e2]; simp at hv; subst hv; exact wellF_truth _
    · rw [e2]; simp at hv; subst hv
      rw [e1] at hg
      refine wellF_num (nbr_neg ?_)
      rcases hg.2.2 with h | h | h
      · exact h.2.1
      · exact absurd h.1 (by omega)
      · exact absurd h.1 (by omega)
 · obtain ⟨a, b, rfl⟩ := len2 hl
   rw [ev_two ho ho'] at hv
   simp only [List.map_cons, List.map_nil] at hb ⊢
   cases ha : a.ev l S with
   | none => rw [ha] at hv; cases hv
   | some g =>
    rw [ha] at hv
    simp only at hv
    have hg := ih a (by simp) (hfa a (by simp)) (hta a (by simp)) g ha
    by_cases hc : (op = 6 ∧ g.n = 0) ∨ (op = 7 ∧ g.n = 1)
    · rw [if_pos hc] at hv
      injection hv with hv; subst hv
      rcases byK_two ho ho' hb with ⟨_, e1, e2, e3⟩ | ⟨h, _⟩ | ⟨h, _⟩ | ⟨h, _⟩
      · rw [e3, ← e1]; exact hg
      · omega
      · omega
      · omega
    · rw [if_neg hc] at hv
      cases hbv : b.ev l S with
      | none => rw [hbv] at hv; cases hv
      | some g2 =>
       rw [hbv] at hv
       exact comb_well ho ho' hb (ih b (by simp) (hfa b (by simp)) (hta b (by simp)) g2 hbv) hv
 · subst ho
   cases args with
   | nil => simp at hl
   | cons a r =>
    rw [ev_in] at hv
    rw [(byK_in hb).1]
    cases ha : a.ev l S with
    | none => rw [ha] at hv; cases hv
    | some g =>
     rw [ha] at hv
     obtain ⟨b, rfl⟩ := evIn_bool l S g r f hv
     exact wellF_truth b
end Go.Proofs.YtangdoidkcelfaaGreatDoor
namespace Go.Proofs.YtangdoidkcelfaaGreatDoor
open Go.RowKit
theorem ask1_idle (p q : Addr) (w : World) :
 CallsD Tryz.prog 130 #[.pointer (some p), .pointer (some q)] .returning w fun e u' w' => e = .returned (.tuple #[]) ∧ u' = .returning ∧ w' = w := by
 refine callsD_of_wpS Tryz.func130 rfl fun c₀ cs hu => ?_
 apply wpS_seq
 apply wpS_region
 simp [wpOpsS, go_sem, recoverD, hu, Tryz.ntmps130, Exit.thenS]
 refine wpS_cond (t := false) (by simp [Act.eval, Array.replicate]) ?_
 simp only [Bool.false_eq_true, if_false]
 refine wpS_of_wp (wp_skip ?_)
 cases c₀
 simp_all [bodyPostS, results, Tryz.results130]
def AskPost (o : Option Int) (w : World) (e : Ending) (w' : World) : Prop := e = .returned (.tuple #[.int .i64 (o.getD 0), .bool o.isSome]) ∧ Ext w w'
set_option maxRecDepth 8000 in
set_option maxHeartbeats 1000000 in
theorem ask_nil (E : Nat) (op : Int) (nm tx : ByteArray) (n : Int) (u : Value) (w : World) (hs : w.cell? ⟨E, 1, none⟩ = some .nilIface) : Calls Tryz.prog 101 #[.pointer (some ⟨E, 0, none⟩), .agg #[.int .i64 op, .string nm, .string tx, .int .i64 n, u]] w (AskPost (some 0) w) := by
 have hmf : ∀ (fn : Fn) (first cap : Array Value) (w : World), (Instr.makeFunc fn first cap).run Tryz.prog w = .ok (.func fn first cap) w := fun _ _ _ _ => rfl
 have hE : E < w.heap.size := cell_lt hs
 have hE1 : E < w.heap.size + 1 := by omega
 have hE2 : E < w.heap.size + 1 + 1 := by omega
 have hq : ∀ w : World, (binOp .eql 125 .nilIface .nilIface).run Tryz.prog w = .ok (.bool true) w := fun _ => rfl
 go_enter_defers Tryz.func101, Tryz.ntmps101
 go_wp2
 refine leaves_cons (f := 130) (args := #[.pointer (some ⟨w.heap.size + 1, 0, none⟩), .pointer (some ⟨w.heap.size + 1 + 1, 0, none⟩)]) (by simp) (by simp [go_sem]) ?_
 refine (ask1_idle _ _ _).mono ?_
 rintro e u' w'' ⟨rfl, rfl, rfl⟩
 simp [Leaves, settle, results, Tryz.results101, go_sem]
 exact ⟨rfl, xt⟩
def okN (n : Int) : Option Int := if nbrB n then some n else none
/-- What the evaluator at block E is told by its source. -/
def Asker (w : World) (E : Nat) (S : Bool → ByteArray → Int → Int) : Prop :=
 ∀ w', Ext w w' → ∀ (op : Int) (nm tx : ByteArray) (n : Int) (u : Value), op = 16 ∨ op = 17 → nm.size ≤ 16 → Calls Tryz.prog 101 #[.pointer (some ⟨E, 0, none⟩), .agg #[.int .i64 op, .string nm, .string tx, .int .i64 n, u]] w' (AskPost (okN (S (decide (op = 16)) nm n)) w')
def nilS (_ : Bool) (_ : ByteArray) (_ : Int) : Int := 0
theorem asker_nil {w : World} {E : Nat} (hs : w.cell? ⟨E, 1, none⟩ = some .nilIface) : Asker w E nilS := by
 intro w' hE op nm tx n u _ _
 exact ask_nil E op nm tx n u w' (hE.get hs)
theorem Asker.ext {w w' : World} {E : Nat} {S : Bool → ByteArray → Int → Int} (h : Asker w E S) (k : Ext w w') : Asker w' E S :=
 fun w2 h2 => h w2 (k.trans h2)
end Go.Proofs.YtangdoidkcelfaaGreatDoor
