/- Folding changes no type, no value, no error, no names (plain facts). The value depends on the names that occur alone (plain facts). Insertion one by one gives the sorted list without doublets (plain facts). -/
import Derived.Test.YtmnhmkjmcckneaaGreatDoorEi
import Derived.Test.YtmnhmkjmcckneaaGreatDoorEe
namespace Go.Proofs.YtmnhmkjmcckneaaGreatDoor
open Go.RowKit
theorem partsL_flat : ∀ l : List Ex, Ex.parts.partsL l = l.flatMap Ex.parts
 | [] => rfl
 | x :: r => by rw [Ex.parts.partsL, partsL_flat r, List.flatMap_cons]
theorem occ_mk (op : Int) (nm tx : ByteArray) (n : Int) (args : List Ex) : (Ex.mk op nm tx n args).occ = occ1 (.mk op nm tx n args) ++ args.flatMap Ex.occ := by
 unfold Ex.occ
 rw [parts_mk, partsL_flat, List.flatMap_cons, List.flatMap_assoc]
theorem wins_mk (op : Int) (nm tx : ByteArray) (n : Int) (args : List Ex) : (Ex.mk op nm tx n args).wins = win1 (.mk op nm tx n args) ++ args.flatMap Ex.wins := by
 unfold Ex.wins
 rw [parts_mk, partsL_flat, List.flatMap_cons, List.flatMap_assoc]
def longF (m : Int) (x : Ex) : Int := x.parts.foldl long1 m
theorem foldl_parts : ∀ (l : List Ex) (m : Int), (l.flatMap Ex.parts).foldl long1 m = l.foldl longF m
 | [], m => rfl
 | x :: r, m => by rw [List.flatMap_cons, List.foldl_append, List.foldl_cons, foldl_parts r]; rfl
theorem long_mk (op : Int) (nm tx : ByteArray) (n : Int) (args : List Ex) (m : Int) : longF m (.mk op nm tx n args) = args.foldl longF (long1 m (.mk op nm tx n args)) := by
 unfold longF
 rw [parts_mk, partsL_flat, List.foldl_cons, foldl_parts]
 rfl
theorem foldl_map_same (f : Ex → Ex) : ∀ (l : List Ex) (m : Int), (∀ a ∈ l, ∀ m, longF m (f a) = longF m a) → (l.map f).foldl longF m = l.foldl longF m
 | [], m, _ => rfl
 | x :: r, m, h => by
  rw [List.map_cons, List.foldl_cons, List.foldl_cons, h x (List.mem_cons_self ..), foldl_map_same f r _ (fun a ha => h a (List.mem_cons_of_mem _ ha))]
theorem flat_map_same {β : Type} (f : Ex → Ex) (g : Ex → List β) : ∀ (l : List Ex), (∀ a ∈ l, g (f a) = g a) → (l.map f).flatMap g = l.flatMap g
 | [], _ => rfl
 | x :: r, h => by
  rw [List.map_cons, List.flatMap_cons, List.flatMap_cons, h x (List.mem_cons_self ..), flat_map_same f g r (fun a ha => h a (List.mem_cons_of_mem _ ha))]
theorem noN_mk {op : Int} {nm tx : ByteArray} {n : Int} {args : List Ex} (h : (Ex.mk op nm tx n args).occ = []) : ¬ (op = 3 ∨ op = 16 ∨ op = 17) ∧ ∀ a ∈ args, a.occ = [] := by
 rw [occ_mk, List.append_eq_nil_iff] at h
 refine ⟨fun hop => ?_, fun a ha => List.flatMap_eq_nil_iff.1 h.2 a ha⟩
 have := h.1
 simp [occ1, Ex.op, hop] at this
theorem noN_long : ∀ x : Ex, x.occ = [] → ∀ m, longF m x = m := by
 refine Ex.indOn ?_
 intro op nm tx n args ih h m
 obtain ⟨h1, h2⟩ := noN_mk h
 rw [long_mk]
 have e1 : long1 m (.mk op nm tx n args) = m := by
  unfold long1
  rw [if_neg]
  simp only [Ex.op]
  omega
 rw [e1]
 have : ∀ (l : List Ex), (∀ a ∈ l, ∀ m, longF m a = m) → ∀ m, l.foldl longF m = m := by
  intro l
  induction l with
  | nil => intro _ m; rfl
  | cons a r ihl =>
   intro hl m
   rw [List.foldl_cons, hl a (List.mem_cons_self ..)]
   exact ihl (fun b hb => hl b (List.mem_cons_of_mem _ hb)) m
 exact this args (fun a ha => ih a ha (h2 a ha)) m
theorem noN_wins : ∀ x : Ex, x.occ = [] → x.wins = [] := by
 refine Ex.indOn ?_
 intro op nm tx n args ih h
 obtain ⟨h1, h2⟩ := noN_mk h
 rw [wins_mk, List.append_eq_nil_iff]
 refine ⟨?_, List.flatMap_eq_nil_iff.2 fun a ha => ih a ha (h2 a ha)⟩
 unfold win1
 rw [if_neg]
 simp only [Ex.op]
 omega
theorem tyL_map (f : Ex → Ex) (l l' : List Feat) : ∀ (args : List Ex), (∀ a ∈ args, (f a).ty l = a.ty l') → Ex.ty.tyL l (args.map f) = Ex.ty.tyL l' args
 | [], _ => rfl
 | x :: r, h => by
  rw [List.map_cons, Ex.ty.tyL, Ex.ty.tyL, h x (List.mem_cons_self ..), tyL_map f l l' r (fun a ha => h a (List.mem_cons_of_mem _ ha))]
theorem ty_noN : ∀ x : Ex, x.occ = [] → ∀ l l', x.ty l = x.ty l' := by
 refine Ex.indOn ?_
 intro op nm tx n args ih h l l'
 obtain ⟨h1, h2⟩ := noN_mk h
 have e := tyL_map id l l' args (fun a ha => ih a ha (h2 a ha) l l')
 rw [List.map_id] at e
 rw [Ex.ty, Ex.ty, e]
 simp only [if_neg h1]
theorem ev_noN : ∀ x : Ex, x.occ = [] → ∀ l l' S S', x.ev l S = x.ev l' S' := by
 refine Ex.indOn ?_
 intro op nm tx n args ih h l l' S S'
 obtain ⟨h1, h2⟩ := noN_mk h
 rw [ev_mk, ev_mk]
 have e : (args.map fun x => x.ev l S) = args.map fun x => x.ev l' S' := List.map_congr_left fun a ha => ih a ha (h2 a ha) l l' S S'
 rw [e]
 unfold evOp
 rw [if_neg (show ¬ op = 3 by omega), if_neg (show ¬ (op = 16 ∨ op = 17) by omega), if_neg (show ¬ op = 3 by omega), if_neg (show ¬ (op = 16 ∨ op = 17) by omega)]
/-- What is true of the literal of a value. -/
structure LitOk (k : Int) (v : Feat) : Prop where
 formed : (litE v).formed = true
 ty : ∀ l, (litE v).ty l = (k, 0)
 ev : ∀ l S, (litE v).ev l S = some v
 occ : (litE v).occ = []
 lv2 : (litE v).levels ≤ 2
 lv1 : k ≠ 3 → (litE v).levels ≤ 1
theorem litOk {k : Int} {v : Feat} (h : WellF k v) (h2 : k = 2 → litB v.text = true) : LitOk k v := by
 obtain ⟨vn, vk, vi, vt⟩ := v
 obtain ⟨e1, e2, h⟩ := h
 simp only at e1 e2 h h2
 subst e1 e2
 rcases h with ⟨rfl, hn, rfl⟩ | ⟨rfl, rfl⟩ | ⟨rfl, hn, rfl⟩
 · refine ⟨?_, fun l => ?_, fun l S => ?_, ?_, ?_, fun _ => ?_⟩
   · simp [litE, leafN, formed_eq, hasFv, hn, empB, emS, ByteArray.size]
   · simp [litE, leafN, Ex.ty, Ex.ty.tyL, byK]
   · simp [litE, leafN, ev_mk, evOp, numF]
   · rw [litE, if_pos rfl, leafN, occ_mk]; simp [occ1, Ex.op]
   · simp [litE, leafN, Ex.levels, Ex.levels.levelsL]
   · simp [litE, leafN, Ex.levels, Ex.levels.levelsL]
 · have hl := h2 rfl
   refine ⟨?_, fun l => ?_, fun l S => ?_, ?_, ?_, fun _ => ?_⟩
   · simp [litE, formed_eq, hasFv, hl, empB, emS, ByteArray.size]
   · simp [litE, Ex.ty, Ex.ty.tyL, byK]
   · simp [litE, ev_mk, evOp, txtF]
   · rw [litE, if_neg (by simp), if_pos rfl, occ_mk]; simp [occ1, Ex.op]
   · simp [litE, Ex.levels, Ex.levels.levelsL]
   · simp [litE, Ex.levels, Ex.levels.levelsL]
 · have hl : litE ⟨emS, 3, vi, emS⟩ = .mk 8 emS emS 0 [leafN 1, leafN (2 - vi)] := rfl
   have hb1 : nbrB 1 = true := by decide
   have hb2 : nbrB (2 - vi) = true := by rcases hn with rfl | rfl <;> decide
   refine ⟨?_, fun l => ?_, fun l S => ?_, ?_, ?_, fun h => absurd rfl h⟩
   · rw [hl]; simp [leafN, formed_eq, hasFv, hb1, hb2, empB, emS, ByteArray.size]
   · rw [hl]; simp [leafN, Ex.ty, Ex.ty.tyL, byK, allK]
   · rw [hl, ev_mk]
     rcases hn with rfl | rfl <;> simp [leafN, ev_mk, evOp, numF, comb, truthF]
   · rw [hl, occ_mk]; simp [occ1, Ex.op, leafN, occ_mk]
   · rw [hl]; simp [leafN, Ex.levels, Ex.levels.levelsL]
theorem byK_text {op : Int} {ks : List Int} (_h : ¬ (op = 3 ∨ op = 16 ∨ op = 17)) (hb : byK op 0 ks = 2) : op = 2 := by
 unfold byK at hb
 by_cases h2 : op = 2
 · exact h2
 · rw [if_neg h2, if_neg (show ¬ op = 3 by omega), if_neg (show ¬ (op = 16 ∨ op = 17) by omega)] at hb
   repeat' split at hb
   all_goals omega
theorem checkV_nil {x : Ex} (hf : x.formed = true) (h8 : x.levels ≤ 8) (l : List Feat) : checkV x l = if namesE [] l ≠ 0 then (0, namesE [] l) else x.ty l := by
 unfold checkV
 rw [if_neg (show ¬ 8 < x.levels by omega), if_neg (show ¬ x.formed = false by rw [hf]; simp)]
/-- What a constant part is. -/
theorem const_lit {x : Ex} (hf : x.formed = true) (h8 : x.levels ≤ 8) (hc : constB x = true) : x.occ = [] ∧ ∃ v, (evalV x [] nilS).1 = v ∧ LitOk (x.ty []).1 v ∧ (∀ l, x.ty l = ((x.ty []).1, 0)) ∧ (∀ l S, x.ev l S = some v) ∧ ((x.ty []).1 = 3 → 2 ≤ x.levels) := by
 unfold constB at hc
 simp only [Bool.and_eq_true, List.isEmpty_iff, decide_eq_true_eq] at hc
 obtain ⟨ho, he⟩ := hc
 refine ⟨ho, ?_⟩
 unfold evalV at he ⊢
 by_cases h0 : (checkV x []).2 ≠ 0
 · rw [if_pos h0] at he; exact absurd he h0
 · rw [if_neg h0] at he ⊢
   obtain ⟨-, -, -, ht⟩ := checkV_ok (show (checkV x []).2 = 0 by omega)
   cases hv : x.ev [] nilS with
   | none => rw [hv] at he; cases he
   | some v =>
    have hw := ev_typed [] rfl nilS x hf ht v hv
    refine ⟨v, rfl, litOk hw ?_, fun l => ?_, fun l S => by rw [ev_noN x ho l [] S nilS, hv], ?_⟩
    · intro h2
      obtain ⟨op, nm, tx, n, args⟩ := x
      obtain ⟨hn, -⟩ := noN_mk ho
      obtain ⟨-, fk, hfk, hb, hk⟩ := ty_inv ht
      rw [fkOf, if_neg hn] at hfk
      injection hfk with hfk
      subst hfk
      rw [hk] at h2
      obtain rfl := byK_text hn h2
      rw [formed_eq] at hf
      simp only [Bool.and_eq_true] at hf
      rw [ev_mk] at hv
      simp [evOp] at hv
      subst hv
      simp [hasFv] at hf
      exact hf.1.1.1.1
    · rw [ty_noN x ho l []]
      rw [← ht]
    · intro h3
      obtain ⟨op, nm, tx, n, args⟩ := x
      obtain ⟨hn, -⟩ := noN_mk ho
      obtain ⟨-, fk, hfk, hb, hk⟩ := ty_inv ht
      rw [fkOf, if_neg hn] at hfk
      injection hfk with hfk
      subst hfk
      rw [hk] at h3
      rw [formed_eq] at hf
      simp only [Bool.and_eq_true] at hf
      rcases fv_cut hf.1 with ⟨h, hl⟩ | ⟨h, hl⟩ | ⟨h, hl⟩ | ⟨h, hl⟩
      · rcases h with rfl | rfl | rfl | rfl | rfl
        · simp [byK] at h3
        · simp [byK] at h3
        all_goals omega
      all_goals
       cases args with
       | nil => simp at hl
       | cons a r =>
        have := levels_pos a
        simp only [Ex.levels, Ex.levels.levelsL]
        omega
structure FoldOk (x : Ex) : Prop where
 formed : x.foldV.formed = true
 levels : x.foldV.levels ≤ x.levels
 ty : ∀ l, x.foldV.ty l = x.ty l
 ev : ∀ l S, x.foldV.ev l S = x.ev l S
 occ : x.foldV.occ = x.occ
 wins : x.foldV.wins = x.wins
 long : ∀ m, longF m x.foldV = longF m x
 again : x.foldV.foldV = x.foldV
theorem levelsL_map (f : Ex → Ex) : ∀ (l : List Ex), (∀ a ∈ l, (f a).levels ≤ a.levels) → Ex.levels.levelsL (l.map f) ≤ Ex.levels.levelsL l
 | [], _ => Nat.le_refl _
 | x :: r, h => by
  have h1 := h x (List.mem_cons_self ..)
  have h2 := levelsL_map f r (fun a ha => h a (List.mem_cons_of_mem _ ha))
  simp only [List.map_cons, Ex.levels.levelsL]
  omega
theorem levels_mem {a : Ex} {l : List Ex} (h : a ∈ l) : a.levels ≤ Ex.levels.levelsL l := by
 induction l with
 | nil => cases h
 | cons x r ih =>
  simp only [Ex.levels.levelsL]
  rcases List.mem_cons.1 h with rfl | h
  · omega
  · have := ih h; omega
theorem evalV_ok {x : Ex} (hf : x.formed = true) (h8 : x.levels ≤ 8) (l : List Feat) (S : Bool → ByteArray → Int → Int) : evalV x l S = if (if namesE [] l ≠ 0 then (0, namesE [] l) else x.ty l).2 ≠ 0 then (fD, (if namesE [] l ≠ 0 then (0, namesE [] l) else x.ty l).2) else match x.ev l S with | none => (fD, 4) | some v => (v, 0) := by
 unfold evalV
 rw [checkV_nil hf h8]
 cases x.ev l S <;> rfl
theorem constB_same {x y : Ex} (hf : x.formed = true) (h8 : x.levels ≤ 8) (hf' : y.formed = true) (h8' : y.levels ≤ 8) (ho : y.occ = x.occ) (ht : ∀ l, y.ty l = x.ty l) (he : ∀ l S, y.ev l S = x.ev l S) : constB y = constB x ∧ ∀ l S, evalV y l S = evalV x l S := by
 have h : ∀ l S, evalV y l S = evalV x l S := by
  intro l S
  rw [evalV_ok hf h8, evalV_ok hf' h8', ht, he]
 refine ⟨?_, h⟩
 unfold constB
 rw [h, ho]
theorem fold_ok : ∀ x : Ex, x.formed = true → x.levels ≤ 8 → FoldOk x := by
 refine Ex.indOn ?_
 intro op nm tx n args ih hf h8
 by_cases hc : constB (.mk op nm tx n args) = true
 · obtain ⟨ho, v, hv, hL, hty, hev, h3⟩ := const_lit hf h8 hc
   have e : (Ex.mk op nm tx n args).foldV = litE v := by rw [foldV_mk, if_pos hc, hv]
   have hlv : (litE v).levels ≤ (Ex.mk op nm tx n args).levels := by
    by_cases hk : ((Ex.mk op nm tx n args).ty []).1 = 3
    · have := h3 hk; have := hL.lv2; omega
    · have := hL.lv1 hk; have := levels_pos (Ex.mk op nm tx n args); omega
   refine ⟨by rw [e]; exact hL.formed, by rw [e]; exact hlv, fun l => by rw [e]; exact (hL.ty l).trans (hty l).symm, fun l S => by rw [e, hL.ev, hev], by rw [e, hL.occ, ho], by rw [e, noN_wins _ hL.occ, noN_wins _ ho], fun m => by rw [e, noN_long _ hL.occ, noN_long _ ho], ?_⟩
   rw [e]
   have hs := constB_same hf h8 hL.formed (Nat.le_trans hlv h8) (by rw [hL.occ, ho]) (fun l => (hL.ty l).trans (hty l).symm) (fun l S => by rw [hL.ev, hev])
   have hcl : constB (litE v) = true := by rw [hs.1, hc]
   have hvl : (evalV (litE v) [] nilS).1 = v := by rw [hs.2, hv]
   generalize hg : litE v = y at *
   obtain ⟨op', nm', tx', n', args'⟩ := y
   rw [foldV_mk, if_pos hcl, hvl, hg]
 · have e : (Ex.mk op nm tx n args).foldV = .mk op nm tx n (args.map Ex.foldV) := by rw [foldV_mk, if_neg hc]
   have hf1 := hf
   rw [formed_eq] at hf1
   simp only [Bool.and_eq_true, List.all_eq_true] at hf1
   have hi : ∀ a ∈ args, FoldOk a := fun a ha => ih a ha (hf1.2 a ha) (by have := levels_mem ha; simp only [Ex.levels] at h8; omega)
   have hf2 : (Ex.mk op nm tx n (args.map Ex.foldV)).formed = true := by
    rw [formed_eq]
    simp only [Bool.and_eq_true, List.all_eq_true, List.length_map]
    refine ⟨hf1.1, fun y hy => ?_⟩
    obtain ⟨a, ha, rfl⟩ := List.mem_map.1 hy
    exact (hi a ha).formed
   have hl2 : (Ex.mk op nm tx n (args.map Ex.foldV)).levels ≤ (Ex.mk op nm tx n args).levels := by
    have := levelsL_map Ex.foldV args (fun a ha => (hi a ha).levels)
    simp only [Ex.levels]
    omega
   have ht2 : ∀ l, (Ex.mk op nm tx n (args.map Ex.foldV)).ty l = (Ex.mk op nm tx n args).ty l := by
    intro l
    rw [Ex.ty, Ex.ty, tyL_map Ex.foldV l l args (fun a ha => (hi a ha).ty l)]
   have he2 : ∀ l S, (Ex.mk op nm tx n (args.map Ex.foldV)).ev l S = (Ex.mk op nm tx n args).ev l S := by
    intro l S
    rw [ev_mk, ev_mk, List.map_map]
    congr 1
    exact List.map_congr_left fun a ha => (hi a ha).ev l S
   have ho2 : (Ex.mk op nm tx n (args.map Ex.foldV)).occ = (Ex.mk op nm tx n args).occ := by
    rw [occ_mk, occ_mk, flat_map_same _ _ args (fun a ha => (hi a ha).occ)]
    rfl
   refine ⟨by rw [e]; exact hf2, by rw [e]; exact hl2, fun l => by rw [e]; exact ht2 l, fun l S => by rw [e]; exact he2 l S, by rw [e]; exact ho2, ?_, fun m => ?_, ?_⟩
   · rw [e, wins_mk, wins_mk, flat_map_same _ _ args (fun a ha => (hi a ha).wins)]
     rfl
   · rw [e, long_mk, long_mk, foldl_map_same _ args _ (fun a ha => (hi a ha).long)]
     rfl
   · rw [e, foldV_mk, if_neg, List.map_map]
     · congr 1
       exact List.map_congr_left fun a ha => (hi a ha).again
     · rw [(constB_same hf h8 hf2 (Nat.le_trans hl2 h8) ho2 ht2 he2).1]
       exact hc
/-- Folding changes no type, no value and no error. -/
theorem foldTop_ok (x : Ex) : (∀ l, checkV (foldTop x) l = checkV x l) ∧ (∀ l S, evalV (foldTop x) l S = evalV x l S) ∧ foldTop (foldTop x) = foldTop x ∧ (foldTop x).levels ≤ x.levels ∧ (foldTop x).occ = x.occ ∧ (foldTop x).wins = x.wins ∧ (foldTop x).long = x.long := by
 by_cases h : 8 < x.levels ∨ x.formed = false
 · have e : foldTop x = x := by rw [foldTop, if_pos h]
   rw [e, e]
   simp
 · have e : foldTop x = x.foldV := by rw [foldTop, if_neg h]
   have hf : x.formed = true := by
    cases hx : x.formed
    · exact absurd (Or.inr hx) h
    · rfl
   have h8 : x.levels ≤ 8 := by omega
   have hF := fold_ok x hf h8
   have h8' : x.foldV.levels ≤ 8 := Nat.le_trans hF.levels h8
   have e2 : foldTop x.foldV = x.foldV := by
    rw [foldTop, if_neg, hF.again]
    rintro (h1 | h1)
    · omega
    · rw [hF.formed] at h1; cases h1
   rw [e, e2]
   refine ⟨fun l => ?_, (constB_same hf h8 hF.formed h8' hF.occ hF.ty hF.ev).2, rfl, hF.levels, hF.occ, hF.wins, hF.long 0⟩
   rw [checkV_nil hf h8, checkV_nil hF.formed h8', hF.ty]
end Go.Proofs.YtmnhmkjmcckneaaGreatDoor
namespace Go.Proofs.YtmnhmkjmcckneaaGreatDoor
open Go.RowKit
theorem mem_upTo {α : Type} [Inhabited α] [DecidableEq α] (d : Array α) : ∀ m x, x ∈ Lib.compactUpTo d m ↔ ∃ j, j < m ∧ d[j]! = x
 | 0, x => by simp [Lib.compactUpTo]
 | m + 1, x => by
  rw [Lib.compactUpTo_succ, List.mem_append, mem_upTo d m x]
  constructor
  · rintro (⟨j, hj, rfl⟩ | h)
    · exact ⟨j, by omega, rfl⟩
    · split at h
      · simp at h; exact ⟨m, by omega, h.symm⟩
      · cases h
  · rintro ⟨j, hj, rfl⟩
    by_cases hjm : j < m
    · exact Or.inl ⟨j, hjm, rfl⟩
    · obtain rfl : j = m := by omega
      by_cases hk : Lib.keeps d j = true
      · right; rw [if_pos hk]; simp
      · left
        simp only [Lib.keeps, decide_eq_true_eq, not_or] at hk
        exact ⟨j - 1, by omega, (Decidable.not_not.1 hk.2).symm⟩
theorem mem_compact {α : Type} [Inhabited α] [DecidableEq α] (l : List α) (x : α) : x ∈ Lib.compact l ↔ x ∈ l := by
 unfold Lib.compact
 rw [mem_upTo]
 constructor
 · rintro ⟨j, hj, rfl⟩
   have e : (l.toArray)[j]! = l[j] := by simp [hj]
   rw [e]; exact List.getElem_mem hj
 · intro h
   obtain ⟨j, hj, rfl⟩ := List.mem_iff_getElem.1 h
   exact ⟨j, hj, by simp [hj]⟩
theorem mem_uniL (l : List (List UInt8)) (x : List UInt8) : x ∈ uniL l ↔ x ∈ l := by
 unfold uniL sortL
 rw [mem_compact, List.mem_mergeSort]
theorem bts_inj {a b : ByteArray} (h : bts a = bts b) : a = b := by
 obtain ⟨⟨a⟩⟩ := a
 obtain ⟨⟨b⟩⟩ := b
 simp only [bts] at h
 subst h
 rfl
theorem noW_mk {op : Int} {nm tx : ByteArray} {n : Int} {args : List Ex} (h : (Ex.mk op nm tx n args).wins = []) : ¬ (op = 16 ∨ op = 17) ∧ ∀ a ∈ args, a.wins = [] := by
 rw [wins_mk, List.append_eq_nil_iff] at h
 refine ⟨fun hop => ?_, fun a ha => List.flatMap_eq_nil_iff.1 h.2 a ha⟩
 have := h.1
 simp [win1, Ex.op, hop] at this
/-- Without counts and sums the source does not matter. -/
theorem ev_noW (l : List Feat) : ∀ x : Ex, x.wins = [] → ∀ S S', x.ev l S = x.ev l S' := by
 refine Ex.indOn ?_
 intro op nm tx n args ih h S S'
 obtain ⟨h1, h2⟩ := noW_mk h
 rw [ev_mk, ev_mk]
 have e : (args.map fun x => x.ev l S) = args.map fun x => x.ev l S' := List.map_congr_left fun a ha => ih a ha (h2 a ha) S S'
 rw [e]
 unfold evOp
 rw [if_neg h1, if_neg h1]
/-- Features that agree on the names that occur give the same type and value. -/
def Agree (x : Ex) (l m : List Feat) : Prop := ∀ nm, bts nm ∈ x.occ → findN m nm = findN l nm
theorem agree_mk {op : Int} {nm tx : ByteArray} {n : Int} {args : List Ex} {l m : List Feat} (h : Agree (.mk op nm tx n args) l m) : (op = 3 ∨ op = 16 ∨ op = 17 → findN m nm = findN l nm) ∧ ∀ a ∈ args, Agree a l m := by
 unfold Agree at h
 rw [occ_mk] at h
 refine ⟨fun hop => h nm ?_, fun a ha s hs => h s ?_⟩
 · rw [List.mem_append]; left; simp [occ1, Ex.op, hop, Ex.name]
 · rw [List.mem_append]; right; exact List.mem_flatMap.2 ⟨a, ha, hs⟩
theorem ty_agree {l m : List Feat} : ∀ x : Ex, Agree x l m → x.ty m = x.ty l := by
 refine Ex.indOn ?_
 intro op nm tx n args ih h
 obtain ⟨h1, h2⟩ := agree_mk h
 have e := tyL_map id m l args (fun a ha => ih a ha (h2 a ha))
 rw [List.map_id] at e
 rw [Ex.ty, Ex.ty, e]
 by_cases hop : op = 3 ∨ op = 16 ∨ op = 17
 · rw [h1 hop]
 · simp only [if_neg hop]
theorem ev_agree {l m : List Feat} (S : Bool → ByteArray → Int → Int) : ∀ x : Ex, Agree x l m → x.ev m S = x.ev l S := by
 refine Ex.indOn ?_
 intro op nm tx n args ih h
 obtain ⟨h1, h2⟩ := agree_mk h
 rw [ev_mk, ev_mk]
 have e : (args.map fun x => x.ev m S) = args.map fun x => x.ev l S := List.map_congr_left fun a ha => ih a ha (h2 a ha)
 rw [e]
 unfold evOp
 by_cases h3 : op = 3
 · have := h1 (Or.inl h3)
   unfold featOf
   rw [this]
 · rw [if_neg h3, if_neg h3]
/-- The feature that stands for one whose name does not occur. -/
def swapF (used : List (List UInt8)) (n : Int) (f : Feat) : Feat := if bts f.name ∈ used then f else ⟨f.name, 1, n, emS⟩
theorem swap_name (used : List (List UInt8)) (n : Int) (f : Feat) : (swapF used n f).name = f.name := by unfold swapF; split <;> rfl
theorem swap_featE (used : List (List UInt8)) (n : Int) (hn : nbrB n = true) (f : Feat) (h : featE f = 0) : featE (swapF used n f) = 0 := by
 unfold swapF
 split
 · exact h
 · unfold featE at h ⊢
   by_cases h1 : nameB f.name = false
   · rw [if_pos h1] at h; omega
   · rw [if_neg h1, if_pos]
     exact Or.inr (Or.inl ⟨rfl, hn⟩)
theorem find_swap (used : List (List UInt8)) (n : Int) (nm : ByteArray) : ∀ l : List Feat, findN (l.map (swapF used n)) nm = (findN l nm).map (swapF used n)
 | [] => rfl
 | f :: r => by
  unfold findN
  rw [List.map_cons, List.find?_cons, List.find?_cons, swap_name]
  by_cases h : f.name = nm
  · simp [h]
  · simp only [h, decide_false]
    exact find_swap used n nm r
theorem namesE_swap (used : List (List UInt8)) (n : Int) (hn : nbrB n = true) : ∀ (l before : List Feat), namesE before l = 0 → namesE (before.map (swapF used n)) (l.map (swapF used n)) = 0
 | [], _, _ => rfl
 | f :: r, before, h => by
  rw [List.map_cons, namesE]
  rw [namesE] at h
  by_cases h1 : featE f ≠ 0
  · rw [if_pos h1] at h; omega
  · rw [if_neg h1] at h
    rw [if_neg (by have := swap_featE used n hn f (by omega); omega), swap_name, find_swap, Option.isSome_map]
    by_cases h2 : (findN before f.name).isSome = true
    · rw [if_pos h2] at h; cases h
    · rw [if_neg h2] at h ⊢
      have := namesE_swap used n hn r (before ++ [f]) h
      rw [List.map_append] at this
      exact this
theorem agree_swap (x : Ex) (l : List Feat) (n : Int) : Agree x l (l.map (swapF (uniL x.occ) n)) := by
 intro nm hm
 rw [find_swap]
 cases hf : findN l nm with
 | none => rfl
 | some f =>
  have hnm : f.name = nm := (findN_mem hf).2
  simp only [Option.map_some, Option.some.injEq]
  unfold swapF
  rw [if_pos]
  rw [hnm, mem_uniL]
  exact hm
/-- The value depends on features and uses that occur alone. -/
theorem evalV_swap {x : Ex} {l : List Feat} {S : Bool → ByteArray → Int → Int} (h : (evalV x l S).2 = 0) {n : Int} (hn : nbrB n = true) : evalV x (l.map (swapF (uniL x.occ) n)) S = evalV x l S := by
 have hA := agree_swap x l n
 unfold evalV at h ⊢
 by_cases h0 : (checkV x l).2 ≠ 0
 · rw [if_pos h0] at h; exact absurd h h0
 · obtain ⟨h1, h2, h3, h4⟩ := checkV_ok (show (checkV x l).2 = 0 by omega)
   have hc : checkV x (l.map (swapF (uniL x.occ) n)) = checkV x l := by
    have := namesE_swap (uniL x.occ) n hn l [] h1
    rw [List.map_nil] at this
    rw [checkV_nil h3 h2, checkV_nil h3 h2, ty_agree x hA, if_neg (show ¬ namesE [] l ≠ 0 by omega), if_neg (show ¬ namesE [] (l.map (swapF (uniL x.occ) n)) ≠ 0 by omega)]
   rw [hc, ev_agree S x hA]
theorem evalV_noW {x : Ex} (l : List Feat) (S S' : Bool → ByteArray → Int → Int) (h : x.wins = []) : evalV x l S = evalV x l S' := by
 unfold evalV
 rw [ev_noW l x h S S']
end Go.Proofs.YtmnhmkjmcckneaaGreatDoor
namespace Go.Proofs.YtmnhmkjmcckneaaGreatDoor
open Go.RowKit
abbrev Bs := List UInt8
theorem bs_total (a b : Bs) : a ≤ b ∨ b ≤ a := List.le_total a b
theorem bs_trans {a b c : Bs} (h : a ≤ b) (k : b ≤ c) : a ≤ c := List.le_trans h k
theorem bs_anti {a b : Bs} (h : a ≤ b) (k : b ≤ a) : a = b := List.le_antisymm h k
theorem bs_lt_of {a b : Bs} (h : a ≤ b) (k : a ≠ b) : a < b := by
 apply Decidable.byContradiction
 intro hn
 exact k (bs_anti h (List.not_lt.1 hn))
theorem bs_ne {a b : Bs} (h : a < b) : a ≠ b := by
 rintro rfl
 exact List.lt_irrefl a h
theorem bs_le {a b : Bs} (h : a < b) : a ≤ b := List.le_of_lt h
theorem bs_lt_le {a b c : Bs} (h : a < b) (k : b ≤ c) : a < c := by
 refine bs_lt_of (bs_trans (bs_le h) k) ?_
 rintro rfl
 exact (List.not_lt.2 k) h
theorem bs_lt_trans {a b c : Bs} (h : a < b) (k : b < c) : a < c := bs_lt_le h (bs_le k)
/-- Insertion in ascending order, once. -/
def addV : List Bs → Bs → List Bs
 | [], s => [s]
 | y :: r, s => if s ≤ y then (if s < y then s :: y :: r else y :: r) else y :: addV r s
def Asc (l : List Bs) : Prop := l.Pairwise (· < ·)
theorem mem_addV : ∀ (l : List Bs) (s y : Bs), y ∈ addV l s ↔ y = s ∨ y ∈ l
 | [], s, y => by simp [addV]
 | z :: r, s, y => by
  rw [addV]
  by_cases h : s ≤ z
  · rw [if_pos h]
    by_cases h2 : s < z
    · rw [if_pos h2]; simp
    · rw [if_neg h2]
      have : s = z := bs_anti h (List.not_lt.1 h2)
      subst this
      simp
  · rw [if_neg h]
    simp only [List.mem_cons, mem_addV r s y]
    constructor
    · rintro (h | h | h) <;> simp [h]
    · rintro (h | h | h) <;> simp [h]
theorem asc_addV : ∀ (l : List Bs) (s : Bs), Asc l → Asc (addV l s)
 | [], s, _ => by simp [addV, Asc]
 | z :: r, s, h => by
  unfold Asc at h ⊢
  obtain ⟨h1, h2⟩ := List.pairwise_cons.1 h
  rw [addV]
  by_cases hs : s ≤ z
  · rw [if_pos hs]
    by_cases hs2 : s < z
    · rw [if_pos hs2]
      refine List.pairwise_cons.2 ⟨fun y hy => ?_, h⟩
      rcases List.mem_cons.1 hy with rfl | hy
      · exact hs2
      · exact bs_lt_trans hs2 (h1 y hy)
    · rw [if_neg hs2]; exact h
  · rw [if_neg hs]
    refine List.pairwise_cons.2 ⟨fun y hy => ?_, asc_addV r s h2⟩
    rcases (mem_addV r s y).1 hy with rfl | hy
    · exact List.not_le.1 hs
    · exact h1 y hy
theorem asc_ext : ∀ (l k : List Bs), Asc l → Asc k → (∀ y, y ∈ l ↔ y ∈ k) → l = k
 | [], k, _, _, h => by
  cases k with
  | nil => rfl
  | cons y r => exact absurd ((h y).2 (List.mem_cons_self ..)) (by simp)
 | x :: l, [], _, _, h => absurd ((h x).1 (List.mem_cons_self ..)) (by simp)
 | x :: l, z :: k, hl, hk, h => by
  obtain ⟨l1, l2⟩ := List.pairwise_cons.1 hl
  obtain ⟨k1, k2⟩ := List.pairwise_cons.1 hk
  have e : x = z := by
   rcases List.mem_cons.1 ((h x).1 (List.mem_cons_self ..)) with hx | hx
   · exact hx
   · rcases List.mem_cons.1 ((h z).2 (List.mem_cons_self ..)) with hz | hz
     · exact hz.symm
     · exact absurd (bs_lt_trans (k1 x hx) (l1 z hz)) (List.lt_irrefl z)
  subst e
  congr 1
  refine asc_ext l k l2 k2 fun y => ⟨fun hy => ?_, fun hy => ?_⟩
  · rcases List.mem_cons.1 ((h y).1 (List.mem_cons_of_mem _ hy)) with rfl | hy2
    · exact absurd (l1 y hy) (List.lt_irrefl y)
    · exact hy2
  · rcases List.mem_cons.1 ((h y).2 (List.mem_cons_of_mem _ hy)) with rfl | hy2
    · exact absurd (k1 y hy) (List.lt_irrefl y)
    · exact hy2
theorem upTo_asc (d : Array Bs) (hs : ∀ i j, i ≤ j → j < d.size → d[i]! ≤ d[j]!) : ∀ m, m ≤ d.size → Asc (Lib.compactUpTo d m)
 | 0, _ => by simp [Lib.compactUpTo, Asc]
 | m + 1, hm => by
  rw [Lib.compactUpTo_succ]
  have ih := upTo_asc d hs m (by omega)
  by_cases hk : Lib.keeps d m = true
  · rw [if_pos hk]
    refine List.pairwise_append.2 ⟨ih, by simp, fun a ha b hb => ?_⟩
    obtain rfl : b = d[m]! := by simpa using hb
    obtain ⟨j, hj, rfl⟩ := (mem_upTo d m a).1 ha
    simp only [Lib.keeps, decide_eq_true_eq] at hk
    have h1 := hs j (m - 1) (by omega) (by omega)
    have h2 := hs (m - 1) m (by omega) (by omega)
    have h3 : d[m - 1]! < d[m]! := bs_lt_of h2 (by rcases hk with h | h; omega; exact Ne.symm h)
    apply Decidable.byContradiction
    intro hn
    exact (List.not_lt.2 (bs_trans (List.not_lt.1 hn) h1)) h3
  · rw [if_neg hk, List.append_nil]; exact ih
theorem sortL_sorted (l : List Bs) : (sortL l).Pairwise (· ≤ ·) := by
 unfold sortL
 have h := List.pairwise_mergeSort (le := fun x y : Bs => decide (x ≤ y)) (fun a b c h k => by simp only [decide_eq_true_eq] at *; exact bs_trans h k) (fun a b => by simp only [Bool.or_eq_true, decide_eq_true_eq]; exact bs_total a b) l
 exact h.imp fun h => by simpa using h
theorem uniL_asc (l : List Bs) : Asc (uniL l) := by
 unfold uniL Lib.compact
 refine upTo_asc _ (fun i j hij hj => ?_) _ (by simp)
 have hj' : j < (sortL l).length := by simpa using hj
 have e : ∀ i, i < (sortL l).length → ((sortL l).toArray)[i]! = (sortL l).getD i [] := by
  intro i hi
  simp [List.getD_eq_getElem?_getD, hi]
 have hi' : i < (sortL l).length := by omega
 rw [e i hi', e j hj']
 by_cases h : i = j
 · subst h; exact (bs_total _ _).elim id id
 · have hp := (List.pairwise_iff_getElem.1 (sortL_sorted l)) i j hi' hj' (by omega)
   simpa [List.getD_eq_getElem?_getD, hi', hj'] using hp
/-- Insertion one by one gives the sorted list without doublets. -/
theorem fold_addV (l : List Bs) : l.foldl addV [] = uniL l := by
 have h : ∀ (l acc : List Bs), Asc acc → Asc (l.foldl addV acc) ∧ ∀ y, y ∈ l.foldl addV acc ↔ y ∈ acc ∨ y ∈ l := by
  intro l
  induction l with
  | nil => intro acc h; simp [h]
  | cons s r ih =>
   intro acc h
   obtain ⟨h1, h2⟩ := ih (addV acc s) (asc_addV acc s h)
   refine ⟨h1, fun y => ?_⟩
   rw [List.foldl_cons, h2, mem_addV, List.mem_cons]
   constructor
   · rintro ((h | h) | h) <;> simp [h]
   · rintro (h | h | h) <;> simp [h]
 obtain ⟨h1, h2⟩ := h l [] (by simp [Asc])
 exact asc_ext _ _ h1 (uniL_asc l) fun y => by rw [h2, mem_uniL]; simp
end Go.Proofs.YtmnhmkjmcckneaaGreatDoor
