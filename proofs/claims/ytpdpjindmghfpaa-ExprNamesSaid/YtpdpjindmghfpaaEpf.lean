/- Folding changes no type, no value, no error, no names (plain facts). -/
import Derived.Test.YtpdpjindmghfpaaEft
import Derived.Test.YtpdpjindmghfpaaErs
namespace Go.Proofs.Ytpdpjindmghfpaa
open Go.RowKit
theorem partsL_flat : ∀ l : List Ex, Ex.parts.partsL l = l.flatMap Ex.parts
  | [] => rfl
  | x :: r => by rw [Ex.parts.partsL, partsL_flat r, List.flatMap_cons]
theorem occ_mk (op : Int) (nm tx : ByteArray) (n : Int) (args : List Ex) : (Ex.mk op nm tx n args).occ = occ1 (.mk op nm tx n args) ++ args.flatMap Ex.occ := by
  unfold Ex.occ
  rw [parts_mk, partsL_flat, List.flatMap_cons, List.flatMap_assoc]
theorem wins_mk (op : Int) (nm tx : ByteArray) (n : Int) (args : List Ex) : (Ex.mk op nm tx n args).wins = win1 (.mk op nm tx n args) ++ args.flatMap Ex.wins := by
  unfold Ex.wins
  rw [parts_mk, partsL_flat, List.flatMap_cons, List.flatMap_assoc]
def longF (m : Int) (x : Ex) : Int := x.parts.foldl long1 m
theorem foldl_parts : ∀ (l : List Ex) (m : Int), (l.flatMap Ex.parts).foldl long1 m = l.foldl longF m
  | [], m => rfl
  | x :: r, m => by rw [List.flatMap_cons, List.foldl_append, List.foldl_cons, foldl_parts r]; rfl
theorem long_mk (op : Int) (nm tx : ByteArray) (n : Int) (args : List Ex) (m : Int) : longF m (.mk op nm tx n args) = args.foldl longF (long1 m (.mk op nm tx n args)) := by
  unfold longF
  rw [parts_mk, partsL_flat, List.foldl_cons, foldl_parts]
  rfl
theorem foldl_map_same (f : Ex → Ex) : ∀ (l : List Ex) (m : Int), (∀ a ∈ l, ∀ m, longF m (f a) = longF m a) → (l.map f).foldl longF m = l.foldl longF m
  | [], m, _ => rfl
  | x :: r, m, h => by
    rw [List.map_cons, List.foldl_cons, List.foldl_cons, h x (List.mem_cons_self ..), foldl_map_same f r _ (fun a ha => h a (List.mem_cons_of_mem _ ha))]
theorem flat_map_same {β : Type} (f : Ex → Ex) (g : Ex → List β) : ∀ (l : List Ex), (∀ a ∈ l, g (f a) = g a) → (l.map f).flatMap g = l.flatMap g
  | [], _ => rfl
  | x :: r, h => by
    rw [List.map_cons, List.flatMap_cons, List.flatMap_cons, h x (List.mem_cons_self ..), flat_map_same f g r (fun a ha => h a (List.mem_cons_of_mem _ ha))]
theorem noN_mk {op : Int} {nm tx : ByteArray} {n : Int} {args : List Ex} (h : (Ex.mk op nm tx n args).occ = []) : ¬ (op = 3 ∨ op = 16 ∨ op = 17) ∧ ∀ a ∈ args, a.occ = [] := by
  rw [occ_mk, List.append_eq_nil_iff] at h
  refine ⟨fun hop => ?_, fun a ha => List.flatMap_eq_nil_iff.1 h.2 a ha⟩
  have := h.1
  simp [occ1, Ex.op, hop] at this
theorem noN_long : ∀ x : Ex, x.occ = [] → ∀ m, longF m x = m := by
  refine Ex.indOn ?_
  intro op nm tx n args ih h m
  obtain ⟨h1, h2⟩ := noN_mk h
  rw [long_mk]
  have e1 : long1 m (.mk op nm tx n args) = m := by
    unfold long1
    rw [if_neg]
    simp only [Ex.op]
    omega
  rw [e1]
  have : ∀ (l : List Ex), (∀ a ∈ l, ∀ m, longF m a = m) → ∀ m, l.foldl longF m = m := by
    intro l
    induction l with
    | nil => intro _ m; rfl
    | cons a r ihl =>
      intro hl m
      rw [List.foldl_cons, hl a (List.mem_cons_self ..)]
      exact ihl (fun b hb => hl b (List.mem_cons_of_mem _ hb)) m
  exact this args (fun a ha => ih a ha (h2 a ha)) m
theorem noN_wins : ∀ x : Ex, x.occ = [] → x.wins = [] := by
  refine Ex.indOn ?_
  intro op nm tx n args ih h
  obtain ⟨h1, h2⟩ := noN_mk h
  rw [wins_mk, List.append_eq_nil_iff]
  refine ⟨?_, List.flatMap_eq_nil_iff.2 fun a ha => ih a ha (h2 a ha)⟩
  unfold win1
  rw [if_neg]
  simp only [Ex.op]
  omega
theorem tyL_map (f : Ex → Ex) (l l' : List Feat) : ∀ (args : List Ex), (∀ a ∈ args, (f a).ty l = a.ty l') → Ex.ty.tyL l (args.map f) = Ex.ty.tyL l' args
  | [], _ => rfl
  | x :: r, h => by
    rw [List.map_cons, Ex.ty.tyL, Ex.ty.tyL, h x (List.mem_cons_self ..), tyL_map f l l' r (fun a ha => h a (List.mem_cons_of_mem _ ha))]
theorem ty_noN : ∀ x : Ex, x.occ = [] → ∀ l l', x.ty l = x.ty l' := by
  refine Ex.indOn ?_
  intro op nm tx n args ih h l l'
  obtain ⟨h1, h2⟩ := noN_mk h
  have e := tyL_map id l l' args (fun a ha => ih a ha (h2 a ha) l l')
  rw [List.map_id] at e
  rw [Ex.ty, Ex.ty, e]
  simp only [if_neg h1]
theorem ev_noN : ∀ x : Ex, x.occ = [] → ∀ l l' S S', x.ev l S = x.ev l' S' := by
  refine Ex.indOn ?_
  intro op nm tx n args ih h l l' S S'
  obtain ⟨h1, h2⟩ := noN_mk h
  rw [ev_mk, ev_mk]
  have e : (args.map fun x => x.ev l S) = args.map fun x => x.ev l' S' := List.map_congr_left fun a ha => ih a ha (h2 a ha) l l' S S'
  rw [e]
  unfold evOp
  rw [if_neg (show ¬ op = 3 by omega), if_neg (show ¬ (op = 16 ∨ op = 17) by omega), if_neg (show ¬ op = 3 by omega), if_neg (show ¬ (op = 16 ∨ op = 17) by omega)]
/-- What is true of the literal of a value. -/
structure LitOk (k : Int) (v : Feat) : Prop where
  formed : (litE v).formed = true
  ty : ∀ l, (litE v).ty l = (k, 0)
  ev : ∀ l S, (litE v).ev l S = some v
  occ : (litE v).occ = []
  lv2 : (litE v).levels ≤ 2
  lv1 : k ≠ 3 → (litE v).levels ≤ 1
theorem litOk {k : Int} {v : Feat} (h : WellF k v) (h2 : k = 2 → litB v.text = true) : LitOk k v := by
  obtain ⟨vn, vk, vi, vt⟩ := v
  obtain ⟨e1, e2, h⟩ := h
  simp only at e1 e2 h h2
  subst e1 e2
  rcases h with ⟨rfl, hn, rfl⟩ | ⟨rfl, rfl⟩ | ⟨rfl, hn, rfl⟩
  · refine ⟨?_, fun l => ?_, fun l S => ?_, ?_, ?_, fun _ => ?_⟩
    · simp [litE, leafN, formed_eq, hasFv, hn, empB, emS, ByteArray.size]
    · simp [litE, leafN, Ex.ty, Ex.ty.tyL, byK]
    · simp [litE, leafN, ev_mk, evOp, numF]
    · rw [litE, if_pos rfl, leafN, occ_mk]; simp [occ1, Ex.op]
    · simp [litE, leafN, Ex.levels, Ex.levels.levelsL]
    · simp [litE, leafN, Ex.levels, Ex.levels.levelsL]
  · have hl := h2 rfl
    refine ⟨?_, fun l => ?_, fun l S => ?_, ?_, ?_, fun _ => ?_⟩
    · simp [litE, formed_eq, hasFv, hl, empB, emS, ByteArray.size]
    · simp [litE, Ex.ty, Ex.ty.tyL, byK]
    · simp [litE, ev_mk, evOp, txtF]
    · rw [litE, if_neg (by simp), if_pos rfl, occ_mk]; simp [occ1, Ex.op]
    · simp [litE, Ex.levels, Ex.levels.levelsL]
    · simp [litE, Ex.levels, Ex.levels.levelsL]
  · have hl : litE ⟨emS, 3, vi, emS⟩ = .mk 8 emS emS 0 [leafN 1, leafN (2 - vi)] := rfl
    have hb1 : nbrB 1 = true := by decide
    have hb2 : nbrB (2 - vi) = true := by rcases hn with rfl | rfl <;> decide
    refine ⟨?_, fun l => ?_, fun l S => ?_, ?_, ?_, fun h => absurd rfl h⟩
    · rw [hl]; simp [leafN, formed_eq, hasFv, hb1, hb2, empB, emS, ByteArray.size]
    · rw [hl]; simp [leafN, Ex.ty, Ex.ty.tyL, byK, allK]
    · rw [hl, ev_mk]
      rcases hn with rfl | rfl <;> simp [leafN, ev_mk, evOp, numF, comb, truthF]
    · rw [hl, occ_mk]; simp [occ1, Ex.op, leafN, occ_mk]
    · rw [hl]; simp [leafN, Ex.levels, Ex.levels.levelsL]
theorem byK_text {op : Int} {ks : List Int} (_h : ¬ (op = 3 ∨ op = 16 ∨ op = 17)) (hb : byK op 0 ks = 2) : op = 2 := by
  unfold byK at hb
  by_cases h2 : op = 2
  · exact h2
  · rw [if_neg h2, if_neg (show ¬ op = 3 by omega), if_neg (show ¬ (op = 16 ∨ op = 17) by omega)] at hb
    repeat' split at hb
    all_goals omega
theorem checkV_nil {x : Ex} (hf : x.formed = true) (h8 : x.levels ≤ 8) (l : List Feat) : checkV x l = if namesE [] l ≠ 0 then (0, namesE [] l) else x.ty l := by
  unfold checkV
  rw [if_neg (show ¬ 8 < x.levels by omega), if_neg (show ¬ x.formed = false by rw [hf]; simp)]
/-- What a constant part is. -/
theorem const_lit {x : Ex} (hf : x.formed = true) (h8 : x.levels ≤ 8) (hc : constB x = true) : x.occ = [] ∧ ∃ v, (evalV x [] nilS).1 = v ∧ LitOk (x.ty []).1 v ∧ (∀ l, x.ty l = ((x.ty []).1, 0)) ∧ (∀ l S, x.ev l S = some v) ∧ ((x.ty []).1 = 3 → 2 ≤ x.levels) := by
  unfold constB at hc
  simp only [Bool.and_eq_true, List.isEmpty_iff, decide_eq_true_eq] at hc
  obtain ⟨ho, he⟩ := hc
  refine ⟨ho, ?_⟩
  unfold evalV at he ⊢
  by_cases h0 : (checkV x []).2 ≠ 0
  · rw [if_pos h0] at he; exact absurd he h0
  · rw [if_neg h0] at he ⊢
    obtain ⟨-, -, -, ht⟩ := checkV_ok (show (checkV x []).2 = 0 by omega)
    cases hv : x.ev [] nilS with
    | none => rw [hv] at he; cases he
    | some v =>
      have hw := ev_typed [] rfl nilS x hf ht v hv
      refine ⟨v, rfl, litOk hw ?_, fun l => ?_, fun l S => by rw [ev_noN x ho l [] S nilS, hv], ?_⟩
      · intro h2
        obtain ⟨op, nm, tx, n, args⟩ := x
        obtain ⟨hn, -⟩ := noN_mk ho
        obtain ⟨-, fk, hfk, hb, hk⟩ := ty_inv ht
        rw [fkOf, if_neg hn] at hfk
        injection hfk with hfk
        subst hfk
        rw [hk] at h2
        obtain rfl := byK_text hn h2
        rw [formed_eq] at hf
        simp only [Bool.and_eq_true] at hf
        rw [ev_mk] at hv
        simp [evOp] at hv
        subst hv
        simp [hasFv] at hf
        exact hf.1.1.1.1
      · rw [ty_noN x ho l []]
        rw [← ht]
      · intro h3
        obtain ⟨op, nm, tx, n, args⟩ := x
        obtain ⟨hn, -⟩ := noN_mk ho
        obtain ⟨-, fk, hfk, hb, hk⟩ := ty_inv ht
        rw [fkOf, if_neg hn] at hfk
        injection hfk with hfk
        subst hfk
        rw [hk] at h3
        rw [formed_eq] at hf
        simp only [Bool.and_eq_true] at hf
        rcases fv_cut hf.1 with ⟨h, hl⟩ | ⟨h, hl⟩ | ⟨h, hl⟩ | ⟨h, hl⟩
        · rcases h with rfl | rfl | rfl | rfl | rfl
          · simp [byK] at h3
          · simp [byK] at h3
          all_goals omega
        all_goals
          cases args with
          | nil => simp at hl
          | cons a r =>
            have := levels_pos a
            simp only [Ex.levels, Ex.levels.levelsL]
            omega
structure FoldOk (x : Ex) : Prop where
  formed : x.foldV.formed = true
  levels : x.foldV.levels ≤ x.levels
  ty : ∀ l, x.foldV.ty l = x.ty l
  ev : ∀ l S, x.foldV.ev l S = x.ev l S
  occ : x.foldV.occ = x.occ
  wins : x.foldV.wins = x.wins
  long : ∀ m, longF m x.foldV = longF m x
  again : x.foldV.foldV = x.foldV
theorem levelsL_map (f : Ex → Ex) : ∀ (l : List Ex), (∀ a ∈ l, (f a).levels ≤ a.levels) → Ex.levels.levelsL (l.map f) ≤ Ex.levels.levelsL l
  | [], _ => Nat.le_refl _
  | x :: r, h => by
    have h1 := h x (List.mem_cons_self ..)
    have h2 := levelsL_map f r (fun a ha => h a (List.mem_cons_of_mem _ ha))
    simp only [List.map_cons, Ex.levels.levelsL]
    omega
theorem levels_mem {a : Ex} {l : List Ex} (h : a ∈ l) : a.levels ≤ Ex.levels.levelsL l := by
  induction l with
  | nil => cases h
  | cons x r ih =>
    simp only [Ex.levels.levelsL]
    rcases List.mem_cons.1 h with rfl | h
    · omega
    · have := ih h; omega
theorem evalV_ok {x : Ex} (hf : x.formed = true) (h8 : x.levels ≤ 8) (l : List Feat) (S : Bool → ByteArray → Int → Int) : evalV x l S = if (if namesE [] l ≠ 0 then (0, namesE [] l) else x.ty l).2 ≠ 0 then (fD, (if namesE [] l ≠ 0 then (0, namesE [] l) else x.ty l).2) else match x.ev l S with | none => (fD, 4) | some v => (v, 0) := by
  unfold evalV
  rw [checkV_nil hf h8]
  cases x.ev l S <;> rfl
theorem constB_same {x y : Ex} (hf : x.formed = true) (h8 : x.levels ≤ 8) (hf' : y.formed = true) (h8' : y.levels ≤ 8) (ho : y.occ = x.occ) (ht : ∀ l, y.ty l = x.ty l) (he : ∀ l S, y.ev l S = x.ev l S) : constB y = constB x ∧ ∀ l S, evalV y l S = evalV x l S := by
  have h : ∀ l S, evalV y l S = evalV x l S := by
    intro l S
    rw [evalV_ok hf h8, evalV_ok hf' h8', ht, he]
  refine ⟨?_, h⟩
  unfold constB
  rw [h, ho]
theorem fold_ok : ∀ x : Ex, x.formed = true → x.levels ≤ 8 → FoldOk x := by
  refine Ex.indOn ?_
  intro op nm tx n args ih hf h8
  by_cases hc : constB (.mk op nm tx n args) = true
  · obtain ⟨ho, v, hv, hL, hty, hev, h3⟩ := const_lit hf h8 hc
    have e : (Ex.mk op nm tx n args).foldV = litE v := by rw [foldV_mk, if_pos hc, hv]
    have hlv : (litE v).levels ≤ (Ex.mk op nm tx n args).levels := by
      by_cases hk : ((Ex.mk op nm tx n args).ty []).1 = 3
      · have := h3 hk; have := hL.lv2; omega
      · have := hL.lv1 hk; have := levels_pos (Ex.mk op nm tx n args); omega
    refine ⟨by rw [e]; exact hL.formed, by rw [e]; exact hlv, fun l => by rw [e]; exact (hL.ty l).trans (hty l).symm, fun l S => by rw [e, hL.ev, hev], by rw [e, hL.occ, ho], by rw [e, noN_wins _ hL.occ, noN_wins _ ho], fun m => by rw [e, noN_long _ hL.occ, noN_long _ ho], ?_⟩
    rw [e]
    have hs := constB_same hf h8 hL.formed (Nat.le_trans hlv h8) (by rw [hL.occ, ho]) (fun l => (hL.ty l).trans (hty l).symm) (fun l S => by rw [hL.ev, hev])
    have hcl : constB (litE v) = true := by rw [hs.1, hc]
    have hvl : (evalV (litE v) [] nilS).1 = v := by rw [hs.2, hv]
    generalize hg : litE v = y at *
    obtain ⟨op', nm', tx', n', args'⟩ := y
    rw [foldV_mk, if_pos hcl, hvl, hg]
  · have e : (Ex.mk op nm tx n args).foldV = .mk op nm tx n (args.map Ex.foldV) := by rw [foldV_mk, if_neg hc]
    have hf1 := hf
    rw [formed_eq] at hf1
    simp only [Bool.and_eq_true, List.all_eq_true] at hf1
    have hi : ∀ a ∈ args, FoldOk a := fun a ha => ih a ha (hf1.2 a ha) (by have := levels_mem ha; simp only [Ex.levels] at h8; omega)
    have hf2 : (Ex.mk op nm tx n (args.map Ex.foldV)).formed = true := by
      rw [formed_eq]
      simp only [Bool.and_eq_true, List.all_eq_true, List.length_map]
      refine ⟨hf1.1, fun y hy => ?_⟩
      obtain ⟨a, ha, rfl⟩ := List.mem_map.1 hy
      exact (hi a ha).formed
    have hl2 : (Ex.mk op nm tx n (args.map Ex.foldV)).levels ≤ (Ex.mk op nm tx n args).levels := by
      have := levelsL_map Ex.foldV args (fun a ha => (hi a ha).levels)
      simp only [Ex.levels]
      omega
    have ht2 : ∀ l, (Ex.mk op nm tx n (args.map Ex.foldV)).ty l = (Ex.mk op nm tx n args).ty l := by
      intro l
      rw [Ex.ty, Ex.ty, tyL_map Ex.foldV l l args (fun a ha => (hi a ha).ty l)]
    have he2 : ∀ l S, (Ex.mk op nm tx n (args.map Ex.foldV)).ev l S = (Ex.mk op nm tx n args).ev l S := by
      intro l S
      rw [ev_mk, ev_mk, List.map_map]
      congr 1
      exact List.map_congr_left fun a ha => (hi a ha).ev l S
    have ho2 : (Ex.mk op nm tx n (args.map Ex.foldV)).occ = (Ex.mk op nm tx n args).occ := by
      rw [occ_mk, occ_mk, flat_map_same _ _ args (fun a ha => (hi a ha).occ)]
      rfl
    refine ⟨by rw [e]; exact hf2, by rw [e]; exact hl2, fun l => by rw [e]; exact ht2 l, fun l S => by rw [e]; exact he2 l S, by rw [e]; exact ho2, ?_, fun m => ?_, ?_⟩
    · rw [e, wins_mk, wins_mk, flat_map_same _ _ args (fun a ha => (hi a ha).wins)]
      rfl
    · rw [e, long_mk, long_mk, foldl_map_same _ args _ (fun a ha => (hi a ha).long)]
      rfl
    · rw [e, foldV_mk, if_neg, List.map_map]
      · congr 1
        exact List.map_congr_left fun a ha => (hi a ha).again
      · rw [(constB_same hf h8 hf2 (Nat.le_trans hl2 h8) ho2 ht2 he2).1]
        exact hc
/-- Folding changes no type, no value and no error. -/
theorem foldTop_ok (x : Ex) : (∀ l, checkV (foldTop x) l = checkV x l) ∧ (∀ l S, evalV (foldTop x) l S = evalV x l S) ∧ foldTop (foldTop x) = foldTop x ∧ (foldTop x).levels ≤ x.levels ∧ (foldTop x).occ = x.occ ∧ (foldTop x).wins = x.wins ∧ (foldTop x).long = x.long := by
  by_cases h : 8 < x.levels ∨ x.formed = false
  · have e : foldTop x = x := by rw [foldTop, if_pos h]
    rw [e, e]
    simp
  · have e : foldTop x = x.foldV := by rw [foldTop, if_neg h]
    have hf : x.formed = true := by
      cases hx : x.formed
      · exact absurd (Or.inr hx) h
      · rfl
    have h8 : x.levels ≤ 8 := by omega
    have hF := fold_ok x hf h8
    have h8' : x.foldV.levels ≤ 8 := Nat.le_trans hF.levels h8
    have e2 : foldTop x.foldV = x.foldV := by
      rw [foldTop, if_neg, hF.again]
      rintro (h1 | h1)
      · omega
      · rw [hF.formed] at h1; cases h1
    rw [e, e2]
    refine ⟨fun l => ?_, (constB_same hf h8 hF.formed h8' hF.occ hF.ty hF.ev).2, rfl, hF.levels, hF.occ, hF.wins, hF.long 0⟩
    rw [checkV_nil hf h8, checkV_nil hF.formed h8', hF.ty]
end Go.Proofs.Ytpdpjindmghfpaa
