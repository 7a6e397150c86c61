/- Values of the expressions of the law ExprOrders (plain facts). -/
import Derived.Test.YtpdpjindmghfpaaEnp
import Derived.Test.YtpdpjindmghfpaaElw
namespace Go.Proofs.Ytpdpjindmghfpaa
open Go.RowKit
def leafS (s : ByteArray) : Ex := .mk 3 s emS 0 []
def ofB (p : Bool) : Int := if p then 1 else 0
/-- The features of the law ExprOrders. -/
def ordL (a b pn qn : Int) : List Feat := [⟨⟨#[97]⟩, 1, a, emS⟩, ⟨⟨#[98]⟩, 1, b, emS⟩, ⟨⟨#[112]⟩, 3, pn, emS⟩, ⟨⟨#[113]⟩, 3, qn, emS⟩]
theorem find_a (a b pn qn : Int) : findN (ordL a b pn qn) ⟨#[97]⟩ = some ⟨⟨#[97]⟩, 1, a, emS⟩ := rfl
theorem find_b (a b pn qn : Int) : findN (ordL a b pn qn) ⟨#[98]⟩ = some ⟨⟨#[98]⟩, 1, b, emS⟩ := rfl
theorem find_p (a b pn qn : Int) : findN (ordL a b pn qn) ⟨#[112]⟩ = some ⟨⟨#[112]⟩, 3, pn, emS⟩ := rfl
theorem find_q (a b pn qn : Int) : findN (ordL a b pn qn) ⟨#[113]⟩ = some ⟨⟨#[113]⟩, 3, qn, emS⟩ := rfl
theorem ord_names {a b pn qn : Int} (ha : nbrB a = true) (hb : nbrB b = true) (hp : pn = 0 ∨ pn = 1) (hq : qn = 0 ∨ qn = 1) : namesE [] (ordL a b pn qn) = 0 := by
  have n1 : nameB ⟨#[97]⟩ = true := by decide
  have n2 : nameB ⟨#[98]⟩ = true := by decide
  have n3 : nameB ⟨#[112]⟩ = true := by decide
  have n4 : nameB ⟨#[113]⟩ = true := by decide
  simp [ordL, namesE, featE, n1, n2, n3, n4, ha, hb, hp, hq, findN]
/-- The value of a well-formed expression. -/
theorem evalV_val {x : Ex} {l : List Feat} {k : Int} {v : Feat} (h1 : namesE [] l = 0) (h2 : x.levels ≤ 8) (h3 : x.formed = true) (h4 : x.ty l = (k, 0)) (S : Bool → ByteArray → Int → Int) (h5 : x.ev l S = some v) : evalV x l S = (v, 0) := by
  unfold evalV
  rw [checkV_nil h3 h2, if_neg (show ¬ namesE [] l ≠ 0 by omega), h4, h5]
  rfl
theorem isV_truth (b : Bool) : isV (truthF b, 0) = b := by cases b <;> rfl
theorem form_a : (leafS ⟨#[97]⟩).formed = true := by decide
theorem form_b : (leafS ⟨#[98]⟩).formed = true := by decide
theorem form_p : (leafS ⟨#[112]⟩).formed = true := by decide
theorem form_q : (leafS ⟨#[113]⟩).formed = true := by decide
theorem ty_leaf (l : List Feat) (s : ByteArray) (f : Feat) (h : findN l s = some f) (hk : f.kind ≠ 0) : (leafS s).ty l = (f.kind, 0) := by
  simp [leafS, Ex.ty, Ex.ty.tyL, h, byK, hk]
theorem ev_leaf (l : List Feat) (S : Bool → ByteArray → Int → Int) (s : ByteArray) (f : Feat) (h : findN l s = some f) (hk : f.kind ≠ 2) : (leafS s).ev l S = some ⟨emS, f.kind, f.n, emS⟩ := by
  simp [leafS, ev_mk, evOp, featOf, h, hk]
theorem lv_leaf (s : ByteArray) : (leafS s).levels = 1 := by simp [leafS, Ex.levels, Ex.levels.levelsL]
def exTwo (op : Int) (x y : Ex) : Ex := .mk op emS emS 0 [x, y]
theorem form_two (op : Int) (x y : Ex) (h : 6 ≤ op) (h' : op ≤ 14) (hx : x.formed = true) (hy : y.formed = true) : (exTwo op x y).formed = true := by
  rw [exTwo, formed_eq]
  simp only [List.length_cons, List.length_nil, List.all_cons, List.all_nil, hx, hy, Bool.and_true]
  unfold hasFv
  rw [if_neg (by omega), if_neg (by omega), if_neg (by omega), if_neg (by omega), if_neg (by decide), if_neg (by omega), if_pos ⟨h, h'⟩]
  rfl
theorem lv_two (op : Int) (x y : Ex) : (exTwo op x y).levels = max x.levels y.levels + 1 := by simp [exTwo, Ex.levels, Ex.levels.levelsL]
theorem ty_two (l : List Feat) (op : Int) (x y : Ex) (k1 k2 k : Int) (ho : ¬ (op = 3 ∨ op = 16 ∨ op = 17)) (hx : x.ty l = (k1, 0)) (hy : y.ty l = (k2, 0)) (hk : byK op 0 [k1, k2] = k) (h0 : k ≠ 0) : (exTwo op x y).ty l = (k, 0) := by
  have e : Ex.ty.tyL l [x, y] = .ok [k1, k2] := by simp [Ex.ty.tyL, hx, hy]
  rw [exTwo, ty_ok e, if_neg ho, hk, if_neg h0]
section
variable (a b pn qn : Int) (hN : namesE [] (ordL a b pn qn) = 0) (S : Bool → ByteArray → Int → Int)
include hN
theorem ord_cmp (op : Int) (h8 : 8 ≤ op) (h11 : op ≤ 11) : evalV (exTwo op (leafS ⟨#[97]⟩) (leafS ⟨#[98]⟩)) (ordL a b pn qn) S = (truthF (if op = 8 then decide (a = b) else if op = 9 then decide (a ≠ b) else if op = 10 then decide (a < b) else decide (a ≤ b)), 0) := by
  have hh : op = 8 ∨ op = 9 ∨ op = 10 ∨ op = 11 := by omega
  refine evalV_val (k := 3) hN (by rw [lv_two, lv_leaf, lv_leaf]; decide) (form_two op _ _ (by omega) (by omega) form_a form_b) (ty_two _ op _ _ 1 1 3 (by omega) (ty_leaf _ _ _ (find_a a b pn qn) (by simp)) (ty_leaf _ _ _ (find_b a b pn qn) (by simp)) ?_ (by decide)) S ?_
  · rcases hh with rfl | rfl | rfl | rfl <;> rfl
  · rw [exTwo, ev_two (by omega) (by omega), ev_leaf _ S _ _ (find_a a b pn qn) (by simp), ev_leaf _ S _ _ (find_b a b pn qn) (by simp)]
    rcases hh with rfl | rfl | rfl | rfl <;> simp [comb]
theorem ord_and (hp : pn = 0 ∨ pn = 1) : evalV (exTwo 6 (leafS ⟨#[112]⟩) (leafS ⟨#[113]⟩)) (ordL a b pn qn) S = (if pn = 0 then ⟨emS, 3, pn, emS⟩ else ⟨emS, 3, qn, emS⟩, 0) := by
  refine evalV_val (k := 3) hN (by rw [lv_two, lv_leaf, lv_leaf]; decide) (form_two 6 _ _ (by omega) (by omega) form_p form_q) (ty_two _ 6 _ _ 3 3 3 (by omega) (ty_leaf _ _ _ (find_p a b pn qn) (by simp)) (ty_leaf _ _ _ (find_q a b pn qn) (by simp)) rfl (by decide)) S ?_
  rw [exTwo, ev_two (by omega) (by omega), ev_leaf _ S _ _ (find_p a b pn qn) (by simp), ev_leaf _ S _ _ (find_q a b pn qn) (by simp)]
  rcases hp with rfl | rfl <;> simp [comb]
theorem ord_or (hp : pn = 0 ∨ pn = 1) : (exTwo 7 (leafS ⟨#[112]⟩) (leafS ⟨#[113]⟩)).ty (ordL a b pn qn) = (3, 0) ∧ (exTwo 7 (leafS ⟨#[112]⟩) (leafS ⟨#[113]⟩)).ev (ordL a b pn qn) S = some (if pn = 1 then ⟨emS, 3, pn, emS⟩ else ⟨emS, 3, qn, emS⟩) := by
  refine ⟨ty_two _ 7 _ _ 3 3 3 (by omega) (ty_leaf _ _ _ (find_p a b pn qn) (by simp)) (ty_leaf _ _ _ (find_q a b pn qn) (by simp)) rfl (by decide), ?_⟩
  rw [exTwo, ev_two (by omega) (by omega), ev_leaf _ S _ _ (find_p a b pn qn) (by simp), ev_leaf _ S _ _ (find_q a b pn qn) (by simp)]
  rcases hp with rfl | rfl <;> simp [comb]
theorem ord_not (hp : pn = 0 ∨ pn = 1) : evalV (.mk 4 emS emS 0 [exTwo 7 (leafS ⟨#[112]⟩) (leafS ⟨#[113]⟩)]) (ordL a b pn qn) S = (truthF (decide (pn = 0) && decide (qn = 0)), 0) := by
  obtain ⟨h1, h2⟩ := ord_or a b pn qn hN S hp
  refine evalV_val (k := 3) hN ?_ ?_ ?_ S ?_
  · simp only [Ex.levels, Ex.levels.levelsL, lv_two, lv_leaf]; decide
  · rw [formed_eq]
    simp only [List.length_cons, List.length_nil, List.all_cons, List.all_nil, Bool.and_true, form_two 7 _ _ (by omega) (by omega) form_p form_q]
    decide
  · have e : Ex.ty.tyL (ordL a b pn qn) [exTwo 7 (leafS ⟨#[112]⟩) (leafS ⟨#[113]⟩)] = .ok [3] := by simp [Ex.ty.tyL, h1]
    rw [ty_ok e]; rfl
  · rw [ev_one (Or.inl rfl), h2]
    rcases hp with rfl | rfl <;> simp
theorem ord_in : evalV (.mk 15 emS emS 0 [leafS ⟨#[97]⟩, leafS ⟨#[98]⟩, leafS ⟨#[97]⟩]) (ordL a b pn qn) S = (truthF true, 0) := by
  have ta := ty_leaf _ _ _ (find_a a b pn qn) (by simp)
  have tb := ty_leaf _ _ _ (find_b a b pn qn) (by simp)
  refine evalV_val (k := 3) hN ?_ ?_ ?_ S ?_
  · simp only [Ex.levels, Ex.levels.levelsL, lv_leaf]; decide
  · rw [formed_eq]
    simp only [List.length_cons, List.length_nil, List.all_cons, List.all_nil, Bool.and_true, form_a, form_b]
    decide
  · have e : Ex.ty.tyL (ordL a b pn qn) [leafS ⟨#[97]⟩, leafS ⟨#[98]⟩, leafS ⟨#[97]⟩] = .ok [1, 1, 1] := by simp [Ex.ty.tyL, ta, tb]
    rw [ty_ok e]; rfl
  · rw [ev_in, ev_leaf _ S _ _ (find_a a b pn qn) (by simp)]
    simp only [Ex.ev.evIn, List.map_cons, List.map_nil, ev_leaf _ S _ _ (find_a a b pn qn) (by simp), ev_leaf _ S _ _ (find_b a b pn qn) (by simp), inV]
    by_cases h : b = a
    · simp [h]
    · simp [h]
end
end Go.Proofs.Ytpdpjindmghfpaa
