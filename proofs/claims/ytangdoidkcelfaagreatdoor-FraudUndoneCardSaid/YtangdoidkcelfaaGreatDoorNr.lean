/- What the rule of FraudWindows says, and what velocity's windows remember (plain facts; printed by gen/h56.py). -/
import Derived.Test.YtangdoidkcelfaaGreatDoorNh
namespace Go.Proofs.YtangdoidkcelfaaGreatDoor
open Go.RowKit Go.Sort
theorem isSome_name : ∀ (b b' : List Feat) (nm : ByteArray), b.map (·.name) = b'.map (·.name) → (findN b nm).isSome = (findN b' nm).isSome
 | [], [], _, _ => rfl
 | [], _ :: _, _, h => by cases h
 | _ :: _, [], _, h => by cases h
 | x :: b, y :: b', nm, h => by
  injection h with h1 h2
  have h1 : x.name = y.name := h1
  have ih := isSome_name b b' nm h2
  unfold findN at *
  rw [List.find?_cons, List.find?_cons, h1]
  split
  · rfl
  · exact ih
theorem namesE_same : ∀ (l l' b b' : List Feat), l.map (·.name) = l'.map (·.name) → l.map featE = l'.map featE → b.map (·.name) = b'.map (·.name) → namesE b l = namesE b' l'
 | [], [], _, _, _, _, _ => rfl
 | [], _ :: _, _, _, h, _, _ => by cases h
 | _ :: _, [], _, _, h, _, _ => by cases h
 | x :: l, y :: l', b, b', h1, h2, h3 => by
  injection h1 with h1 h1'
  have h1 : x.name = y.name := h1
  injection h2 with h2 h2'
  unfold namesE
  have h4 : (b ++ [x]).map (·.name) = (b' ++ [y]).map (·.name) := by rw [List.map_append, List.map_append, h3]; simp [h1]
  rw [h2, h1, isSome_name b b' _ h3, namesE_same l l' (b ++ [x]) (b' ++ [y]) h1' h2' h4]
theorem featE_amo (a : Int) (h : nbrB a = true) : featE ⟨amoN, 1, a, ⟨#[]⟩⟩ = 0 := by
 unfold featE
 rw [if_neg (show ¬ nameB amoN = false by decide +kernel), if_pos (Or.inr (Or.inl ⟨rfl, h⟩))]
theorem purF_names (c : Nat) (a : Int) (h : nbrB a = true) : namesE [] (purF c a) = 0 := by
 rw [namesE_same (purF c a) (purF 0 0) [] [] rfl ?_ rfl]
 · decide +kernel
 · unfold purF
   simp only [List.map_cons, List.map_nil, featE_amo a h, featE_amo 0 (by decide)]
   rfl
theorem whenC_formed (least win : Int) (h0 : 0 ≤ least) (h1 : least ≤ 7) (h2 : 1 ≤ win) (h3 : win ≤ 1000) : (whenC least win).formed = true := by
 unfold whenC
 rw [formed_eq, List.all_cons, List.all_cons, List.all_nil, formed_eq, formed_eq]
 have e1 : hasFv 1 ⟨#[]⟩ ⟨#[]⟩ least 0 = true := by
  unfold hasFv nbrB
  rw [if_pos rfl, decide_eq_true (show -4611686018427387904 ≤ least by omega), decide_eq_true (show least ≤ 4611686018427387904 by omega)]
  rfl
 have e2 : hasFv 16 carN ⟨#[]⟩ win 0 = true := by
  unfold hasFv
  rw [if_neg (by decide), if_neg (by decide), if_neg (by decide), if_pos (Or.inl rfl), decide_eq_true h2, decide_eq_true (show win ≤ 10000000 by omega)]
  decide +kernel
 have e3 : hasFv 11 ⟨#[]⟩ ⟨#[]⟩ 0 2 = true := by decide +kernel
 show (hasFv 11 ⟨#[]⟩ ⟨#[]⟩ 0 2 && ((hasFv 1 ⟨#[]⟩ ⟨#[]⟩ least 0 && true) && ((hasFv 16 carN ⟨#[]⟩ win 0 && true) && true))) = true
 rw [e1, e2, e3]
 rfl
theorem findN_car (c : Nat) (a : Int) : findN (purF c a) carN = some ⟨carN, 2, 0, digS c⟩ := by
 unfold findN purF
 rw [List.find?_cons]
 simp
theorem whenC_ty (least win : Int) {l : List Feat} {f : Feat} (h : findN l carN = some f) (hk : f.kind = 2) : (whenC least win).ty l = (3, 0) := by
 have h1 : (Ex.mk 1 ⟨#[]⟩ ⟨#[]⟩ least []).ty l = (1, 0) := by rfl
 have h2 : (Ex.mk 16 carN ⟨#[]⟩ win []).ty l = (1, 0) := by
  unfold Ex.ty Ex.ty.tyL
  simp only [h, hk]
  rfl
 unfold whenC
 unfold Ex.ty Ex.ty.tyL
 rw [h1]
 simp only [Ex.ty.tyL, h2]
 rfl
theorem whenC_check (least win : Int) (h0 : 0 ≤ least) (h1 : least ≤ 7) (h2 : 1 ≤ win) (h3 : win ≤ 1000) (c : Nat) (a : Int) (ha : nbrB a = true) : checkV (whenC least win) (purF c a) = (3, 0) := by
 unfold checkV
 rw [if_neg (by rw [purF_names c a ha]; decide), if_neg (by show ¬ 8 < (whenC least win).levels; rw [show (whenC least win).levels = 2 from rfl]; decide), if_neg (by rw [whenC_formed least win h0 h1 h2 h3]; decide)]
 exact whenC_ty least win (findN_car c a) rfl
theorem whenC_eval (least win : Int) (h0 : 0 ≤ least) (h1 : least ≤ 7) (h2 : 1 ≤ win) (h3 : win ≤ 1000) (c : Nat) (a : Int) (ha : nbrB a = true) (S : Bool → ByteArray → Int → Int) (hS : nbrB (S true carN win) = true) : evalV (whenC least win) (purF c a) S = (truthF (decide (least ≤ S true carN win)), 0) := by
 unfold evalV
 rw [whenC_check least win h0 h1 h2 h3 c a ha]
 have e : (whenC least win).ev (purF c a) S = some (truthF (decide (least ≤ S true carN win))) := by
  unfold whenC
  rw [ev_mk]
  simp only [List.map_cons, List.map_nil, ev_mk]
  have e1 : evOp (purF c a) S 1 ⟨#[]⟩ ⟨#[]⟩ least [] = some (numF least) := rfl
  have e2 : evOp (purF c a) S 16 carN ⟨#[]⟩ win [] = some (numF (S true carN win)) := by
   unfold evOp
   rw [if_neg (by decide), if_neg (by decide), if_neg (by decide), if_pos (Or.inl rfl)]
   rw [show decide ((16 : Int) = 16) = true from rfl, if_pos hS]
  rw [e1, e2]
  rfl
 rw [e]
 rfl
/-- The rule of FraudWindows. -/
def winR (least win : Int) : FrR := ⟨manN, whenC least win, 2, 0⟩
theorem frN_one (x : Ex) : frN [] [⟨manN, x, 2, 0⟩] = 0 := by
 unfold frN
 rw [if_neg (show ¬ nameB manN = false by decide +kernel), if_neg (by simp), if_neg (by simp)]
 rfl
theorem winR_ok (least win : Int) (h0 : 0 ≤ least) (h1 : least ≤ 7) (h2 : 1 ≤ win) (h3 : win ≤ 1000) : frE [winR least win] 1 1 = 0 := by
 unfold frE winR
 rw [if_neg (by simp), if_neg (by rw [frN_one]; decide), if_neg (by decide)]
 have hc : checkV (whenC least win) (msgF []) = (3, 0) := by
  unfold checkV
  rw [if_neg (by decide +kernel), if_neg (by show ¬ 8 < (whenC least win).levels; rw [show (whenC least win).levels = 2 from rfl]; decide), if_neg (by rw [whenC_formed least win h0 h1 h2 h3]; decide)]
  exact whenC_ty least win (f := ⟨carN, 2, 0, ⟨#[]⟩⟩) (by decide +kernel) rfl
 unfold frT
 simp only [hc]
 rfl
theorem track_one (least win : Int) : trackV [winR least win] = [carN.data.toList] := by
 have h : (whenC least win).wins = [carN.data.toList] := rfl
 unfold trackV winR
 simp only [List.flatMap_cons, List.flatMap_nil, List.append_nil, h]
 decide +kernel
theorem hor_one (least win : Int) (h : 1 ≤ win) : horV [winR least win] = win := by
 have e : (whenC least win).long = max 0 win := rfl
 unfold horV winR
 simp only [List.foldl_cons, List.foldl_nil, e]
 omega
/-- The key of a card. -/
def keyC (c : Nat) : ByteArray := carN ++ ⟨#[61]⟩ ++ digS c
theorem key_pur (c : Nat) (a : Int) : keyS (purF c a) carN = keyC c ∧ keyB (purF c a) carN = true := by
 unfold keyS keyB
 rw [findN_car]
 exact ⟨rfl, rfl⟩
theorem keys_pur (c : Nat) (a : Int) : keysV [carN.data.toList] (purF c a) = [keyC c] := by
 have e : (⟨carN.data.toList.toArray⟩ : ByteArray) = carN := rfl
 unfold keysV
 rw [List.filter_cons_of_pos (by rw [e]; exact (key_pur c a).2)]
 simp only [List.filter_nil, List.map_cons, List.map_nil, e, (key_pur c a).1]
theorem keyC_size (c : Nat) : (keyC c).size = 6 := rfl
theorem keyC_inj {c d : Nat} (hc : c < 10) (hd : d < 10) (h : keyC c = keyC d) : c = d := by
 have h1 : (keyC c).data.toList = (keyC d).data.toList := by rw [h]
 have h2 : UInt8.ofNat (48 + c) = UInt8.ofNat (48 + d) := by
  simp only [keyC, digS, app_list] at h1
  simpa using h1
 have h3 := congrArg UInt8.toNat h2
 rw [UInt8.toNat_ofNat', UInt8.toNat_ofNat'] at h3
 omega
/-- The uses that velocity's windows remember are the last ones of all uses H; those that it forgot are older than the horizon. -/
structure Mem (v : VelD) (H : List UseV) (win last : Int) : Prop where
 hor : v.hor = win
 lst : v.last ≤ last
 cut : ∃ D, H = D ++ v.uses ∧ ∀ u ∈ D, u.t ≤ last - win
 old : ∀ u ∈ H, u.t ≤ last
theorem oldN_take (h now : Int) : ∀ l : List UseV, ∀ u ∈ l.take (oldN h now l), u.t ≤ now - h
 | [], u, hu => by simp at hu
 | x :: l, u, hu => by
  unfold oldN at hu
  split at hu
  · rename_i hx
    rw [List.take_succ_cons] at hu
    rcases List.mem_cons.1 hu with rfl | hu
    · exact hx
    · exact oldN_take h now l u hu
  · simp at hu
theorem Mem.later {v : VelD} {H : List UseV} {win last now : Int} (h : Mem v H win last) (hn : last ≤ now) : Mem v H win now := by
 obtain ⟨h1, h2, ⟨D, h3, h4⟩, h5⟩ := h
 exact ⟨h1, by omega, ⟨D, h3, fun u hu => by have := h4 u hu; omega⟩, fun u hu => by have := h5 u hu; omega⟩
theorem Mem.add {v : VelD} {H : List UseV} {win now amt : Int} {k : ByteArray} (h : Mem v H win now) (hk : k.size = 6) (ht : timeB now = true) (ha : 0 ≤ amt ∧ amt ≤ 999999999999) (hl : H.length < 1000) : Mem (velAdd v ⟨k, now, amt⟩).1 (H ++ [⟨k, now, amt⟩]) win now := by
 obtain ⟨h1, h2, ⟨D, h3, h4⟩, h5⟩ := h
 have hul : v.uses.length ≤ H.length := by rw [h3, List.length_append]; omega
 have e : velAdd v ⟨k, now, amt⟩ = (⟨v.hor, now, v.uses.drop (oldN v.hor now v.uses) ++ [⟨k, now, amt⟩]⟩, 0) := by
  unfold velAdd
  rw [if_neg (by simp only [hk]; omega), if_neg (by simp only [ht]; simp; omega), if_neg (by simp only; omega), if_neg (by simp only; omega)]
 rw [e]
 refine ⟨h1, Int.le_refl _, ⟨D ++ v.uses.take (oldN v.hor now v.uses), ?_, fun u hu => ?_⟩, fun u hu => ?_⟩
 · rw [h3]
   simp only [List.append_assoc]
   rw [← List.append_assoc (v.uses.take _), List.take_append_drop]
 · rcases List.mem_append.1 hu with hu | hu
   · exact h4 u hu
   · have := oldN_take v.hor now v.uses u hu
     omega
 · rcases List.mem_append.1 hu with hu | hu
   · exact h5 u hu
   · simp only [List.mem_cons, List.not_mem_nil, or_false] at hu
     subst hu
     exact Int.le_refl _
/-- What is counted. -/
def cntH (k : ByteArray) (lo : Int) (H : List UseV) : Nat := (H.filter fun u => decide (u.key = k) && decide (lo < u.t)).length
theorem Mem.count {v : VelD} {H : List UseV} {win now : Int} {k : ByteArray} (h : Mem v H win now) (hw : 1 ≤ win) (ht : timeB now = true) : velCount v k now win = cntH k (now - win) H := by
 obtain ⟨h1, h2, ⟨D, h3, h4⟩, h5⟩ := h
 unfold velCount cntH
 rw [if_neg (by rw [ht]; rintro (h | h | h); omega; omega; cases h), h3, List.filter_append]
 rw [show D.filter (fun u => decide (u.key = k) && decide (now - win < u.t)) = [] from List.filter_eq_nil_iff.2 fun u hu => by
  have := h4 u hu
  simp only [Bool.and_eq_true, decide_eq_true_eq, not_and]
  intro _
  omega, List.nil_append]
 congr 2
 refine List.filter_congr fun u hu => ?_
 have := h5 u (by rw [h3]; exact List.mem_append_right _ hu)
 unfold inWin
 rw [decide_eq_true this, Bool.and_true]
theorem cntH_le (k : ByteArray) (lo : Int) (H : List UseV) : cntH k lo H ≤ H.length := List.length_filter_le _ _
/-- What the engine of FraudWindows keeps to: H is all purchases so far. -/
structure WinSt (d : EngD) (H : List UseV) (least win now : Int) : Prop where
 ok : EngOk d
 names : d.names = [carN.data.toList]
 rules : d.rules = [winR least win]
 refer : d.refer = 1
 decline : d.decline = 1
 hor : d.hor = win
 mem : Mem d.vel H win now
 last : d.last ≤ now
 few : d.uses.length ≤ H.length
 num : H.length ≤ 40
theorem WinSt.new (least win : Int) (h0 : 0 ≤ least) (h1 : least ≤ 7) (h2 : 1 ≤ win) (h3 : win ≤ 1000) : WinSt (newV [winR least win] 1 1) [] least win 0 :=
 ⟨newOk (winR_ok least win h0 h1 h2 h3), track_one least win, rfl, rfl, rfl, hor_one least win h2, ⟨hor_one least win h2, Int.le_refl _, ⟨[], rfl, fun u hu => by cases hu⟩, fun u hu => by cases hu⟩, Int.le_refl _, Nat.le_refl _, by decide⟩
theorem WinSt.later {d : EngD} {H : List UseV} {least win now t : Int} (h : WinSt d H least win now) (ht : now ≤ t) : WinSt d H least win t :=
 ⟨h.ok, h.names, h.rules, h.refer, h.decline, h.hor, h.mem.later ht, Int.le_trans h.last ht, h.few, h.num⟩
theorem WinSt.judge {d : EngD} {H : List UseV} {least win now : Int} (h : WinSt d H least win now) (h0 : 0 ≤ least) (h1 : least ≤ 7) (h2 : 1 ≤ win) (h3 : win ≤ 1000) (ht : timeB now = true) (c : Nat) (a : Int) (ha : 0 ≤ a ∧ a ≤ 65535) : judgeV d now (purF c a) = if least ≤ (cntH (keyC c) (now - win) H : Int) then ⟨2, 0, [manN]⟩ else ⟨0, 0, []⟩ := by
 have hS : srcS d.vel d.names (purF c a) now true carN win = (cntH (keyC c) (now - win) H : Int) := by
  unfold srcS
  rw [h.names, if_pos ⟨List.mem_singleton.2 rfl, (key_pur c a).2⟩, if_pos rfl, (key_pur c a).1, h.mem.count h2 ht]
 have hle := cntH_le (keyC c) (now - win) H
 have hn := h.num
 have hb : nbrB (srcS d.vel d.names (purF c a) now true carN win) = true := by
  rw [hS]
  unfold nbrB
  rw [decide_eq_true (by omega), decide_eq_true (by omega)]
  rfl
 have hev := whenC_eval least win h0 h1 h2 h3 c a (by unfold nbrB; rw [decide_eq_true (by omega), decide_eq_true (by omega)]; rfl) _ hb
 rw [hS] at hev
 unfold judgeV
 rw [h.rules, h.refer, h.decline, List.foldl_cons, List.foldl_nil]
 unfold stepV holdB
 rw [show (winR least win).when = whenC least win from rfl, hev]
 by_cases hc : least ≤ (cntH (keyC c) (now - win) H : Int)
 · rw [if_pos hc, decide_eq_true hc]
   rfl
 · rw [if_neg hc, decide_eq_false hc]
   rfl
theorem WinSt.record {d : EngD} {H : List UseV} {least win now : Int} (h : WinSt d H least win now) (h2 : 1 ≤ win) (ht : timeB now = true) (c : Nat) (a : Int) (ha : 0 ≤ a ∧ a ≤ 65535) (hl : H.length < 40) : (addV d now [keyC c] a).2 = 0 ∧ WinSt (addV d now [keyC c] a).1 (H ++ [⟨keyC c, now, a⟩]) least win now := by
 have hf := h.few
 have hfl := List.length_filter_le (fun u : UseV => decide (now - d.hor < u.t)) d.uses
 have e : addV d now [keyC c] a = (addN d now [keyC c] a, 0) := by
  refine addV_ok ?_ (by omega) ?_ ?_
  · rw [ht]
    have := h.last
    rintro (h | h)
    · cases h
    · omega
  · simp only [List.any_cons, List.any_nil, Bool.or_false, keyC_size]
    rfl
  · simp only [List.length_cons, List.length_nil]
    omega
 have hok := addV_ok2 (now := now) (ks := [keyC c]) (amt := a) h.ok
 obtain ⟨k1, k2, k3, k4, k5⟩ := addV_keep d now [keyC c] a
 rw [e] at hok k1 k2 k3 k4 k5 ⊢
 refine ⟨rfl, hok, k2.trans h.names, k3.trans h.rules, k4.trans h.refer, k5.trans h.decline, k1.trans h.hor, ?_, ?_, ?_, ?_⟩
 · exact h.mem.add (keyC_size c) ht (by omega) (by omega)
 · exact Int.le_refl _
 · show ((d.uses.filter fun u => decide (now - d.hor < u.t)) ++ [keyC c].map (fun k => (⟨k, now, a⟩ : UseV))).length ≤ (H ++ [(⟨keyC c, now, a⟩ : UseV)]).length
   simp only [List.length_append, List.length_map, List.length_cons, List.length_nil]
   omega
 · simp only [List.length_append, List.length_cons, List.length_nil]
   omega
end Go.Proofs.YtangdoidkcelfaaGreatDoor
