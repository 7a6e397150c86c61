/- Plain facts: a message is decoded from its encoding, and no other string is accepted. The walk of the law MessageRoundTrip. -/
import Derived.Test.YtkggloeaojkhaaaGreatDoorQl
namespace Go.Proofs.YtkggloeaojkhaaaGreatDoor
open Go.RowKit
theorem dig4_ok (n : Nat) (h : n ≤ 9999) : (dig4 n).all digB = true ∧ numL (dig4 n) = n ∧ (dig4 n).length = 4 := by
 refine ⟨?_, ?_, rfl⟩
 · unfold dig4
   simp only [List.all_cons, List.all_nil, Bool.and_true]
   rw [digB_of _ (by omega), digB_of _ (by omega), digB_of _ (by omega), digB_of _ (by omega)]; rfl
 · unfold dig4 numL
   simp only [List.foldl_cons, List.foldl_nil]
   rw [ofNat_toNat _ (by omega), ofNat_toNat _ (by omega), ofNat_toNat _ (by omega), ofNat_toNat _ (by omega)]
   omega
theorem dig4_back (l : List UInt8) (hl : l.length = 4) (ha : l.all digB = true) : dig4 (numL l).toNat = l := by
 match l, hl with
 | [a, b, c, d], _ =>
  simp only [List.all_cons, List.all_nil, Bool.and_true, Bool.and_eq_true] at ha
  obtain ⟨h1, h2, h3, h4⟩ := ha
  unfold digB at h1 h2 h3 h4
  simp only [Bool.and_eq_true, decide_eq_true_eq] at h1 h2 h3 h4
  have e : numL [a, b, c, d] = 10 * (10 * (10 * (10 * 0 + ((a.toNat : Int) - 48)) + ((b.toNat : Int) - 48)) + ((c.toNat : Int) - 48)) + ((d.toNat : Int) - 48) := rfl
  rw [e]
  unfold dig4
  rw [u8_of a _ rfl, u8_of b _ rfl, u8_of c _ rfl, u8_of d _ rfl]
  congr 1
  · congr 1; simp; omega
  congr 1
  · congr 1; simp; omega
  congr 1
  · congr 1; simp; omega
  congr 1
  · congr 1; simp; omega
theorem asc_pair (es : List El) (h : ascB es = true) : (numsL es).Pairwise (· < ·) := by
 unfold numsL
 rw [List.pairwise_map]
 rw [List.pairwise_iff_getElem]
 have key : ∀ d i : Nat, i + d + 1 < es.length → (es.getD i elD).1 < (es.getD (i + d + 1) elD).1 := by
  intro d
  induction d with
  | zero => intro i hi; exact asc_get h i (by omega)
  | succ d ih =>
   intro i hi
   have h1 := ih i (by omega)
   have h2 := asc_get h (i + d + 1) (by omega)
   have e : i + (d + 1) + 1 = i + d + 1 + 1 := by omega
   rw [e]
   omega
 intro i j hi hj hij
 have := key (j - i - 1) i (by omega)
 rw [show i + (j - i - 1) + 1 = j by omega] at this
 simpa [List.getElem?_eq_getElem hi, List.getElem?_eq_getElem hj] using this
theorem decEs_enc : ∀ (l : List El) (acc : List El) (r : ByteArray) (R : List UInt8), (∀ x ∈ l, chkC x.1 x.2 = 0) → r.data.toList = encEs l ++ R → decEs (numsL l) acc r = (0, acc ++ l, ⟨R.toArray⟩)
 | [], acc, r, R, _, hr => by
  have e : r = ⟨R.toArray⟩ := Go.WideShapes.bytes_inj (by rw [hr]; simp [encEs])
  rw [e]; simp [numsL, decEs]
 | x :: l, acc, r, R, hc, hr => by
  obtain ⟨n, s⟩ := x
  have h0 := hc (n, s) (by simp)
  obtain ⟨k, hk1, hk, hz, hd, _⟩ := enc_good h0
  have hr' : r.data.toList = encL k s ++ (encEs l ++ R) := by
   rw [hr, ← hd]; simp [encEs]
  obtain ⟨t1, t2, t3, _⟩ := round_trip k hk s r _ hz hr'
  obtain ⟨d1, d2, d3⟩ := dec_some hk1 t1
  have e1 : decV n r = s := Go.WideShapes.bytes_inj (by rw [d2, t2])
  have ih := decEs_enc l (acc ++ [(n, s)]) (decR n r) R (fun x hx => hc x (by simp [hx])) (by rw [d3, t3])
  show decEs (n :: numsL l) acc r = _
  rw [decEs_good _ _ _ _ d1, e1, ih]
  simp
theorem dec_enc (ty : Int) (es : List El) (hz : mchk ty es = 0) (t : ByteArray) (R : List UInt8) (ht : t.data.toList = encM ty es ++ R) : decW t = if R = [] then (0, ty, es) else (3, 0, []) := by
 obtain ⟨h1, h2, hasc, herr, _⟩ := mchk_zero hz
 obtain ⟨n, rfl⟩ : ∃ n : Nat, ty = n := ⟨ty.toNat, by omega⟩
 have hin := in128_nums es herr
 have htop := bof_top (numsL es) hin (0, 0) (by decide) (by unfold Wd; decide)
 have hbl := blist_bof (numsL es) hin (asc_pair es hasc)
 unfold encM at ht
 rw [if_pos hz, Int.toNat_natCast] at ht
 obtain ⟨g1, g2, g3⟩ := dig4_ok n (by omega)
 generalize (bof (numsL es) (0, 0)).1 = a at *
 generalize (bof (numsL es) (0, 0)).2 = b at *
 have htk : t.data.toList.take 4 = dig4 n := by rw [ht, List.append_assoc, List.take_append_of_le_length (by omega), List.take_of_length_le (by omega)]
 have hbm : bmT t = bmL a b ++ (encEs es ++ R) := by
  unfold bmT
  rw [ht, List.append_assoc, List.drop_append_of_le_length (by omega), List.drop_of_length_le (by omega)]; simp
 have hsz : ¬ t.size < 4 := by rw [← len_list, ht, List.length_append, List.length_append]; omega
 obtain ⟨b1, b2, b3, b4⟩ := bm_read a b htop.1 htop.2 (encEs es ++ R)
 rw [decW_4 hsz (by rw [htk]; exact g1) (by rw [hbm]; exact b1)]
 have hty : tyT t = n := by unfold tyT; rw [htk, g2]
 have hdr : dR t = (0, es, ⟨R.toArray⟩) := by
  unfold dR rsT
  rw [hbm, b2, b3, b4, hbl]
  exact decEs_enc es [] _ R (errL_zero es herr) rfl
 rw [hdr, hty]
 simp only [ne_eq, not_true_eq_false, if_false, hz]
 have hs : (⟨R.toArray⟩ : ByteArray).size = R.length := by rw [← len_list]
 rw [hs]
 cases R with
 | nil => rfl
 | cons c R => simp
theorem encS_of {n : Int} {k : Nat} {v : ByteArray} (hr : rowOf n = some k) (hc : chkK k v = 0) : (encS n v).data.toList = encL k v ∧ chkC n v = 0 := by
 have h : chkC n v = 0 := by rw [chkC_some hr]; exact hc
 obtain ⟨k', hr', _, _, hd, _⟩ := enc_good h
 have : k' = k := Option.some.inj (hr'.symm.trans hr)
 subst this
 exact ⟨hd, h⟩
theorem decEs_back : ∀ (L : List Int) (acc : List El) (r : ByteArray), (decEs L acc r).1 = 0 → ∃ l : List El, (decEs L acc r).2.1 = acc ++ l ∧ numsL l = L ∧ r.data.toList = encEs l ++ (decEs L acc r).2.2.data.toList
 | [], acc, r, _ => ⟨[], by simp [decEs], rfl, by simp [decEs, encEs]⟩
 | n :: L, acc, r, h => by
  by_cases hc : decC n r = 0
  · rw [decEs_good _ _ _ _ hc] at h ⊢
    obtain ⟨l, e1, e2, e3⟩ := decEs_back L _ _ h
    obtain ⟨k, hr, hk, hz, hrw, hv, hd⟩ := dec_goodC hc
    obtain ⟨o1, o2, _⟩ := only_enc k hk r (decV n r) hz hrw hv
    obtain ⟨s1, _⟩ := encS_of hr o1
    refine ⟨(n, decV n r) :: l, by rw [e1]; simp, by rw [← e2]; rfl, ?_⟩
    have e4 : encEs ((n, decV n r) :: l) = (encS n (decV n r)).data.toList ++ encEs l := rfl
    rw [e4, s1, List.append_assoc, ← e3, hd, o2]
  · rw [decEs_bad _ _ _ _ hc] at h; exact absurd h hc
theorem enc_dec (s : ByteArray) (h : (decW s).1 = 0) : mchk (decW s).2.1 (decW s).2.2 = 0 ∧ encMS (decW s).2.1 (decW s).2.2 = s := by
 by_cases h1 : s.size < 4
 · rw [decW_1 h1] at h; cases h
 by_cases h2 : (s.data.toList.take 4).all digB = false
 · rw [decW_2 h1 h2] at h; cases h
 have h2 : (s.data.toList.take 4).all digB = true := by simpa using h2
 by_cases h3 : bmE (bmT s) = 0
 · rw [decW_4 h1 h2 h3] at h ⊢
   by_cases h4 : (dR s).1 = 0
   · rw [if_neg (by rw [h4]; decide)] at h ⊢
     by_cases h5 : mchk (tyT s) (dR s).2.1 = 0
     · rw [if_neg (by rw [h5]; decide)] at h ⊢
       by_cases h6 : (dR s).2.2.size = 0
       · rw [if_neg (by rw [h6]; decide)]
         refine ⟨h5, ?_⟩
         obtain ⟨c1, c2, c3, _⟩ := bm_back _ h3
         have hb := bof_blist _ _ c1 c2
         obtain ⟨l, e1, e2, e3⟩ := decEs_back (blist (bmA (bmT s)) (bmB (bmT s)) 129) [] (rsT s) h4
         have e1' : (dR s).2.1 = l := e1
         have e3' : (rsT s).data.toList = encEs l := by
          rw [e3]
          have : (dR s).2.2.data.toList = [] := List.eq_nil_of_length_eq_zero (by rw [len_list]; exact h6)
          show encEs l ++ (dR s).2.2.data.toList = _
          rw [this, List.append_nil]
         apply Go.WideShapes.bytes_inj
         unfold encMS encM
         rw [if_pos h5]
         show dig4 (tyT s).toNat ++ _ = _
         rw [e1', e2, hb]
         have hd4 : dig4 (tyT s).toNat = s.data.toList.take 4 := dig4_back _ (by rw [List.length_take, len_list]; omega) h2
         rw [hd4, ← e3']
         have : bmL (bmA (bmT s)) (bmB (bmT s)) ++ (rsT s).data.toList = bmT s := c3.symm
         show s.data.toList.take 4 ++ (bmL (bmA (bmT s)) (bmB (bmT s)) ++ (rsT s).data.toList) = _
         rw [this]
         exact List.take_append_drop 4 _
       · rw [if_pos h6] at h; cases h
     · rw [if_pos h5] at h; exact absurd h h5
   · rw [if_pos h4] at h; exact absurd h h4
 · rw [decW_3 h1 h2 h3] at h; exact absurd h h3
end Go.Proofs.YtkggloeaojkhaaaGreatDoor
namespace Go.Proofs.YtkggloeaojkhaaaGreatDoor
open Go.RowKit
theorem decW_bad (s : ByteArray) (h : (decW s).1 ≠ 0) : (decW s).2.1 = 0 ∧ (decW s).2.2 = [] := by
 unfold decW at h ⊢
 split at h
 · rename_i a; rw [if_pos a]; exact ⟨rfl, rfl⟩
 rename_i a; rw [if_neg a]
 split at h
 · rename_i b; rw [if_pos b]; exact ⟨rfl, rfl⟩
 rename_i b; rw [if_neg b]
 split at h
 · rename_i c; rw [if_pos c]; exact ⟨rfl, rfl⟩
 rename_i c; rw [if_neg c]
 split at h
 · rename_i d; rw [if_pos d]; exact ⟨rfl, rfl⟩
 rename_i d; rw [if_neg d]
 split at h
 · rename_i e; rw [if_pos e]; exact ⟨rfl, rfl⟩
 rename_i e; rw [if_neg e]
 split at h
 · rename_i f; rw [if_pos f]; exact ⟨rfl, rfl⟩
 · exact absurd rfl h
theorem decEs_small : ∀ (l : List Int) (acc : List El) (r : ByteArray), (∀ x ∈ acc, x.2.size ≤ 300) → ∀ x ∈ (decEs l acc r).2.1, x.2.size ≤ 300
 | [], acc, r, h => by simpa [decEs] using h
 | n :: l, acc, r, h => by
  rw [decEs]
  split
  · exact h
  · refine decEs_small l _ _ (fun x hx => ?_)
    rcases List.mem_append.1 hx with hx | hx
    · exact h x hx
    · rw [List.mem_singleton.1 hx]; exact decV_size _ _
theorem decW_small (s : ByteArray) : SmallV (decW s).2.2 := by
 by_cases h : (decW s).1 = 0
 · have hall : ∀ x ∈ (decW s).2.2, x.2.size ≤ 300 := by
    unfold decW
    split
    · intro x hx; simp at hx
    split
    · intro x hx; simp at hx
    split
    · intro x hx; simp at hx
    split
    · intro x hx; simp at hx
    split
    · intro x hx; simp at hx
    split
    · intro x hx; simp at hx
    · exact decEs_small _ _ _ (fun x hx => by simp at hx)
   intro j hj
   have := hall ((decW s).2.2[j]) (List.getElem_mem hj)
   simp only [List.getD_eq_getElem?_getD, List.getElem?_eq_getElem hj, Option.getD_some]
   omega
 · rw [(decW_bad s h).2]; intro j hj; simp at hj
theorem encM_len (ty : Int) (es : List El) (h : es.length ≤ 60) : (encMS ty es).size ≤ 20000 := by
 rw [← len_list]
 show (encM ty es).length ≤ 20000
 unfold encM
 split
 · rw [List.length_append, List.length_append]
   have h1 := encEs_len es
   have h2 : (bmL (bof (numsL es) (0, 0)).1 (bof (numsL es) (0, 0)).2).length ≤ 32 := by have := bmS_size (bof (numsL es) (0, 0)).1 (bof (numsL es) (0, 0)).2; rw [← len_list] at this; exact this
   have h3 : (dig4 ty.toNat).length = 4 := rfl
   omega
 · simp
end Go.Proofs.YtkggloeaojkhaaaGreatDoor
