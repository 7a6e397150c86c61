/- Plain laws of the layer element: a value is decoded from its encoding; what is accepted is the encoding of the value; a cut encoding is too short. -/
import Derived.Test.YthokhncdpfaifaaGreatDoorFun
namespace Go.Proofs.YthokhncdpfaifaaGreatDoor
open Go.RowKit
theorem ofNat_toNat (m : Nat) (h : m < 256) : (UInt8.ofNat m).toNat = m := by simp; omega
theorem digB_of (m : Nat) (h : m < 10) : digB (UInt8.ofNat (48 + m)) = true := by
  unfold digB; rw [ofNat_toNat _ (by omega)]; simp; omega
theorem lenDig_ok (d n : Nat) (hd : d = 2 ∨ d = 3) (h2 : d = 2 → n < 100) (h3 : n < 1000) : (lenDig d n).length = d ∧ (lenDig d n).all digB = true ∧ numL (lenDig d n) = n := by
  unfold lenDig
  rcases hd with rfl | rfl
  · have := h2 rfl
    rw [if_pos rfl]
    refine ⟨rfl, ?_, ?_⟩
    · simp only [List.all_cons, List.all_nil, Bool.and_true]
      rw [digB_of _ (by omega), digB_of _ (by omega)]; rfl
    · simp only [numL, List.foldl_cons, List.foldl_nil]
      rw [ofNat_toNat _ (by omega), ofNat_toNat _ (by omega)]; omega
  · rw [if_neg (by omega)]
    refine ⟨rfl, ?_, ?_⟩
    · simp only [List.all_cons, List.all_nil, Bool.and_true]
      rw [digB_of _ (by omega), digB_of _ (by omega), digB_of _ (by omega)]; rfl
    · simp only [numL, List.foldl_cons, List.foldl_nil]
      rw [ofNat_toNat _ (by omega), ofNat_toNat _ (by omega), ofNat_toNat _ (by omega)]; omega
theorem u8_of (c : UInt8) (m : Nat) (h : c.toNat = m) : c = UInt8.ofNat m := by subst h; simp
theorem lenDig_back (d : Nat) (l : List UInt8) (hd : d = 2 ∨ d = 3) (hl : l.length = d) (ha : l.all digB = true) (n : Nat) (hn : numL l = n) : lenDig d n = l := by
  unfold lenDig
  rcases hd with rfl | rfl
  · match l, hl with
    | [a, b], _ =>
      simp only [List.all_cons, List.all_nil, Bool.and_true, Bool.and_eq_true, digB, decide_eq_true_eq] at ha
      simp only [numL, List.foldl_cons, List.foldl_nil] at hn
      rw [if_pos rfl, ← u8_of a (48 + n / 10) (by omega), ← u8_of b (48 + n % 10) (by omega)]
  · match l, hl with
    | [a, b, c], _ =>
      simp only [List.all_cons, List.all_nil, Bool.and_true, Bool.and_eq_true, digB, decide_eq_true_eq] at ha
      simp only [numL, List.foldl_cons, List.foldl_nil] at hn
      rw [if_neg (by omega), ← u8_of a (48 + n / 100) (by omega), ← u8_of b (48 + n / 10 % 10) (by omega), ← u8_of c (48 + n % 10) (by omega)]
theorem numL_nat (l : List UInt8) (h : l.all digB = true) : ∃ n : Nat, numL l = n := ⟨(numL l).toNat, by have := numL_bd l h; omega⟩
theorem trimR_pad (l : List UInt8) (n : Nat) (hl : Lib.trimRightB l 32 = l) : Lib.trimRightB (l ++ List.replicate n 32) 32 = l := by
  induction n with
  | zero => simpa using hl
  | succ n ih => rw [List.replicate_succ', ← List.append_assoc, trimR_snoc_eq, ih]
theorem trimR_split (l : List UInt8) : l = Lib.trimRightB l 32 ++ List.replicate (l.length - (Lib.trimRightB l 32).length) 32 := by
  have key : ∀ (n : Nat) (l : List UInt8), l.length = n → l = Lib.trimRightB l 32 ++ List.replicate (l.length - (Lib.trimRightB l 32).length) 32 := by
    intro n
    induction n with
    | zero => intro l hl; rw [List.length_eq_zero_iff.1 hl]; rfl
    | succ n ih =>
      intro l hl
      obtain ⟨i, c, rfl⟩ : ∃ i c, l = i ++ [c] := ⟨l.dropLast, l.getLast (by intro e; simp [e] at hl), (List.dropLast_concat_getLast _).symm⟩
      by_cases hc : c = 32
      · subst hc
        rw [trimR_snoc_eq]
        have h1 := ih i (by simpa using hl)
        have h2 := trimR_len i 32
        rw [List.length_append, List.length_singleton, show i.length + 1 - (Lib.trimRightB i 32).length = (i.length - (Lib.trimRightB i 32).length) + 1 by omega, List.replicate_succ', ← List.append_assoc, ← h1]
      · rw [trimR_snoc_ne _ _ _ hc]; simp
  exact key _ l rfl
theorem trimR_of_trim (l : List UInt8) (h : Lib.trimB l 32 = l) : Lib.trimRightB l 32 = l := by
  have h1 := trimR_len l 32
  have h2 : (Lib.trimB l 32).length ≤ (Lib.trimRightB l 32).length := (List.dropWhile_sublist _).length_le
  rw [h] at h2
  have h3 := trimR_split l
  rw [show l.length - (Lib.trimRightB l 32).length = 0 by omega] at h3
  simpa using h3.symm

theorem list_eta (l : List UInt8) : (⟨l.toArray⟩ : ByteArray).data.toList = l := rfl
theorem size_mk (l : List UInt8) : (⟨l.toArray⟩ : ByteArray).size = l.length := by rw [← size_list]
/-- A value is decoded from its encoding, whatever follows. -/
theorem round_trip (k : Nat) (hk : k < 23) (s t : ByteArray) (R : List UInt8) (hz : chkK k s = 0) (ht : t.data.toList = encL k s ++ R) :
    decE k t = 0 ∧ valD k t = s.data.toList ∧ t.data.toList.drop (rawA k + rawN k t) = R ∧ (dVar k = 0 → (encL k s).length = (dLen k).toNat) ∧ (0 < dVar k → (encL k s).length = (dVar k).toNat + s.size) := by
  obtain ⟨hl, hkd, h1, h2⟩ := chk_zero k s hz
  obtain ⟨hv, h41⟩ := var_cases k hk
  obtain ⟨⟨b1, b2⟩, ⟨b3, b4⟩, _⟩ := row_bd k hk
  have hsz : t.size = (encL k s).length + R.length := by rw [← size_list, ht, List.length_append]
  have fin : ∀ (raw : List UInt8), rawV k t = raw → (if dNum k = 41 then Lib.trimRightB raw 32 else raw) = s.data.toList → valD k t = s.data.toList := by
    intro raw h h'; unfold valD; rw [h]; exact h'
  by_cases hpos : 0 < dVar k
  · have he : encL k s = lenDig (dVar k).toNat s.size ++ s.data.toList := by unfold encL; rw [if_pos hpos]
    have hne : dNum k ≠ 41 := fun h => by have := (h41 h).1; omega
    have hd : (dVar k).toNat = 2 ∨ (dVar k).toNat = 3 := by omega
    obtain ⟨q1, q2, q3⟩ := lenDig_ok (dVar k).toNat s.size hd (by intro h; omega) (by omega)
    have hA : rawA k = (dVar k).toNat := rfl
    have htk : t.data.toList.take (rawA k) = lenDig (dVar k).toNat s.size := by
      rw [ht, he, hA, List.append_assoc]; exact List.take_left' q1
    have hN : rawN k t = s.size := by unfold rawN; rw [if_pos hpos, htk, q3]; simp
    have hlen : (encL k s).length = (dVar k).toNat + s.size := by rw [he, List.length_append, q1, size_list]
    have hE : rawE k t = 0 := raw_ok (by rw [htk]; exact q2) (by rw [hN]; exact hl) (by rw [hA, hN, hsz]; omega)
    have hV : rawV k t = s.data.toList := by
      unfold rawV; rw [hA, hN, ht, he, List.append_assoc, ← List.append_assoc, List.take_left' (by rw [List.length_append, q1, size_list])]
      exact List.drop_left' q1
    have hval := fin _ hV (by rw [if_neg hne])
    refine ⟨?_, hval, ?_, fun h => by omega, fun _ => hlen⟩
    · rw [dec_good hE hval.symm, hz]
    · rw [hA, hN, ht]; exact List.drop_left' hlen
  · have h0 : dVar k = 0 := by omega
    have hA : rawA k = 0 := by unfold rawA; omega
    have hN : rawN k t = (dLen k).toNat := by unfold rawN; rw [if_neg hpos]
    by_cases h4 : dNum k = 41
    · obtain ⟨_, hl8, hk2⟩ := h41 h4
      have he : encL k s = s.data.toList ++ List.replicate (8 - s.size) 32 := by unfold encL; rw [if_neg hpos, if_pos h4]
      have hlen : (encL k s).length = 8 := by rw [he, List.length_append, List.length_replicate, size_list]; omega
      have hN8 : rawN k t = 8 := by rw [hN, hl8]; rfl
      have hE : rawE k t = 0 := raw_ok (by rw [hA]; rfl) (by rw [hN8, hl8]; decide) (by rw [hA, hN8, hsz]; omega)
      have hV : rawV k t = encL k s := by unfold rawV; rw [hA, hN8, ht, Nat.zero_add, List.take_left' hlen]; rfl
      have htr := (kind2 s (h1 (Or.inr h4)) (by rw [← hk2]; exact hkd)).2.2
      have hval := fin _ hV (by rw [if_pos h4, he]; exact trimR_pad _ _ (trimR_of_trim _ htr))
      refine ⟨?_, hval, ?_, fun _ => by rw [hlen, hl8]; rfl, fun h => by omega⟩
      · rw [dec_good hE hval.symm, hz]
      · rw [hA, hN8, ht, Nat.zero_add]; exact List.drop_left' hlen
    · have he : encL k s = s.data.toList := by unfold encL; rw [if_neg hpos, if_neg h4]
      have hfull := h2 (by intro h; rcases h with h | h; exact hpos h; exact h4 h)
      have hlen : (encL k s).length = (dLen k).toNat := by rw [he, size_list]; omega
      have hE : rawE k t = 0 := raw_ok (by rw [hA]; rfl) (by rw [hN]; omega) (by rw [hA, hN, hsz]; omega)
      have hV : rawV k t = s.data.toList := by unfold rawV; rw [hA, hN, ht, Nat.zero_add, List.take_left' hlen, he]; rfl
      have hval := fin _ hV (by rw [if_neg h4])
      refine ⟨?_, hval, ?_, fun _ => hlen, fun h => by omega⟩
      · rw [dec_good hE hval.symm, hz]
      · rw [hA, hN, ht, Nat.zero_add]; exact List.drop_left' hlen

theorem raw_zero {k : Nat} {s : ByteArray} (h : rawE k s = 0) : (s.data.toList.take (rawA k)).all digB = true ∧ (rawN k s : Int) ≤ dLen k ∧ rawA k + rawN k s ≤ s.size := by
  unfold rawE at h
  by_cases h1 : s.size < rawA k
  · rw [if_pos h1] at h; cases h
  · rw [if_neg h1] at h
    by_cases h2 : (s.data.toList.take (rawA k)).all digB = false
    · rw [if_pos h2] at h; cases h
    · rw [if_neg h2] at h
      by_cases h3 : dLen k < rawN k s
      · rw [if_pos h3] at h; cases h
      · rw [if_neg h3] at h
        by_cases h4 : s.size < rawA k + rawN k s
        · rw [if_pos h4] at h; cases h
        · exact ⟨by simpa using h2, by omega, by omega⟩
/-- What is accepted is the encoding of the value, and a part of it is too short. -/
theorem only_enc (k : Nat) (hk : k < 23) (s v : ByteArray) (hz : decE k s = 0) (hr : rawE k s = 0) (hv : v.data.toList = valD k s) :
    chkK k v = 0 ∧ encL k v ++ s.data.toList.drop (rawA k + rawN k s) = s.data.toList ∧ 0 < (encL k v).length ∧ (encL k v).length ≤ rawA k + rawN k s ∧
      ∀ (c : Nat) (t : ByteArray), c < (encL k v).length → t.data.toList = (encL k v).take c → decE k t = 1 := by
  have hc : chkK k v = 0 := by rw [← dec_good hr hv]; exact hz
  obtain ⟨hl, hkd, g1, g2⟩ := chk_zero k v hc
  obtain ⟨q1, q2, q3⟩ := raw_zero hr
  obtain ⟨hvc, h41⟩ := var_cases k hk
  obtain ⟨⟨b1, b2⟩, ⟨b3, b4⟩, _⟩ := row_bd k hk
  have hrv : (rawV k s).length = rawN k s := by unfold rawV; rw [List.length_drop, List.length_take, size_list]; omega
  have hsplit : s.data.toList.take (rawA k) ++ rawV k s = s.data.toList.take (rawA k + rawN k s) := by
    unfold rawV
    have : s.data.toList.take (rawA k) = (s.data.toList.take (rawA k + rawN k s)).take (rawA k) := by rw [List.take_take, Nat.min_eq_left (by omega)]
    rw [this, List.take_append_drop]
  have main : encL k v = s.data.toList.take (rawA k) ++ rawV k s := by
    by_cases hpos : 0 < dVar k
    · have hne : dNum k ≠ 41 := fun h => by have := (h41 h).1; omega
      have hvr : v.data.toList = rawV k s := by rw [hv]; unfold valD; rw [if_neg hne]
      have hvs : v.size = rawN k s := by rw [← size_list, hvr, hrv]
      unfold encL
      rw [if_pos hpos, hvr]
      congr 1
      obtain ⟨n, hn⟩ := numL_nat _ q1
      have hNn : rawN k s = n := by unfold rawN; rw [if_pos hpos, hn]; simp
      refine lenDig_back (dVar k).toNat _ (by omega) (by rw [List.length_take, size_list]; show min (rawA k) _ = rawA k; omega) q1 _ ?_
      rw [hn, hvs, hNn]
    · have hA : rawA k = 0 := by unfold rawA; omega
      unfold encL
      rw [if_neg hpos, hA]
      by_cases h4 : dNum k = 41
      · rw [if_pos h4]
        obtain ⟨_, hl8, _⟩ := h41 h4
        have hN8 : rawN k s = 8 := by unfold rawN; rw [if_neg hpos, hl8]; rfl
        have hvr : v.data.toList = Lib.trimRightB (rawV k s) 32 := by rw [hv]; unfold valD; rw [if_pos h4]
        have := trimR_split (rawV k s)
        rw [hrv, hN8, ← hvr, size_list] at this
        rw [← this]; rfl
      · rw [if_neg h4]
        rw [hv]; unfold valD; rw [if_neg h4]; rfl
  have hlen : (encL k v).length = rawA k + rawN k s := by rw [main, List.length_append, hrv, List.length_take, size_list]; omega
  refine ⟨hc, ?_, ?_, by omega, ?_⟩
  · rw [main, hsplit, List.take_append_drop]
  · rw [hlen]
    by_cases hpos : 0 < dVar k
    · unfold rawA; omega
    · have : rawN k s = (dLen k).toNat := by unfold rawN; rw [if_neg hpos]
      omega
  · intro c t hct ht
    refine dec_bad ?_ (by decide)
    have hts : t.size = c := by rw [← size_list, ht, List.length_take]; omega
    by_cases hsh : c < rawA k
    · exact raw_short (by omega)
    · have htk : t.data.toList.take (rawA k) = s.data.toList.take (rawA k) := by
        rw [ht, main, hsplit, List.take_take, List.take_take, Nat.min_eq_left (by omega), Nat.min_eq_left (by omega)]
      have hN : rawN k t = rawN k s := by unfold rawN; rw [htk]
      exact raw_short2 (by omega) (by rw [htk]; exact q1) (by rw [hN]; exact q2) (by rw [hN, hts]; omega)
theorem chkC_some {n : Int} {k : Nat} (h : rowOf n = some k) (s : ByteArray) : chkC n s = chkK k s := by unfold chkC; rw [h]
theorem enc_bad {n : Int} {s : ByteArray} (h : chkC n s ≠ 0) : encS n s = ⟨#[]⟩ := by
  unfold encS
  cases hr : rowOf n with
  | none => rfl
  | some k => rw [chkC_some hr] at h; simp only [if_neg h]
theorem enc_good {n : Int} {s : ByteArray} (h : chkC n s = 0) : ∃ k, rowOf n = some k ∧ k < 23 ∧ chkK k s = 0 ∧ (encS n s).data.toList = encL k s ∧ (encS n s).size = (encL k s).length := by
  cases hr : rowOf n with
  | none => unfold chkC at h; rw [hr] at h; cases h
  | some k =>
    rw [chkC_some hr] at h
    have hl : (encS n s).data.toList = encL k s := by unfold encS; rw [hr]; simp only [if_pos h]
    exact ⟨k, rfl, (rowOf_spec hr).1, h, hl, by rw [← size_list, hl]⟩
theorem dec_some {n : Int} {k : Nat} {s : ByteArray} (h : rowOf n = some k) (hz : decE k s = 0) : decC n s = 0 ∧ (decV n s).data.toList = valD k s ∧ (decR n s).data.toList = s.data.toList.drop (rawA k + rawN k s) := by
  unfold decC decV decR
  rw [h]
  simp only [if_pos hz]
  exact ⟨hz, trivial, trivial⟩
theorem enc_size (n : Int) (s : ByteArray) (hs : s.size ≤ 400) : (encS n s).size ≤ 500 := by
  by_cases h : chkC n s = 0
  · obtain ⟨k, hr, hk, hz, hl, hsz⟩ := enc_good h
    have hv := row_bd k hk
    rw [hsz]
    have h1 := (round_trip k hk s (encS n s) [] hz (by rw [hl]; simp)).2.2.2
    by_cases hp : 0 < dVar k
    · rw [h1.2 hp]; omega
    · rw [h1.1 (by omega)]; omega
  · rw [enc_bad h]; decide
theorem dec_badC {n : Int} {s : ByteArray} (h : decC n s ≠ 0) : decV n s = ⟨#[]⟩ ∧ decR n s = ⟨#[]⟩ := by
  unfold decV decR
  cases hr : rowOf n with
  | none => exact ⟨rfl, rfl⟩
  | some k =>
    unfold decC at h
    rw [hr] at h
    simp only [if_neg h]
    exact ⟨trivial, trivial⟩
theorem dec_goodC {n : Int} {s : ByteArray} (h : decC n s = 0) : ∃ k, rowOf n = some k ∧ k < 23 ∧ decE k s = 0 ∧ rawE k s = 0 ∧ (decV n s).data.toList = valD k s ∧ (decR n s).data.toList = s.data.toList.drop (rawA k + rawN k s) := by
  cases hr : rowOf n with
  | none => unfold decC at h; rw [hr] at h; cases h
  | some k =>
    have hz : decE k s = 0 := by unfold decC at h; rw [hr] at h; exact h
    have hraw : rawE k s = 0 := by
      by_cases h0 : rawE k s = 0
      · exact h0
      · unfold decE at hz; rw [if_neg h0] at hz; exact absurd hz h0
    obtain ⟨_, h2, h3⟩ := dec_some hr hz
    exact ⟨k, rfl, (rowOf_spec hr).1, hz, hraw, h2, h3⟩
end Go.Proofs.YthokhncdpfaifaaGreatDoor
