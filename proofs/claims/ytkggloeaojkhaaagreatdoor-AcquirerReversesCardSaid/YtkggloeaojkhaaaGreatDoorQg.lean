/- The contracts of Find, Check, Encode and Decode, restated with functions: both the program's and the reference's return the same function's value. Plain laws of the layer element: a value is decoded from its encoding; what is accepted is the encoding of the value; a cut encoding is too short. Messages as data; contracts of message.find, of the closure of Get, of Get, and of the reference's Get (walks). Contracts of message.Get and of the reference's Get, areDigits, value, hasReply, asks (walks). Contracts of asks, areDigits, the reference's value, the reference's Same, and the law's small (walks). Slices of elements that a call makes; contract of message.keep (walk). Contract of message.insert (walk). -/
import Derived.Test.YtkggloeaojkhaaaGreatDoorQe
import Derived.Test.YtkggloeaojkhaaaGreatDoorQd
import Derived.Test.YtkggloeaojkhaaaGreatDoorQa
import Derived.LoopTactic
import Derived.Outline
import Derived.BigQuiet
import Derived.Deep.QuietTactic
import Derived.Test.YtkggloeaojkhaaaGreatDoorQc
import Derived.OwnWalk
import Derived.Laws.OwnMore
import Derived.Deep.RegionHeld3
namespace Go.Proofs.YtkggloeaojkhaaaGreatDoor
open Go.RowKit
/-- The row of an element's number. -/
def rowOf (n : Int) : Option Nat := (List.range 23).find? (fun k => dNum k == n)
theorem rowOf_some {n : Int} {k : Nat} (hk : k < 23) (hn : dNum k = n) : rowOf n = some k := by
 unfold rowOf
 cases h : (List.range 23).find? (fun k => dNum k == n) with
 | none =>
  have := List.find?_eq_none.1 h k (List.mem_range.2 hk)
  simp [hn] at this
 | some j =>
  have h1 := List.find?_some h
  have h2 := List.mem_range.1 (List.mem_of_find?_eq_some h)
  rw [dNum_inj j k h2 hk ((by simpa using h1 : dNum j = n).trans hn.symm)]
theorem rowOf_none {n : Int} (h : ∀ k, k < 23 → dNum k ≠ n) : rowOf n = none := by
 unfold rowOf
 rw [List.find?_eq_none]
 intro k hk
 simpa using h k (List.mem_range.1 hk)
theorem rowOf_spec {n : Int} {k : Nat} (h : rowOf n = some k) : k < 23 ∧ dNum k = n := by
 unfold rowOf at h
 exact ⟨List.mem_range.1 (List.mem_of_find?_eq_some h), by simpa using List.find?_some h⟩
def findV (n : Int) : Value := match rowOf n with | some k => specAgg k | none => specZero
def chkC (n : Int) (s : ByteArray) : Int := match rowOf n with | some k => chkK k s | none => 6
def encS (n : Int) (s : ByteArray) : ByteArray := match rowOf n with | some k => if chkK k s = 0 then ⟨(encL k s).toArray⟩ else ⟨#[]⟩ | none => ⟨#[]⟩
def decC (n : Int) (s : ByteArray) : Int := match rowOf n with | some k => decE k s | none => 6
def decV (n : Int) (s : ByteArray) : ByteArray := match rowOf n with | some k => if decE k s = 0 then ⟨(valD k s).toArray⟩ else ⟨#[]⟩ | none => ⟨#[]⟩
def decR (n : Int) (s : ByteArray) : ByteArray := match rowOf n with | some k => if decE k s = 0 then ⟨(s.data.toList.drop (rawA k + rawN k s)).toArray⟩ else ⟨#[]⟩ | none => ⟨#[]⟩
def One (v : Value) (w : World) (e : Ending) (w' : World) : Prop := e = .returned v ∧ Ext w w'
theorem FindPost.one {n : Int} {w : World} {e : Ending} {w' : World} (h : FindPost n w e w') : One (.tuple #[findV n, .bool (rowOf n).isSome]) w e w' := by
 rcases h with ⟨k, hk, hn, he, hE⟩ | ⟨hno, he, hE⟩
 · unfold One findV; rw [rowOf_some hk hn]; exact ⟨he, hE⟩
 · unfold One findV; rw [rowOf_none hno]; exact ⟨he, hE⟩
theorem CheckPost.one {n : Int} {s : ByteArray} {w : World} {e : Ending} {w' : World} (h : CheckPost n s w e w') : One (.int .i64 (chkC n s)) w e w' := by
 rcases h with ⟨k, hk, hn, he, hE⟩ | ⟨hno, he, hE⟩
 · unfold One chkC; rw [rowOf_some hk hn]; exact ⟨he, hE⟩
 · unfold One chkC; rw [rowOf_none hno]; exact ⟨he, hE⟩
theorem EncPost.one {n : Int} {s : ByteArray} {w : World} {e : Ending} {w' : World} (h : EncPost n s w e w') : One (.tuple #[.string (encS n s), .int .i64 (chkC n s)]) w e w' := by
 rcases h with ⟨k, hk, hn, hz, he, hE⟩ | ⟨k, hk, hn, hz, r, hr, he, hE⟩ | ⟨hno, he, hE⟩
 · unfold One chkC encS; rw [rowOf_some hk hn]; simp only [if_neg hz]; exact ⟨he, hE⟩
 · unfold One chkC encS; rw [rowOf_some hk hn]; simp only [if_pos hz]; rw [← hr, hz]
   refine ⟨?_, hE⟩
   rw [he]
 · unfold One chkC encS; rw [rowOf_none hno]; exact ⟨he, hE⟩
theorem DecPost.one {n : Int} {s : ByteArray} {w : World} {e : Ending} {w' : World} (h : DecPost n s w e w') : One (.tuple #[.string (decV n s), .string (decR n s), .int .i64 (decC n s)]) w e w' := by
 rcases h with ⟨k, hk, hn, hz, he, hE⟩ | ⟨k, hk, hn, hz, _, v, r, hv, hr, he, hE⟩ | ⟨hno, he, hE⟩
 · unfold One decC decV decR; rw [rowOf_some hk hn]; simp only [if_neg hz]; exact ⟨he, hE⟩
 · unfold One decC decV decR; rw [rowOf_some hk hn]; simp only [if_pos hz]; rw [← hv, ← hr, hz]
   refine ⟨?_, hE⟩
   rw [he]
 · unfold One decC decV decR; rw [rowOf_none hno]; exact ⟨he, hE⟩
theorem checkF (n : Int) (s : ByteArray) (w : World) (g : Gl w) (hs : s.size ≤ 1000000) : Calls Tryz.prog 70 #[.int .i64 n, .string s] w (One (.int .i64 (chkC n s)) w) := (check_any n s w g hs).mono fun _ _ h => h.one
theorem encodeF (n : Int) (s : ByteArray) (w : World) (g : Gl w) (hs : s.size ≤ 1000000) : Calls Tryz.prog 104 #[.int .i64 n, .string s] w (One (.tuple #[.string (encS n s), .int .i64 (chkC n s)]) w) := (encode_any n s w g hs).mono fun _ _ h => h.one
theorem decodeF (n : Int) (s : ByteArray) (w : World) (g : Gl w) (hs : s.size ≤ 1000000) : Calls Tryz.prog 67 #[.int .i64 n, .string s] w (One (.tuple #[.string (decV n s), .string (decR n s), .int .i64 (decC n s)]) w) := (decode_any n s w g hs).mono fun _ _ h => h.one
end Go.Proofs.YtkggloeaojkhaaaGreatDoor
namespace Go.Proofs.YtkggloeaojkhaaaGreatDoor
open Go.RowKit
theorem ofNat_toNat (m : Nat) (h : m < 256) : (UInt8.ofNat m).toNat = m := by simp; omega
theorem digB_of (m : Nat) (h : m < 10) : digB (UInt8.ofNat (48 + m)) = true := by
 unfold digB; rw [ofNat_toNat _ (by omega)]; simp; omega
theorem lenDig_ok (d n : Nat) (hd : d = 2 ∨ d = 3) (h2 : d = 2 → n < 100) (h3 : n < 1000) : (lenDig d n).length = d ∧ (lenDig d n).all digB = true ∧ numL (lenDig d n) = n := by
 unfold lenDig
 rcases hd with rfl | rfl
 · have := h2 rfl
   rw [if_pos rfl]
   refine ⟨rfl, ?_, ?_⟩
   · simp only [List.all_cons, List.all_nil, Bool.and_true]
     rw [digB_of _ (by omega), digB_of _ (by omega)]; rfl
   · simp only [numL, List.foldl_cons, List.foldl_nil]
     rw [ofNat_toNat _ (by omega), ofNat_toNat _ (by omega)]; omega
 · rw [if_neg (by omega)]
   refine ⟨rfl, ?_, ?_⟩
   · simp only [List.all_cons, List.all_nil, Bool.and_true]
     rw [digB_of _ (by omega), digB_of _ (by omega), digB_of _ (by omega)]; rfl
   · simp only [numL, List.foldl_cons, List.foldl_nil]
     rw [ofNat_toNat _ (by omega), ofNat_toNat _ (by omega), ofNat_toNat _ (by omega)]; omega
theorem u8_of (c : UInt8) (m : Nat) (h : c.toNat = m) : c = UInt8.ofNat m := by subst h; simp
theorem lenDig_back (d : Nat) (l : List UInt8) (hd : d = 2 ∨ d = 3) (hl : l.length = d) (ha : l.all digB = true) (n : Nat) (hn : numL l = n) : lenDig d n = l := by
 unfold lenDig
 rcases hd with rfl | rfl
 · match l, hl with
   | [a, b], _ =>
    simp only [List.all_cons, List.all_nil, Bool.and_true, Bool.and_eq_true, digB, decide_eq_true_eq] at ha
    simp only [numL, List.foldl_cons, List.foldl_nil] at hn
    rw [if_pos rfl, ← u8_of a (48 + n / 10) (by omega), ← u8_of b (48 + n % 10) (by omega)]
 · match l, hl with
   | [a, b, c], _ =>
    simp only [List.all_cons, List.all_nil, Bool.and_true, Bool.and_eq_true, digB, decide_eq_true_eq] at ha
    simp only [numL, List.foldl_cons, List.foldl_nil] at hn
    rw [if_neg (by omega), ← u8_of a (48 + n / 100) (by omega), ← u8_of b (48 + n / 10 % 10) (by omega), ← u8_of c (48 + n % 10) (by omega)]
theorem numL_nat (l : List UInt8) (h : l.all digB = true) : ∃ n : Nat, numL l = n := ⟨(numL l).toNat, by have := numL_bd l h; omega⟩
theorem trimR_pad (l : List UInt8) (n : Nat) (hl : Lib.trimRightB l 32 = l) : Lib.trimRightB (l ++ List.replicate n 32) 32 = l := by
 induction n with
 | zero => simpa using hl
 | succ n ih => rw [List.replicate_succ', ← List.append_assoc, trimR_snoc_eq, ih]
theorem trimR_split (l : List UInt8) : l = Lib.trimRightB l 32 ++ List.replicate (l.length - (Lib.trimRightB l 32).length) 32 := by
 have key : ∀ (n : Nat) (l : List UInt8), l.length = n → l = Lib.trimRightB l 32 ++ List.replicate (l.length - (Lib.trimRightB l 32).length) 32 := by
  intro n
  induction n with
  | zero => intro l hl; rw [List.length_eq_zero_iff.1 hl]; rfl
  | succ n ih =>
   intro l hl
   obtain ⟨i, c, rfl⟩ : ∃ i c, l = i ++ [c] := ⟨l.dropLast, l.getLast (by intro e; simp [e] at hl), (List.dropLast_concat_getLast _).symm⟩
   by_cases hc : c = 32
   · subst hc
     rw [trimR_snoc_eq]
     have h1 := ih i (by simpa using hl)
     have h2 := trimR_len i 32
     rw [List.length_append, List.length_singleton, show i.length + 1 - (Lib.trimRightB i 32).length = (i.length - (Lib.trimRightB i 32).length) + 1 by omega, List.replicate_succ', ← List.append_assoc, ← h1]
   · rw [trimR_snoc_ne _ _ _ hc]; simp
 exact key _ l rfl
theorem trimR_of_trim (l : List UInt8) (h : Lib.trimB l 32 = l) : Lib.trimRightB l 32 = l := by
 have h1 := trimR_len l 32
 have h2 : (Lib.trimB l 32).length ≤ (Lib.trimRightB l 32).length := (List.dropWhile_sublist _).length_le
 rw [h] at h2
 have h3 := trimR_split l
 rw [show l.length - (Lib.trimRightB l 32).length = 0 by omega] at h3
 simpa using h3.symm

/-- A value is decoded from its encoding, whatever follows. -/
theorem round_trip (k : Nat) (hk : k < 23) (s t : ByteArray) (R : List UInt8) (hz : chkK k s = 0) (ht : t.data.toList = encL k s ++ R) :
 decE k t = 0 ∧ valD k t = s.data.toList ∧ t.data.toList.drop (rawA k + rawN k t) = R ∧ (dVar k = 0 → (encL k s).length = (dLen k).toNat) ∧ (0 < dVar k → (encL k s).length = (dVar k).toNat + s.size) := by
 obtain ⟨hl, hkd, h1, h2⟩ := chk_zero k s hz
 obtain ⟨hv, h41⟩ := var_cases k hk
 obtain ⟨⟨b1, b2⟩, ⟨b3, b4⟩, _⟩ := row_bd k hk
 have hsz : t.size = (encL k s).length + R.length := by rw [← size_list, ht, List.length_append]
 have fin : ∀ (raw : List UInt8), rawV k t = raw → (if dNum k = 41 then Lib.trimRightB raw 32 else raw) = s.data.toList → valD k t = s.data.toList := by
  intro raw h h'; unfold valD; rw [h]; exact h'
 by_cases hpos : 0 < dVar k
 · have he : encL k s = lenDig (dVar k).toNat s.size ++ s.data.toList := by unfold encL; rw [if_pos hpos]
   have hne : dNum k ≠ 41 := fun h => by have := (h41 h).1; omega
   have hd : (dVar k).toNat = 2 ∨ (dVar k).toNat = 3 := by omega
   obtain ⟨q1, q2, q3⟩ := lenDig_ok (dVar k).toNat s.size hd (by intro h; omega) (by omega)
   have hA : rawA k = (dVar k).toNat := rfl
   have htk : t.data.toList.take (rawA k) = lenDig (dVar k).toNat s.size := by
    rw [ht, he, hA, List.append_assoc]; exact List.take_left' q1
   have hN : rawN k t = s.size := by unfold rawN; rw [if_pos hpos, htk, q3]; simp
   have hlen : (encL k s).length = (dVar k).toNat + s.size := by rw [he, List.length_append, q1, size_list]
   have hE : rawE k t = 0 := raw_ok (by rw [htk]; exact q2) (by rw [hN]; exact hl) (by rw [hA, hN, hsz]; omega)
   have hV : rawV k t = s.data.toList := by
    unfold rawV; rw [hA, hN, ht, he, List.append_assoc, ← List.append_assoc, List.take_left' (by rw [List.length_append, q1, size_list])]
    exact List.drop_left' q1
   have hval := fin _ hV (by rw [if_neg hne])
   refine ⟨?_, hval, ?_, fun h => by omega, fun _ => hlen⟩
   · rw [dec_good hE hval.symm, hz]
   · rw [hA, hN, ht]; exact List.drop_left' hlen
 · have h0 : dVar k = 0 := by omega
   have hA : rawA k = 0 := by unfold rawA; omega
   have hN : rawN k t = (dLen k).toNat := by unfold rawN; rw [if_neg hpos]
   by_cases h4 : dNum k = 41
   · obtain ⟨_, hl8, hk2⟩ := h41 h4
     have he : encL k s = s.data.toList ++ List.replicate (8 - s.size) 32 := by unfold encL; rw [if_neg hpos, if_pos h4]
     have hlen : (encL k s).length = 8 := by rw [he, List.length_append, List.length_replicate, size_list]; omega
     have hN8 : rawN k t = 8 := by rw [hN, hl8]; rfl
     have hE : rawE k t = 0 := raw_ok (by rw [hA]; rfl) (by rw [hN8, hl8]; decide) (by rw [hA, hN8, hsz]; omega)
     have hV : rawV k t = encL k s := by unfold rawV; rw [hA, hN8, ht, Nat.zero_add, List.take_left' hlen]; rfl
     have htr := (kind2 s (h1 (Or.inr h4)) (by rw [← hk2]; exact hkd)).2.2
     have hval := fin _ hV (by rw [if_pos h4, he]; exact trimR_pad _ _ (trimR_of_trim _ htr))
     refine ⟨?_, hval, ?_, fun _ => by rw [hlen, hl8]; rfl, fun h => by omega⟩
     · rw [dec_good hE hval.symm, hz]
     · rw [hA, hN8, ht, Nat.zero_add]; exact List.drop_left' hlen
   · have he : encL k s = s.data.toList := by unfold encL; rw [if_neg hpos, if_neg h4]
     have hfull := h2 (by intro h; rcases h with h | h; exact hpos h; exact h4 h)
     have hlen : (encL k s).length = (dLen k).toNat := by rw [he, size_list]; omega
     have hE : rawE k t = 0 := raw_ok (by rw [hA]; rfl) (by rw [hN]; omega) (by rw [hA, hN, hsz]; omega)
     have hV : rawV k t = s.data.toList := by unfold rawV; rw [hA, hN, ht, Nat.zero_add, List.take_left' hlen, he]; rfl
     have hval := fin _ hV (by rw [if_neg h4])
     refine ⟨?_, hval, ?_, fun _ => hlen, fun h => by omega⟩
     · rw [dec_good hE hval.symm, hz]
     · rw [hA, hN, ht, Nat.zero_add]; exact List.drop_left' hlen

theorem raw_zero {k : Nat} {s : ByteArray} (h : rawE k s = 0) : (s.data.toList.take (rawA k)).all digB = true ∧ (rawN k s : Int) ≤ dLen k ∧ rawA k + rawN k s ≤ s.size := by
 unfold rawE at h
 by_cases h1 : s.size < rawA k
 · rw [if_pos h1] at h; cases h
 · rw [if_neg h1] at h
   by_cases h2 : (s.data.toList.take (rawA k)).all digB = false
   · rw [if_pos h2] at h; cases h
   · rw [if_neg h2] at h
     by_cases h3 : dLen k < rawN k s
     · rw [if_pos h3] at h; cases h
     · rw [if_neg h3] at h
       by_cases h4 : s.size < rawA k + rawN k s
       · rw [if_pos h4] at h; cases h
       · exact ⟨by simpa using h2, by omega, by omega⟩
/-- What is accepted is the encoding of the value, and a part of it is too short. -/
theorem only_enc (k : Nat) (hk : k < 23) (s v : ByteArray) (hz : decE k s = 0) (hr : rawE k s = 0) (hv : v.data.toList = valD k s) :
 chkK k v = 0 ∧ encL k v ++ s.data.toList.drop (rawA k + rawN k s) = s.data.toList ∧ 0 < (encL k v).length ∧ (encL k v).length ≤ rawA k + rawN k s ∧
  ∀ (c : Nat) (t : ByteArray), c < (encL k v).length → t.data.toList = (encL k v).take c → decE k t = 1 := by
 have hc : chkK k v = 0 := by rw [← dec_good hr hv]; exact hz
 obtain ⟨hl, hkd, g1, g2⟩ := chk_zero k v hc
 obtain ⟨q1, q2, q3⟩ := raw_zero hr
 obtain ⟨hvc, h41⟩ := var_cases k hk
 obtain ⟨⟨b1, b2⟩, ⟨b3, b4⟩, _⟩ := row_bd k hk
 have hrv : (rawV k s).length = rawN k s := by unfold rawV; rw [List.length_drop, List.length_take, size_list]; omega
 have hsplit : s.data.toList.take (rawA k) ++ rawV k s = s.data.toList.take (rawA k + rawN k s) := by
  unfold rawV
  have : s.data.toList.take (rawA k) = (s.data.toList.take (rawA k + rawN k s)).take (rawA k) := by rw [List.take_take, Nat.min_eq_left (by omega)]
  rw [this, List.take_append_drop]
 have main : encL k v = s.data.toList.take (rawA k) ++ rawV k s := by
  by_cases hpos : 0 < dVar k
  · have hne : dNum k ≠ 41 := fun h => by have := (h41 h).1; omega
    have hvr : v.data.toList = rawV k s := by rw [hv]; unfold valD; rw [if_neg hne]
    have hvs : v.size = rawN k s := by rw [← size_list, hvr, hrv]
    unfold encL
    rw [if_pos hpos, hvr]
    congr 1
    obtain ⟨n, hn⟩ := numL_nat _ q1
    have hNn : rawN k s = n := by unfold rawN; rw [if_pos hpos, hn]; simp
    refine lenDig_back (dVar k).toNat _ (by omega) (by rw [List.length_take, size_list]; show min (rawA k) _ = rawA k; omega) q1 _ ?_
    rw [hn, hvs, hNn]
  · have hA : rawA k = 0 := by unfold rawA; omega
    unfold encL
    rw [if_neg hpos, hA]
    by_cases h4 : dNum k = 41
    · rw [if_pos h4]
      obtain ⟨_, hl8, _⟩ := h41 h4
      have hN8 : rawN k s = 8 := by unfold rawN; rw [if_neg hpos, hl8]; rfl
      have hvr : v.data.toList = Lib.trimRightB (rawV k s) 32 := by rw [hv]; unfold valD; rw [if_pos h4]
      have := trimR_split (rawV k s)
      rw [hrv, hN8, ← hvr, size_list] at this
      rw [← this]; rfl
    · rw [if_neg h4]
      rw [hv]; unfold valD; rw [if_neg h4]; rfl
 have hlen : (encL k v).length = rawA k + rawN k s := by rw [main, List.length_append, hrv, List.length_take, size_list]; omega
 refine ⟨hc, ?_, ?_, by omega, ?_⟩
 · rw [main, hsplit, List.take_append_drop]
 · rw [hlen]
   by_cases hpos : 0 < dVar k
   · unfold rawA; omega
   · have : rawN k s = (dLen k).toNat := by unfold rawN; rw [if_neg hpos]
     omega
 · intro c t hct ht
   refine dec_bad ?_ (by decide)
   have hts : t.size = c := by rw [← size_list, ht, List.length_take]; omega
   by_cases hsh : c < rawA k
   · exact raw_short (by omega)
   · have htk : t.data.toList.take (rawA k) = s.data.toList.take (rawA k) := by
      rw [ht, main, hsplit, List.take_take, List.take_take, Nat.min_eq_left (by omega), Nat.min_eq_left (by omega)]
     have hN : rawN k t = rawN k s := by unfold rawN; rw [htk]
     exact raw_short2 (by omega) (by rw [htk]; exact q1) (by rw [hN]; exact q2) (by rw [hN, hts]; omega)
theorem chkC_some {n : Int} {k : Nat} (h : rowOf n = some k) (s : ByteArray) : chkC n s = chkK k s := by unfold chkC; rw [h]
theorem enc_bad {n : Int} {s : ByteArray} (h : chkC n s ≠ 0) : encS n s = ⟨#[]⟩ := by
 unfold encS
 cases hr : rowOf n with
 | none => rfl
 | some k => rw [chkC_some hr] at h; simp only [if_neg h]
theorem enc_good {n : Int} {s : ByteArray} (h : chkC n s = 0) : ∃ k, rowOf n = some k ∧ k < 23 ∧ chkK k s = 0 ∧ (encS n s).data.toList = encL k s ∧ (encS n s).size = (encL k s).length := by
 cases hr : rowOf n with
 | none => unfold chkC at h; rw [hr] at h; cases h
 | some k =>
  rw [chkC_some hr] at h
  have hl : (encS n s).data.toList = encL k s := by unfold encS; rw [hr]; simp only [if_pos h]
  exact ⟨k, rfl, (rowOf_spec hr).1, h, hl, by rw [← size_list, hl]⟩
theorem dec_some {n : Int} {k : Nat} {s : ByteArray} (h : rowOf n = some k) (hz : decE k s = 0) : decC n s = 0 ∧ (decV n s).data.toList = valD k s ∧ (decR n s).data.toList = s.data.toList.drop (rawA k + rawN k s) := by
 unfold decC decV decR
 rw [h]
 simp only [if_pos hz]
 exact ⟨hz, trivial, trivial⟩
theorem dec_badC {n : Int} {s : ByteArray} (h : decC n s ≠ 0) : decV n s = ⟨#[]⟩ ∧ decR n s = ⟨#[]⟩ := by
 unfold decV decR
 cases hr : rowOf n with
 | none => exact ⟨rfl, rfl⟩
 | some k =>
  unfold decC at h
  rw [hr] at h
  simp only [if_neg h]
  exact ⟨trivial, trivial⟩
theorem dec_goodC {n : Int} {s : ByteArray} (h : decC n s = 0) : ∃ k, rowOf n = some k ∧ k < 23 ∧ decE k s = 0 ∧ rawE k s = 0 ∧ (decV n s).data.toList = valD k s ∧ (decR n s).data.toList = s.data.toList.drop (rawA k + rawN k s) := by
 cases hr : rowOf n with
 | none => unfold decC at h; rw [hr] at h; cases h
 | some k =>
  have hz : decE k s = 0 := by unfold decC at h; rw [hr] at h; exact h
  have hraw : rawE k s = 0 := by
   by_cases h0 : rawE k s = 0
   · exact h0
   · unfold decE at hz; rw [if_neg h0] at hz; exact absurd hz h0
  obtain ⟨_, h2, h3⟩ := dec_some hr hz
  exact ⟨k, rfl, (rowOf_spec hr).1, hz, hraw, h2, h3⟩
end Go.Proofs.YtkggloeaojkhaaaGreatDoor
namespace Go.Proofs.YtkggloeaojkhaaaGreatDoor
open Go.RowKit

/-- An element: its number and its value. -/
abbrev El := Int × ByteArray
def elD : El := (0, ⟨#[]⟩)
/-- v is a slice of elements that reads as es. -/
def Elems (w : World) (v : Value) (es : List El) : Prop :=
 ∃ p c, v = .slice p es.length c ∧ (0 < es.length → ∃ b off, p = some ⟨b, off, none⟩ ∧ ∀ i, i < es.length → w.cell? ⟨b, off + i * 2, none⟩ = some (.int .i64 (es.getD i elD).1) ∧ w.cell? ⟨b, off + i * 2 + 1, none⟩ = some (.string (es.getD i elD).2))
theorem Elems.ext {w w' : World} {v : Value} {es : List El} (h : Elems w v es) (k : Ext w w') : Elems w' v es := by
 obtain ⟨p, c, hv, hp⟩ := h
 refine ⟨p, c, hv, fun h0 => ?_⟩
 obtain ⟨b, off, hb, hc⟩ := hp h0
 exact ⟨b, off, hb, fun i hi => ⟨k.get (hc i hi).1, k.get (hc i hi).2⟩⟩
def msgAgg (ty : Int) (v : Value) : Value := .agg #[.int .i64 ty, v]
/-- The place of the first element for which p holds. -/
def firstP (p : Int → Bool) : List El → Option Nat
 | [] => none
 | x :: l => if p x.1 then some 0 else (firstP p l).map (· + 1)
theorem firstP_found (p : Int → Bool) : ∀ (l : List El) (k : Nat), k < l.length → (∀ j, j < k → p (l.getD j elD).1 = false) → p (l.getD k elD).1 = true → firstP p l = some k
 | [], k, h, _, _ => absurd h (by simp)
 | x :: l, 0, _, _, h => by simp [firstP] at h ⊢; exact h
 | x :: l, k + 1, hk, hj, h => by
  have h0 := hj 0 (by omega)
  have ih := firstP_found p l k (by simpa using hk) (fun j h' => by simpa using hj (j + 1) (by omega)) (by simpa using h)
  simp at h0
  simp [firstP, h0, ih]
theorem firstP_none (p : Int → Bool) : ∀ (l : List El), (∀ j, j < l.length → p (l.getD j elD).1 = false) → firstP p l = none
 | [], _ => rfl
 | x :: l, hj => by
  have h0 := hj 0 (by simp)
  have ih := firstP_none p l (fun j h' => by simpa using hj (j + 1) (by simpa using h'))
  simp at h0
  simp [firstP, h0, ih]
/-- What find returns. -/
def findI (p : Int → Bool) (l : List El) : Int := match firstP p l with | some k => k | none => -1
def OneV (v : Value) (w : World) (e : Ending) (w' : World) : Prop := e = .returned v ∧ Ext w w'

set_option maxRecDepth 8000 in
set_option maxHeartbeats 1000000 in
theorem mfind_any (c : Nat) (cap v : Value) (p : Int → Bool) (es : List El) (w : World) (hv : Elems w v es) (hl : es.length ≤ 1000000)
 (hcf : ∀ (args : Array Value) (w : World), (callFunc c args).run Tryz.prog w = .ok (.enter c args) w)
 (hcl : ∀ wr, Ext w wr → ∀ (n : Int) (s : ByteArray), Calls Tryz.prog c #[.agg #[.int .i64 n, .string s], cap] wr (OneV (.bool (p n)) wr)) :
 Calls Tryz.prog 123 #[v, .func (.func c) #[] #[cap]] w (OneV (.int .i64 (findI p es)) w) := by
 obtain ⟨q, cp, rfl, hp⟩ := hv
 have hP := Lib.hid hp
 have hC := Lib.hid hcl
 clear hp hcl
 go_enter Tryz.func123, Tryz.ntmps123
 go_wp2_with fail
 go_loopw [9] (fun i wr => ∃ k : Nat, k ≤ es.length ∧ i = .int .i64 k ∧ (∀ j, j < k → p (es.getD j elD).1 = false) ∧ Ext w wr) (fun i _ => es.length - (intOf i).toNat)
 case atStart => exact ⟨0, Nat.zero_le _, rfl, fun j hj => absurd hj (by omega), Ext.refl w⟩
 case round =>
  obtain ⟨k, hk, rfl, hno, hE⟩ := hrel
  have hno := Lib.hid hno
  by_cases hlt : k < es.length
  · obtain ⟨b, off, rfl, hcs⟩ := hP.out (by omega)
    have c0 := hE.get (hcs k hlt).1
    have c1 := hE.get (hcs k hlt).2
    clear hcs
    generalize hx : (es.getD k elD).1 = n at *
    generalize hy : (es.getD k elD).2 = s at *
    have hX := Lib.hid hx
    clear hx hy
    go_wp2_with fail
    refine (hC.out _ (hE.alloc _) n s).mono ?_
    rintro e w1 ⟨rfl, hE1⟩
    have hE2 := (hE.alloc _).trans hE1
    clear hE1
    cases hpn : p n with
    | true =>
     go_wp2
     go_ret
     refine ⟨?_, hE2⟩
     unfold findI
     rw [firstP_found p es k hlt hno.out (by rw [hX.out]; exact hpn)]
     rfl
    | false =>
     have hpn := Lib.hid hpn
     go_wp2
     go_roundw
     case rel => exact ⟨k + 1, by omega, by go_num, fun j hj => (by by_cases e : j = k; rw [e, hX.out]; exact hpn.out; exact hno.out j (by omega)), hE2⟩
     case measure => simp [intOf]; omega
  · go_wp2
    go_ret
    refine ⟨?_, hE⟩
    unfold findI
    rw [firstP_none p es (fun j hj => hno.out j (by omega))]
    rfl
end Go.Proofs.YtkggloeaojkhaaaGreatDoor
namespace Go.Proofs.YtkggloeaojkhaaaGreatDoor
open Go.RowKit
/-- The value of an element. -/
def getE (n : Int) (es : List El) : Option ByteArray := (firstP (fun m => m == n) es).map fun k => (es.getD k elD).2
def getS (n : Int) (es : List El) : ByteArray := (getE n es).getD ⟨#[]⟩
def getB (n : Int) (es : List El) : Bool := (getE n es).isSome
theorem firstP_spec (p : Int → Bool) : ∀ (l : List El) (k : Nat), firstP p l = some k → k < l.length ∧ p (l.getD k elD).1 = true ∧ ∀ j, j < k → p (l.getD j elD).1 = false
 | [], k, h => by cases h
 | x :: l, k, h => by
  unfold firstP at h
  by_cases hx : p x.1 = true
  · rw [if_pos hx] at h
    cases h
    exact ⟨by simp, by simpa using hx, fun j hj => absurd hj (by omega)⟩
  · rw [if_neg hx] at h
    cases hf : firstP p l with
    | none => rw [hf] at h; cases h
    | some j =>
     rw [hf] at h
     cases h
     obtain ⟨h1, h2, h3⟩ := firstP_spec p l j hf
     refine ⟨by simpa using h1, by simpa using h2, fun i hi => ?_⟩
     cases i with
     | zero => simpa using hx
     | succ i => simpa using h3 i (by simp at hi; omega)
theorem get1_any (B : Nat) (n m : Int) (s : ByteArray) (w : World) (hc : w.cell? ⟨B, 0, none⟩ = some (.int .i64 n)) :
 Calls Tryz.prog 124 #[.agg #[.int .i64 m, .string s], .pointer (some ⟨B, 0, none⟩)] w (OneV (.bool (m == n)) w) := by
 have hB : B < w.heap.size := cell_lt hc
 go_enter Tryz.func124, Tryz.ntmps124
 go_wp2
 go_ret
 exact ⟨rfl, (Ext.refl w).alloc _⟩
set_option maxRecDepth 8000 in
set_option maxHeartbeats 1000000 in
theorem get_any (ty n : Int) (v : Value) (es : List El) (w : World) (hv : Elems w v es) (hl : es.length ≤ 1000000) :
 Calls Tryz.prog 72 #[msgAgg ty v, .int .i64 n] w (OneV (.tuple #[.string (getS n es), .bool (getB n es)]) w) := by
 have hv0 := hv
 obtain ⟨q, cp, rfl, hp⟩ := hv
 have hP := Lib.hid hp
 have hV := Lib.hid hv0
 clear hp hv0
 unfold msgAgg
 go_enter Tryz.func72, Tryz.ntmps72
 go_wp2_with fail
 refine (mfind_any 124 _ _ (fun m => m == n) es _ (hV.out.ext (((Ext.refl w).alloc _).alloc _)) hl (fun _ _ => by kernel_rfl) ?_).mono ?_
 · intro wr hE m s
   exact get1_any _ n m s wr (hE.get (by simp [go_sem]))
 rintro e w1 ⟨rfl, hE1⟩
 have hB := ((Blk.new w _ _).alloc _).ext hE1
 have z1 := hB.cell 1
 simp at z1
 have hE2 := (((Ext.refl w).alloc _).alloc _).trans hE1
 clear hE1 hB
 cases hf : firstP (fun m => m == n) es with
 | none =>
  have hg : getE n es = none := by unfold getE; rw [hf]; rfl
  have hI : findI (fun m => m == n) es = -1 := by unfold findI; rw [hf]
  rw [hI]
  have hG := Lib.hid hg
  clear hg hI hf
  go_wp2
  go_ret2
  refine ⟨?_, hE2⟩
  unfold getS getB
  rw [hG.out]; rfl
 | some k =>
  obtain ⟨hk, _, _⟩ := firstP_spec _ es k hf
  have hg : getE n es = some (es.getD k elD).2 := by unfold getE; rw [hf]; rfl
  have hI : findI (fun m => m == n) es = (k : Int) := by unfold findI; rw [hf]
  rw [hI]
  have hG := Lib.hid hg
  clear hg hI hf
  obtain ⟨b, off, rfl, hcs⟩ := hP.out (by omega)
  have c1 := hE2.get (hcs k hk).2
  clear hcs hP hV
  generalize (es.getD k elD).2 = sv at *
  go_wp2
  go_ret2
  refine ⟨?_, hE2⟩
  unfold getS getB
  rw [hG.out]; rfl
set_option maxRecDepth 8000 in
set_option maxHeartbeats 1000000 in
theorem rGet_any (ty n : Int) (v : Value) (es : List El) (w : World) (hv : Elems w v es) (hl : es.length ≤ 1000000) :
 Calls Tryz.prog 9 #[msgAgg ty v, .int .i64 n] w (OneV (.tuple #[.string (getS n es), .bool (getB n es)]) w) := by
 obtain ⟨q, cp, rfl, hp⟩ := hv
 have hP := Lib.hid hp
 clear hp
 unfold msgAgg
 go_enter Tryz.func9, Tryz.ntmps9
 go_wp2
 go_loop [6] (fun i => ∃ k : Nat, k ≤ es.length ∧ i = .int .i64 k ∧ ∀ j, j < k → ((es.getD j elD).1 == n) = false) (fun i => es.length - (intOf i).toNat)
 case atStart => exact ⟨0, Nat.zero_le _, rfl, fun j hj => absurd hj (by omega)⟩
 case round =>
  obtain ⟨k, hk, rfl, hno⟩ := hrel
  have hno := Lib.hid hno
  by_cases hlt : k < es.length
  · obtain ⟨b, off, rfl, hcs⟩ := hP.out (by omega)
    have hE : Ext w (w.alloc (.cells #[.int .i64 ty, .slice (some ⟨b, off, none⟩) es.length cp] 29)) := (Ext.refl w).alloc _
    have c0 := hE.get (hcs k hlt).1
    have c1 := hE.get (hcs k hlt).2
    clear hcs
    generalize hx : (es.getD k elD).1 = m at *
    generalize hy : (es.getD k elD).2 = s at *
    have hX := Lib.hid hx
    have hY := Lib.hid hy
    clear hx hy
    by_cases he : m = n
    · have hb : (m == n) = true := by simpa using he
      have hB := Lib.hid hb
      clear he
      go_wp2
      go_ret2
      refine ⟨?_, xt⟩
      have hg : getE n es = some s := by unfold getE; rw [firstP_found _ es k hlt hno.out (by rw [hX.out]; exact hB.out), ← hY.out]; rfl
      unfold getS getB
      rw [hg]; rfl
    · have hb : (m == n) = false := by simpa using he
      have hB := Lib.hid hb
      clear he
      go_wp2
      go_round
      case rel => exact ⟨k + 1, by omega, by go_num, fun j hj => (by by_cases e : j = k; rw [e, hX.out]; exact hB.out; exact hno.out j (by omega))⟩
      case measure => simp [intOf]; omega
  · go_wp2
    go_ret2
    refine ⟨?_, xt⟩
    have hg : getE n es = none := by unfold getE; rw [firstP_none _ es (fun j hj => hno.out j (by omega))]; rfl
    unfold getS getB
    rw [hg]; rfl
/-- Whether a type has a reply. -/
def asksB (n : Int) : Bool := decide (1 ≤ n ∧ n ≤ 9989 ∧ (n % 100 = 0 ∨ n % 100 = 20))

end Go.Proofs.YtkggloeaojkhaaaGreatDoor
namespace Go.Proofs.YtkggloeaojkhaaaGreatDoor
open Go.RowKit
set_option maxHeartbeats 1000000 in
theorem asks_any (n : Int) (w : World) : Calls Tryz.prog 33 #[.int .i64 n] w fun e w' => e = .returned (.bool (asksB n)) ∧ w = w' := by
 by_cases a : 1 ≤ n ∧ n ≤ 9989
 · obtain ⟨a1, a2⟩ := a
   by_cases b : n % 100 = 0
   · have hb : (n % 100 == 0) = true := by simpa using b
     have hA : asksB n = true := by unfold asksB; simp [a1, a2, b]
     have t1 : decide (n ≤ 9989) = true := by simpa using a2
     rw [hA]; clear hA b
     go_enter Tryz.func33, Tryz.ntmps33
     go_wp2
     go_ret
     exact ⟨rfl, rfl⟩
   · have hb : (n % 100 == 0) = false := by simpa using b
     have t1 : decide (n ≤ 9989) = true := by simpa using a2
     have hA : asksB n = (n % 100 == 20) := by unfold asksB; rw [Bool.eq_iff_iff]; simp [a1, a2, b]
     rw [hA]; clear hA b
     go_enter Tryz.func33, Tryz.ntmps33
     go_wp2
     go_ret
     exact ⟨rfl, rfl⟩
 · have hA : asksB n = false := by unfold asksB; rw [decide_eq_false_iff_not]; omega
   rw [hA]; clear hA
   by_cases a1 : 1 ≤ n
   · have t1 : decide (n ≤ 9989) = false := by simp; omega
     go_enter Tryz.func33, Tryz.ntmps33
     go_wp2
     go_ret
     exact ⟨rfl, rfl⟩
   · go_enter Tryz.func33, Tryz.ntmps33
     go_wp2
     go_ret
     exact ⟨rfl, rfl⟩

theorem ne_empty (s : ByteArray) : (!s.toList.isEmpty) = (true && decide (0 < s.size)) := by
 rw [ByteArray.toList_eq, Bool.true_and]
 have hl : s.data.toList.length = s.size := by rw [Array.length_toList]; rfl
 cases h : s.data.toList with
 | nil =>
  rw [h] at hl
  have h0 : s.size = 0 := hl.symm
  rw [h0]; rfl
 | cons a l =>
  rw [h, List.length_cons] at hl
  have h0 : 0 < s.size := by omega
  rw [decide_eq_true h0]; rfl
set_option maxHeartbeats 400000 in
theorem areDigits_any (s : ByteArray) (w : World) (hs : s.size ≤ 1000000) :
 Calls Tryz.prog 64 #[.string s] w fun e w' => e = .returned (.bool (allS digB s && decide (0 < s.size))) ∧ w = w' := by
 go_enter Tryz.func64, Tryz.ntmps64
 go_wp2
 go_loop [6] (fun i => ∃ k : Nat, k ≤ s.size ∧ i = .int .i64 k ∧ (s.data.toList.take k).all digB = true) (fun i => s.size - (intOf i).toNat)
 case atStart => exact ⟨0, Nat.zero_le _, rfl, rfl⟩
 case round =>
  obtain ⟨k, hk, rfl, hall⟩ := hrel
  have hH := Lib.hid hall
  clear hall
  by_cases hlt : k < s.size
  · go_wp2
    · go_ret
      exact ⟨ret_bool (by rw [show allS digB s = false from all_of_badP digB s k hlt (by simp [digB]; omega)]; rfl), rfl⟩
    · go_round
      case rel => exact ⟨k + 1, by omega, by go_num, by rw [all_take_snocP digB s k hlt, hH.out]; simp [digB]; omega⟩
      case measure => simp [intOf]; omega
    · go_ret
      exact ⟨ret_bool (by rw [show allS digB s = false from all_of_badP digB s k hlt (by simp [digB]; omega)]; rfl), rfl⟩
  · have hk' : s.data.toList.take k = s.data.toList := List.take_of_length_le (by simp; omega)
    have hA := hH.out
    rw [hk'] at hA
    have hS : Hid (allS digB s = true) := Lib.hid hA
    clear hA hk'
    go_wp2
    go_ret
    refine ⟨ret_bool ?_, rfl⟩
    rw [hS.out]
    exact ne_empty s
/-- Equality of lists of elements, as the reference's Same decides it. -/
def sameB (ta tb : Int) (a b : List El) : Bool := decide (ta = tb ∧ a = b)
def SameM (b : Bool) (w : World) (e : Ending) (w' : World) : Prop := e = .returned (.bool b) ∧ Ext w w'
theorem el_step (a b : List El) (k : Nat) (h1 : k < a.length) (h2 : a.length = b.length) (h : a.take k = b.take k) (h3 : (a.getD k elD).1 = (b.getD k elD).1) (h4 : (a.getD k elD).2 = (b.getD k elD).2) : a.take (k + 1) = b.take (k + 1) := by
 rw [List.take_succ_eq_append_getElem h1, List.take_succ_eq_append_getElem (by omega), h]
 congr 1
 have e : a.getD k elD = b.getD k elD := Prod.ext h3 h4
 simpa [List.getD_eq_getElem?_getD, List.getElem?_eq_getElem h1, List.getElem?_eq_getElem (show k < b.length by omega)] using e
set_option maxRecDepth 8000 in
set_option maxHeartbeats 2000000 in
theorem rSame_any (ta tb : Int) (va vb : Value) (a b : List El) (w : World) (ha : Elems w va a) (hb : Elems w vb b) (hla : a.length ≤ 1000000) (hlb : b.length ≤ 1000000) :
 Calls Tryz.prog 92 #[msgAgg ta va, msgAgg tb vb] w (SameM (sameB ta tb a b) w) := by
 obtain ⟨p, c, rfl, hp⟩ := ha
 obtain ⟨q, d, rfl, hq⟩ := hb
 have hP := Lib.hid hp
 have hQ := Lib.hid hq
 clear hp hq
 unfold msgAgg
 by_cases ht : ta = tb
 · have htb : (ta != tb) = false := by simpa using ht
   have hT := Lib.hid ht
   clear ht
   by_cases hl : a.length = b.length
   · have hln : ((a.length : Int) != b.length) = false := by simp [hl]
     have hL := Lib.hid hl
     clear hl
     go_enter Tryz.func92, Tryz.ntmps92
     go_wp2_with fail
     go_loopw [5] (fun i wr => ∃ k : Nat, k ≤ a.length ∧ i = .int .i64 k ∧ a.take k = b.take k ∧ Ext w wr ∧ Blk wr w.heap.size #[.int .i64 ta, .slice p a.length c] 29 ∧ Blk wr (w.heap.size + 1) #[.int .i64 tb, .slice q b.length d] 29) (fun i _ => a.length - (intOf i).toNat)
     case atStart => exact ⟨0, Nat.zero_le _, rfl, rfl, xt, (Blk.new _ _ _).alloc _, Blk.new' _ _ _ _ (by simp)⟩
     case round =>
      obtain ⟨k, hk, rfl, htk, hE, hB1, hB2⟩ := hrel
      have hTk := Lib.hid htk
      clear htk
      have z1 := hB1.cell 1
      have y1 := hB2.cell 1
      simp at z1 y1
      by_cases hlt : k < a.length
      · obtain ⟨b1, o1, rfl, hc1⟩ := hP.out (by omega)
        obtain ⟨b2, o2, rfl, hc2⟩ := hQ.out (by have := hL.out; omega)
        have hkb : k < b.length := by have := hL.out; omega
        have c0 := hE.get (hc1 k hlt).1
        have c1 := hE.get (hc1 k hlt).2
        have d0 := hE.get (hc2 k hkb).1
        have d1 := hE.get (hc2 k hkb).2
        clear hc1 hc2 hP hQ
        generalize hx : (a.getD k elD).1 = m1 at *
        generalize hy : (a.getD k elD).2 = s1 at *
        generalize hu : (b.getD k elD).1 = m2 at *
        generalize hv : (b.getD k elD).2 = s2 at *
        have HX := Lib.hid (And.intro hx (And.intro hy (And.intro hu hv)))
        clear hx hy hu hv
        by_cases hm : m1 = m2
        · subst hm
          by_cases hs : s1 = s2
          · subst hs
            go_wp2
            go_quiet (fail)
            go_wp2
            go_roundw
            case rel => exact ⟨k + 1, by omega, by go_num, el_step a b k hlt hL.out hTk.out (HX.out.1.trans HX.out.2.2.1.symm) (HX.out.2.1.trans HX.out.2.2.2.symm), hE.drewN _, hB1.drewN _, hB2.drewN _⟩
            case measure => simp [intOf]; omega
          · have hsb := strNe hs
            have hS := Lib.hid hs
            clear hs
            go_wp2
            go_quiet (fail)
            go_wp2
            go_ret
            refine ⟨ret_bool ?_, hE.drewN _⟩
            symm
            unfold sameB
            rw [decide_eq_false_iff_not]
            rintro ⟨_, e⟩
            subst e
            exact hS.out (HX.out.2.1.symm.trans HX.out.2.2.2)
        · have hmb : (m1 == m2) = false := by simpa using hm
          have hM := Lib.hid hm
          clear hm
          go_wp2
          go_quiet (fail)
          go_wp2
          go_ret
          refine ⟨ret_bool ?_, hE.drewN _⟩
          symm
          unfold sameB
          rw [decide_eq_false_iff_not]
          rintro ⟨_, e⟩
          subst e
          exact hM.out (HX.out.1.symm.trans HX.out.2.2.1)
      · go_wp2
        go_ret
        refine ⟨ret_bool ?_, hE⟩
        symm
        unfold sameB
        rw [decide_eq_true_iff]
        have h := hTk.out
        rw [List.take_of_length_le (by omega), List.take_of_length_le (by have := hL.out; omega)] at h
        exact ⟨hT.out, h⟩
   · have hln : ((a.length : Int) != b.length) = true := by simp; omega
     have hL := Lib.hid hl
     clear hl
     go_enter Tryz.func92, Tryz.ntmps92
     go_wp2
     go_ret
     refine ⟨ret_bool ?_, xt⟩
     symm
     unfold sameB
     rw [decide_eq_false_iff_not]
     rintro ⟨_, e⟩
     exact hL.out (by rw [e])
 · have htb : (ta != tb) = true := by simpa using ht
   have hT := Lib.hid ht
   clear ht
   go_enter Tryz.func92, Tryz.ntmps92
   go_wp2
   go_ret
   refine ⟨ret_bool ?_, xt⟩
   symm
   unfold sameB
   rw [decide_eq_false_iff_not]
   exact fun h => hT.out h.1
end Go.Proofs.YtkggloeaojkhaaaGreatDoor
namespace Go.Proofs.YtkggloeaojkhaaaGreatDoor
open Go.RowKit
/-- The cells of elements. -/
def elCells (es : List El) : List Value := es.flatMap fun x => [.int .i64 x.1, .string x.2]
theorem elCells_snoc (es : List El) (x : El) : elCells (es ++ [x]) = elCells es ++ [.int .i64 x.1, .string x.2] := by simp [elCells]
theorem elCells_at (es : List El) (i : Nat) (hi : i < es.length) : (elCells es)[i * 2]? = some (.int .i64 (es.getD i elD).1) ∧ (elCells es)[i * 2 + 1]? = some (.string (es.getD i elD).2) := by
 induction es generalizing i with
 | nil => cases hi
 | cons x l ih =>
  cases i with
  | zero => exact ⟨rfl, rfl⟩
  | succ i =>
   have := ih i (by simpa using hi)
   have e : elCells (x :: l) = [.int .i64 x.1, .string x.2] ++ elCells l := rfl
   rw [e, List.getElem?_append_right (by simp; omega), List.getElem?_append_right (by simp; omega)]
   simpa [show (i + 1) * 2 - 2 = i * 2 by omega, show (i + 1) * 2 + 1 - 2 = i * 2 + 1 by omega] using this
theorem infoEl : (Tryz.prog.info? 97).map (fun i => (i.zero, i.size, i.bytes)) = some (some (.agg #[.int .i64 0, .string ⟨#[]⟩]), 2, 24) := by kernel_rfl
theorem elems_of_owns {w : World} {B : Nat} {v : Value} {es : List El} (h : w.ownsRow B 97 2 v es.length (elCells es)) : Elems w v es := by
 obtain ⟨_, h | ⟨g, cap, cur, rfl, _, hb, _, _, _, hx⟩⟩ := h
 · exact ⟨none, 0, by rw [h.1, h.2], fun h0 => absurd h.2 (by omega)⟩
 · refine ⟨some ⟨g, 0, none⟩, cap, rfl, fun _ => ⟨g, 0, rfl, fun i hi => ?_⟩⟩
   have hc := elCells_at es i hi
   rw [← hx] at hc
   rw [List.getElem?_take, if_pos (by omega), List.getElem?_take, if_pos (by omega)] at hc
   unfold World.cell?
   simp only [hb, Nat.zero_add]
   exact ⟨by simpa using hc.1, by simpa using hc.2⟩
theorem owns_ext {w w' : World} {B : Nat} {T : TypeId} {sz : Nat} {v : Value} {n : Nat} {xs : List Value} (h : w.ownsRow B T sz v n xs) (k : Ext w w') : w'.ownsRow B T sz v n xs := by
 obtain ⟨h1, h | ⟨g, cap, cur, hv, hg, hb, h2⟩⟩ := h
 · exact ⟨h1, Or.inl h⟩
 · refine ⟨h1, Or.inr ⟨g, cap, cur, hv, hg, ?_, h2⟩⟩
   rw [k.block g (Array.getElem?_eq_some_iff.1 hb).1, hb]
theorem owns_set {w : World} {B C o : Nat} {T : TypeId} {sz : Nat} {v u : Value} {n : Nat} {xs : List Value} (h : w.ownsRow B T sz v n xs) (hC : C < B) : (w.setCell ⟨C, o, none⟩ u).ownsRow B T sz v n xs := by
 obtain ⟨h1, h | ⟨g, cap, cur, hv, hg, hb, h2⟩⟩ := h
 · exact ⟨h1, Or.inl h⟩
 · refine ⟨h1, Or.inr ⟨g, cap, cur, hv, hg, ?_, h2⟩⟩
   rw [Below.heap_setCell _ _ _ _ (show g ≠ C by omega), hb]
theorem owns_form {w : World} {B : Nat} {T : TypeId} {sz : Nat} {v : Value} {n : Nat} {xs : List Value} (h : w.ownsRow B T sz v n xs) : ∃ p c, v = .slice p n c := by
 obtain ⟨_, h | ⟨g, cap, cur, hv, _⟩⟩ := h
 · exact ⟨none, 0, by rw [h.1, h.2]⟩
 · exact ⟨_, _, hv⟩
theorem cell_two_new' (w : World) (a b : Value) (T : TypeId) (n : Nat) (h : n = w.heap.size) : ∀ j u, [a, b][j]? = some u → (w.alloc (.cells #[a, b] T)).cell? ((⟨n, 0, none⟩ : Addr).add j) = some u := by
 subst h
 intro j u hu
 have hB := Blk.new w #[a, b] T
 cases j with
 | zero => exact (hB.cell 0).trans hu
 | succ j =>
  cases j with
  | zero => exact (hB.cell 1).trans hu
  | succ j => simp at hu
end Go.Proofs.YtkggloeaojkhaaaGreatDoor
namespace Go.Proofs.YtkggloeaojkhaaaGreatDoor
open Go.RowKit
theorem elCells_append (a b : List El) : elCells (a ++ b) = elCells a ++ elCells b := by simp [elCells]
end Go.Proofs.YtkggloeaojkhaaaGreatDoor
