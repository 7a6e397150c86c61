/- Plain facts: a bitmap of ascending numbers lists them, and a bitmap is that of its list. Contract of bitmap.value (walk). Contract of bitmap.Decode (walk). Contracts of bitmap.text and bitmap.Encode (walks). -/
import Derived.Test.YtkggloeaojkhaaaGreatDoorQb
import Derived.Test.YtkggloeaojkhaaaGreatDoorQc
import Derived.LoopTactic
import Derived.Test.YtkggloeaojkhaaaGreatDoorQg
import Derived.Laws.IdiomStrings
import Derived.Deep.RegionHeld3
namespace Go.Proofs.YtkggloeaojkhaaaGreatDoor
open Go

theorem bmem_bset (a b n m : Nat) (hn : 2 ≤ n) (hn' : n ≤ 128) (hm : 2 ≤ m) (hm' : m ≤ 128) : bmem (bset a b n).1 (bset a b n).2 m = (decide (m = n) || bmem a b m) := by
 unfold bset bmem
 by_cases h : n ≤ 64 <;> by_cases k : m ≤ 64
 · simp only [if_pos h, if_pos k, Nat.testBit_or, testBit_clr, testBit_pw]
   rw [decide_eq_true (show 64 - m < 63 by omega), Bool.true_and, Bool.or_comm]
   congr 1
   rw [decide_eq_decide]; omega
 · simp only [if_pos h, if_neg k]
   rw [decide_eq_false (show ¬ m = n by omega), Bool.false_or]
 · simp only [if_neg h, if_pos k, testBit_clr]
   rw [decide_eq_true (show 64 - m < 63 by omega), decide_eq_false (show ¬ m = n by omega), Bool.true_and, Bool.false_or]
 · simp only [if_neg h, if_neg k, Nat.testBit_or, testBit_pw]
   rw [Bool.or_comm]
   congr 1
   rw [decide_eq_decide]; omega
theorem bmem_bof (l : List Int) (hl : In128 l) (p : Nat × Nat) (m : Nat) (hm : 2 ≤ m) (hm' : m ≤ 128) : bmem (bof l p).1 (bof l p).2 m = (decide ((m : Int) ∈ l) || bmem p.1 p.2 m) := by
 induction l generalizing p with
 | nil => simp [bof]
 | cons n l ih =>
  have hn := hl n (by simp)
  rw [bof, ih (fun x hx => hl x (by simp [hx])), bmem_bset _ _ _ _ (by omega) (by omega) hm hm', ← Bool.or_assoc]
  congr 1
  rw [Bool.eq_iff_iff]
  simp only [Bool.or_eq_true, decide_eq_true_eq, List.mem_cons]
  constructor
  · rintro (h | h)
    · exact Or.inr h
    · exact Or.inl (by omega)
  · rintro (h | h)
    · exact Or.inr (by omega)
    · exact Or.inl h
theorem bmem_zero (m : Nat) : bmem 0 0 m = false := by unfold bmem; split <;> simp
theorem mem_blist (a b : Nat) (x : Int) : x ∈ blist a b 129 ↔ ∃ m : Nat, x = m ∧ 2 ≤ m ∧ m ≤ 128 ∧ bmem a b m = true := by
 unfold blist
 rw [List.mem_map]
 constructor
 · rintro ⟨m, hm, rfl⟩
   rw [List.mem_filter, List.mem_range'_1] at hm
   exact ⟨m, rfl, by omega, by omega, hm.2⟩
 · rintro ⟨m, rfl, h1, h2, h3⟩
   exact ⟨m, by rw [List.mem_filter, List.mem_range'_1]; exact ⟨by omega, h3⟩, rfl⟩
theorem range_sorted : ∀ (n s : Nat), (List.range' s n).Pairwise (· < ·)
 | 0, s => List.Pairwise.nil
 | n + 1, s => by
  rw [List.range'_succ, List.pairwise_cons]
  exact ⟨fun x hx => by rw [List.mem_range'_1] at hx; omega, range_sorted n (s + 1)⟩
theorem blist_sorted (a b n : Nat) : (blist a b n).Pairwise (· < ·) := by
 unfold blist
 rw [List.pairwise_map]
 refine ((range_sorted _ _).filter _).imp ?_
 intro x y h
 show (x : Int) < (y : Int)
 omega
theorem sorted_ext : ∀ (l k : List Int), l.Pairwise (· < ·) → k.Pairwise (· < ·) → (∀ x, x ∈ l ↔ x ∈ k) → l = k
 | [], [], _, _, _ => rfl
 | [], y :: k, _, _, h => by have := (h y).2 (by simp); cases this
 | x :: l, [], _, _, h => by have := (h x).1 (by simp); cases this
 | x :: l, y :: k, hl, hk, h => by
  rw [List.pairwise_cons] at hl hk
  have hxy : x = y := by
   have h1 := (h x).1 (by simp)
   have h2 := (h y).2 (by simp)
   rcases List.mem_cons.1 h1 with e | e
   · exact e
   · rcases List.mem_cons.1 h2 with e' | e'
     · exact e'.symm
     · have := hk.1 x e; have := hl.1 y e'; omega
  subst hxy
  congr 1
  refine sorted_ext l k hl.2 hk.2 fun z => ⟨fun hz => ?_, fun hz => ?_⟩
  · have := hl.1 z hz
    rcases List.mem_cons.1 ((h z).1 (by simp [hz])) with e | e
    · omega
    · exact e
  · have := hk.1 z hz
    rcases List.mem_cons.1 ((h z).2 (by simp [hz])) with e | e
    · omega
    · exact e
theorem blist_bof (l : List Int) (hl : In128 l) (hs : l.Pairwise (· < ·)) : blist (bof l (0, 0)).1 (bof l (0, 0)).2 129 = l := by
 refine sorted_ext _ _ (blist_sorted _ _ _) hs fun x => ?_
 rw [mem_blist]
 constructor
 · rintro ⟨m, rfl, h1, h2, h3⟩
   rw [bmem_bof l hl _ m h1 h2, bmem_zero, Bool.or_false] at h3
   simpa using h3
 · intro hx
   have := hl x hx
   refine ⟨x.toNat, by omega, by omega, by omega, ?_⟩
   rw [bmem_bof l hl _ _ (by omega) (by omega), bmem_zero, Bool.or_false, decide_eq_true_iff, show ((x.toNat : Nat) : Int) = x by omega]
   exact hx
theorem bof_top (l : List Int) (hl : In128 l) (p : Nat × Nat) (h1 : p.1 < 2 ^ 63) (h2 : Wd p.2) : (bof l p).1 < 2 ^ 63 ∧ Wd (bof l p).2 := by
 induction l generalizing p with
 | nil => exact ⟨h1, h2⟩
 | cons n l ih =>
  have hn := hl n (by simp)
  refine ih (fun x hx => hl x (by simp [hx])) _ ?_ (Wd_bset _ _ _ h2 (by omega) (by omega)).2
  unfold bset
  split
  · refine Nat.or_lt_two_pow (Nat.mod_lt _ (by decide)) ?_
    unfold pw
    exact Nat.pow_lt_pow_right (by omega) (by omega)
  · exact Nat.mod_lt _ (by decide)
theorem bof_blist (a b : Nat) (ha : a < 2 ^ 63) (hb : Wd b) : bof (blist a b 129) (0, 0) = (a, b) := by
 have hin : In128 (blist a b 129) := fun x hx => by obtain ⟨m, rfl, h1, h2, _⟩ := (mem_blist a b x).1 hx; omega
 have ht := bof_top _ hin (0, 0) (by decide) (by unfold Wd; decide)
 have key : ∀ m, 2 ≤ m → m ≤ 128 → bmem (bof (blist a b 129) (0, 0)).1 (bof (blist a b 129) (0, 0)).2 m = bmem a b m := by
  intro m h1 h2
  rw [bmem_bof _ hin _ m h1 h2, bmem_zero, Bool.or_false, Bool.eq_iff_iff, decide_eq_true_iff, mem_blist]
  constructor
  · rintro ⟨k, e, _, _, h⟩
    rw [show m = k by omega]; exact h
  · intro h; exact ⟨m, rfl, h1, h2, h⟩
 generalize bof (blist a b 129) (0, 0) = p at *
 unfold Wd at *
 refine Prod.ext ?_ ?_
 · apply Nat.eq_of_testBit_eq
   intro i
   by_cases hi : i < 63
   · have := key (64 - i) (by omega) (by omega)
     unfold bmem at this
     rw [if_pos (by omega), if_pos (by omega), show 64 - (64 - i) = i by omega] at this
     exact this
   · rw [Nat.testBit_lt_two_pow (Nat.lt_of_lt_of_le ht.1 (Nat.pow_le_pow_right (by decide) (by omega))), Nat.testBit_lt_two_pow (Nat.lt_of_lt_of_le ha (Nat.pow_le_pow_right (by decide) (by omega)))]
 · apply Nat.eq_of_testBit_eq
   intro i
   by_cases hi : i < 64
   · have := key (128 - i) (by omega) (by omega)
     unfold bmem at this
     rw [if_neg (by omega), if_neg (by omega), show 128 - (128 - i) = i by omega] at this
     exact this
   · rw [Nat.testBit_lt_two_pow (Nat.lt_of_lt_of_le ht.2 (Nat.pow_le_pow_right (by decide) (by omega))), Nat.testBit_lt_two_pow (Nat.lt_of_lt_of_le hb (Nat.pow_le_pow_right (by decide) (by omega)))]
/-- The digits of a bitmap are read back. -/
theorem pow16 : (16 : Nat) ^ 16 = 2 ^ 64 := by decide
theorem bm_read (a b : Nat) (ha : a < 2 ^ 63) (hb : Wd b) (r : List UInt8) : bmE (bmL a b ++ r) = 0 ∧ bmA (bmL a b ++ r) = a ∧ bmB (bmL a b ++ r) = b ∧ (bmL a b ++ r).drop (bmN (bmL a b ++ r)) = r := by
 have hc : clr a = a := Nat.mod_eq_of_lt ha
 unfold Wd at hb
 by_cases h0 : b = 0
 · subst h0
   have e : bmL a 0 = hexN a 16 := by unfold bmL; rw [if_pos rfl, hc]
   have hl : (hexN a 16).length = 16 := hexN_len _ _
   have ht : (hexN a 16 ++ r).take 16 = hexN a 16 := by rw [List.take_append_of_le_length (by omega), List.take_of_length_le (by omega)]
   have hn : hexNum (hexN a 16) = a := by rw [hexN_num, pow16, Nat.mod_eq_of_lt (by omega)]
   have hE : bmE (hexN a 16 ++ r) = 0 := by
    unfold bmE
    rw [if_neg (by rw [List.length_append]; omega), ht, if_neg (by rw [hexN_all]; decide), hn, if_pos ha]
   rw [e]
   refine ⟨hE, ?_, ?_, ?_⟩
   · unfold bmA; rw [if_pos hE, ht, hn, hc]
   · unfold bmB; rw [if_neg (by rw [ht, hn]; omega)]
   · unfold bmN; rw [if_pos hE, ht, hn, if_pos ha, List.drop_append_of_le_length (by omega), List.drop_of_length_le (by omega)]; rfl
 · have e : bmL a b = hexN (a + 2 ^ 63) 16 ++ hexN b 16 := by unfold bmL; rw [if_neg h0, hc]
   have hl : (hexN (a + 2 ^ 63) 16).length = 16 := hexN_len _ _
   have hl2 : (hexN b 16).length = 16 := hexN_len _ _
   have ht : (hexN (a + 2 ^ 63) 16 ++ hexN b 16 ++ r).take 16 = hexN (a + 2 ^ 63) 16 := by rw [List.append_assoc, List.take_append_of_le_length (by omega), List.take_of_length_le (by omega)]
   have hd : (hexN (a + 2 ^ 63) 16 ++ hexN b 16 ++ r).drop 16 = hexN b 16 ++ r := by rw [List.append_assoc, List.drop_append_of_le_length (by omega), List.drop_of_length_le (by omega)]; rfl
   have ht2 : (hexN b 16 ++ r).take 16 = hexN b 16 := by rw [List.take_append_of_le_length (by omega), List.take_of_length_le (by omega)]
   have hn : hexNum (hexN (a + 2 ^ 63) 16) = a + 2 ^ 63 := by rw [hexN_num, pow16, Nat.mod_eq_of_lt (by omega)]
   have hn2 : hexNum (hexN b 16) = b := by rw [hexN_num, pow16, Nat.mod_eq_of_lt hb]
   have hE : bmE (hexN (a + 2 ^ 63) 16 ++ hexN b 16 ++ r) = 0 := by
    unfold bmE
    rw [if_neg (by rw [List.length_append, List.length_append]; omega), ht, if_neg (by rw [hexN_all]; decide), hn, if_neg (by omega), if_neg (by rw [List.length_append, List.length_append]; omega), hd, ht2, if_neg (by rw [hexN_all]; decide), hn2, if_neg h0]
   rw [e]
   refine ⟨hE, ?_, ?_, ?_⟩
   · unfold bmA; rw [if_pos hE, ht, hn]; unfold clr; omega
   · unfold bmB; rw [if_pos ⟨hE, by rw [ht, hn]; omega⟩, hd, ht2, hn2]
   · unfold bmN; rw [if_pos hE, ht, hn, if_neg (by omega), List.drop_append_of_le_length (by rw [List.length_append]; omega), List.drop_of_length_le (by rw [List.length_append]; omega)]; rfl
/-- .. and what is read as a bitmap is its digits. -/
theorem bm_back (l : List UInt8) (h : bmE l = 0) : bmA l < 2 ^ 63 ∧ Wd (bmB l) ∧ l = bmL (bmA l) (bmB l) ++ l.drop (bmN l) ∧ bmN l ≤ l.length := by
 have h' := h
 unfold bmE at h'
 by_cases h1 : l.length < 16
 · rw [if_pos h1] at h'; cases h'
 rw [if_neg h1] at h'
 by_cases h2 : (l.take 16).all hxB = false
 · rw [if_pos h2] at h'; cases h'
 rw [if_neg h2] at h'
 have h2 : (l.take 16).all hxB = true := by simpa using h2
 have hlt : (l.take 16).length = 16 := by rw [List.length_take]; omega
 have hx := hexNum_lt _ h2
 rw [hlt, pow16] at hx
 have hback := hexNum_back _ h2
 rw [hlt] at hback
 by_cases h3 : hexNum (l.take 16) < 2 ^ 63
 · have hA : bmA l = hexNum (l.take 16) := by unfold bmA; rw [if_pos h]; exact Nat.mod_eq_of_lt h3
   have hB : bmB l = 0 := by unfold bmB; rw [if_neg (by omega)]
   have hN : bmN l = 16 := by unfold bmN; rw [if_pos h, if_pos h3]
   rw [hA, hB, hN]
   refine ⟨h3, by unfold Wd; decide, ?_, by omega⟩
   unfold bmL
   rw [if_pos rfl, show clr (hexNum (l.take 16)) = hexNum (l.take 16) from Nat.mod_eq_of_lt h3, hback, List.take_append_drop]
 · rw [if_neg h3] at h'
   by_cases h4 : l.length < 32
   · rw [if_pos h4] at h'; cases h'
   rw [if_neg h4] at h'
   by_cases h5 : ((l.drop 16).take 16).all hxB = false
   · rw [if_pos h5] at h'; cases h'
   rw [if_neg h5] at h'
   by_cases h6 : hexNum ((l.drop 16).take 16) = 0
   · rw [if_pos h6] at h'; cases h'
   have h5 : ((l.drop 16).take 16).all hxB = true := by simpa using h5
   have hlt2 : ((l.drop 16).take 16).length = 16 := by rw [List.length_take, List.length_drop]; omega
   have hx2 := hexNum_lt _ h5
   rw [hlt2, pow16] at hx2
   have hback2 := hexNum_back _ h5
   rw [hlt2] at hback2
   have hA : bmA l = clr (hexNum (l.take 16)) := by unfold bmA; rw [if_pos h]
   have hB : bmB l = hexNum ((l.drop 16).take 16) := by unfold bmB; rw [if_pos ⟨h, by omega⟩]
   have hN : bmN l = 32 := by unfold bmN; rw [if_pos h, if_neg h3]
   rw [hA, hB, hN]
   refine ⟨by unfold clr; omega, hx2, ?_, by omega⟩
   unfold bmL
   rw [if_neg h6, show clr (clr (hexNum (l.take 16))) + 2 ^ 63 = hexNum (l.take 16) by unfold clr; omega, hback, hback2, List.append_assoc]
   have : (l.drop 16).take 16 ++ l.drop 32 = l.drop 16 := by
    rw [show l.drop 32 = (l.drop 16).drop 16 by rw [List.drop_drop], List.take_append_drop]
   rw [this, List.take_append_drop]
end Go.Proofs.YtkggloeaojkhaaaGreatDoor
namespace Go.Proofs.YtkggloeaojkhaaaGreatDoor
open Go.RowKit
/-- The error and the number of sixteen digits. -/
def bvE (l : List UInt8) : Int := if l.length < 16 then 1 else if (l.take 16).all hxB = false then 2 else 0
def bvN (l : List UInt8) : Nat := if bvE l = 0 then hexNum (l.take 16) else 0
theorem len_list (s : ByteArray) : s.data.toList.length = s.size := by rw [Array.length_toList]; rfl
theorem hex_snoc (s : ByteArray) (k : Nat) (h : k < s.size) : hexNum (s.data.toList.take (k + 1)) = hexNum (s.data.toList.take k) * 16 + hexV s[k] := by rw [take_snoc s k h, hexNum_snoc]
theorem hex_bd (s : ByteArray) (k : Nat) (h : (s.data.toList.take k).all hxB = true) (hk : k ≤ 15) : hexNum (s.data.toList.take k) < 1152921504606846976 := by
 have := hexNum_lt _ h
 have h2 : (s.data.toList.take k).length ≤ 15 := by rw [List.length_take]; omega
 have h3 : (16 : Nat) ^ (s.data.toList.take k).length ≤ 16 ^ 15 := Nat.pow_le_pow_right (by decide) h2
 omega
theorem hex_or (x d : Nat) (hx : x < 1152921504606846976) (hd : d < 16) : bits .or .u64 ((x : Int) * 16) (d : Int) = ((x * 16 + d : Nat) : Int) := by
 have h := bits_or (x * 16) d (by unfold Wd; omega) (by unfold Wd; omega)
 have e : x * 16 ||| d = x * 16 + d := by
  have := Nat.shiftLeft_add_eq_or_of_lt (i := 4) (b := d) (by omega) x
  rw [Nat.shiftLeft_eq] at this
  exact this.symm
 rw [e] at h
 rw [← h]; congr 1
theorem hex_or' (x d : Nat) (z : Int) (hx : x < 1152921504606846976) (hd : d < 16) (hz : z = d) : bits .or .u64 ((x : Int) * 16) z = ((x * 16 + d : Nat) : Int) := by
 rw [hz]; exact hex_or x d hx hd
theorem bv_bad (s : ByteArray) (k : Nat) (hk : k < 16) (hs : 16 ≤ s.size) (hc : hxB s[k] = false) : bvE s.data.toList = 2 := by
 unfold bvE
 rw [if_neg (by rw [len_list]; omega), if_pos]
 rw [List.all_eq_false]
 refine ⟨s[k], ?_, by rw [hc]; decide⟩
 have : (s.data.toList.take 16)[k]? = some s[k] := by
  rw [List.getElem?_take, if_pos hk, List.getElem?_eq_getElem (by rw [len_list]; omega)]; rfl
 exact List.mem_of_getElem? this
set_option maxRecDepth 4000 in
set_option maxHeartbeats 1000000 in
theorem bval_any (s : ByteArray) (w : World) (hs : s.size ≤ 1000000) :
 Calls Tryz.prog 109 #[.string s] w fun e w' => e = .returned (.tuple #[.int .u64 (bvN s.data.toList), .int .i64 (bvE s.data.toList)]) ∧ w = w' := by
 by_cases h16 : s.size < 16
 · have hE : bvE s.data.toList = 1 := by unfold bvE; rw [if_pos (by rw [len_list]; omega)]
   have hN : bvN s.data.toList = 0 := by unfold bvN; rw [hE]; rfl
   rw [hE, hN]
   clear hE hN
   go_enter Tryz.func109, Tryz.ntmps109
   go_wp2
   go_ret2
   exact ⟨rfl, rfl⟩
 · go_enter Tryz.func109, Tryz.ntmps109
   go_wp2
   go_loop [4, 10] (fun x i => ∃ k : Nat, k ≤ 16 ∧ i = .int .i64 k ∧ x = .int .u64 (hexNum (s.data.toList.take k) : Nat) ∧ (s.data.toList.take k).all hxB = true) (fun _ i => 16 - (intOf i).toNat)
   case atStart => exact ⟨0, Nat.zero_le _, rfl, rfl, rfl⟩
   case round =>
    obtain ⟨k, hk, rfl, rfl, hall⟩ := hrel
    have hH := Lib.hid hall
    by_cases hlt : k < 16
    · have hks : k < s.size := by omega
      have hb := hex_bd s k hall (by omega)
      have hsn := Lib.hid (hex_snoc s k hks)
      have hal := Lib.hid (all_take_snocP hxB s k hks)
      clear hall
      generalize hexNum (s.data.toList.take k) = x at *
      by_cases c1 : 48 ≤ s[k].toNat ∧ s[k].toNat ≤ 57
      · obtain ⟨c1, c2⟩ := c1
        have hv : hexV s[k] = s[k].toNat - 48 := by unfold hexV; rw [if_pos c2]
        have hbb : hxB s[k] = true := by unfold hxB; simp [c1, c2]
        have HV := Lib.hid (And.intro hv hbb)
        clear hv hbb
        go_wp2
        go_round
        case rel => refine ⟨k + 1, by omega, by go_num, ?_, by rw [hal.out, hH.out, HV.out.2]; rfl⟩; rw [hsn.out, HV.out.1]; exact u64_eq (hex_or' x _ _ hb (by omega) (by omega))
        case measure => simp [intOf]; omega
      · by_cases c3 : 97 ≤ s[k].toNat ∧ s[k].toNat ≤ 102
        · obtain ⟨c3, c4⟩ := c3
          have c5 : ¬ s[k].toNat ≤ 57 := by omega
          have hv : hexV s[k] = s[k].toNat - 87 := by unfold hexV; rw [if_neg c5]
          have hbb : hxB s[k] = true := by unfold hxB; simp [c3, c4]
          have HV := Lib.hid (And.intro hv hbb)
          clear hv hbb c1
          go_wp2
          go_round
          case rel => refine ⟨k + 1, by omega, by go_num, ?_, by rw [hal.out, hH.out, HV.out.2]; rfl⟩; rw [hsn.out, HV.out.1]; exact u64_eq (hex_or' x _ _ hb (by omega) (by omega))
          case measure => simp [intOf]; omega
        · have hbb : hxB s[k] = false := by unfold hxB; simp; omega
          have hE := bv_bad s k hlt (by omega) hbb
          have hN : bvN s.data.toList = 0 := by unfold bvN; rw [hE]; rfl
          have HE := Lib.hid (And.intro hE hN)
          clear hE hN hbb
          go_wp2
          all_goals (go_ret2; rw [HE.out.1, HE.out.2]; exact ⟨rfl, rfl⟩)
    · obtain rfl : k = 16 := by omega
      have hE : bvE s.data.toList = 0 := by unfold bvE; rw [if_neg (by rw [len_list]; omega), if_neg (by rw [hall]; decide)]
      have hN : bvN s.data.toList = hexNum (s.data.toList.take 16) := by unfold bvN; rw [hE]; rfl
      have HE := Lib.hid (And.intro hE hN)
      clear hE hN hall
      go_wp2
      go_ret2
      rw [HE.out.1, HE.out.2]
      exact ⟨rfl, rfl⟩
end Go.Proofs.YtkggloeaojkhaaaGreatDoor
namespace Go.Proofs.YtkggloeaojkhaaaGreatDoor
open Go.RowKit
theorem and_top (a : Nat) (ha : Wd a) : (bits .and .u64 (a : Int) 9223372036854775808 = 0 ↔ a < 2 ^ 63) := by
 have h := bits_and a (pw 63) ha (Wd_pw _ (by omega))
 have e : ((pw 63 : Nat) : Int) = 9223372036854775808 := by unfold pw; rfl
 rw [e] at h
 rw [h]
 have h2 := and_pw_ne a 63
 have h3 : a.testBit 63 = true ↔ ¬ a < 2 ^ 63 := by
  constructor
  · intro ht hlt
    rw [Nat.testBit_lt_two_pow hlt] at ht; cases ht
  · intro hn
    have : a = 2 ^ 63 + (a - 2 ^ 63) := by omega
    rw [this, Nat.testBit_two_pow_add_eq, Nat.testBit_lt_two_pow (by unfold Wd at ha; omega)]
    rfl
 constructor
 · intro h0; exact Decidable.byContradiction fun hn => (h2.2 (h3.2 hn)) h0
 · intro hlt; exact Decidable.byContradiction fun hn => h3.1 (h2.1 hn) hlt
theorem bvN_wd (l : List UInt8) : Wd (bvN l) := by
 unfold bvN
 split
 · rename_i h
   unfold bvE at h
   by_cases h1 : l.length < 16
   · rw [if_pos h1] at h; cases h
   rw [if_neg h1] at h
   by_cases h2 : (l.take 16).all hxB = false
   · rw [if_pos h2] at h; cases h
   have h2 : (l.take 16).all hxB = true := by simpa using h2
   have hx := hexNum_lt _ h2
   rw [show (l.take 16).length = 16 by rw [List.length_take]; omega, pow16] at hx
   exact hx
 · unfold Wd; decide
theorem bm_err1 (l : List UInt8) (h : bvE l ≠ 0) : bmE l = bvE l ∧ bmA l = 0 ∧ bmB l = 0 ∧ bmN l = 0 := by
 have hE : bmE l = bvE l := by
  unfold bmE bvE at *
  by_cases h1 : l.length < 16
  · rw [if_pos h1, if_pos h1]
  rw [if_neg h1] at h ⊢
  rw [if_neg h1]
  by_cases h2 : (l.take 16).all hxB = false
  · rw [if_pos h2, if_pos h2]
  · rw [if_neg h2] at h; exact absurd rfl h
 have hne : ¬ bmE l = 0 := by rw [hE]; exact h
 refine ⟨hE, ?_, ?_, ?_⟩
 · unfold bmA; rw [if_neg hne]
 · unfold bmB; rw [if_neg (fun k => hne k.1)]
 · unfold bmN; rw [if_neg hne]
theorem bv_ok (l : List UInt8) (h : bvE l = 0) : 16 ≤ l.length ∧ (l.take 16).all hxB = true ∧ bvN l = hexNum (l.take 16) := by
 have hN : bvN l = hexNum (l.take 16) := by unfold bvN; rw [if_pos h]
 unfold bvE at h
 by_cases h1 : l.length < 16
 · rw [if_pos h1] at h; cases h
 rw [if_neg h1] at h
 by_cases h2 : (l.take 16).all hxB = false
 · rw [if_pos h2] at h; cases h
 exact ⟨by omega, by simpa using h2, hN⟩
theorem bm_one (l : List UInt8) (h : bvE l = 0) (h1 : bvN l < 2 ^ 63) : bmE l = 0 ∧ bmA l = bvN l ∧ bmB l = 0 ∧ bmN l = 16 := by
 obtain ⟨a, b, c⟩ := bv_ok l h
 rw [c] at h1
 have hE : bmE l = 0 := by unfold bmE; rw [if_neg (by omega), if_neg (by rw [b]; decide), if_pos h1]
 refine ⟨hE, ?_, ?_, ?_⟩
 · unfold bmA; rw [if_pos hE, c]; exact Nat.mod_eq_of_lt h1
 · unfold bmB; rw [if_neg (by omega)]
 · unfold bmN; rw [if_pos hE, if_pos h1]
theorem bm_two (l : List UInt8) (h : bvE l = 0) (h1 : ¬ bvN l < 2 ^ 63) : bmE l = (if bvE (l.drop 16) ≠ 0 then bvE (l.drop 16) else if bvN (l.drop 16) = 0 then 2 else 0) ∧ (bmE l ≠ 0 → bmA l = 0 ∧ bmB l = 0 ∧ bmN l = 0) ∧ (bmE l = 0 → bmA l = clr (bvN l) ∧ bmB l = bvN (l.drop 16) ∧ bmN l = 32) := by
 obtain ⟨a, b, c⟩ := bv_ok l h
 rw [c] at h1 ⊢
 have hE : bmE l = (if bvE (l.drop 16) ≠ 0 then bvE (l.drop 16) else if bvN (l.drop 16) = 0 then 2 else 0) := by
  unfold bmE
  rw [if_neg (by omega), if_neg (by rw [b]; decide), if_neg h1]
  by_cases h2 : bvE (l.drop 16) = 0
  · obtain ⟨a', b', c'⟩ := bv_ok _ h2
    rw [List.length_drop] at a'
    rw [if_neg (show ¬ l.length < 32 by omega), if_neg (show ¬ ((l.drop 16).take 16).all hxB = false by rw [b']; decide), c', if_neg (show ¬ bvE (l.drop 16) ≠ 0 by rw [h2]; decide)]
  · rw [if_pos h2]
    unfold bvE at h2 ⊢
    rw [List.length_drop] at h2 ⊢
    by_cases h3 : l.length < 32
    · rw [if_pos h3, if_pos (show l.length - 16 < 16 by omega)]
    · rw [if_neg h3, if_neg (show ¬ l.length - 16 < 16 by omega)]
      rw [if_neg (show ¬ l.length - 16 < 16 by omega)] at h2
      by_cases h4 : ((l.drop 16).take 16).all hxB = false
      · simp only [if_pos h4]
      · rw [if_neg h4] at h2; exact absurd rfl h2
 refine ⟨hE, fun hn => ⟨?_, ?_, ?_⟩, fun hz => ⟨?_, ?_, ?_⟩⟩
 · unfold bmA; rw [if_neg hn]
 · unfold bmB; rw [if_neg (fun k => hn k.1)]
 · unfold bmN; rw [if_neg hn]
 · unfold bmA; rw [if_pos hz]
 · have h2 : bvE (l.drop 16) = 0 := by
    rw [hE] at hz
    by_cases h2 : bvE (l.drop 16) = 0
    · exact h2
    · rw [if_pos h2] at hz; exact absurd hz h2
   unfold bmB; rw [if_pos ⟨hz, by omega⟩, (bv_ok _ h2).2.2]
 · unfold bmN; rw [if_pos hz, if_neg h1]
def bdV (l : List UInt8) : Value := .tuple #[.agg #[.int .u64 (bmA l), .int .u64 (bmB l)], .int .i64 (bmN l), .int .i64 (bmE l)]
theorem extract_list' (s : ByteArray) (a b : Nat) : (s.extract a b).data.toList = (s.data.toList.take b).drop a := by
 rw [Lib.extract_data, List.drop_take]
theorem drop_list (s : ByteArray) (n : Nat) : (s.extract n s.size).data.toList = s.data.toList.drop n := by
 rw [extract_list', List.take_of_length_le (by rw [len_list]; omega)]
set_option maxRecDepth 4000 in
set_option maxHeartbeats 1000000 in
theorem bdec_any (s : ByteArray) (w : World) (hs : s.size ≤ 1000000) :
 Calls Tryz.prog 65 #[.string s] w (OneV (bdV s.data.toList) w) := by
 have hwd := bvN_wd s.data.toList
 by_cases h0 : bvE s.data.toList = 0
 · by_cases h1 : bvN s.data.toList < 2 ^ 63
   · have hand := (and_top _ hwd).2 h1
     have H := Lib.hid (bm_one _ h0 h1)
     go_enter Tryz.func65, Tryz.ntmps65
     go_wp2_with fail
     refine (bval_any s _ hs).mono ?_
     rintro e w1 ⟨rfl, rfl⟩
     rw [h0]
     generalize bvN s.data.toList = x at *
     clear h0
     go_wp2
     refine bodyPost_ret (v := bdV s.data.toList) ?_ rfl ⟨rfl, xt⟩
     obtain ⟨e1, e2, e3, e4⟩ := H.out
     simp [results, Tryz.results65, go_sem, bdV, e1, e2, e3, e4]
   · have hand : (bits .and .u64 ((bvN s.data.toList : Nat) : Int) 9223372036854775808 == 0) = false := by
      rw [beq_eq_false_iff_ne]; intro h; exact h1 ((and_top _ hwd).1 h)
     have hl := (bv_ok _ h0).1
     rw [len_list] at hl
     obtain ⟨t1, t2, t3⟩ := bm_two _ h0 h1
     have hb0 := Lib.hid (bval_any (s.extract 16 s.size))
     rw [drop_list] at hb0
     have hwd2 := bvN_wd (s.data.toList.drop 16)
     go_enter Tryz.func65, Tryz.ntmps65
     go_wp2_with fail
     refine (bval_any s _ hs).mono ?_
     rintro e w1 ⟨rfl, rfl⟩
     rw [h0]
     have T := Lib.hid (And.intro t1 (And.intro t2 t3))
     clear t1 t2 t3 h0
     generalize bvN s.data.toList = x at *
     go_wp2_with fail
     refine (hb0.out _ (by simp; omega)).mono ?_
     rintro e w2 ⟨rfl, rfl⟩
     clear hb0
     by_cases h2 : bvE (s.data.toList.drop 16) = 0
     · by_cases h3 : bvN (s.data.toList.drop 16) = 0
       · have hC : bmE s.data.toList = 2 := by have := T.out.1; simpa [h2, h3] using this
         rw [h2, h3]
         obtain ⟨e1, e2, e3⟩ := T.out.2.1 (by rw [hC]; decide)
         have H := Lib.hid (And.intro hC (And.intro e1 (And.intro e2 e3)))
         clear hC e1 e2 e3 T h2 h3
         go_wp2
         refine bodyPost_ret (v := bdV s.data.toList) ?_ rfl ⟨rfl, xt⟩
         obtain ⟨e1, e2, e3, e4⟩ := H.out
         simp [results, Tryz.results65, go_sem, bdV, e1, e2, e3, e4]
       · have hC : bmE s.data.toList = 0 := by have := T.out.1; simpa [h2, h3] using this
         rw [h2]
         obtain ⟨e1, e2, e3⟩ := T.out.2.2 hC
         have h3b : (((bvN (s.data.toList.drop 16) : Nat) : Int) == 0) = false := by rw [beq_eq_false_iff_ne]; omega
         have H := Lib.hid (And.intro hC (And.intro e1 (And.intro e2 e3)))
         clear hC e1 e2 e3 T h2 h3
         generalize bvN (s.data.toList.drop 16) = y at *
         go_wp2_with fail
         refine (clean_any x y _ hwd hwd2).mono ?_
         rintro e w1 ⟨rfl, o1, o2, rfl⟩
         go_wp2
         refine bodyPost_ret (v := bdV s.data.toList) ?_ rfl ⟨rfl, xt⟩
         obtain ⟨e1, e2, e3, e4⟩ := H.out
         simp [results, Tryz.results65, go_sem, bdV, e1, e2, e3, e4]
     · have hC : bmE s.data.toList = bvE (s.data.toList.drop 16) := by have := T.out.1; rw [if_pos h2] at this; exact this
       obtain ⟨e1, e2, e3⟩ := T.out.2.1 (by rw [hC]; exact h2)
       have h2b : (bvE (s.data.toList.drop 16) == 0) = false := by simpa using h2
       have h2c : (bvE (s.data.toList.drop 16) != 0) = true := by simpa using h2
       have H := Lib.hid (And.intro hC (And.intro e1 (And.intro e2 e3)))
       clear hC e1 e2 e3 T h2
       generalize bvE (s.data.toList.drop 16) = y at *
       generalize bvN (s.data.toList.drop 16) = z at *
       go_wp2
       refine bodyPost_ret (v := bdV s.data.toList) ?_ rfl ⟨rfl, xt⟩
       obtain ⟨e1, e2, e3, e4⟩ := H.out
       simp [results, Tryz.results65, go_sem, bdV, e1, e2, e3, e4]
 · have hb : (bvE s.data.toList != 0) = true := by simpa using h0
   have H := Lib.hid (bm_err1 _ h0)
   go_enter Tryz.func65, Tryz.ntmps65
   go_wp2_with fail
   refine (bval_any s _ hs).mono ?_
   rintro e w1 ⟨rfl, rfl⟩
   generalize bvE s.data.toList = y at *
   generalize bvN s.data.toList = x at *
   clear h0
   go_wp2
   refine bodyPost_ret (v := bdV s.data.toList) ?_ rfl ⟨rfl, xt⟩
   obtain ⟨e1, e2, e3, e4⟩ := H.out
   simp [results, Tryz.results65, go_sem, bdV, e1, e2, e3, e4]
end Go.Proofs.YtkggloeaojkhaaaGreatDoor
namespace Go.Proofs.YtkggloeaojkhaaaGreatDoor
open Go.RowKit
theorem app_data' (a b : ByteArray) : (a ++ b).data.toList = a.data.toList ++ b.data.toList := by simp
/-- The bytes of text after k rounds. -/
def txL (x k : Nat) : List UInt8 := (hexN x 16).take k ++ List.replicate (16 - k) 0
def txA (x k : Nat) : Array Value := ((txL x k).map fun c => Value.int .u8 c.toNat).toArray
theorem tx_at (x k : Nat) (hk : k < 16) : (txA x k)[k]? = some (.int .u8 0) := by
 unfold txA txL
 rw [List.getElem?_toArray, List.getElem?_map, List.getElem?_append_right (by rw [List.length_take, hexN_len]; omega), List.length_take, hexN_len, List.getElem?_replicate]
 rw [if_pos (by omega)]; rfl
theorem tx_step (x k : Nat) (hk : k < 16) : (txA x k).setIfInBounds k (.int .u8 ((hexD (x / 16 ^ (15 - k) % 16)).toNat : Int)) = txA x (k + 1) := by
 have h16 := hexN_len x 16
 have hk1 : (hexN x 16)[k]? = some (hexD (x / 16 ^ (15 - k) % 16)) := hexN_at x 16 k hk
 apply Array.ext'
 unfold txA txL
 rw [Array.toList_setIfInBounds]
 simp only
 apply List.ext_getElem?
 intro i
 rw [List.getElem?_set, List.getElem?_map, List.getElem?_map, List.length_map, List.length_append, List.length_take, h16, List.length_replicate]
 by_cases e : k = i
 · subst e
   rw [if_pos rfl, if_pos (by omega), List.getElem?_append_left (by rw [List.length_take, h16]; omega), List.getElem?_take, if_pos (by omega), hk1]; rfl
 · rw [if_neg e]
   by_cases h : i < k
   · rw [List.getElem?_append_left (by rw [List.length_take, h16]; omega), List.getElem?_append_left (by rw [List.length_take, h16]; omega), List.getElem?_take, if_pos h, List.getElem?_take, if_pos (by omega)]
   · rw [List.getElem?_append_right (by rw [List.length_take, h16]; omega), List.getElem?_append_right (by rw [List.length_take, h16]; omega), List.length_take, List.length_take, h16, List.getElem?_replicate, List.getElem?_replicate]
     congr 1
     by_cases h2 : i < 16
     · rw [if_pos (by omega), if_pos (by omega)]
     · rw [if_neg (by omega), if_neg (by omega)]
theorem shr_and (x k : Nat) (hx : Wd x) (hk : k < 16) : bits .and .u64 ((x : Int) / 2 ^ (60 - 4 * k)) 15 = ((x / 16 ^ (15 - k) % 16 : Nat) : Int) := by
 have e : (2 : Nat) ^ (60 - 4 * k) = 16 ^ (15 - k) := by rw [show (16 : Nat) = 2 ^ 4 from rfl, ← Nat.pow_mul]; congr 1; omega
 have h := bits_and (x / 16 ^ (15 - k)) 15 (by unfold Wd at *; exact Nat.lt_of_le_of_lt (Nat.div_le_self _ _) hx) (by unfold Wd; decide)
 rw [show (x / 16 ^ (15 - k)) &&& 15 = x / 16 ^ (15 - k) % 16 from Nat.and_two_pow_sub_one_eq_mod _ 4] at h
 rw [← h]
 congr 1
 rw [← e]
 simp
theorem dig_at (d : Nat) (hd : d < 16) : ((⟨#[48, 49, 50, 51, 52, 53, 54, 55, 56, 57, 97, 98, 99, 100, 101, 102]⟩ : ByteArray)[d]'hd) = hexD d := by
 have key : ∀ d : Fin 16, ((⟨#[48, 49, 50, 51, 52, 53, 54, 55, 56, 57, 97, 98, 99, 100, 101, 102]⟩ : ByteArray)[d.val]'d.isLt) = hexD d.val := by decide
 exact key ⟨d, hd⟩
set_option maxRecDepth 4000 in
set_option maxHeartbeats 1000000 in
theorem text_any (x : Nat) (w : World) (hx : Wd x) :
 Calls Tryz.prog 148 #[.int .u64 x] w (OneV (.string ⟨(hexN x 16).toArray⟩) w) := by
 have hmk : ∀ w : World, (Instr.makeSlice 188 (.int .i64 16) (.int .i64 16)).run Tryz.prog w = .ok (.slice (some ⟨w.heap.size, 0, none⟩) 16 16) (w.alloc (.cells (txA x 0) 5)) := fun _ => by kernel_rfl
 go_enter Tryz.func148, Tryz.ntmps148
 go_wp2
 clear hmk
 go_loopw [8] (fun i wr => ∃ k : Nat, k ≤ 16 ∧ i = .int .i64 k ∧ Blk wr w.heap.size (txA x k) 5 ∧ Ext w wr) (fun i _ => 16 - (intOf i).toNat)
 case atStart => exact ⟨0, Nat.zero_le _, rfl, Blk.new _ _ _, xt⟩
 case round =>
  obtain ⟨k, hk, rfl, hB, hE⟩ := hrel
  by_cases hlt : k < 16
  · have hc : wr.cell? ⟨w.heap.size, k, none⟩ = some (.int .u8 0) := (hB.cell k).trans (tx_at x k hlt)
    have hf := hB.fz k
    have hand := shr_and x k hx hlt
    have hd : x / 16 ^ (15 - k) % 16 < 16 := Nat.mod_lt _ (by decide)
    have hst := Lib.hid (tx_step x k hlt)
    generalize x / 16 ^ (15 - k) % 16 = d at *
    have hdi : ((d : Nat) : Int) < 16 := by omega
    go_wp2
    go_roundw
    case rel => exact ⟨k + 1, by omega, by go_num, by rw [← hst.out, ← dig_at d hd]; exact hB.set k _, xt⟩
    case measure => simp [intOf]; omega
  · obtain rfl : k = 16 := by omega
    have hcv : (convert 188 9 (.slice (some ⟨w.heap.size, 0, none⟩) 16 16)).run Tryz.prog wr = .ok (.string ⟨(hexN x 16).toArray⟩) wr := by
     have h := run_convert_bytes_back (P := Tryz.prog) wr 188 9 5 ⟨w.heap.size, 0, none⟩ 16 (hexN x 16) Tryz.underlying188 Tryz.underlying5 Tryz.underlying9 (fun j hj => by
      rw [show (⟨w.heap.size, 0, none⟩ : Addr).add j = ⟨w.heap.size, j, none⟩ by rw [Addr.add_lit, Nat.zero_add], hB.cell j]
      unfold txA txL
      rw [hexN_len] at hj
      rw [List.getElem?_toArray, List.getElem?_map, List.getElem?_append_left (by rw [List.length_take, hexN_len]; omega), List.getElem?_take, if_pos hj, List.getElem?_eq_getElem (by rw [hexN_len]; omega)]
      rfl)
     rw [hexN_len] at h
     exact h
    go_wp2
    go_ret
    exact ⟨rfl, hE⟩
theorem Ext.undrew {a b : World} (h : Ext a.drew b) : Ext a b := ⟨h.os, h.tape, h.output, h.size, h.block⟩
theorem hexS_size (x : Nat) : (⟨(hexN x 16).toArray⟩ : ByteArray).size = 16 := by
 show (hexN x 16).toArray.size = 16
 rw [List.size_toArray, hexN_len]
theorem or_top (a : Nat) (ha : a < 2 ^ 63) : bits .or .u64 (a : Int) 9223372036854775808 = ((a + 2 ^ 63 : Nat) : Int) := by
 have h := bits_or a (2 ^ 63) (by unfold Wd; omega) (by unfold Wd; decide)
 have e : a ||| 2 ^ 63 = a + 2 ^ 63 := by
  rw [Nat.or_comm]
  have := Nat.two_pow_add_eq_or_of_lt ha 1
  rw [Nat.mul_one] at this
  rw [← this, Nat.add_comm]
 rw [e] at h
 exact h
def bmS (a b : Nat) : ByteArray := ⟨(bmL a b).toArray⟩
set_option maxRecDepth 4000 in
set_option maxHeartbeats 1000000 in
theorem bencode_any (a b : Nat) (w : World) (ha : Wd a) (hb : Wd b) :
 Calls Tryz.prog 107 #[.agg #[.int .u64 a, .int .u64 b]] w (OneV (.string (bmS a b)) w) := by
 have hc63 : clr a < 2 ^ 63 := Nat.mod_lt _ (by decide)
 by_cases h0 : b = 0
 · subst h0
   have hS : bmS a 0 = ⟨(hexN (clr a) 16).toArray⟩ := by unfold bmS bmL; rw [if_pos rfl]
   have HS := Lib.hid hS
   clear hS
   go_enter Tryz.func107, Tryz.ntmps107
   go_wp2_with fail
   refine (clean_any a 0 _ ha hb).mono ?_
   rintro e w1 ⟨rfl, o1, o2, rfl⟩
   go_wp2_with fail
   refine (text_any (clr a) _ (Wd_clr a)).mono ?_
   rintro e w1 ⟨rfl, hE1⟩
   go_wp2
   go_ret
   rw [HS.out]
   exact ⟨rfl, (xt : Ext w _).trans hE1⟩
 · have hS : bmS a b = ⟨(hexN (clr a + 2 ^ 63) 16).toArray⟩ ++ ⟨(hexN b 16).toArray⟩ := by
    apply Go.WideShapes.bytes_inj
    rw [app_data']
    unfold bmS bmL; rw [if_neg h0]
   have HS := Lib.hid hS
   clear hS
   have h0b : ((b : Int) == 0) = false := by rw [beq_eq_false_iff_ne]; omega
   have hor := or_top (clr a) hc63
   have hwt : Wd (clr a + 2 ^ 63) := by unfold Wd; omega
   clear h0
   go_enter Tryz.func107, Tryz.ntmps107
   go_wp2_with fail
   refine (clean_any a b _ ha hb).mono ?_
   rintro e w1 ⟨rfl, o1, o2, rfl⟩
   go_wp2_with fail
   have hE0 : Ext w (((w.alloc (.cells #[.int .u64 (clr a), .int .u64 b] 141)).alloc (.cells o1 141)).alloc (.cells o2 141)) := xt
   have x0 : (((w.alloc (.cells #[.int .u64 (clr a), .int .u64 b] 141)).alloc (.cells o1 141)).alloc (.cells o2 141)).cell? ⟨w.heap.size, 0, none⟩ = some (.int .u64 (clr a)) := by simp [go_sem, World.cell?_alloc_past]
   have x1 : (((w.alloc (.cells #[.int .u64 (clr a), .int .u64 b] 141)).alloc (.cells o1 141)).alloc (.cells o2 141)).cell? ⟨w.heap.size, 1, none⟩ = some (.int .u64 b) := by simp [go_sem, World.cell?_alloc_past]
   generalize (((w.alloc (.cells #[.int .u64 (clr a), .int .u64 b] 141)).alloc (.cells o1 141)).alloc (.cells o2 141)) = w0 at *
   have hs1 : (⟨(hexN (clr a + 2 ^ 63) 16).toArray⟩ : ByteArray).size = 16 := hexS_size _
   have hs2 : (⟨(hexN b 16).toArray⟩ : ByteArray).size = 16 := hexS_size _
   go_region_held3 (fun w' => w'.cell? ⟨w.heap.size, 0, none⟩ = some (.int .u64 (clr a)) ∧ w'.cell? ⟨w.heap.size, 1, none⟩ = some (.int .u64 b)) (exact ⟨by assumption, by assumption⟩) ((go_at_call 148; refine (text_any _ _ (by assumption)).mono ?_; rintro e w1 ⟨rfl, hE1⟩; have hE0 : Ext w w1 := hE0.trans (by first | exact hE1 | exact Ext.undrew hE1); have x0 := hE1.get x0; have x1 := hE1.get x1; clear hE1))
   all_goals go_wp2
   all_goals go_ret
   all_goals rw [HS.out]
   all_goals exact ⟨rfl, hE0⟩
end Go.Proofs.YtkggloeaojkhaaaGreatDoor
