/- Contract of element.Decode (walk). Written by gen/decode.py. -/
import Derived.Test.YthokhncdpfaifaaGreatDoorEncode
import Derived.Test.YthokhncdpfaifaaGreatDoorReaderv
namespace Go.Proofs.YthokhncdpfaifaaGreatDoor
open Go.RowKit
/-- The digits of a length, the length, the error of reading, the value as it is read, the value, the error of decoding: of the element of row k at the beginning of s. -/
def rawA (k : Nat) : Nat := (dVar k).toNat
def rawN (k : Nat) (s : ByteArray) : Nat := if 0 < dVar k then (numL (s.data.toList.take (rawA k))).toNat else (dLen k).toNat
def rawE (k : Nat) (s : ByteArray) : Int :=
  if s.size < rawA k then 1 else if (s.data.toList.take (rawA k)).all digB = false then 2 else if dLen k < rawN k s then 3 else if s.size < rawA k + rawN k s then 1 else 0
def rawV (k : Nat) (s : ByteArray) : List UInt8 := (s.data.toList.take (rawA k + rawN k s)).drop (rawA k)
def valD (k : Nat) (s : ByteArray) : List UInt8 := if dNum k = 41 then Lib.trimRightB (rawV k s) 32 else rawV k s
def decE (k : Nat) (s : ByteArray) : Int := if rawE k s = 0 then chkK k ⟨(valD k s).toArray⟩ else rawE k s
def DecPost (n : Int) (s : ByteArray) (w : World) (e : Ending) (w' : World) : Prop :=
  (∃ k, k < 23 ∧ dNum k = n ∧ decE k s ≠ 0 ∧ e = .returned (.tuple #[.string ⟨#[]⟩, .string ⟨#[]⟩, .int .i64 (decE k s)]) ∧ Ext w w') ∨
  (∃ k, k < 23 ∧ dNum k = n ∧ decE k s = 0 ∧ rawE k s = 0 ∧ ∃ v r : ByteArray, v.data.toList = valD k s ∧ r.data.toList = s.data.toList.drop (rawA k + rawN k s) ∧ e = .returned (.tuple #[.string v, .string r, .int .i64 0]) ∧ Ext w w') ∨
  ((∀ k, k < 23 → dNum k ≠ n) ∧ e = .returned (.tuple #[.string ⟨#[]⟩, .string ⟨#[]⟩, .int .i64 6]) ∧ Ext w w')
theorem bytes_of {v : ByteArray} {l : List UInt8} (h : v.data.toList = l) : v = ⟨l.toArray⟩ := by subst h; cases v; simp
theorem dec_bad {k : Nat} {s : ByteArray} {e : Int} (h : rawE k s = e) (he : e ≠ 0) : decE k s = e := by unfold decE; rw [if_neg (by rw [h]; exact he), h]
theorem dec_good {k : Nat} {s v : ByteArray} (h : rawE k s = 0) (hv : v.data.toList = valD k s) : decE k s = chkK k v := by unfold decE; rw [if_pos h, bytes_of hv]
theorem raw_short {k : Nat} {s : ByteArray} (h : s.size < rawA k) : rawE k s = 1 := by unfold rawE; rw [if_pos h]
theorem raw_form {k : Nat} {s : ByteArray} (h : rawA k ≤ s.size) (h2 : (s.data.toList.take (rawA k)).all digB = false) : rawE k s = 2 := by unfold rawE; rw [if_neg (by omega), if_pos h2]
theorem raw_long {k : Nat} {s : ByteArray} (h : rawA k ≤ s.size) (h2 : (s.data.toList.take (rawA k)).all digB = true) (h3 : dLen k < rawN k s) : rawE k s = 3 := by unfold rawE; rw [if_neg (by omega), if_neg (by simp [h2]), if_pos h3]
theorem raw_short2 {k : Nat} {s : ByteArray} (h : rawA k ≤ s.size) (h2 : (s.data.toList.take (rawA k)).all digB = true) (h3 : (rawN k s : Int) ≤ dLen k) (h4 : s.size < rawA k + rawN k s) : rawE k s = 1 := by unfold rawE; rw [if_neg (by omega), if_neg (by simp [h2]), if_neg (by omega), if_pos h4]
theorem raw_ok {k : Nat} {s : ByteArray} (h2 : (s.data.toList.take (rawA k)).all digB = true) (h3 : (rawN k s : Int) ≤ dLen k) (h4 : rawA k + rawN k s ≤ s.size) : rawE k s = 0 := by unfold rawE; rw [if_neg (by omega), if_neg (by simp [h2]), if_neg (by omega), if_neg (by omega)]
theorem trimRight_any (s : ByteArray) (w : World) (hs : s.size ≤ 1000000) : Calls Tryz.prog 92 #[.string s, .string ⟨#[32]⟩] w fun e w' => (∃ v : ByteArray, v.data.toList = Lib.trimRightB s.data.toList 32 ∧ e = .returned (.string v)) ∧ w = w' :=
  (Tryz.strings_TrimRight_one s 32 (by decide) w (by omega)).mono fun _ _ ⟨a, b⟩ => ⟨⟨_, by simp, a⟩, b.symm⟩
theorem trimR_len (l : List UInt8) (c : UInt8) : (Lib.trimRightB l c).length ≤ l.length := by
  have := (List.dropWhile_sublist (l := l.reverse) (· == c)).length_le; simpa [Lib.trimRightB] using this
theorem size_list (s : ByteArray) : s.data.toList.length = s.size := by rw [Array.length_toList]; rfl


set_option maxRecDepth 8000 in
set_option maxHeartbeats 4000000 in
theorem decode_any (n : Int) (s : ByteArray) (w : World) (g : Gl w) (hs : s.size ≤ 1000000) :
    Calls Tryz.prog 51 #[.int .i64 n, .string s] w (DecPost n s w) := by
  go_enter Tryz.func51, Tryz.ntmps51
  go_wp2_with fail
  refine (find_any n _ g).mono ?_
  rintro e w1 (⟨k, hk, hn, rfl, hE⟩ | ⟨hno, rfl, hE⟩)
  · have hVc := Lib.hid (var_cases k hk)
    have hN := Lib.hid hn
    clear hn
    obtain ⟨⟨l1, l2⟩, ⟨v1, v2⟩, _⟩ := row_bd k hk
    obtain ⟨ln, hln⟩ := Int.eq_ofNat_of_zero_le (show 0 ≤ dLen k by omega)
    have hLn := Lib.hid hln
    unfold specAgg
    rw [hln] at l1 l2 ⊢
    clear hln
    rcases hVc.out.1 with hv | ⟨hv, hlen⟩ | hv
    · have hA : rawA k = 0 := by unfold rawA; omega
      have hNn : rawN k s = ln := by unfold rawN; rw [if_neg (by omega), hLn.out]; simp
      have hAh := Lib.hid hA
      have hNh := Lib.hid hNn
      clear hA hNn
      rw [hv]
      go_wp2_with fail
      refine (newReader_any s _).mono ?_
      rintro e w2 ⟨rfl, hRd0, hE20⟩
      have hE2 : Ext w w2 := (hE.alloc _).trans hE20
      have hsz := hE.size
      have hB := (Blk.new w1 _ _).ext hE20
      have q3 := hB.cell 3
      have q4 := hB.cell 4
      clear hB hE20
      simp only [World.size_alloc] at hRd0
      simp at q3 q4
      by_cases hsh : s.size < ln
      · go_wp2_with fail
        refine (take_no _ s ln _ hRd0 (by omega) (by omega) hs).mono ?_
        rintro e w3 ⟨rfl, hRd, hX⟩
        have hE3 := hX.after hE2 (by omega)
        clear hX
        go_wp2_with fail
        refine (err_any _ _ _ _ hRd).mono ?_
        rintro e w4 ⟨rfl, rfl⟩
        have hdb := Lib.hid (dec_bad (raw_short2 (by rw [hAh.out]; omega) (by rw [hAh.out]; rfl) (by rw [hNh.out, hLn.out]; omega) (by rw [hAh.out, hNh.out]; omega)) (by decide))
        go_wp2
        go_ret3
        exact Or.inl ⟨k, hk, hN.out, by rw [hdb.out]; decide, by rw [hdb.out]; rfl, hE3⟩
      · go_wp2_with fail
        refine (take_yes _ s ln _ hRd0 (by omega) (by omega) hs).mono ?_
        rintro e w3 ⟨rfl, hRd, hX⟩
        have hraw := Lib.hid (raw_ok (k := k) (s := s) (by rw [hAh.out]; rfl) (by rw [hNh.out, hLn.out]; omega) (by rw [hAh.out, hNh.out]; omega))
        generalize hrvE : s.extract 0 (ln : Int).toNat = rv at *
        generalize hrrE : s.extract (ln : Int).toNat s.size = rr at *
        have hrv : Hid (rv.data.toList = rawV k s) := Lib.hid (by rw [← hrvE, extract_list]; unfold rawV; rw [hAh.out, hNh.out]; simp)
        have hrr : Hid (rr.data.toList = s.data.toList.drop (rawA k + rawN k s)) := Lib.hid (by rw [← hrrE, extract_list, hAh.out, hNh.out, List.take_of_length_le (by rw [size_list]; omega)]; simp)
        have hrvs : rv.size ≤ 1000000 := by rw [← hrvE]; simp; omega
        have hrrs : rr.size ≤ 1000000 := by rw [← hrrE]; simp; omega
        clear hrvE hrrE
        have hE3 := hX.after hE2 (by omega)
        clear hX
        go_wp2_with fail
        by_cases h41 : n = 41
        · subst h41
          refine (err_any _ _ _ _ hRd).mono ?_
          rintro e w4 ⟨rfl, rfl⟩
          go_wp2_with fail
          refine (trimRight_any rv _ (by omega)).mono ?_
          rintro e w4 ⟨⟨v, hv, rfl⟩, rfl⟩
          have hvl : v.data.toList = valD k s := by unfold valD; rw [if_pos hN.out, hv, hrv.out]
          have hvs : v.size ≤ 1000000 := by rw [← size_list, hv]; have := trimR_len rv.data.toList 32; rw [size_list] at this; omega
          clear hv
          have hdg := Lib.hid (dec_good hraw.out hvl)
          have hVl := Lib.hid hvl
          clear hvl
          go_wp2_with fail
          refine (check_any 41 v _ (g.ext hE3) hvs).mono ?_
          rintro e w5 (⟨k', hk', hn', rfl, hE5⟩ | ⟨hno, rfl, hE5⟩)
          · obtain rfl : k' = k := dNum_inj k' k hk' hk (hn'.trans hN.out.symm)
            clear hn'
            have hRd5 := hRd.ext hE5
            by_cases hz : chkK k' v = 0
            · rw [hz]
              have hZ := Lib.hid hz
              clear hz
              go_wp2_with fail
              refine (left_any _ _ _ _ hRd5 (by omega)).mono ?_
              rintro e w6 ⟨rfl, rfl⟩
              go_wp2_with fail
              refine (take_yes _ rr rr.size _ hRd5 (by omega) (by omega) (by omega)).mono ?_
              rintro e w6 ⟨rfl, hRd6, hX6⟩
              have hE6 := hX6.after (hE3.trans hE5) (by omega)
              clear hX6 hRd6
              go_wp2
              go_ret3
              refine Or.inr (Or.inl ⟨k', hk, hN.out, by rw [hdg.out, hZ.out], hraw.out, v, _, hVl.out, ?_, rfl, hE6⟩)
              exact hrr.out
            · have hb : (chkK k' v != 0) = true := by simpa using hz
              have hZ := Lib.hid hz
              clear hz
              go_wp2
              go_ret3
              exact Or.inl ⟨k', hk, hN.out, by rw [hdg.out]; exact hZ.out, by rw [hdg.out]; rfl, hE3.trans hE5⟩
          · exact absurd hN.out (hno k hk)
        · have hne41 : Hid (¬ dNum k = 41) := Lib.hid (fun h => h41 (hN.out.symm.trans h))
          have h41b : (n == 41) = false := by simpa using h41
          clear h41
          refine (err_any _ _ _ _ hRd).mono ?_
          rintro e w4 ⟨rfl, rfl⟩
          generalize hvv : rv = v at *
          have hvl : v.data.toList = valD k s := by unfold valD; rw [if_neg hne41.out, ← hrv.out]
          have hvs : v.size ≤ 1000000 := by omega
          clear hvv
          have hdg := Lib.hid (dec_good hraw.out hvl)
          have hVl := Lib.hid hvl
          clear hvl
          go_wp2_with fail
          refine (check_any n v _ (g.ext hE3) hvs).mono ?_
          rintro e w5 (⟨k', hk', hn', rfl, hE5⟩ | ⟨hno, rfl, hE5⟩)
          · obtain rfl : k' = k := dNum_inj k' k hk' hk (hn'.trans hN.out.symm)
            clear hn'
            have hRd5 := hRd.ext hE5
            by_cases hz : chkK k' v = 0
            · rw [hz]
              have hZ := Lib.hid hz
              clear hz
              go_wp2_with fail
              refine (left_any _ _ _ _ hRd5 (by omega)).mono ?_
              rintro e w6 ⟨rfl, rfl⟩
              go_wp2_with fail
              refine (take_yes _ rr rr.size _ hRd5 (by omega) (by omega) (by omega)).mono ?_
              rintro e w6 ⟨rfl, hRd6, hX6⟩
              have hE6 := hX6.after (hE3.trans hE5) (by omega)
              clear hX6 hRd6
              go_wp2
              go_ret3
              refine Or.inr (Or.inl ⟨k', hk, hN.out, by rw [hdg.out, hZ.out], hraw.out, v, _, hVl.out, ?_, rfl, hE6⟩)
              exact hrr.out
            · have hb : (chkK k' v != 0) = true := by simpa using hz
              have hZ := Lib.hid hz
              clear hz
              go_wp2
              go_ret3
              exact Or.inl ⟨k', hk, hN.out, by rw [hdg.out]; exact hZ.out, by rw [hdg.out]; rfl, hE3.trans hE5⟩
          · exact absurd hN.out (hno k hk)
    · have hA : rawA k = 2 := by unfold rawA; omega
      have hAh := Lib.hid hA
      have hV0 : 0 < dVar k := by omega
      have hne41 : Hid (¬ dNum k = 41) := Lib.hid (fun h => by have := (hVc.out.2 h).1; omega)
      have h41b : (n == 41) = false := by have := hne41.out; rw [hN.out] at this; simpa using this
      have hNn : ∀ m : Nat, numL (s.data.toList.take 2) = m → rawN k s = m := fun m hm => by unfold rawN; rw [if_pos hV0, hAh.out, hm]; simp
      have hNh := Lib.hid hNn
      clear hA hNn hV0
      rw [hv]
      go_wp2_with fail
      refine (newReader_any s _).mono ?_
      rintro e w2 ⟨rfl, hRd0, hE20⟩
      have hE2 : Ext w w2 := (hE.alloc _).trans hE20
      have hsz := hE.size
      have hB := (Blk.new w1 _ _).ext hE20
      have q3 := hB.cell 3
      have q4 := hB.cell 4
      clear hB hE20
      simp only [World.size_alloc] at hRd0
      simp at q3 q4
      go_wp2_with fail
      refine (rdVar2_any _ s ln _ hRd0 (by omega) hs).mono ?_
      rintro e w3 (⟨hc, rfl, hRd, hX⟩ | ⟨hc, hd, rfl, hRd, hX⟩ | ⟨hc, hd, m, hm, hrest⟩)
      · skip
        have hE3 := hX.after hE2 (by omega)
        clear hX
        go_wp2_with fail
        refine (err_any _ _ _ _ hRd).mono ?_
        rintro e w4 ⟨rfl, rfl⟩
        have hdb := Lib.hid (dec_bad (raw_short (k := k) (s := s) (by rw [hAh.out]; exact hc)) (by decide))
        go_wp2
        go_ret3
        exact Or.inl ⟨k, hk, hN.out, by rw [hdb.out]; decide, by rw [hdb.out]; rfl, hE3⟩
      · have hdH := Lib.hid hd
        clear hd
        have hE3 := hX.after hE2 (by omega)
        clear hX
        go_wp2_with fail
        refine (err_any _ _ _ _ hRd).mono ?_
        rintro e w4 ⟨rfl, rfl⟩
        have hdb := Lib.hid (dec_bad (raw_form (k := k) (s := s) (by rw [hAh.out]; exact hc) (by rw [hAh.out]; exact hdH.out)) (by decide))
        go_wp2
        go_ret3
        exact Or.inl ⟨k, hk, hN.out, by rw [hdb.out]; decide, by rw [hdb.out]; rfl, hE3⟩
      · have hdH := Lib.hid hd
        have hmH := Lib.hid (hNh.out m hm)
        clear hd hm
        rcases hrest with ⟨hc2, rfl, hRd, hX⟩ | ⟨hc2, hc3, rfl, hRd, hX⟩ | ⟨hc2, hc3, rfl, hRd, hX⟩
        · skip
          have hE3 := hX.after hE2 (by omega)
          clear hX
          go_wp2_with fail
          refine (err_any _ _ _ _ hRd).mono ?_
          rintro e w4 ⟨rfl, rfl⟩
          have hdb := Lib.hid (dec_bad (raw_long (k := k) (s := s) (by rw [hAh.out]; exact hc) (by rw [hAh.out]; exact hdH.out) (by rw [hmH.out, hLn.out]; omega)) (by decide))
          go_wp2
          go_ret3
          exact Or.inl ⟨k, hk, hN.out, by rw [hdb.out]; decide, by rw [hdb.out]; rfl, hE3⟩
        · skip
          have hE3 := hX.after hE2 (by omega)
          clear hX
          go_wp2_with fail
          refine (err_any _ _ _ _ hRd).mono ?_
          rintro e w4 ⟨rfl, rfl⟩
          have hdb := Lib.hid (dec_bad (raw_short2 (k := k) (s := s) (by rw [hAh.out]; exact hc) (by rw [hAh.out]; exact hdH.out) (by rw [hmH.out, hLn.out]; omega) (by rw [hAh.out, hmH.out]; omega)) (by decide))
          go_wp2
          go_ret3
          exact Or.inl ⟨k, hk, hN.out, by rw [hdb.out]; decide, by rw [hdb.out]; rfl, hE3⟩
        · have hraw := Lib.hid (raw_ok (k := k) (s := s) (by rw [hAh.out]; exact hdH.out) (by rw [hmH.out, hLn.out]; omega) (by rw [hAh.out, hmH.out]; omega))
          generalize hrvE : s.extract 2 (2 + m) = rv at *
          generalize hrrE : s.extract (2 + m) s.size = rr at *
          have hrv : Hid (rv.data.toList = rawV k s) := Lib.hid (by rw [← hrvE, extract_list]; unfold rawV; rw [hAh.out, hmH.out])
          have hrr : Hid (rr.data.toList = s.data.toList.drop (rawA k + rawN k s)) := Lib.hid (by rw [← hrrE, extract_list, hAh.out, hmH.out, List.take_of_length_le (by rw [size_list]; omega)])
          have hrvs : rv.size ≤ 1000000 := by rw [← hrvE]; simp; omega
          have hrrs : rr.size ≤ 1000000 := by rw [← hrrE]; simp; omega
          clear hrvE hrrE
          have hE3 := hX.after hE2 (by omega)
          clear hX
          go_wp2_with fail
          refine (err_any _ _ _ _ hRd).mono ?_
          rintro e w4 ⟨rfl, rfl⟩
          generalize hvv : rv = v at *
          have hvl : v.data.toList = valD k s := by unfold valD; rw [if_neg hne41.out, ← hrv.out]
          have hvs : v.size ≤ 1000000 := by omega
          clear hvv
          have hdg := Lib.hid (dec_good hraw.out hvl)
          have hVl := Lib.hid hvl
          clear hvl
          go_wp2_with fail
          refine (check_any n v _ (g.ext hE3) hvs).mono ?_
          rintro e w5 (⟨k', hk', hn', rfl, hE5⟩ | ⟨hno, rfl, hE5⟩)
          · obtain rfl : k' = k := dNum_inj k' k hk' hk (hn'.trans hN.out.symm)
            clear hn'
            have hRd5 := hRd.ext hE5
            by_cases hz : chkK k' v = 0
            · rw [hz]
              have hZ := Lib.hid hz
              clear hz
              go_wp2_with fail
              refine (left_any _ _ _ _ hRd5 (by omega)).mono ?_
              rintro e w6 ⟨rfl, rfl⟩
              go_wp2_with fail
              refine (take_yes _ rr rr.size _ hRd5 (by omega) (by omega) (by omega)).mono ?_
              rintro e w6 ⟨rfl, hRd6, hX6⟩
              have hE6 := hX6.after (hE3.trans hE5) (by omega)
              clear hX6 hRd6
              go_wp2
              go_ret3
              refine Or.inr (Or.inl ⟨k', hk, hN.out, by rw [hdg.out, hZ.out], hraw.out, v, _, hVl.out, ?_, rfl, hE6⟩)
              exact hrr.out
            · have hb : (chkK k' v != 0) = true := by simpa using hz
              have hZ := Lib.hid hz
              clear hz
              go_wp2
              go_ret3
              exact Or.inl ⟨k', hk, hN.out, by rw [hdg.out]; exact hZ.out, by rw [hdg.out]; rfl, hE3.trans hE5⟩
          · exact absurd hN.out (hno k hk)
    · have hA : rawA k = 3 := by unfold rawA; omega
      have hAh := Lib.hid hA
      have hV0 : 0 < dVar k := by omega
      have hne41 : Hid (¬ dNum k = 41) := Lib.hid (fun h => by have := (hVc.out.2 h).1; omega)
      have h41b : (n == 41) = false := by have := hne41.out; rw [hN.out] at this; simpa using this
      have hNn : ∀ m : Nat, numL (s.data.toList.take 3) = m → rawN k s = m := fun m hm => by unfold rawN; rw [if_pos hV0, hAh.out, hm]; simp
      have hNh := Lib.hid hNn
      clear hA hNn hV0
      rw [hv]
      go_wp2_with fail
      refine (newReader_any s _).mono ?_
      rintro e w2 ⟨rfl, hRd0, hE20⟩
      have hE2 : Ext w w2 := (hE.alloc _).trans hE20
      have hsz := hE.size
      have hB := (Blk.new w1 _ _).ext hE20
      have q3 := hB.cell 3
      have q4 := hB.cell 4
      clear hB hE20
      simp only [World.size_alloc] at hRd0
      simp at q3 q4
      go_wp2_with fail
      refine (rdVar3_any _ s ln _ hRd0 (by omega) hs).mono ?_
      rintro e w3 (⟨hc, rfl, hRd, hX⟩ | ⟨hc, hd, rfl, hRd, hX⟩ | ⟨hc, hd, m, hm, hrest⟩)
      · skip
        have hE3 := hX.after hE2 (by omega)
        clear hX
        go_wp2_with fail
        refine (err_any _ _ _ _ hRd).mono ?_
        rintro e w4 ⟨rfl, rfl⟩
        have hdb := Lib.hid (dec_bad (raw_short (k := k) (s := s) (by rw [hAh.out]; exact hc)) (by decide))
        go_wp2
        go_ret3
        exact Or.inl ⟨k, hk, hN.out, by rw [hdb.out]; decide, by rw [hdb.out]; rfl, hE3⟩
      · have hdH := Lib.hid hd
        clear hd
        have hE3 := hX.after hE2 (by omega)
        clear hX
        go_wp2_with fail
        refine (err_any _ _ _ _ hRd).mono ?_
        rintro e w4 ⟨rfl, rfl⟩
        have hdb := Lib.hid (dec_bad (raw_form (k := k) (s := s) (by rw [hAh.out]; exact hc) (by rw [hAh.out]; exact hdH.out)) (by decide))
        go_wp2
        go_ret3
        exact Or.inl ⟨k, hk, hN.out, by rw [hdb.out]; decide, by rw [hdb.out]; rfl, hE3⟩
      · have hdH := Lib.hid hd
        have hmH := Lib.hid (hNh.out m hm)
        clear hd hm
        rcases hrest with ⟨hc2, rfl, hRd, hX⟩ | ⟨hc2, hc3, rfl, hRd, hX⟩ | ⟨hc2, hc3, rfl, hRd, hX⟩
        · skip
          have hE3 := hX.after hE2 (by omega)
          clear hX
          go_wp2_with fail
          refine (err_any _ _ _ _ hRd).mono ?_
          rintro e w4 ⟨rfl, rfl⟩
          have hdb := Lib.hid (dec_bad (raw_long (k := k) (s := s) (by rw [hAh.out]; exact hc) (by rw [hAh.out]; exact hdH.out) (by rw [hmH.out, hLn.out]; omega)) (by decide))
          go_wp2
          go_ret3
          exact Or.inl ⟨k, hk, hN.out, by rw [hdb.out]; decide, by rw [hdb.out]; rfl, hE3⟩
        · skip
          have hE3 := hX.after hE2 (by omega)
          clear hX
          go_wp2_with fail
          refine (err_any _ _ _ _ hRd).mono ?_
          rintro e w4 ⟨rfl, rfl⟩
          have hdb := Lib.hid (dec_bad (raw_short2 (k := k) (s := s) (by rw [hAh.out]; exact hc) (by rw [hAh.out]; exact hdH.out) (by rw [hmH.out, hLn.out]; omega) (by rw [hAh.out, hmH.out]; omega)) (by decide))
          go_wp2
          go_ret3
          exact Or.inl ⟨k, hk, hN.out, by rw [hdb.out]; decide, by rw [hdb.out]; rfl, hE3⟩
        · have hraw := Lib.hid (raw_ok (k := k) (s := s) (by rw [hAh.out]; exact hdH.out) (by rw [hmH.out, hLn.out]; omega) (by rw [hAh.out, hmH.out]; omega))
          generalize hrvE : s.extract 3 (3 + m) = rv at *
          generalize hrrE : s.extract (3 + m) s.size = rr at *
          have hrv : Hid (rv.data.toList = rawV k s) := Lib.hid (by rw [← hrvE, extract_list]; unfold rawV; rw [hAh.out, hmH.out])
          have hrr : Hid (rr.data.toList = s.data.toList.drop (rawA k + rawN k s)) := Lib.hid (by rw [← hrrE, extract_list, hAh.out, hmH.out, List.take_of_length_le (by rw [size_list]; omega)])
          have hrvs : rv.size ≤ 1000000 := by rw [← hrvE]; simp; omega
          have hrrs : rr.size ≤ 1000000 := by rw [← hrrE]; simp; omega
          clear hrvE hrrE
          have hE3 := hX.after hE2 (by omega)
          clear hX
          go_wp2_with fail
          refine (err_any _ _ _ _ hRd).mono ?_
          rintro e w4 ⟨rfl, rfl⟩
          generalize hvv : rv = v at *
          have hvl : v.data.toList = valD k s := by unfold valD; rw [if_neg hne41.out, ← hrv.out]
          have hvs : v.size ≤ 1000000 := by omega
          clear hvv
          have hdg := Lib.hid (dec_good hraw.out hvl)
          have hVl := Lib.hid hvl
          clear hvl
          go_wp2_with fail
          refine (check_any n v _ (g.ext hE3) hvs).mono ?_
          rintro e w5 (⟨k', hk', hn', rfl, hE5⟩ | ⟨hno, rfl, hE5⟩)
          · obtain rfl : k' = k := dNum_inj k' k hk' hk (hn'.trans hN.out.symm)
            clear hn'
            have hRd5 := hRd.ext hE5
            by_cases hz : chkK k' v = 0
            · rw [hz]
              have hZ := Lib.hid hz
              clear hz
              go_wp2_with fail
              refine (left_any _ _ _ _ hRd5 (by omega)).mono ?_
              rintro e w6 ⟨rfl, rfl⟩
              go_wp2_with fail
              refine (take_yes _ rr rr.size _ hRd5 (by omega) (by omega) (by omega)).mono ?_
              rintro e w6 ⟨rfl, hRd6, hX6⟩
              have hE6 := hX6.after (hE3.trans hE5) (by omega)
              clear hX6 hRd6
              go_wp2
              go_ret3
              refine Or.inr (Or.inl ⟨k', hk, hN.out, by rw [hdg.out, hZ.out], hraw.out, v, _, hVl.out, ?_, rfl, hE6⟩)
              exact hrr.out
            · have hb : (chkK k' v != 0) = true := by simpa using hz
              have hZ := Lib.hid hz
              clear hz
              go_wp2
              go_ret3
              exact Or.inl ⟨k', hk, hN.out, by rw [hdg.out]; exact hZ.out, by rw [hdg.out]; rfl, hE3.trans hE5⟩
          · exact absurd hN.out (hno k hk)
  · have hno := Lib.hid hno
    unfold specZero
    go_wp2
    go_ret3
    exact Or.inr (Or.inr ⟨hno.out, rfl, (by repeat (first | with_reducible exact Ext.refl _ | with_reducible exact hE0 | with_reducible exact hE | with_reducible refine Ext.alloc ?_ _ | with_reducible refine Ext.drewN ?_ _ | with_reducible refine Ext.drew ?_ | ((with_reducible refine Ext.setCell ?_ ?side _); (case side => first | exact Nat.le_refl _ | (simp; done) | (simp; omega)))))⟩)
end Go.Proofs.YthokhncdpfaifaaGreatDoor
