/- The walks of the laws ElementDecodes, ElementRoundTrip, ElementOnly, ElementNames and ElementFinds. -/
import Derived.Test.YthokhncdpfaifaaDoorPlain
namespace Go.Proofs.YthokhncdpfaifaaDoor
open Go.RowKit
set_option maxRecDepth 8000 in
set_option maxHeartbeats 1000000 in
theorem law_decodes (n : Int) (s : ByteArray) (w : World) (g : Gl w) (hs : s.size ≤ 9223372036854775807) : Calls Tryd.prog 4 #[.int .i64 n, .string s] w (LawPost w) := by
  by_cases h : s.size ≤ 400
  · go_enter Tryd.func4, Tryd.ntmps4
    go_wp2_with fail
    refine (decodeF n s _ g (by omega)).mono ?_
    rintro e w1 ⟨rfl, hE1⟩
    go_wp2_with fail
    refine (rDecodeF n s _ (by omega)).mono ?_
    rintro e w2 ⟨rfl, hE⟩
    have hE2 := hE1.trans hE
    clear hE1 hE
    go_wp2_with fail
    refine (awake_any _ (g.ext hE2)).mono ?_
    rintro e w4 ⟨rfl, hE⟩
    have hE4 := hE2.trans hE
    clear hE2 hE
    go_wp2
    go_ret
    exact ⟨rfl, hE4⟩
  · go_enter Tryd.func4, Tryd.ntmps4
    go_wp2_with fail
    refine (awake_any _ g).mono ?_
    rintro e w4 ⟨rfl, hE⟩
    go_wp2
    go_ret
    exact ⟨rfl, hE⟩

theorem chkC_some {n : Int} {k : Nat} (h : rowOf n = some k) (s : ByteArray) : chkC n s = chkK k s := by unfold chkC; rw [h]
theorem enc_bad {n : Int} {s : ByteArray} (h : chkC n s ≠ 0) : encS n s = ⟨#[]⟩ := by
  unfold encS
  cases hr : rowOf n with
  | none => rfl
  | some k => rw [chkC_some hr] at h; simp only [if_neg h]
theorem enc_good {n : Int} {s : ByteArray} (h : chkC n s = 0) : ∃ k, rowOf n = some k ∧ k < 23 ∧ chkK k s = 0 ∧ (encS n s).data.toList = encL k s ∧ (encS n s).size = (encL k s).length := by
  cases hr : rowOf n with
  | none => unfold chkC at h; rw [hr] at h; cases h
  | some k =>
    rw [chkC_some hr] at h
    have hl : (encS n s).data.toList = encL k s := by unfold encS; rw [hr]; simp only [if_pos h]
    exact ⟨k, rfl, (rowOf_spec hr).1, h, hl, by rw [← size_list, hl]⟩
theorem dec_some {n : Int} {k : Nat} {s : ByteArray} (h : rowOf n = some k) (hz : decE k s = 0) : decC n s = 0 ∧ (decV n s).data.toList = valD k s ∧ (decR n s).data.toList = s.data.toList.drop (rawA k + rawN k s) := by
  unfold decC decV decR
  rw [h]
  simp only [if_pos hz]
  exact ⟨hz, trivial, trivial⟩
theorem enc_size (n : Int) (s : ByteArray) (hs : s.size ≤ 400) : (encS n s).size ≤ 500 := by
  by_cases h : chkC n s = 0
  · obtain ⟨k, hr, hk, hz, hl, hsz⟩ := enc_good h
    have hv := row_bd k hk
    rw [hsz]
    have h1 := (round_trip k hk s (encS n s) [] hz (by rw [hl]; simp)).2.2.2
    by_cases hp : 0 < dVar k
    · rw [h1.2 hp]; omega
    · rw [h1.1 (by omega)]; omega
  · rw [enc_bad h]; decide
set_option maxRecDepth 8000 in
set_option maxHeartbeats 2000000 in
theorem law_round (n : Int) (s r : ByteArray) (w : World) (g : Gl w) (hs : s.size ≤ 9223372036854775807) (hr : r.size ≤ 9223372036854775807) : Calls Tryd.prog 5 #[.int .i64 n, .string s, .string r] w (LawPost w) := by
  by_cases h : s.size ≤ 400
  · by_cases h2 : r.size ≤ 400
    · go_enter Tryd.func5, Tryd.ntmps5
      go_wp2_with fail
      refine (encodeF n s _ g (by omega)).mono ?_
      rintro e w1 ⟨rfl, hE1⟩
      by_cases hz : chkC n s = 0
      · obtain ⟨k, hrow, hk, hzk, hl, hsz⟩ := enc_good hz
        have hes := enc_size n s h
        have hbd := row_bd k hk
        obtain ⟨q1, q2, q3, q4, q5⟩ := round_trip k hk s (encS n s ++ r) r.data.toList hzk (by rw [app_data, hl])
        obtain ⟨d1, d2, d3⟩ := dec_some hrow q1
        have d2' : decV n (encS n s ++ r) = s := Go.WideShapes.bytes_inj (d2.trans q2)
        have d3' : decR n (encS n s ++ r) = r := Go.WideShapes.bytes_inj (d3.trans q3)
        have D := Lib.hid (And.intro d1 (And.intro d2' d3'))
        have hF : findV n = specAgg k := by unfold findV; rw [hrow]
        have hSo : (rowOf n).isSome = true := by rw [hrow]; rfl
        have HF := Lib.hid hF
        have HS := Lib.hid hSo
        have Q4 := Lib.hid q4
        have Q5 := Lib.hid q5
        have HL := Lib.hid hsz
        rw [hz]
        clear hz hrow hzk hl hsz q1 q2 q3 q4 q5 d1 d2 d3 d2' d3' hF hSo
        go_wp2_with fail
        refine (findF n _ (g.ext hE1)).mono ?_
        rintro e w2 ⟨rfl, hE⟩
        have hE2 := hE1.trans hE
        clear hE1 hE
        rw [HF.out, HS.out]
        unfold specAgg
        go_wp2_with fail
        refine (decodeF n (encS n s ++ r) _ (g.ext (hE2.alloc _)) (by simp; omega)).mono ?_
        rintro e w3 ⟨rfl, hE⟩
        rw [D.out.1, D.out.2.1, D.out.2.2]
        have hB := (Blk.new w2 _ _).ext hE
        have z3 := hB.cell 3
        have z4 := hB.cell 4
        simp at z3 z4
        have hE3 := (hE2.alloc _).trans hE
        clear hE2 hE hB
        by_cases hv : dVar k = 0
        · have hvb : (dVar k == 0) = true := by simpa using hv
          have hlen : ((encS n s).size : Int) = dLen k := by rw [HL.out, Q4.out hv]; omega
          have hlb : (((encS n s).size : Int) == dLen k) = true := by simpa using hlen
          clear hlen hv
          go_wp2_with fail
          refine (awake_any _ (g.ext hE3)).mono ?_
          rintro e w4 ⟨rfl, hE⟩
          have hE4 := hE3.trans hE
          clear hE3 hE
          go_wp2
          go_ret
          exact ⟨rfl, hE4⟩
        · have hvb : (dVar k == 0) = false := by simpa using hv
          have hlen : ((encS n s).size : Int) = dVar k + s.size := by rw [HL.out, Q5.out (by omega)]; omega
          have hlb : (((encS n s).size : Int) == dVar k + s.size) = true := by simpa using hlen
          clear hlen hv
          go_wp2_with fail
          refine (awake_any _ (g.ext hE3)).mono ?_
          rintro e w4 ⟨rfl, hE⟩
          have hE4 := hE3.trans hE
          clear hE3 hE
          go_wp2
          go_ret
          exact ⟨rfl, hE4⟩
      · have hb : (chkC n s != 0) = true := by simpa using hz
        rw [enc_bad hz]
        clear hz
        go_wp2_with fail
        refine (checkF n s _ (g.ext hE1) (by omega)).mono ?_
        rintro e w3 ⟨rfl, hE⟩
        have hE3 := hE1.trans hE
        clear hE1 hE
        go_wp2_with fail
        refine (awake_any _ (g.ext hE3)).mono ?_
        rintro e w4 ⟨rfl, hE⟩
        have hE4 := hE3.trans hE
        clear hE3 hE
        go_wp2
        go_ret
        exact ⟨rfl, hE4⟩
    · go_enter Tryd.func5, Tryd.ntmps5
      go_wp2_with fail
      refine (awake_any _ g).mono ?_
      rintro e w4 ⟨rfl, hE⟩
      go_wp2
      go_ret
      exact ⟨rfl, hE⟩
  · go_enter Tryd.func5, Tryd.ntmps5
    go_wp2_with fail
    refine (awake_any _ g).mono ?_
    rintro e w4 ⟨rfl, hE⟩
    go_wp2
    go_ret
    exact ⟨rfl, hE⟩

theorem dec_badC {n : Int} {s : ByteArray} (h : decC n s ≠ 0) : decV n s = ⟨#[]⟩ ∧ decR n s = ⟨#[]⟩ := by
  unfold decV decR
  cases hr : rowOf n with
  | none => exact ⟨rfl, rfl⟩
  | some k =>
    unfold decC at h
    rw [hr] at h
    simp only [if_neg h]
    exact ⟨trivial, trivial⟩
theorem dec_goodC {n : Int} {s : ByteArray} (h : decC n s = 0) : ∃ k, rowOf n = some k ∧ k < 23 ∧ decE k s = 0 ∧ rawE k s = 0 ∧ (decV n s).data.toList = valD k s ∧ (decR n s).data.toList = s.data.toList.drop (rawA k + rawN k s) := by
  cases hr : rowOf n with
  | none => unfold decC at h; rw [hr] at h; cases h
  | some k =>
    have hz : decE k s = 0 := by unfold decC at h; rw [hr] at h; exact h
    have hraw : rawE k s = 0 := by
      by_cases h0 : rawE k s = 0
      · exact h0
      · unfold decE at hz; rw [if_neg h0] at hz; exact absurd hz h0
    obtain ⟨_, h2, h3⟩ := dec_some hr hz
    exact ⟨k, rfl, (rowOf_spec hr).1, hz, hraw, h2, h3⟩
set_option maxRecDepth 8000 in
set_option maxHeartbeats 2000000 in
theorem law_only (n : Int) (s : ByteArray) (c : Int) (w : World) (g : Gl w) (hs : s.size ≤ 9223372036854775807) (hc : (Lit.int .u16 c).wf = true) : Calls Tryd.prog 6 #[.int .i64 n, .string s, .int .u16 c] w (LawPost w) := by
  have hc2 : 0 ≤ c ∧ c ≤ 65535 := by simp [Lit.wf, IntKind.min, IntKind.max, IntKind.signed, IntKind.bits] at hc; omega
  clear hc
  obtain ⟨hc0, hc1⟩ := hc2
  by_cases h : s.size ≤ 400
  · go_enter Tryd.func6, Tryd.ntmps6
    go_wp2_with fail
    refine (decodeF n s _ g (by omega)).mono ?_
    rintro e w1 ⟨rfl, hE1⟩
    by_cases hz : decC n s = 0
    · obtain ⟨k, hrow, hk, hze, hraw, hv, hr⟩ := dec_goodC hz
      obtain ⟨p1, p2, p3, p4, p5⟩ := only_enc k hk s (decV n s) hze hraw hv
      have hcz : chkC n (decV n s) = 0 := by rw [chkC_some hrow]; exact p1
      obtain ⟨k', hrow', _, _, hl, hsz⟩ := enc_good hcz
      obtain rfl : k' = k := by rw [hrow] at hrow'; exact (Option.some.inj hrow').symm
      have hrz := raw_zero hraw
      have hvs : (decV n s).size ≤ 1000000 := by
        have h1 : (encL k' (decV n s)).length = (encS n (decV n s)).size := hsz.symm
        have h2 := chk_zero k' (decV n s) p1
        have h3 := row_bd k' hk
        omega
      generalize hV : decV n s = v at *
      generalize hR : decR n s = r at *
      generalize hT : encS n v = t at *
      have hsum : t ++ r = s := Go.WideShapes.bytes_inj (by rw [app_data, hl, hr]; exact p2)
      have hts : t.size ≤ 400 := by
        have := congrArg List.length p2
        rw [List.length_append, size_list] at this; omega
      have hrs : r.size ≤ 400 := by rw [← size_list, hr, List.length_drop, size_list]; omega
      have ht0 : 0 < t.size := by omega
      obtain ⟨cn, hcn⟩ := Int.eq_ofNat_of_zero_le hc0
      have hcut : decC n (t.extract 0 (cn % t.size)) = 1 := by
        unfold decC; rw [hrow]
        refine p5 (cn % t.size) _ (by rw [← hsz]; exact Nat.mod_lt _ ht0) ?_
        rw [extract_list, hl]; rfl
      have hsb := strEq hsum
      have HC := Lib.hid hcut
      have HZ := Lib.hid hcz
      have HV := Lib.hid hV
      have HT := Lib.hid hT
      have hmod : cn % t.size < t.size := Nat.mod_lt _ ht0
      have hcn1 : cn ≤ 65535 := by omega
      subst hcn
      rw [hz]
      clear hz hrow hrow' hze hraw hv hr p1 p2 p3 p4 p5 hcz hl hsz hrz hcut hV hT hR hsum
      go_wp2_with fail
      refine (encodeF n v _ (g.ext hE1) hvs).mono ?_
      rintro e w2 ⟨rfl, hE⟩
      have hE2 := hE1.trans hE
      clear hE1 hE
      rw [HT.out, HZ.out]
      go_wp2_with fail
      refine (checkF n v _ (g.ext hE2) hvs).mono ?_
      rintro e w3 ⟨rfl, hE⟩
      have hE3 := hE2.trans hE
      clear hE2 hE
      rw [HZ.out]
      go_wp2_with fail
      refine (decodeF n (t.extract 0 (cn % t.size)) _ (g.ext hE3) (by simp; omega)).mono ?_
      rintro e w4 ⟨rfl, hE⟩
      have hE4 := hE3.trans hE
      clear hE3 hE
      rw [HC.out]
      go_wp2_with fail
      refine (awake_any _ (g.ext hE4)).mono ?_
      rintro e w5 ⟨rfl, hE⟩
      have hE5 := hE4.trans hE
      clear hE4 hE
      go_wp2
      go_ret
      exact ⟨rfl, hE5⟩
    · have hb : (decC n s != 0) = true := by simpa using hz
      rw [(dec_badC hz).1, (dec_badC hz).2]
      clear hz
      go_wp2_with fail
      refine (awake_any _ (g.ext hE1)).mono ?_
      rintro e w4 ⟨rfl, hE⟩
      have hE4 := hE1.trans hE
      clear hE1 hE
      go_wp2
      go_ret
      exact ⟨rfl, hE4⟩
  · go_enter Tryd.func6, Tryd.ntmps6
    go_wp2_with fail
    refine (awake_any _ g).mono ?_
    rintro e w4 ⟨rfl, hE⟩
    go_wp2
    go_ret
    exact ⟨rfl, hE⟩
end Go.Proofs.YthokhncdpfaifaaDoor
