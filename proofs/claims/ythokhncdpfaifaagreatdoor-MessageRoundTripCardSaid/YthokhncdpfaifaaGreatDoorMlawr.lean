/- The walk of the law MessageRoundTrip. -/
import Derived.Test.YthokhncdpfaifaaGreatDoorMplain
namespace Go.Proofs.YthokhncdpfaifaaGreatDoor
open Go.RowKit
theorem decW_bad (s : ByteArray) (h : (decW s).1 ≠ 0) : (decW s).2.1 = 0 ∧ (decW s).2.2 = [] := by
  unfold decW at h ⊢
  split at h
  · rename_i a; rw [if_pos a]; exact ⟨rfl, rfl⟩
  rename_i a; rw [if_neg a]
  split at h
  · rename_i b; rw [if_pos b]; exact ⟨rfl, rfl⟩
  rename_i b; rw [if_neg b]
  split at h
  · rename_i c; rw [if_pos c]; exact ⟨rfl, rfl⟩
  rename_i c; rw [if_neg c]
  split at h
  · rename_i d; rw [if_pos d]; exact ⟨rfl, rfl⟩
  rename_i d; rw [if_neg d]
  split at h
  · rename_i e; rw [if_pos e]; exact ⟨rfl, rfl⟩
  rename_i e; rw [if_neg e]
  split at h
  · rename_i f; rw [if_pos f]; exact ⟨rfl, rfl⟩
  · exact absurd rfl h
theorem decEs_small : ∀ (l : List Int) (acc : List El) (r : ByteArray), (∀ x ∈ acc, x.2.size ≤ 300) → ∀ x ∈ (decEs l acc r).2.1, x.2.size ≤ 300
  | [], acc, r, h => by simpa [decEs] using h
  | n :: l, acc, r, h => by
    rw [decEs]
    split
    · exact h
    · refine decEs_small l _ _ (fun x hx => ?_)
      rcases List.mem_append.1 hx with hx | hx
      · exact h x hx
      · rw [List.mem_singleton.1 hx]; exact decV_size _ _
theorem decW_small (s : ByteArray) : SmallV (decW s).2.2 := by
  by_cases h : (decW s).1 = 0
  · have hall : ∀ x ∈ (decW s).2.2, x.2.size ≤ 300 := by
      unfold decW
      split
      · intro x hx; simp at hx
      split
      · intro x hx; simp at hx
      split
      · intro x hx; simp at hx
      split
      · intro x hx; simp at hx
      split
      · intro x hx; simp at hx
      split
      · intro x hx; simp at hx
      · exact decEs_small _ _ _ (fun x hx => by simp at hx)
    intro j hj
    have := hall ((decW s).2.2[j]) (List.getElem_mem hj)
    simp only [List.getD_eq_getElem?_getD, List.getElem?_eq_getElem hj, Option.getD_some]
    omega
  · rw [(decW_bad s h).2]; intro j hj; simp at hj
theorem encM_len (ty : Int) (es : List El) (h : es.length ≤ 60) : (encMS ty es).size ≤ 20000 := by
  rw [← len_list]
  show (encM ty es).length ≤ 20000
  unfold encM
  split
  · rw [List.length_append, List.length_append]
    have h1 := encEs_len es
    have h2 : (bmL (bof (numsL es) (0, 0)).1 (bof (numsL es) (0, 0)).2).length ≤ 32 := by have := bmS_size (bof (numsL es) (0, 0)).1 (bof (numsL es) (0, 0)).2; rw [← len_list] at this; exact this
    have h3 : (dig4 ty.toNat).length = 4 := rfl
    omega
  · simp
set_option maxRecDepth 8000 in
set_option maxHeartbeats 8000000 in
theorem law_round (ty : Int) (v : Value) (es : List El) (s : ByteArray) (w : World) (g : Gl w) (hv : Okm w v es) (hs : s.size ≤ 9223372036854775807) : Calls Tryz.prog 5 #[msgAgg ty v, .string s] w (LawPost w) := by
  obtain ⟨hv, hl, hsz⟩ := hv
  have hV := Lib.hid hv
  have hSz := Lib.hid hsz
  obtain ⟨q, cp, rfl⟩ := elems_form hv
  clear hv hsz
  unfold msgAgg
  go_enter Tryz.func5, Tryz.ntmps5
  go_wp2_with fail
  refine (small_any ty _ es _ (hV.out.ext ((Ext.refl w).alloc _)) hl hSz.out).mono ?_
  rintro e w1 ⟨rfl, hE1⟩
  have hB1 := (Blk.new w _ _).ext hE1
  have hE01 : Ext w w1 := ((Ext.refl w).alloc _).trans hE1
  have z0 := hB1.cell 0
  have z1 := hB1.cell 1
  simp at z0 z1
  clear hE1
  cases hsm : smallB es with
  | false =>
    clear hsm
    go_wp2_with fail
    refine (awake_any _ (g.ext hE01)).mono ?_
    rintro e w4 ⟨rfl, hE⟩
    have hE04 := hE01.trans hE
    clear hE
    go_wp2
    go_ret
    exact ⟨rfl, hE04⟩
  | true =>
    obtain ⟨h60, h400⟩ := small_yes hsm
    have hsv : SmallV es := fun j hj => by have := h400 j hj; omega
    have hSV := Lib.hid hsv
    clear hsm h400 hsv
    by_cases h3 : s.size ≤ 3000
    · have h3b : decide ((3000 : Int) < s.size) = false := by simp; omega
      go_wp2_with fail
      refine (mencode_any ty _ es _ (g.ext hE01) (hV.out.ext hE01) (by omega) hSV.out).mono ?_
      rintro e w2 ⟨rfl, hE2⟩
      have hB2 := hB1.ext hE2
      have hE02 := hE01.trans hE2
      have hlt2 := hB2.lt
      clear hE2 hB1 z0 z1
      have z0 := hB2.cell 0
      have z1 := hB2.cell 1
      simp at z0 z1
      by_cases hz : mchk ty es = 0
      · have hel := encM_len ty es h60
        have hd1 : Hid (decW (encMS ty es) = (0, ty, es)) := Lib.hid ((dec_enc ty es hz (encMS ty es) [] (by unfold encMS; simp)).trans (if_pos rfl))
        have hd2 : Hid (decW (encMS ty es ++ (⟨#[48]⟩ : ByteArray)) = (3, 0, [])) := Lib.hid ((dec_enc ty es hz (encMS ty es ++ (⟨#[48]⟩ : ByteArray)) [48] (by rw [app_data']; unfold encMS; rfl)).trans (if_neg (by simp)))
        have hZ := Lib.hid hz
        rw [hz]
        clear hz
        generalize encMS ty es = t at *
        go_wp2_with fail
        refine (mdecode_any t _ (g.ext hE02) (by omega)).mono ?_
        rintro e w3 ⟨v3, rfl, hv3, hE3⟩
        rw [hd1.out] at hv3 ⊢
        have hV3 := Lib.hid hv3
        obtain ⟨p3, c3, rfl⟩ := elems_form hv3
        have hB3 := hB2.ext hE3
        have hE03 := hE02.trans hE3
        have hlt3 := hB3.lt
        clear hv3 hE3 hB2 z0 z1
        unfold msgAgg
        have htz : (t ++ (⟨#[48]⟩ : ByteArray)).size ≤ 1000000 := by rw [← len_list, app_data', List.length_append, len_list]; simp; omega
        go_wp2_with fail
        refine (mdecode_any _ _ (g.ext (hE03.alloc _)) htz).mono ?_
        rintro e w4 ⟨v4, rfl, hv4, hE4⟩
        rw [hd2.out] at hv4 ⊢
        obtain ⟨p4, c4, rfl⟩ := elems_form hv4
        have hB4 := (hB3.alloc (.cells #[.int .i64 ty, .slice p3 es.length c3] 24)).ext hE4
        have hN4 := (Blk.new w3 #[.int .i64 ty, .slice p3 es.length c3] 24).ext hE4
        have hE34 : Ext w3 w4 := ((Ext.refl w3).alloc _).trans hE4
        have hV4 := Lib.hid (hV3.out.ext hE34)
        have hE04 := hE03.trans hE34
        have hlt4 := hB4.lt
        have hlt5 := hN4.lt
        clear hv4 hE4 hE34 hV3
        unfold msgAgg
        have z0 := hB4.cell 0
        have z1 := hB4.cell 1
        have y0 := hN4.cell 0
        have y1 := hN4.cell 1
        simp at z0 z1 y0 y1
        clear hd1 hd2
        go_wp2_with fail
        refine (rSame_any ty ty _ _ es es _ (hV.out.ext (hE04.alloc _)) (hV4.out.ext ((Ext.refl w4).alloc _)) (by omega) (by omega)).mono ?_
        rintro e w5 ⟨rfl, hE5⟩
        rw [same_self]
        have hB5 := (hB4.alloc (.cells #[.int .i64 0, .slice p4 0 c4] 24)).ext hE5
        have hE05 := (hE04.alloc _).trans hE5
        clear hE5 hB4 z0 z1
        have z0 := hB5.cell 0
        have z1 := hB5.cell 1
        simp at z0 z1
        go_wp2_with fail
        refine (mcheck_any ty _ es _ (g.ext hE05) (hV.out.ext hE05) (by omega) hSV.out).mono ?_
        rintro e w6 ⟨rfl, hE6⟩
        rw [hZ.out]
        have hEa := hE05.trans hE6
        clear hE6 hZ
        go_wp2_with fail
        have hs3 : s.size ≤ 1000000 := by omega
        refine (mdecode_any s _ (g.ext hEa) hs3).mono ?_
        rintro e w8 ⟨v8, rfl, hv8, hE8⟩
        have hV8 := Lib.hid hv8
        obtain ⟨p8, c8, rfl⟩ := elems_form hv8
        have hEb := hEa.trans hE8
        clear hv8 hE8
        unfold msgAgg
        by_cases hdc : (decW s).1 = 0
        · obtain ⟨q1, q2⟩ := enc_dec s hdc
          have hQ := Lib.hid q2
          have hQ1 := Lib.hid q1
          have hln := decW_len s
          have hsv8 := Lib.hid (decW_small s)
          rw [hdc]
          clear hdc q1 q2
          generalize (decW s).2.1 = dt at *
          generalize (decW s).2.2 = de at *
          go_wp2_with fail
          refine (mencode_any dt _ de _ (g.ext (hEb.alloc _)) (hV8.out.ext ((Ext.refl w8).alloc _)) (by omega) hsv8.out).mono ?_
          rintro e w9 ⟨rfl, hE9⟩
          rw [hQ.out, hQ1.out]
          have hEc := (hEb.alloc _).trans hE9
          clear hE9 hQ hQ1
          go_wp2_with fail
          refine (awake_any _ (g.ext hEc)).mono ?_
          rintro e w10 ⟨rfl, hE10⟩
          have hEd := hEc.trans hE10
          clear hE10
          go_wp2
          go_ret
          exact ⟨rfl, hEd⟩
        · have hdb : ((decW s).1 != 0) = true := by simpa using hdc
          obtain ⟨q1, q2⟩ := decW_bad s hdc
          rw [q1, q2]
          clear hdc hV8 q1 q2
          generalize (decW s).1 = dc at *
          go_wp2_with fail
          refine (awake_any _ (g.ext (hEb.alloc _))).mono ?_
          rintro e w10 ⟨rfl, hE10⟩
          have hEd := (hEb.alloc _).trans hE10
          clear hE10
          go_wp2
          go_ret
          exact ⟨rfl, hEd⟩
      · have hzb : (mchk ty es == 0) = false := by simpa using hz
        have hS : encMS ty es = ⟨#[]⟩ := by unfold encMS encM; rw [if_neg hz]
        rw [hS]
        clear hS hz
        have hM1 := Lib.hid (fun w g hv hl hs => mcheck_any ty (.slice q es.length cp) es w g hv hl hs)
        unfold msgAgg at hM1
        generalize mchk ty es = mc at *
        go_wp2_with fail
        refine (hM1.out _ (g.ext hE02) (hV.out.ext hE02) (by omega) hSV.out).mono ?_
        rintro e w6 ⟨rfl, hE6⟩
        have hEa := hE02.trans hE6
        clear hE6
        go_wp2_with fail
        have hs3 : s.size ≤ 1000000 := by omega
        refine (mdecode_any s _ (g.ext hEa) hs3).mono ?_
        rintro e w8 ⟨v8, rfl, hv8, hE8⟩
        have hV8 := Lib.hid hv8
        obtain ⟨p8, c8, rfl⟩ := elems_form hv8
        have hEb := hEa.trans hE8
        clear hv8 hE8
        unfold msgAgg
        by_cases hdc : (decW s).1 = 0
        · obtain ⟨q1, q2⟩ := enc_dec s hdc
          have hQ := Lib.hid q2
          have hQ1 := Lib.hid q1
          have hln := decW_len s
          have hsv8 := Lib.hid (decW_small s)
          rw [hdc]
          clear hdc q1 q2
          generalize (decW s).2.1 = dt at *
          generalize (decW s).2.2 = de at *
          go_wp2_with fail
          refine (mencode_any dt _ de _ (g.ext (hEb.alloc _)) (hV8.out.ext ((Ext.refl w8).alloc _)) (by omega) hsv8.out).mono ?_
          rintro e w9 ⟨rfl, hE9⟩
          rw [hQ.out, hQ1.out]
          have hEc := (hEb.alloc _).trans hE9
          clear hE9 hQ hQ1
          go_wp2_with fail
          refine (awake_any _ (g.ext hEc)).mono ?_
          rintro e w10 ⟨rfl, hE10⟩
          have hEd := hEc.trans hE10
          clear hE10
          go_wp2
          go_ret
          exact ⟨rfl, hEd⟩
        · have hdb : ((decW s).1 != 0) = true := by simpa using hdc
          obtain ⟨q1, q2⟩ := decW_bad s hdc
          rw [q1, q2]
          clear hdc hV8 q1 q2
          generalize (decW s).1 = dc at *
          go_wp2_with fail
          refine (awake_any _ (g.ext (hEb.alloc _))).mono ?_
          rintro e w10 ⟨rfl, hE10⟩
          have hEd := (hEb.alloc _).trans hE10
          clear hE10
          go_wp2
          go_ret
          exact ⟨rfl, hEd⟩
    · have h3b : decide ((3000 : Int) < s.size) = true := by simp; omega
      go_wp2_with fail
      refine (awake_any _ (g.ext hE01)).mono ?_
      rintro e w4 ⟨rfl, hE⟩
      have hE04 := hE01.trans hE
      clear hE
      go_wp2
      go_ret
      exact ⟨rfl, hE04⟩
end Go.Proofs.YthokhncdpfaifaaGreatDoor
