/- Contracts of velocity's within, Count, Sum (walks). -/
import Derived.Test.YtangdoidkcelfaaGreatDoorEi
import Derived.Test.YtangdoidkcelfaaGreatDoorKe
namespace Go.Proofs.YtangdoidkcelfaaGreatDoor
open Go.RowKit
def cntW (key : ByteArray) (now win : Int) (l : List UseV) : Int := ((l.filter (inWin key now win)).length : Int)
def sumW (key : ByteArray) (now win : Int) (l : List UseV) : Int := ((l.filter (inWin key now win)).map (·.amt)).sum
theorem use_take {l : List UseV} {k : Nat} (h : k < l.length) : l.take (k + 1) = l.take k ++ [l.getD k useD] := by
 rw [List.take_add_one, List.getD_eq_getElem?_getD, List.getElem?_eq_getElem h]
 rfl
theorem cnt_snoc (key : ByteArray) (now win : Int) (l : List UseV) (u : UseV) : cntW key now win (l ++ [u]) = if inWin key now win u then cntW key now win l + 1 else cntW key now win l := by
 unfold cntW
 rw [List.filter_append]
 by_cases h : inWin key now win u
 · rw [if_pos h, List.filter_cons_of_pos (by simpa using h)]; simp
 · rw [if_neg h, List.filter_cons_of_neg (by simpa using h)]; simp
theorem sum_snoc (key : ByteArray) (now win : Int) (l : List UseV) (u : UseV) : sumW key now win (l ++ [u]) = if inWin key now win u then sumW key now win l + u.amt else sumW key now win l := by
 unfold sumW
 rw [List.filter_append]
 by_cases h : inWin key now win u
 · rw [if_pos h, List.filter_cons_of_pos (by simpa using h)]; simp
 · rw [if_neg h, List.filter_cons_of_neg (by simpa using h)]; simp
theorem cnt_bd (key : ByteArray) (now win : Int) (l : List UseV) : 0 ≤ cntW key now win l ∧ cntW key now win l ≤ l.length := by
 unfold cntW
 have := List.length_filter_le (inWin key now win) l
 omega
def AmtB (l : List UseV) : Prop := ∀ u ∈ l, 0 ≤ u.amt ∧ u.amt ≤ 999999999999
theorem sum_bd (key : ByteArray) (now win : Int) : ∀ l : List UseV, AmtB l → 0 ≤ sumW key now win l ∧ sumW key now win l ≤ (l.length : Int) * 999999999999
 | [], _ => by simp [sumW]
 | u :: l, h => by
  have ih := sum_bd key now win l (fun x hx => h x (List.mem_cons_of_mem _ hx))
  have hu := h u (List.mem_cons_self ..)
  unfold sumW at ih ⊢
  rw [List.length_cons]
  by_cases hc : inWin key now win u
  · rw [List.filter_cons_of_pos (by simpa using hc), List.map_cons, List.sum_cons]; omega
  · rw [List.filter_cons_of_neg (by simpa using hc)]; omega
theorem AmtB.take {l : List UseV} (h : AmtB l) (k : Nat) : AmtB (l.take k) := fun u hu => h u (List.mem_of_mem_take hu)
theorem vel_out {d : VelD} {key : ByteArray} {now win : Int} (h : win < 1 ∨ d.hor < win ∨ timeB now = false) : velCount d key now win = 0 ∧ velSum d key now win = 0 := by
 unfold velCount velSum
 rw [if_pos h, if_pos h]
 exact ⟨rfl, rfl⟩
theorem vel_in {d : VelD} {key : ByteArray} {now win : Int} (h : ¬ (win < 1 ∨ d.hor < win ∨ timeB now = false)) : velCount d key now win = cntW key now win d.uses ∧ velSum d key now win = sumW key now win d.uses := by
 unfold velCount velSum
 rw [if_neg h, if_neg h]
 exact ⟨rfl, rfl⟩
set_option maxRecDepth 8000 in
set_option maxHeartbeats 8000000 in
theorem velWithin_any (B V : Nat) (v : Value) (d : VelD) (key : ByteArray) (now win : Int) (w : World) (h : VelM w B V v d) (hh : 1 ≤ d.hor ∧ d.hor ≤ 10000000) (hl : d.uses.length ≤ 1000) (ha : AmtB d.uses) :
 Calls Tryz.prog 173 #[.pointer (some ⟨V, 0, none⟩), .string key, .int .i64 now, .int .i64 win] w (OneQ (.tuple #[.int .i64 (velCount d key now win), .int .i64 (velSum d key now win)]) w) := by
 have kT := Lib.hid (fun w1 => vtime_any now w1)
 obtain ⟨hb, hu⟩ := h
 obtain ⟨p, c, rfl⟩ := hu.form
 have y0 : w.cell? ⟨V, 0, none⟩ = some (.int .i64 d.hor) := (hb.cell 0).trans rfl
 have y2 : w.cell? ⟨V, 2, none⟩ = some (.slice p d.uses.length c) := (hb.cell 2).trans rfl
 by_cases c1 : win < 1
 · have d1 : decide (win < 1) = true := decide_eq_true c1
   have hV := Lib.hid (vel_out (d := d) (key := key) (now := now) (Or.inl c1 : win < 1 ∨ _))
   generalize velCount d key now win = N1 at *
   generalize velSum d key now win = N2 at *
   clear kT c1
   go_enter Tryz.func173, Tryz.ntmps173
   go_wp2
   go_ret2
   exact ⟨by rw [hV.out.1, hV.out.2]; rfl, xt⟩
 have d1 : decide (win < 1) = false := decide_eq_false c1
 by_cases c2 : d.hor < win
 · have d2 : decide (d.hor < win) = true := decide_eq_true c2
   have hV := Lib.hid (vel_out (d := d) (key := key) (now := now) (Or.inr (Or.inl c2) : win < 1 ∨ _))
   generalize velCount d key now win = N1 at *
   generalize velSum d key now win = N2 at *
   clear kT c1 c2
   go_enter Tryz.func173, Tryz.ntmps173
   go_wp2
   go_ret2
   exact ⟨by rw [hV.out.1, hV.out.2]; rfl, xt⟩
 have d2 : decide (d.hor < win) = false := decide_eq_false c2
 by_cases c3 : timeB now = false
 · have hV := Lib.hid (vel_out (d := d) (key := key) (now := now) (Or.inr (Or.inr c3) : win < 1 ∨ _))
   rw [c3] at kT
   generalize velCount d key now win = N1 at *
   generalize velSum d key now win = N2 at *
   clear c1 c2 c3
   go_enter Tryz.func173, Tryz.ntmps173
   go_wp2_with fail
   refine (kT.out _).mono ?_
   rintro e w1 ⟨rfl, rfl⟩
   go_wp2
   go_ret2
   exact ⟨by rw [hV.out.1, hV.out.2]; rfl, xt⟩
 have c4 : timeB now = true := by simpa using c3
 rw [c4] at kT
 have hV := Lib.hid (vel_in (d := d) (key := key) (now := now) (win := win) (by rintro (h | h | h); exact c1 h; exact c2 h; exact c3 h))
 obtain ⟨n0, n1⟩ := (timeB_iff now).1 c4
 have e1 : wrap64 (now - win) = now - win := by unfold wrap64; omega
 clear c1 c2 c3 c4
 generalize velCount d key now win = N1 at *
 generalize velSum d key now win = N2 at *
 obtain ⟨hor, last, l⟩ := d
 simp only at hb hu hh hl ha hV y0 y2 d2 ⊢
 replace hu := Lib.hid hu
 replace ha := Lib.hid ha
 clear hb
 go_enter Tryz.func173, Tryz.ntmps173
 go_wp2_with fail
 refine (kT.out _).mono ?_
 rintro e w1 ⟨rfl, rfl⟩
 clear kT d1 d2
 go_wp2_with fail
 go_loopw [10, 11, 38] (fun a b i wr => ∃ k : Nat, k ≤ l.length ∧ i = .int .i64 k ∧ a = .int .i64 (cntW key now win (l.take k)) ∧ b = .int .i64 (sumW key now win (l.take k)) ∧ Ext w1 wr) (fun _ _ i _ => l.length - (intOf i).toNat)
 case atStart => exact ⟨0, Nat.zero_le _, rfl, rfl, rfl, Ext.refl _⟩
 case round =>
  obtain ⟨k, hk, rfl, rfl, rfl, hE⟩ := hrel
  clear y0 y2
  by_cases hlt : k < l.length
  · have hs1 := cnt_snoc key now win (l.take k) (l.getD k useD)
    have hs2 := sum_snoc key now win (l.take k) (l.getD k useD)
    have b1 := cnt_bd key now win (l.take k)
    have b2 := sum_bd key now win (l.take k) (ha.out.take k)
    rw [← use_take hlt] at hs1 hs2
    rw [List.length_take, Nat.min_eq_left hk] at b1 b2
    have hae : 0 ≤ (l.getD k useD).amt ∧ (l.getD k useD).amt ≤ 999999999999 := ha.out _ (by rw [List.getD_eq_getElem?_getD, List.getElem?_eq_getElem hlt, Option.getD_some]; exact List.getElem_mem hlt)
    rcases hu.out.lie with ⟨-, hnil⟩ | ⟨g, cap, hv, -, hcap, hcm, hc⟩
    · rw [hnil] at hlt; cases hlt
    injection hv with hp1 hp2 hp3
    subst hp1 hp3
    obtain ⟨x0, x1, x2⟩ := hc k hlt
    replace x0 := hE.get x0
    replace x1 := hE.get x1
    replace x2 := hE.get x2
    clear hc
    generalize cntW key now win (l.take k) = C at *
    generalize sumW key now win (l.take k) = S at *
    generalize l.getD k useD = u at *
    have e2 : wrap64 (C + 1) = C + 1 := by unfold wrap64; omega
    have e3 : wrap64 (S + u.amt) = S + u.amt := by unfold wrap64; omega
    have i1 : decide ((k : Int) < (l.length : Int)) = true := decide_eq_true (by omega)
    by_cases g1 : u.key = key
    · have q1 := strEq g1
      by_cases g2 : now - win < u.t
      · have q2 : decide (now - win < u.t) = true := decide_eq_true g2
        by_cases g3 : u.t ≤ now
        · have q3 : decide (u.t ≤ now) = true := decide_eq_true g3
          have hb2 : inWin key now win u = true := by unfold inWin; rw [q2, q3, decide_eq_true g1]; rfl
          rw [hb2, if_pos rfl] at hs1 hs2
          replace hs1 := Lib.hid hs1
          replace hs2 := Lib.hid hs2
          subst g1
          clear hb2 b1 b2 hae g2 g3
          go_wp2
          go_roundw
          case rel => exact ⟨k + 1, by omega, by go_num, by rw [hs1.out, e2], by rw [hs2.out, e3], xt⟩
          case measure => simp [intOf]; omega
        · have q3 : decide (u.t ≤ now) = false := decide_eq_false g3
          have hb2 : inWin key now win u = false := by unfold inWin; rw [q3]; simp
          rw [hb2, if_neg (by simp)] at hs1 hs2
          replace hs1 := Lib.hid hs1
          replace hs2 := Lib.hid hs2
          clear hb2 b1 b2 hae e2 e3
          subst g1
          clear g2 g3
          go_wp2
          go_roundw
          case rel => exact ⟨k + 1, by omega, by go_num, by rw [hs1.out], by rw [hs2.out], xt⟩
          case measure => simp [intOf]; omega
      · have q2 : decide (now - win < u.t) = false := decide_eq_false g2
        have hb2 : inWin key now win u = false := by unfold inWin; rw [q2]; simp
        rw [hb2, if_neg (by simp)] at hs1 hs2
        replace hs1 := Lib.hid hs1
        replace hs2 := Lib.hid hs2
        clear hb2 b1 b2 hae e2 e3
        subst g1
        clear g2
        go_wp2
        go_roundw
        case rel => exact ⟨k + 1, by omega, by go_num, by rw [hs1.out], by rw [hs2.out], xt⟩
        case measure => simp [intOf]; omega
    · have q1 := strNe g1
      have q4 := bytes_ne g1
      have hb2 : inWin key now win u = false := by unfold inWin; rw [decide_eq_false g1]; rfl
      rw [hb2, if_neg (by simp)] at hs1 hs2
      replace hs1 := Lib.hid hs1
      replace hs2 := Lib.hid hs2
      clear hb2 b1 b2 hae e2 e3
      clear g1
      go_wp2
      go_roundw
      case rel => exact ⟨k + 1, by omega, by go_num, by rw [hs1.out], by rw [hs2.out], xt⟩
      case measure => simp [intOf]; omega
  · obtain rfl : k = l.length := by omega
    rw [List.take_length] at *
    have i1 : decide ((l.length : Int) < (l.length : Int)) = false := decide_eq_false (by omega)
    go_wp2
    go_ret2
    exact ⟨by rw [hV.out.1, hV.out.2]; rfl, xt⟩
set_option maxHeartbeats 1000000 in
theorem velCount_any (B V : Nat) (v : Value) (d : VelD) (key : ByteArray) (now win : Int) (w : World) (h : VelM w B V v d) (hh : 1 ≤ d.hor ∧ d.hor ≤ 10000000) (hl : d.uses.length ≤ 1000) (ha : AmtB d.uses) :
 Calls Tryz.prog 170 #[.pointer (some ⟨V, 0, none⟩), .string key, .int .i64 now, .int .i64 win] w (OneQ (.int .i64 (velCount d key now win)) w) := by
 have k := Lib.hid (velWithin_any B V v d key now win w h hh hl ha)
 clear h hh hl ha
 generalize velCount d key now win = N1 at *
 generalize velSum d key now win = N2 at *
 go_enter Tryz.func170, Tryz.ntmps170
 go_wp2_with fail
 refine k.out.mono ?_
 rintro e w1 ⟨rfl, hE⟩
 go_wp2
 go_ret
 exact ⟨rfl, xt⟩
set_option maxHeartbeats 1000000 in
theorem velSum_any (B V : Nat) (v : Value) (d : VelD) (key : ByteArray) (now win : Int) (w : World) (h : VelM w B V v d) (hh : 1 ≤ d.hor ∧ d.hor ≤ 10000000) (hl : d.uses.length ≤ 1000) (ha : AmtB d.uses) :
 Calls Tryz.prog 172 #[.pointer (some ⟨V, 0, none⟩), .string key, .int .i64 now, .int .i64 win] w (OneQ (.int .i64 (velSum d key now win)) w) := by
 have k := Lib.hid (velWithin_any B V v d key now win w h hh hl ha)
 clear h hh hl ha
 generalize velCount d key now win = N1 at *
 generalize velSum d key now win = N2 at *
 go_enter Tryz.func172, Tryz.ntmps172
 go_wp2_with fail
 refine k.out.mono ?_
 rintro e w1 ⟨rfl, hE⟩
 go_wp2
 go_ret
 exact ⟨rfl, xt⟩
end Go.Proofs.YtangdoidkcelfaaGreatDoor
