/- Contracts of the reference's Explain, SameFeatures, SameVerdict of layer 26 (walks; printed by gen/h50.py). -/
import Derived.Test.YtangdoidkcelfaaGreatDoorKy
import Derived.Test.YtangdoidkcelfaaGreatDoorKq
namespace Go.Proofs.YtangdoidkcelfaaGreatDoor
open Go.RowKit
set_option maxRecDepth 8000 in
set_option maxHeartbeats 8000000 in
theorem rexplain_any (v : VerD) (fv : Value) (w : World) (g : Gw w) (hK : KysM w fv v.fired) (h0 : -9223372036854775808 ≤ v.score) (h1 : v.score ≤ 9223372036854775807) (hl : v.fired.length ≤ 1000) (hz : ∀ s ∈ v.fired, s.size ≤ 1000000) : Calls Tryz.prog 9 #[.agg #[.int .i64 v.act, .int .i64 v.score, fv]] w (ExplP v w) := by
 obtain ⟨act, sc, fl⟩ := v
 simp only at hK h0 h1 hl hz ⊢
 obtain ⟨p, c, rfl, -, hcs⟩ := hK
 have kI := Lib.hid (fun w1 (h : Ext w w1) => fritoa_any sc h0 h1 w1 (g.ext h))
 unfold ItoP at kI
 have hfl := Lib.hid (frd_len fl hz)
 have hend := Lib.hid (fun r w' (hr : r.data.toList = explV ⟨act, sc, fl⟩) (hE : Ext w w') => show ExplP ⟨act, sc, fl⟩ w (.returned (.string r)) w' from ⟨r, rfl, hr, hE⟩)
 generalize ExplP ⟨act, sc, fl⟩ w = PP at *
 replace hcs := Lib.hid hcs
 have hz0 := hz
 replace hz := itoa_len20 sc h0 h1
 clear g
 by_cases a0 : act = 0
 · subst a0
   have hT := Lib.hid (show explV ⟨0, sc, fl⟩ = [112, 97, 115, 115, 32] ++ Lib.itoa sc ++ frdT fl from rfl)
   generalize explV ⟨0, sc, fl⟩ = T at *
   obtain ⟨ns, hns⟩ : ∃ ns : ByteArray, ns = ⟨(Lib.itoa sc).toArray⟩ := ⟨_, rfl⟩
   have hnl : Lib.itoa sc = ns.data.toList := by rw [hns]
   rw [← hns] at kI
   rw [hnl] at hT hz
   have hnz : ns.size ≤ 21 := by rw [← list_len]; exact hz
   clear hns hnl hz
   have q0 : ¬ 9223372036854775807 < 5 + ns.size := by omega
   go_enter Tryz.func9, Tryz.ntmps9
   go_wp2_with fail
   have hbx := Lib.hid (Blk.new w #[.int .i64 0, .int .i64 sc, .slice p fl.length c] 24)
   have hE1 : Ext w (w.alloc (.cells #[.int .i64 0, .int .i64 sc, .slice p fl.length c] 24)) := xt
   generalize (w.alloc (.cells #[.int .i64 0, .int .i64 sc, .slice p fl.length c] 24)) = w1 at *
   generalize w.heap.size = A at *
   refine (kI.out w1 hE1).mono ?_
   rintro e w2 ⟨rfl, hE2⟩
   have x2 : w2.cell? ⟨A, 2, none⟩ = some (.slice p fl.length c) := ((hbx.out.ext hE2).cell 2).trans rfl
   replace hE1 := hE1.trans hE2
   clear hE2 kI
   go_wp2_with fail
   clear hbx q0
   have hS0 : ((⟨#[112, 97, 115, 115, 32]⟩ : ByteArray) ++ ns).data.toList = [112, 97, 115, 115, 32] ++ ns.data.toList ++ frdT (fl.take 0) := by rw [app_list]; simp [frdT]
   generalize ((⟨#[112, 97, 115, 115, 32]⟩ : ByteArray) ++ ns) = S0 at *
   go_loopw [3, 4] (fun s i wr => ∃ (k : Nat) (S : ByteArray), k ≤ fl.length ∧ i = .int .i64 k ∧ s = .string S ∧ S.data.toList = [112, 97, 115, 115, 32] ++ ns.data.toList ++ frdT (fl.take k) ∧ Ext w2 wr) (fun _ i _ => fl.length - (intOf i).toNat)
   case atStart => exact ⟨0, S0, Nat.zero_le _, rfl, rfl, hS0, Ext.refl _⟩
   case round =>
    obtain ⟨k, S, hk, rfl, rfl, hS, hE⟩ := hrel
    clear hS0
    replace x2 := hE.get x2
    have hEr := hE1.trans hE
    have hfk := hfl.out k
    have hSl : S.size ≤ 1000 * 1000001 + 100 := by
     rw [← list_len, hS]
     simp only [List.length_append, List.length_cons, List.length_nil, list_len]
     have := Nat.mul_le_mul_right 1000001 (show k ≤ 1000 by omega)
     omega
    by_cases hlt : k < fl.length
    · obtain ⟨b1, off, rfl, hce⟩ := hcs.out (by omega)
      have c0 := hEr.get (hce k hlt)
      have hst := Lib.hid (frd_step hlt)
      have hnz2 : (fl.getD k ⟨#[]⟩).size ≤ 1000000 := hz0 _ (by rw [List.getD_eq_getElem?_getD, List.getElem?_eq_getElem hlt, Option.getD_some]; exact List.getElem_mem hlt)
      replace hS := Lib.hid hS
      clear hcs hce hfl hend hz0 hT hfk
      generalize frdT (fl.take k) = F1 at *
      generalize fl.getD k ⟨#[]⟩ = nm at *
      have q1 : ¬ 9223372036854775807 < 1 + nm.size := by omega
      have q2 : ¬ 9223372036854775807 < S.size + (1 + nm.size) := by omega
      go_wp2
      go_roundw
      case rel => exact ⟨k + 1, _, by omega, by go_num, rfl, by rw [hst.out, app_list, app_list, hS.out]; simp, hE⟩
      case measure => simp [intOf]; omega
    · obtain rfl : k = fl.length := by omega
      rw [List.take_length] at hS
      have hS2 := Lib.hid (show S.data.toList = T by rw [hS, hT.out])
      clear hcs hfl hz0 hS hfk hSl
      go_wp2
      try go_ret
      exact hend.out S _ hS2.out hEr
 by_cases a1 : act = 1
 · subst a1
   have hT := Lib.hid (show explV ⟨1, sc, fl⟩ = [114, 101, 102, 101, 114, 32] ++ Lib.itoa sc ++ frdT fl from rfl)
   generalize explV ⟨1, sc, fl⟩ = T at *
   obtain ⟨ns, hns⟩ : ∃ ns : ByteArray, ns = ⟨(Lib.itoa sc).toArray⟩ := ⟨_, rfl⟩
   have hnl : Lib.itoa sc = ns.data.toList := by rw [hns]
   rw [← hns] at kI
   rw [hnl] at hT hz
   have hnz : ns.size ≤ 21 := by rw [← list_len]; exact hz
   clear hns hnl hz
   have q0 : ¬ 9223372036854775807 < 6 + ns.size := by omega
   go_enter Tryz.func9, Tryz.ntmps9
   go_wp2_with fail
   have hbx := Lib.hid (Blk.new w #[.int .i64 1, .int .i64 sc, .slice p fl.length c] 24)
   have hE1 : Ext w (w.alloc (.cells #[.int .i64 1, .int .i64 sc, .slice p fl.length c] 24)) := xt
   generalize (w.alloc (.cells #[.int .i64 1, .int .i64 sc, .slice p fl.length c] 24)) = w1 at *
   generalize w.heap.size = A at *
   refine (kI.out w1 hE1).mono ?_
   rintro e w2 ⟨rfl, hE2⟩
   have x2 : w2.cell? ⟨A, 2, none⟩ = some (.slice p fl.length c) := ((hbx.out.ext hE2).cell 2).trans rfl
   replace hE1 := hE1.trans hE2
   clear hE2 kI
   go_wp2_with fail
   clear hbx q0
   have hS0 : ((⟨#[114, 101, 102, 101, 114, 32]⟩ : ByteArray) ++ ns).data.toList = [114, 101, 102, 101, 114, 32] ++ ns.data.toList ++ frdT (fl.take 0) := by rw [app_list]; simp [frdT]
   generalize ((⟨#[114, 101, 102, 101, 114, 32]⟩ : ByteArray) ++ ns) = S0 at *
   go_loopw [3, 4] (fun s i wr => ∃ (k : Nat) (S : ByteArray), k ≤ fl.length ∧ i = .int .i64 k ∧ s = .string S ∧ S.data.toList = [114, 101, 102, 101, 114, 32] ++ ns.data.toList ++ frdT (fl.take k) ∧ Ext w2 wr) (fun _ i _ => fl.length - (intOf i).toNat)
   case atStart => exact ⟨0, S0, Nat.zero_le _, rfl, rfl, hS0, Ext.refl _⟩
   case round =>
    obtain ⟨k, S, hk, rfl, rfl, hS, hE⟩ := hrel
    clear hS0
    replace x2 := hE.get x2
    have hEr := hE1.trans hE
    have hfk := hfl.out k
    have hSl : S.size ≤ 1000 * 1000001 + 100 := by
     rw [← list_len, hS]
     simp only [List.length_append, List.length_cons, List.length_nil, list_len]
     have := Nat.mul_le_mul_right 1000001 (show k ≤ 1000 by omega)
     omega
    by_cases hlt : k < fl.length
    · obtain ⟨b1, off, rfl, hce⟩ := hcs.out (by omega)
      have c0 := hEr.get (hce k hlt)
      have hst := Lib.hid (frd_step hlt)
      have hnz2 : (fl.getD k ⟨#[]⟩).size ≤ 1000000 := hz0 _ (by rw [List.getD_eq_getElem?_getD, List.getElem?_eq_getElem hlt, Option.getD_some]; exact List.getElem_mem hlt)
      replace hS := Lib.hid hS
      clear hcs hce hfl hend hz0 hT hfk
      generalize frdT (fl.take k) = F1 at *
      generalize fl.getD k ⟨#[]⟩ = nm at *
      have q1 : ¬ 9223372036854775807 < 1 + nm.size := by omega
      have q2 : ¬ 9223372036854775807 < S.size + (1 + nm.size) := by omega
      go_wp2
      go_roundw
      case rel => exact ⟨k + 1, _, by omega, by go_num, rfl, by rw [hst.out, app_list, app_list, hS.out]; simp, hE⟩
      case measure => simp [intOf]; omega
    · obtain rfl : k = fl.length := by omega
      rw [List.take_length] at hS
      have hS2 := Lib.hid (show S.data.toList = T by rw [hS, hT.out])
      clear hcs hfl hz0 hS hfk hSl
      go_wp2
      try go_ret
      exact hend.out S _ hS2.out hEr
 by_cases a2 : act = 2
 · subst a2
   have hT := Lib.hid (show explV ⟨2, sc, fl⟩ = [100, 101, 99, 108, 105, 110, 101, 32] ++ Lib.itoa sc ++ frdT fl from rfl)
   generalize explV ⟨2, sc, fl⟩ = T at *
   obtain ⟨ns, hns⟩ : ∃ ns : ByteArray, ns = ⟨(Lib.itoa sc).toArray⟩ := ⟨_, rfl⟩
   have hnl : Lib.itoa sc = ns.data.toList := by rw [hns]
   rw [← hns] at kI
   rw [hnl] at hT hz
   have hnz : ns.size ≤ 21 := by rw [← list_len]; exact hz
   clear hns hnl hz
   have q0 : ¬ 9223372036854775807 < 8 + ns.size := by omega
   go_enter Tryz.func9, Tryz.ntmps9
   go_wp2_with fail
   have hbx := Lib.hid (Blk.new w #[.int .i64 2, .int .i64 sc, .slice p fl.length c] 24)
   have hE1 : Ext w (w.alloc (.cells #[.int .i64 2, .int .i64 sc, .slice p fl.length c] 24)) := xt
   generalize (w.alloc (.cells #[.int .i64 2, .int .i64 sc, .slice p fl.length c] 24)) = w1 at *
   generalize w.heap.size = A at *
   refine (kI.out w1 hE1).mono ?_
   rintro e w2 ⟨rfl, hE2⟩
   have x2 : w2.cell? ⟨A, 2, none⟩ = some (.slice p fl.length c) := ((hbx.out.ext hE2).cell 2).trans rfl
   replace hE1 := hE1.trans hE2
   clear hE2 kI
   go_wp2_with fail
   clear hbx q0
   have hS0 : ((⟨#[100, 101, 99, 108, 105, 110, 101, 32]⟩ : ByteArray) ++ ns).data.toList = [100, 101, 99, 108, 105, 110, 101, 32] ++ ns.data.toList ++ frdT (fl.take 0) := by rw [app_list]; simp [frdT]
   generalize ((⟨#[100, 101, 99, 108, 105, 110, 101, 32]⟩ : ByteArray) ++ ns) = S0 at *
   go_loopw [3, 4] (fun s i wr => ∃ (k : Nat) (S : ByteArray), k ≤ fl.length ∧ i = .int .i64 k ∧ s = .string S ∧ S.data.toList = [100, 101, 99, 108, 105, 110, 101, 32] ++ ns.data.toList ++ frdT (fl.take k) ∧ Ext w2 wr) (fun _ i _ => fl.length - (intOf i).toNat)
   case atStart => exact ⟨0, S0, Nat.zero_le _, rfl, rfl, hS0, Ext.refl _⟩
   case round =>
    obtain ⟨k, S, hk, rfl, rfl, hS, hE⟩ := hrel
    clear hS0
    replace x2 := hE.get x2
    have hEr := hE1.trans hE
    have hfk := hfl.out k
    have hSl : S.size ≤ 1000 * 1000001 + 100 := by
     rw [← list_len, hS]
     simp only [List.length_append, List.length_cons, List.length_nil, list_len]
     have := Nat.mul_le_mul_right 1000001 (show k ≤ 1000 by omega)
     omega
    by_cases hlt : k < fl.length
    · obtain ⟨b1, off, rfl, hce⟩ := hcs.out (by omega)
      have c0 := hEr.get (hce k hlt)
      have hst := Lib.hid (frd_step hlt)
      have hnz2 : (fl.getD k ⟨#[]⟩).size ≤ 1000000 := hz0 _ (by rw [List.getD_eq_getElem?_getD, List.getElem?_eq_getElem hlt, Option.getD_some]; exact List.getElem_mem hlt)
      replace hS := Lib.hid hS
      clear hcs hce hfl hend hz0 hT hfk
      generalize frdT (fl.take k) = F1 at *
      generalize fl.getD k ⟨#[]⟩ = nm at *
      have q1 : ¬ 9223372036854775807 < 1 + nm.size := by omega
      have q2 : ¬ 9223372036854775807 < S.size + (1 + nm.size) := by omega
      go_wp2
      go_roundw
      case rel => exact ⟨k + 1, _, by omega, by go_num, rfl, by rw [hst.out, app_list, app_list, hS.out]; simp, hE⟩
      case measure => simp [intOf]; omega
    · obtain rfl : k = fl.length := by omega
      rw [List.take_length] at hS
      have hS2 := Lib.hid (show S.data.toList = T by rw [hS, hT.out])
      clear hcs hfl hz0 hS hfk hSl
      go_wp2
      try go_ret
      exact hend.out S _ hS2.out hEr
 · have d0 : (act == 0) = false := by simpa using a0
   have d1 : (act == 1) = false := by simpa using a1
   have d2 : (act == 2) = false := by simpa using a2
   have hT := Lib.hid (show ([] : List UInt8) = explV ⟨act, sc, fl⟩ by unfold explV; rw [if_neg (by rintro (h | h | h); exact a0 h; exact a1 h; exact a2 h)])
   clear a0 a1 a2 kI hcs hfl hz h0 h1 hl hz0
   go_enter Tryz.func9, Tryz.ntmps9
   go_wp2
   try go_ret
   exact hend.out ⟨#[]⟩ _ hT.out xt
end Go.Proofs.YtangdoidkcelfaaGreatDoor
