/- The contract of the reference's Explain of layer 38 (walk; printed by gen/h20.py). -/
import Derived.Test.YtmnhmkjmcckneaaGreatDoorIa
import Derived.Test.YtmnhmkjmcckneaaGreatDoorIc
import Derived.Test.YtmnhmkjmcckneaaGreatDoorHx
import Derived.Deep.QuietTactic
import Derived.BigQuiet
namespace Go.Proofs.YtmnhmkjmcckneaaGreatDoor
open Go.RowKit
theorem rdec_same (n : Int) (w : World) (h : I64 n) : Calls Tryz.prog 48 #[.int .i64 n] w fun e w' => e = .returned (.string ⟨(Lib.itoa n).toArray⟩) ∧ w' = w :=
  (rdec_any n w h.1 h.2).mono fun e w' ⟨r, he, hr, hw⟩ => ⟨by
    have : r = ⟨(Lib.itoa n).toArray⟩ := by rw [← hr]
    rw [he, this], hw⟩
/-- The first k parts. -/
def preL (l : List (List UInt8)) (k : Nat) : List UInt8 := (l.take k).flatten
theorem fee_next {word word32 rule why D : ByteArray} {amt : Int} (hw : word32.data.toList = word.data.toList ++ [32]) (hD : D.data.toList = Lib.itoa amt) :
    (∀ t : ByteArray, why.size = 0 → (t ++ word32 ++ rule ++ ⟨#[32]⟩ ++ D ++ ⟨#[10]⟩).data.toList = t.data.toList ++ feeT word ⟨rule, amt, why⟩) ∧ (∀ t : ByteArray, ¬ why.size = 0 → (t ++ word32 ++ rule ++ ⟨#[32]⟩ ++ D ++ becS ++ why ++ ⟨#[10]⟩).data.toList = t.data.toList ++ feeT word ⟨rule, amt, why⟩) := by
  refine ⟨fun t h => ?_, fun t h => ?_⟩
  · simp only [app_list, feeT, if_pos h, hw, hD, List.append_assoc, List.nil_append]
  · simp only [app_list, feeT, if_neg h, hw, hD, List.append_assoc]
theorem par_next {word word32 D : ByteArray} {n : Int} (hw : word32.data.toList = word.data.toList ++ [32]) (hD : D.data.toList = Lib.itoa n) (t : ByteArray) : (t ++ word32 ++ D ++ ⟨#[10]⟩).data.toList = t.data.toList ++ parT word n := by
  simp only [app_list, parT, hw, hD, List.append_assoc]
theorem preL_len {T0 T1 T2 : List UInt8} {k : Nat} {t : ByteArray} (n0 : T0.length ≤ 20000000300) (n1 : T1.length ≤ 20000000300) (n2 : T2.length ≤ 20000000300) (h : t.data.toList = preL [T0, T1, T2] k) (hk : k ≤ 3) : t.size ≤ 70000000000 := by
  rw [← list_len, h]
  have hc : k = 0 ∨ k = 1 ∨ k = 2 ∨ k = 3 := by omega
  rcases hc with rfl | rfl | rfl | rfl <;> simp [preL] <;> omega
theorem preP_len {S T3 T4 T5 T6 T7 : List UInt8} {k : Nat} {t : ByteArray} (m0 : S.length ≤ 70000000000) (n3 : T3.length ≤ 200) (n4 : T4.length ≤ 200) (n5 : T5.length ≤ 200) (n6 : T6.length ≤ 200) (n7 : T7.length ≤ 200) (h : t.data.toList = S ++ preL [T3, T4, T5, T6, T7] k) (hk : k ≤ 5) : t.size ≤ 70000010000 := by
  rw [← list_len, h, List.length_append]
  have hc : k = 0 ∨ k = 1 ∨ k = 2 ∨ k = 3 ∨ k = 4 ∨ k = 5 := by omega
  rcases hc with rfl | rfl | rfl | rfl | rfl | rfl <;> simp [preL] <;> omega
theorem dec_ba (n : Int) (h : I64 n) : ((⟨(Lib.itoa n).toArray⟩ : ByteArray).data.toList = Lib.itoa n) ∧ (⟨(Lib.itoa n).toArray⟩ : ByteArray).size ≤ 21 := by
  have := itoa_len20 n h.1 h.2
  refine ⟨rfl, ?_⟩
  rw [← list_len]
  exact this
set_option maxRecDepth 8000 in
set_option maxHeartbeats 8000000 in
theorem rexplain_any (x : ResD) (w : World) (ok : ResOk x) : Calls Tryz.prog 22 #[resAgg x] w fun e w' => ∃ r : ByteArray, e = .returned (.string r) ∧ r.data.toList = explT x ∧ Ext w w' := by
  have kD0 := Lib.hid (fun w1 => rdec_same x.i.amt w1 ok.i.amt)
  obtain ⟨hD0, D0z⟩ := dec_ba x.i.amt ok.i.amt
  generalize (⟨(Lib.itoa (x.i.amt)).toArray⟩ : ByteArray) = D0 at kD0 hD0 D0z
  have kD1 := Lib.hid (fun w1 => rdec_same x.s.amt w1 ok.s.amt)
  obtain ⟨hD1, D1z⟩ := dec_ba x.s.amt ok.s.amt
  generalize (⟨(Lib.itoa (x.s.amt)).toArray⟩ : ByteArray) = D1 at kD1 hD1 D1z
  have kD2 := Lib.hid (fun w1 => rdec_same x.m.amt w1 ok.m.amt)
  obtain ⟨hD2, D2z⟩ := dec_ba x.m.amt ok.m.amt
  generalize (⟨(Lib.itoa (x.m.amt)).toArray⟩ : ByteArray) = D2 at kD2 hD2 D2z
  have kD3 := Lib.hid (fun w1 => rdec_same x.card w1 ok.card)
  obtain ⟨hD3, D3z⟩ := dec_ba x.card ok.card
  generalize (⟨(Lib.itoa (x.card)).toArray⟩ : ByteArray) = D3 at kD3 hD3 D3z
  have kD4 := Lib.hid (fun w1 => rdec_same x.iss w1 ok.iss)
  obtain ⟨hD4, D4z⟩ := dec_ba x.iss ok.iss
  generalize (⟨(Lib.itoa (x.iss)).toArray⟩ : ByteArray) = D4 at kD4 hD4 D4z
  have kD5 := Lib.hid (fun w1 => rdec_same x.acq w1 ok.acq)
  obtain ⟨hD5, D5z⟩ := dec_ba x.acq ok.acq
  generalize (⟨(Lib.itoa (x.acq)).toArray⟩ : ByteArray) = D5 at kD5 hD5 D5z
  have kD6 := Lib.hid (fun w1 => rdec_same x.shop w1 ok.shop)
  obtain ⟨hD6, D6z⟩ := dec_ba x.shop ok.shop
  generalize (⟨(Lib.itoa (x.shop)).toArray⟩ : ByteArray) = D6 at kD6 hD6 D6z
  have kD7 := Lib.hid (fun w1 => rdec_same x.net w1 ok.net)
  obtain ⟨hD7, D7z⟩ := dec_ba x.net ok.net
  generalize (⟨(Lib.itoa (x.net)).toArray⟩ : ByteArray) = D7 at kD7 hD7 D7z
  have n0 := feeT_len (word := ⟨#[105, 110, 116, 101, 114, 99, 104, 97, 110, 103, 101]⟩) (x := x.i) (by decide) ok.i.rule ok.i.why ok.i.amt.1 ok.i.amt.2
  have hT0 := Lib.hid (fee_next (word := ⟨#[105, 110, 116, 101, 114, 99, 104, 97, 110, 103, 101]⟩) (word32 := ⟨#[105, 110, 116, 101, 114, 99, 104, 97, 110, 103, 101, 32]⟩) (rule := x.i.rule) (why := x.i.why) rfl hD0)
  have r0z := ok.i.rule
  have y0z := ok.i.why
  have n1 := feeT_len (word := ⟨#[115, 99, 104, 101, 109, 101]⟩) (x := x.s) (by decide) ok.s.rule ok.s.why ok.s.amt.1 ok.s.amt.2
  have hT1 := Lib.hid (fee_next (word := ⟨#[115, 99, 104, 101, 109, 101]⟩) (word32 := ⟨#[115, 99, 104, 101, 109, 101, 32]⟩) (rule := x.s.rule) (why := x.s.why) rfl hD1)
  have r1z := ok.s.rule
  have y1z := ok.s.why
  have n2 := feeT_len (word := ⟨#[109, 101, 114, 99, 104, 97, 110, 116]⟩) (x := x.m) (by decide) ok.m.rule ok.m.why ok.m.amt.1 ok.m.amt.2
  have hT2 := Lib.hid (fee_next (word := ⟨#[109, 101, 114, 99, 104, 97, 110, 116]⟩) (word32 := ⟨#[109, 101, 114, 99, 104, 97, 110, 116, 32]⟩) (rule := x.m.rule) (why := x.m.why) rfl hD2)
  have r2z := ok.m.rule
  have y2z := ok.m.why
  have n3 := parT_len (word := ⟨#[99, 97, 114, 100, 104, 111, 108, 100, 101, 114]⟩) (n := x.card) (by decide) ok.card.1 ok.card.2
  have hT3 := Lib.hid (par_next (word := ⟨#[99, 97, 114, 100, 104, 111, 108, 100, 101, 114]⟩) (word32 := ⟨#[99, 97, 114, 100, 104, 111, 108, 100, 101, 114, 32]⟩) rfl hD3)
  have n4 := parT_len (word := ⟨#[105, 115, 115, 117, 101, 114]⟩) (n := x.iss) (by decide) ok.iss.1 ok.iss.2
  have hT4 := Lib.hid (par_next (word := ⟨#[105, 115, 115, 117, 101, 114]⟩) (word32 := ⟨#[105, 115, 115, 117, 101, 114, 32]⟩) rfl hD4)
  have n5 := parT_len (word := ⟨#[97, 99, 113, 117, 105, 114, 101, 114]⟩) (n := x.acq) (by decide) ok.acq.1 ok.acq.2
  have hT5 := Lib.hid (par_next (word := ⟨#[97, 99, 113, 117, 105, 114, 101, 114]⟩) (word32 := ⟨#[97, 99, 113, 117, 105, 114, 101, 114, 32]⟩) rfl hD5)
  have n6 := parT_len (word := ⟨#[115, 104, 111, 112]⟩) (n := x.shop) (by decide) ok.shop.1 ok.shop.2
  have hT6 := Lib.hid (par_next (word := ⟨#[115, 104, 111, 112]⟩) (word32 := ⟨#[115, 104, 111, 112, 32]⟩) rfl hD6)
  have n7 := parT_len (word := ⟨#[110, 101, 116, 119, 111, 114, 107]⟩) (n := x.net) (by decide) ok.net.1 ok.net.2
  have hT7 := Lib.hid (par_next (word := ⟨#[110, 101, 116, 119, 111, 114, 107]⟩) (word32 := ⟨#[110, 101, 116, 119, 111, 114, 107, 32]⟩) rfl hD7)
  have hT := Lib.hid (show explT x = feeT ⟨#[105, 110, 116, 101, 114, 99, 104, 97, 110, 103, 101]⟩ x.i ++ feeT ⟨#[115, 99, 104, 101, 109, 101]⟩ x.s ++ feeT ⟨#[109, 101, 114, 99, 104, 97, 110, 116]⟩ x.m ++ parT ⟨#[99, 97, 114, 100, 104, 111, 108, 100, 101, 114]⟩ x.card ++ parT ⟨#[105, 115, 115, 117, 101, 114]⟩ x.iss ++ parT ⟨#[97, 99, 113, 117, 105, 114, 101, 114]⟩ x.acq ++ parT ⟨#[115, 104, 111, 112]⟩ x.shop ++ parT ⟨#[110, 101, 116, 119, 111, 114, 107]⟩ x.net from rfl)
  generalize explT x = T at *
  change Hid ((∀ t : ByteArray, x.i.why.size = 0 → _ = t.data.toList ++ feeT ⟨#[105, 110, 116, 101, 114, 99, 104, 97, 110, 103, 101]⟩ x.i) ∧ (∀ t : ByteArray, ¬ x.i.why.size = 0 → _ = t.data.toList ++ feeT ⟨#[105, 110, 116, 101, 114, 99, 104, 97, 110, 103, 101]⟩ x.i)) at hT0
  generalize feeT ⟨#[105, 110, 116, 101, 114, 99, 104, 97, 110, 103, 101]⟩ x.i = T0 at *
  change Hid ((∀ t : ByteArray, x.s.why.size = 0 → _ = t.data.toList ++ feeT ⟨#[115, 99, 104, 101, 109, 101]⟩ x.s) ∧ (∀ t : ByteArray, ¬ x.s.why.size = 0 → _ = t.data.toList ++ feeT ⟨#[115, 99, 104, 101, 109, 101]⟩ x.s)) at hT1
  generalize feeT ⟨#[115, 99, 104, 101, 109, 101]⟩ x.s = T1 at *
  change Hid ((∀ t : ByteArray, x.m.why.size = 0 → _ = t.data.toList ++ feeT ⟨#[109, 101, 114, 99, 104, 97, 110, 116]⟩ x.m) ∧ (∀ t : ByteArray, ¬ x.m.why.size = 0 → _ = t.data.toList ++ feeT ⟨#[109, 101, 114, 99, 104, 97, 110, 116]⟩ x.m)) at hT2
  generalize feeT ⟨#[109, 101, 114, 99, 104, 97, 110, 116]⟩ x.m = T2 at *
  generalize parT ⟨#[99, 97, 114, 100, 104, 111, 108, 100, 101, 114]⟩ x.card = T3 at *
  generalize parT ⟨#[105, 115, 115, 117, 101, 114]⟩ x.iss = T4 at *
  generalize parT ⟨#[97, 99, 113, 117, 105, 114, 101, 114]⟩ x.acq = T5 at *
  generalize parT ⟨#[115, 104, 111, 112]⟩ x.shop = T6 at *
  generalize parT ⟨#[110, 101, 116, 119, 111, 114, 107]⟩ x.net = T7 at *
  have kP := Lib.hid (fun w1 => rparties_any x w1)
  clear ok hD0 hD1 hD2 hD3 hD4 hD5 hD6 hD7
  have m0 : (T0 ++ T1 ++ T2).length ≤ 70000000000 := by rw [List.length_append, List.length_append]; omega
  unfold resAgg at kP ⊢
  go_enter Tryz.func22, Tryz.ntmps22
  go_wp2_with fail
  have hX := Lib.hid ((Blk.new w #[.string x.i.rule, .int .i64 x.i.amt, .string x.i.why, .string x.s.rule, .int .i64 x.s.amt, .string x.s.why, .string x.m.rule, .int .i64 x.m.amt, .string x.m.why, .int .i64 x.card, .int .i64 x.iss, .int .i64 x.acq, .int .i64 x.shop, .int .i64 x.net] 39).alloc (.cells #[.string x.i.rule, .int .i64 x.i.amt, .string x.i.why, .string x.s.rule, .int .i64 x.s.amt, .string x.s.why, .string x.m.rule, .int .i64 x.m.amt, .string x.m.why] 72))
  have hF : Blk ((w.alloc (.cells #[.string x.i.rule, .int .i64 x.i.amt, .string x.i.why, .string x.s.rule, .int .i64 x.s.amt, .string x.s.why, .string x.m.rule, .int .i64 x.m.amt, .string x.m.why, .int .i64 x.card, .int .i64 x.iss, .int .i64 x.acq, .int .i64 x.shop, .int .i64 x.net] 39)).alloc (.cells #[.string x.i.rule, .int .i64 x.i.amt, .string x.i.why, .string x.s.rule, .int .i64 x.s.amt, .string x.s.why, .string x.m.rule, .int .i64 x.m.amt, .string x.m.why] 72)) (w.heap.size + 1) #[.string x.i.rule, .int .i64 x.i.amt, .string x.i.why, .string x.s.rule, .int .i64 x.s.amt, .string x.s.why, .string x.m.rule, .int .i64 x.m.amt, .string x.m.why] 72 := Blk.new' _ _ _ _ (by simp)
  have hE0 : Ext w ((w.alloc (.cells #[.string x.i.rule, .int .i64 x.i.amt, .string x.i.why, .string x.s.rule, .int .i64 x.s.amt, .string x.s.why, .string x.m.rule, .int .i64 x.m.amt, .string x.m.why, .int .i64 x.card, .int .i64 x.iss, .int .i64 x.acq, .int .i64 x.shop, .int .i64 x.net] 39)).alloc (.cells #[.string x.i.rule, .int .i64 x.i.amt, .string x.i.why, .string x.s.rule, .int .i64 x.s.amt, .string x.s.why, .string x.m.rule, .int .i64 x.m.amt, .string x.m.why] 72)) := (by repeat (first | with_reducible exact Ext.refl _ | with_reducible exact hE0 | with_reducible exact hE | with_reducible refine Ext.alloc ?_ _ | with_reducible refine Ext.drewN ?_ _ | with_reducible refine Ext.drew ?_ | ((with_reducible refine Ext.setCell ?_ ?side _); (case side => first | exact Nat.le_refl _ | (simp; done) | (simp; omega)))))
  replace hF := Lib.hid hF
  generalize (w.alloc (.cells #[.string x.i.rule, .int .i64 x.i.amt, .string x.i.why, .string x.s.rule, .int .i64 x.s.amt, .string x.s.why, .string x.m.rule, .int .i64 x.m.amt, .string x.m.why, .int .i64 x.card, .int .i64 x.iss, .int .i64 x.acq, .int .i64 x.shop, .int .i64 x.net] 39)).alloc (.cells #[.string x.i.rule, .int .i64 x.i.amt, .string x.i.why, .string x.s.rule, .int .i64 x.s.amt, .string x.s.why, .string x.m.rule, .int .i64 x.m.amt, .string x.m.why] 72) = w0 at *
  obtain ⟨BF, hBF⟩ : ∃ BF, BF = w.heap.size + 1 := ⟨_, rfl⟩
  obtain ⟨BX, hBX⟩ : ∃ BX, BX = w.heap.size := ⟨_, rfl⟩
  rw [← hBF] at hF ⊢
  rw [← hBX] at hX ⊢
  clear hBF hBX
  go_loopw [3, 5] (fun s i wr => ∃ (k : Nat) (t : ByteArray), k ≤ 3 ∧ i = .int .i64 k ∧ s = .string t ∧ t.data.toList = preL [T0, T1, T2] k ∧ Ext w0 wr) (fun _ i _ => 3 - (intOf i).toNat)
  case atStart => exact ⟨0, ⟨#[]⟩, by omega, rfl, rfl, rfl, Ext.refl _⟩
  case round =>
    obtain ⟨k, t, hk, rfl, rfl, ht, hE⟩ := hrel
    have hcase : k = 0 ∨ k = 1 ∨ k = 2 ∨ k = 3 := by omega
    clear hk
    rcases hcase with rfl | rfl | rfl | rfl
    · have ht2 := preL_len (k := 0) n0 n1 n2 ht (by omega)
      have hln := Lib.hid (fun u (h : u = t.data.toList ++ T0) => (h.trans (by rw [ht]; simp [preL]) : u = preL [T0, T1, T2] 1))
      clear ht
      have c0 : wr.cell? ⟨BF, 0, none⟩ = some (.string x.i.rule) := ((hF.out.ext hE).cell 0).trans rfl
      have c1 : wr.cell? ⟨BF, 1, none⟩ = some (.int .i64 x.i.amt) := ((hF.out.ext hE).cell 1).trans rfl
      have c2 : wr.cell? ⟨BF, 2, none⟩ = some (.string x.i.why) := ((hF.out.ext hE).cell 2).trans rfl
      have z0 : ¬ 9223372036854775807 < t.size + 12 := by omega
      have z1 : ¬ 9223372036854775807 < t.size + 12 + x.i.rule.size := by omega
      have z2 : ¬ 9223372036854775807 < t.size + 12 + x.i.rule.size + 1 := by omega
      have z3 : ¬ 9223372036854775807 < t.size + 12 + x.i.rule.size + 1 + D0.size := by omega
      have ix : ∀ w, Sem.run Tryz.prog (Instr.index 99 (.agg #[.string ⟨#[105, 110, 116, 101, 114, 99, 104, 97, 110, 103, 101, 32]⟩, .string ⟨#[115, 99, 104, 101, 109, 101, 32]⟩, .string ⟨#[109, 101, 114, 99, 104, 97, 110, 116, 32]⟩]) (.int .i64 0)) w = .ok (.string ⟨#[105, 110, 116, 101, 114, 99, 104, 97, 110, 103, 101, 32]⟩) w := fun w => by simp [Instr.index, go_sem]
      go_wp2_with fail
      go_quiet (first | (go_at_call 48; exact Calls.quiet_of_same (kD0.out _)))
      by_cases hz : x.i.why.size = 0
      · have e0 := emp_list hz
        have hfn := Lib.hid (hT0.out.1 t hz)
        have z4 : ¬ 9223372036854775807 < t.size + 12 + x.i.rule.size + 1 + D0.size + 1 := by omega
        clear hz
        go_wp2
        go_roundw
        case rel => exact ⟨1, _, by omega, by go_num, rfl, hln.out _ hfn.out, (by repeat (first | with_reducible exact Ext.refl _ | with_reducible exact hE0 | with_reducible exact hE | with_reducible refine Ext.alloc ?_ _ | with_reducible refine Ext.drewN ?_ _ | with_reducible refine Ext.drew ?_ | ((with_reducible refine Ext.setCell ?_ ?side _); (case side => first | exact Nat.le_refl _ | (simp; done) | (simp; omega)))))⟩
        case measure => simp [intOf]
      · have e0 := ne_list hz
        have e1 := ne_isE hz
        have hfn := Lib.hid (hT0.out.2 t hz)
        have z4 : ¬ 9223372036854775807 < t.size + 12 + x.i.rule.size + 1 + D0.size + 9 := by omega
        have z5 : ¬ 9223372036854775807 < t.size + 12 + x.i.rule.size + 1 + D0.size + 9 + x.i.why.size := by omega
        have z6 : ¬ 9223372036854775807 < t.size + 12 + x.i.rule.size + 1 + D0.size + 9 + x.i.why.size + 1 := by omega
        clear hz
        go_wp2
        go_roundw
        case rel => exact ⟨1, _, by omega, by go_num, rfl, hln.out _ hfn.out, (by repeat (first | with_reducible exact Ext.refl _ | with_reducible exact hE0 | with_reducible exact hE | with_reducible refine Ext.alloc ?_ _ | with_reducible refine Ext.drewN ?_ _ | with_reducible refine Ext.drew ?_ | ((with_reducible refine Ext.setCell ?_ ?side _); (case side => first | exact Nat.le_refl _ | (simp; done) | (simp; omega)))))⟩
        case measure => simp [intOf]
    · have ht2 := preL_len (k := 1) n0 n1 n2 ht (by omega)
      have hln := Lib.hid (fun u (h : u = t.data.toList ++ T1) => (h.trans (by rw [ht]; simp [preL]) : u = preL [T0, T1, T2] 2))
      clear ht
      have c3 : wr.cell? ⟨BF, 3, none⟩ = some (.string x.s.rule) := ((hF.out.ext hE).cell 3).trans rfl
      have c4 : wr.cell? ⟨BF, 4, none⟩ = some (.int .i64 x.s.amt) := ((hF.out.ext hE).cell 4).trans rfl
      have c5 : wr.cell? ⟨BF, 5, none⟩ = some (.string x.s.why) := ((hF.out.ext hE).cell 5).trans rfl
      have z0 : ¬ 9223372036854775807 < t.size + 7 := by omega
      have z1 : ¬ 9223372036854775807 < t.size + 7 + x.s.rule.size := by omega
      have z2 : ¬ 9223372036854775807 < t.size + 7 + x.s.rule.size + 1 := by omega
      have z3 : ¬ 9223372036854775807 < t.size + 7 + x.s.rule.size + 1 + D1.size := by omega
      have ix : ∀ w, Sem.run Tryz.prog (Instr.index 99 (.agg #[.string ⟨#[105, 110, 116, 101, 114, 99, 104, 97, 110, 103, 101, 32]⟩, .string ⟨#[115, 99, 104, 101, 109, 101, 32]⟩, .string ⟨#[109, 101, 114, 99, 104, 97, 110, 116, 32]⟩]) (.int .i64 1)) w = .ok (.string ⟨#[115, 99, 104, 101, 109, 101, 32]⟩) w := fun w => by simp [Instr.index, go_sem]
      go_wp2_with fail
      go_quiet (first | (go_at_call 48; exact Calls.quiet_of_same (kD1.out _)))
      by_cases hz : x.s.why.size = 0
      · have e0 := emp_list hz
        have hfn := Lib.hid (hT1.out.1 t hz)
        have z4 : ¬ 9223372036854775807 < t.size + 7 + x.s.rule.size + 1 + D1.size + 1 := by omega
        clear hz
        go_wp2
        go_roundw
        case rel => exact ⟨2, _, by omega, by go_num, rfl, hln.out _ hfn.out, (by repeat (first | with_reducible exact Ext.refl _ | with_reducible exact hE0 | with_reducible exact hE | with_reducible refine Ext.alloc ?_ _ | with_reducible refine Ext.drewN ?_ _ | with_reducible refine Ext.drew ?_ | ((with_reducible refine Ext.setCell ?_ ?side _); (case side => first | exact Nat.le_refl _ | (simp; done) | (simp; omega)))))⟩
        case measure => simp [intOf]
      · have e0 := ne_list hz
        have e1 := ne_isE hz
        have hfn := Lib.hid (hT1.out.2 t hz)
        have z4 : ¬ 9223372036854775807 < t.size + 7 + x.s.rule.size + 1 + D1.size + 9 := by omega
        have z5 : ¬ 9223372036854775807 < t.size + 7 + x.s.rule.size + 1 + D1.size + 9 + x.s.why.size := by omega
        have z6 : ¬ 9223372036854775807 < t.size + 7 + x.s.rule.size + 1 + D1.size + 9 + x.s.why.size + 1 := by omega
        clear hz
        go_wp2
        go_roundw
        case rel => exact ⟨2, _, by omega, by go_num, rfl, hln.out _ hfn.out, (by repeat (first | with_reducible exact Ext.refl _ | with_reducible exact hE0 | with_reducible exact hE | with_reducible refine Ext.alloc ?_ _ | with_reducible refine Ext.drewN ?_ _ | with_reducible refine Ext.drew ?_ | ((with_reducible refine Ext.setCell ?_ ?side _); (case side => first | exact Nat.le_refl _ | (simp; done) | (simp; omega)))))⟩
        case measure => simp [intOf]
    · have ht2 := preL_len (k := 2) n0 n1 n2 ht (by omega)
      have hln := Lib.hid (fun u (h : u = t.data.toList ++ T2) => (h.trans (by rw [ht]; simp [preL]) : u = preL [T0, T1, T2] 3))
      clear ht
      have c6 : wr.cell? ⟨BF, 6, none⟩ = some (.string x.m.rule) := ((hF.out.ext hE).cell 6).trans rfl
      have c7 : wr.cell? ⟨BF, 7, none⟩ = some (.int .i64 x.m.amt) := ((hF.out.ext hE).cell 7).trans rfl
      have c8 : wr.cell? ⟨BF, 8, none⟩ = some (.string x.m.why) := ((hF.out.ext hE).cell 8).trans rfl
      have z0 : ¬ 9223372036854775807 < t.size + 9 := by omega
      have z1 : ¬ 9223372036854775807 < t.size + 9 + x.m.rule.size := by omega
      have z2 : ¬ 9223372036854775807 < t.size + 9 + x.m.rule.size + 1 := by omega
      have z3 : ¬ 9223372036854775807 < t.size + 9 + x.m.rule.size + 1 + D2.size := by omega
      have ix : ∀ w, Sem.run Tryz.prog (Instr.index 99 (.agg #[.string ⟨#[105, 110, 116, 101, 114, 99, 104, 97, 110, 103, 101, 32]⟩, .string ⟨#[115, 99, 104, 101, 109, 101, 32]⟩, .string ⟨#[109, 101, 114, 99, 104, 97, 110, 116, 32]⟩]) (.int .i64 2)) w = .ok (.string ⟨#[109, 101, 114, 99, 104, 97, 110, 116, 32]⟩) w := fun w => by simp [Instr.index, go_sem]
      go_wp2_with fail
      go_quiet (first | (go_at_call 48; exact Calls.quiet_of_same (kD2.out _)))
      by_cases hz : x.m.why.size = 0
      · have e0 := emp_list hz
        have hfn := Lib.hid (hT2.out.1 t hz)
        have z4 : ¬ 9223372036854775807 < t.size + 9 + x.m.rule.size + 1 + D2.size + 1 := by omega
        clear hz
        go_wp2
        go_roundw
        case rel => exact ⟨3, _, by omega, by go_num, rfl, hln.out _ hfn.out, (by repeat (first | with_reducible exact Ext.refl _ | with_reducible exact hE0 | with_reducible exact hE | with_reducible refine Ext.alloc ?_ _ | with_reducible refine Ext.drewN ?_ _ | with_reducible refine Ext.drew ?_ | ((with_reducible refine Ext.setCell ?_ ?side _); (case side => first | exact Nat.le_refl _ | (simp; done) | (simp; omega)))))⟩
        case measure => simp [intOf]
      · have e0 := ne_list hz
        have e1 := ne_isE hz
        have hfn := Lib.hid (hT2.out.2 t hz)
        have z4 : ¬ 9223372036854775807 < t.size + 9 + x.m.rule.size + 1 + D2.size + 9 := by omega
        have z5 : ¬ 9223372036854775807 < t.size + 9 + x.m.rule.size + 1 + D2.size + 9 + x.m.why.size := by omega
        have z6 : ¬ 9223372036854775807 < t.size + 9 + x.m.rule.size + 1 + D2.size + 9 + x.m.why.size + 1 := by omega
        clear hz
        go_wp2
        go_roundw
        case rel => exact ⟨3, _, by omega, by go_num, rfl, hln.out _ hfn.out, (by repeat (first | with_reducible exact Ext.refl _ | with_reducible exact hE0 | with_reducible exact hE | with_reducible refine Ext.alloc ?_ _ | with_reducible refine Ext.drewN ?_ _ | with_reducible refine Ext.drew ?_ | ((with_reducible refine Ext.setCell ?_ ?side _); (case side => first | exact Nat.le_refl _ | (simp; done) | (simp; omega)))))⟩
        case measure => simp [intOf]
    · have ht2 : t.data.toList = T0 ++ T1 ++ T2 := ht.trans (by simp [preL])
      clear ht
      clear hF hT0 kD0 n0 hT1 kD1 n1 hT2 kD2 n2
      replace hX := Lib.hid (hX.out.ext hE)
      replace hE := hE0.trans hE
      clear hE0
      have x0 : wr.cell? ⟨BX, 0, none⟩ = some (.string x.i.rule) := (hX.out.cell 0).trans rfl
      have x1 : wr.cell? ⟨BX, 1, none⟩ = some (.int .i64 x.i.amt) := (hX.out.cell 1).trans rfl
      have x2 : wr.cell? ⟨BX, 2, none⟩ = some (.string x.i.why) := (hX.out.cell 2).trans rfl
      have x3 : wr.cell? ⟨BX, 3, none⟩ = some (.string x.s.rule) := (hX.out.cell 3).trans rfl
      have x4 : wr.cell? ⟨BX, 4, none⟩ = some (.int .i64 x.s.amt) := (hX.out.cell 4).trans rfl
      have x5 : wr.cell? ⟨BX, 5, none⟩ = some (.string x.s.why) := (hX.out.cell 5).trans rfl
      have x6 : wr.cell? ⟨BX, 6, none⟩ = some (.string x.m.rule) := (hX.out.cell 6).trans rfl
      have x7 : wr.cell? ⟨BX, 7, none⟩ = some (.int .i64 x.m.amt) := (hX.out.cell 7).trans rfl
      have x8 : wr.cell? ⟨BX, 8, none⟩ = some (.string x.m.why) := (hX.out.cell 8).trans rfl
      have x9 : wr.cell? ⟨BX, 9, none⟩ = some (.int .i64 x.card) := (hX.out.cell 9).trans rfl
      have x10 : wr.cell? ⟨BX, 10, none⟩ = some (.int .i64 x.iss) := (hX.out.cell 10).trans rfl
      have x11 : wr.cell? ⟨BX, 11, none⟩ = some (.int .i64 x.acq) := (hX.out.cell 11).trans rfl
      have x12 : wr.cell? ⟨BX, 12, none⟩ = some (.int .i64 x.shop) := (hX.out.cell 12).trans rfl
      have x13 : wr.cell? ⟨BX, 13, none⟩ = some (.int .i64 x.net) := (hX.out.cell 13).trans rfl
      go_wp2_with fail
      refine (kP.out _).mono ?_
      rintro e w1 ⟨rfl, hE1⟩
      replace hE := hE.trans hE1
      clear x0 x1 x2 x3 x4 x5 x6 x7 x8 x9 x10 x11 x12 x13 hX hE1 kP
      go_wp2_with fail
      have hP := Lib.hid (Blk.new w1 #[.int .i64 x.card, .int .i64 x.iss, .int .i64 x.acq, .int .i64 x.shop, .int .i64 x.net] 84)
      replace hE0 : Ext w (w1.alloc (.cells #[.int .i64 x.card, .int .i64 x.iss, .int .i64 x.acq, .int .i64 x.shop, .int .i64 x.net] 84)) := (by repeat (first | with_reducible exact Ext.refl _ | with_reducible exact hE0 | with_reducible exact hE | with_reducible refine Ext.alloc ?_ _ | with_reducible refine Ext.drewN ?_ _ | with_reducible refine Ext.drew ?_ | ((with_reducible refine Ext.setCell ?_ ?side _); (case side => first | exact Nat.le_refl _ | (simp; done) | (simp; omega)))))
      clear hE
      obtain ⟨BP, hBP⟩ : ∃ BP, BP = w1.heap.size := ⟨_, rfl⟩
      rw [← hBP] at hP ⊢
      clear hBP
      generalize w1.alloc (.cells #[.int .i64 x.card, .int .i64 x.iss, .int .i64 x.acq, .int .i64 x.shop, .int .i64 x.net] 84) = w2 at *
      replace ht2 := Lib.hid ht2
      go_loopw [3, 7] (fun s i wr => ∃ (k : Nat) (t : ByteArray), k ≤ 5 ∧ i = .int .i64 k ∧ s = .string t ∧ t.data.toList = T0 ++ T1 ++ T2 ++ preL [T3, T4, T5, T6, T7] k ∧ Ext w2 wr) (fun _ i _ => 5 - (intOf i).toNat)
      case atStart => exact ⟨0, t, by omega, rfl, rfl, by rw [ht2.out]; simp [preL], Ext.refl _⟩
      case round =>
        clear ht2
        rename ByteArray => t0
        obtain ⟨k, t, hk, rfl, rfl, ht, hE⟩ := hrel
        have hcase : k = 0 ∨ k = 1 ∨ k = 2 ∨ k = 3 ∨ k = 4 ∨ k = 5 := by omega
        clear hk
        rcases hcase with rfl | rfl | rfl | rfl | rfl | rfl
        · have ht2 := preP_len (k := 0) m0 n3 n4 n5 n6 n7 ht (by omega)
          have hln := Lib.hid (fun u (h : u = t.data.toList ++ T3) => (h.trans (by rw [ht, List.append_assoc]; simp [preL]) : u = T0 ++ T1 ++ T2 ++ preL [T3, T4, T5, T6, T7] 1))
          clear ht
          have c0 : wr.cell? ⟨BP, 0, none⟩ = some (.int .i64 x.card) := ((hP.out.ext hE).cell 0).trans rfl
          have hfn := Lib.hid (hT3.out t)
          have z0 : ¬ 9223372036854775807 < t.size + 11 := by omega
          have z1 : ¬ 9223372036854775807 < t.size + 11 + D3.size := by omega
          have z2 : ¬ 9223372036854775807 < t.size + 11 + D3.size + 1 := by omega
          have ix : ∀ w, Sem.run Tryz.prog (Instr.index 101 (.agg #[.string ⟨#[99, 97, 114, 100, 104, 111, 108, 100, 101, 114, 32]⟩, .string ⟨#[105, 115, 115, 117, 101, 114, 32]⟩, .string ⟨#[97, 99, 113, 117, 105, 114, 101, 114, 32]⟩, .string ⟨#[115, 104, 111, 112, 32]⟩, .string ⟨#[110, 101, 116, 119, 111, 114, 107, 32]⟩]) (.int .i64 0)) w = .ok (.string ⟨#[99, 97, 114, 100, 104, 111, 108, 100, 101, 114, 32]⟩) w := fun w => by simp [Instr.index, go_sem]
          go_wp2_with fail
          go_quiet (first | (go_at_call 48; exact Calls.quiet_of_same (kD3.out _)))
          go_wp2
          go_roundw
          case rel => exact ⟨1, _, by omega, by go_num, rfl, hln.out _ hfn.out, (by repeat (first | with_reducible exact Ext.refl _ | with_reducible exact hE0 | with_reducible exact hE | with_reducible refine Ext.alloc ?_ _ | with_reducible refine Ext.drewN ?_ _ | with_reducible refine Ext.drew ?_ | ((with_reducible refine Ext.setCell ?_ ?side _); (case side => first | exact Nat.le_refl _ | (simp; done) | (simp; omega)))))⟩
          case measure => simp [intOf]
        · have ht2 := preP_len (k := 1) m0 n3 n4 n5 n6 n7 ht (by omega)
          have hln := Lib.hid (fun u (h : u = t.data.toList ++ T4) => (h.trans (by rw [ht, List.append_assoc]; simp [preL]) : u = T0 ++ T1 ++ T2 ++ preL [T3, T4, T5, T6, T7] 2))
          clear ht
          have c0 : wr.cell? ⟨BP, 1, none⟩ = some (.int .i64 x.iss) := ((hP.out.ext hE).cell 1).trans rfl
          have hfn := Lib.hid (hT4.out t)
          have z0 : ¬ 9223372036854775807 < t.size + 7 := by omega
          have z1 : ¬ 9223372036854775807 < t.size + 7 + D4.size := by omega
          have z2 : ¬ 9223372036854775807 < t.size + 7 + D4.size + 1 := by omega
          have ix : ∀ w, Sem.run Tryz.prog (Instr.index 101 (.agg #[.string ⟨#[99, 97, 114, 100, 104, 111, 108, 100, 101, 114, 32]⟩, .string ⟨#[105, 115, 115, 117, 101, 114, 32]⟩, .string ⟨#[97, 99, 113, 117, 105, 114, 101, 114, 32]⟩, .string ⟨#[115, 104, 111, 112, 32]⟩, .string ⟨#[110, 101, 116, 119, 111, 114, 107, 32]⟩]) (.int .i64 1)) w = .ok (.string ⟨#[105, 115, 115, 117, 101, 114, 32]⟩) w := fun w => by simp [Instr.index, go_sem]
          go_wp2_with fail
          go_quiet (first | (go_at_call 48; exact Calls.quiet_of_same (kD4.out _)))
          go_wp2
          go_roundw
          case rel => exact ⟨2, _, by omega, by go_num, rfl, hln.out _ hfn.out, (by repeat (first | with_reducible exact Ext.refl _ | with_reducible exact hE0 | with_reducible exact hE | with_reducible refine Ext.alloc ?_ _ | with_reducible refine Ext.drewN ?_ _ | with_reducible refine Ext.drew ?_ | ((with_reducible refine Ext.setCell ?_ ?side _); (case side => first | exact Nat.le_refl _ | (simp; done) | (simp; omega)))))⟩
          case measure => simp [intOf]
        · have ht2 := preP_len (k := 2) m0 n3 n4 n5 n6 n7 ht (by omega)
          have hln := Lib.hid (fun u (h : u = t.data.toList ++ T5) => (h.trans (by rw [ht, List.append_assoc]; simp [preL]) : u = T0 ++ T1 ++ T2 ++ preL [T3, T4, T5, T6, T7] 3))
          clear ht
          have c0 : wr.cell? ⟨BP, 2, none⟩ = some (.int .i64 x.acq) := ((hP.out.ext hE).cell 2).trans rfl
          have hfn := Lib.hid (hT5.out t)
          have z0 : ¬ 9223372036854775807 < t.size + 9 := by omega
          have z1 : ¬ 9223372036854775807 < t.size + 9 + D5.size := by omega
          have z2 : ¬ 9223372036854775807 < t.size + 9 + D5.size + 1 := by omega
          have ix : ∀ w, Sem.run Tryz.prog (Instr.index 101 (.agg #[.string ⟨#[99, 97, 114, 100, 104, 111, 108, 100, 101, 114, 32]⟩, .string ⟨#[105, 115, 115, 117, 101, 114, 32]⟩, .string ⟨#[97, 99, 113, 117, 105, 114, 101, 114, 32]⟩, .string ⟨#[115, 104, 111, 112, 32]⟩, .string ⟨#[110, 101, 116, 119, 111, 114, 107, 32]⟩]) (.int .i64 2)) w = .ok (.string ⟨#[97, 99, 113, 117, 105, 114, 101, 114, 32]⟩) w := fun w => by simp [Instr.index, go_sem]
          go_wp2_with fail
          go_quiet (first | (go_at_call 48; exact Calls.quiet_of_same (kD5.out _)))
          go_wp2
          go_roundw
          case rel => exact ⟨3, _, by omega, by go_num, rfl, hln.out _ hfn.out, (by repeat (first | with_reducible exact Ext.refl _ | with_reducible exact hE0 | with_reducible exact hE | with_reducible refine Ext.alloc ?_ _ | with_reducible refine Ext.drewN ?_ _ | with_reducible refine Ext.drew ?_ | ((with_reducible refine Ext.setCell ?_ ?side _); (case side => first | exact Nat.le_refl _ | (simp; done) | (simp; omega)))))⟩
          case measure => simp [intOf]
        · have ht2 := preP_len (k := 3) m0 n3 n4 n5 n6 n7 ht (by omega)
          have hln := Lib.hid (fun u (h : u = t.data.toList ++ T6) => (h.trans (by rw [ht, List.append_assoc]; simp [preL]) : u = T0 ++ T1 ++ T2 ++ preL [T3, T4, T5, T6, T7] 4))
          clear ht
          have c0 : wr.cell? ⟨BP, 3, none⟩ = some (.int .i64 x.shop) := ((hP.out.ext hE).cell 3).trans rfl
          have hfn := Lib.hid (hT6.out t)
          have z0 : ¬ 9223372036854775807 < t.size + 5 := by omega
          have z1 : ¬ 9223372036854775807 < t.size + 5 + D6.size := by omega
          have z2 : ¬ 9223372036854775807 < t.size + 5 + D6.size + 1 := by omega
          have ix : ∀ w, Sem.run Tryz.prog (Instr.index 101 (.agg #[.string ⟨#[99, 97, 114, 100, 104, 111, 108, 100, 101, 114, 32]⟩, .string ⟨#[105, 115, 115, 117, 101, 114, 32]⟩, .string ⟨#[97, 99, 113, 117, 105, 114, 101, 114, 32]⟩, .string ⟨#[115, 104, 111, 112, 32]⟩, .string ⟨#[110, 101, 116, 119, 111, 114, 107, 32]⟩]) (.int .i64 3)) w = .ok (.string ⟨#[115, 104, 111, 112, 32]⟩) w := fun w => by simp [Instr.index, go_sem]
          go_wp2_with fail
          go_quiet (first | (go_at_call 48; exact Calls.quiet_of_same (kD6.out _)))
          go_wp2
          go_roundw
          case rel => exact ⟨4, _, by omega, by go_num, rfl, hln.out _ hfn.out, (by repeat (first | with_reducible exact Ext.refl _ | with_reducible exact hE0 | with_reducible exact hE | with_reducible refine Ext.alloc ?_ _ | with_reducible refine Ext.drewN ?_ _ | with_reducible refine Ext.drew ?_ | ((with_reducible refine Ext.setCell ?_ ?side _); (case side => first | exact Nat.le_refl _ | (simp; done) | (simp; omega)))))⟩
          case measure => simp [intOf]
        · have ht2 := preP_len (k := 4) m0 n3 n4 n5 n6 n7 ht (by omega)
          have hln := Lib.hid (fun u (h : u = t.data.toList ++ T7) => (h.trans (by rw [ht, List.append_assoc]; simp [preL]) : u = T0 ++ T1 ++ T2 ++ preL [T3, T4, T5, T6, T7] 5))
          clear ht
          have c0 : wr.cell? ⟨BP, 4, none⟩ = some (.int .i64 x.net) := ((hP.out.ext hE).cell 4).trans rfl
          have hfn := Lib.hid (hT7.out t)
          have z0 : ¬ 9223372036854775807 < t.size + 8 := by omega
          have z1 : ¬ 9223372036854775807 < t.size + 8 + D7.size := by omega
          have z2 : ¬ 9223372036854775807 < t.size + 8 + D7.size + 1 := by omega
          have ix : ∀ w, Sem.run Tryz.prog (Instr.index 101 (.agg #[.string ⟨#[99, 97, 114, 100, 104, 111, 108, 100, 101, 114, 32]⟩, .string ⟨#[105, 115, 115, 117, 101, 114, 32]⟩, .string ⟨#[97, 99, 113, 117, 105, 114, 101, 114, 32]⟩, .string ⟨#[115, 104, 111, 112, 32]⟩, .string ⟨#[110, 101, 116, 119, 111, 114, 107, 32]⟩]) (.int .i64 4)) w = .ok (.string ⟨#[110, 101, 116, 119, 111, 114, 107, 32]⟩) w := fun w => by simp [Instr.index, go_sem]
          go_wp2_with fail
          go_quiet (first | (go_at_call 48; exact Calls.quiet_of_same (kD7.out _)))
          go_wp2
          go_roundw
          case rel => exact ⟨5, _, by omega, by go_num, rfl, hln.out _ hfn.out, (by repeat (first | with_reducible exact Ext.refl _ | with_reducible exact hE0 | with_reducible exact hE | with_reducible refine Ext.alloc ?_ _ | with_reducible refine Ext.drewN ?_ _ | with_reducible refine Ext.drew ?_ | ((with_reducible refine Ext.setCell ?_ ?side _); (case side => first | exact Nat.le_refl _ | (simp; done) | (simp; omega)))))⟩
          case measure => simp [intOf]
        · go_wp2
          go_ret
          exact ⟨t, rfl, by rw [hT.out, ht]; simp [preL], hE0.trans hE⟩
end Go.Proofs.YtmnhmkjmcckneaaGreatDoor
