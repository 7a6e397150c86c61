/- Contracts of assess.Explain and its closures (walks; printed by gen/h8.py). -/
import Derived.Test.YtmnhmkjmcckneaaGreatDoorHp
import Derived.Test.YtmnhmkjmcckneaaGreatDoorHbl
import Derived.Lib.ItoaLen
import Derived.Deep.RegionHeld3
namespace Go.Proofs.YtmnhmkjmcckneaaGreatDoor
open Go.RowKit
def becS : ByteArray := ⟨#[32, 98, 101, 99, 97, 117, 115, 101, 32]⟩
def feeT (word : ByteArray) (x : LineD) : List UInt8 := word.data.toList ++ [32] ++ x.rule.data.toList ++ [32] ++ Lib.itoa x.amt ++ (if x.why.size = 0 then [] else becS.data.toList ++ x.why.data.toList) ++ [10]
def parT (word : ByteArray) (n : Int) : List UInt8 := word.data.toList ++ [32] ++ Lib.itoa n ++ [10]
/-- A builder that holds the bytes l. -/
def Bl (b : Nat) (l : List UInt8) (w : World) : Prop := Lib.IsBuilder 89 5 b b (Lib.byteCells l) w
theorem Bl.ext {b : Nat} {l : List UInt8} {w w' : World} (h : Bl b l w) (k : Ext w w') : Bl b l w' := bldI_ext h k
theorem app_list (a b : ByteArray) : (a ++ b).data.toList = a.data.toList ++ b.data.toList := by simp [ByteArray.data_append]
/-- What a call that writes a builder leaves. -/
def WrP (b : Nat) (l : List UInt8) (w w' : World) : Prop := Bl b l w' ∧ Below b w w' ∧ Lib.OthersKept 5 (some b) w w'
theorem wr_any (b : Nat) (l : List UInt8) (s : ByteArray) (w : World) (h : Bl b l w) (hl : l.length + s.size ≤ 140737488355328) (hb : b ≤ w.heap.size) : Calls Tryz.prog 43 #[.pointer (some ⟨b, 0, none⟩), .string s] w fun e w' => ∃ v, e = .returned (.tuple #[.int .i64 v, .nilIface]) ∧ WrP b (l ++ s.data.toList) w w' := by
 refine (bldWrite b b _ s w h (by rw [Lib.byteCells_length]; exact hl) hb).mono ?_
 rintro e w' ⟨rfl, h1, h2, h3⟩
 refine ⟨_, rfl, Or.inr ?_, h2, h3⟩
 rw [byteCells_app, ← strCells_eq]
 exact h1
theorem wb_any (b : Nat) (l : List UInt8) (c : UInt8) (w : World) (h : Bl b l w) (hl : l.length + 1 ≤ 140737488355328) (hb : b ≤ w.heap.size) : Calls Tryz.prog 45 #[.pointer (some ⟨b, 0, none⟩), .int .u8 c.toNat] w fun e w' => e = .returned .nilIface ∧ WrP b (l ++ [c]) w w' := by
 refine (bldByte b b _ c.toNat w h (by rw [Lib.byteCells_length]; exact hl) hb).mono ?_
 rintro e w' ⟨rfl, h1, h2, h3⟩
 refine ⟨rfl, Or.inr ?_, h2, h3⟩
 rw [byteCells_app]
 exact h1
theorem sz1 (c : UInt8) : (⟨#[c]⟩ : ByteArray).size = 1 := rfl
theorem itoa_len20 (n : Int) (h0 : -9223372036854775808 ≤ n) (h1 : n ≤ 9223372036854775807) : (Lib.itoa n).length ≤ 21 := Lib.itoa_length_le n h0 h1
set_option maxRecDepth 8000 in
set_option maxHeartbeats 4000000 in
theorem expar_any (b : Nat) (l : List UInt8) (word : ByteArray) (n : Int) (w : World) (g : Gw w) (h : Bl b l w) (hb : b ≤ w.heap.size) (hl : l.length ≤ 100000000000) (hw : word.size ≤ 100) (h0 : -9223372036854775808 ≤ n) (h1 : n ≤ 9223372036854775807) : Calls Tryz.prog 46 #[.string word, .int .i64 n, .pointer (some ⟨b, 0, none⟩)] w fun e w' => e = .returned (.tuple #[]) ∧ WrP b (l ++ parT word n) w w' := by
 have kI := Lib.hid (fmt_any n h0 h1 w g)
 have hz := itoa_len20 n h0 h1
 have hpt := Lib.hid (show parT word n = word.data.toList ++ [32] ++ Lib.itoa n ++ [10] from rfl)
 generalize parT word n = PT at *
 obtain ⟨ns, hns⟩ : ∃ ns : ByteArray, ns = ⟨(Lib.itoa n).toArray⟩ := ⟨_, rfl⟩
 have hnl : Lib.itoa n = ns.data.toList := by rw [hns]
 rw [← hns] at kI
 rw [hnl] at hpt hz
 have hnz : ns.size ≤ 21 := by rw [← Array.length_toList] at *; exact hz
 clear hns hnl hz
 have q1 : ¬ 9223372036854775807 < word.size + 1 := by omega
 have q2 : ¬ 9223372036854775807 < word.size + 1 + ns.size := by omega
 have q3 : ¬ 9223372036854775807 < word.size + 1 + ns.size + 1 := by omega
 replace h := Lib.hid h
 go_enter Tryz.func46, Tryz.ntmps46
 go_wp2_with fail
 refine kI.out.mono ?_
 rintro e w1 ⟨rfl, hE1⟩
 go_wp2_with fail
 refine (wr_any b l _ w1 (h.out.ext hE1) (by rw [ByteArray.size_append, ByteArray.size_append, ByteArray.size_append, sz1, sz1]; omega) (Nat.le_trans hb hE1.size)).mono ?_
 rintro e w2 ⟨v, rfl, hW1, hW2, hW3⟩
 go_wp2
 go_end0
 refine ⟨rfl, ?_, Below.trans (Below.mono hE1.below hb) hW2, fun k o a c d => hW3 k o ((hE1.block k (Array.getElem?_eq_some_iff.1 a).1).trans a) c d⟩
 rw [hpt.out]
 simpa [app_list] using hW1
theorem Bl.lt {b : Nat} {l : List UInt8} {w : World} (h : Bl b l w) : b < w.heap.size := h.elim (fun x => x.lt) (fun x => x.lt)
theorem kept_ext {T : TypeId} {b : Option Nat} {a w w' : World} (h : Lib.OthersKept T b a w) (k : Ext w w') : Lib.OthersKept T b a w' := fun i o x y z => by
 have h1 := h i o x y z
 exact (k.block i (Array.getElem?_eq_some_iff.1 h1).1).trans h1
theorem WrP.nil {b : Nat} {l : List UInt8} {w w' : World} (h : Bl b l w) (k : Ext w w') : WrP b l w w' := ⟨h.ext k, Below.mono k.below (Nat.le_of_lt h.lt), kept_ext (Lib.OthersKept.refl _ _ _) k⟩
theorem WrP.trans {b : Nat} {l m : List UInt8} {a w w' : World} (h : WrP b l a w) (k : WrP b m w w') : WrP b m a w' := ⟨k.1, Below.trans h.2.1 k.2.1, h.2.2.trans k.2.2⟩
theorem WrP.ext {b : Nat} {l : List UInt8} {a w w' : World} (h : WrP b l a w) (k : Ext w w') : WrP b l a w' := h.trans (WrP.nil h.1 k)
/-- A block of another kind is kept. -/
theorem WrP.blk {b : Nat} {l : List UInt8} {a w : World} (h : WrP b l a w) {B : Nat} {cs : Array Value} {T : TypeId} (k : Blk a B cs T) (hne : B ≠ b) (hT : T ≠ 5) : Blk w B cs T :=
 h.2.2 B _ k (fun e => hne (Option.some.inj e)) (fun c fz e => hT (by injection e))
theorem wrp_undrew {b : Nat} {l : List UInt8} {a w : World} (h : WrP b l a.drew w) : WrP b l a w := ⟨h.1, ⟨h.2.1.os, h.2.1.tape, h.2.1.output, h.2.1.size, h.2.1.block⟩, h.2.2⟩
theorem ext_undrew {a b : World} (h : Ext a.drew b) : Ext a b := Ext.trans (Ext.refl _).drew h
theorem ext_atx {w z u : World} (_ : Ext w z) (h : Ext z u) : Ext z u := h
theorem wrp_at {w z u : World} {b : Nat} {l m : List UInt8} (_ : WrP b l w z) (h : WrP b m z u) : WrP b m z u := h
theorem bl_drew {b : Nat} {l : List UInt8} {w : World} (h : Bl b l w) : Bl b l w.drew := h.ext (Ext.refl _).drew
set_option maxRecDepth 8000 in
set_option maxHeartbeats 4000000 in
theorem exfee_any (b : Nat) (l : List UInt8) (word : ByteArray) (x : LineD) (w : World) (g : Gw w) (h : Bl b l w) (hl : l.length ≤ 100000000000) (hw : word.size ≤ 100) (hr : x.rule.size ≤ 10000000000) (hy : x.why.size ≤ 10000000000) (h0 : -9223372036854775808 ≤ x.amt) (h1 : x.amt ≤ 9223372036854775807) : Calls Tryz.prog 42 #[.string word, .agg #[.string x.rule, .int .i64 x.amt, .string x.why], .pointer (some ⟨b, 0, none⟩)] w fun e w' => e = .returned (.tuple #[]) ∧ WrP b (l ++ feeT word x) w w' := by
 have hb := h.lt
 have kI := Lib.hid (fun w1 (hE : Ext w w1) => fmt_any x.amt h0 h1 w1 (g.ext hE))
 have hz := itoa_len20 x.amt h0 h1
 have hpt := Lib.hid (show feeT word x = word.data.toList ++ [32] ++ x.rule.data.toList ++ [32] ++ Lib.itoa x.amt ++ (if x.why.size = 0 then [] else becS.data.toList ++ x.why.data.toList) ++ [10] from rfl)
 generalize feeT word x = PT at *
 obtain ⟨rule, amt, why⟩ := x
 simp only at kI hz hpt hr hy h0 h1 ⊢
 obtain ⟨ns, hns⟩ : ∃ ns : ByteArray, ns = ⟨(Lib.itoa amt).toArray⟩ := ⟨_, rfl⟩
 have hnl : Lib.itoa amt = ns.data.toList := by rw [hns]
 rw [← hns] at kI
 rw [hnl] at hpt hz
 have hnz : ns.size ≤ 21 := by rw [← Array.length_toList] at *; exact hz
 clear hns hnl hz
 have q1 : ¬ 9223372036854775807 < word.size + 1 := by omega
 have q2 : ¬ 9223372036854775807 < word.size + 1 + rule.size := by omega
 have q3 : ¬ 9223372036854775807 < word.size + 1 + rule.size + 1 := by omega
 have q4 : ¬ 9223372036854775807 < word.size + 1 + rule.size + 1 + ns.size := by omega
 have hsz1 : (word ++ ⟨#[32]⟩ ++ rule ++ ⟨#[32]⟩ ++ ns).size = word.size + 1 + rule.size + 1 + ns.size := by rw [ByteArray.size_append, ByteArray.size_append, ByteArray.size_append, ByteArray.size_append, sz1]
 have hli1 : (word ++ ⟨#[32]⟩ ++ rule ++ ⟨#[32]⟩ ++ ns).data.toList = word.data.toList ++ [32] ++ rule.data.toList ++ [32] ++ ns.data.toList := by simp
 have hsz2 : (becS ++ why).size = 9 + why.size := by rw [ByteArray.size_append]; rfl
 have hli2 : (becS ++ why).data.toList = becS.data.toList ++ why.data.toList := app_list _ _
 have hlen1 : (l ++ (word ++ ⟨#[32]⟩ ++ rule ++ ⟨#[32]⟩ ++ ns).data.toList).length ≤ 200000000000 := by
  have : (word ++ ⟨#[32]⟩ ++ rule ++ ⟨#[32]⟩ ++ ns).data.toList.length = (word ++ ⟨#[32]⟩ ++ rule ++ ⟨#[32]⟩ ++ ns).size := by rw [Array.length_toList]; rfl
  rw [List.length_append, this, hsz1]
  omega
 have hlen2 : (l ++ (word ++ ⟨#[32]⟩ ++ rule ++ ⟨#[32]⟩ ++ ns).data.toList ++ (becS ++ why).data.toList).length ≤ 300000000000 := by
  have : (becS ++ why).data.toList.length = (becS ++ why).size := by rw [Array.length_toList]; rfl
  rw [List.length_append, this, hsz2]
  omega
 have kW := Lib.hid (fun w1 (hB : Bl b l w1) => wr_any b l (word ++ ⟨#[32]⟩ ++ rule ++ ⟨#[32]⟩ ++ ns) w1 hB (by rw [hsz1]; omega) (Nat.le_of_lt hB.lt))
 rw [hli1] at hlen1 hlen2 kW
 replace hsz1 := Lib.hid hsz1
 replace hsz2 := Lib.hid hsz2
 replace hli2 := Lib.hid hli2
 replace hlen1 := Lib.hid hlen1
 replace hlen2 := Lib.hid hlen2
 replace h := Lib.hid h
 replace g := Lib.hid g
 clear hli1
 go_enter Tryz.func42, Tryz.ntmps42
 go_wp2_with fail
 have hbx := Blk.new w #[.string rule, .int .i64 amt, .string why] 33
 have hE0 : Ext w (w.alloc (.cells #[.string rule, .int .i64 amt, .string why] 33)) := xt
 have hW := WrP.nil h.out hE0
 have hBX : w.heap.size ≠ b := by omega
 obtain ⟨BX, hbe⟩ : ∃ BX, BX = w.heap.size := ⟨_, rfl⟩
 rw [← hbe] at hbx hBX ⊢
 clear hbe
 generalize w.alloc (.cells #[.string rule, .int .i64 amt, .string why] 33) = w0 at *
 have x0 : w0.cell? ⟨BX, 0, none⟩ = some (.string rule) := (hbx.cell 0).trans rfl
 have x1 : w0.cell? ⟨BX, 1, none⟩ = some (.int .i64 amt) := (hbx.cell 1).trans rfl
 have x2 : w0.cell? ⟨BX, 2, none⟩ = some (.string why) := (hbx.cell 2).trans rfl
 replace hbx := Lib.hid hbx
 go_region_held3 (fun w' => w'.cell? ⟨BX, 0, none⟩ = some (.string rule) ∧ w'.cell? ⟨BX, 1, none⟩ = some (.int .i64 amt) ∧ w'.cell? ⟨BX, 2, none⟩ = some (.string why)) (first | exact ⟨x0, x1, x2⟩ | exact ⟨by assumption, by assumption, by assumption⟩) (first | (go_at_call 44; refine (kI.out _ (by first | exact hE0 | exact hE0.drew)).mono ?_; rintro e w6 ⟨rfl, hE6⟩; have hS := ext_atx hE0 (by first | exact hE6 | exact ext_undrew hE6); have hE0 := hE0.trans hS; have x0 := hS.get x0; have x1 := hS.get x1; have x2 := hS.get x2; have hW := hW.ext hS; have hbx := Lib.hid (hbx.out.ext hS); clear hE6 hS) | (go_at_call 43; refine (kW.out _ (by first | exact hW.1 | exact bl_drew hW.1)).mono ?_; rintro e w6 ⟨v, rfl, hW6⟩; have hS := wrp_at hW (by first | exact hW6 | exact wrp_undrew hW6); have hW := hW.trans hS; have hbx := Lib.hid (hS.blk hbx.out hBX (by decide)); have x0 : w6.cell? ⟨BX, 0, none⟩ = some (.string rule) := (hbx.out.cell 0).trans rfl; have x1 : w6.cell? ⟨BX, 1, none⟩ = some (.int .i64 amt) := (hbx.out.cell 1).trans rfl; have x2 : w6.cell? ⟨BX, 2, none⟩ = some (.string why) := (hbx.out.cell 2).trans rfl; clear hW6 hS))
 all_goals clear q1 q2 q3 q4 kI kW x0 x1
 all_goals
  by_cases hz : why.size = 0
  · have e0 := emp_list hz
    have hpt := Lib.hid (hpt.out.trans (by rw [if_pos hz]))
    clear hz hsz2 hli2 hlen2 hbx
    go_wp2_with fail
    refine (wb_any b _ 10 _ (by first | exact hW.1 | exact bl_drew hW.1) (by have := hlen1.out; omega) (by first | exact Nat.le_of_lt hW.1.lt | exact Nat.le_of_lt (bl_drew hW.1).lt)).mono ?_
    rintro e w8 ⟨rfl, hW8⟩
    have hS := wrp_at hW (by first | exact hW8 | exact wrp_undrew hW8)
    have hW := hW.trans hS
    go_wp2
    go_end0
    exact ⟨rfl, by rw [hpt.out]; simpa using hW⟩
  · have e0 := ne_list hz
    have e1 := ne_isE hz
    have hpt := Lib.hid (hpt.out.trans (by rw [if_neg hz]))
    have q5 : ¬ 9223372036854775807 < 9 + why.size := by omega
    clear hz
    go_wp2_with fail
    refine (wr_any b _ (becS ++ why) _ (by first | exact hW.1 | exact bl_drew hW.1) (by have := hlen1.out; rw [hsz2.out]; omega) (by first | exact Nat.le_of_lt hW.1.lt | exact Nat.le_of_lt (bl_drew hW.1).lt)).mono ?_
    rintro e w7 ⟨v7, rfl, hW7⟩
    have hS := wrp_at hW (by first | exact hW7 | exact wrp_undrew hW7)
    have hW := hW.trans hS
    clear hW7 hS x2 q5
    go_wp2_with fail
    refine (wb_any b _ 10 _ hW.1 (by have := hlen2.out; omega) (Nat.le_of_lt hW.1.lt)).mono ?_
    rintro e w8 ⟨rfl, hW8⟩
    have hW := hW.trans hW8
    go_wp2
    go_end0
    exact ⟨rfl, by rw [hpt.out, ← hli2.out]; simpa using hW⟩
theorem list_len (s : ByteArray) : s.data.toList.length = s.size := by rw [Array.length_toList]; rfl
theorem feeT_len {word : ByteArray} {x : LineD} (hw : word.size ≤ 100) (hr : x.rule.size ≤ 10000000000) (hy : x.why.size ≤ 10000000000) (h0 : -9223372036854775808 ≤ x.amt) (h1 : x.amt ≤ 9223372036854775807) : (feeT word x).length ≤ 20000000300 := by
 have h2 := itoa_len20 x.amt h0 h1
 unfold feeT
 simp only [List.length_append, list_len, List.length_cons, List.length_nil]
 split
 · simp only [List.length_nil]; omega
 · simp only [List.length_append, list_len, show becS.size = 9 from rfl]; omega
theorem parT_len {word : ByteArray} {n : Int} (hw : word.size ≤ 100) (h0 : -9223372036854775808 ≤ n) (h1 : n ≤ 9223372036854775807) : (parT word n).length ≤ 200 := by
 have h2 := itoa_len20 n h0 h1
 unfold parT
 simp only [List.length_append, list_len, List.length_cons, List.length_nil]
 omega
/-- What a result in words is. -/
def explT (x : ResD) : List UInt8 := feeT ⟨#[105, 110, 116, 101, 114, 99, 104, 97, 110, 103, 101]⟩ x.i ++ feeT ⟨#[115, 99, 104, 101, 109, 101]⟩ x.s ++ feeT ⟨#[109, 101, 114, 99, 104, 97, 110, 116]⟩ x.m ++ parT ⟨#[99, 97, 114, 100, 104, 111, 108, 100, 101, 114]⟩ x.card ++ parT ⟨#[105, 115, 115, 117, 101, 114]⟩ x.iss ++ parT ⟨#[97, 99, 113, 117, 105, 114, 101, 114]⟩ x.acq ++ parT ⟨#[115, 104, 111, 112]⟩ x.shop ++ parT ⟨#[110, 101, 116, 119, 111, 114, 107]⟩ x.net
structure LineOk (x : LineD) : Prop where
 rule : x.rule.size ≤ 10000000000
 why : x.why.size ≤ 10000000000
 amt : I64 x.amt
structure ResOk (x : ResD) : Prop where
 i : LineOk x.i
 s : LineOk x.s
 m : LineOk x.m
 card : I64 x.card
 iss : I64 x.iss
 acq : I64 x.acq
 shop : I64 x.shop
 net : I64 x.net
set_option maxRecDepth 8000 in
set_option maxHeartbeats 8000000 in
theorem explain_any (x : ResD) (w : World) (g : Gw w) (ok : ResOk x) : Calls Tryz.prog 21 #[resAgg x] w fun e w' => ∃ r : ByteArray, e = .returned (.string r) ∧ r.data.toList = explT x ∧ Ext w w' := by
 have n0 := feeT_len (word := ⟨#[105, 110, 116, 101, 114, 99, 104, 97, 110, 103, 101]⟩) (x := x.i) (by decide) ok.i.rule ok.i.why ok.i.amt.1 ok.i.amt.2
 have k0 := Lib.hid (fun l b (w1 : World) (hE : Ext w w1) (hB : Bl b l w1) (hl : l.length ≤ 100000000000) => exfee_any b l ⟨#[105, 110, 116, 101, 114, 99, 104, 97, 110, 103, 101]⟩ x.i w1 (g.ext hE) hB hl (by decide) ok.i.rule ok.i.why ok.i.amt.1 ok.i.amt.2)
 have n1 := feeT_len (word := ⟨#[115, 99, 104, 101, 109, 101]⟩) (x := x.s) (by decide) ok.s.rule ok.s.why ok.s.amt.1 ok.s.amt.2
 have k1 := Lib.hid (fun l b (w1 : World) (hE : Ext w w1) (hB : Bl b l w1) (hl : l.length ≤ 100000000000) => exfee_any b l ⟨#[115, 99, 104, 101, 109, 101]⟩ x.s w1 (g.ext hE) hB hl (by decide) ok.s.rule ok.s.why ok.s.amt.1 ok.s.amt.2)
 have n2 := feeT_len (word := ⟨#[109, 101, 114, 99, 104, 97, 110, 116]⟩) (x := x.m) (by decide) ok.m.rule ok.m.why ok.m.amt.1 ok.m.amt.2
 have k2 := Lib.hid (fun l b (w1 : World) (hE : Ext w w1) (hB : Bl b l w1) (hl : l.length ≤ 100000000000) => exfee_any b l ⟨#[109, 101, 114, 99, 104, 97, 110, 116]⟩ x.m w1 (g.ext hE) hB hl (by decide) ok.m.rule ok.m.why ok.m.amt.1 ok.m.amt.2)
 have n3 := parT_len (word := ⟨#[99, 97, 114, 100, 104, 111, 108, 100, 101, 114]⟩) (n := x.card) (by decide) ok.card.1 ok.card.2
 have k3 := Lib.hid (fun l b (w1 : World) (hE : Ext w w1) (hB : Bl b l w1) (hl : l.length ≤ 100000000000) => expar_any b l ⟨#[99, 97, 114, 100, 104, 111, 108, 100, 101, 114]⟩ x.card w1 (g.ext hE) hB (Nat.le_of_lt hB.lt) hl (by decide) ok.card.1 ok.card.2)
 have n4 := parT_len (word := ⟨#[105, 115, 115, 117, 101, 114]⟩) (n := x.iss) (by decide) ok.iss.1 ok.iss.2
 have k4 := Lib.hid (fun l b (w1 : World) (hE : Ext w w1) (hB : Bl b l w1) (hl : l.length ≤ 100000000000) => expar_any b l ⟨#[105, 115, 115, 117, 101, 114]⟩ x.iss w1 (g.ext hE) hB (Nat.le_of_lt hB.lt) hl (by decide) ok.iss.1 ok.iss.2)
 have n5 := parT_len (word := ⟨#[97, 99, 113, 117, 105, 114, 101, 114]⟩) (n := x.acq) (by decide) ok.acq.1 ok.acq.2
 have k5 := Lib.hid (fun l b (w1 : World) (hE : Ext w w1) (hB : Bl b l w1) (hl : l.length ≤ 100000000000) => expar_any b l ⟨#[97, 99, 113, 117, 105, 114, 101, 114]⟩ x.acq w1 (g.ext hE) hB (Nat.le_of_lt hB.lt) hl (by decide) ok.acq.1 ok.acq.2)
 have n6 := parT_len (word := ⟨#[115, 104, 111, 112]⟩) (n := x.shop) (by decide) ok.shop.1 ok.shop.2
 have k6 := Lib.hid (fun l b (w1 : World) (hE : Ext w w1) (hB : Bl b l w1) (hl : l.length ≤ 100000000000) => expar_any b l ⟨#[115, 104, 111, 112]⟩ x.shop w1 (g.ext hE) hB (Nat.le_of_lt hB.lt) hl (by decide) ok.shop.1 ok.shop.2)
 have n7 := parT_len (word := ⟨#[110, 101, 116, 119, 111, 114, 107]⟩) (n := x.net) (by decide) ok.net.1 ok.net.2
 have k7 := Lib.hid (fun l b (w1 : World) (hE : Ext w w1) (hB : Bl b l w1) (hl : l.length ≤ 100000000000) => expar_any b l ⟨#[110, 101, 116, 119, 111, 114, 107]⟩ x.net w1 (g.ext hE) hB (Nat.le_of_lt hB.lt) hl (by decide) ok.net.1 ok.net.2)
 have hT := Lib.hid (show explT x = feeT ⟨#[105, 110, 116, 101, 114, 99, 104, 97, 110, 103, 101]⟩ x.i ++ feeT ⟨#[115, 99, 104, 101, 109, 101]⟩ x.s ++ feeT ⟨#[109, 101, 114, 99, 104, 97, 110, 116]⟩ x.m ++ parT ⟨#[99, 97, 114, 100, 104, 111, 108, 100, 101, 114]⟩ x.card ++ parT ⟨#[105, 115, 115, 117, 101, 114]⟩ x.iss ++ parT ⟨#[97, 99, 113, 117, 105, 114, 101, 114]⟩ x.acq ++ parT ⟨#[115, 104, 111, 112]⟩ x.shop ++ parT ⟨#[110, 101, 116, 119, 111, 114, 107]⟩ x.net from rfl)
 generalize explT x = T at *
 generalize feeT ⟨#[105, 110, 116, 101, 114, 99, 104, 97, 110, 103, 101]⟩ x.i = T0 at *
 generalize feeT ⟨#[115, 99, 104, 101, 109, 101]⟩ x.s = T1 at *
 generalize feeT ⟨#[109, 101, 114, 99, 104, 97, 110, 116]⟩ x.m = T2 at *
 generalize parT ⟨#[99, 97, 114, 100, 104, 111, 108, 100, 101, 114]⟩ x.card = T3 at *
 generalize parT ⟨#[105, 115, 115, 117, 101, 114]⟩ x.iss = T4 at *
 generalize parT ⟨#[97, 99, 113, 117, 105, 114, 101, 114]⟩ x.acq = T5 at *
 generalize parT ⟨#[115, 104, 111, 112]⟩ x.shop = T6 at *
 generalize parT ⟨#[110, 101, 116, 119, 111, 114, 107]⟩ x.net = T7 at *
 clear ok
 unfold resAgg
 go_enter Tryz.func21, Tryz.ntmps21
 go_wp2_with fail
 have hbx := (Blk.new w #[.string x.i.rule, .int .i64 x.i.amt, .string x.i.why, .string x.s.rule, .int .i64 x.s.amt, .string x.s.why, .string x.m.rule, .int .i64 x.m.amt, .string x.m.why, .int .i64 x.card, .int .i64 x.iss, .int .i64 x.acq, .int .i64 x.shop, .int .i64 x.net] 35).alloc (.cells #[.pointer none, .slice none 0 0] 89)
 have hE : Ext w ((w.alloc (.cells #[.string x.i.rule, .int .i64 x.i.amt, .string x.i.why, .string x.s.rule, .int .i64 x.s.amt, .string x.s.why, .string x.m.rule, .int .i64 x.m.amt, .string x.m.why, .int .i64 x.card, .int .i64 x.iss, .int .i64 x.acq, .int .i64 x.shop, .int .i64 x.net] 35)).alloc (.cells #[.pointer none, .slice none 0 0] 89)) := xt
 have hs : (w.alloc (.cells #[.string x.i.rule, .int .i64 x.i.amt, .string x.i.why, .string x.s.rule, .int .i64 x.s.amt, .string x.s.why, .string x.m.rule, .int .i64 x.m.amt, .string x.m.why, .int .i64 x.card, .int .i64 x.iss, .int .i64 x.acq, .int .i64 x.shop, .int .i64 x.net] 35)).heap.size = w.heap.size + 1 := by simp
 have hB : Bl (w.heap.size + 1) [] ((w.alloc (.cells #[.string x.i.rule, .int .i64 x.i.amt, .string x.i.why, .string x.s.rule, .int .i64 x.s.amt, .string x.s.why, .string x.m.rule, .int .i64 x.m.amt, .string x.m.why, .int .i64 x.card, .int .i64 x.iss, .int .i64 x.acq, .int .i64 x.shop, .int .i64 x.net] 35)).alloc (.cells #[.pointer none, .slice none 0 0] 89)) := by
  have h := Lib.fresh_isBuilder 89 5 (w.alloc (.cells #[.string x.i.rule, .int .i64 x.i.amt, .string x.i.why, .string x.s.rule, .int .i64 x.s.amt, .string x.s.why, .string x.m.rule, .int .i64 x.m.amt, .string x.m.why, .int .i64 x.card, .int .i64 x.iss, .int .i64 x.acq, .int .i64 x.shop, .int .i64 x.net] 35))
  rw [hs] at h
  exact h
 have hW := WrP.nil hB (Ext.refl _)
 obtain ⟨b, hb⟩ : ∃ b, b = w.heap.size + 1 := ⟨_, rfl⟩
 obtain ⟨A, hA⟩ : ∃ A, A = w.heap.size := ⟨_, rfl⟩
 have hAb : A ≠ b := by omega
 have hwb : w.heap.size ≤ b := by omega
 rw [← hb] at hW ⊢
 rw [← hA] at hbx ⊢
 clear hs hB hb hA
 generalize ((w.alloc (.cells #[.string x.i.rule, .int .i64 x.i.amt, .string x.i.why, .string x.s.rule, .int .i64 x.s.amt, .string x.s.why, .string x.m.rule, .int .i64 x.m.amt, .string x.m.why, .int .i64 x.card, .int .i64 x.iss, .int .i64 x.acq, .int .i64 x.shop, .int .i64 x.net] 35)).alloc (.cells #[.pointer none, .slice none 0 0] 89)) = w0 at *
 replace hbx := Lib.hid hbx
 have x0 : w0.cell? ⟨A, 0, none⟩ = some (.string x.i.rule) := (hbx.out.cell 0).trans rfl
 have x1 : w0.cell? ⟨A, 1, none⟩ = some (.int .i64 x.i.amt) := (hbx.out.cell 1).trans rfl
 have x2 : w0.cell? ⟨A, 2, none⟩ = some (.string x.i.why) := (hbx.out.cell 2).trans rfl
 go_wp2_with fail
 refine (k0.out _ b _ (Below.trans hE (Below.mono hW.2.1 hwb)) hW.1 (by simp only [List.length_nil]; omega)).mono ?_
 rintro e w1 ⟨rfl, hW1⟩
 replace hW := hW.trans hW1
 clear hW1 x0 x1 x2
 have x3 : w1.cell? ⟨A, 3, none⟩ = some (.string x.s.rule) := ((hW.blk hbx.out hAb (by decide)).cell 3).trans rfl
 have x4 : w1.cell? ⟨A, 4, none⟩ = some (.int .i64 x.s.amt) := ((hW.blk hbx.out hAb (by decide)).cell 4).trans rfl
 have x5 : w1.cell? ⟨A, 5, none⟩ = some (.string x.s.why) := ((hW.blk hbx.out hAb (by decide)).cell 5).trans rfl
 go_wp2_with fail
 refine (k1.out _ b _ (Below.trans hE (Below.mono hW.2.1 hwb)) hW.1 (by simp only [List.length_append, List.length_nil]; omega)).mono ?_
 rintro e w2 ⟨rfl, hW2⟩
 replace hW := hW.trans hW2
 clear hW2 x3 x4 x5
 have x6 : w2.cell? ⟨A, 6, none⟩ = some (.string x.m.rule) := ((hW.blk hbx.out hAb (by decide)).cell 6).trans rfl
 have x7 : w2.cell? ⟨A, 7, none⟩ = some (.int .i64 x.m.amt) := ((hW.blk hbx.out hAb (by decide)).cell 7).trans rfl
 have x8 : w2.cell? ⟨A, 8, none⟩ = some (.string x.m.why) := ((hW.blk hbx.out hAb (by decide)).cell 8).trans rfl
 go_wp2_with fail
 refine (k2.out _ b _ (Below.trans hE (Below.mono hW.2.1 hwb)) hW.1 (by simp only [List.length_append, List.length_nil]; omega)).mono ?_
 rintro e w3 ⟨rfl, hW3⟩
 replace hW := hW.trans hW3
 clear hW3 x6 x7 x8
 have x9 : w3.cell? ⟨A, 9, none⟩ = some (.int .i64 x.card) := ((hW.blk hbx.out hAb (by decide)).cell 9).trans rfl
 go_wp2_with fail
 refine (k3.out _ b _ (Below.trans hE (Below.mono hW.2.1 hwb)) hW.1 (by simp only [List.length_append, List.length_nil]; omega)).mono ?_
 rintro e w4 ⟨rfl, hW4⟩
 replace hW := hW.trans hW4
 clear hW4 x9
 have x10 : w4.cell? ⟨A, 10, none⟩ = some (.int .i64 x.iss) := ((hW.blk hbx.out hAb (by decide)).cell 10).trans rfl
 go_wp2_with fail
 refine (k4.out _ b _ (Below.trans hE (Below.mono hW.2.1 hwb)) hW.1 (by simp only [List.length_append, List.length_nil]; omega)).mono ?_
 rintro e w5 ⟨rfl, hW5⟩
 replace hW := hW.trans hW5
 clear hW5 x10
 have x11 : w5.cell? ⟨A, 11, none⟩ = some (.int .i64 x.acq) := ((hW.blk hbx.out hAb (by decide)).cell 11).trans rfl
 go_wp2_with fail
 refine (k5.out _ b _ (Below.trans hE (Below.mono hW.2.1 hwb)) hW.1 (by simp only [List.length_append, List.length_nil]; omega)).mono ?_
 rintro e w6 ⟨rfl, hW6⟩
 replace hW := hW.trans hW6
 clear hW6 x11
 have x12 : w6.cell? ⟨A, 12, none⟩ = some (.int .i64 x.shop) := ((hW.blk hbx.out hAb (by decide)).cell 12).trans rfl
 go_wp2_with fail
 refine (k6.out _ b _ (Below.trans hE (Below.mono hW.2.1 hwb)) hW.1 (by simp only [List.length_append, List.length_nil]; omega)).mono ?_
 rintro e w7 ⟨rfl, hW7⟩
 replace hW := hW.trans hW7
 clear hW7 x12
 have x13 : w7.cell? ⟨A, 13, none⟩ = some (.int .i64 x.net) := ((hW.blk hbx.out hAb (by decide)).cell 13).trans rfl
 go_wp2_with fail
 refine (k7.out _ b _ (Below.trans hE (Below.mono hW.2.1 hwb)) hW.1 (by simp only [List.length_append, List.length_nil]; omega)).mono ?_
 rintro e w8 ⟨rfl, hW8⟩
 replace hW := hW.trans hW8
 clear hW8 x13
 go_wp2_with fail
 refine (bldStr b b _ _ hW.1 (Nat.le_of_lt hW.1.lt)).mono ?_
 rintro e w9 ⟨r, rfl, hr, hb9, -⟩
 have hE9 := Below.trans hE (Below.mono (Below.trans hW.2.1 hb9) hwb)
 have hrT := Lib.hid (show r.data.toList = T by rw [hr, hT.out]; simp only [List.nil_append])
 clear hr hW
 go_wp2
 go_ret
 exact ⟨r, rfl, hrT.out, hE9⟩
end Go.Proofs.YtmnhmkjmcckneaaGreatDoor
