/- Contract of the laws' awake: the chapter's examples (walk). -/
import Derived.Test.YthokhncdpfaifaaDoorRdecode
import Derived.Test.YthokhncdpfaifaaDoorRencode
import Derived.Test.YthokhncdpfaifaaDoorSame
import Derived.Test.YthokhncdpfaifaaDoorAll
import Derived.Test.YthokhncdpfaifaaDoorRequired
import Derived.Test.YthokhncdpfaifaaDoorByname
namespace Go.Proofs.YthokhncdpfaifaaDoor
open Go.RowKit
theorem enc_c (n : Int) (k : Nat) (s r : ByteArray) (w : World) (g : Gl w) (hs : s.size ≤ 1000000) (hk : k < 23) (hn : dNum k = n) (hc : chkK k s = 0) (hr : r.data.toList = encL k s) :
    Calls Tryd.prog 10 #[.int .i64 n, .string s] w fun e w' => e = .returned (.tuple #[.string r, .int .i64 0]) ∧ Ext w w' :=
  (encode_any n s w g hs).mono fun e w' h => by
    rcases h with ⟨k', hk', hn', hz, _, _⟩ | ⟨k', hk', hn', hz, r', hr', he, hE⟩ | ⟨hno, _⟩
    · obtain rfl : k' = k := dNum_inj k' k hk' hk (hn'.trans hn.symm)
      exact absurd hc hz
    · obtain rfl : k' = k := dNum_inj k' k hk' hk (hn'.trans hn.symm)
      obtain rfl : r' = r := Go.WideShapes.bytes_inj (hr'.trans hr.symm)
      exact ⟨he, hE⟩
    · exact absurd hn (hno k hk)
theorem dec_c (n : Int) (k : Nat) (s v r : ByteArray) (w : World) (g : Gl w) (hs : s.size ≤ 1000000) (hk : k < 23) (hn : dNum k = n) (hc : decE k s = 0) (hv : v.data.toList = valD k s) (hr : r.data.toList = s.data.toList.drop (rawA k + rawN k s)) :
    Calls Tryd.prog 13 #[.int .i64 n, .string s] w fun e w' => e = .returned (.tuple #[.string v, .string r, .int .i64 0]) ∧ Ext w w' :=
  (decode_any n s w g hs).mono fun e w' h => by
    rcases h with ⟨k', hk', hn', hz, _, _⟩ | ⟨k', hk', hn', hz, _, v', r', hv', hr', he, hE⟩ | ⟨hno, _⟩
    · obtain rfl : k' = k := dNum_inj k' k hk' hk (hn'.trans hn.symm)
      exact absurd hc hz
    · obtain rfl : k' = k := dNum_inj k' k hk' hk (hn'.trans hn.symm)
      obtain rfl : r' = r := Go.WideShapes.bytes_inj (hr'.trans hr.symm)
      obtain rfl : v' = v := Go.WideShapes.bytes_inj (hv'.trans hv.symm)
      exact ⟨he, hE⟩
    · exact absurd hn (hno k hk)
theorem dec_e (n : Int) (k : Nat) (s : ByteArray) (c : Int) (w : World) (g : Gl w) (hs : s.size ≤ 1000000) (hk : k < 23) (hn : dNum k = n) (hc : decE k s = c) (h0 : c ≠ 0) :
    Calls Tryd.prog 13 #[.int .i64 n, .string s] w fun e w' => e = .returned (.tuple #[.string ⟨#[]⟩, .string ⟨#[]⟩, .int .i64 c]) ∧ Ext w w' :=
  (decode_any n s w g hs).mono fun e w' h => by
    rcases h with ⟨k', hk', hn', hz, he, hE⟩ | ⟨k', hk', hn', hz, _⟩ | ⟨hno, _⟩
    · obtain rfl : k' = k := dNum_inj k' k hk' hk (hn'.trans hn.symm)
      rw [hc] at he; exact ⟨he, hE⟩
    · obtain rfl : k' = k := dNum_inj k' k hk' hk (hn'.trans hn.symm)
      exact absurd (hc.symm.trans hz) h0
    · exact absurd hn (hno k hk)
theorem find_c (n : Int) (k : Nat) (w : World) (g : Gl w) (hk : k < 23) (hn : dNum k = n) :
    Calls Tryd.prog 15 #[.int .i64 n] w fun e w' => e = .returned (.tuple #[specAgg k, .bool true]) ∧ Ext w w' :=
  (find_any n w g).mono fun e w' h => by
    rcases h with ⟨k', hk', hn', he, hE⟩ | ⟨hno, _⟩
    · obtain rfl : k' = k := dNum_inj k' k hk' hk (hn'.trans hn.symm)
      exact ⟨he, hE⟩
    · exact absurd hn (hno k hk)
theorem dName_inj (j k : Nat) (hj : j < 23) (hk : k < 23) (h : dName j = dName k) : j = k := by
  have key : ∀ j k : Fin 23, (dRow j.val).2.1 = (dRow k.val).2.1 → j.val = k.val := by decide
  have h2 : (dRow j).2.1 = (dRow k).2.1 := by
    have := congrArg (fun b : ByteArray => b.data.toList) h
    simpa [dName] using this
  exact key ⟨j, hj⟩ ⟨k, hk⟩ h2
theorem byName_c (name : ByteArray) (k : Nat) (w : World) (g : Gl w) (hk : k < 23) (hn : dName k = name) :
    Calls Tryd.prog 16 #[.string name] w fun e w' => e = .returned (.tuple #[.int .i64 (dNum k), .bool true]) ∧ Ext w w' :=
  (byName_any name w g).mono fun e w' h => by
    rcases h with ⟨k', hk', hn', he, hE⟩ | ⟨hno, _⟩
    · obtain rfl : k' = k := dName_inj k' k hk' hk (hn'.trans hn.symm)
      exact ⟨he, hE⟩
    · exact absurd hn (hno k hk)
theorem check_c (n : Int) (k : Nat) (s : ByteArray) (w : World) (g : Gl w) (hs : s.size ≤ 1000000) (hk : k < 23) (hn : dNum k = n) :
    Calls Tryd.prog 12 #[.int .i64 n, .string s] w fun e w' => e = .returned (.int .i64 (chkK k s)) ∧ Ext w w' :=
  (check_any n s w g hs).mono fun e w' h => by
    rcases h with ⟨k', hk', hn', he, hE⟩ | ⟨hno, _⟩
    · obtain rfl : k' = k := dNum_inj k' k hk' hk (hn'.trans hn.symm)
      exact ⟨he, hE⟩
    · exact absurd hn (hno k hk)
theorem check_n (n : Int) (s : ByteArray) (w : World) (g : Gl w) (hs : s.size ≤ 1000000) (hno : ∀ k, k < 23 → dNum k ≠ n) :
    Calls Tryd.prog 12 #[.int .i64 n, .string s] w fun e w' => e = .returned (.int .i64 6) ∧ Ext w w' :=
  (check_any n s w g hs).mono fun e w' h => by
    rcases h with ⟨k', hk', hn', he, hE⟩ | ⟨_, he, hE⟩
    · exact absurd hn' (hno k' hk')
    · exact ⟨he, hE⟩
theorem spec13 : specAgg 13 = .agg #[.int .i64 48, .string ⟨#[101, 120, 116, 114, 97]⟩, .int .i64 2, .int .i64 255, .int .i64 3] := rfl
theorem num15 : dNum 15 = 52 := rfl
theorem no5 : ∀ k, k < 23 → dNum k ≠ 5 := fun k hk => below23 (P := fun k => dNum k ≠ 5) (by decide) k hk

def AwakePost (w : World) (e : Ending) (w' : World) : Prop := e = .returned (.bool true) ∧ Ext w w'
set_option maxRecDepth 100000 in
set_option maxHeartbeats 4000000 in
theorem awake_any (w : World) (g : Gl w) : Calls Tryd.prog 9 #[] w (AwakePost w) := by
  go_enter Tryd.func9, Tryd.ntmps9
  go_wp2_with fail
  refine (enc_c 2 0 _ ⟨#[49, 54, 52, 49, 49, 49, 49, 49, 49, 49, 49, 49, 49, 49, 49, 49, 49, 49]⟩ _ g (by decide) (by decide) rfl (by decide +kernel) (by decide +kernel)).mono ?_
  rintro e w1 ⟨rfl, hE1⟩
  go_wp2_with fail
  refine (enc_c 41 11 _ ⟨#[84, 49, 32, 32, 32, 32, 32, 32]⟩ _ (g.ext hE1) (by decide) (by decide) rfl (by decide +kernel) (by decide +kernel)).mono ?_
  rintro e w2 ⟨rfl, hE⟩
  have hE2 := hE1.trans hE
  clear hE1 hE
  go_wp2_with fail
  refine (dec_c 42 12 _ ⟨#[83, 72, 79, 80, 49]⟩ ⟨#[114, 101, 115, 116]⟩ _ (g.ext hE2) (by decide) (by decide) rfl (by decide +kernel) (by decide +kernel) (by decide +kernel)).mono ?_
  rintro e w3 ⟨rfl, hE⟩
  have hE3 := hE2.trans hE
  clear hE2 hE
  go_wp2_with fail
  refine (dec_e 42 12 _ 1 _ (g.ext hE3) (by decide) (by decide) rfl (by decide +kernel) (by decide)).mono ?_
  rintro e w4 ⟨rfl, hE⟩
  have hE4 := hE3.trans hE
  clear hE3 hE
  go_wp2_with fail
  refine (find_c 48 13 _ (g.ext hE4) (by decide) rfl).mono ?_
  rintro e w5 ⟨rfl, hE⟩
  have hE5 := hE4.trans hE
  clear hE4 hE
  rw [spec13]
  go_wp2_with fail
  refine (byName_c _ 15 _ (g.ext (hE5.alloc _)) (by decide) rfl).mono ?_
  rintro e w6 ⟨rfl, hE⟩
  rw [num15]
  have hB := (Blk.new w5 _ _).ext hE
  have z0 := hB.cell 0
  have z1 := hB.cell 1
  have z2 := hB.cell 2
  have z3 := hB.cell 3
  have z4 := hB.cell 4
  have hE6 := (hE5.alloc _).trans hE
  clear hE5 hE hB
  simp at z0 z1 z2 z3 z4
  go_wp2_with fail
  refine (check_c 52 15 _ _ (g.ext hE6) (by decide) (by decide) rfl).mono ?_
  rintro e w7 ⟨rfl, hE⟩
  have hE7 := hE6.trans hE
  clear hE6 hE
  rw [show chkK 15 ⟨#[48, 49, 50, 51, 52, 53, 54, 55, 56, 57, 65, 66, 67, 68, 69, 70]⟩ = 2 by decide +kernel]
  go_wp2_with fail
  refine (check_n 5 _ _ (g.ext hE7) (by decide) no5).mono ?_
  rintro e w8 ⟨rfl, hE⟩
  have hE8 := hE7.trans hE
  clear hE7 hE
  go_wp2_with fail
  refine (required_810 _).mono ?_
  rintro e w9 ⟨v, rfl, hi, hE⟩
  have hE9 := hE8.trans hE
  clear hE8 hE
  go_wp2_with fail
  refine (same_any v _ [11, 39] [11, 39] _ (hi.ext ((Ext.refl w9).alloc _)) (ints_lit w9 [11, 39] 2) (by decide) (by decide)).mono ?_
  rintro e w10 ⟨rfl, hE⟩
  have hE10 := (hE9.alloc _).trans hE
  clear hE9 hE
  go_wp2
  go_ret
  exact ⟨rfl, hE10⟩
end Go.Proofs.YthokhncdpfaifaaDoor
