/- The contracts of Find, Check, Encode and Decode, restated with functions: both the program's and the reference's return the same function's value. -/
import Derived.Test.YthokhncdpfaifaaGreatDoorRdecode
import Derived.Test.YthokhncdpfaifaaGreatDoorRencode
namespace Go.Proofs.YthokhncdpfaifaaGreatDoor
open Go.RowKit
/-- The row of an element's number. -/
def rowOf (n : Int) : Option Nat := (List.range 23).find? (fun k => dNum k == n)
theorem rowOf_some {n : Int} {k : Nat} (hk : k < 23) (hn : dNum k = n) : rowOf n = some k := by
  unfold rowOf
  cases h : (List.range 23).find? (fun k => dNum k == n) with
  | none =>
    have := List.find?_eq_none.1 h k (List.mem_range.2 hk)
    simp [hn] at this
  | some j =>
    have h1 := List.find?_some h
    have h2 := List.mem_range.1 (List.mem_of_find?_eq_some h)
    rw [dNum_inj j k h2 hk ((by simpa using h1 : dNum j = n).trans hn.symm)]
theorem rowOf_none {n : Int} (h : ∀ k, k < 23 → dNum k ≠ n) : rowOf n = none := by
  unfold rowOf
  rw [List.find?_eq_none]
  intro k hk
  simpa using h k (List.mem_range.1 hk)
theorem rowOf_spec {n : Int} {k : Nat} (h : rowOf n = some k) : k < 23 ∧ dNum k = n := by
  unfold rowOf at h
  exact ⟨List.mem_range.1 (List.mem_of_find?_eq_some h), by simpa using List.find?_some h⟩
theorem rowOf_no {n : Int} (h : rowOf n = none) : ∀ k, k < 23 → dNum k ≠ n := by
  unfold rowOf at h
  intro k hk
  have := List.find?_eq_none.1 h k (List.mem_range.2 hk)
  simpa using this
def findV (n : Int) : Value := match rowOf n with | some k => specAgg k | none => specZero
def chkC (n : Int) (s : ByteArray) : Int := match rowOf n with | some k => chkK k s | none => 6
def encS (n : Int) (s : ByteArray) : ByteArray := match rowOf n with | some k => if chkK k s = 0 then ⟨(encL k s).toArray⟩ else ⟨#[]⟩ | none => ⟨#[]⟩
def decC (n : Int) (s : ByteArray) : Int := match rowOf n with | some k => decE k s | none => 6
def decV (n : Int) (s : ByteArray) : ByteArray := match rowOf n with | some k => if decE k s = 0 then ⟨(valD k s).toArray⟩ else ⟨#[]⟩ | none => ⟨#[]⟩
def decR (n : Int) (s : ByteArray) : ByteArray := match rowOf n with | some k => if decE k s = 0 then ⟨(s.data.toList.drop (rawA k + rawN k s)).toArray⟩ else ⟨#[]⟩ | none => ⟨#[]⟩
def One (v : Value) (w : World) (e : Ending) (w' : World) : Prop := e = .returned v ∧ Ext w w'
theorem FindPost.one {n : Int} {w : World} {e : Ending} {w' : World} (h : FindPost n w e w') : One (.tuple #[findV n, .bool (rowOf n).isSome]) w e w' := by
  rcases h with ⟨k, hk, hn, he, hE⟩ | ⟨hno, he, hE⟩
  · unfold One findV; rw [rowOf_some hk hn]; exact ⟨he, hE⟩
  · unfold One findV; rw [rowOf_none hno]; exact ⟨he, hE⟩
theorem CheckPost.one {n : Int} {s : ByteArray} {w : World} {e : Ending} {w' : World} (h : CheckPost n s w e w') : One (.int .i64 (chkC n s)) w e w' := by
  rcases h with ⟨k, hk, hn, he, hE⟩ | ⟨hno, he, hE⟩
  · unfold One chkC; rw [rowOf_some hk hn]; exact ⟨he, hE⟩
  · unfold One chkC; rw [rowOf_none hno]; exact ⟨he, hE⟩
theorem EncPost.one {n : Int} {s : ByteArray} {w : World} {e : Ending} {w' : World} (h : EncPost n s w e w') : One (.tuple #[.string (encS n s), .int .i64 (chkC n s)]) w e w' := by
  rcases h with ⟨k, hk, hn, hz, he, hE⟩ | ⟨k, hk, hn, hz, r, hr, he, hE⟩ | ⟨hno, he, hE⟩
  · unfold One chkC encS; rw [rowOf_some hk hn]; simp only [if_neg hz]; exact ⟨he, hE⟩
  · unfold One chkC encS; rw [rowOf_some hk hn]; simp only [if_pos hz]; rw [← hr, hz]
    refine ⟨?_, hE⟩
    rw [he]
  · unfold One chkC encS; rw [rowOf_none hno]; exact ⟨he, hE⟩
theorem DecPost.one {n : Int} {s : ByteArray} {w : World} {e : Ending} {w' : World} (h : DecPost n s w e w') : One (.tuple #[.string (decV n s), .string (decR n s), .int .i64 (decC n s)]) w e w' := by
  rcases h with ⟨k, hk, hn, hz, he, hE⟩ | ⟨k, hk, hn, hz, _, v, r, hv, hr, he, hE⟩ | ⟨hno, he, hE⟩
  · unfold One decC decV decR; rw [rowOf_some hk hn]; simp only [if_neg hz]; exact ⟨he, hE⟩
  · unfold One decC decV decR; rw [rowOf_some hk hn]; simp only [if_pos hz]; rw [← hv, ← hr, hz]
    refine ⟨?_, hE⟩
    rw [he]
  · unfold One decC decV decR; rw [rowOf_none hno]; exact ⟨he, hE⟩
theorem findF (n : Int) (w : World) (g : Gl w) : Calls Tryz.prog 67 #[.int .i64 n] w (One (.tuple #[findV n, .bool (rowOf n).isSome]) w) := (find_any n w g).mono fun _ _ h => h.one
theorem rFindF (n : Int) (w : World) : Calls Tryz.prog 82 #[.int .i64 n] w (One (.tuple #[findV n, .bool (rowOf n).isSome]) w) := (rFind_any n w).mono fun _ _ h => h.one
theorem checkF (n : Int) (s : ByteArray) (w : World) (g : Gl w) (hs : s.size ≤ 1000000) : Calls Tryz.prog 44 #[.int .i64 n, .string s] w (One (.int .i64 (chkC n s)) w) := (check_any n s w g hs).mono fun _ _ h => h.one
theorem encodeF (n : Int) (s : ByteArray) (w : World) (g : Gl w) (hs : s.size ≤ 1000000) : Calls Tryz.prog 33 #[.int .i64 n, .string s] w (One (.tuple #[.string (encS n s), .int .i64 (chkC n s)]) w) := (encode_any n s w g hs).mono fun _ _ h => h.one
theorem rEncodeF (n : Int) (s : ByteArray) (w : World) (hs : s.size ≤ 1000000) : Calls Tryz.prog 43 #[.int .i64 n, .string s] w (One (.tuple #[.string (encS n s), .int .i64 (chkC n s)]) w) := (rEncode_any n s w hs).mono fun _ _ h => h.one
theorem decodeF (n : Int) (s : ByteArray) (w : World) (g : Gl w) (hs : s.size ≤ 1000000) : Calls Tryz.prog 51 #[.int .i64 n, .string s] w (One (.tuple #[.string (decV n s), .string (decR n s), .int .i64 (decC n s)]) w) := (decode_any n s w g hs).mono fun _ _ h => h.one
theorem rDecodeF (n : Int) (s : ByteArray) (w : World) (hs : s.size ≤ 1000000) : Calls Tryz.prog 55 #[.int .i64 n, .string s] w (One (.tuple #[.string (decV n s), .string (decR n s), .int .i64 (decC n s)]) w) := (rDecode_any n s w hs).mono fun _ _ h => h.one

end Go.Proofs.YthokhncdpfaifaaGreatDoor
