/- Contracts of wire.Reader's methods (walks; the closures are entered in place). Contract of wire.Reader.Var (walk; the closure is entered in place). Written by gen/rdvar.py. Contract of element.Decode (walk). Written by gen/decode.py. Contract of the reference's Decode (walk). Written by gen/rdecode.py. -/
import Derived.Test.YtkggloeaojkhaaaGreatDoorQc
import Derived.Outline
import Derived.BigQuiet
import Derived.Deep.QuietTactic
import Derived.OneCell
import Derived.Test.YtkggloeaojkhaaaGreatDoorQd
namespace Go.Proofs.YtkggloeaojkhaaaGreatDoor
open Go.RowKit

/-- Block r is a reader. -/
def Rd (w : World) (r : Nat) (rest : ByteArray) (err : Int) : Prop := w.heap[r]? = some (.cells #[.string rest, .int .i64 err] 240 (0, 0))
theorem Rd.lt {w : World} {r : Nat} {rest : ByteArray} {err : Int} (h : Rd w r rest err) : r < w.heap.size := (Array.getElem?_eq_some_iff.1 h).1
theorem Rd.c0 {w : World} {r : Nat} {rest : ByteArray} {err : Int} (h : Rd w r rest err) : w.cell? ⟨r, 0, none⟩ = some (.string rest) := by simp [World.cell?, Rd] at *; rw [h]; rfl
theorem Rd.c1 {w : World} {r : Nat} {rest : ByteArray} {err : Int} (h : Rd w r rest err) : w.cell? ⟨r, 1, none⟩ = some (.int .i64 err) := by simp [World.cell?, Rd] at *; rw [h]; rfl
theorem Rd.f0 {w : World} {r : Nat} {rest : ByteArray} {err : Int} (h : Rd w r rest err) : w.frozen? ⟨r, 0, none⟩ = false := by simp [World.frozen?, Rd] at *; rw [h]; rfl
theorem Rd.f1 {w : World} {r : Nat} {rest : ByteArray} {err : Int} (h : Rd w r rest err) : w.frozen? ⟨r, 1, none⟩ = false := by simp [World.frozen?, Rd] at *; rw [h]; rfl

/-- w' is w with new blocks and draws, and block r may have changed. -/
structure ExtBut (r : Nat) (w w' : World) : Prop where
 os : w'.os = w.os
 tape : w'.tape = w.tape
 output : w'.output = w.output
 size : w.heap.size ≤ w'.heap.size
 block : ∀ k, k < w.heap.size → k ≠ r → w'.heap[k]? = w.heap[k]?
theorem ExtBut.refl (r : Nat) (w : World) : ExtBut r w w := ⟨rfl, rfl, rfl, Nat.le_refl _, fun _ _ _ => rfl⟩
theorem ExtBut.alloc {r : Nat} {a w : World} (h : ExtBut r a w) (o : Obj) : ExtBut r a (w.alloc o) :=
 ⟨h.os, h.tape, h.output, by have := h.size; simp; omega, fun k hk hr => by rw [Below.heap_alloc _ _ _ (Nat.lt_of_lt_of_le hk h.size)]; exact h.block k hk hr⟩
theorem ExtBut.setCell {r : Nat} {a w : World} (h : ExtBut r a w) (o : Nat) (v : Value) : ExtBut r a (w.setCell ⟨r, o, none⟩ v) :=
 ⟨h.os, h.tape, h.output, by have := h.size; simp; omega, fun k hk hr => by rw [Below.heap_setCell _ _ _ _ hr]; exact h.block k hk hr⟩
theorem ExtBut.drew {r : Nat} {a w : World} (h : ExtBut r a w) : ExtBut r a w.drew := ⟨h.os, h.tape, h.output, h.size, h.block⟩
theorem ExtBut.after {r : Nat} {a b c : World} (h : Ext a b) (k : ExtBut r b c) (hr : a.heap.size ≤ r) : Ext a c :=
 ⟨k.os.trans (Below.os h), k.tape.trans (Below.tape h), k.output.trans (Below.output h), Nat.le_trans h.size k.size, fun i hi => (k.block i (Nat.lt_of_lt_of_le hi h.size) (by omega)).trans (h.block i hi)⟩
theorem ExtBut.of_ext {r : Nat} {a b : World} (h : Ext a b) : ExtBut r a b := ⟨Below.os h, Below.tape h, Below.output h, h.size, fun k hk _ => h.block k hk⟩
theorem ExtBut.trans {r : Nat} {a b c : World} (h : ExtBut r a b) (k : ExtBut r b c) : ExtBut r a c :=
 ⟨k.os.trans h.os, k.tape.trans h.tape, k.output.trans h.output, Nat.le_trans h.size k.size, fun i hi hr => (k.block i (Nat.lt_of_lt_of_le hi h.size) hr).trans (h.block i hi hr)⟩

theorem Rd.set0 {w : World} {r : Nat} {rest : ByteArray} {err : Int} (h : Rd w r rest err) (s : ByteArray) : Rd (w.setCell ⟨r, 0, none⟩ (.string s)) r s err := by
 have := h.lt
 simp only [Rd, World.setCell] at *
 rw [Array.getElem?_modify]; simp [h]
theorem Rd.set1 {w : World} {r : Nat} {rest : ByteArray} {err : Int} (h : Rd w r rest err) (e : Int) : Rd (w.setCell ⟨r, 1, none⟩ (.int .i64 e)) r rest e := by
 have := h.lt
 simp only [Rd, World.setCell] at *
 rw [Array.getElem?_modify]; simp [h]
theorem Rd.alloc {w : World} {r : Nat} {rest : ByteArray} {err : Int} (h : Rd w r rest err) (o : Obj) : Rd (w.alloc o) r rest err := by
 have := h.lt
 unfold Rd at *
 rw [Below.heap_alloc _ _ _ this, h]
theorem Rd.ext {w w' : World} {r : Nat} {rest : ByteArray} {err : Int} (h : Rd w r rest err) (k : Ext w w') : Rd w' r rest err := by
 have := h.lt
 unfold Rd at *
 rw [k.block _ this, h]

/-- A reader's method has returned v. -/
def RdPost (r : Nat) (v : Value) (rest : ByteArray) (err : Int) (w : World) (e : Ending) (w' : World) : Prop := e = .returned v ∧ Rd w' r rest err ∧ ExtBut r w w'

set_option maxHeartbeats 400000 in
theorem take_yes (r : Nat) (rest : ByteArray) (n : Int) (w : World) (h : Rd w r rest 0) (h0 : 0 ≤ n) (h1 : n ≤ rest.size) (_hs : rest.size ≤ 1000000) :
 Calls Tryz.prog 116 #[.pointer (some ⟨r, 0, none⟩), .int .i64 n] w (RdPost r (.string (rest.extract 0 n.toNat)) (rest.extract n.toNat rest.size) 0 w) := by
 have hr := h.lt
 have c0 := h.c0
 have c1 := h.c1
 have f0 := h.f0
 have f1 := h.f1
 go_enter Tryz.func116, Tryz.ntmps116
 go_wp2
 go_end0
 go_wp2
 go_ret
 exact ⟨rfl, ((h.set0 _).alloc _).alloc _, (((ExtBut.refl r w).setCell _ _).alloc _).alloc _⟩
set_option maxHeartbeats 400000 in
theorem take_no (r : Nat) (rest : ByteArray) (n : Int) (w : World) (h : Rd w r rest 0) (h0 : 0 ≤ n) (h1 : rest.size < n) (_hs : rest.size ≤ 1000000) :
 Calls Tryz.prog 116 #[.pointer (some ⟨r, 0, none⟩), .int .i64 n] w (RdPost r (.string ⟨#[]⟩) rest 1 w) := by
 have hr := h.lt
 have c0 := h.c0
 have c1 := h.c1
 have f0 := h.f0
 have f1 := h.f1
 go_enter Tryz.func116, Tryz.ntmps116
 go_wp2
 refine bodyPost_ret (results_none rfl _ _ _) rfl ?_
 go_wp2
 go_ret
 exact ⟨rfl, ((h.set1 _).alloc _).alloc _, (((ExtBut.refl r w).setCell _ _).alloc _).alloc _⟩
set_option maxHeartbeats 400000 in
theorem newReader_any (s : ByteArray) (w : World) :
 Calls Tryz.prog 114 #[.string s] w fun e w' => e = .returned (.pointer (some ⟨w.heap.size, 0, none⟩)) ∧ Rd w' w.heap.size s 0 ∧ Ext w w' := by
 go_enter Tryz.func114, Tryz.ntmps114
 go_wp2
 go_ret
 refine ⟨rfl, ?_, (Ext.refl w).alloc _⟩
 show (w.heap.push _)[w.heap.size]? = _
 simp
set_option maxHeartbeats 400000 in
theorem err_any (r : Nat) (rest : ByteArray) (err : Int) (w : World) (h : Rd w r rest err) :
 Calls Tryz.prog 117 #[.pointer (some ⟨r, 0, none⟩)] w fun e w' => e = .returned (.int .i64 err) ∧ w = w' := by
 have c1 := h.c1
 go_enter Tryz.func117, Tryz.ntmps117
 go_wp2
 go_ret
 exact ⟨rfl, rfl⟩
set_option maxHeartbeats 400000 in
theorem left_any (r : Nat) (rest : ByteArray) (err : Int) (w : World) (h : Rd w r rest err) (_hs : rest.size ≤ 1000000) :
 Calls Tryz.prog 119 #[.pointer (some ⟨r, 0, none⟩)] w fun e w' => e = .returned (.int .i64 rest.size) ∧ w = w' := by
 have c0 := h.c0
 go_enter Tryz.func119, Tryz.ntmps119
 go_wp2
 go_ret
 exact ⟨rfl, rfl⟩
end Go.Proofs.YtkggloeaojkhaaaGreatDoor
namespace Go.Proofs.YtkggloeaojkhaaaGreatDoor
open Go.RowKit

/-- wire.Reader.Var at digits 2 or 3: the five ways. -/
def VarRd (r : Nat) (rest : ByteArray) (d most : Nat) (w : World) (e : Ending) (w' : World) : Prop :=
 (rest.size < d ∧ RdPost r (.string ⟨#[]⟩) rest 1 w e w') ∨
 (d ≤ rest.size ∧ (rest.data.toList.take d).all digB = false ∧ RdPost r (.string ⟨#[]⟩) rest 2 w e w') ∨
 (d ≤ rest.size ∧ (rest.data.toList.take d).all digB = true ∧ ∃ n : Nat, numL (rest.data.toList.take d) = n ∧
  ((most < n ∧ RdPost r (.string ⟨#[]⟩) rest 3 w e w') ∨
   (n ≤ most ∧ rest.size < d + n ∧ RdPost r (.string ⟨#[]⟩) rest 1 w e w') ∨
   (n ≤ most ∧ d + n ≤ rest.size ∧ RdPost r (.string (rest.extract d (d + n))) (rest.extract (d + n) rest.size) 0 w e w')))
theorem NumP.bd {s : ByteArray} {n : Int} {ok : Bool} (h : NumP s n ok) (hs : s.size ≤ 15) : 0 ≤ n ∧ n ≤ 1000000000000000 := by
 obtain ⟨h1, h2⟩ := h
 cases ok
 · simp at h2; omega
 · simp at h2; rw [h2]; exact numL_bd15 _ h1.symm (by simpa using hs)
theorem extract_list (s : ByteArray) (a b : Nat) : (s.extract a b).data.toList = (s.data.toList.take b).drop a := by
 rw [Lib.extract_data, List.drop_take]
theorem num_bad {s : ByteArray} {d : Nat} {n : Int} (h : NumP (s.extract 0 d) n false) : (s.data.toList.take d).all digB = false := by
 have := h.1.symm; rw [extract_list, List.drop_zero] at this; exact this
theorem num_good {s : ByteArray} {d : Nat} {n : Int} (h : NumP (s.extract 0 d) n true) : (s.data.toList.take d).all digB = true ∧ numL (s.data.toList.take d) = n := by
 have h1 := h.1.symm; have h2 := h.2; rw [extract_list, List.drop_zero] at h1 h2; exact ⟨h1, by simpa using h2.symm⟩


set_option maxHeartbeats 1000000 in
theorem rdVar2_any (r : Nat) (rest : ByteArray) (most : Nat) (w : World) (h : Rd w r rest 0) (hm : most ≤ 255) (hs : rest.size ≤ 1000000) :
 Calls Tryz.prog 115 #[.pointer (some ⟨r, 0, none⟩), .int .i64 2, .int .i64 most] w (VarRd r rest 2 most w) := by
 have hr := h.lt
 have hr1 : r < w.heap.size + 1 := by omega
 have hr2 : r < w.heap.size + 2 := by omega
 have c0 := h.c0
 have c1 := h.c1
 have f0 := h.f0
 have f1 := h.f1
 by_cases g1 : rest.size < 2
 · go_enter Tryz.func115, Tryz.ntmps115
   go_wp2
   refine bodyPost_ret (results_none rfl _ _ _) rfl ?_
   go_wp2
   go_ret
   exact Or.inl ⟨g1, rfl, (((h.set1 _).alloc _).alloc _).alloc _, ((((ExtBut.refl r w).setCell _ _).alloc _).alloc _).alloc _⟩
 · have hx : (rest.extract 0 2).size = 2 := by simp; omega
   go_enter Tryz.func115, Tryz.ntmps115
   go_wp2_with (first | (go_at_call 152; refine (numberOf_any (rest.extract 0 2) _ (by omega)).mono ?_; rintro e w1 ⟨n, ok, rfl, hN, rfl⟩; obtain ⟨n, rfl⟩ := Int.eq_ofNat_of_zero_le (hN.bd (by omega)).1; have hb := (hN.bd (by omega)).2; cases ok) | go_in)
   · have hall := num_bad hN
     refine bodyPost_ret (results_none rfl _ _ _) rfl ?_
     go_wp2
     go_ret
     exact Or.inr (Or.inl ⟨by omega, hall, rfl, (((h.set1 _).alloc _).alloc _).alloc _, ((((ExtBut.refl r w).setCell _ _).alloc _).alloc _).alloc _⟩)
   · have hall := num_good hN
     refine bodyPost_ret (results_none rfl _ _ _) rfl ?_
     go_wp2
     go_ret
     exact Or.inr (Or.inr ⟨by omega, hall.1, n, hall.2, Or.inr (Or.inl ⟨by omega, by omega, rfl, (((h.set1 _).alloc _).alloc _).alloc _, ((((ExtBut.refl r w).setCell _ _).alloc _).alloc _).alloc _⟩)⟩)
   · have hall := num_good hN
     go_end0
     go_wp2
     go_ret
     exact Or.inr (Or.inr ⟨by omega, hall.1, n, hall.2, Or.inr (Or.inr ⟨by omega, by omega, rfl, (((h.set0 _).alloc _).alloc _).alloc _, ((((ExtBut.refl r w).setCell _ _).alloc _).alloc _).alloc _⟩)⟩)
   · have hall := num_good hN
     refine bodyPost_ret (results_none rfl _ _ _) rfl ?_
     go_wp2
     go_ret
     exact Or.inr (Or.inr ⟨by omega, hall.1, n, hall.2, Or.inl ⟨by omega, rfl, (((h.set1 _).alloc _).alloc _).alloc _, ((((ExtBut.refl r w).setCell _ _).alloc _).alloc _).alloc _⟩⟩)

set_option maxHeartbeats 1000000 in
theorem rdVar3_any (r : Nat) (rest : ByteArray) (most : Nat) (w : World) (h : Rd w r rest 0) (hm : most ≤ 255) (hs : rest.size ≤ 1000000) :
 Calls Tryz.prog 115 #[.pointer (some ⟨r, 0, none⟩), .int .i64 3, .int .i64 most] w (VarRd r rest 3 most w) := by
 have hr := h.lt
 have hr1 : r < w.heap.size + 1 := by omega
 have hr2 : r < w.heap.size + 2 := by omega
 have c0 := h.c0
 have c1 := h.c1
 have f0 := h.f0
 have f1 := h.f1
 by_cases g1 : rest.size < 3
 · go_enter Tryz.func115, Tryz.ntmps115
   go_wp2
   refine bodyPost_ret (results_none rfl _ _ _) rfl ?_
   go_wp2
   go_ret
   exact Or.inl ⟨g1, rfl, (((h.set1 _).alloc _).alloc _).alloc _, ((((ExtBut.refl r w).setCell _ _).alloc _).alloc _).alloc _⟩
 · have hx : (rest.extract 0 3).size = 3 := by simp; omega
   go_enter Tryz.func115, Tryz.ntmps115
   go_wp2_with (first | (go_at_call 152; refine (numberOf_any (rest.extract 0 3) _ (by omega)).mono ?_; rintro e w1 ⟨n, ok, rfl, hN, rfl⟩; obtain ⟨n, rfl⟩ := Int.eq_ofNat_of_zero_le (hN.bd (by omega)).1; have hb := (hN.bd (by omega)).2; cases ok) | go_in)
   · have hall := num_bad hN
     refine bodyPost_ret (results_none rfl _ _ _) rfl ?_
     go_wp2
     go_ret
     exact Or.inr (Or.inl ⟨by omega, hall, rfl, (((h.set1 _).alloc _).alloc _).alloc _, ((((ExtBut.refl r w).setCell _ _).alloc _).alloc _).alloc _⟩)
   · have hall := num_good hN
     refine bodyPost_ret (results_none rfl _ _ _) rfl ?_
     go_wp2
     go_ret
     exact Or.inr (Or.inr ⟨by omega, hall.1, n, hall.2, Or.inr (Or.inl ⟨by omega, by omega, rfl, (((h.set1 _).alloc _).alloc _).alloc _, ((((ExtBut.refl r w).setCell _ _).alloc _).alloc _).alloc _⟩)⟩)
   · have hall := num_good hN
     go_end0
     go_wp2
     go_ret
     exact Or.inr (Or.inr ⟨by omega, hall.1, n, hall.2, Or.inr (Or.inr ⟨by omega, by omega, rfl, (((h.set0 _).alloc _).alloc _).alloc _, ((((ExtBut.refl r w).setCell _ _).alloc _).alloc _).alloc _⟩)⟩)
   · have hall := num_good hN
     refine bodyPost_ret (results_none rfl _ _ _) rfl ?_
     go_wp2
     go_ret
     exact Or.inr (Or.inr ⟨by omega, hall.1, n, hall.2, Or.inl ⟨by omega, rfl, (((h.set1 _).alloc _).alloc _).alloc _, ((((ExtBut.refl r w).setCell _ _).alloc _).alloc _).alloc _⟩⟩)
end Go.Proofs.YtkggloeaojkhaaaGreatDoor
namespace Go.Proofs.YtkggloeaojkhaaaGreatDoor
open Go.RowKit
/-- The digits of a length, the length, the error of reading, the value as it is read, the value, the error of decoding: of the element of row k at the beginning of s. -/
def rawA (k : Nat) : Nat := (dVar k).toNat
def rawN (k : Nat) (s : ByteArray) : Nat := if 0 < dVar k then (numL (s.data.toList.take (rawA k))).toNat else (dLen k).toNat
def rawE (k : Nat) (s : ByteArray) : Int :=
 if s.size < rawA k then 1 else if (s.data.toList.take (rawA k)).all digB = false then 2 else if dLen k < rawN k s then 3 else if s.size < rawA k + rawN k s then 1 else 0
def rawV (k : Nat) (s : ByteArray) : List UInt8 := (s.data.toList.take (rawA k + rawN k s)).drop (rawA k)
def valD (k : Nat) (s : ByteArray) : List UInt8 := if dNum k = 41 then Lib.trimRightB (rawV k s) 32 else rawV k s
def decE (k : Nat) (s : ByteArray) : Int := if rawE k s = 0 then chkK k ⟨(valD k s).toArray⟩ else rawE k s
def DecPost (n : Int) (s : ByteArray) (w : World) (e : Ending) (w' : World) : Prop :=
 (∃ k, k < 23 ∧ dNum k = n ∧ decE k s ≠ 0 ∧ e = .returned (.tuple #[.string ⟨#[]⟩, .string ⟨#[]⟩, .int .i64 (decE k s)]) ∧ Ext w w') ∨
 (∃ k, k < 23 ∧ dNum k = n ∧ decE k s = 0 ∧ rawE k s = 0 ∧ ∃ v r : ByteArray, v.data.toList = valD k s ∧ r.data.toList = s.data.toList.drop (rawA k + rawN k s) ∧ e = .returned (.tuple #[.string v, .string r, .int .i64 0]) ∧ Ext w w') ∨
 ((∀ k, k < 23 → dNum k ≠ n) ∧ e = .returned (.tuple #[.string ⟨#[]⟩, .string ⟨#[]⟩, .int .i64 6]) ∧ Ext w w')
theorem bytes_of {v : ByteArray} {l : List UInt8} (h : v.data.toList = l) : v = ⟨l.toArray⟩ := by subst h; cases v; simp
theorem dec_bad {k : Nat} {s : ByteArray} {e : Int} (h : rawE k s = e) (he : e ≠ 0) : decE k s = e := by unfold decE; rw [if_neg (by rw [h]; exact he), h]
theorem dec_good {k : Nat} {s v : ByteArray} (h : rawE k s = 0) (hv : v.data.toList = valD k s) : decE k s = chkK k v := by unfold decE; rw [if_pos h, bytes_of hv]
theorem raw_short {k : Nat} {s : ByteArray} (h : s.size < rawA k) : rawE k s = 1 := by unfold rawE; rw [if_pos h]
theorem raw_form {k : Nat} {s : ByteArray} (h : rawA k ≤ s.size) (h2 : (s.data.toList.take (rawA k)).all digB = false) : rawE k s = 2 := by unfold rawE; rw [if_neg (by omega), if_pos h2]
theorem raw_long {k : Nat} {s : ByteArray} (h : rawA k ≤ s.size) (h2 : (s.data.toList.take (rawA k)).all digB = true) (h3 : dLen k < rawN k s) : rawE k s = 3 := by unfold rawE; rw [if_neg (by omega), if_neg (by simp [h2]), if_pos h3]
theorem raw_short2 {k : Nat} {s : ByteArray} (h : rawA k ≤ s.size) (h2 : (s.data.toList.take (rawA k)).all digB = true) (h3 : (rawN k s : Int) ≤ dLen k) (h4 : s.size < rawA k + rawN k s) : rawE k s = 1 := by unfold rawE; rw [if_neg (by omega), if_neg (by simp [h2]), if_neg (by omega), if_pos h4]
theorem raw_ok {k : Nat} {s : ByteArray} (h2 : (s.data.toList.take (rawA k)).all digB = true) (h3 : (rawN k s : Int) ≤ dLen k) (h4 : rawA k + rawN k s ≤ s.size) : rawE k s = 0 := by unfold rawE; rw [if_neg (by omega), if_neg (by simp [h2]), if_neg (by omega), if_neg (by omega)]
theorem trimRight_any (s : ByteArray) (w : World) (hs : s.size ≤ 1000000) : Calls Tryz.prog 118 #[.string s, .string ⟨#[32]⟩] w fun e w' => (∃ v : ByteArray, v.data.toList = Lib.trimRightB s.data.toList 32 ∧ e = .returned (.string v)) ∧ w = w' :=
 (Tryz.strings_TrimRight_one s 32 (by decide) w (by omega)).mono fun _ _ ⟨a, b⟩ => ⟨⟨_, by simp, a⟩, b.symm⟩
theorem trimR_len (l : List UInt8) (c : UInt8) : (Lib.trimRightB l c).length ≤ l.length := by
 have := (List.dropWhile_sublist (l := l.reverse) (· == c)).length_le; simpa [Lib.trimRightB] using this
theorem size_list (s : ByteArray) : s.data.toList.length = s.size := by rw [Array.length_toList]; rfl


set_option maxRecDepth 8000 in
set_option maxHeartbeats 4000000 in
theorem decode_any (n : Int) (s : ByteArray) (w : World) (g : Gl w) (hs : s.size ≤ 1000000) :
 Calls Tryz.prog 67 #[.int .i64 n, .string s] w (DecPost n s w) := by
 go_enter Tryz.func67, Tryz.ntmps67
 go_wp2_with fail
 refine (find_any n _ g).mono ?_
 rintro e w1 (⟨k, hk, hn, rfl, hE⟩ | ⟨hno, rfl, hE⟩)
 · have hVc := Lib.hid (var_cases k hk)
   have hN := Lib.hid hn
   clear hn
   obtain ⟨⟨l1, l2⟩, ⟨v1, v2⟩, _⟩ := row_bd k hk
   obtain ⟨ln, hln⟩ := Int.eq_ofNat_of_zero_le (show 0 ≤ dLen k by omega)
   have hLn := Lib.hid hln
   unfold specAgg
   rw [hln] at l1 l2 ⊢
   clear hln
   rcases hVc.out.1 with hv | ⟨hv, hlen⟩ | hv
   · have hA : rawA k = 0 := by unfold rawA; omega
     have hNn : rawN k s = ln := by unfold rawN; rw [if_neg (by omega), hLn.out]; simp
     have hAh := Lib.hid hA
     have hNh := Lib.hid hNn
     clear hA hNn
     rw [hv]
     go_wp2_with fail
     refine (newReader_any s _).mono ?_
     rintro e w2 ⟨rfl, hRd0, hE20⟩
     have hE2 : Ext w w2 := (hE.alloc _).trans hE20
     have hsz := hE.size
     have hB := (Blk.new w1 _ _).ext hE20
     have q3 := hB.cell 3
     have q4 := hB.cell 4
     clear hB hE20
     simp only [World.size_alloc] at hRd0
     simp at q3 q4
     by_cases hsh : s.size < ln
     · go_wp2_with fail
       refine (take_no _ s ln _ hRd0 (by omega) (by omega) hs).mono ?_
       rintro e w3 ⟨rfl, hRd, hX⟩
       have hE3 := hX.after hE2 (by omega)
       clear hX
       go_wp2_with fail
       refine (err_any _ _ _ _ hRd).mono ?_
       rintro e w4 ⟨rfl, rfl⟩
       have hdb := Lib.hid (dec_bad (raw_short2 (by rw [hAh.out]; omega) (by rw [hAh.out]; rfl) (by rw [hNh.out, hLn.out]; omega) (by rw [hAh.out, hNh.out]; omega)) (by decide))
       go_wp2
       go_ret3
       exact Or.inl ⟨k, hk, hN.out, by rw [hdb.out]; decide, by rw [hdb.out]; rfl, hE3⟩
     · go_wp2_with fail
       refine (take_yes _ s ln _ hRd0 (by omega) (by omega) hs).mono ?_
       rintro e w3 ⟨rfl, hRd, hX⟩
       have hraw := Lib.hid (raw_ok (k := k) (s := s) (by rw [hAh.out]; rfl) (by rw [hNh.out, hLn.out]; omega) (by rw [hAh.out, hNh.out]; omega))
       generalize hrvE : s.extract 0 (ln : Int).toNat = rv at *
       generalize hrrE : s.extract (ln : Int).toNat s.size = rr at *
       have hrv : Hid (rv.data.toList = rawV k s) := Lib.hid (by rw [← hrvE, extract_list]; unfold rawV; rw [hAh.out, hNh.out]; simp)
       have hrr : Hid (rr.data.toList = s.data.toList.drop (rawA k + rawN k s)) := Lib.hid (by rw [← hrrE, extract_list, hAh.out, hNh.out, List.take_of_length_le (by rw [size_list]; omega)]; simp)
       have hrvs : rv.size ≤ 1000000 := by rw [← hrvE]; simp; omega
       have hrrs : rr.size ≤ 1000000 := by rw [← hrrE]; simp; omega
       clear hrvE hrrE
       have hE3 := hX.after hE2 (by omega)
       clear hX
       go_wp2_with fail
       by_cases h41 : n = 41
       · subst h41
         refine (err_any _ _ _ _ hRd).mono ?_
         rintro e w4 ⟨rfl, rfl⟩
         go_wp2_with fail
         refine (trimRight_any rv _ (by omega)).mono ?_
         rintro e w4 ⟨⟨v, hv, rfl⟩, rfl⟩
         have hvl : v.data.toList = valD k s := by unfold valD; rw [if_pos hN.out, hv, hrv.out]
         have hvs : v.size ≤ 1000000 := by rw [← size_list, hv]; have := trimR_len rv.data.toList 32; rw [size_list] at this; omega
         clear hv
         have hdg := Lib.hid (dec_good hraw.out hvl)
         have hVl := Lib.hid hvl
         clear hvl
         go_wp2_with fail
         refine (check_any 41 v _ (g.ext hE3) hvs).mono ?_
         rintro e w5 (⟨k', hk', hn', rfl, hE5⟩ | ⟨hno, rfl, hE5⟩)
         · obtain rfl : k' = k := dNum_inj k' k hk' hk (hn'.trans hN.out.symm)
           clear hn'
           have hRd5 := hRd.ext hE5
           by_cases hz : chkK k' v = 0
           · rw [hz]
             have hZ := Lib.hid hz
             clear hz
             go_wp2_with fail
             refine (left_any _ _ _ _ hRd5 (by omega)).mono ?_
             rintro e w6 ⟨rfl, rfl⟩
             go_wp2_with fail
             refine (take_yes _ rr rr.size _ hRd5 (by omega) (by omega) (by omega)).mono ?_
             rintro e w6 ⟨rfl, hRd6, hX6⟩
             have hE6 := hX6.after (hE3.trans hE5) (by omega)
             clear hX6 hRd6
             go_wp2
             go_ret3
             refine Or.inr (Or.inl ⟨k', hk, hN.out, by rw [hdg.out, hZ.out], hraw.out, v, _, hVl.out, ?_, rfl, hE6⟩)
             exact hrr.out
           · have hb : (chkK k' v != 0) = true := by simpa using hz
             have hZ := Lib.hid hz
             clear hz
             go_wp2
             go_ret3
             exact Or.inl ⟨k', hk, hN.out, by rw [hdg.out]; exact hZ.out, by rw [hdg.out]; rfl, hE3.trans hE5⟩
         · exact absurd hN.out (hno k hk)
       · have hne41 : Hid (¬ dNum k = 41) := Lib.hid (fun h => h41 (hN.out.symm.trans h))
         have h41b : (n == 41) = false := by simpa using h41
         clear h41
         refine (err_any _ _ _ _ hRd).mono ?_
         rintro e w4 ⟨rfl, rfl⟩
         generalize hvv : rv = v at *
         have hvl : v.data.toList = valD k s := by unfold valD; rw [if_neg hne41.out, ← hrv.out]
         have hvs : v.size ≤ 1000000 := by omega
         clear hvv
         have hdg := Lib.hid (dec_good hraw.out hvl)
         have hVl := Lib.hid hvl
         clear hvl
         go_wp2_with fail
         refine (check_any n v _ (g.ext hE3) hvs).mono ?_
         rintro e w5 (⟨k', hk', hn', rfl, hE5⟩ | ⟨hno, rfl, hE5⟩)
         · obtain rfl : k' = k := dNum_inj k' k hk' hk (hn'.trans hN.out.symm)
           clear hn'
           have hRd5 := hRd.ext hE5
           by_cases hz : chkK k' v = 0
           · rw [hz]
             have hZ := Lib.hid hz
             clear hz
             go_wp2_with fail
             refine (left_any _ _ _ _ hRd5 (by omega)).mono ?_
             rintro e w6 ⟨rfl, rfl⟩
             go_wp2_with fail
             refine (take_yes _ rr rr.size _ hRd5 (by omega) (by omega) (by omega)).mono ?_
             rintro e w6 ⟨rfl, hRd6, hX6⟩
             have hE6 := hX6.after (hE3.trans hE5) (by omega)
             clear hX6 hRd6
             go_wp2
             go_ret3
             refine Or.inr (Or.inl ⟨k', hk, hN.out, by rw [hdg.out, hZ.out], hraw.out, v, _, hVl.out, ?_, rfl, hE6⟩)
             exact hrr.out
           · have hb : (chkK k' v != 0) = true := by simpa using hz
             have hZ := Lib.hid hz
             clear hz
             go_wp2
             go_ret3
             exact Or.inl ⟨k', hk, hN.out, by rw [hdg.out]; exact hZ.out, by rw [hdg.out]; rfl, hE3.trans hE5⟩
         · exact absurd hN.out (hno k hk)
   · have hA : rawA k = 2 := by unfold rawA; omega
     have hAh := Lib.hid hA
     have hV0 : 0 < dVar k := by omega
     have hne41 : Hid (¬ dNum k = 41) := Lib.hid (fun h => by have := (hVc.out.2 h).1; omega)
     have h41b : (n == 41) = false := by have := hne41.out; rw [hN.out] at this; simpa using this
     have hNn : ∀ m : Nat, numL (s.data.toList.take 2) = m → rawN k s = m := fun m hm => by unfold rawN; rw [if_pos hV0, hAh.out, hm]; simp
     have hNh := Lib.hid hNn
     clear hA hNn hV0
     rw [hv]
     go_wp2_with fail
     refine (newReader_any s _).mono ?_
     rintro e w2 ⟨rfl, hRd0, hE20⟩
     have hE2 : Ext w w2 := (hE.alloc _).trans hE20
     have hsz := hE.size
     have hB := (Blk.new w1 _ _).ext hE20
     have q3 := hB.cell 3
     have q4 := hB.cell 4
     clear hB hE20
     simp only [World.size_alloc] at hRd0
     simp at q3 q4
     go_wp2_with fail
     refine (rdVar2_any _ s ln _ hRd0 (by omega) hs).mono ?_
     rintro e w3 (⟨hc, rfl, hRd, hX⟩ | ⟨hc, hd, rfl, hRd, hX⟩ | ⟨hc, hd, m, hm, hrest⟩)
     · skip
       have hE3 := hX.after hE2 (by omega)
       clear hX
       go_wp2_with fail
       refine (err_any _ _ _ _ hRd).mono ?_
       rintro e w4 ⟨rfl, rfl⟩
       have hdb := Lib.hid (dec_bad (raw_short (k := k) (s := s) (by rw [hAh.out]; exact hc)) (by decide))
       go_wp2
       go_ret3
       exact Or.inl ⟨k, hk, hN.out, by rw [hdb.out]; decide, by rw [hdb.out]; rfl, hE3⟩
     · have hdH := Lib.hid hd
       clear hd
       have hE3 := hX.after hE2 (by omega)
       clear hX
       go_wp2_with fail
       refine (err_any _ _ _ _ hRd).mono ?_
       rintro e w4 ⟨rfl, rfl⟩
       have hdb := Lib.hid (dec_bad (raw_form (k := k) (s := s) (by rw [hAh.out]; exact hc) (by rw [hAh.out]; exact hdH.out)) (by decide))
       go_wp2
       go_ret3
       exact Or.inl ⟨k, hk, hN.out, by rw [hdb.out]; decide, by rw [hdb.out]; rfl, hE3⟩
     · have hdH := Lib.hid hd
       have hmH := Lib.hid (hNh.out m hm)
       clear hd hm
       rcases hrest with ⟨hc2, rfl, hRd, hX⟩ | ⟨hc2, hc3, rfl, hRd, hX⟩ | ⟨hc2, hc3, rfl, hRd, hX⟩
       · skip
         have hE3 := hX.after hE2 (by omega)
         clear hX
         go_wp2_with fail
         refine (err_any _ _ _ _ hRd).mono ?_
         rintro e w4 ⟨rfl, rfl⟩
         have hdb := Lib.hid (dec_bad (raw_long (k := k) (s := s) (by rw [hAh.out]; exact hc) (by rw [hAh.out]; exact hdH.out) (by rw [hmH.out, hLn.out]; omega)) (by decide))
         go_wp2
         go_ret3
         exact Or.inl ⟨k, hk, hN.out, by rw [hdb.out]; decide, by rw [hdb.out]; rfl, hE3⟩
       · skip
         have hE3 := hX.after hE2 (by omega)
         clear hX
         go_wp2_with fail
         refine (err_any _ _ _ _ hRd).mono ?_
         rintro e w4 ⟨rfl, rfl⟩
         have hdb := Lib.hid (dec_bad (raw_short2 (k := k) (s := s) (by rw [hAh.out]; exact hc) (by rw [hAh.out]; exact hdH.out) (by rw [hmH.out, hLn.out]; omega) (by rw [hAh.out, hmH.out]; omega)) (by decide))
         go_wp2
         go_ret3
         exact Or.inl ⟨k, hk, hN.out, by rw [hdb.out]; decide, by rw [hdb.out]; rfl, hE3⟩
       · have hraw := Lib.hid (raw_ok (k := k) (s := s) (by rw [hAh.out]; exact hdH.out) (by rw [hmH.out, hLn.out]; omega) (by rw [hAh.out, hmH.out]; omega))
         generalize hrvE : s.extract 2 (2 + m) = rv at *
         generalize hrrE : s.extract (2 + m) s.size = rr at *
         have hrv : Hid (rv.data.toList = rawV k s) := Lib.hid (by rw [← hrvE, extract_list]; unfold rawV; rw [hAh.out, hmH.out])
         have hrr : Hid (rr.data.toList = s.data.toList.drop (rawA k + rawN k s)) := Lib.hid (by rw [← hrrE, extract_list, hAh.out, hmH.out, List.take_of_length_le (by rw [size_list]; omega)])
         have hrvs : rv.size ≤ 1000000 := by rw [← hrvE]; simp; omega
         have hrrs : rr.size ≤ 1000000 := by rw [← hrrE]; simp; omega
         clear hrvE hrrE
         have hE3 := hX.after hE2 (by omega)
         clear hX
         go_wp2_with fail
         refine (err_any _ _ _ _ hRd).mono ?_
         rintro e w4 ⟨rfl, rfl⟩
         generalize hvv : rv = v at *
         have hvl : v.data.toList = valD k s := by unfold valD; rw [if_neg hne41.out, ← hrv.out]
         have hvs : v.size ≤ 1000000 := by omega
         clear hvv
         have hdg := Lib.hid (dec_good hraw.out hvl)
         have hVl := Lib.hid hvl
         clear hvl
         go_wp2_with fail
         refine (check_any n v _ (g.ext hE3) hvs).mono ?_
         rintro e w5 (⟨k', hk', hn', rfl, hE5⟩ | ⟨hno, rfl, hE5⟩)
         · obtain rfl : k' = k := dNum_inj k' k hk' hk (hn'.trans hN.out.symm)
           clear hn'
           have hRd5 := hRd.ext hE5
           by_cases hz : chkK k' v = 0
           · rw [hz]
             have hZ := Lib.hid hz
             clear hz
             go_wp2_with fail
             refine (left_any _ _ _ _ hRd5 (by omega)).mono ?_
             rintro e w6 ⟨rfl, rfl⟩
             go_wp2_with fail
             refine (take_yes _ rr rr.size _ hRd5 (by omega) (by omega) (by omega)).mono ?_
             rintro e w6 ⟨rfl, hRd6, hX6⟩
             have hE6 := hX6.after (hE3.trans hE5) (by omega)
             clear hX6 hRd6
             go_wp2
             go_ret3
             refine Or.inr (Or.inl ⟨k', hk, hN.out, by rw [hdg.out, hZ.out], hraw.out, v, _, hVl.out, ?_, rfl, hE6⟩)
             exact hrr.out
           · have hb : (chkK k' v != 0) = true := by simpa using hz
             have hZ := Lib.hid hz
             clear hz
             go_wp2
             go_ret3
             exact Or.inl ⟨k', hk, hN.out, by rw [hdg.out]; exact hZ.out, by rw [hdg.out]; rfl, hE3.trans hE5⟩
         · exact absurd hN.out (hno k hk)
   · have hA : rawA k = 3 := by unfold rawA; omega
     have hAh := Lib.hid hA
     have hV0 : 0 < dVar k := by omega
     have hne41 : Hid (¬ dNum k = 41) := Lib.hid (fun h => by have := (hVc.out.2 h).1; omega)
     have h41b : (n == 41) = false := by have := hne41.out; rw [hN.out] at this; simpa using this
     have hNn : ∀ m : Nat, numL (s.data.toList.take 3) = m → rawN k s = m := fun m hm => by unfold rawN; rw [if_pos hV0, hAh.out, hm]; simp
     have hNh := Lib.hid hNn
     clear hA hNn hV0
     rw [hv]
     go_wp2_with fail
     refine (newReader_any s _).mono ?_
     rintro e w2 ⟨rfl, hRd0, hE20⟩
     have hE2 : Ext w w2 := (hE.alloc _).trans hE20
     have hsz := hE.size
     have hB := (Blk.new w1 _ _).ext hE20
     have q3 := hB.cell 3
     have q4 := hB.cell 4
     clear hB hE20
     simp only [World.size_alloc] at hRd0
     simp at q3 q4
     go_wp2_with fail
     refine (rdVar3_any _ s ln _ hRd0 (by omega) hs).mono ?_
     rintro e w3 (⟨hc, rfl, hRd, hX⟩ | ⟨hc, hd, rfl, hRd, hX⟩ | ⟨hc, hd, m, hm, hrest⟩)
     · skip
       have hE3 := hX.after hE2 (by omega)
       clear hX
       go_wp2_with fail
       refine (err_any _ _ _ _ hRd).mono ?_
       rintro e w4 ⟨rfl, rfl⟩
       have hdb := Lib.hid (dec_bad (raw_short (k := k) (s := s) (by rw [hAh.out]; exact hc)) (by decide))
       go_wp2
       go_ret3
       exact Or.inl ⟨k, hk, hN.out, by rw [hdb.out]; decide, by rw [hdb.out]; rfl, hE3⟩
     · have hdH := Lib.hid hd
       clear hd
       have hE3 := hX.after hE2 (by omega)
       clear hX
       go_wp2_with fail
       refine (err_any _ _ _ _ hRd).mono ?_
       rintro e w4 ⟨rfl, rfl⟩
       have hdb := Lib.hid (dec_bad (raw_form (k := k) (s := s) (by rw [hAh.out]; exact hc) (by rw [hAh.out]; exact hdH.out)) (by decide))
       go_wp2
       go_ret3
       exact Or.inl ⟨k, hk, hN.out, by rw [hdb.out]; decide, by rw [hdb.out]; rfl, hE3⟩
     · have hdH := Lib.hid hd
       have hmH := Lib.hid (hNh.out m hm)
       clear hd hm
       rcases hrest with ⟨hc2, rfl, hRd, hX⟩ | ⟨hc2, hc3, rfl, hRd, hX⟩ | ⟨hc2, hc3, rfl, hRd, hX⟩
       · skip
         have hE3 := hX.after hE2 (by omega)
         clear hX
         go_wp2_with fail
         refine (err_any _ _ _ _ hRd).mono ?_
         rintro e w4 ⟨rfl, rfl⟩
         have hdb := Lib.hid (dec_bad (raw_long (k := k) (s := s) (by rw [hAh.out]; exact hc) (by rw [hAh.out]; exact hdH.out) (by rw [hmH.out, hLn.out]; omega)) (by decide))
         go_wp2
         go_ret3
         exact Or.inl ⟨k, hk, hN.out, by rw [hdb.out]; decide, by rw [hdb.out]; rfl, hE3⟩
       · skip
         have hE3 := hX.after hE2 (by omega)
         clear hX
         go_wp2_with fail
         refine (err_any _ _ _ _ hRd).mono ?_
         rintro e w4 ⟨rfl, rfl⟩
         have hdb := Lib.hid (dec_bad (raw_short2 (k := k) (s := s) (by rw [hAh.out]; exact hc) (by rw [hAh.out]; exact hdH.out) (by rw [hmH.out, hLn.out]; omega) (by rw [hAh.out, hmH.out]; omega)) (by decide))
         go_wp2
         go_ret3
         exact Or.inl ⟨k, hk, hN.out, by rw [hdb.out]; decide, by rw [hdb.out]; rfl, hE3⟩
       · have hraw := Lib.hid (raw_ok (k := k) (s := s) (by rw [hAh.out]; exact hdH.out) (by rw [hmH.out, hLn.out]; omega) (by rw [hAh.out, hmH.out]; omega))
         generalize hrvE : s.extract 3 (3 + m) = rv at *
         generalize hrrE : s.extract (3 + m) s.size = rr at *
         have hrv : Hid (rv.data.toList = rawV k s) := Lib.hid (by rw [← hrvE, extract_list]; unfold rawV; rw [hAh.out, hmH.out])
         have hrr : Hid (rr.data.toList = s.data.toList.drop (rawA k + rawN k s)) := Lib.hid (by rw [← hrrE, extract_list, hAh.out, hmH.out, List.take_of_length_le (by rw [size_list]; omega)])
         have hrvs : rv.size ≤ 1000000 := by rw [← hrvE]; simp; omega
         have hrrs : rr.size ≤ 1000000 := by rw [← hrrE]; simp; omega
         clear hrvE hrrE
         have hE3 := hX.after hE2 (by omega)
         clear hX
         go_wp2_with fail
         refine (err_any _ _ _ _ hRd).mono ?_
         rintro e w4 ⟨rfl, rfl⟩
         generalize hvv : rv = v at *
         have hvl : v.data.toList = valD k s := by unfold valD; rw [if_neg hne41.out, ← hrv.out]
         have hvs : v.size ≤ 1000000 := by omega
         clear hvv
         have hdg := Lib.hid (dec_good hraw.out hvl)
         have hVl := Lib.hid hvl
         clear hvl
         go_wp2_with fail
         refine (check_any n v _ (g.ext hE3) hvs).mono ?_
         rintro e w5 (⟨k', hk', hn', rfl, hE5⟩ | ⟨hno, rfl, hE5⟩)
         · obtain rfl : k' = k := dNum_inj k' k hk' hk (hn'.trans hN.out.symm)
           clear hn'
           have hRd5 := hRd.ext hE5
           by_cases hz : chkK k' v = 0
           · rw [hz]
             have hZ := Lib.hid hz
             clear hz
             go_wp2_with fail
             refine (left_any _ _ _ _ hRd5 (by omega)).mono ?_
             rintro e w6 ⟨rfl, rfl⟩
             go_wp2_with fail
             refine (take_yes _ rr rr.size _ hRd5 (by omega) (by omega) (by omega)).mono ?_
             rintro e w6 ⟨rfl, hRd6, hX6⟩
             have hE6 := hX6.after (hE3.trans hE5) (by omega)
             clear hX6 hRd6
             go_wp2
             go_ret3
             refine Or.inr (Or.inl ⟨k', hk, hN.out, by rw [hdg.out, hZ.out], hraw.out, v, _, hVl.out, ?_, rfl, hE6⟩)
             exact hrr.out
           · have hb : (chkK k' v != 0) = true := by simpa using hz
             have hZ := Lib.hid hz
             clear hz
             go_wp2
             go_ret3
             exact Or.inl ⟨k', hk, hN.out, by rw [hdg.out]; exact hZ.out, by rw [hdg.out]; rfl, hE3.trans hE5⟩
         · exact absurd hN.out (hno k hk)
 · have hno := Lib.hid hno
   unfold specZero
   go_wp2
   go_ret3
   exact Or.inr (Or.inr ⟨hno.out, rfl, xt⟩)
end Go.Proofs.YtkggloeaojkhaaaGreatDoor
namespace Go.Proofs.YtkggloeaojkhaaaGreatDoor
open Go.RowKit
theorem trimR_snoc_eq (l : List UInt8) (c : UInt8) : Lib.trimRightB (l ++ [c]) c = Lib.trimRightB l c := by simp [Lib.trimRightB]
theorem trimR_snoc_ne (l : List UInt8) (x c : UInt8) (h : x ≠ c) : Lib.trimRightB (l ++ [x]) c = l ++ [x] := by simp [Lib.trimRightB, h]
end Go.Proofs.YtkggloeaojkhaaaGreatDoor
