/- What writes a builder (cut out of XHx). -/
import Derived.Test.YtangdoidkcelfaaGreatDoorHbl
import Derived.Lib.ItoaLen
namespace Go.Proofs.YtangdoidkcelfaaGreatDoor
open Go.RowKit
/-- A builder that holds the bytes l. -/
def Bl (b : Nat) (l : List UInt8) (w : World) : Prop := Lib.IsBuilder 72 5 b b (Lib.byteCells l) w
theorem Bl.ext {b : Nat} {l : List UInt8} {w w' : World} (h : Bl b l w) (k : Ext w w') : Bl b l w' := bldI_ext h k
theorem app_list (a b : ByteArray) : (a ++ b).data.toList = a.data.toList ++ b.data.toList := by simp [ByteArray.data_append]
/-- What a call that writes a builder leaves. -/
def WrP (b : Nat) (l : List UInt8) (w w' : World) : Prop := Bl b l w' ∧ Below b w w' ∧ Lib.OthersKept 5 (some b) w w'
theorem wr_any (b : Nat) (l : List UInt8) (s : ByteArray) (w : World) (h : Bl b l w) (hl : l.length + s.size ≤ 140737488355328) (hb : b ≤ w.heap.size) : Calls Tryz.prog 24 #[.pointer (some ⟨b, 0, none⟩), .string s] w fun e w' => ∃ v, e = .returned (.tuple #[.int .i64 v, .nilIface]) ∧ WrP b (l ++ s.data.toList) w w' := by
 refine (bldWrite b b _ s w h (by rw [Lib.byteCells_length]; exact hl) hb).mono ?_
 rintro e w' ⟨rfl, h1, h2, h3⟩
 refine ⟨_, rfl, Or.inr ?_, h2, h3⟩
 rw [byteCells_app, ← strCells_eq]
 exact h1
theorem sz1 (c : UInt8) : (⟨#[c]⟩ : ByteArray).size = 1 := rfl
theorem itoa_len20 (n : Int) (h0 : -9223372036854775808 ≤ n) (h1 : n ≤ 9223372036854775807) : (Lib.itoa n).length ≤ 21 := Lib.itoa_length_le n h0 h1
theorem Bl.lt {b : Nat} {l : List UInt8} {w : World} (h : Bl b l w) : b < w.heap.size := h.elim (fun x => x.lt) (fun x => x.lt)
theorem kept_ext {T : TypeId} {b : Option Nat} {a w w' : World} (h : Lib.OthersKept T b a w) (k : Ext w w') : Lib.OthersKept T b a w' := fun i o x y z => by
 have h1 := h i o x y z
 exact (k.block i (Array.getElem?_eq_some_iff.1 h1).1).trans h1
theorem WrP.nil {b : Nat} {l : List UInt8} {w w' : World} (h : Bl b l w) (k : Ext w w') : WrP b l w w' := ⟨h.ext k, Below.mono k.below (Nat.le_of_lt h.lt), kept_ext (Lib.OthersKept.refl _ _ _) k⟩
theorem WrP.trans {b : Nat} {l m : List UInt8} {a w w' : World} (h : WrP b l a w) (k : WrP b m w w') : WrP b m a w' := ⟨k.1, Below.trans h.2.1 k.2.1, h.2.2.trans k.2.2⟩
theorem WrP.ext {b : Nat} {l : List UInt8} {a w w' : World} (h : WrP b l a w) (k : Ext w w') : WrP b l a w' := h.trans (WrP.nil h.1 k)
/-- A block of another kind is kept. -/
theorem WrP.blk {b : Nat} {l : List UInt8} {a w : World} (h : WrP b l a w) {B : Nat} {cs : Array Value} {T : TypeId} (k : Blk a B cs T) (hne : B ≠ b) (hT : T ≠ 5) : Blk w B cs T :=
 h.2.2 B _ k (fun e => hne (Option.some.inj e)) (fun c fz e => hT (by injection e))
theorem wrp_undrew {b : Nat} {l : List UInt8} {a w : World} (h : WrP b l a.drew w) : WrP b l a w := ⟨h.1, ⟨h.2.1.os, h.2.1.tape, h.2.1.output, h.2.1.size, h.2.1.block⟩, h.2.2⟩
theorem ext_undrew {a b : World} (h : Ext a.drew b) : Ext a b := Ext.trans (Ext.refl _).drew h
theorem ext_atx {w z u : World} (_ : Ext w z) (h : Ext z u) : Ext z u := h
theorem wrp_at {w z u : World} {b : Nat} {l m : List UInt8} (_ : WrP b l w z) (h : WrP b m z u) : WrP b m z u := h
theorem bl_drew {b : Nat} {l : List UInt8} {w : World} (h : Bl b l w) : Bl b l w.drew := h.ext (Ext.refl _).drew
theorem list_len (s : ByteArray) : s.data.toList.length = s.size := by rw [Array.length_toList]; rfl
end Go.Proofs.YtangdoidkcelfaaGreatDoor
