/- The table of powers of ten (cut out of XFw). -/
import Derived.Test.YtangdoidkcelfaaGreatDoorEh
import Derived.Test.YtangdoidkcelfaaGreatDoorEi
import Derived.Test.YtangdoidkcelfaaGreatDoorShelf
import Derived.Lib.ItoaLen
namespace Go.Proofs.YtangdoidkcelfaaGreatDoor
open Go.RowKit
theorem Ext.growO {a b : World} (h : Ext a b) (os : Array Obj) : Ext a (Go.«Sort».grow b os) := by
 refine ⟨h.os, h.tape, h.output, ?_, fun k hk => ?_⟩
 · have := h.size; simp [Go.«Sort».grow]; omega
 · have := h.size
   rw [← h.block k hk]
   simp only [Go.«Sort».grow]
   rw [Array.getElem?_append_left (by omega)]
/-- The table of powers of ten, as the program's text lays it. -/
def Gw (w : World) : Prop := Lib.TabIs Tryz.prog w "internal/strconv.uint64pow10" .u64 Lib.pow10Tab
theorem gPowE : Tryz.prog.globalNamed "internal/strconv.uint64pow10" = some 0 := by kernel_rfl
theorem var_lt {P : Program} {w : World} {n : String} {g : Nat} {cs : Array Value} (hg : P.globalNamed n = some g) (h : w.var? P n = some cs) : g < w.heap.size := by
 simp only [World.var?, hg, Option.bind_some] at h
 split at h
 · rename_i c t fr hb
   exact (Array.getElem?_eq_some_iff.1 hb).1
 · cases h
theorem Gw.ext {a b : World} (g : Gw a) (h : Ext a b) : Gw b := var?_below (B := a.heap.size) h gPowE (var_lt gPowE g) g
end Go.Proofs.YtangdoidkcelfaaGreatDoor
