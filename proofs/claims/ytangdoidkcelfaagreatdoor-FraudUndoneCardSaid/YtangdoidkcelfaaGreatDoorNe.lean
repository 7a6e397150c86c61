/- The contract of law 26's purchase (walk; printed by gen/h46.py). -/
import Derived.Test.YtangdoidkcelfaaGreatDoorKq
import Derived.Laws.OwnMore
namespace Go.Proofs.YtangdoidkcelfaaGreatDoor
open Go.RowKit
def digS (c : Nat) : ByteArray := ⟨#[UInt8.ofNat (48 + c)]⟩
/-- The features of a purchase with the card c. -/
def purF (c : Nat) (a : Int) : List Feat := [⟨carN, 2, 0, digS c⟩, ⟨merN, 2, 0, ⟨#[]⟩⟩, ⟨acqN, 2, 0, ⟨#[]⟩⟩, ⟨curN, 2, 0, ⟨#[]⟩⟩, ⟨terN, 2, 0, ⟨#[]⟩⟩, ⟨amoN, 1, a, ⟨#[]⟩⟩, ⟨catN, 1, 0, ⟨#[]⟩⟩, ⟨senN, 1, 0, ⟨#[]⟩⟩, ⟨tokN, 3, 0, ⟨#[]⟩⟩]
def purK (c : Nat) (a : Int) (k : Nat) : List Feat := [⟨carN, 2, 0, if k = 0 then ⟨#[]⟩ else digS c⟩, ⟨merN, 2, 0, ⟨#[]⟩⟩, ⟨acqN, 2, 0, ⟨#[]⟩⟩, ⟨curN, 2, 0, ⟨#[]⟩⟩, ⟨terN, 2, 0, ⟨#[]⟩⟩, ⟨amoN, 1, if k ≤ 5 then 0 else a, ⟨#[]⟩⟩, ⟨catN, 1, 0, ⟨#[]⟩⟩, ⟨senN, 1, 0, ⟨#[]⟩⟩, ⟨tokN, 3, 0, ⟨#[]⟩⟩]
theorem purK_0 (c : Nat) (a : Int) : msgF [] = purK c a 0 := by rfl
theorem purK_9 (c : Nat) (a : Int) : purK c a 9 = purF c a := by rfl
def PurP (c : Nat) (a : Int) (w : World) (e : Ending) (w' : World) : Prop := ∃ v, e = .returned v ∧ FtO w' w.heap.size v (purF c a) ∧ Ext w w'
set_option maxRecDepth 8000 in
set_option maxHeartbeats 4000000 in
theorem purchase_any (c : Nat) (a : Int) (w : World) (hc : c < 10) : Calls Tryz.prog 14 #[.int .u8 c, .int .i64 a] w (PurP c a w) := by
 have kF := Lib.hid (features_any 0 (.slice none 0 0) [] w ⟨none, 0, rfl, fun h => absurd h (by decide)⟩ (by decide))
 have hcv : ∀ w : World, (convert 70 9 (.slice (some ⟨w.heap.size, 0, none⟩) 1 1)).run Tryz.prog (w.alloc (.cells #[.int .u8 (48 + (c : Int))] 5)) = .ok (.string (digS c)) (w.alloc (.cells #[.int .u8 (48 + (c : Int))] 5)) := by
  intro w
  have hB := Blk.new w #[.int .u8 (48 + (c : Int))] 5
  refine run_convert_bytes_back (P := Tryz.prog) _ 70 9 5 ⟨w.heap.size, 0, none⟩ 1 [UInt8.ofNat (48 + c)] Tryz.underlying70 Tryz.underlying5 Tryz.underlying9 (fun j hj => ?_)
  rw [show (⟨w.heap.size, 0, none⟩ : Addr).add j = ⟨w.heap.size, j, none⟩ by rw [Addr.add_lit, Nat.zero_add], hB.cell j]
  have hj : j < 1 := hj
  match j, hj with
  | 0, _ => exact congrArg (fun x => some (Value.int .u8 x)) (show 48 + (c : Int) = ((UInt8.ofNat (48 + c)).toNat : Int) by rw [UInt8.toNat_ofNat']; omega)
 have hfin := Lib.hid (fun g cap (wr w' : World) (hrow : wr.ownsRow w.heap.size 62 4 (.slice (some ⟨g, 0, none⟩) 9 cap) 9 ((purK c a 9).flatMap ftCells)) (hE : Ext w wr) (h2 : Ext wr w') => show PurP c a w (.returned (.slice (some ⟨g, 0, none⟩) 9 cap)) w' from ⟨_, rfl, FtO.ext ⟨by simp [purF], hrow⟩ h2, hE.trans h2⟩)
 generalize PurP c a w = PP at *
 unfold msgAgg at kF
 go_enter Tryz.func14, Tryz.ntmps14
 go_wp2_with fail
 refine kF.out.mono ?_
 rintro e w1 ⟨v, rfl, ⟨-, hF⟩, hE1⟩
 rw [purK_0 c a] at hF
 obtain ⟨hF0, ⟨-, hn⟩ | ⟨g, cap, cur, hv, hF2⟩⟩ := hF
 · cases hn
 have hv : v = .slice (some ⟨g, 0, none⟩) 9 cap := hv
 subst hv
 have hF : w1.ownsRow w.heap.size 62 4 (.slice (some ⟨g, 0, none⟩) 9 cap) 9 ((purK c a 0).flatMap ftCells) := ⟨hF0, Or.inr ⟨g, cap, cur, rfl, hF2⟩⟩
 clear kF hF0 hF2
 replace hF := Lib.hid hF
 have hm : ((c : Int) % 10) = c := by omega
 have hm2 : (Int.tmod (c : Int) 10) = c := by rw [Int.tmod_eq_emod_of_nonneg (by omega)]; omega
 go_wp2_with fail
 go_loopw [6] (fun i wr => ∃ k : Nat, k ≤ 9 ∧ i = .int .i64 k ∧ wr.ownsRow w.heap.size 62 4 (.slice (some ⟨g, 0, none⟩) 9 cap) 9 ((purK c a k).flatMap ftCells) ∧ Ext w wr) (fun i _ => 9 - (intOf i).toNat)
 case atStart => exact ⟨0, Nat.zero_le _, rfl, hF.out, hE1⟩
 case round =>
  obtain ⟨k, hk, rfl, hrow, hE⟩ := hrel
  clear hF hE1
  have hk' : k = 0 ∨ k = 1 ∨ k = 2 ∨ k = 3 ∨ k = 4 ∨ k = 5 ∨ k = 6 ∨ k = 7 ∨ k = 8 ∨ k = 9 := by omega
  clear hk
  rcases hk' with rfl | rfl | rfl | rfl | rfl | rfl | rfl | rfl | rfl | rfl
  · have c0 : wr.cell? ⟨g, 0, none⟩ = some (.string ⟨#[99, 97, 114, 100]⟩) := (hrow.cellAt 0 (by decide)).trans rfl
    have lg := hrow.lt g rfl
    have c3 : wr.cell? ⟨g, 3, none⟩ = some (.string ⟨#[]⟩) := (hrow.cellAt 3 (by decide)).trans rfl
    have f3 : wr.frozen? ⟨g, 3, none⟩ = false := hrow.frozenAt 3
    have hl2 := lg.2
    have hg1 := lg.1
    replace hrow := Lib.hid hrow
    clear lg
    go_wp2
    go_roundw
    case rel => exact ⟨1, by omega, by go_num, by have h := ownsRow_extE (hrow.out.stored 3 (.string (digS c))).1 ((Ext.refl _).alloc (.cells #[.int .u8 (48 + (c : Int))] 5)); exact h, (hE.setCell (p := ⟨g, 3, none⟩) hg1 _).alloc _⟩
    case measure => simp [intOf]
  · have c0 : wr.cell? ⟨g, 4, none⟩ = some (.string ⟨#[109, 101, 114, 99, 104, 97, 110, 116]⟩) := (hrow.cellAt 4 (by decide)).trans rfl
    have lg := hrow.lt g rfl
    replace hrow := Lib.hid hrow
    clear lg hcv
    go_wp2
    go_roundw
    case rel => exact ⟨2, by omega, by go_num, hrow.out, hE⟩
    case measure => simp [intOf]
  · have c0 : wr.cell? ⟨g, 8, none⟩ = some (.string ⟨#[97, 99, 113, 117, 105, 114, 101, 114]⟩) := (hrow.cellAt 8 (by decide)).trans rfl
    have lg := hrow.lt g rfl
    replace hrow := Lib.hid hrow
    clear lg hcv
    go_wp2
    go_roundw
    case rel => exact ⟨3, by omega, by go_num, hrow.out, hE⟩
    case measure => simp [intOf]
  · have c0 : wr.cell? ⟨g, 12, none⟩ = some (.string ⟨#[99, 117, 114, 114, 101, 110, 99, 121]⟩) := (hrow.cellAt 12 (by decide)).trans rfl
    have lg := hrow.lt g rfl
    replace hrow := Lib.hid hrow
    clear lg hcv
    go_wp2
    go_roundw
    case rel => exact ⟨4, by omega, by go_num, hrow.out, hE⟩
    case measure => simp [intOf]
  · have c0 : wr.cell? ⟨g, 16, none⟩ = some (.string ⟨#[116, 101, 114, 109, 105, 110, 97, 108]⟩) := (hrow.cellAt 16 (by decide)).trans rfl
    have lg := hrow.lt g rfl
    replace hrow := Lib.hid hrow
    clear lg hcv
    go_wp2
    go_roundw
    case rel => exact ⟨5, by omega, by go_num, hrow.out, hE⟩
    case measure => simp [intOf]
  · have c0 : wr.cell? ⟨g, 20, none⟩ = some (.string ⟨#[97, 109, 111, 117, 110, 116]⟩) := (hrow.cellAt 20 (by decide)).trans rfl
    have lg := hrow.lt g rfl
    have c3 : wr.cell? ⟨g, 22, none⟩ = some (.int .i64 0) := (hrow.cellAt 22 (by decide)).trans rfl
    have f3 : wr.frozen? ⟨g, 22, none⟩ = false := hrow.frozenAt 22
    have hl2 := lg.2
    have hg1 := lg.1
    replace hrow := Lib.hid hrow
    clear lg hcv
    go_wp2
    go_roundw
    case rel => exact ⟨6, by omega, by go_num, by have h := (hrow.out.stored 22 (.int .i64 a)).1; exact h, hE.setCell (p := ⟨g, 22, none⟩) hg1 _⟩
    case measure => simp [intOf]
  · have c0 : wr.cell? ⟨g, 24, none⟩ = some (.string ⟨#[99, 97, 116, 101, 103, 111, 114, 121]⟩) := (hrow.cellAt 24 (by decide)).trans rfl
    have lg := hrow.lt g rfl
    replace hrow := Lib.hid hrow
    clear lg hcv
    go_wp2
    go_roundw
    case rel => exact ⟨7, by omega, by go_num, hrow.out, hE⟩
    case measure => simp [intOf]
  · have c0 : wr.cell? ⟨g, 28, none⟩ = some (.string ⟨#[115, 101, 110, 116]⟩) := (hrow.cellAt 28 (by decide)).trans rfl
    have lg := hrow.lt g rfl
    replace hrow := Lib.hid hrow
    clear lg hcv
    go_wp2
    go_roundw
    case rel => exact ⟨8, by omega, by go_num, hrow.out, hE⟩
    case measure => simp [intOf]
  · have c0 : wr.cell? ⟨g, 32, none⟩ = some (.string ⟨#[116, 111, 107, 101, 110]⟩) := (hrow.cellAt 32 (by decide)).trans rfl
    have lg := hrow.lt g rfl
    replace hrow := Lib.hid hrow
    clear lg hcv
    go_wp2
    go_roundw
    case rel => exact ⟨9, by omega, by go_num, hrow.out, hE⟩
    case measure => simp [intOf]
  · replace hrow := Lib.hid hrow
    clear hcv
    go_wp2
    try go_ret
    exact hfin.out g cap wr wr hrow.out hE (Ext.refl _)
end Go.Proofs.YtangdoidkcelfaaGreatDoor
