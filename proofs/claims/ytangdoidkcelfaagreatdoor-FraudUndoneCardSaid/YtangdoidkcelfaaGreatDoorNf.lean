/- The contract of law 26's sample (walk); its rules as data (printed by gen/h47.py). -/
import Derived.Test.YtangdoidkcelfaaGreatDoorKt
import Derived.Test.YtangdoidkcelfaaGreatDoorKj
namespace Go.Proofs.YtangdoidkcelfaaGreatDoor
open Go.RowKit Go.Sort
def manN : ByteArray := ⟨#[109, 97, 110, 121]⟩
def larN : ByteArray := ⟨#[108, 97, 114, 103, 101]⟩
/-- At least so many purchases with the card in so many seconds. -/
def whenC (least win : Int) : Ex := .mk 11 ⟨#[]⟩ ⟨#[]⟩ 0 [.mk 1 ⟨#[]⟩ ⟨#[]⟩ least [], .mk 16 carN ⟨#[]⟩ win []]
def larX : Ex := .mk 10 ⟨#[]⟩ ⟨#[]⟩ 0 [.mk 1 ⟨#[]⟩ ⟨#[]⟩ 1000 [], .mk 3 amoN ⟨#[]⟩ 0 []]
def samF : List FrR := [⟨manN, whenC 2 60, 1, 30⟩, ⟨larN, larX, 0, 80⟩]
theorem frs1_of {w : World} {B c : Nat} {p : Option Addr} {r : FrR} {T : TypeId} (h : Blk w B #[.string r.name, .int .i64 r.when.op, .string r.when.name, .string r.when.text, .int .i64 r.when.n, .slice p 2 c, .int .i64 r.act, .int .i64 r.score] T) (h1 : ExS w (.slice p 2 c) r.when.args) : FrsM w (.slice (some ⟨B, 0, none⟩) 1 1) [r] :=
 ⟨by simp, Or.inr ⟨B, 0, 1, fun _ => .slice p 2 c, rfl, by simp, fun i hi => by
  have hi : i < 1 := hi
  match i, hi with
  | 0, _ => exact ⟨⟨(h.cell 0).trans rfl, (h.cell 1).trans rfl, (h.cell 2).trans rfl, (h.cell 3).trans rfl, (h.cell 4).trans rfl, (h.cell 5).trans rfl, (h.cell 6).trans rfl, (h.cell 7).trans rfl⟩, h1⟩⟩⟩
theorem frs2_of {w : World} {B c d : Nat} {p q : Option Addr} {r s : FrR} {T : TypeId} (h : Blk w B #[.string r.name, .int .i64 r.when.op, .string r.when.name, .string r.when.text, .int .i64 r.when.n, .slice p 2 c, .int .i64 r.act, .int .i64 r.score, .string s.name, .int .i64 s.when.op, .string s.when.name, .string s.when.text, .int .i64 s.when.n, .slice q 2 d, .int .i64 s.act, .int .i64 s.score] T) (h1 : ExS w (.slice p 2 c) r.when.args) (h2 : ExS w (.slice q 2 d) s.when.args) : FrsM w (.slice (some ⟨B, 0, none⟩) 2 2) [r, s] :=
 ⟨by simp, Or.inr ⟨B, 0, 2, fun i => if i = 0 then .slice p 2 c else .slice q 2 d, rfl, by simp, fun i hi => by
  have hi : i < 2 := hi
  match i, hi with
  | 0, _ => exact ⟨⟨(h.cell 0).trans rfl, (h.cell 1).trans rfl, (h.cell 2).trans rfl, (h.cell 3).trans rfl, (h.cell 4).trans rfl, (h.cell 5).trans rfl, (h.cell 6).trans rfl, (h.cell 7).trans rfl⟩, h1⟩
  | 1, _ => exact ⟨⟨(h.cell 8).trans rfl, (h.cell 9).trans rfl, (h.cell 10).trans rfl, (h.cell 11).trans rfl, (h.cell 12).trans rfl, (h.cell 13).trans rfl, (h.cell 14).trans rfl, (h.cell 15).trans rfl⟩, h2⟩⟩⟩
def SamP (w : World) (e : Ending) (w' : World) : Prop := ∃ v, e = .returned v ∧ FrsM w' v samF ∧ Ext w w'
set_option maxRecDepth 8000 in
set_option maxHeartbeats 4000000 in
theorem sample_any (w : World) : Calls Tryz.prog 21 #[] w (SamP w) := by
 go_enter Tryz.func21, Tryz.ntmps21
 go_wp2
 exact bodyPost_ret (v := .slice (some ⟨w.heap.size + 1 + 1 + 1 + 1, 0, none⟩) 2 2) (by simp [results, Tryz.results21, go_sem]) rfl ⟨_, rfl, frs2_of (r := ⟨manN, whenC 2 60, 1, 30⟩) (s := ⟨larN, larX, 0, 80⟩) (Blk.new' _ _ _ _ (by simp)) (exb_two (ok := fun _ => True) (x := .mk 1 ⟨#[]⟩ ⟨#[]⟩ 2 []) (y := .mk 16 carN ⟨#[]⟩ 60 []) ((((Blk.new w _ _).alloc _).alloc _).alloc _ |>.alloc _) trivial (.nil none 0) (.nil none 0) (by omega)).toS (exb_two (ok := fun _ => True) (x := .mk 1 ⟨#[]⟩ ⟨#[]⟩ 1000 []) (y := .mk 3 amoN ⟨#[]⟩ 0 []) (((Blk.new' _ _ _ _ (by simp)).alloc _).alloc _) trivial (.nil none 0) (.nil none 0) (by omega)).toS, xt⟩
theorem samF_ok : frE samF 50 100 = 0 := by kernel_rfl
theorem samF_parts : (samF.flatMap (·.when.parts)).length ≤ 1000000 := by decide +kernel
end Go.Proofs.YtangdoidkcelfaaGreatDoor
