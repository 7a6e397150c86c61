/- Contracts of acquirer's New, Sale, Next (walks; printed by gen/h84.py). -/
import Derived.Test.YtkggloeaojkhaaaGreatDoorPo
namespace Go.Proofs.YtkggloeaojkhaaaGreatDoor
open Go.RowKit
theorem zPtr (w : World) : (zeroValue 86).run Tryz.prog w = .ok (.pointer none) w := by kernel_rfl
/-- h.byRef[s]. -/
theorem HostX.look {w : World} {B : Nat} {I : HostI} {bs : List Nat} {sv wv : Value} {d : HostD} (h : HostX w B I bs sv wv d) (ok : HostOk B I bs d) {s : ByteArray} (hs : s.size ≤ 1000000) :
 (sIx s.data.toList (refsOf d) = none ∧ ∀ w', Ext w w' → (Instr.lookup 73 (.map (some I.R)) (.string s) false).run Tryz.prog w' = .ok (.pointer none) w') ∨
 ∃ i b x, sIx s.data.toList (refsOf d) = some i ∧ bs[i]? = some b ∧ d.sales[i]? = some x ∧ x.ref = s ∧ ∀ w', Ext w w' → (Instr.lookup 73 (.map (some I.R)) (.string s) false).run Tryz.prog w' = .ok (.pointer (some ⟨b, 0, none⟩)) w' := by
 have hl : (refsOf d).length = bs.length := by unfold refsOf; rw [List.length_map]; exact ok.len.symm
 have hr := fun w' (hE : Ext w w') => (h.m.ext hE).look (t := 73) (e := 86) Tryz.underlying9 Tryz.underlying73 (zPtr w') (s := s) (by unfold maxLen; omega)
 rw [refF_ix _ _ _ hl] at hr
 cases hi : sIx s.data.toList (refsOf d) with
 | none => exact Or.inl ⟨rfl, fun w' hE => by have h1 := hr w' hE; rw [hi] at h1; exact h1⟩
 | some i =>
  obtain ⟨r, h1, h2⟩ := sIx_some hi
  have hil : i < d.sales.length := by
   have := (List.getElem?_eq_some_iff.1 h1).1
   unfold refsOf at this
   rw [List.length_map] at this
   exact this
  have hx : d.sales[i]? = some d.sales[i] := List.getElem?_eq_getElem hil
  have hb : bs[i]? = some (bs[i]'(by rw [ok.len]; exact hil)) := List.getElem?_eq_getElem _
  have hxr : d.sales[i].ref = r := by
   unfold refsOf at h1
   rw [List.getElem?_map, hx] at h1
   exact Option.some.inj h1
  refine Or.inr ⟨i, _, _, rfl, hb, hx, ?_, fun w' hE => ?_⟩
  · rw [hxr]
    exact Go.WideShapes.bytes_inj h2
  · have h3 := hr w' hE
    rw [hi, Option.bind_some, hb] at h3
    exact h3
theorem ptrNe (b : Nat) (w : World) : (binOp .eql 86 (.pointer (some ⟨b, 0, none⟩)) (.pointer none)).run Tryz.prog w = .ok (.bool false) w := by kernel_rfl
theorem ptrEq (w : World) : (binOp .eql 86 (.pointer none) (.pointer none)).run Tryz.prog w = .ok (.bool true) w := by kernel_rfl
def salZ : Value := .agg #[.string ⟨#[]⟩, .string ⟨#[]⟩, .string ⟨#[]⟩, .string ⟨#[]⟩, .int .i64 0, .int .i64 0, .string ⟨#[]⟩, .int .i64 0, .int .i64 0, .int .i64 0, .int .i64 0, .int .i64 0]
/-- What Sale returns. -/
def HSaleP (d : HostD) (s : ByteArray) (w : World) (e : Ending) (w' : World) : Prop :=
 Ext w w' ∧ ((sIx s.data.toList (refsOf d) = none ∧ e = .returned (.tuple #[salZ, .bool false])) ∨ ∃ i x, sIx s.data.toList (refsOf d) = some i ∧ d.sales[i]? = some x ∧ e = .returned (.tuple #[salAgg x, .bool true]))
set_option maxRecDepth 8000 in
set_option maxHeartbeats 4000000 in
theorem hSale_any (B : Nat) (I : HostI) (d : HostD) (s : ByteArray) (w : World) (h : HostM w B I d) (hs : s.size ≤ 1000000) : Calls Tryz.prog 12 #[.pointer (some ⟨I.X, 0, none⟩), .string s] w (HSaleP d s w) := by
 obtain ⟨bs, sv, wv, hX, ok⟩ := h
 have y6 : w.cell? ⟨I.X, 6, none⟩ = some (.map (some I.R)) := hX.h.cell 6
 have lX := hX.h.lt
 rcases hX.look ok hs with ⟨h1, h2⟩ | ⟨i, b, x, h1, hb, hx, -, h2⟩
 · have hfin := Lib.hid (fun w' (hE : Ext w w') => show HSaleP d s w (.returned (.tuple #[salZ, .bool false])) w' from ⟨hE, Or.inl ⟨h1, rfl⟩⟩)
   unfold salZ at hfin
   generalize HSaleP d s w = PP at *
   have h3 := h2 _ (Ext.alloc (Ext.refl w) (.cells #[.string ⟨#[]⟩, .string ⟨#[]⟩, .string ⟨#[]⟩, .string ⟨#[]⟩, .int .i64 0, .int .i64 0, .string ⟨#[]⟩, .int .i64 0, .int .i64 0, .int .i64 0, .int .i64 0, .int .i64 0] 44))
   have h4 := ptrEq (w.alloc (.cells #[.string ⟨#[]⟩, .string ⟨#[]⟩, .string ⟨#[]⟩, .string ⟨#[]⟩, .int .i64 0, .int .i64 0, .string ⟨#[]⟩, .int .i64 0, .int .i64 0, .int .i64 0, .int .i64 0, .int .i64 0] 44))
   clear hX ok h1 h2
   go_enter Tryz.func12, Tryz.ntmps12
   go_wp2
   have hE : Ext w (w.alloc (.cells #[.string ⟨#[]⟩, .string ⟨#[]⟩, .string ⟨#[]⟩, .string ⟨#[]⟩, .int .i64 0, .int .i64 0, .string ⟨#[]⟩, .int .i64 0, .int .i64 0, .int .i64 0, .int .i64 0, .int .i64 0] 44)) := (Ext.refl _).alloc _
   have r0 := ((Blk.new w #[.string ⟨#[]⟩, .string ⟨#[]⟩, .string ⟨#[]⟩, .string ⟨#[]⟩, .int .i64 0, .int .i64 0, .string ⟨#[]⟩, .int .i64 0, .int .i64 0, .int .i64 0, .int .i64 0, .int .i64 0] 44).cell 0).trans (show (#[.string ⟨#[]⟩, .string ⟨#[]⟩, .string ⟨#[]⟩, .string ⟨#[]⟩, .int .i64 0, .int .i64 0, .string ⟨#[]⟩, .int .i64 0, .int .i64 0, .int .i64 0, .int .i64 0, .int .i64 0] : Array Value)[0]? = some (.string ⟨#[]⟩) from rfl)
   have r1 := ((Blk.new w #[.string ⟨#[]⟩, .string ⟨#[]⟩, .string ⟨#[]⟩, .string ⟨#[]⟩, .int .i64 0, .int .i64 0, .string ⟨#[]⟩, .int .i64 0, .int .i64 0, .int .i64 0, .int .i64 0, .int .i64 0] 44).cell 1).trans (show (#[.string ⟨#[]⟩, .string ⟨#[]⟩, .string ⟨#[]⟩, .string ⟨#[]⟩, .int .i64 0, .int .i64 0, .string ⟨#[]⟩, .int .i64 0, .int .i64 0, .int .i64 0, .int .i64 0, .int .i64 0] : Array Value)[1]? = some (.string ⟨#[]⟩) from rfl)
   have r2 := ((Blk.new w #[.string ⟨#[]⟩, .string ⟨#[]⟩, .string ⟨#[]⟩, .string ⟨#[]⟩, .int .i64 0, .int .i64 0, .string ⟨#[]⟩, .int .i64 0, .int .i64 0, .int .i64 0, .int .i64 0, .int .i64 0] 44).cell 2).trans (show (#[.string ⟨#[]⟩, .string ⟨#[]⟩, .string ⟨#[]⟩, .string ⟨#[]⟩, .int .i64 0, .int .i64 0, .string ⟨#[]⟩, .int .i64 0, .int .i64 0, .int .i64 0, .int .i64 0, .int .i64 0] : Array Value)[2]? = some (.string ⟨#[]⟩) from rfl)
   have r3 := ((Blk.new w #[.string ⟨#[]⟩, .string ⟨#[]⟩, .string ⟨#[]⟩, .string ⟨#[]⟩, .int .i64 0, .int .i64 0, .string ⟨#[]⟩, .int .i64 0, .int .i64 0, .int .i64 0, .int .i64 0, .int .i64 0] 44).cell 3).trans (show (#[.string ⟨#[]⟩, .string ⟨#[]⟩, .string ⟨#[]⟩, .string ⟨#[]⟩, .int .i64 0, .int .i64 0, .string ⟨#[]⟩, .int .i64 0, .int .i64 0, .int .i64 0, .int .i64 0, .int .i64 0] : Array Value)[3]? = some (.string ⟨#[]⟩) from rfl)
   have r4 := ((Blk.new w #[.string ⟨#[]⟩, .string ⟨#[]⟩, .string ⟨#[]⟩, .string ⟨#[]⟩, .int .i64 0, .int .i64 0, .string ⟨#[]⟩, .int .i64 0, .int .i64 0, .int .i64 0, .int .i64 0, .int .i64 0] 44).cell 4).trans (show (#[.string ⟨#[]⟩, .string ⟨#[]⟩, .string ⟨#[]⟩, .string ⟨#[]⟩, .int .i64 0, .int .i64 0, .string ⟨#[]⟩, .int .i64 0, .int .i64 0, .int .i64 0, .int .i64 0, .int .i64 0] : Array Value)[4]? = some (.int .i64 0) from rfl)
   have r5 := ((Blk.new w #[.string ⟨#[]⟩, .string ⟨#[]⟩, .string ⟨#[]⟩, .string ⟨#[]⟩, .int .i64 0, .int .i64 0, .string ⟨#[]⟩, .int .i64 0, .int .i64 0, .int .i64 0, .int .i64 0, .int .i64 0] 44).cell 5).trans (show (#[.string ⟨#[]⟩, .string ⟨#[]⟩, .string ⟨#[]⟩, .string ⟨#[]⟩, .int .i64 0, .int .i64 0, .string ⟨#[]⟩, .int .i64 0, .int .i64 0, .int .i64 0, .int .i64 0, .int .i64 0] : Array Value)[5]? = some (.int .i64 0) from rfl)
   have r6 := ((Blk.new w #[.string ⟨#[]⟩, .string ⟨#[]⟩, .string ⟨#[]⟩, .string ⟨#[]⟩, .int .i64 0, .int .i64 0, .string ⟨#[]⟩, .int .i64 0, .int .i64 0, .int .i64 0, .int .i64 0, .int .i64 0] 44).cell 6).trans (show (#[.string ⟨#[]⟩, .string ⟨#[]⟩, .string ⟨#[]⟩, .string ⟨#[]⟩, .int .i64 0, .int .i64 0, .string ⟨#[]⟩, .int .i64 0, .int .i64 0, .int .i64 0, .int .i64 0, .int .i64 0] : Array Value)[6]? = some (.string ⟨#[]⟩) from rfl)
   have r7 := ((Blk.new w #[.string ⟨#[]⟩, .string ⟨#[]⟩, .string ⟨#[]⟩, .string ⟨#[]⟩, .int .i64 0, .int .i64 0, .string ⟨#[]⟩, .int .i64 0, .int .i64 0, .int .i64 0, .int .i64 0, .int .i64 0] 44).cell 7).trans (show (#[.string ⟨#[]⟩, .string ⟨#[]⟩, .string ⟨#[]⟩, .string ⟨#[]⟩, .int .i64 0, .int .i64 0, .string ⟨#[]⟩, .int .i64 0, .int .i64 0, .int .i64 0, .int .i64 0, .int .i64 0] : Array Value)[7]? = some (.int .i64 0) from rfl)
   have r8 := ((Blk.new w #[.string ⟨#[]⟩, .string ⟨#[]⟩, .string ⟨#[]⟩, .string ⟨#[]⟩, .int .i64 0, .int .i64 0, .string ⟨#[]⟩, .int .i64 0, .int .i64 0, .int .i64 0, .int .i64 0, .int .i64 0] 44).cell 8).trans (show (#[.string ⟨#[]⟩, .string ⟨#[]⟩, .string ⟨#[]⟩, .string ⟨#[]⟩, .int .i64 0, .int .i64 0, .string ⟨#[]⟩, .int .i64 0, .int .i64 0, .int .i64 0, .int .i64 0, .int .i64 0] : Array Value)[8]? = some (.int .i64 0) from rfl)
   have r9 := ((Blk.new w #[.string ⟨#[]⟩, .string ⟨#[]⟩, .string ⟨#[]⟩, .string ⟨#[]⟩, .int .i64 0, .int .i64 0, .string ⟨#[]⟩, .int .i64 0, .int .i64 0, .int .i64 0, .int .i64 0, .int .i64 0] 44).cell 9).trans (show (#[.string ⟨#[]⟩, .string ⟨#[]⟩, .string ⟨#[]⟩, .string ⟨#[]⟩, .int .i64 0, .int .i64 0, .string ⟨#[]⟩, .int .i64 0, .int .i64 0, .int .i64 0, .int .i64 0, .int .i64 0] : Array Value)[9]? = some (.int .i64 0) from rfl)
   have r10 := ((Blk.new w #[.string ⟨#[]⟩, .string ⟨#[]⟩, .string ⟨#[]⟩, .string ⟨#[]⟩, .int .i64 0, .int .i64 0, .string ⟨#[]⟩, .int .i64 0, .int .i64 0, .int .i64 0, .int .i64 0, .int .i64 0] 44).cell 10).trans (show (#[.string ⟨#[]⟩, .string ⟨#[]⟩, .string ⟨#[]⟩, .string ⟨#[]⟩, .int .i64 0, .int .i64 0, .string ⟨#[]⟩, .int .i64 0, .int .i64 0, .int .i64 0, .int .i64 0, .int .i64 0] : Array Value)[10]? = some (.int .i64 0) from rfl)
   have r11 := ((Blk.new w #[.string ⟨#[]⟩, .string ⟨#[]⟩, .string ⟨#[]⟩, .string ⟨#[]⟩, .int .i64 0, .int .i64 0, .string ⟨#[]⟩, .int .i64 0, .int .i64 0, .int .i64 0, .int .i64 0, .int .i64 0] 44).cell 11).trans (show (#[.string ⟨#[]⟩, .string ⟨#[]⟩, .string ⟨#[]⟩, .string ⟨#[]⟩, .int .i64 0, .int .i64 0, .string ⟨#[]⟩, .int .i64 0, .int .i64 0, .int .i64 0, .int .i64 0, .int .i64 0] : Array Value)[11]? = some (.int .i64 0) from rfl)
   generalize w.alloc (.cells #[.string ⟨#[]⟩, .string ⟨#[]⟩, .string ⟨#[]⟩, .string ⟨#[]⟩, .int .i64 0, .int .i64 0, .string ⟨#[]⟩, .int .i64 0, .int .i64 0, .int .i64 0, .int .i64 0, .int .i64 0] 44) = wF at *
   exact bodyPost_ret (v := .tuple #[.agg #[.string ⟨#[]⟩, .string ⟨#[]⟩, .string ⟨#[]⟩, .string ⟨#[]⟩, .int .i64 0, .int .i64 0, .string ⟨#[]⟩, .int .i64 0, .int .i64 0, .int .i64 0, .int .i64 0, .int .i64 0], .bool false]) (by simp [results, Tryz.results12, go_sem, r0, r1, r2, r3, r4, r5, r6, r7, r8, r9, r10, r11]) rfl (hfin.out wF hE)
 · have hfin := Lib.hid (fun w' (hE : Ext w w') => show HSaleP d s w (.returned (.tuple #[salAgg x, .bool true])) w' from ⟨hE, Or.inr ⟨i, x, h1, hx, rfl⟩⟩)
   unfold salAgg at hfin
   generalize HSaleP d s w = PP at *
   have h3 := h2 _ (Ext.alloc (Ext.refl w) (.cells #[.string ⟨#[]⟩, .string ⟨#[]⟩, .string ⟨#[]⟩, .string ⟨#[]⟩, .int .i64 0, .int .i64 0, .string ⟨#[]⟩, .int .i64 0, .int .i64 0, .int .i64 0, .int .i64 0, .int .i64 0] 44))
   have h4 := ptrNe b (w.alloc (.cells #[.string ⟨#[]⟩, .string ⟨#[]⟩, .string ⟨#[]⟩, .string ⟨#[]⟩, .int .i64 0, .int .i64 0, .string ⟨#[]⟩, .int .i64 0, .int .i64 0, .int .i64 0, .int .i64 0, .int .i64 0] 44))
   have bx := (hX.e i b x hb hx).1
   have lb := bx.lt
   have y0b : w.cell? ⟨b, 0, none⟩ = some (.string x.ref) := (bx.cell 0).trans rfl
   have y1b : w.cell? ⟨b, 1, none⟩ = some (.string x.p.mer) := (bx.cell 1).trans rfl
   have y2b : w.cell? ⟨b, 2, none⟩ = some (.string x.p.ter) := (bx.cell 2).trans rfl
   have y3b : w.cell? ⟨b, 3, none⟩ = some (.string x.p.car) := (bx.cell 3).trans rfl
   have y4b : w.cell? ⟨b, 4, none⟩ = some (.int .i64 x.p.amt) := (bx.cell 4).trans rfl
   have y5b : w.cell? ⟨b, 5, none⟩ = some (.int .i64 x.p.least) := (bx.cell 5).trans rfl
   have y6b : w.cell? ⟨b, 6, none⟩ = some (.string x.p.cur) := (bx.cell 6).trans rfl
   have y7b : w.cell? ⟨b, 7, none⟩ = some (.int .i64 x.p.cat) := (bx.cell 7).trans rfl
   have y8b : w.cell? ⟨b, 8, none⟩ = some (.int .i64 x.st) := (bx.cell 8).trans rfl
   have y9b : w.cell? ⟨b, 9, none⟩ = some (.int .i64 x.appr) := (bx.cell 9).trans rfl
   have y10b : w.cell? ⟨b, 10, none⟩ = some (.int .i64 x.capt) := (bx.cell 10).trans rfl
   have y11b : w.cell? ⟨b, 11, none⟩ = some (.int .i64 x.refd) := (bx.cell 11).trans rfl
   clear hX ok h1 h2 bx hb hx
   go_enter Tryz.func12, Tryz.ntmps12
   go_wp2
   have hE : Ext w (w.alloc (.cells #[.string x.ref, .string x.p.mer, .string x.p.ter, .string x.p.car, .int .i64 x.p.amt, .int .i64 x.p.least, .string x.p.cur, .int .i64 x.p.cat, .int .i64 x.st, .int .i64 x.appr, .int .i64 x.capt, .int .i64 x.refd] 44)) := (Ext.refl _).alloc _
   have r0 := ((Blk.new w #[.string x.ref, .string x.p.mer, .string x.p.ter, .string x.p.car, .int .i64 x.p.amt, .int .i64 x.p.least, .string x.p.cur, .int .i64 x.p.cat, .int .i64 x.st, .int .i64 x.appr, .int .i64 x.capt, .int .i64 x.refd] 44).cell 0).trans (show (#[.string x.ref, .string x.p.mer, .string x.p.ter, .string x.p.car, .int .i64 x.p.amt, .int .i64 x.p.least, .string x.p.cur, .int .i64 x.p.cat, .int .i64 x.st, .int .i64 x.appr, .int .i64 x.capt, .int .i64 x.refd] : Array Value)[0]? = some (.string x.ref) from rfl)
   have r1 := ((Blk.new w #[.string x.ref, .string x.p.mer, .string x.p.ter, .string x.p.car, .int .i64 x.p.amt, .int .i64 x.p.least, .string x.p.cur, .int .i64 x.p.cat, .int .i64 x.st, .int .i64 x.appr, .int .i64 x.capt, .int .i64 x.refd] 44).cell 1).trans (show (#[.string x.ref, .string x.p.mer, .string x.p.ter, .string x.p.car, .int .i64 x.p.amt, .int .i64 x.p.least, .string x.p.cur, .int .i64 x.p.cat, .int .i64 x.st, .int .i64 x.appr, .int .i64 x.capt, .int .i64 x.refd] : Array Value)[1]? = some (.string x.p.mer) from rfl)
   have r2 := ((Blk.new w #[.string x.ref, .string x.p.mer, .string x.p.ter, .string x.p.car, .int .i64 x.p.amt, .int .i64 x.p.least, .string x.p.cur, .int .i64 x.p.cat, .int .i64 x.st, .int .i64 x.appr, .int .i64 x.capt, .int .i64 x.refd] 44).cell 2).trans (show (#[.string x.ref, .string x.p.mer, .string x.p.ter, .string x.p.car, .int .i64 x.p.amt, .int .i64 x.p.least, .string x.p.cur, .int .i64 x.p.cat, .int .i64 x.st, .int .i64 x.appr, .int .i64 x.capt, .int .i64 x.refd] : Array Value)[2]? = some (.string x.p.ter) from rfl)
   have r3 := ((Blk.new w #[.string x.ref, .string x.p.mer, .string x.p.ter, .string x.p.car, .int .i64 x.p.amt, .int .i64 x.p.least, .string x.p.cur, .int .i64 x.p.cat, .int .i64 x.st, .int .i64 x.appr, .int .i64 x.capt, .int .i64 x.refd] 44).cell 3).trans (show (#[.string x.ref, .string x.p.mer, .string x.p.ter, .string x.p.car, .int .i64 x.p.amt, .int .i64 x.p.least, .string x.p.cur, .int .i64 x.p.cat, .int .i64 x.st, .int .i64 x.appr, .int .i64 x.capt, .int .i64 x.refd] : Array Value)[3]? = some (.string x.p.car) from rfl)
   have r4 := ((Blk.new w #[.string x.ref, .string x.p.mer, .string x.p.ter, .string x.p.car, .int .i64 x.p.amt, .int .i64 x.p.least, .string x.p.cur, .int .i64 x.p.cat, .int .i64 x.st, .int .i64 x.appr, .int .i64 x.capt, .int .i64 x.refd] 44).cell 4).trans (show (#[.string x.ref, .string x.p.mer, .string x.p.ter, .string x.p.car, .int .i64 x.p.amt, .int .i64 x.p.least, .string x.p.cur, .int .i64 x.p.cat, .int .i64 x.st, .int .i64 x.appr, .int .i64 x.capt, .int .i64 x.refd] : Array Value)[4]? = some (.int .i64 x.p.amt) from rfl)
   have r5 := ((Blk.new w #[.string x.ref, .string x.p.mer, .string x.p.ter, .string x.p.car, .int .i64 x.p.amt, .int .i64 x.p.least, .string x.p.cur, .int .i64 x.p.cat, .int .i64 x.st, .int .i64 x.appr, .int .i64 x.capt, .int .i64 x.refd] 44).cell 5).trans (show (#[.string x.ref, .string x.p.mer, .string x.p.ter, .string x.p.car, .int .i64 x.p.amt, .int .i64 x.p.least, .string x.p.cur, .int .i64 x.p.cat, .int .i64 x.st, .int .i64 x.appr, .int .i64 x.capt, .int .i64 x.refd] : Array Value)[5]? = some (.int .i64 x.p.least) from rfl)
   have r6 := ((Blk.new w #[.string x.ref, .string x.p.mer, .string x.p.ter, .string x.p.car, .int .i64 x.p.amt, .int .i64 x.p.least, .string x.p.cur, .int .i64 x.p.cat, .int .i64 x.st, .int .i64 x.appr, .int .i64 x.capt, .int .i64 x.refd] 44).cell 6).trans (show (#[.string x.ref, .string x.p.mer, .string x.p.ter, .string x.p.car, .int .i64 x.p.amt, .int .i64 x.p.least, .string x.p.cur, .int .i64 x.p.cat, .int .i64 x.st, .int .i64 x.appr, .int .i64 x.capt, .int .i64 x.refd] : Array Value)[6]? = some (.string x.p.cur) from rfl)
   have r7 := ((Blk.new w #[.string x.ref, .string x.p.mer, .string x.p.ter, .string x.p.car, .int .i64 x.p.amt, .int .i64 x.p.least, .string x.p.cur, .int .i64 x.p.cat, .int .i64 x.st, .int .i64 x.appr, .int .i64 x.capt, .int .i64 x.refd] 44).cell 7).trans (show (#[.string x.ref, .string x.p.mer, .string x.p.ter, .string x.p.car, .int .i64 x.p.amt, .int .i64 x.p.least, .string x.p.cur, .int .i64 x.p.cat, .int .i64 x.st, .int .i64 x.appr, .int .i64 x.capt, .int .i64 x.refd] : Array Value)[7]? = some (.int .i64 x.p.cat) from rfl)
   have r8 := ((Blk.new w #[.string x.ref, .string x.p.mer, .string x.p.ter, .string x.p.car, .int .i64 x.p.amt, .int .i64 x.p.least, .string x.p.cur, .int .i64 x.p.cat, .int .i64 x.st, .int .i64 x.appr, .int .i64 x.capt, .int .i64 x.refd] 44).cell 8).trans (show (#[.string x.ref, .string x.p.mer, .string x.p.ter, .string x.p.car, .int .i64 x.p.amt, .int .i64 x.p.least, .string x.p.cur, .int .i64 x.p.cat, .int .i64 x.st, .int .i64 x.appr, .int .i64 x.capt, .int .i64 x.refd] : Array Value)[8]? = some (.int .i64 x.st) from rfl)
   have r9 := ((Blk.new w #[.string x.ref, .string x.p.mer, .string x.p.ter, .string x.p.car, .int .i64 x.p.amt, .int .i64 x.p.least, .string x.p.cur, .int .i64 x.p.cat, .int .i64 x.st, .int .i64 x.appr, .int .i64 x.capt, .int .i64 x.refd] 44).cell 9).trans (show (#[.string x.ref, .string x.p.mer, .string x.p.ter, .string x.p.car, .int .i64 x.p.amt, .int .i64 x.p.least, .string x.p.cur, .int .i64 x.p.cat, .int .i64 x.st, .int .i64 x.appr, .int .i64 x.capt, .int .i64 x.refd] : Array Value)[9]? = some (.int .i64 x.appr) from rfl)
   have r10 := ((Blk.new w #[.string x.ref, .string x.p.mer, .string x.p.ter, .string x.p.car, .int .i64 x.p.amt, .int .i64 x.p.least, .string x.p.cur, .int .i64 x.p.cat, .int .i64 x.st, .int .i64 x.appr, .int .i64 x.capt, .int .i64 x.refd] 44).cell 10).trans (show (#[.string x.ref, .string x.p.mer, .string x.p.ter, .string x.p.car, .int .i64 x.p.amt, .int .i64 x.p.least, .string x.p.cur, .int .i64 x.p.cat, .int .i64 x.st, .int .i64 x.appr, .int .i64 x.capt, .int .i64 x.refd] : Array Value)[10]? = some (.int .i64 x.capt) from rfl)
   have r11 := ((Blk.new w #[.string x.ref, .string x.p.mer, .string x.p.ter, .string x.p.car, .int .i64 x.p.amt, .int .i64 x.p.least, .string x.p.cur, .int .i64 x.p.cat, .int .i64 x.st, .int .i64 x.appr, .int .i64 x.capt, .int .i64 x.refd] 44).cell 11).trans (show (#[.string x.ref, .string x.p.mer, .string x.p.ter, .string x.p.car, .int .i64 x.p.amt, .int .i64 x.p.least, .string x.p.cur, .int .i64 x.p.cat, .int .i64 x.st, .int .i64 x.appr, .int .i64 x.capt, .int .i64 x.refd] : Array Value)[11]? = some (.int .i64 x.refd) from rfl)
   generalize w.alloc (.cells #[.string x.ref, .string x.p.mer, .string x.p.ter, .string x.p.car, .int .i64 x.p.amt, .int .i64 x.p.least, .string x.p.cur, .int .i64 x.p.cat, .int .i64 x.st, .int .i64 x.appr, .int .i64 x.capt, .int .i64 x.refd] 44) = wF at *
   exact bodyPost_ret (v := .tuple #[.agg #[.string x.ref, .string x.p.mer, .string x.p.ter, .string x.p.car, .int .i64 x.p.amt, .int .i64 x.p.least, .string x.p.cur, .int .i64 x.p.cat, .int .i64 x.st, .int .i64 x.appr, .int .i64 x.capt, .int .i64 x.refd], .bool true]) (by simp [results, Tryz.results12, go_sem, r0, r1, r2, r3, r4, r5, r6, r7, r8, r9, r10, r11]) rfl (hfin.out wF hE)
/-- The time at which something is to be done. -/
def nxtStep (a : Int × Bool) (x : SaleD) : Int × Bool := if x.st = 1 ∧ (a.2 = false ∨ x.dl < a.1) then (x.dl, true) else a
def hNextV (d : HostD) : Int × Bool := d.sales.foldl nxtStep (nxtV d.q.items, decide (0 < d.q.items.length))
def nxK (d : HostD) (k : Nat) : Int × Bool := (d.sales.take k).foldl nxtStep (nxtV d.q.items, decide (0 < d.q.items.length))
theorem nxK_succ {d : HostD} {k : Nat} {x : SaleD} (h : d.sales[k]? = some x) : nxK d (k + 1) = nxtStep (nxK d k) x := by
 unfold nxK
 rw [List.take_add_one, h, List.foldl_append]
 rfl
set_option maxRecDepth 8000 in
set_option maxHeartbeats 8000000 in
theorem hNext_any (B : Nat) (I : HostI) (d : HostD) (w : World) (h : HostM w B I d) : Calls Tryz.prog 7 #[.pointer (some ⟨I.X, 0, none⟩)] w (OneQ (.tuple #[.int .i64 (hNextV d).1, .bool (hNextV d).2]) w) := by
 obtain ⟨bs, sv, wv, hX, ok⟩ := h
 obtain ⟨p, c, rfl⟩ := hX.r.form
 have y4 : w.cell? ⟨I.X, 4, none⟩ = some (.pointer (some ⟨I.Q, 0, none⟩)) := hX.h.cell 4
 have y5 : w.cell? ⟨I.X, 5, none⟩ = some (.slice p bs.length c) := hX.h.cell 5
 have kQ := Lib.hid (fwNext_any B I.Q I.M d.q w hX.q)
 unfold OneQ at kQ
 have hlen := ok.len
 have hfew := ok.few
 have h0 := Lib.hid (show nxK d 0 = (nxtV d.q.items, decide (0 < d.q.items.length)) from rfl)
 have hS := Lib.hid (fun (k : Nat) (x : SaleD) (hx : d.sales[k]? = some x) => nxK_succ hx)
 have hR := Lib.hid (show hNextV d = nxK d d.sales.length from by unfold nxK hNextV; rw [List.take_length])
 rw [← hlen] at hR
 have hXh := Lib.hid hX
 have hget := Lib.hid (fun (k : Nat) (hk : k < bs.length) => show ∃ x, d.sales[k]? = some x from ⟨_, List.getElem?_eq_getElem (show k < d.sales.length by omega)⟩)
 have h256 : bs.length ≤ 256 := by omega
 generalize nxtV d.q.items = N0 at *
 generalize decide (0 < d.q.items.length) = B0 at *
 generalize hNextV d = RR at *
 clear hX ok hfew hlen
 go_enter Tryz.func7, Tryz.ntmps7
 go_wp2_with fail
 refine kQ.out.mono ?_
 rintro e w1 ⟨rfl, hE1⟩
 replace y5 := hE1.get y5
 clear y4 kQ
 go_wp2_with fail
 go_loopw [23, 4, 5] (fun i a b wr => ∃ k : Nat, k ≤ bs.length ∧ i = .int .i64 k ∧ a = .int .i64 (nxK d k).1 ∧ b = .bool (nxK d k).2 ∧ Ext w wr) (fun i _ _ _ => bs.length - (intOf i).toNat)
 case atStart => exact ⟨0, Nat.zero_le _, rfl, by rw [h0.out], by rw [h0.out], hE1⟩
 case round =>
  obtain ⟨k, hk, rfl, rfl, rfl, hE⟩ := hrel
  clear hE1 y5 h0
  by_cases hlt : k < bs.length
  · rcases ptrLie (hXh.out.ext hE).r with ⟨-, hnil⟩ | ⟨g1, off, cap, hv, -, -, hcap, hcm, hc⟩
    · rw [hnil] at hlt; cases hlt
    have hb : bs[k]? = some bs[k] := List.getElem?_eq_getElem hlt
    have x0 := hc k _ hb
    injection hv with hp1 hp2 hp3
    subst hp1 hp3
    obtain ⟨x, hx⟩ := hget.out k hlt
    have bk := ((hXh.out.ext hE).e k _ _ hb hx).1
    have hst := hS.out k _ hx
    generalize bs[k] = b at *
    have y8 : wr.cell? ⟨b, 8, none⟩ = some (.int .i64 x.st) := (bk.cell 8).trans rfl
    have y12 : wr.cell? ⟨b, 12, none⟩ = some (.int .i64 x.dl) := (bk.cell 12).trans rfl
    unfold ptrV at x0
    clear hc hcap hcm hp2 bk hS hR hget hXh hx hb
    replace hst := Lib.hid hst
    by_cases h1 : x.st = 1
    · have q1 : (x.st == 1) = true := by simp [h1]
      cases h2 : (nxK d k).2 with
      | false =>
       have hs2 : nxK d (k + 1) = (x.dl, true) := by rw [hst.out]; unfold nxtStep; rw [if_pos ⟨h1, Or.inl h2⟩]
       replace hs2 := Lib.hid hs2
       clear hst h1 h2
       generalize (nxK d k).1 = NK at *
       go_wp2
       go_roundw
       case rel => exact ⟨k + 1, by omega, by go_num, by rw [hs2.out], by rw [hs2.out], hE⟩
       case measure => simp [intOf]; omega
      | true =>
       by_cases h3 : x.dl < (nxK d k).1
       · have hs2 : nxK d (k + 1) = (x.dl, true) := by rw [hst.out]; unfold nxtStep; rw [if_pos ⟨h1, Or.inr h3⟩]
         replace hs2 := Lib.hid hs2
         have q3 := decide_eq_true h3
         clear hst h1 h2 h3
         generalize (nxK d k).1 = NK at *
         go_wp2
         go_roundw
         case rel => exact ⟨k + 1, by omega, by go_num, by rw [hs2.out], by rw [hs2.out], hE⟩
         case measure => simp [intOf]; omega
       · have hs2 : nxK d (k + 1) = nxK d k := by rw [hst.out]; unfold nxtStep; rw [if_neg (by rintro ⟨-, h | h⟩; rw [h2] at h; cases h; exact h3 h)]
         have q3 := decide_eq_false h3
         have hs3 : nxK d (k + 1) = ((nxK d k).1, true) := by rw [hs2, ← h2]
         replace hs3 := Lib.hid hs3
         clear hst h1 h2 h3 hs2
         generalize (nxK d k).1 = NK at *
         go_wp2
         go_roundw
         case rel => exact ⟨k + 1, by omega, by go_num, by rw [hs3.out], by rw [hs3.out], hE⟩
         case measure => simp [intOf]; omega
    · have q1 : (x.st == 1) = false := by simp [h1]
      have hs2 : nxK d (k + 1) = nxK d k := by rw [hst.out]; unfold nxtStep; rw [if_neg (fun h => h1 h.1)]
      replace hs2 := Lib.hid hs2
      clear hst h1
      generalize hNK : nxK d k = NK at *
      obtain ⟨n1, n2⟩ := NK
      simp only at *
      go_wp2
      go_roundw
      case rel => exact ⟨k + 1, by omega, by go_num, by rw [hs2.out], by rw [hs2.out], hE⟩
      case measure => simp [intOf]; omega
  · obtain rfl : k = bs.length := by omega
    have hs3 := Lib.hid hR.out
    clear hR hS hget hXh
    generalize nxK d bs.length = NK at *
    go_wp2
    try go_ret2
    exact ⟨by rw [hs3.out]; rfl, hE⟩
/-- A new host. -/
def hostNew (name : ByteArray) (sender : Nat) (timeout retry : Int) : HostD := ⟨name, timeout, 0, sender, 0, ⟨retry, [], []⟩, [], [], fun _ => none, 0, fun _ => none, 0, 0⟩
set_option maxRecDepth 8000 in
set_option maxHeartbeats 4000000 in
theorem hNew_any (name : ByteArray) (sender : Nat) (timeout retry : Int) (w : World) (hn : nameB name = true) (hnz : name.size ≤ 16) (hs : sender ≤ 9) (ht : 1 ≤ timeout ∧ timeout ≤ 100000) (hr : 1 ≤ retry ∧ retry ≤ 100000) : Calls Tryz.prog 5 #[.string name, .int .i64 sender, .int .i64 timeout, .int .i64 retry] w fun e w' => ∃ I : HostI, e = .returned (.tuple #[.pointer (some ⟨I.X, 0, none⟩), .int .i64 0]) ∧ HostM w' w.heap.size I (hostNew name sender timeout retry) ∧ Ext w w' := by
 have kI := Lib.hid (isName_any name w)
 rw [hn] at kI
 have kS := Lib.hid (fun w1 => newSource_any sender w1 hs)
 have kF := Lib.hid (fun w1 => fwNew_any retry w1 hr)
 have q0 : decide (timeout < 1) = false := decide_eq_false (by omega)
 have q1 : decide ((100000 : Int) < timeout) = false := decide_eq_false (by omega)
 have hmm := @run_makeMap Tryz.prog
 clear hn
 go_enter Tryz.func5, Tryz.ntmps5
 go_wp2_with fail
 refine kI.out.mono ?_
 rintro e w1 ⟨rfl, rfl⟩
 go_wp2_with fail
 refine (kS.out _).mono ?_
 rintro e w2 ⟨S, rfl, hSB, hS, hE2⟩
 go_wp2_with fail
 refine (kF.out _).mono ?_
 rintro e w3 ⟨Q, M, rfl, hQ, hE3⟩
 have hE4 := hE2.trans hE3
 replace hS := hS.ext hE3
 obtain ⟨qv, hQ⟩ := hQ
 have hM3 := hQ.m.lt
 have hQB : QueM w3 w.heap.size Q M ⟨retry, [], []⟩ := ⟨qv, hQ.q, hQ.m, hQ.r.base hE2.size, Nat.le_trans hE2.size hQ.bq, Nat.le_trans hE2.size hQ.bm, hQ.few, hQ.re⟩
 have hszz := hE4.size
 replace hQB := Lib.hid hQB
 clear hQ kI kS kF
 go_wp2_with fail
 try go_ret2
 have e1 : Ext w3 (((w3.alloc (.map #[] 0)).alloc (.map #[] 0)).alloc (.map #[] 0)) := xt
 have e2 : Ext w3 ((w3.alloc (.map #[] 0)).alloc (.map #[] 0)) := xt
 have hm : ∀ (wa : World) (o1 : Obj), Ext (wa.alloc (.map #[] 0)) ((wa.alloc (.map #[] 0)).alloc o1) := fun _ _ => xt
 refine ⟨⟨w3.heap.size + 3, S, Q, M, w3.heap.size, w3.heap.size + 1, w3.heap.size + 2⟩, rfl, ⟨[], .slice none 0 0, .slice none 0 0, ⟨?_, hS.ext xt, hQB.out.ext xt, RowR.nil _ _ _ _, fun i b x hb => by simp at hb, ?_, RowR.nil _ _ _ _, ?_, ?_⟩, ?_⟩, xt⟩
 · exact Blk.new' _ _ _ _ (by simp)
 · exact (SMap.made _ w3).ext xt
 · have h1 := SMap.made 9 (w3.alloc (.map #[] 0))
   rw [show (w3.alloc (.map #[] 0)).heap.size = w3.heap.size + 1 by simp] at h1
   exact h1.ext xt
 · have h1 := SMap.made 9 ((w3.alloc (.map #[] 0)).alloc (.map #[] 0))
   rw [show ((w3.alloc (.map #[] 0)).alloc (.map #[] 0)).heap.size = w3.heap.size + 2 by simp] at h1
   exact h1.ext xt
 · exact ⟨⟨by show w.heap.size ≤ w3.heap.size + 3; omega, hSB, by show w.heap.size ≤ w3.heap.size; omega, by show w.heap.size ≤ w3.heap.size + 1; omega, by show w.heap.size ≤ w3.heap.size + 2; omega⟩, ⟨by show w3.heap.size ≠ M; omega, by show w3.heap.size + 1 ≠ M; omega, by show w3.heap.size + 2 ≠ M; omega, by show w3.heap.size ≠ w3.heap.size + 1; omega, by show w3.heap.size ≠ w3.heap.size + 2; omega, by show w3.heap.size + 1 ≠ w3.heap.size + 2; omega⟩, rfl, List.nodup_nil, List.nodup_nil, Nat.zero_le _, fun x hx => (by cases hx), fun x hx => (by cases hx), fun s x hx => (by cases hx), hnz, ht, ⟨Nat.zero_le _, Nat.zero_le _⟩, fun s n hx => (by cases hx), ⟨Int.le_refl _, by show (0 : Int) ≤ 1000000000; decide⟩⟩
end Go.Proofs.YtkggloeaojkhaaaGreatDoor
