/- Contracts of the reference's number, text, Features of layer 38 (walks; printed by gen/h24.py). -/
import Derived.Test.YtmnhmkjmcckneaaGreatDoorJc
import Derived.Test.YtmnhmkjmcckneaaGreatDoorHd
namespace Go.Proofs.YtmnhmkjmcckneaaGreatDoor
open Go.RowKit
set_option maxHeartbeats 1000000 in
theorem rnum38_any (nm : ByteArray) (n : Int) (w : World) : Calls Tryz.prog 32 #[.string nm, .int .i64 n] w (OneW (.agg #[.string nm, .int .i64 1, .int .i64 n, .string ⟨#[]⟩]) w) := by
 go_enter Tryz.func32, Tryz.ntmps32
 go_wp2
 exact bodyPost_ret (v := .agg #[.string nm, .int .i64 1, .int .i64 n, .string ⟨#[]⟩]) (by simp [results, Tryz.results32, go_sem]) rfl ⟨rfl, xt⟩
set_option maxHeartbeats 1000000 in
theorem rtext38_any (nm s : ByteArray) (w : World) : Calls Tryz.prog 33 #[.string nm, .string s] w (OneW (.agg #[.string nm, .int .i64 2, .int .i64 0, .string s]) w) := by
 go_enter Tryz.func33, Tryz.ntmps33
 go_wp2
 exact bodyPost_ret (v := .agg #[.string nm, .int .i64 2, .int .i64 0, .string s]) (by simp [results, Tryz.results33, go_sem]) rfl ⟨rfl, xt⟩
set_option maxRecDepth 8000 in
set_option maxHeartbeats 8000000 in
theorem rfeaR_any (r : RecD) (w : World) : Calls Tryz.prog 15 #[recAgg r] w (FeaRP r w) := by
 have hfin := Lib.hid (fun (a : Int) (B : Nat) (w' : World) (ha : a = if r.auth.size = 0 then 0 else 1) (h : Blk w' B #[.string kinN, .int .i64 1, .int .i64 r.kind, .string ⟨#[]⟩, .string catN, .int .i64 1, .int .i64 r.cat, .string ⟨#[]⟩, .string amoN, .int .i64 1, .int .i64 r.amt, .string ⟨#[]⟩, .string datN, .int .i64 1, .int .i64 r.date, .string ⟨#[]⟩, .string merN, .int .i64 2, .int .i64 0, .string r.mer, .string issN, .int .i64 2, .int .i64 0, .string r.iss, .string acqN, .int .i64 2, .int .i64 0, .string r.acq, .string curN, .int .i64 2, .int .i64 0, .string r.cur, .string autN, .int .i64 3, .int .i64 a, .string ⟨#[]⟩] 76) (hE : Ext w w') => show FeaRP r w (.returned (.slice (some ⟨B, 0, none⟩) 9 9)) w' from ⟨B, rfl, feats_nine ha h, hE⟩)
 obtain ⟨kind, id, auth, acq, iss, mer, card, amt, cur, date, cat, fin⟩ := r
 simp only [recAgg, kinN, catN, amoN, datN, merN, issN, acqN, curN, autN] at hfin ⊢
 go_enter Tryz.func15, Tryz.ntmps15
 go_wp2_with fail
 have bX := Lib.hid (Blk.new w #[.int .i64 kind, .string id, .string auth, .string acq, .string iss, .string mer, .string card, .int .i64 amt, .string cur, .int .i64 date, .int .i64 cat, .bool fin] 28)
 have hE0 : Ext w (w.alloc (.cells #[.int .i64 kind, .string id, .string auth, .string acq, .string iss, .string mer, .string card, .int .i64 amt, .string cur, .int .i64 date, .int .i64 cat, .bool fin] 28)) := xt
 obtain ⟨w0, hw0⟩ : ∃ w0, w0 = w.alloc (.cells #[.int .i64 kind, .string id, .string auth, .string acq, .string iss, .string mer, .string card, .int .i64 amt, .string cur, .int .i64 date, .int .i64 cat, .bool fin] 28) := ⟨_, rfl⟩
 rw [← hw0] at bX hE0 ⊢
 clear hw0
 have x0 : w0.cell? ⟨w.heap.size, 0, none⟩ = some (.int .i64 kind) := (bX.out.cell 0).trans rfl
 have x3 : w0.cell? ⟨w.heap.size, 3, none⟩ = some (.string acq) := (bX.out.cell 3).trans rfl
 have x4 : w0.cell? ⟨w.heap.size, 4, none⟩ = some (.string iss) := (bX.out.cell 4).trans rfl
 have x5 : w0.cell? ⟨w.heap.size, 5, none⟩ = some (.string mer) := (bX.out.cell 5).trans rfl
 have x7 : w0.cell? ⟨w.heap.size, 7, none⟩ = some (.int .i64 amt) := (bX.out.cell 7).trans rfl
 have x8 : w0.cell? ⟨w.heap.size, 8, none⟩ = some (.string cur) := (bX.out.cell 8).trans rfl
 have x9 : w0.cell? ⟨w.heap.size, 9, none⟩ = some (.int .i64 date) := (bX.out.cell 9).trans rfl
 have x10 : w0.cell? ⟨w.heap.size, 10, none⟩ = some (.int .i64 cat) := (bX.out.cell 10).trans rfl
 refine wp_region_grow (by kernel_rfl) ?_
 refine grow_take (i := 0) (v := .pointer (some ⟨w.heap.size, 0, none⟩)) rfl (by kernel_rfl) (by kernel_rfl) (by kernel_rfl) (fun _ _ _ h => h) ⟨by rfl, fun w' hE => Or.inl (by first | (go_simp; done) | (go_simp; with_reducible rfl) | rfl)⟩ ?_
 simp only [Act.put, List.setIfInBounds_toArray, List.set_cons_zero, List.set_cons_succ]
 refine grow_take (i := 1) (v := .int .i64 kind) rfl (by kernel_rfl) (by kernel_rfl) (by kernel_rfl) (fun _ _ _ h => h) ⟨by rfl, fun w' hE => Or.inl (by have y := hE.get (show w0.drew.cell? ⟨w.heap.size, 0, none⟩ = some (.int .i64 kind) from x0); first | (go_simp; done) | (go_simp; with_reducible rfl))⟩ ?_
 simp only [Act.put, List.setIfInBounds_toArray, List.set_cons_zero, List.set_cons_succ]
 refine grow_take (i := 2) (v := .agg #[.string ⟨#[107, 105, 110, 100]⟩, .int .i64 1, .int .i64 kind, .string ⟨#[]⟩]) rfl (by kernel_rfl) (by kernel_rfl) (by kernel_rfl) (fun _ _ _ h => h) ⟨by rfl, fun w' hE => Or.inr ⟨32, #[.string ⟨#[107, 105, 110, 100]⟩, .int .i64 kind], (by first | (go_simp; done) | (go_simp; with_reducible rfl) | rfl), rnum38_any _ kind w'⟩⟩ ?_
 simp only [Act.put, List.setIfInBounds_toArray, List.set_cons_zero, List.set_cons_succ]
 refine grow_take (i := 3) (v := .pointer (some ⟨w.heap.size, 10, none⟩)) rfl (by kernel_rfl) (by kernel_rfl) (by kernel_rfl) (fun _ _ _ h => h) ⟨by rfl, fun w' hE => Or.inl (by first | (go_simp; done) | (go_simp; with_reducible rfl) | rfl)⟩ ?_
 simp only [Act.put, List.setIfInBounds_toArray, List.set_cons_zero, List.set_cons_succ]
 refine grow_take (i := 4) (v := .int .i64 cat) rfl (by kernel_rfl) (by kernel_rfl) (by kernel_rfl) (fun _ _ _ h => h) ⟨by rfl, fun w' hE => Or.inl (by have y := hE.get (show w0.drew.cell? ⟨w.heap.size, 10, none⟩ = some (.int .i64 cat) from x10); first | (go_simp; done) | (go_simp; with_reducible rfl))⟩ ?_
 simp only [Act.put, List.setIfInBounds_toArray, List.set_cons_zero, List.set_cons_succ]
 refine grow_take (i := 5) (v := .agg #[.string ⟨#[99, 97, 116, 101, 103, 111, 114, 121]⟩, .int .i64 1, .int .i64 cat, .string ⟨#[]⟩]) rfl (by kernel_rfl) (by kernel_rfl) (by kernel_rfl) (fun _ _ _ h => h) ⟨by rfl, fun w' hE => Or.inr ⟨32, #[.string ⟨#[99, 97, 116, 101, 103, 111, 114, 121]⟩, .int .i64 cat], (by first | (go_simp; done) | (go_simp; with_reducible rfl) | rfl), rnum38_any _ cat w'⟩⟩ ?_
 simp only [Act.put, List.setIfInBounds_toArray, List.set_cons_zero, List.set_cons_succ]
 refine grow_take (i := 6) (v := .pointer (some ⟨w.heap.size, 7, none⟩)) rfl (by kernel_rfl) (by kernel_rfl) (by kernel_rfl) (fun _ _ _ h => h) ⟨by rfl, fun w' hE => Or.inl (by first | (go_simp; done) | (go_simp; with_reducible rfl) | rfl)⟩ ?_
 simp only [Act.put, List.setIfInBounds_toArray, List.set_cons_zero, List.set_cons_succ]
 refine grow_take (i := 7) (v := .pointer (some ⟨w.heap.size, 7, none⟩)) rfl (by kernel_rfl) (by kernel_rfl) (by kernel_rfl) (fun _ _ _ h => h) ⟨by rfl, fun w' hE => Or.inl (by first | (go_simp; done) | (go_simp; with_reducible rfl) | rfl)⟩ ?_
 simp only [Act.put, List.setIfInBounds_toArray, List.set_cons_zero, List.set_cons_succ]
 refine grow_take (i := 8) (v := .int .i64 amt) rfl (by kernel_rfl) (by kernel_rfl) (by kernel_rfl) (fun _ _ _ h => h) ⟨by rfl, fun w' hE => Or.inl (by have y := hE.get (show w0.drew.cell? ⟨w.heap.size, 7, none⟩ = some (.int .i64 amt) from x7); first | (go_simp; done) | (go_simp; with_reducible rfl))⟩ ?_
 simp only [Act.put, List.setIfInBounds_toArray, List.set_cons_zero, List.set_cons_succ]
 refine grow_take (i := 9) (v := .agg #[.string ⟨#[97, 109, 111, 117, 110, 116]⟩, .int .i64 1, .int .i64 amt, .string ⟨#[]⟩]) rfl (by kernel_rfl) (by kernel_rfl) (by kernel_rfl) (fun _ _ _ h => h) ⟨by rfl, fun w' hE => Or.inr ⟨32, #[.string ⟨#[97, 109, 111, 117, 110, 116]⟩, .int .i64 amt], (by first | (go_simp; done) | (go_simp; with_reducible rfl) | rfl), rnum38_any _ amt w'⟩⟩ ?_
 simp only [Act.put, List.setIfInBounds_toArray, List.set_cons_zero, List.set_cons_succ]
 refine grow_take (i := 10) (v := .pointer (some ⟨w.heap.size, 9, none⟩)) rfl (by kernel_rfl) (by kernel_rfl) (by kernel_rfl) (fun _ _ _ h => h) ⟨by rfl, fun w' hE => Or.inl (by first | (go_simp; done) | (go_simp; with_reducible rfl) | rfl)⟩ ?_
 simp only [Act.put, List.setIfInBounds_toArray, List.set_cons_zero, List.set_cons_succ]
 refine grow_take (i := 11) (v := .int .i64 date) rfl (by kernel_rfl) (by kernel_rfl) (by kernel_rfl) (fun _ _ _ h => h) ⟨by rfl, fun w' hE => Or.inl (by have y := hE.get (show w0.drew.cell? ⟨w.heap.size, 9, none⟩ = some (.int .i64 date) from x9); first | (go_simp; done) | (go_simp; with_reducible rfl))⟩ ?_
 simp only [Act.put, List.setIfInBounds_toArray, List.set_cons_zero, List.set_cons_succ]
 refine grow_take (i := 12) (v := .agg #[.string ⟨#[100, 97, 116, 101]⟩, .int .i64 1, .int .i64 date, .string ⟨#[]⟩]) rfl (by kernel_rfl) (by kernel_rfl) (by kernel_rfl) (fun _ _ _ h => h) ⟨by rfl, fun w' hE => Or.inr ⟨32, #[.string ⟨#[100, 97, 116, 101]⟩, .int .i64 date], (by first | (go_simp; done) | (go_simp; with_reducible rfl) | rfl), rnum38_any _ date w'⟩⟩ ?_
 simp only [Act.put, List.setIfInBounds_toArray, List.set_cons_zero, List.set_cons_succ]
 refine grow_take (i := 13) (v := .pointer (some ⟨w.heap.size, 5, none⟩)) rfl (by kernel_rfl) (by kernel_rfl) (by kernel_rfl) (fun _ _ _ h => h) ⟨by rfl, fun w' hE => Or.inl (by first | (go_simp; done) | (go_simp; with_reducible rfl) | rfl)⟩ ?_
 simp only [Act.put, List.setIfInBounds_toArray, List.set_cons_zero, List.set_cons_succ]
 refine grow_take (i := 14) (v := .string mer) rfl (by kernel_rfl) (by kernel_rfl) (by kernel_rfl) (fun _ _ _ h => h) ⟨by rfl, fun w' hE => Or.inl (by have y := hE.get (show w0.drew.cell? ⟨w.heap.size, 5, none⟩ = some (.string mer) from x5); first | (go_simp; done) | (go_simp; with_reducible rfl))⟩ ?_
 simp only [Act.put, List.setIfInBounds_toArray, List.set_cons_zero, List.set_cons_succ]
 refine grow_take (i := 15) (v := .agg #[.string ⟨#[109, 101, 114, 99, 104, 97, 110, 116]⟩, .int .i64 2, .int .i64 0, .string mer]) rfl (by kernel_rfl) (by kernel_rfl) (by kernel_rfl) (fun _ _ _ h => h) ⟨by rfl, fun w' hE => Or.inr ⟨33, #[.string ⟨#[109, 101, 114, 99, 104, 97, 110, 116]⟩, .string mer], (by first | (go_simp; done) | (go_simp; with_reducible rfl) | rfl), rtext38_any _ mer w'⟩⟩ ?_
 simp only [Act.put, List.setIfInBounds_toArray, List.set_cons_zero, List.set_cons_succ]
 refine grow_take (i := 16) (v := .pointer (some ⟨w.heap.size, 4, none⟩)) rfl (by kernel_rfl) (by kernel_rfl) (by kernel_rfl) (fun _ _ _ h => h) ⟨by rfl, fun w' hE => Or.inl (by first | (go_simp; done) | (go_simp; with_reducible rfl) | rfl)⟩ ?_
 simp only [Act.put, List.setIfInBounds_toArray, List.set_cons_zero, List.set_cons_succ]
 refine grow_take (i := 17) (v := .string iss) rfl (by kernel_rfl) (by kernel_rfl) (by kernel_rfl) (fun _ _ _ h => h) ⟨by rfl, fun w' hE => Or.inl (by have y := hE.get (show w0.drew.cell? ⟨w.heap.size, 4, none⟩ = some (.string iss) from x4); first | (go_simp; done) | (go_simp; with_reducible rfl))⟩ ?_
 simp only [Act.put, List.setIfInBounds_toArray, List.set_cons_zero, List.set_cons_succ]
 refine grow_take (i := 18) (v := .agg #[.string ⟨#[105, 115, 115, 117, 101, 114]⟩, .int .i64 2, .int .i64 0, .string iss]) rfl (by kernel_rfl) (by kernel_rfl) (by kernel_rfl) (fun _ _ _ h => h) ⟨by rfl, fun w' hE => Or.inr ⟨33, #[.string ⟨#[105, 115, 115, 117, 101, 114]⟩, .string iss], (by first | (go_simp; done) | (go_simp; with_reducible rfl) | rfl), rtext38_any _ iss w'⟩⟩ ?_
 simp only [Act.put, List.setIfInBounds_toArray, List.set_cons_zero, List.set_cons_succ]
 refine grow_take (i := 19) (v := .pointer (some ⟨w.heap.size, 3, none⟩)) rfl (by kernel_rfl) (by kernel_rfl) (by kernel_rfl) (fun _ _ _ h => h) ⟨by rfl, fun w' hE => Or.inl (by first | (go_simp; done) | (go_simp; with_reducible rfl) | rfl)⟩ ?_
 simp only [Act.put, List.setIfInBounds_toArray, List.set_cons_zero, List.set_cons_succ]
 refine grow_take (i := 20) (v := .string acq) rfl (by kernel_rfl) (by kernel_rfl) (by kernel_rfl) (fun _ _ _ h => h) ⟨by rfl, fun w' hE => Or.inl (by have y := hE.get (show w0.drew.cell? ⟨w.heap.size, 3, none⟩ = some (.string acq) from x3); first | (go_simp; done) | (go_simp; with_reducible rfl))⟩ ?_
 simp only [Act.put, List.setIfInBounds_toArray, List.set_cons_zero, List.set_cons_succ]
 refine grow_take (i := 21) (v := .agg #[.string ⟨#[97, 99, 113, 117, 105, 114, 101, 114]⟩, .int .i64 2, .int .i64 0, .string acq]) rfl (by kernel_rfl) (by kernel_rfl) (by kernel_rfl) (fun _ _ _ h => h) ⟨by rfl, fun w' hE => Or.inr ⟨33, #[.string ⟨#[97, 99, 113, 117, 105, 114, 101, 114]⟩, .string acq], (by first | (go_simp; done) | (go_simp; with_reducible rfl) | rfl), rtext38_any _ acq w'⟩⟩ ?_
 simp only [Act.put, List.setIfInBounds_toArray, List.set_cons_zero, List.set_cons_succ]
 refine grow_take (i := 22) (v := .pointer (some ⟨w.heap.size, 7, none⟩)) rfl (by kernel_rfl) (by kernel_rfl) (by kernel_rfl) (fun _ _ _ h => h) ⟨by rfl, fun w' hE => Or.inl (by first | (go_simp; done) | (go_simp; with_reducible rfl) | rfl)⟩ ?_
 simp only [Act.put, List.setIfInBounds_toArray, List.set_cons_zero, List.set_cons_succ]
 refine grow_take (i := 23) (v := .pointer (some ⟨w.heap.size, 8, none⟩)) rfl (by kernel_rfl) (by kernel_rfl) (by kernel_rfl) (fun _ _ _ h => h) ⟨by rfl, fun w' hE => Or.inl (by first | (go_simp; done) | (go_simp; with_reducible rfl) | rfl)⟩ ?_
 simp only [Act.put, List.setIfInBounds_toArray, List.set_cons_zero, List.set_cons_succ]
 refine grow_take (i := 24) (v := .string cur) rfl (by kernel_rfl) (by kernel_rfl) (by kernel_rfl) (fun _ _ _ h => h) ⟨by rfl, fun w' hE => Or.inl (by have y := hE.get (show w0.drew.cell? ⟨w.heap.size, 8, none⟩ = some (.string cur) from x8); first | (go_simp; done) | (go_simp; with_reducible rfl))⟩ ?_
 simp only [Act.put, List.setIfInBounds_toArray, List.set_cons_zero, List.set_cons_succ]
 refine grow_take (i := 25) (v := .agg #[.string ⟨#[99, 117, 114, 114, 101, 110, 99, 121]⟩, .int .i64 2, .int .i64 0, .string cur]) rfl (by kernel_rfl) (by kernel_rfl) (by kernel_rfl) (fun _ _ _ h => h) ⟨by rfl, fun w' hE => Or.inr ⟨33, #[.string ⟨#[99, 117, 114, 114, 101, 110, 99, 121]⟩, .string cur], (by first | (go_simp; done) | (go_simp; with_reducible rfl) | rfl), rtext38_any _ cur w'⟩⟩ ?_
 simp only [Act.put, List.setIfInBounds_toArray, List.set_cons_zero, List.set_cons_succ]
 refine grow_take (i := 26) (v := .agg #[.string ⟨#[97, 117, 116, 104, 111, 114, 105, 122, 101, 100]⟩, .int .i64 3, .int .i64 0, .string ⟨#[]⟩]) rfl (by kernel_rfl) (by kernel_rfl) (by kernel_rfl) (fun _ _ _ h => h) ⟨by rfl, fun w' hE => Or.inl (by first | (go_simp; done) | (go_simp; with_reducible rfl) | rfl)⟩ ?_
 simp only [Act.put, List.setIfInBounds_toArray, List.set_cons_zero, List.set_cons_succ]
 refine grow_one (i := 27) rfl (by kernel_rfl) (by rfl) (fun w1 hE1 => ?_)
 clear x0 x3 x4 x5 x7 x8 x9 x10
 go_simp
 refine ⟨(Ext.refl _).alloc _, ?_⟩
 have bS := Lib.hid (Blk.new w1 #[.string ⟨#[107, 105, 110, 100]⟩, .int .i64 1, .int .i64 kind, .string ⟨#[]⟩, .string ⟨#[99, 97, 116, 101, 103, 111, 114, 121]⟩, .int .i64 1, .int .i64 cat, .string ⟨#[]⟩, .string ⟨#[97, 109, 111, 117, 110, 116]⟩, .int .i64 1, .int .i64 amt, .string ⟨#[]⟩, .string ⟨#[100, 97, 116, 101]⟩, .int .i64 1, .int .i64 date, .string ⟨#[]⟩, .string ⟨#[109, 101, 114, 99, 104, 97, 110, 116]⟩, .int .i64 2, .int .i64 0, .string mer, .string ⟨#[105, 115, 115, 117, 101, 114]⟩, .int .i64 2, .int .i64 0, .string iss, .string ⟨#[97, 99, 113, 117, 105, 114, 101, 114]⟩, .int .i64 2, .int .i64 0, .string acq, .string ⟨#[99, 117, 114, 114, 101, 110, 99, 121]⟩, .int .i64 2, .int .i64 0, .string cur, .string ⟨#[97, 117, 116, 104, 111, 114, 105, 122, 101, 100]⟩, .int .i64 3, .int .i64 0, .string ⟨#[]⟩] 76)
 have hs1 : w.heap.size ≤ w1.heap.size := Nat.le_trans hE0.size hE1.size
 have hE2 : Ext w (w1.alloc (.cells #[.string ⟨#[107, 105, 110, 100]⟩, .int .i64 1, .int .i64 kind, .string ⟨#[]⟩, .string ⟨#[99, 97, 116, 101, 103, 111, 114, 121]⟩, .int .i64 1, .int .i64 cat, .string ⟨#[]⟩, .string ⟨#[97, 109, 111, 117, 110, 116]⟩, .int .i64 1, .int .i64 amt, .string ⟨#[]⟩, .string ⟨#[100, 97, 116, 101]⟩, .int .i64 1, .int .i64 date, .string ⟨#[]⟩, .string ⟨#[109, 101, 114, 99, 104, 97, 110, 116]⟩, .int .i64 2, .int .i64 0, .string mer, .string ⟨#[105, 115, 115, 117, 101, 114]⟩, .int .i64 2, .int .i64 0, .string iss, .string ⟨#[97, 99, 113, 117, 105, 114, 101, 114]⟩, .int .i64 2, .int .i64 0, .string acq, .string ⟨#[99, 117, 114, 114, 101, 110, 99, 121]⟩, .int .i64 2, .int .i64 0, .string cur, .string ⟨#[97, 117, 116, 104, 111, 114, 105, 122, 101, 100]⟩, .int .i64 3, .int .i64 0, .string ⟨#[]⟩] 76)) := (Ext.trans (Ext.trans hE0 (Ext.drew (Ext.refl _))) hE1).alloc _
 replace bX := Lib.hid ((show Blk w0.drew w.heap.size #[.int .i64 kind, .string id, .string auth, .string acq, .string iss, .string mer, .string card, .int .i64 amt, .string cur, .int .i64 date, .int .i64 cat, .bool fin] 28 from bX.out).ext (hE1.alloc (.cells #[.string ⟨#[107, 105, 110, 100]⟩, .int .i64 1, .int .i64 kind, .string ⟨#[]⟩, .string ⟨#[99, 97, 116, 101, 103, 111, 114, 121]⟩, .int .i64 1, .int .i64 cat, .string ⟨#[]⟩, .string ⟨#[97, 109, 111, 117, 110, 116]⟩, .int .i64 1, .int .i64 amt, .string ⟨#[]⟩, .string ⟨#[100, 97, 116, 101]⟩, .int .i64 1, .int .i64 date, .string ⟨#[]⟩, .string ⟨#[109, 101, 114, 99, 104, 97, 110, 116]⟩, .int .i64 2, .int .i64 0, .string mer, .string ⟨#[105, 115, 115, 117, 101, 114]⟩, .int .i64 2, .int .i64 0, .string iss, .string ⟨#[97, 99, 113, 117, 105, 114, 101, 114]⟩, .int .i64 2, .int .i64 0, .string acq, .string ⟨#[99, 117, 114, 114, 101, 110, 99, 121]⟩, .int .i64 2, .int .i64 0, .string cur, .string ⟨#[97, 117, 116, 104, 111, 114, 105, 122, 101, 100]⟩, .int .i64 3, .int .i64 0, .string ⟨#[]⟩] 76)))
 clear hE0 hE1
 obtain ⟨B, hB⟩ : ∃ B, B = w1.heap.size := ⟨_, rfl⟩
 obtain ⟨w2, hw2⟩ : ∃ w2, w2 = w1.alloc (.cells #[.string ⟨#[107, 105, 110, 100]⟩, .int .i64 1, .int .i64 kind, .string ⟨#[]⟩, .string ⟨#[99, 97, 116, 101, 103, 111, 114, 121]⟩, .int .i64 1, .int .i64 cat, .string ⟨#[]⟩, .string ⟨#[97, 109, 111, 117, 110, 116]⟩, .int .i64 1, .int .i64 amt, .string ⟨#[]⟩, .string ⟨#[100, 97, 116, 101]⟩, .int .i64 1, .int .i64 date, .string ⟨#[]⟩, .string ⟨#[109, 101, 114, 99, 104, 97, 110, 116]⟩, .int .i64 2, .int .i64 0, .string mer, .string ⟨#[105, 115, 115, 117, 101, 114]⟩, .int .i64 2, .int .i64 0, .string iss, .string ⟨#[97, 99, 113, 117, 105, 114, 101, 114]⟩, .int .i64 2, .int .i64 0, .string acq, .string ⟨#[99, 117, 114, 114, 101, 110, 99, 121]⟩, .int .i64 2, .int .i64 0, .string cur, .string ⟨#[97, 117, 116, 104, 111, 114, 105, 122, 101, 100]⟩, .int .i64 3, .int .i64 0, .string ⟨#[]⟩] 76) := ⟨_, rfl⟩
 rw [← hw2] at bS hE2 bX
 rw [← hB] at bS hs1
 first | rw [← hw2, ← hB] | (simp only [← hw2, ← hB])
 clear hw2 hB
 refine grow_take (i := 28) (v := .slice (some ⟨B, 0, none⟩) 9 9) rfl (by kernel_rfl) (by kernel_rfl) (by kernel_rfl) (fun _ _ _ h => h) ⟨by rfl, fun w' hE => Or.inl (by first | (go_simp; done) | (go_simp; with_reducible rfl) | rfl)⟩ ?_
 simp only [Act.put, List.setIfInBounds_toArray, List.set_cons_zero, List.set_cons_succ]
 refine grow_end (by kernel_rfl) (fun w3 hE3 => ?_) _
 replace bS := Lib.hid (bS.out.ext hE3)
 replace bX := Lib.hid (bX.out.ext hE3)
 have hE := hE2.trans hE3
 clear hE2 hE3
 have x2 : w3.cell? ⟨w.heap.size, 2, none⟩ = some (.string auth) := (bX.out.cell 2).trans rfl
 by_cases hz : auth.size = 0
 · have e0 := emp_list hz
   have ha : (0 : Int) = if auth.size = 0 then 0 else 1 := by rw [if_pos hz]
   replace ha := Lib.hid ha
   clear hz
   go_wp2
   go_ret
   exact hfin.out 0 B _ ha.out bS.out hE
 · have e0 := ne_list hz
   have e1 := ne_isE hz
   have ha : (1 : Int) = if auth.size = 0 then 0 else 1 := by rw [if_neg hz]
   replace ha := Lib.hid ha
   clear hz
   have y34 : w3.cell? ⟨B, 34, none⟩ = some (.int .i64 0) := (bS.out.cell 34).trans rfl
   have f34 : w3.frozen? ⟨B, 34, none⟩ = false := bS.out.fz 34
   have bs := bS.out.lt
   go_wp2
   go_ret
   exact hfin.out 1 B _ ha.out (show Blk (w3.setCell ⟨B, 34, none⟩ (.int .i64 1)) B #[.string ⟨#[107, 105, 110, 100]⟩, .int .i64 1, .int .i64 kind, .string ⟨#[]⟩, .string ⟨#[99, 97, 116, 101, 103, 111, 114, 121]⟩, .int .i64 1, .int .i64 cat, .string ⟨#[]⟩, .string ⟨#[97, 109, 111, 117, 110, 116]⟩, .int .i64 1, .int .i64 amt, .string ⟨#[]⟩, .string ⟨#[100, 97, 116, 101]⟩, .int .i64 1, .int .i64 date, .string ⟨#[]⟩, .string ⟨#[109, 101, 114, 99, 104, 97, 110, 116]⟩, .int .i64 2, .int .i64 0, .string mer, .string ⟨#[105, 115, 115, 117, 101, 114]⟩, .int .i64 2, .int .i64 0, .string iss, .string ⟨#[97, 99, 113, 117, 105, 114, 101, 114]⟩, .int .i64 2, .int .i64 0, .string acq, .string ⟨#[99, 117, 114, 114, 101, 110, 99, 121]⟩, .int .i64 2, .int .i64 0, .string cur, .string ⟨#[97, 117, 116, 104, 111, 114, 105, 122, 101, 100]⟩, .int .i64 3, .int .i64 1, .string ⟨#[]⟩] 76 from (bS.out.set 34 (.int .i64 1))) (hE.setCell (p := ⟨B, 34, none⟩) hs1 _)
end Go.Proofs.YtmnhmkjmcckneaaGreatDoor
