/- acquirer's example: the contracts of its calls (printed by gen/h93.py). -/
import Derived.Test.YtkggloeaojkhaaaGreatDoorTb
namespace Go.Proofs.YtkggloeaojkhaaaGreatDoor
open Go.RowKit
section
variable (B : Nat) (I : HostI) (w : World)
theorem awPur_any (g : Gl w) (hGB : GB B) (hB : B ≤ w.heap.size) (h : HostM w B I aw0) : Calls Tryz.prog 6 #[.pointer (some ⟨I.X, 0, none⟩), .int .i64 1728000, .agg #[.string ⟨#[109, 45, 49]⟩, .string ⟨#[116, 49]⟩, .string ⟨#[52, 48, 48, 48, 48, 48, 48, 48, 48, 48, 48, 48, 48, 48, 48, 50]⟩, .int .i64 1000, .int .i64 0, .string ⟨#[69, 85, 82]⟩, .int .i64 5411]] w fun e w' => ∃ v, e = .returned (.tuple #[.string ⟨#[48, 48, 48, 50, 48, 51, 48, 48, 48, 48, 48, 49]⟩, msgAgg 100 v, .int .i64 0]) ∧ Elems w' v awEs ∧ HostM w' B I aw1 ∧ Chg (HF B I w) w w' := by
 refine (hPur_any B I aw0 1728000 awP w g hGB hB h (fun x hx => by cases hx)).mono ?_
 rintro e w' ⟨v, he, hv, hM, hF⟩
 rw [awPur.1, awPur.2.1, awPur.2.2] at he
 exact ⟨v, he, hv, hM, hF⟩
theorem awRep_any (v : Value) (hv : Elems w v awEs) : Calls Tryz.prog 11 #[msgAgg 100 v, .string ⟨#[48, 48]⟩] w fun e w' => ∃ v', e = .returned (.tuple #[msgAgg 110 v', .int .i64 0]) ∧ Elems w' v' awRe ∧ Ext w w' := by
 have hl := awLen
 refine (rreply_any 100 v awEs ⟨#[48, 48]⟩ w hv (by omega) (by decide)).mono ?_
 rintro e w' ⟨v', he, hv', hE⟩
 rw [awRep.1, awRep.2] at he
 exact ⟨v', he, hv', hE⟩
theorem awRec_any (v : Value) (g : Gl w) (hB : B ≤ w.heap.size) (h : HostM w B I aw1) (hv : Elems w v awRe) : Calls Tryz.prog 13 #[.pointer (some ⟨I.X, 0, none⟩), .int .i64 1728005, msgAgg 110 v] w fun e w' => e = .returned (.int .i64 0) ∧ HostM w' B I aw2 ∧ Chg (HF B I w) w w' := by
 have hl := awLen
 refine (hRec_any B I aw1 1728005 110 v awRe w g hB h hv (by omega) awSm).mono ?_
 rintro e w' ⟨he, hM, hF⟩
 rw [awRec] at he
 exact ⟨he, hM, hF⟩
theorem awCap1_any (g : Gl w) (hGB : GB B) (hB : B ≤ w.heap.size) (h : HostM w B I aw2) : Calls Tryz.prog 38 #[.pointer (some ⟨I.X, 0, none⟩), .int .i64 1728006, .string ⟨#[48, 48, 48, 50, 48, 51, 48, 48, 48, 48, 48, 49]⟩, .int .i64 1201, .bool true] w fun e w' => e = .returned (.int .i64 22) ∧ HostM w' B I aw2 ∧ Chg (HF B I w) w w' := by
 refine (hCap_any B I aw2 1728006 awR 1201 true w g hGB hB h (by decide) (by rw [awWt2]; decide)).mono ?_
 rintro e w' ⟨he, hM, hF⟩
 rw [awCap1] at he
 rw [awCap1d] at hM
 exact ⟨he, hM, hF⟩
theorem awCap2_any (g : Gl w) (hGB : GB B) (hB : B ≤ w.heap.size) (h : HostM w B I aw2) : Calls Tryz.prog 38 #[.pointer (some ⟨I.X, 0, none⟩), .int .i64 1728006, .string ⟨#[48, 48, 48, 50, 48, 51, 48, 48, 48, 48, 48, 49]⟩, .int .i64 400, .bool false] w fun e w' => e = .returned (.int .i64 0) ∧ HostM w' B I aw3 ∧ Chg (HF B I w) w w' := by
 refine (hCap_any B I aw2 1728006 awR 400 false w g hGB hB h (by decide) (by rw [awWt2]; decide)).mono ?_
 rintro e w' ⟨he, hM, hF⟩
 rw [awCap2] at he
 exact ⟨he, hM, hF⟩
theorem aw3_small : aw3.files = 0 ∧ aw3.nfiled = 0 ∧ aw4.q.known.length = 0 := ⟨by kernel_rfl, by kernel_rfl, by kernel_rfl⟩
theorem awBat_gen (d3 d4 : HostD) (a1 : d3.files = 0) (a2 : d3.nfiled = 0) (b1 : batE d3 20 = 0) (b2 : batId d3 20 = ⟨#[70, 50, 48, 45, 49]⟩) (b3 : (d3.wt.take (batN d3)).map EntD.id = [⟨#[48, 48, 48, 50, 48, 51, 48, 48, 48, 48, 48, 49, 45, 49]⟩]) (e4 : batH d3 = d4) (g : Gl w) (hGB : GB B) (hB : B ≤ w.heap.size) (h : HostM w B I d3) : Calls Tryz.prog 39 #[.pointer (some ⟨I.X, 0, none⟩), .int .i64 20] w fun e w' => ∃ nm gb ob c, e = .returned (.tuple #[.agg #[.string ⟨#[70, 50, 48, 45, 49]⟩, .string nm, .int .i64 20, .slice (some ⟨gb, ob, none⟩) 1 c], .int .i64 0]) ∧ 1 ≤ c ∧ w'.cell? ⟨gb, ob + 1, none⟩ = some (.string ⟨#[48, 48, 48, 50, 48, 51, 48, 48, 48, 48, 48, 49, 45, 49]⟩) ∧ HostM w' B I d4 ∧ Chg (HF B I w) w w' := by
 refine (hBat_any B I d3 20 w g hGB hB h (by rw [a1]; decide) (by rw [a2]; decide)).mono ?_
 intro e w' hp
 unfold HBatP at hp
 rw [b1, if_neg (by decide), b2, e4] at hp
 obtain ⟨v, he, hr, hM, hF⟩ := hp
 obtain ⟨l, hl⟩ : ∃ l, d3.wt.take (batN d3) = l := ⟨_, rfl⟩
 rw [hl] at b3 hr
 clear hl
 obtain ⟨x, rfl, hx⟩ : ∃ x, l = [x] ∧ x.id = ⟨#[48, 48, 48, 50, 48, 51, 48, 48, 48, 48, 48, 49, 45, 49]⟩ := by
  cases l with
  | nil => simp at b3
  | cons x l =>
   cases l with
   | nil => exact ⟨x, rfl, by simpa using b3⟩
   | cons y l => simp at b3
 clear b3
 rcases hr.lie with ⟨-, h0⟩ | ⟨gb, ob, c, rfl, -, -, hc, -, -, hcell⟩
 · cases h0
 · have h1 := hcell 0 x rfl 1 (.string x.id) rfl
   rw [hx] at h1
   have h2 : w'.cell? ⟨gb, ob + 1, none⟩ = some (.string ⟨#[48, 48, 48, 50, 48, 51, 48, 48, 48, 48, 48, 49, 45, 49]⟩) := by
    rw [Nat.zero_mul, Nat.add_zero] at h1
    exact h1
   exact ⟨_, gb, ob, c, he, hc, h2, hM, hF⟩
theorem awBat_any (g : Gl w) (hGB : GB B) (hB : B ≤ w.heap.size) (h : HostM w B I aw3) : Calls Tryz.prog 39 #[.pointer (some ⟨I.X, 0, none⟩), .int .i64 20] w fun e w' => ∃ nm gb ob c, e = .returned (.tuple #[.agg #[.string ⟨#[70, 50, 48, 45, 49]⟩, .string nm, .int .i64 20, .slice (some ⟨gb, ob, none⟩) 1 c], .int .i64 0]) ∧ 1 ≤ c ∧ w'.cell? ⟨gb, ob + 1, none⟩ = some (.string ⟨#[48, 48, 48, 50, 48, 51, 48, 48, 48, 48, 48, 49, 45, 49]⟩) ∧ HostM w' B I aw4 ∧ Chg (HF B I w) w w' :=
 awBat_gen B I w aw3 aw4 aw3_small.1 aw3_small.2.1 awBat.1 awBat.2.1 awBat.2.2 rfl g hGB hB h
theorem awSal_any (h : HostM w B I aw4) : Calls Tryz.prog 12 #[.pointer (some ⟨I.X, 0, none⟩), .string ⟨#[48, 48, 48, 50, 48, 51, 48, 48, 48, 48, 48, 49]⟩] w fun e w' => ∃ x : SaleD, e = .returned (.tuple #[salAgg x, .bool true]) ∧ x.st = 2 ∧ x.appr = 1000 ∧ x.capt = 400 ∧ Ext w w' := by
 refine (hSale_any B I aw4 awR w h (by decide)).mono ?_
 rintro e w' ⟨hE, ⟨h1, -⟩ | ⟨i, x, h1, hx, he⟩⟩
 · rw [awIx] at h1; cases h1
 · rw [awIx] at h1
   injection h1 with h1
   subst h1
   have h2 := congrArg (fun l => l[0]?) awSal
   simp only [List.getElem?_map, hx, Option.map_some] at h2
   have h3 : (x.st, x.appr, x.capt) = ((2 : Int), (1000 : Int), (400 : Int)) := by simpa using h2
   injection h3 with a1 h3
   injection h3 with a2 a3
   exact ⟨x, he, a1, a2, a3, hE⟩
theorem awCan_any (g : Gl w) (hGB : GB B) (hB : B ≤ w.heap.size) (h : HostM w B I aw4) : Calls Tryz.prog 40 #[.pointer (some ⟨I.X, 0, none⟩), .int .i64 1728007, .string ⟨#[48, 48, 48, 50, 48, 51, 48, 48, 48, 48, 48, 49]⟩] w fun e w' => e = .returned (.int .i64 8) ∧ Chg (HF B I w) w w' := by
 refine (hCan_any B I aw4 1728007 awR w g hGB hB h (by decide) (by rw [aw3_small.2.2]; decide)).mono ?_
 rintro e w' ⟨he, -, hF⟩
 rw [awCan] at he
 exact ⟨he, hF⟩
end
end Go.Proofs.YtkggloeaojkhaaaGreatDoor
