/- The walk of the law ElementFinds. -/
import Derived.Test.YthokhncdpfaifaaDoorLaws
namespace Go.Proofs.YthokhncdpfaifaaDoor
open Go.RowKit
theorem findV_form (n : Int) : ∃ (a : Int) (nm : ByteArray) (kd ln vr : Int), findV n = .agg #[.int .i64 a, .string nm, .int .i64 kd, .int .i64 ln, .int .i64 vr] := by
  unfold findV
  cases rowOf n with
  | none => exact ⟨_, _, _, _, _, rfl⟩
  | some k => exact ⟨_, _, _, _, _, rfl⟩
/-- The row of a name. -/
def rowBy (name : ByteArray) : Option Nat := (List.range 23).find? (fun k => decide (dName k = name))
def byV (name : ByteArray) : Int := match rowBy name with | some k => dNum k | none => 0
theorem rowBy_some {name : ByteArray} {k : Nat} (hk : k < 23) (hn : dName k = name) : rowBy name = some k := by
  unfold rowBy
  cases h : (List.range 23).find? (fun k => decide (dName k = name)) with
  | none =>
    have := List.find?_eq_none.1 h k (List.mem_range.2 hk)
    simp [hn] at this
  | some j =>
    have h1 := List.find?_some h
    have h2 := List.mem_range.1 (List.mem_of_find?_eq_some h)
    rw [dName_inj j k h2 hk ((by simpa using h1 : dName j = name).trans hn.symm)]
theorem ByPost.one {name : ByteArray} {w : World} {e : Ending} {w' : World} (h : ByPost name w e w') : One (.tuple #[.int .i64 (byV name), .bool (rowBy name).isSome]) w e w' := by
  rcases h with ⟨k, hk, hn, he, hE⟩ | ⟨hno, he, hE⟩
  · unfold One byV; rw [rowBy_some hk hn]; exact ⟨he, hE⟩
  · have : rowBy name = none := by
      unfold rowBy
      rw [List.find?_eq_none]
      intro k hk
      simpa using hno k (List.mem_range.1 hk)
    unfold One byV; rw [this]; exact ⟨he, hE⟩
theorem byF (name : ByteArray) (w : World) (g : Gl w) : Calls Tryd.prog 16 #[.string name] w (One (.tuple #[.int .i64 (byV name), .bool (rowBy name).isSome]) w) := (byName_any name w g).mono fun _ _ h => h.one
theorem rByF (name : ByteArray) (w : World) : Calls Tryd.prog 19 #[.string name] w (One (.tuple #[.int .i64 (byV name), .bool (rowBy name).isSome]) w) := (rByName_any name w).mono fun _ _ h => h.one
theorem dNums_bd : (dNums 23).length ≤ 1000000 := by rw [dNums_len]; decide
theorem reqL_bd (k : Int) : (reqL k).length ≤ 1000000 := by
  unfold reqL
  repeat (split; decide)
  decide
set_option maxRecDepth 8000 in
set_option maxHeartbeats 2000000 in
theorem law_finds (n : Int) (name : ByteArray) (w : World) (g : Gl w) (_hs : name.size ≤ 9223372036854775807) : Calls Tryd.prog 8 #[.int .i64 n, .string name] w (LawPost w) := by
  obtain ⟨a, nm, kd, ln, vr, hF⟩ := findV_form n
  have HF := Lib.hid hF
  clear hF
  generalize hok : (rowOf n).isSome = ok
  have HO := Lib.hid hok
  clear hok
  go_enter Tryd.func8, Tryd.ntmps8
  go_wp2_with fail
  refine (findF n _ g).mono ?_
  rintro e w1 ⟨rfl, hE1⟩
  rw [HF.out, HO.out]
  go_wp2_with fail
  refine (rFindF n _).mono ?_
  rintro e w2 ⟨rfl, hE⟩
  rw [HF.out, HO.out]
  have hB1 := (Blk.new w1 _ _).ext hE
  have hE2 := (hE1.alloc _).trans hE
  clear hE1 hE
  go_wp2_with fail
  refine (byF name _ (g.ext (hE2.alloc _))).mono ?_
  rintro e w3 ⟨rfl, hE⟩
  have hB1 := (hB1.alloc _).ext hE
  have hB2 := (Blk.new w2 _ _).ext hE
  have hE3 := (hE2.alloc _).trans hE
  clear hE2 hE
  go_wp2_with fail
  refine (rByF name _).mono ?_
  rintro e w4 ⟨rfl, hE⟩
  have hB1 := hB1.ext hE
  have hB2 := hB2.ext hE
  have hE4 := hE3.trans hE
  clear hE3 hE
  have z0 := hB1.cell 0
  have z1 := hB1.cell 1
  have z2 := hB1.cell 2
  have z3 := hB1.cell 3
  have z4 := hB1.cell 4
  have y0 := hB2.cell 0
  have y1 := hB2.cell 1
  have y2 := hB2.cell 2
  have y3 := hB2.cell 3
  have y4 := hB2.cell 4
  clear hB1 hB2
  simp at z0 z1 z2 z3 z4 y0 y1 y2 y3 y4
  go_wp2_with fail
  refine (all_any _ (g.ext hE4)).mono ?_
  rintro e w5 ⟨v5, rfl, hi5, hE5⟩
  go_wp2_with fail
  refine (rAll_any _).mono ?_
  rintro e w6 ⟨v6, rfl, hi6, hE6⟩
  go_wp2_with fail
  refine (same_any v5 v6 (dNums 23) (dNums 23) _ (hi5.ext hE6) hi6 dNums_bd dNums_bd).mono ?_
  rintro e w7 ⟨rfl, hE⟩
  have hE7 := ((hE4.trans hE5).trans hE6).trans hE
  clear hE4 hE5 hE6 hE hi5 hi6
  rw [show decide (dNums 23 = dNums 23) = true from decide_eq_true rfl]
  go_wp2_with fail
  refine (required_any n _).mono ?_
  rintro e w8 ⟨v8, rfl, hi8, hE8⟩
  go_wp2_with fail
  refine (rRequired_any n _).mono ?_
  rintro e w9 ⟨v9, rfl, hi9, hE9⟩
  go_wp2_with fail
  refine (same_any v8 v9 (reqL n) (reqL n) _ (hi8.ext hE9) hi9 (reqL_bd n) (reqL_bd n)).mono ?_
  rintro e w10 ⟨rfl, hE⟩
  have hE10 := ((hE7.trans hE8).trans hE9).trans hE
  clear hE7 hE8 hE9 hE hi8 hi9
  rw [show decide (reqL n = reqL n) = true from decide_eq_true rfl]
  go_wp2_with fail
  refine (awake_any _ (g.ext hE10)).mono ?_
  rintro e w11 ⟨rfl, hE⟩
  have hE11 := hE10.trans hE
  clear hE10 hE
  go_wp2
  go_ret
  exact ⟨rfl, hE11⟩
end Go.Proofs.YthokhncdpfaifaaDoor
