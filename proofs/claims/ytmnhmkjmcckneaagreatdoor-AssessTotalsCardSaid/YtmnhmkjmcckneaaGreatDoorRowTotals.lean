/- Proved: the law cardnet/cardnetlaw38.AssessTotals returns true for every input, its arguments unchanged (the tied card AssessTotalsCardSaid; the listed package-level variables are tied to the program's text). No condition beyond the row's own. -/
import Derived.Test.YtmnhmkjmcckneaaGreatDoorHj
import Derived.Test.YtmnhmkjmcckneaaGreatDoorTie
import Derived.Test.YtmnhmkjmcckneaaGreatDoorCards
import Derived.Test.YtmnhmkjmcckneaaGreatDoorRows
import Derived.OpenShut
import Derived.ShutString
import Derived.Lay
import Derived.Stop.Joined
namespace Go.Proofs.YtmnhmkjmcckneaaGreatDoor
open Go.ChangeShapes Go.WideShapes Go.ChangeAt Go.WideMaps Go.WideElems Go.RowKit
open Go.ChangeMaps (open_string shut_string)
set_option maxRecDepth 100000 in
theorem assessTotals_lifted (os : Os) (started : os.Started) (H : Type) (enc : TypeId × Value → H) :
 ReturnsInHanded {} Tryz.checked os 7 .any (fun w args => (Rows.assessTotalsSpec.pre enc Tryz.prog Tryz.f7 [] false w args ∧ laidMetH Tryz.prog laidL w) ∧ sizedMet enc Tryz.prog Tryz.f7 (OpenSpec.ofChange Rows.assessTotalsSpec) false w args)
  (Rows.assessTotalsSpec.post enc Tryz.prog Tryz.f7 false true false false) := by
 refine returnsInHanded_of_change_and (C := Tryz.checked) (X := fun w _ => laidMetH Tryz.prog laidL w) (fun _ _ _ hh h => h.of_heap hh) own started (by kernel_rfl) Tryz.func7
  (ChangeSpec.witness_shaped (enc := enc) (C := Tryz.checked) (os := os) (X := fun w _ => laidMetH Tryz.prog laidL w) false (World.laidAll Tryz.prog os laidL) #[.slice none 0 0, .int .u8 0] 8 (World.laidAll_os _ _ _)
   (World.shaped_of_ZipB (by kernel_rfl) (by kernel_rfl)) (by kernel_rfl) (by kernel_rfl) (by kernel_rfl)
   (by rw [MakeChecks.laidMetH_plain _ _ _ (by kernel_rfl)]; exact laidMet_laidAll _ (by kernel_rfl) (by kernel_rfl))) ?_
 intro W base args ds gs before hval0 hW _ hZ0 hL _
 have hval : ∀ (j : Nat) t v, Tryz.f7.params[j]? = some t → args[j]? = some v → Value.okWide Tryz.prog W .any base t v := hval0
 have hZ : (DataW.weightsEach Tryz.prog (Tryz.f7.params.toList ++ Rows.assessTotalsSpec.plain.varTypes Tryz.prog) (ds ++ gs)).all (· ≤ reachBytes) = true := hZ0
 have hW' := hW
 obtain ⟨p, q, hA0, hV, rfl, _, _⟩ := hW
 have hA : DataW.TrodAll enc Tryz.prog W 0 (fun _ => true) true Tryz.f7.params.toList args.toList ds p := hA0
 rw [Tryz.params7] at hA hval hZ
 obtain ⟨v0, v1, d0, d1, p0, p1, rfl, rfl, rfl, h0, h1⟩ := trodAll_two hA
 obtain ⟨rfl, rfl⟩ := trodVars_none hV
 have g0 := h0
 have z0 : InReach 65 d0 := reach_arg hZ 0 65 d0 rfl rfl
 obtain ⟨pp0, ll0, cc0, rfl⟩ := okWide_slice Tryz.underlying65 (hval 0 65 v0 rfl rfl)
 obtain ⟨x0, a0⟩ := open_quadr (by simp [Value.cells]) h0 z0
 obtain ⟨x1, rfl, rfl, rfl, wx1⟩ := open_int Tryz.underlying5 (hval 1 5 v1 rfl rfl) h1
 have hG := of_laid hL
 clear hA0 hval0 hZ0 hL
 simp only [List.append_nil] at hW'
 have hlt := fun x hx => hW'.lt x hx
 refine (law_totals_row _ x0 x1 W hG a0 wx1).mono fun e W' ⟨he, hE⟩ => ?_
 subst he
 exact ⟨_, rfl, post_of_ext (pa := (p0 ++ [])) (pv := []) hW' (fun _ _ _ => trodAll_mk1 (shut_bool Tryz.underlying4 _)) (fun sp hsp => trodAll_mk2 (shut_quadr g0 hE (fun x hx => hlt x (by simp [hx])) (fun x hx => hsp x (by simp [hx]))) (shut_int Tryz.underlying5 wx1)) (fun _ _ => rfl) (by simp)
  (hE.below.frame _)⟩
theorem assessTotals_said : Rows.AssessTotalsSaid :=
 OpenClaim.holds_of_wide 7 Tryz.f7 rfl rfl rfl rfl rfl rfl rfl ⟨rfl, rfl, rfl, rfl, rfl⟩ rfl rfl rfl rfl rfl (by kernel_rfl) Tryz.func7 (by kernel_rfl)
  (of_decide_eq_true (by kernel_rfl)) (by unfold Func.isWrapper; first | (rw [if_pos (by decide +kernel)]; kernel_rfl) | (rw [if_neg (by decide +kernel)]; exact ⟨rfl, rfl⟩))
  (fun os started H enc _ => assessTotals_lifted os started H enc)
theorem assessTotals_holds : Rows.AssessTotalsCardSaid :=
 Claim7.holds_tied_plain_at .later [] Rows.assessTotalsCard.laidKinds true Rows.assessTotalsCard.stood.harness Rows.assessTotalsCard.stood.looks
  assessTotals_said (fun _ h => by cases h) (by kernel_rfl) (fun _ h => by cases h) assessTotals_row_tie rfl ⟨rfl, rfl⟩ (by kernel_rfl) rfl
  (fun f fn hf hfn => by
   obtain rfl : f = 7 := Option.some.inj ((show Tryz.prog.funcNamed "cardnet/cardnetlaw38.AssessTotals" = some 7 by kernel_rfl).symm.trans hf) |>.symm
   obtain rfl : fn = Tryz.f7 := (Option.some.inj (Tryz.func7.symm.trans hfn)).symm
   exact ⟨by kernel_rfl, fun j t ht => by
    rw [Tryz.params7] at ht
    have hm : t ∈ [65, 5] := by simpa using Array.mem_of_getElem? ht
    have hall : ([65, 5].all fun u => !Tryz.prog.wantsStandIn u) = true := by kernel_rfl
    exact (show Tryz.prog.wantsStandIn t = false by simpa using List.all_eq_true.1 hall t hm)⟩)
  (by kernel_rfl)
#print axioms assessTotals_holds
end Go.Proofs.YtmnhmkjmcckneaaGreatDoor
