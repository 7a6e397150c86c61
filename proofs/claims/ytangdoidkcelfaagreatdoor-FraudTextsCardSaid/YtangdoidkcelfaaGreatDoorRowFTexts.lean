/- Proved: the law cardnet/cardnetlaw26.FraudTexts returns true for every input, its arguments unchanged (the tied card FraudTextsCardSaid; the listed package-level variables are tied to the program's text). No condition beyond the row's own. -/
import Derived.Test.YtangdoidkcelfaaGreatDoorNm
import Derived.Test.YtangdoidkcelfaaGreatDoorNl
import Derived.Test.YtangdoidkcelfaaGreatDoorTie
import Derived.Test.YtangdoidkcelfaaGreatDoorCards
import Derived.Test.YtangdoidkcelfaaGreatDoorRows
import Derived.OpenShut
import Derived.ShutString
import Derived.Lay
import Derived.Stop.Joined
namespace Go.Proofs.YtangdoidkcelfaaGreatDoor
open Go.ChangeShapes Go.WideShapes Go.ChangeAt Go.WideMaps Go.WideElems Go.RowKit
open Go.ChangeMaps (open_string shut_string)
set_option maxRecDepth 100000 in
theorem fraudTexts_lifted (os : Os) (started : os.Started) (H : Type) (enc : TypeId × Value → H) :
 ReturnsInHanded {} Tryz.checked os 3 .any (fun w args => (Rows.fraudTextsSpec.pre enc Tryz.prog Tryz.f3 [] false w args ∧ laidMetH Tryz.prog laidL w) ∧ sizedMet enc Tryz.prog Tryz.f3 (OpenSpec.ofChange Rows.fraudTextsSpec) false w args)
  (Rows.fraudTextsSpec.post enc Tryz.prog Tryz.f3 false true false false) := by
 refine returnsInHanded_of_change_and (C := Tryz.checked) (X := fun w _ => laidMetH Tryz.prog laidL w) (fun _ _ _ hh h => h.of_heap hh) own started (by kernel_rfl) Tryz.func3
  (ChangeSpec.witness_shaped (enc := enc) (C := Tryz.checked) (os := os) (X := fun w _ => laidMetH Tryz.prog laidL w) false (World.laidAll Tryz.prog os laidL) #[.agg #[.int .i64 0, .int .i64 0, .slice none 0 0], .agg #[.int .i64 0, .slice none 0 0]] 8 (World.laidAll_os _ _ _)
   (World.shaped_of_ZipB (by kernel_rfl) (by kernel_rfl)) (by kernel_rfl) (by kernel_rfl) (by kernel_rfl)
   (by rw [MakeChecks.laidMetH_plain _ _ _ (by kernel_rfl)]; exact laidMet_laidAll _ (by kernel_rfl) (by kernel_rfl))) ?_
 intro W base args ds gs before hval0 hW _ hZ0 hL _
 have hval : ∀ (j : Nat) t v, Tryz.f3.params[j]? = some t → args[j]? = some v → Value.okWide Tryz.prog W .any base t v := hval0
 have hZ : (DataW.weightsEach Tryz.prog (Tryz.f3.params.toList ++ Rows.fraudTextsSpec.plain.varTypes Tryz.prog) (ds ++ gs)).all (· ≤ reachBytes) = true := hZ0
 have hW' := hW
 obtain ⟨p, q, hA0, hV, rfl, _, _⟩ := hW
 have hA : DataW.TrodAll enc Tryz.prog W 0 (fun _ => true) true Tryz.f3.params.toList args.toList ds p := hA0
 rw [Tryz.params3] at hA hval hZ
 obtain ⟨v0, v1, d0, d1, p0, p1, rfl, rfl, rfl, h0, h1⟩ := trodAll_two hA
 obtain ⟨rfl, rfl⟩ := trodVars_none hV
 have g0 := h0
 obtain ⟨x0, y0, u0, l0, rfl, a0, b0⟩ := open_ver (hval 0 24 v0 rfl rfl) h0
 have g1 := h1
 obtain ⟨x1, u1, l1, rfl, a1⟩ := open_msg (hval 1 27 v1 rfl rfl) h1
 have hG := of_laid hL
 clear hA0 hval0 hZ0 hL
 simp only [List.append_nil] at hW'
 have hlt := fun x hx => hW'.lt x hx
 refine (law_texts x0 y0 u0 l0 x1 u1 l1 W hG a0.1 a0.2 b0 a1).mono fun e W' ⟨he, hE⟩ => ?_
 subst he
 exact ⟨_, rfl, post_of_ext (pa := (p0 ++ p1)) (pv := []) hW' (fun _ _ _ => trodAll_mk1 (shut_bool Tryz.underlying4 _)) (fun sp hsp => trodAll_mk2 (shut_ver g0 hE (fun x hx => hlt x (by simp [hx])) (fun x hx => hsp x (by simp [hx]))) (shut_msg g1 hE (fun x hx => hlt x (by simp [hx])) (fun x hx => hsp x (by simp [hx])))) (fun _ _ => rfl) (by simp)
  (hE.below.frame _)⟩
theorem fraudTexts_said : Rows.FraudTextsSaid :=
 OpenClaim.holds_of_wide 3 Tryz.f3 rfl rfl rfl rfl rfl rfl rfl ⟨rfl, rfl, rfl, rfl, rfl⟩ rfl rfl rfl rfl rfl (by kernel_rfl) Tryz.func3 (by kernel_rfl)
  (of_decide_eq_true (by kernel_rfl)) (by unfold Func.isWrapper; first | (rw [if_pos (by decide +kernel)]; kernel_rfl) | (rw [if_neg (by decide +kernel)]; exact ⟨rfl, rfl⟩))
  (fun os started H enc _ => fraudTexts_lifted os started H enc)
theorem fraudTexts_holds : Rows.FraudTextsCardSaid :=
 Claim7.holds_tied_plain_at .later [] Rows.fraudTextsCard.laidKinds true Rows.fraudTextsCard.stood.harness Rows.fraudTextsCard.stood.looks
  fraudTexts_said (fun _ h => by cases h) (by kernel_rfl) (fun _ h => by cases h) fraudTexts_row_tie rfl ⟨rfl, rfl⟩ (by kernel_rfl) rfl
  (fun f fn hf hfn => by
   obtain rfl : f = 3 := Option.some.inj ((show Tryz.prog.funcNamed "cardnet/cardnetlaw26.FraudTexts" = some 3 by kernel_rfl).symm.trans hf) |>.symm
   obtain rfl : fn = Tryz.f3 := (Option.some.inj (Tryz.func3.symm.trans hfn)).symm
   exact ⟨by kernel_rfl, fun j t ht => by
    rw [Tryz.params3] at ht
    have hm : t ∈ [24, 27] := by simpa using Array.mem_of_getElem? ht
    have hall : ([24, 27].all fun u => !Tryz.prog.wantsStandIn u) = true := by kernel_rfl
    exact (show Tryz.prog.wantsStandIn t = false by simpa using List.all_eq_true.1 hall t hm)⟩)
  (by kernel_rfl)
#print axioms fraudTexts_holds
end Go.Proofs.YtangdoidkcelfaaGreatDoor
