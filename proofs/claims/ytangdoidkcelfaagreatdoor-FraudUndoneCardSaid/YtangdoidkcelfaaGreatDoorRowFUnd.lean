/- Proved: the law cardnet/cardnetlaw26.FraudUndone returns true for every input, its arguments unchanged (the tied card FraudUndoneCardSaid; the listed package-level variables are tied to the program's text). No condition beyond the row's own. -/
import Derived.Test.YtangdoidkcelfaaGreatDoorOj
import Derived.Test.YtangdoidkcelfaaGreatDoorOh
import Derived.Test.YtangdoidkcelfaaGreatDoorTie
import Derived.Test.YtangdoidkcelfaaGreatDoorCards
import Derived.Test.YtangdoidkcelfaaGreatDoorRows
import Derived.OpenShut
import Derived.ShutString
import Derived.Lay
import Derived.Stop.Joined
namespace Go.Proofs.YtangdoidkcelfaaGreatDoor
open Go.ChangeShapes Go.WideShapes Go.ChangeAt Go.WideMaps Go.WideElems Go.RowKit
open Go.ChangeMaps (open_string shut_string)
set_option maxRecDepth 100000 in
theorem fraudUndone_lifted (os : Os) (started : os.Started) (H : Type) (enc : TypeId × Value → H) :
 ReturnsInHanded {} Tryz.checked os 6 .any (fun w args => (Rows.fraudUndoneSpec.pre enc Tryz.prog Tryz.f6 [] false w args ∧ laidMetH Tryz.prog laidL w) ∧ sizedMet enc Tryz.prog Tryz.f6 (OpenSpec.ofChange Rows.fraudUndoneSpec) false w args)
  (Rows.fraudUndoneSpec.post enc Tryz.prog Tryz.f6 false true false false) := by
 refine returnsInHanded_of_change_and (C := Tryz.checked) (X := fun w _ => laidMetH Tryz.prog laidL w) (fun _ _ _ hh h => h.of_heap hh) own started (by kernel_rfl) Tryz.func6
  (ChangeSpec.witness_shaped (enc := enc) (C := Tryz.checked) (os := os) (X := fun w _ => laidMetH Tryz.prog laidL w) false (World.laidAll Tryz.prog os laidL) #[.slice none 0 0, .agg #[.int .u8 0, .int .u8 0, .int .u16 0]] 8 (World.laidAll_os _ _ _)
   (World.shaped_of_ZipB (by kernel_rfl) (by kernel_rfl)) (by kernel_rfl) (by kernel_rfl) (by kernel_rfl)
   (by rw [MakeChecks.laidMetH_plain _ _ _ (by kernel_rfl)]; exact laidMet_laidAll _ (by kernel_rfl) (by kernel_rfl))) ?_
 intro W base args ds gs before hval0 hW _ hZ0 hL _
 have hval : ∀ (j : Nat) t v, Tryz.f6.params[j]? = some t → args[j]? = some v → Value.okWide Tryz.prog W .any base t v := hval0
 have hZ : (DataW.weightsEach Tryz.prog (Tryz.f6.params.toList ++ Rows.fraudUndoneSpec.plain.varTypes Tryz.prog) (ds ++ gs)).all (· ≤ reachBytes) = true := hZ0
 have hW' := hW
 obtain ⟨p, q, hA0, hV, rfl, _, _⟩ := hW
 have hA : DataW.TrodAll enc Tryz.prog W 0 (fun _ => true) true Tryz.f6.params.toList args.toList ds p := hA0
 rw [Tryz.params6] at hA hval hZ
 obtain ⟨v0, v1, d0, d1, p0, p1, rfl, rfl, rfl, h0, h1⟩ := trodAll_two hA
 obtain ⟨rfl, rfl⟩ := trodVars_none hV
 have g0 := h0
 obtain ⟨pp0, ll0, cc0, rfl⟩ := okWide_slice Tryz.underlying36 (hval 0 36 v0 rfl rfl)
 obtain ⟨x0, a0⟩ := open_lawuses (by simp [Value.cells]) h0
 have g1 := h1
 obtain ⟨x1, rfl, a1⟩ := open_lawuse (hval 1 50 v1 rfl rfl) h1
 have hG := of_laid hL
 clear hA0 hval0 hZ0 hL
 simp only [List.append_nil] at hW'
 have hlt := fun x hx => hW'.lt x hx
 refine (law_undone _ x0 x1 W hG a0 a1).mono fun e W' ⟨he, hE⟩ => ?_
 subst he
 exact ⟨_, rfl, post_of_ext (pa := (p0 ++ p1)) (pv := []) hW' (fun _ _ _ => trodAll_mk1 (shut_bool Tryz.underlying4 _)) (fun sp hsp => trodAll_mk2 (shut_lawuses g0 hE (fun x hx => hlt x (by simp [hx])) (fun x hx => hsp x (by simp [hx]))) (shut_lawuse g1 hE (fun x hx => hlt x (by simp [hx])) (fun x hx => hsp x (by simp [hx])))) (fun _ _ => rfl) (by simp)
  (hE.below.frame _)⟩
theorem fraudUndone_said : Rows.FraudUndoneSaid :=
 OpenClaim.holds_of_wide 6 Tryz.f6 rfl rfl rfl rfl rfl rfl rfl ⟨rfl, rfl, rfl, rfl, rfl⟩ rfl rfl rfl rfl rfl (by kernel_rfl) Tryz.func6 (by kernel_rfl)
  (of_decide_eq_true (by kernel_rfl)) (by unfold Func.isWrapper; first | (rw [if_pos (by decide +kernel)]; kernel_rfl) | (rw [if_neg (by decide +kernel)]; exact ⟨rfl, rfl⟩))
  (fun os started H enc _ => fraudUndone_lifted os started H enc)
theorem fraudUndone_holds : Rows.FraudUndoneCardSaid :=
 Claim7.holds_tied_plain_at .later [] Rows.fraudUndoneCard.laidKinds true Rows.fraudUndoneCard.stood.harness Rows.fraudUndoneCard.stood.looks
  fraudUndone_said (fun _ h => by cases h) (by kernel_rfl) (fun _ h => by cases h) fraudUndone_row_tie rfl ⟨rfl, rfl⟩ (by kernel_rfl) rfl
  (fun f fn hf hfn => by
   obtain rfl : f = 6 := Option.some.inj ((show Tryz.prog.funcNamed "cardnet/cardnetlaw26.FraudUndone" = some 6 by kernel_rfl).symm.trans hf) |>.symm
   obtain rfl : fn = Tryz.f6 := (Option.some.inj (Tryz.func6.symm.trans hfn)).symm
   exact ⟨by kernel_rfl, fun j t ht => by
    rw [Tryz.params6] at ht
    have hm : t ∈ [36, 50] := by simpa using Array.mem_of_getElem? ht
    have hall : ([36, 50].all fun u => !Tryz.prog.wantsStandIn u) = true := by kernel_rfl
    exact (show Tryz.prog.wantsStandIn t = false by simpa using List.all_eq_true.1 hall t hm)⟩)
  (by kernel_rfl)
#print axioms fraudUndone_holds
end Go.Proofs.YtangdoidkcelfaaGreatDoor
