/- Proved: the law cardnet/cardnetlaw24.ExprFolds returns true for every input, its arguments unchanged (the row ExprFoldsSaid). No condition beyond the row's own. -/
import Derived.Test.YtpdpjindmghfpaaElf
import Derived.Test.YtpdpjindmghfpaaEopu
import Derived.Test.YtpdpjindmghfpaaEpo
import Derived.Test.YtpdpjindmghfpaaRows
import Derived.OpenShut
import Derived.ShutString
import Derived.Lay
import Derived.Stop.Joined
namespace Go.Proofs.Ytpdpjindmghfpaa
open Go.ChangeShapes Go.WideShapes Go.ChangeAt Go.WideMaps Go.WideElems Go.RowKit
open Go.ChangeMaps (open_string shut_string)
set_option maxRecDepth 100000 in
theorem exprFolds_lifted (os : Os) (started : os.Started) (H : Type) (enc : TypeId × Value → H) :
    ReturnsInHanded {} Try.checked os 4 .any (Rows.exprFoldsSpec.pre6 enc Try.prog Try.f4 [] false) (Rows.exprFoldsSpec.post enc Try.prog Try.f4 false true false false) := by
  refine returnsInHanded_of_change_sized (C := Try.checked) own started (by kernel_rfl) Try.func4
    (ChangeSpec.witness6 (enc := enc) (C := Try.checked) false ⟨#[], #[.agg #[.int .i64 0, .string ⟨#[]⟩, .string ⟨#[]⟩, .int .i64 0, .slice none 0 0], .slice none 0 0, .slice none 0 0], []⟩ 8 (by kernel_rfl) (by kernel_rfl) (by kernel_rfl) (by kernel_rfl)) ?_
  intro W base args ds gs before hval0 hW _ hZ0 _
  have hval : ∀ (j : Nat) t v, Try.f4.params[j]? = some t → args[j]? = some v → Value.okWide Try.prog W .any base t v := hval0
  have hZ : (DataW.weightsEach Try.prog (Try.f4.params.toList ++ Rows.exprFoldsSpec.plain.varTypes Try.prog) (ds ++ gs)).all (· ≤ reachBytes) = true := hZ0
  have hW' := hW
  obtain ⟨p, q, hA0, hV, rfl, _, _⟩ := hW
  have hA : DataW.TrodAll enc Try.prog W 0 (fun _ => true) true Try.f4.params.toList args.toList ds p := hA0
  rw [Try.params4] at hA hval hZ
  obtain ⟨v0, v1, v2, d0, d1, d2, p0, p1, p2, rfl, rfl, rfl, h0, h1, h2⟩ := trodAll_three hA
  obtain ⟨rfl, rfl⟩ := trodVars_none hV
  have g0 := h0
  have z0 : InReach 27 d0 := reach_arg hZ 0 27 d0 rfl rfl
  obtain ⟨x0, u0, rfl, a0, b0⟩ := open_ex (hval 0 27 v0 rfl rfl) h0 z0
  have g1 := h1
  have z1 : InReach 24 d1 := reach_arg hZ 1 24 d1 rfl rfl
  obtain ⟨pp1, ll1, cc1, rfl⟩ := okWide_slice Try.underlying24 (hval 1 24 v1 rfl rfl)
  obtain ⟨x1, a1, b1⟩ := open_feats (by simp [Value.cells]) h1 z1
  have g2 := h2
  have z2 : InReach 33 d2 := reach_arg hZ 2 33 d2 rfl rfl
  obtain ⟨pp2, ll2, cc2, rfl⟩ := okWide_slice Try.underlying33 (hval 2 33 v2 rfl rfl)
  obtain ⟨x2, a2, b2⟩ := open_uses (by simp [Value.cells]) h2 z2
  clear hA0 hval0 hZ0
  simp only [List.append_nil] at hW'
  have hlt := fun x hx => hW'.lt x hx
  refine (law_folds x0 u0 _ x1 _ x2 W a0 b0 a1 b1 a2 b2).mono fun e W' ⟨he, hE⟩ => ?_
  subst he
  exact ⟨_, rfl, post_of_ext (pa := (p0 ++ (p1 ++ p2))) (pv := []) hW' (fun _ _ _ => trodAll_mk1 (shut_bool Try.underlying4 _)) (fun sp hsp => trodAll_mk3 (shut_ex g0 hE (fun x hx => hlt x (by simp [hx])) (fun x hx => hsp x (by simp [hx]))) (shut_feats g1 hE (fun x hx => hlt x (by simp [hx])) (fun x hx => hsp x (by simp [hx]))) (shut_uses g2 hE (fun x hx => hlt x (by simp [hx])) (fun x hx => hsp x (by simp [hx])))) (fun _ _ => rfl) (by simp)
    (hE.below.frame _)⟩
theorem exprFolds_holds : Rows.ExprFoldsSaid :=
  OpenClaim.holds_of_wide 4 Try.f4 rfl rfl rfl rfl rfl rfl rfl ⟨rfl, rfl, rfl, rfl, rfl⟩ rfl rfl rfl rfl rfl (by kernel_rfl) Try.func4 (by kernel_rfl)
    (of_decide_eq_true (by kernel_rfl)) (by unfold Func.isWrapper; first | (rw [if_pos (by decide +kernel)]; kernel_rfl) | (rw [if_neg (by decide +kernel)]; exact ⟨rfl, rfl⟩))
    (fun os started H enc _ => exprFolds_lifted os started H enc)
#print axioms exprFolds_holds
end Go.Proofs.Ytpdpjindmghfpaa
