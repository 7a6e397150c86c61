/- Proved: the law cardnet/cardnetlaw24.ExprNames returns true for every input, its arguments unchanged (the row ExprNamesSaid). No condition beyond the row's own. -/
import Derived.Test.YtpdpjindmghfpaaElx
import Derived.Test.YtpdpjindmghfpaaEopu
import Derived.Test.YtpdpjindmghfpaaEpo
import Derived.Test.YtpdpjindmghfpaaRows
import Derived.OpenShut
import Derived.ShutString
import Derived.Lay
import Derived.Stop.Joined
namespace Go.Proofs.Ytpdpjindmghfpaa
open Go.ChangeShapes Go.WideShapes Go.ChangeAt Go.WideMaps Go.WideElems Go.RowKit
open Go.ChangeMaps (open_string shut_string)
set_option maxRecDepth 100000 in
theorem exprNames_lifted (os : Os) (started : os.Started) (H : Type) (enc : TypeId × Value → H) :
    ReturnsInHanded {} Try.checked os 5 .any (Rows.exprNamesSpec.pre6 enc Try.prog Try.f5 [] false) (Rows.exprNamesSpec.post enc Try.prog Try.f5 false true false false) := by
  refine returnsInHanded_of_change_sized (C := Try.checked) own started (by kernel_rfl) Try.func5
    (ChangeSpec.witness6 (enc := enc) (C := Try.checked) false ⟨#[], #[.agg #[.int .i64 0, .string ⟨#[]⟩, .string ⟨#[]⟩, .int .i64 0, .slice none 0 0], .slice none 0 0, .slice none 0 0, .int .i64 0], []⟩ 8 (by kernel_rfl) (by kernel_rfl) (by kernel_rfl) (by kernel_rfl)) ?_
  intro W base args ds gs before hval0 hW _ hZ0 _
  have hval : ∀ (j : Nat) t v, Try.f5.params[j]? = some t → args[j]? = some v → Value.okWide Try.prog W .any base t v := hval0
  have hZ : (DataW.weightsEach Try.prog (Try.f5.params.toList ++ Rows.exprNamesSpec.plain.varTypes Try.prog) (ds ++ gs)).all (· ≤ reachBytes) = true := hZ0
  have hW' := hW
  obtain ⟨p, q, hA0, hV, rfl, _, _⟩ := hW
  have hA : DataW.TrodAll enc Try.prog W 0 (fun _ => true) true Try.f5.params.toList args.toList ds p := hA0
  rw [Try.params5] at hA hval hZ
  obtain ⟨v0, v1, v2, v3, d0, d1, d2, d3, p0, p1, p2, p3, rfl, rfl, rfl, h0, h1, h2, h3⟩ := trodAll_four hA
  obtain ⟨rfl, rfl⟩ := trodVars_none hV
  have g0 := h0
  have z0 : InReach 27 d0 := reach_arg hZ 0 27 d0 rfl rfl
  obtain ⟨x0, u0, rfl, a0, b0⟩ := open_ex (hval 0 27 v0 rfl rfl) h0 z0
  have g1 := h1
  have z1 : InReach 24 d1 := reach_arg hZ 1 24 d1 rfl rfl
  obtain ⟨pp1, ll1, cc1, rfl⟩ := okWide_slice Try.underlying24 (hval 1 24 v1 rfl rfl)
  obtain ⟨x1, a1, b1⟩ := open_feats (by simp [Value.cells]) h1 z1
  have g2 := h2
  have z2 : InReach 33 d2 := reach_arg hZ 2 33 d2 rfl rfl
  obtain ⟨pp2, ll2, cc2, rfl⟩ := okWide_slice Try.underlying33 (hval 2 33 v2 rfl rfl)
  obtain ⟨x2, a2, b2⟩ := open_uses (by simp [Value.cells]) h2 z2
  obtain ⟨x3, rfl, rfl, rfl, wx3⟩ := open_int Try.underlying2 (hval 3 2 v3 rfl rfl) h3
  clear hA0 hval0 hZ0
  simp only [List.append_nil] at hW'
  have hlt := fun x hx => hW'.lt x hx
  refine (law_names x0 u0 _ x1 _ x2 x3 W a0 b0 a1 b1 a2 b2 wx3).mono fun e W' ⟨he, hE⟩ => ?_
  subst he
  exact ⟨_, rfl, post_of_ext (pa := (p0 ++ (p1 ++ (p2 ++ [])))) (pv := []) hW' (fun _ _ _ => trodAll_mk1 (shut_bool Try.underlying4 _)) (fun sp hsp => trodAll_mk4 (shut_ex g0 hE (fun x hx => hlt x (by simp [hx])) (fun x hx => hsp x (by simp [hx]))) (shut_feats g1 hE (fun x hx => hlt x (by simp [hx])) (fun x hx => hsp x (by simp [hx]))) (shut_uses g2 hE (fun x hx => hlt x (by simp [hx])) (fun x hx => hsp x (by simp [hx]))) (shut_int Try.underlying2 wx3)) (fun _ _ => rfl) (by simp)
    (hE.below.frame _)⟩
theorem exprNames_holds : Rows.ExprNamesSaid :=
  OpenClaim.holds_of_wide 5 Try.f5 rfl rfl rfl rfl rfl rfl rfl ⟨rfl, rfl, rfl, rfl, rfl⟩ rfl rfl rfl rfl rfl (by kernel_rfl) Try.func5 (by kernel_rfl)
    (of_decide_eq_true (by kernel_rfl)) (by unfold Func.isWrapper; first | (rw [if_pos (by decide +kernel)]; kernel_rfl) | (rw [if_neg (by decide +kernel)]; exact ⟨rfl, rfl⟩))
    (fun os started H enc _ => exprNames_lifted os started H enc)
#print axioms exprNames_holds
end Go.Proofs.Ytpdpjindmghfpaa
