/- Plain facts on formed. -/
import Derived.Test.YtpdpjindmghfpaaGreatDoorEnb
namespace Go.Proofs.YtpdpjindmghfpaaGreatDoor
open Go.RowKit
theorem formedL_all (l : List Ex) : Ex.formed.formedL l = l.all Ex.formed := by
  induction l with
  | nil => rfl
  | cons x l ih => simp [Ex.formed.formedL, ih]
theorem formed_eq (op : Int) (nm tx : ByteArray) (n : Int) (args : List Ex) : (Ex.mk op nm tx n args).formed = (hasFv op nm tx n args.length && args.all Ex.formed) := by
  rw [Ex.formed, formedL_all]
theorem all_snocD {α : Type} (p : α → Bool) (l : List α) (d : α) (k : Nat) (h : k < l.length) : (l.take (k + 1)).all p = ((l.take k).all p && p (l.getD k d)) := by
  rw [take_snocD l d k h]; simp
theorem all_badD {α : Type} (p : α → Bool) (l : List α) (d : α) (k : Nat) (h : k < l.length) (hc : p (l.getD k d) = false) : l.all p = false := by
  rw [List.all_eq_false]
  refine ⟨l.getD k d, ?_, by rw [hc]; exact Bool.false_ne_true⟩
  rw [List.getD_eq_getElem?_getD, List.getElem?_eq_getElem h, Option.getD_some]
  exact List.getElem_mem h
end Go.Proofs.YtpdpjindmghfpaaGreatDoor
