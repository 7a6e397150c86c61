/- Contract of the reference's Dictionary (the kernel's own run). -/
import Derived.Test.YthokhncdpfaifaaGreatDoorBase
import Derived.Test.YthokhncdpfaifaaGreatDoorRun
import Derived.Outline
namespace Go.Proofs.YthokhncdpfaifaaGreatDoor
open Go.RowKit
theorem rDict_any (w : World) : Calls Tryz.prog 108 #[] w fun e w' => e = .returned (.slice (some ⟨w.heap.size, 0, none⟩) 23 23) ∧ w' = w.alloc (.cells dCells 102) :=
  calls_of_run 33 Tryz.f108 (.slice (some ⟨w.heap.size, 0, none⟩) 23 23) (fun _ => by kernel_rfl) (by kernel_rfl) (by kernel_rfl) (by kernel_rfl) (by kernel_rfl) Tryz.func108 (by kernel_rfl) ⟨rfl, rfl⟩
end Go.Proofs.YthokhncdpfaifaaGreatDoor
