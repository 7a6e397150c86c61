/- Contract of the reference's Dictionary (the kernel's own run). -/
import Derived.Test.YthokhncdpfaifaaDoorBase
import Derived.Test.YthokhncdpfaifaaDoorRun
import Derived.Outline
namespace Go.Proofs.YthokhncdpfaifaaDoor
open Go.RowKit
theorem rDict_any (w : World) : Calls Tryd.prog 38 #[] w fun e w' => e = .returned (.slice (some ⟨w.heap.size, 0, none⟩) 23 23) ∧ w' = w.alloc (.cells dCells 42) :=
  calls_of_run 33 Tryd.f38 (.slice (some ⟨w.heap.size, 0, none⟩) 23 23) (fun _ => by kernel_rfl) (by kernel_rfl) (by kernel_rfl) (by kernel_rfl) (by kernel_rfl) Tryd.func38 (by kernel_rfl) ⟨rfl, rfl⟩
end Go.Proofs.YthokhncdpfaifaaDoor
