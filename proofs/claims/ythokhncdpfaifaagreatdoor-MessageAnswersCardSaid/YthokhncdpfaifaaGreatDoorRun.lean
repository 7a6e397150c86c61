/- A call that the kernel can run by itself: its contract from a run of n steps. -/
import Derived.Calls
import Derived.KernelRfl
namespace Go.Proofs.YthokhncdpfaifaaGreatDoor
open Go
/-- The running frame of a machine of one goroutine. -/
def topF (s : Stepped) : Frame := match s with
  | .next m => ((m.gs[0]?).map (·.frame)).getD default
  | _ => default
/-- The machine that enters f. -/
def entered (P : Program) (f : FuncId) (args : Array Value) (cs : List Frame) (w : World) : Machine := lone (Frame.enter P f args .normal) cs w
theorem calls_of_run {P : Program} {f : FuncId} {args : Array Value} {w w' : World} {R : Ending → World → Prop} (n : Nat) (fn : Func) (v : Value)
    (h1 : ∀ cs, runN P n (entered P f args cs w) = .next (lone (topF (runN P n (entered P f args [] w))) cs w'))
    (h2 : (topF (runN P n (entered P f args [] w))).fn = f)
    (h3 : (topF (runN P n (entered P f args [] w))).mode = .returning)
    (h4 : (topF (runN P n (entered P f args [] w))).defers = [])
    (h5 : (topF (runN P n (entered P f args [] w))).kind = .normal)
    (h6 : P.funcs[f]? = some fn)
    (h7 : (results fn (topF (runN P n (entered P f args [] w))).tmps).run P w' = .ok v w')
    (hR : R (.returned v) w') : Calls P f args w R := by
  intro cs
  refine ⟨.returned v, w', topF (runN P n (entered P f args [] w)), hR, ⟨n, h1 cs⟩, h2, h3, h4, h5, fn, ?_, h7⟩
  rw [h2]; exact h6
end Go.Proofs.YthokhncdpfaifaaGreatDoor
