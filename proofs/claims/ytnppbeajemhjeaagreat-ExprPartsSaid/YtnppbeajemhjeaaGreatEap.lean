/- The closed examples of the law (plain facts). -/
import Derived.Test.YtnppbeajemhjeaaGreatEk
import Derived.Test.YtnppbeajemhjeaaGreatEe
import Derived.Test.YtnppbeajemhjeaaGreatEi
import Derived.Test.YtnppbeajemhjeaaGreatEf
import Derived.Test.YtnppbeajemhjeaaGreatElw
namespace Go.Proofs.YtnppbeajemhjeaaGreat
open Go.RowKit
def leafS (s : ByteArray) : Ex := .mk 3 s emS 0 []
def exTwo (op : Int) (x y : Ex) : Ex := .mk op emS emS 0 [x, y]
def amtS : ByteArray := ⟨#[97, 109, 111, 117, 110, 116]⟩
def awL : List Feat := [⟨amtS, 1, 5, emS⟩]
def awSum : Ex := exTwo 12 (leafS amtS) (leafN 1)
def awTxt : Ex := .mk 2 emS ⟨#[97]⟩ 1 []
def awAnd : Ex := exTwo 6 (exTwo 8 (leafN 1) (leafN 2)) (exTwo 10 (leafS amtS) (leafN 3))
def awMul : Ex := exTwo 10 (exTwo 14 (leafN 2) (leafN 3)) (leafS amtS)
def awOut : Ex := exTwo 10 (leafN 6) (leafS amtS)
theorem aw1 : evalV awSum awL nilS = (numF 6, 0) := by decide +kernel
theorem aw2 : (checkV awSum []).2 = 6 := by decide +kernel
theorem aw3 : (checkV awTxt awL).2 = 2 := by decide +kernel
theorem aw4 : evalV awAnd awL nilS = (truthF false, 0) := by decide +kernel
theorem aw5 : (foldTop awMul).same awOut = true := by decide +kernel
theorem aw6 : awSum.levels = 2 := by decide +kernel
end Go.Proofs.YtnppbeajemhjeaaGreat
