/- The contract of hasFields. -/
import Derived.Test.YtpdpjindmghfpaaGreatDoorEha
import Derived.Test.YtpdpjindmghfpaaGreatDoorEhb
import Derived.Test.YtpdpjindmghfpaaGreatDoorEhc
import Derived.Test.YtpdpjindmghfpaaGreatDoorEhd
namespace Go.Proofs.YtpdpjindmghfpaaGreatDoor
open Go.RowKit
theorem hasFields_any (op : Int) (nm tx : ByteArray) (n : Int) (q : Option Addr) (len cp : Nat) (w : World) : Calls Tryz.prog 110 #[.agg #[.int .i64 op, .string nm, .string tx, .int .i64 n, .slice q len cp]] w (OneV (.bool (hasFv op nm tx n len)) w) := by
  by_cases h : op < 1 ∨ 17 < op
  · exact hasFx op nm tx n q len cp w h
  · have h' : op = 1 ∨ op = 2 ∨ op = 3 ∨ op = 4 ∨ op = 5 ∨ op = 6 ∨ op = 7 ∨ op = 8 ∨ op = 9 ∨ op = 10 ∨ op = 11 ∨ op = 12 ∨ op = 13 ∨ op = 14 ∨ op = 15 ∨ op = 16 ∨ op = 17 := by omega
    rcases h' with rfl | rfl | rfl | rfl | rfl | rfl | rfl | rfl | rfl | rfl | rfl | rfl | rfl | rfl | rfl | rfl | rfl
    · exact hasF1 nm tx n q len cp w
    · exact hasF2 nm tx n q len cp w
    · exact hasF3 nm tx n q len cp w
    · exact hasF4 nm tx n q len cp w
    · exact hasF5 nm tx n q len cp w
    · exact hasF6 nm tx n q len cp w
    · exact hasF7 nm tx n q len cp w
    · exact hasF8 nm tx n q len cp w
    · exact hasF9 nm tx n q len cp w
    · exact hasF10 nm tx n q len cp w
    · exact hasF11 nm tx n q len cp w
    · exact hasF12 nm tx n q len cp w
    · exact hasF13 nm tx n q len cp w
    · exact hasF14 nm tx n q len cp w
    · exact hasF15 nm tx n q len cp w
    · exact hasF16 nm tx n q len cp w
    · exact hasF17 nm tx n q len cp w

end Go.Proofs.YtpdpjindmghfpaaGreatDoor
