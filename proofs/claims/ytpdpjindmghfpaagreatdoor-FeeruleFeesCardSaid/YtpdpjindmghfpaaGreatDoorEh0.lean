/- Small facts for hasFields. -/
import Derived.Test.YtpdpjindmghfpaaGreatDoorEnb
namespace Go.Proofs.YtpdpjindmghfpaaGreatDoor
open Go.RowKit
theorem empB_t {s : ByteArray} (h : empB s = true) : s.toList = [] := emp_list (by simpa [empB] using h)
theorem empB_f {s : ByteArray} (h : empB s = false) : ¬ s.toList = [] := ne_list (by simpa [empB] using h)
theorem empB_f' {s : ByteArray} (h : empB s = false) : s.toList.isEmpty = false := ne_isE (by simpa [empB] using h)

end Go.Proofs.YtpdpjindmghfpaaGreatDoor
