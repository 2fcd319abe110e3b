/- The walks of package side (layer 10), first part: numbers' texts, records. -/
import Derived.Test.YthoblbdkmlggbaaGreatDoorWireW
set_option linter.unusedSimpArgs false
set_option linter.unusedVariables false
namespace Go.Proofs.YthoblbdkmlggbaaGreatDoor
open Go.RowKit

theorem put_size (t : List UInt8) (h : t.length ≤ 1000) : (Sd.put t).length ≤ 1008 := by have := Sd.put_le t (by omega); omega
end Go.Proofs.YthoblbdkmlggbaaGreatDoor
