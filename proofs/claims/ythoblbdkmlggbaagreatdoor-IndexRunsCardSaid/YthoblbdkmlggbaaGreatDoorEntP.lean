/- The plain model of package entry (layer 15). Plain Lean, no program in sight. -/
import Derived.Lib.Strings
import Derived.Lib.Case
namespace Go.Proofs.YthoblbdkmlggbaaGreatDoor.Ent

/-- a byte of a mark -/
def sign (c : UInt8) : Bool := (decide (97 ≤ c.toNat) && decide (c.toNat ≤ 122)) || (decide (65 ≤ c.toNat) && decide (c.toNat ≤ 90)) || (decide (48 ≤ c.toNat) && decide (c.toNat ≤ 57)) || (c == 45 || c == 46 || c == 95 || c == 58)
def low (c : UInt8) : UInt8 := if 65 ≤ c.toNat ∧ c.toNat ≤ 90 then c + 32 else c
def small (l : List UInt8) : List UInt8 := l.map low
def marked (l : List UInt8) : Bool := l.all sign && l != []
end Go.Proofs.YthoblbdkmlggbaaGreatDoor.Ent
