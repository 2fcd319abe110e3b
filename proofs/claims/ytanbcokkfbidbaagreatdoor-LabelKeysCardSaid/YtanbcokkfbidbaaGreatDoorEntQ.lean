/- The plain model of what entries may be shown, and how. Plain Lean, no program in sight. -/
import Derived.Test.YtanbcokkfbidbaaGreatDoorParWh
namespace Go.Proofs.YtanbcokkfbidbaaGreatDoor.Ent
def brace1 (c : UInt8) : Bool := c == 123 || c == 125
def fieldOk (before : List Fld) (f : Fld) : Bool := marked f.name && small f.name == f.name && !(before.any fun g => g.name == f.name) && !(f.text.any brace1) && decide (f.text.length ≤ 1000)
def fieldsOk : List Fld → List Fld → Bool
  | _, [] => true
  | before, f :: fs => fieldOk before f && fieldsOk (before ++ [f]) fs
def headOk (before : List Ent) (x : Ent) : Bool := marked x.kind && small x.kind == x.kind && !(x.kind == strW) && marked x.key && !(has before x.key)
def rightN : List Ent → List Ent → Bool
  | _, [] => true
  | before, x :: l => headOk before x && fieldsOk [] x.fields && rightN (before ++ [x]) l
def right (l : List Ent) : Bool := rightN [] l
def showF : List Fld → List UInt8
  | [] => []
  | f :: fs => [44, 10] ++ f.name ++ [61, 123] ++ f.text ++ [125] ++ showF fs
def showN : List Ent → List UInt8
  | [] => []
  | x :: l => [64] ++ x.kind ++ [123] ++ x.key ++ showF x.fields ++ [125, 10] ++ showN l
def shown (l : List Ent) : List UInt8 × Int := if right l then (showN l, 0) else ([], 5)
end Go.Proofs.YtanbcokkfbidbaaGreatDoor.Ent
