/- The plain model of packages name and label (layers 16 and 17). Plain Lean, no program in sight. -/
import Derived.Test.YtanbcokkfbidbaaGreatDoorParP
import Derived.Lib.SplitLaws
import Derived.Lib.CountLaws
import Derived.Lib.Join
namespace Go.Proofs.YtanbcokkfbidbaaGreatDoor.Lb
open Ent
def blank (c : UInt8) : Bool := c == 32 || c == 9 || c == 10
/-- what stands between bytes of one kind -/
def pieces (p : UInt8 → Bool) : List UInt8 → List UInt8 → List (List UInt8)
  | cur, [] => [cur]
  | cur, c :: r => if p c then cur :: pieces p [] r else pieces p (cur ++ [c]) r
def full (l : List (List UInt8)) : List (List UInt8) := l.filter fun w => !w.isEmpty
def words (s : List UInt8) : List (List UInt8) := full (pieces blank [] s)
def join (l : List (List UInt8)) : List UInt8 := Lib.join l [32]
def andW : List UInt8 := [97, 110, 100]
def splitN : List (List UInt8) → List (List UInt8) → List (List UInt8)
  | cur, [] => if cur.isEmpty then [] else [join cur]
  | cur, w :: r => if w == andW then (if cur.isEmpty then splitN [] r else join cur :: splitN [] r) else splitN (cur ++ [w]) r
def split (s : List UInt8) : List (List UInt8) := splitN [] (words s)
structure Per where
  first : List UInt8
  von : List UInt8
  last : List UInt8
  jr : List UInt8
def smallW (w : List UInt8) : Bool := match w with | [] => false | c :: _ => decide (97 ≤ c.toNat) && decide (c.toNat ≤ 122)
def lastGo (l : List (List UInt8)) : Nat → Nat
  | 0 => 0
  | k + 1 => if smallW (l.getD k []) then k + 1 else lastGo l k
def lastN (l : List (List UInt8)) : Nat := lastGo l (l.length - 1)
def commas (s : List UInt8) : List (List UInt8) := pieces (fun c => c == 44) [] s
def parse (s : List UInt8) : Per :=
  let l := words ((commas s).getD 0 [])
  if 1 < (commas s).length then
    if 2 < (commas s).length then ⟨join (words ((commas s).getD 2 [])), join (l.take (lastN l)), join (l.drop (lastN l)), join (words ((commas s).getD 1 []))⟩
    else ⟨join (words ((commas s).getD 1 [])), join (l.take (lastN l)), join (l.drop (lastN l)), []⟩
  else if l.isEmpty then ⟨[], [], [], []⟩
  else if lastN l = 0 then ⟨join (l.take (l.length - 1)), [], l.getD (l.length - 1) [], []⟩
  else ⟨join (l.take (l.findIdx smallW)), join ((l.take (lastN l)).drop (l.findIdx smallW)), join (l.drop (lastN l)), []⟩
def whole (l : List (List UInt8)) : List UInt8 := join (full l)
def short (p : Per) : List UInt8 := whole [join ((words p.first).map fun w => w.take 1 ++ [46]), p.von, p.last, p.jr]
def pkey (p : Per) : List UInt8 := small (join (words (p.last ++ [32] ++ p.first ++ [32] ++ p.von ++ [32] ++ p.jr)))
def plabel (l : List Per) : List UInt8 :=
  match l with
  | [p] => p.last.take 3
  | _ => if 4 < l.length then ((l.take 3).map fun p => p.last.take 1).flatten ++ [43] else (l.map fun p => p.last.take 1).flatten

/-! ### label -/
def authorW : List UInt8 := [97, 117, 116, 104, 111, 114]
def yearW : List UInt8 := [121, 101, 97, 114]
def titleW : List UInt8 := [116, 105, 116, 108, 101]
def crossW : List UInt8 := [99, 114, 111, 115, 115, 114, 101, 102]
def field (x : Ent) (n : List UInt8) : List UInt8 := (get x.fields n).1
def authors (x : Ent) : List Per := (split (field x authorW)).map parse
def ordK (x : Ent) : List (List UInt8) := [((authors x).map pkey).headD [], field x yearW, small (field x titleW), x.key]
def cmpB (a b : List UInt8) : Int := Lib.compareBytes a b
def cmpL : List (List UInt8) → List (List UInt8) → Int
  | a :: r, b :: q => if cmpB a b = 0 then cmpL r q else cmpB a b
  | _, _ => 0
def cmp (x y : Ent) : Int := cmpL (ordK x) (ordK y)
/-- one put in from behind, as long as it is less than the one ahead -/
def insertR (x : Ent) : List Ent → List Ent
  | [] => [x]
  | y :: r => if cmp x y < 0 then y :: insertR x r else x :: y :: r
/-- sorted, turned round -/
def sortR : List Ent → List Ent → List Ent
  | acc, [] => acc
  | acc, x :: r => sortR (insertR x acc) r
def order (l : List Ent) : List Ent := (sortR [] l).reverse
def findE (l : List Ent) (key : List UInt8) : Option Ent := l.find? fun x => x.key == key
/-- what is not there yet -/
def addF (own : List Fld) : List Fld → List Fld → List Fld
  | acc, [] => acc
  | acc, f :: r => addF own (if (get own f.name).2 then acc else acc ++ [f]) r
def wholeN (l : List Ent) : Nat → List UInt8 → List (List UInt8) → List Fld → Option (List Fld) × Int
  | 0, _, _, _ => (none, 15)
  | n + 1, key, seen, fs =>
    match findE l key with
    | none => (none, 14)
    | some x =>
      let fs := addF fs fs x.fields
      if (get x.fields crossW).2 = false then (some fs, 0)
      else if (seen ++ [key]).contains (get x.fields crossW).1 then (none, 15)
      else wholeN l n (get x.fields crossW).1 (seen ++ [key]) fs
def wholeE (l : List Ent) (key : List UInt8) : Option Ent × Int :=
  match wholeN l (l.length + 1) key [] [] with
  | (some fs, e) => ((findE l key).map fun x => ⟨x.kind, x.key, fs⟩, e)
  | (none, e) => (none, e)
def pickN (l : List Ent) : List (List UInt8) → List (List UInt8) → List Ent × List (Int × List UInt8)
  | _, [] => ([], [])
  | seen, k :: r =>
    if seen.contains k then pickN l (seen ++ [k]) r
    else match wholeE l k with
      | (some x, _) => let o := pickN l (seen ++ [k]) r; (x :: o.1, o.2)
      | (none, e) => let o := pickN l (seen ++ [k]) r; (o.1, (e, k) :: o.2)
def pick (l : List Ent) (ks : List (List UInt8)) : List Ent × List (Int × List UInt8) := pickN l [] ks
def dots (l : List (List UInt8)) : List UInt8 := join ((full l).map fun w => w ++ [46])
def textOf (x : Ent) : List UInt8 := dots [Lib.join ((authors x).map short) [44, 32], field x titleW, field x yearW]
def letters (x : Ent) : List UInt8 := plabel (authors x) ++ (field x yearW).drop ((field x yearW).length - 2)
structure Cited where
  ent : Ent
  label : List UInt8
  text : List UInt8
end Go.Proofs.YtanbcokkfbidbaaGreatDoor.Lb
