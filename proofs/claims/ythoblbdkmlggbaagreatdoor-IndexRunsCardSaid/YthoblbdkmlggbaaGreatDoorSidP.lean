/- The plain model of packages wire and side (layers 3 and 10): texts with their lengths ahead, and what one run tells the next. Plain Lean, no program in sight. -/
import Derived.Test.YthoblbdkmlggbaaGreatDoorCntT
namespace Go.Proofs.YthoblbdkmlggbaaGreatDoor.Sd

structure Lab where
  key : List UInt8
  num : List UInt8
  page : Int
  deriving DecidableEq
structure Hd where
  level : Int
  num : List UInt8
  title : List UInt8
  page : Int
  deriving DecidableEq
structure Side where
  labs : List Lab
  heads : List Hd
  cites : List (List UInt8)
  bibs : List (List UInt8)
  deriving DecidableEq
def none_ : Side := ⟨[], [], [], []⟩

/-! ### layer 7: a text with one blank for several -/
def sqGo : Bool → List UInt8 → List UInt8
  | _, [] => []
  | p, c :: r => if c = 32 then (if p then sqGo true r else 32 :: sqGo true r) else c :: sqGo false r
def trimB (l : List UInt8) : List UInt8 := if l.getLast? = some 32 then l.dropLast else l
def sq (l : List UInt8) : List UInt8 := trimB (sqGo true l)

/-! ### what may be -/
def key (s : List UInt8) : Bool := s != [] && decide (s.length ≤ 60) && sq s == s
def keysN : List (List UInt8) → List (List UInt8) → Bool
  | _, [] => true
  | before, s :: l => key s && !(before.any fun g => g == s) && keysN (before ++ [s]) l
def keys (l : List (List UInt8)) : Bool := keysN [] l
def pageOk (n : Int) : Bool := decide (0 ≤ n) && decide (n ≤ 999999)
def labOk (x : Lab) : Bool := decide (x.num.length ≤ 40) && pageOk x.page
def headOk (x : Hd) : Bool := decide (x.num.length ≤ 40) && pageOk x.page && decide (1 ≤ x.level) && decide (x.level ≤ 2) && key x.title
def right (x : Side) : Bool :=
  decide (x.labs.length ≤ 100) && decide (x.heads.length ≤ 100) && decide (x.cites.length ≤ 100) && decide (x.bibs.length ≤ 8) &&
  keys x.cites && keys x.bibs && x.labs.all labOk && x.heads.all headOk && keys (x.labs.map Lab.key)

/-! ### bytes -/
def dig (n : Int) : List UInt8 := Cnt.text n 0
def put (s : List UInt8) : List UInt8 := Lib.itoa (s.length : Int) ++ [58] ++ s ++ [44]
def record (ps : List (List UInt8)) : List UInt8 := put (ps.map put).flatten
def labW : List UInt8 := [108, 97, 98, 101, 108]
def headW : List UInt8 := [104, 101, 97, 100]
def citeW : List UInt8 := [99, 105, 116, 101]
def bibW : List UInt8 := [98, 105, 98]
def encL (x : Lab) : List UInt8 := record [labW, x.key, x.num, dig x.page]
def encH (x : Hd) : List UInt8 := record [headW, dig x.level, x.num, x.title, dig x.page]
def encC (s : List UInt8) : List UInt8 := record [citeW, s]
def encB (s : List UInt8) : List UInt8 := record [bibW, s]
def encN (x : Side) : List UInt8 := (x.labs.map encL).flatten ++ (x.heads.map encH).flatten ++ (x.cites.map encC).flatten ++ (x.bibs.map encB).flatten
def enc (x : Side) : List UInt8 × Int := if right x then (encN x, 0) else ([], 5)

/-! ### texts with their lengths ahead -/
/-- the number up to a colon, and what stands behind it; the first sign may be no colon -/
def lenGo : Bool → Nat → List UInt8 → Option (Nat × List UInt8)
  | _, _, [] => none
  | first, n, c :: r =>
    if c = 58 ∧ first = false then some (n, r)
    else if c.toNat < 48 ∨ 57 < c.toNat ∨ (first = false ∧ n = 0) then none
    else if 999999 < n * 10 + (c.toNat - 48) then none
    else lenGo false (n * 10 + (c.toNat - 48)) r
def get (l : List UInt8) : Option (List UInt8 × List UInt8) :=
  match lenGo true 0 l with
  | none => none
  | some (n, r) => if r[n]? = some 44 then some (r.take n, r.drop (n + 1)) else none
def allN : Nat → List UInt8 → Option (List (List UInt8))
  | _, [] => some []
  | 0, _ :: _ => none
  | f + 1, c :: r => match get (c :: r) with | none => none | some (t, q) => (allN f q).map (t :: ·)
def all (l : List UInt8) : Option (List (List UInt8)) := allN l.length l
def val (s : List UInt8) : Int := (Cnt.value s 0).1
/-- one record's parts -/
def take1 (x : Side) : List (List UInt8) → Option Side
  | [w, a] => if w = citeW then some { x with cites := x.cites ++ [a] } else if w = bibW then some { x with bibs := x.bibs ++ [a] } else none
  | [w, a, b, c] => if w = labW then some { x with labs := x.labs ++ [⟨a, b, val c⟩] } else none
  | [w, a, b, c, d] => if w = headW then some { x with heads := x.heads ++ [⟨val a, b, c, val d⟩] } else none
  | _ => none
def takeAll : Side → List (List UInt8) → Option Side
  | x, [] => some x
  | x, t :: ts => match all t with | none => none | some ps => match take1 x ps with | none => none | some y => takeAll y ts
def dec (s : List UInt8) : Option Side :=
  match all s with
  | none => none
  | some ts => match takeAll none_ ts with | none => none | some x => if right x && encN x == s then some x else none
def find (l : List Lab) (k : List UInt8) : Option Lab := l.find? fun x => x.key == k
end Go.Proofs.YthoblbdkmlggbaaGreatDoor.Sd
