/- The plain model of packages wire and side (layers 3 and 10): texts with their lengths ahead, and what one run tells the next. Plain Lean, no program in sight. The walks of package wire (layer 3). The walks of package side (layer 10), second part: keys. The walks of package side (layer 10), fifth part: whether a side may be. Plain facts: the calls of layer 10 whose answers the document fixes. Plain Lean, no program in sight. The walks of package side (layer 10), seventh part: labels by their keys. The walks of a rule's small things: known, may. The walks of rule.tools. -/
import Derived.Test.YtibinlpbcoihoaaGreatDoorG03
import Derived.Shelf.Strings.CaseAny
import Derived.Test.YtibinlpbcoihoaaGreatDoorG07
import Derived.Test.YtibinlpbcoihoaaGreatDoorG09
import Derived.Test.YtibinlpbcoihoaaGreatDoorG04
import Derived.OwnWalk
import Derived.Test.YtibinlpbcoihoaaGreatDoorG00
import Derived.Test.YtibinlpbcoihoaaGreatDoorChecked
import Derived.Test.YtibinlpbcoihoaaGreatDoorShelf
import Derived.Maps.OwnSet
import Derived.Maps.OwnOps
import Derived.Lib.Join
import Derived.OrdersHeld
import Derived.Deep.RegionHeld
import Derived.Test.YtibinlpbcoihoaaGreatDoorG06
import Derived.Laws.ResultCell
import Derived.Test.YtibinlpbcoihoaaGreatDoorG02
import Derived.Test.YtibinlpbcoihoaaGreatDoorG05
set_option linter.unusedSimpArgs false
set_option linter.unusedVariables false
namespace Go.Proofs.YtibinlpbcoihoaaGreatDoor.Sd

structure Lab where
  key : List UInt8
  num : List UInt8
  page : Int
  deriving DecidableEq
structure Hd where
  level : Int
  num : List UInt8
  title : List UInt8
  page : Int
  deriving DecidableEq
structure Side where
  labs : List Lab
  heads : List Hd
  cites : List (List UInt8)
  bibs : List (List UInt8)
  deriving DecidableEq
/-! ### layer 7: a text with one blank for several -/
def sqGo : Bool → List UInt8 → List UInt8
  | _, [] => []
  | p, c :: r => if c = 32 then (if p then sqGo true r else 32 :: sqGo true r) else c :: sqGo false r
def trimB (l : List UInt8) : List UInt8 := if l.getLast? = some 32 then l.dropLast else l
def sq (l : List UInt8) : List UInt8 := trimB (sqGo true l)

/-! ### what may be -/
def key (s : List UInt8) : Bool := s != [] && decide (s.length ≤ 60) && sq s == s
def keysN : List (List UInt8) → List (List UInt8) → Bool
  | _, [] => true
  | before, s :: l => key s && !(before.any fun g => g == s) && keysN (before ++ [s]) l
def keys (l : List (List UInt8)) : Bool := keysN [] l
def pageOk (n : Int) : Bool := decide (0 ≤ n) && decide (n ≤ 999999)
def labOk (x : Lab) : Bool := decide (x.num.length ≤ 40) && pageOk x.page
def headOk (x : Hd) : Bool := decide (x.num.length ≤ 40) && pageOk x.page && decide (1 ≤ x.level) && decide (x.level ≤ 2) && key x.title
def right (x : Side) : Bool :=
  decide (x.labs.length ≤ 100) && decide (x.heads.length ≤ 100) && decide (x.cites.length ≤ 100) && decide (x.bibs.length ≤ 8) &&
  keys x.cites && keys x.bibs && x.labs.all labOk && x.heads.all headOk && keys (x.labs.map Lab.key)

/-! ### bytes -/
def dig (n : Int) : List UInt8 := Cnt.text n 0
def put (s : List UInt8) : List UInt8 := Lib.itoa (s.length : Int) ++ [58] ++ s ++ [44]
def record (ps : List (List UInt8)) : List UInt8 := put (ps.map put).flatten
def labW : List UInt8 := [108, 97, 98, 101, 108]
def headW : List UInt8 := [104, 101, 97, 100]
def citeW : List UInt8 := [99, 105, 116, 101]
def bibW : List UInt8 := [98, 105, 98]
def encL (x : Lab) : List UInt8 := record [labW, x.key, x.num, dig x.page]
def encH (x : Hd) : List UInt8 := record [headW, dig x.level, x.num, x.title, dig x.page]
def encC (s : List UInt8) : List UInt8 := record [citeW, s]
def encB (s : List UInt8) : List UInt8 := record [bibW, s]
def encN (x : Side) : List UInt8 := (x.labs.map encL).flatten ++ (x.heads.map encH).flatten ++ (x.cites.map encC).flatten ++ (x.bibs.map encB).flatten
def enc (x : Side) : List UInt8 × Int := if right x then (encN x, 0) else ([], 5)

/-! ### texts with their lengths ahead -/
/-- the number up to a colon, and what stands behind it; the first sign may be no colon -/
def lenGo : Bool → Nat → List UInt8 → Option (Nat × List UInt8)
  | _, _, [] => none
  | first, n, c :: r =>
    if c = 58 ∧ first = false then some (n, r)
    else if c.toNat < 48 ∨ 57 < c.toNat ∨ (first = false ∧ n = 0) then none
    else if 999999 < n * 10 + (c.toNat - 48) then none
    else lenGo false (n * 10 + (c.toNat - 48)) r
def get (l : List UInt8) : Option (List UInt8 × List UInt8) :=
  match lenGo true 0 l with
  | none => none
  | some (n, r) => if r[n]? = some 44 then some (r.take n, r.drop (n + 1)) else none
def allN : Nat → List UInt8 → Option (List (List UInt8))
  | _, [] => some []
  | 0, _ :: _ => none
  | f + 1, c :: r => match get (c :: r) with | none => none | some (t, q) => (allN f q).map (t :: ·)
def all (l : List UInt8) : Option (List (List UInt8)) := allN l.length l
end Go.Proofs.YtibinlpbcoihoaaGreatDoor.Sd
set_option linter.unusedSimpArgs false
set_option linter.unusedVariables false
namespace Go.Proofs.YtibinlpbcoihoaaGreatDoor
open Go.RowKit

/-- what the package-level variables hold that this chapter leans on -/
structure Laid10 (w : World) : Prop where
  cnt : Laid01 w
  err : w.cell? ⟨1, 0, none⟩ = some (.iface 382 (.agg #[asErr.hd 143]))
theorem Laid10.below {w w' : World} (h : Laid10 w) (hb : Below w.heap.size w w') : Laid10 w' :=
  ⟨h.cnt.below hb, (hb.cell (World.block_lt_of_cell? w _ h.err)).trans h.err⟩

/-- an error that wire makes -/
def WErr (v : Value) (w : World) (B : Nat) : Prop := ∃ (g : Nat) (e : Int), v = .iface 430 (.pointer (some ⟨g, 0, none⟩)) ∧ w.cell? ⟨g, 1, none⟩ = some (.int .i64 e) ∧ 1 ≤ e ∧ e ≤ 100 ∧ B ≤ g
theorem WErr.below {v : Value} {w w' : World} {B : Nat} (h : WErr v w B) (hb : Below w.heap.size w w') : WErr v w' B := by
  obtain ⟨g, e, h1, h2, h3⟩ := h
  exact ⟨g, e, h1, (hb.cell (World.block_lt_of_cell? w _ h2)).trans h2, h3⟩
theorem WErr.mono {v : Value} {w : World} {B B' : Nat} (h : WErr v w B') (hb : B ≤ B') : WErr v w B := by
  obtain ⟨g, e, h1, h2, h3, h4, h5⟩ := h
  exact ⟨g, e, h1, h2, h3, h4, Nat.le_trans hb h5⟩
theorem WErr.made (w : World) (a : Value) (e : Int) (h1 : 1 ≤ e) (h2 : e ≤ 100) : WErr (.iface 430 (.pointer (some ⟨w.heap.size, 0, none⟩))) (w.alloc (.cells #[a, .int .i64 e] 432)) w.heap.size :=
  ⟨_, e, rfl, by rw [cell_of_row _ _ _ _ _ _ (heap_alloc_new w _)]; rfl, h1, h2, Nat.le_refl _⟩

end Go.Proofs.YtibinlpbcoihoaaGreatDoor
set_option linter.unusedSimpArgs false
set_option linter.unusedVariables false
namespace Go.Proofs.YtibinlpbcoihoaaGreatDoor
open Go.RowKit

def RU8 (c : UInt8) (vs : List Value) : Prop := vs = [.int .u8 (c.toNat : Int)]
theorem RU8.size (c : UInt8) (vs : List Value) (h : RU8 c vs) : vs.length = 1 := by rw [h]; rfl
end Go.Proofs.YtibinlpbcoihoaaGreatDoor
set_option linter.unusedSimpArgs false
set_option linter.unusedVariables false
namespace Go.Proofs.YtibinlpbcoihoaaGreatDoor
open Go.RowKit
def RLab (x : Sd.Lab) (vs : List Value) : Prop := vs = [.string ⟨x.key.toArray⟩, .string ⟨x.num.toArray⟩, .int .i64 x.page]
def RHd (x : Sd.Hd) (vs : List Value) : Prop := vs = [.int .i64 x.level, .string ⟨x.num.toArray⟩, .string ⟨x.title.toArray⟩, .int .i64 x.page]
theorem RLab.size (x : Sd.Lab) (vs : List Value) (h : RLab x vs) : vs.length = 3 := by rw [h]; rfl
theorem RHd.size (x : Sd.Hd) (vs : List Value) (h : RHd x vs) : vs.length = 4 := by rw [h]; rfl
def SideIn (S : Nat → Prop) (w : World) (v : Value) (x : Sd.Side) : Prop :=
  ∃ vl vh vc vb, v = .agg #[vl, vh, vc, vb] ∧ SliceIn S 3 RLab w vl x.labs ∧ SliceIn S 4 RHd w vh x.heads ∧ SliceIn S 1 RStr w vc x.cites ∧ SliceIn S 1 RStr w vb x.bibs
theorem SideIn.below {S : Nat → Prop} {w w' : World} {v : Value} {x : Sd.Side} (h : SideIn S w v x) (hb : Below w.heap.size w w') : SideIn S w' v x := by
  obtain ⟨vl, vh, vc, vb, e, h1, h2, h3, h4⟩ := h
  exact ⟨vl, vh, vc, vb, e, h1.below' hb, h2.below' hb, h3.below' hb, h4.below' hb⟩
end Go.Proofs.YtibinlpbcoihoaaGreatDoor
namespace Go.Proofs.YtibinlpbcoihoaaGreatDoor.Sd
def x0 : Side := ⟨[⟨[107], [49, 46, 50], 3⟩], [⟨1, [49], [65, 32, 98], 1⟩], [[99]], [[114, 101, 102, 115]]⟩
def s0 : List UInt8 := [50, 50, 58, 53, 58, 108, 97, 98, 101, 108, 44, 49, 58, 107, 44, 51, 58, 49, 46, 50, 44, 49, 58, 51, 44, 44, 50, 53, 58, 52, 58, 104, 101, 97, 100, 44, 49, 58, 49, 44, 49, 58, 49, 44, 51, 58, 65, 32, 98, 44, 49, 58, 49, 44, 44, 49, 49, 58, 52, 58, 99, 105, 116, 101, 44, 49, 58, 99, 44, 44, 49, 51, 58, 51, 58, 98, 105, 98, 44, 52, 58, 114, 101, 102, 115, 44, 44]
end Go.Proofs.YtibinlpbcoihoaaGreatDoor.Sd
set_option linter.unusedSimpArgs false
set_option linter.unusedVariables false
namespace Go.Proofs.YtibinlpbcoihoaaGreatDoor
open Go.RowKit
theorem ret_cell {P : Program} {fn : Func} {R : Ending → World → Prop} {a : Act} {w : World} {v : Value} {p u : Tmp} {ty : TypeId} {ad : Addr} (h : fn.results = #[.cell p ty, .tmp u]) (hp : a.tmps.getD p undef = .pointer (some ad))
    (hl : (loadVar ty ad).run P w = .ok v w) (hd : a.defers = []) (hR : R (.returned (.tuple #[v, a.tmps.getD u undef])) w) : bodyPost P fn R .ret a w := by
  refine bodyPost_ret (v := .tuple #[v, a.tmps.getD u undef]) ?_ hd hR
  rw [results_cell_tmp h, hp]
  simp [asAddr, hl, Result.andThen]
theorem set3 (g : Nat) (w : World) {o0 o1 o2 : Value} (a b c : Value) (d0 : w.cell? ⟨g, 0, none⟩ = some o0) (d1 : w.cell? ⟨g, 1, none⟩ = some o1) (d2 : w.cell? ⟨g, 2, none⟩ = some o2) :
    (((w.setCell ⟨g, 0, none⟩ a).setCell ⟨g, 1, none⟩ b).setCell ⟨g, 2, none⟩ c).cell? ⟨g, 0, none⟩ = some a ∧ (((w.setCell ⟨g, 0, none⟩ a).setCell ⟨g, 1, none⟩ b).setCell ⟨g, 2, none⟩ c).cell? ⟨g, 1, none⟩ = some b ∧
    (((w.setCell ⟨g, 0, none⟩ a).setCell ⟨g, 1, none⟩ b).setCell ⟨g, 2, none⟩ c).cell? ⟨g, 2, none⟩ = some c := by
  refine ⟨?_, ?_, ?_⟩
  · rw [World.cell?_setCell_other _ _ _ _ (by simp), World.cell?_setCell_other _ _ _ _ (by simp)]
    exact World.cell?_setCell_same _ _ _ d0
  · rw [World.cell?_setCell_other _ _ _ _ (by simp)]
    exact World.cell?_setCell_same _ _ _ (by rw [World.cell?_setCell_other _ _ _ _ (by simp)]; exact d1)
  · exact World.cell?_setCell_same _ _ _ (by rw [World.cell?_setCell_other _ _ _ _ (by simp), World.cell?_setCell_other _ _ _ _ (by simp)]; exact d2)
theorem set3_below {B g : Nat} {a0 w : World} (h : Below B a0 w) (hg : B ≤ g) (a b c : Value) : Below B a0 (((w.setCell ⟨g, 0, none⟩ a).setCell ⟨g, 1, none⟩ b).setCell ⟨g, 2, none⟩ c) :=
  ((h.setCell (p := ⟨g, 0, none⟩) hg a).setCell (p := ⟨g, 1, none⟩) hg b).setCell (p := ⟨g, 2, none⟩) hg c
theorem frozen_below {w w' : World} {B g i : Nat} (hb : Below B w w') (hg : g < B) : w'.frozen? ⟨g, i, none⟩ = w.frozen? ⟨g, i, none⟩ := World.frozen?_of_block (hb.block g hg)
end Go.Proofs.YtibinlpbcoihoaaGreatDoor
set_option linter.unusedSimpArgs false
set_option linter.unusedVariables false
namespace Go.Proofs.YtibinlpbcoihoaaGreatDoor
open Go.RowKit
theorem cells_kept {w W : World} {row : Array Value} {t : TypeId} (hb : Below (w.alloc (.cells row t)).heap.size (w.alloc (.cells row t)) W) (i : Nat) (v : Value) (h : row[i]? = some v) : W.cell? ⟨w.heap.size, i, none⟩ = some v := by
  rw [hb.cell (p := ⟨w.heap.size, i, none⟩) (by simp), cell_of_row _ _ _ _ _ _ (heap_alloc_new w _)]
  exact h
def rlV (x : Ru.Rl) : Value := .agg #[.int .i64 x.kind, .string ⟨x.a.toArray⟩, .string ⟨x.b.toArray⟩]
set_option maxRecDepth 100000 in
theorem rule_known (x : Ru.Rl) (w : World) : Calls Tryz.prog 24 #[rlV x] w fun e w' => e = .returned (.bool (Ru.known x.kind)) ∧ Below w.heap.size w w' := by
  obtain ⟨k, a, b⟩ := x
  unfold rlV
  go_enter Tryz.func24, Tryz.ntmps24
  by_cases h1 : 1 ≤ k
  · have g1 : decide ((1 : Int) ≤ k) = true := decide_eq_true h1
    by_cases h2 : k < 5
    · have g2 : decide (k < 5) = true := decide_eq_true h2
      have Hr := Lib.hid (show Ru.known k = true by unfold Ru.known; simp [h1, h2])
      clear h1 h2
      go_wp2_with fail
      go_ret
      exact ⟨ret_bool Hr.out.symm, below_new _ _⟩
    · have g2 : decide (k < 5) = false := decide_eq_false h2
      have Hr := Lib.hid (show Ru.known k = false by unfold Ru.known; simp [h2])
      clear h1 h2
      go_wp2_with fail
      go_ret
      exact ⟨ret_bool Hr.out.symm, below_new _ _⟩
  · have g1 : decide ((1 : Int) ≤ k) = false := decide_eq_false h1
    have Hr := Lib.hid (show Ru.known k = false by unfold Ru.known; simp [h1])
    clear h1
    go_wp2_with fail
    go_ret
    exact ⟨ret_bool Hr.out.symm, below_new _ _⟩
set_option maxRecDepth 100000 in
set_option maxHeartbeats 1600000 in
theorem rule_may (x : Ru.Rl) (w : World) (ha : x.a.length ≤ 100000) (hb : x.b.length ≤ 100000) : Calls Tryz.prog 28 #[rlV x] w fun e w' => e = .returned (.bool (Ru.may x)) ∧ Below w.heap.size w w' := by
  have Hkn := Lib.hid (rule_known x)
  obtain ⟨k, a, b⟩ := x
  unfold rlV at *
  dsimp only at *
  have Ha := Lib.hid (show a.length ≤ 9223372036854775807 by omega)
  have Hb := Lib.hid (show b.length ≤ 9223372036854775807 by omega)
  clear ha hb
  go_enter Tryz.func28, Tryz.ntmps28
  by_cases h4 : k = 4
  · subst h4
    have Hm := Lib.hid (show Ru.may ⟨4, a, b⟩ = (Ix.nameOk a && (Ix.nameOk b && (!(a == b) && !(b == Ru.table)))) from rfl)
    cases hna : Ix.nameOk a with
    | false =>
      rw [hna] at Hm
      have Hna := Lib.hid hna; clear hna
      go_wp2_with (go_at_call 43; with_reducible refine (files_name a _ Ha.out).mono ?_; rw [Hna.out]; rintro e w' ⟨rfl, hw'⟩; have hw' := hw'.symm; subst hw')
      go_ret
      exact ⟨ret_bool (by rw [Hm.out]; rfl), below_new _ _⟩
    | true =>
      rw [hna] at Hm
      have Hna := Lib.hid hna; clear hna
      cases hnb : Ix.nameOk b with
      | false =>
        rw [hnb] at Hm
        have Hnb := Lib.hid hnb; clear hnb
        go_wp2_with (go_at_call 43; first | ((with_reducible refine (files_name a _ Ha.out).mono ?_); rw [Hna.out]; rintro e w' ⟨rfl, hw'⟩; have hw' := hw'.symm; subst hw') | ((with_reducible refine (files_name b _ Hb.out).mono ?_); rw [Hnb.out]; rintro e w' ⟨rfl, hw'⟩; have hw' := hw'.symm; subst hw'))
        go_ret
        exact ⟨ret_bool (by rw [Hm.out]; rfl), below_new _ _⟩
      | true =>
        rw [hnb] at Hm
        have Hnb := Lib.hid hnb; clear hnb
        cases hab : (a == b) with
        | true =>
          rw [hab] at Hm
          go_wp2_with (go_at_call 43; first | ((with_reducible refine (files_name a _ Ha.out).mono ?_); rw [Hna.out]; rintro e w' ⟨rfl, hw'⟩; have hw' := hw'.symm; subst hw') | ((with_reducible refine (files_name b _ Hb.out).mono ?_); rw [Hnb.out]; rintro e w' ⟨rfl, hw'⟩; have hw' := hw'.symm; subst hw'))
          go_ret
          exact ⟨ret_bool (by rw [Hm.out]; rfl), below_new _ _⟩
        | false =>
          rw [hab] at Hm
          cases hbt : (b == Ru.table) with
          | true =>
            rw [hbt] at Hm
            unfold Ru.table at hbt
            go_wp2_with (go_at_call 43; first | ((with_reducible refine (files_name a _ Ha.out).mono ?_); rw [Hna.out]; rintro e w' ⟨rfl, hw'⟩; have hw' := hw'.symm; subst hw') | ((with_reducible refine (files_name b _ Hb.out).mono ?_); rw [Hnb.out]; rintro e w' ⟨rfl, hw'⟩; have hw' := hw'.symm; subst hw'))
            go_ret
            exact ⟨ret_bool (by rw [Hm.out]; rfl), below_new _ _⟩
          | false =>
            rw [hbt] at Hm
            unfold Ru.table at hbt
            go_wp2_with (go_at_call 43; first | ((with_reducible refine (files_name a _ Ha.out).mono ?_); rw [Hna.out]; rintro e w' ⟨rfl, hw'⟩; have hw' := hw'.symm; subst hw') | ((with_reducible refine (files_name b _ Hb.out).mono ?_); rw [Hnb.out]; rintro e w' ⟨rfl, hw'⟩; have hw' := hw'.symm; subst hw'))
            go_ret
            exact ⟨ret_bool (by rw [Hm.out]; rfl), below_new _ _⟩
  · have Hm := Lib.hid (show Ru.may ⟨k, a, b⟩ = (Ru.known k && (Ix.jobOk a && b.isEmpty)) by unfold Ru.may; exact if_neg h4)
    have g4 : (k == 4) = false := beq_eq_false_iff_ne.2 h4
    clear h4
    cases hk : Ru.known k with
    | false =>
      rw [hk] at Hm
      have Hk := Lib.hid hk; clear hk
      go_wp2_with (go_at_call 24; refine (Hkn.out _).mono ?_; rw [Hk.out]; rintro e w' ⟨rfl, hb'⟩; have Hb' := Lib.hid hb'; clear hb')
      go_ret
      exact ⟨ret_bool (by rw [Hm.out]; rfl), bseq (below_new _ _) Hb'.out⟩
    | true =>
      rw [hk] at Hm
      have Hk := Lib.hid hk; clear hk
      cases hj : Ix.jobOk a with
      | false =>
        rw [hj] at Hm
        have Hj := Lib.hid hj; clear hj
        go_wp2_with first | (go_at_call 24; refine (Hkn.out _).mono ?_; rw [Hk.out]; rintro e w' ⟨rfl, hb'⟩; have f1 := cells_kept hb' 1 _ rfl; have f2 := cells_kept hb' 2 _ rfl; have Hb' := Lib.hid hb'; clear hb') | (go_at_call 44; refine (markup_job a _ Ha.out).mono ?_; rw [Hj.out]; rintro e w' ⟨rfl, hw'⟩; have hw' := hw'.symm; subst hw')
        go_ret
        exact ⟨ret_bool (by rw [Hm.out]; rfl), bseq (below_new _ _) Hb'.out⟩
      | true =>
        rw [hj] at Hm
        have Hj := Lib.hid hj; clear hj
        cases b with
        | nil =>
          go_wp2_with first | (go_at_call 24; refine (Hkn.out _).mono ?_; rw [Hk.out]; rintro e w' ⟨rfl, hb'⟩; have f1 := cells_kept hb' 1 _ rfl; have f2 := cells_kept hb' 2 _ rfl; have Hb' := Lib.hid hb'; clear hb') | (go_at_call 44; refine (markup_job a _ Ha.out).mono ?_; rw [Hj.out]; rintro e w' ⟨rfl, hw'⟩; have hw' := hw'.symm; subst hw')
          go_ret
          exact ⟨ret_bool (by rw [Hm.out]; rfl), bseq (below_new _ _) Hb'.out⟩
        | cons c r =>
          go_wp2_with first | (go_at_call 24; refine (Hkn.out _).mono ?_; rw [Hk.out]; rintro e w' ⟨rfl, hb'⟩; have f1 := cells_kept hb' 1 _ rfl; have f2 := cells_kept hb' 2 _ rfl; have Hb' := Lib.hid hb'; clear hb') | (go_at_call 44; refine (markup_job a _ Ha.out).mono ?_; rw [Hj.out]; rintro e w' ⟨rfl, hw'⟩; have hw' := hw'.symm; subst hw')
          go_ret
          exact ⟨ret_bool (by rw [Hm.out]; rfl), bseq (below_new _ _) Hb'.out⟩
end Go.Proofs.YtibinlpbcoihoaaGreatDoor
set_option linter.unusedSimpArgs false
set_option linter.unusedVariables false
namespace Go.Proofs.YtibinlpbcoihoaaGreatDoor
open Go.RowKit
theorem run_store_func0 (P : Program) (w : World) (a : Addr) (m : Mode) : (store a .nilFunc m).run P w = stored P w a .nilFunc m := run_store P w a _ m rfl
theorem run_store_func1 (P : Program) (w : World) (a : Addr) (m : Mode) (f : FuncId) : (store a (.func (.func f) #[] #[]) m).run P w = stored P w a (.func (.func f) #[] #[]) m := run_store P w a _ m rfl
attribute [local go_sem] run_store_func0 run_store_func1
theorem lit_in {α : Type} {R : α → List Value → Prop} (c : α → List Value) (hR : ∀ x, R x (c x)) (n : Nat) (hn : ∀ x, (c x).length = n) (hs : ∀ x vs, R x vs → vs.length = n) (t : TypeId) (l : List α) (w : World) (hm : l.length ≤ maxLen) :
    SliceIn (fun _ => True) n R (w.alloc (.cells (l.flatMap c).toArray t)) (.slice (some ⟨w.heap.size, 0, none⟩) l.length l.length) l := by
  have h : OwnL w.heap.size t n R (w.alloc (.cells (l.flatMap c).toArray t)) (.slice (some ⟨w.heap.size, 0, none⟩) l.length l.length) l :=
    ⟨l.flatMap c, own_built w w.heap.size t n l.length _ (Nat.le_refl _) (len_flat c n hn l) hm, rep_flat c hR l⟩
  exact h.slice hs (fun _ => True) (fun _ _ => trivial)
def cS (x : List UInt8) : List Value := [.string ⟨x.toArray⟩]
theorem inS (l : List (List UInt8)) (w : World) (hm : l.length ≤ maxLen) : SliceIn (fun _ => True) 1 RStr (w.alloc (.cells (l.flatMap cS).toArray 9)) (.slice (some ⟨w.heap.size, 0, none⟩) l.length l.length) l :=
  lit_in (R := RStr) cS (fun _ => rfl) 1 (fun _ => rfl) RStr.size 9 l w hm
def toolsV (g : Nat) : Value := .agg #[.string ⟨#[]⟩, .slice none 0 0, .nilFunc,
  .string ⟨Ru.wMark.toArray⟩, .slice (some ⟨g + 1, 0, none⟩) 4 4, .func (.func 34) #[] #[],
  .string ⟨Ru.wBib.toArray⟩, .slice (some ⟨g + 1 + 1, 0, none⟩) 2 2, .func (.func 35) #[] #[],
  .string ⟨Ru.wInd.toArray⟩, .slice (some ⟨g + 1 + 1 + 1, 0, none⟩) 2 2, .func (.func 36) #[] #[],
  .string ⟨Ru.wCopy.toArray⟩, .slice none 0 0, .func (.func 37) #[] #[]]
structure ToolsIn (w : World) (g : Nat) : Prop where
  m : SliceIn (fun _ => True) 1 RStr w (.slice (some ⟨g + 1, 0, none⟩) 4 4) Ru.endsMark
  b : SliceIn (fun _ => True) 1 RStr w (.slice (some ⟨g + 1 + 1, 0, none⟩) 2 2) Ru.endsBib
  i : SliceIn (fun _ => True) 1 RStr w (.slice (some ⟨g + 1 + 1 + 1, 0, none⟩) 2 2) Ru.endsInd
theorem sliceBelow {α : Type} {n : Nat} {R : α → List Value → Prop} {w w' : World} {v : Value} {l : List α} (h : SliceIn (fun _ => True) n R w v l) (hb : Below w.heap.size w w') : SliceIn (fun _ => True) n R w' v l :=
  h.kept (fun _ h => h) hb.size (fun b _ hl => hb.block b hl) (fun _ _ _ h => h)
theorem ToolsIn.below {w w' : World} {g : Nat} (h : ToolsIn w g) (hb : Below w.heap.size w w') : ToolsIn w' g := ⟨sliceBelow h.m hb, sliceBelow h.b hb, sliceBelow h.i hb⟩
set_option maxRecDepth 100000 in
set_option maxHeartbeats 1600000 in
theorem rule_tools (w : World) : Calls Tryz.prog 20 #[] w fun e w' => e = .returned (toolsV w.heap.size) ∧ ToolsIn w' w.heap.size ∧ Below w.heap.size w w' := by
  go_enter Tryz.func20, Tryz.ntmps20
  go_wp2_with fail
  refine ret_one (v := toolsV w.heap.size) rfl rfl (by unfold toolsV; go_simp; exact ⟨rfl, rfl, rfl, rfl⟩) rfl ⟨rfl, ?_, ?_⟩
  · obtain ⟨w1, hw1⟩ : ∃ w1, w1 = w.alloc (.cells #[.string ⟨#[]⟩, .slice none 0 0, .nilFunc,
      .string ⟨#[109, 97, 114, 107, 117, 112]⟩, .slice (some ⟨w.heap.size + 1, 0, none⟩) 4 4, .func (.func 34) #[] #[],
      .string ⟨#[98, 105, 98]⟩, .slice (some ⟨w.heap.size + 1 + 1, 0, none⟩) 2 2, .func (.func 35) #[] #[],
      .string ⟨#[105, 110, 100, 101, 120]⟩, .slice (some ⟨w.heap.size + 1 + 1 + 1, 0, none⟩) 2 2, .func (.func 36) #[] #[],
      .string ⟨#[99, 111, 112, 121]⟩, .slice none 0 0, .func (.func 37) #[] #[]] 50) := ⟨_, rfl⟩
    have hs : w1.heap.size = w.heap.size + 1 := by rw [hw1]; simp
    rw [← hw1]
    have h1 := inS Ru.endsMark w1 (by decide)
    have h2 := inS Ru.endsBib (w1.alloc (.cells (Ru.endsMark.flatMap cS).toArray 9)) (by decide)
    have h3 := inS Ru.endsInd ((w1.alloc (.cells (Ru.endsMark.flatMap cS).toArray 9)).alloc (.cells (Ru.endsBib.flatMap cS).toArray 9)) (by decide)
    have z1 : (w1.alloc (.cells (Ru.endsMark.flatMap cS).toArray 9)).heap.size = w1.heap.size + 1 := by simp
    have z2 : ((w1.alloc (.cells (Ru.endsMark.flatMap cS).toArray 9)).alloc (.cells (Ru.endsBib.flatMap cS).toArray 9)).heap.size = w1.heap.size + 1 + 1 := by simp
    rw [z1] at h2
    rw [z2] at h3
    have b1 := below_new (w1.alloc (.cells (Ru.endsMark.flatMap cS).toArray 9)) (.cells (Ru.endsBib.flatMap cS).toArray 9)
    have b2 := below_new ((w1.alloc (.cells (Ru.endsMark.flatMap cS).toArray 9)).alloc (.cells (Ru.endsBib.flatMap cS).toArray 9)) (.cells (Ru.endsInd.flatMap cS).toArray 9)
    exact ⟨by rw [← hs]; exact sliceBelow h1 (bseq b1 b2), by rw [← hs]; exact sliceBelow h2 b2, by rw [← hs]; exact h3⟩
  · exact bseq (bseq (bseq (below_new _ _) (below_new _ _)) (below_new _ _)) (below_new _ _)
end Go.Proofs.YtibinlpbcoihoaaGreatDoor
