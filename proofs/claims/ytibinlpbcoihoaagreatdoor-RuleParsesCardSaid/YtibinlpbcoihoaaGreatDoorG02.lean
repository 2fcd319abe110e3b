/- The plain model of packages name and label (layers 16 and 17). Plain Lean, no program in sight. Rules, plainly: what a text's rules are, what they write, and when they may be. Pieces of a text with one byte more: how the document's answer makes words and lines. Plain. -/
import Derived.Test.YtibinlpbcoihoaaGreatDoorG01
import Derived.Lib.SplitLaws
import Derived.Lib.CountLaws
import Derived.Lib.Join
set_option linter.unusedSimpArgs false
set_option linter.unusedVariables false
namespace Go.Proofs.YtibinlpbcoihoaaGreatDoor.Lb
open Ent
def blank (c : UInt8) : Bool := c == 32 || c == 9 || c == 10
/-- what stands between bytes of one kind -/
def pieces (p : UInt8 → Bool) : List UInt8 → List UInt8 → List (List UInt8)
  | cur, [] => [cur]
  | cur, c :: r => if p c then cur :: pieces p [] r else pieces p (cur ++ [c]) r
def full (l : List (List UInt8)) : List (List UInt8) := l.filter fun w => !w.isEmpty
def words (s : List UInt8) : List (List UInt8) := full (pieces blank [] s)
def join (l : List (List UInt8)) : List UInt8 := Lib.join l [32]
def andW : List UInt8 := [97, 110, 100]
def splitN : List (List UInt8) → List (List UInt8) → List (List UInt8)
  | cur, [] => if cur.isEmpty then [] else [join cur]
  | cur, w :: r => if w == andW then (if cur.isEmpty then splitN [] r else join cur :: splitN [] r) else splitN (cur ++ [w]) r
def split (s : List UInt8) : List (List UInt8) := splitN [] (words s)
structure Per where
  first : List UInt8
  von : List UInt8
  last : List UInt8
  jr : List UInt8
def smallW (w : List UInt8) : Bool := match w with | [] => false | c :: _ => decide (97 ≤ c.toNat) && decide (c.toNat ≤ 122)
def lastGo (l : List (List UInt8)) : Nat → Nat
  | 0 => 0
  | k + 1 => if smallW (l.getD k []) then k + 1 else lastGo l k
def lastN (l : List (List UInt8)) : Nat := lastGo l (l.length - 1)
def commas (s : List UInt8) : List (List UInt8) := pieces (fun c => c == 44) [] s
def parse (s : List UInt8) : Per :=
  let l := words ((commas s).getD 0 [])
  if 1 < (commas s).length then
    if 2 < (commas s).length then ⟨join (words ((commas s).getD 2 [])), join (l.take (lastN l)), join (l.drop (lastN l)), join (words ((commas s).getD 1 []))⟩
    else ⟨join (words ((commas s).getD 1 [])), join (l.take (lastN l)), join (l.drop (lastN l)), []⟩
  else if l.isEmpty then ⟨[], [], [], []⟩
  else if lastN l = 0 then ⟨join (l.take (l.length - 1)), [], l.getD (l.length - 1) [], []⟩
  else ⟨join (l.take (l.findIdx smallW)), join ((l.take (lastN l)).drop (l.findIdx smallW)), join (l.drop (lastN l)), []⟩
def whole (l : List (List UInt8)) : List UInt8 := join (full l)
def short (p : Per) : List UInt8 := whole [join ((words p.first).map fun w => w.take 1 ++ [46]), p.von, p.last, p.jr]
def pkey (p : Per) : List UInt8 := small (join (words (p.last ++ [32] ++ p.first ++ [32] ++ p.von ++ [32] ++ p.jr)))
def plabel (l : List Per) : List UInt8 :=
  match l with
  | [p] => p.last.take 3
  | _ => if 4 < l.length then ((l.take 3).map fun p => p.last.take 1).flatten ++ [43] else (l.map fun p => p.last.take 1).flatten

/-! ### label -/
def authorW : List UInt8 := [97, 117, 116, 104, 111, 114]
def yearW : List UInt8 := [121, 101, 97, 114]
def titleW : List UInt8 := [116, 105, 116, 108, 101]
def crossW : List UInt8 := [99, 114, 111, 115, 115, 114, 101, 102]
def field (x : Ent) (n : List UInt8) : List UInt8 := (get x.fields n).1
def authors (x : Ent) : List Per := (split (field x authorW)).map parse
def ordK (x : Ent) : List (List UInt8) := [((authors x).map pkey).headD [], field x yearW, small (field x titleW), x.key]
def cmpB (a b : List UInt8) : Int := Lib.compareBytes a b
def cmpL : List (List UInt8) → List (List UInt8) → Int
  | a :: r, b :: q => if cmpB a b = 0 then cmpL r q else cmpB a b
  | _, _ => 0
def cmp (x y : Ent) : Int := cmpL (ordK x) (ordK y)
/-- one put in from behind, as long as it is less than the one ahead -/
def insertR (x : Ent) : List Ent → List Ent
  | [] => [x]
  | y :: r => if cmp x y < 0 then y :: insertR x r else x :: y :: r
/-- sorted, turned round -/
def sortR : List Ent → List Ent → List Ent
  | acc, [] => acc
  | acc, x :: r => sortR (insertR x acc) r
def order (l : List Ent) : List Ent := (sortR [] l).reverse
def findE (l : List Ent) (key : List UInt8) : Option Ent := l.find? fun x => x.key == key
/-- what is not there yet -/
def addF (own : List Fld) : List Fld → List Fld → List Fld
  | acc, [] => acc
  | acc, f :: r => addF own (if (get own f.name).2 then acc else acc ++ [f]) r
def wholeN (l : List Ent) : Nat → List UInt8 → List (List UInt8) → List Fld → Option (List Fld) × Int
  | 0, _, _, _ => (none, 15)
  | n + 1, key, seen, fs =>
    match findE l key with
    | none => (none, 14)
    | some x =>
      let fs := addF fs fs x.fields
      if (get x.fields crossW).2 = false then (some fs, 0)
      else if (seen ++ [key]).contains (get x.fields crossW).1 then (none, 15)
      else wholeN l n (get x.fields crossW).1 (seen ++ [key]) fs
def wholeE (l : List Ent) (key : List UInt8) : Option Ent × Int :=
  match wholeN l (l.length + 1) key [] [] with
  | (some fs, e) => ((findE l key).map fun x => ⟨x.kind, x.key, fs⟩, e)
  | (none, e) => (none, e)
def pickN (l : List Ent) : List (List UInt8) → List (List UInt8) → List Ent × List (Int × List UInt8)
  | _, [] => ([], [])
  | seen, k :: r =>
    if seen.contains k then pickN l (seen ++ [k]) r
    else match wholeE l k with
      | (some x, _) => let o := pickN l (seen ++ [k]) r; (x :: o.1, o.2)
      | (none, e) => let o := pickN l (seen ++ [k]) r; (o.1, (e, k) :: o.2)
def pick (l : List Ent) (ks : List (List UInt8)) : List Ent × List (Int × List UInt8) := pickN l [] ks
def dots (l : List (List UInt8)) : List UInt8 := join ((full l).map fun w => w ++ [46])
def textOf (x : Ent) : List UInt8 := dots [Lib.join ((authors x).map short) [44, 32], field x titleW, field x yearW]
def letters (x : Ent) : List UInt8 := plabel (authors x) ++ (field x yearW).drop ((field x yearW).length - 2)
structure Cited where
  ent : Ent
  label : List UInt8
  text : List UInt8
end Go.Proofs.YtibinlpbcoihoaaGreatDoor.Lb
namespace Go.Proofs.YtibinlpbcoihoaaGreatDoor
namespace Ix
def alph : List UInt8 := [97, 98, 99, 100, 101, 102, 103, 104, 105, 106, 107, 108, 109, 110, 111, 112, 113, 114, 115, 116, 117, 118, 119, 120, 121, 122, 48, 49, 50, 51, 52, 53, 54, 55, 56, 57, 45, 46]
def nameB (c : UInt8) : Bool := decide (¬ Lib.indexByte alph c < 0)
def nameOk (s : List UInt8) : Bool := s.all nameB && (decide (1 ≤ s.length) && decide (s.length ≤ 24))
def jobOk (s : List UInt8) : Bool := nameOk s && decide (s.length ≤ 20)
end Ix
namespace Ru
def wMark : List UInt8 := [109, 97, 114, 107, 117, 112]
def wBib : List UInt8 := [98, 105, 98]
def wInd : List UInt8 := [105, 110, 100, 101, 120]
def wCopy : List UInt8 := [99, 111, 112, 121]
def table : List UInt8 := [114, 117, 108, 101, 115]
structure Rl where
  kind : Int
  a : List UInt8
  b : List UInt8
  deriving DecidableEq
def word (k : Int) : List UInt8 := if k = 1 then wMark else if k = 2 then wBib else if k = 3 then wInd else if k = 4 then wCopy else []
def endsMark : List (List UInt8) := [[46, 97, 117, 120], [46, 105, 100, 120], [46, 108, 111, 103], [46, 111, 117, 116]]
def endsBib : List (List UInt8) := [[46, 98, 98, 108], [46, 98, 108, 103]]
def endsInd : List (List UInt8) := [[46, 105, 108, 103], [46, 105, 110, 100]]
def ends (k : Int) : List (List UInt8) := if k = 1 then endsMark else if k = 2 then endsBib else if k = 3 then endsInd else []
def known (k : Int) : Bool := decide (1 ≤ k) && decide (k < 5)
def may (x : Rl) : Bool :=
  if x.kind = 4 then Ix.nameOk x.a && (Ix.nameOk x.b && (!(x.a == x.b) && !(x.b == table)))
  else known x.kind && (Ix.jobOk x.a && x.b.isEmpty)
def writes (x : Rl) : List (List UInt8) := if x.kind = 4 then [x.b] else (ends x.kind).map (x.a ++ ·)
def allW (l : List Rl) : List (List UInt8) := l.flatMap writes
def right (l : List Rl) : Bool := l.all may && (decide (allW l).Nodup && decide (l.length ≤ 12))
def text (x : Rl) : List UInt8 := if x.kind = 4 then wCopy ++ 32 :: (x.a ++ 32 :: x.b) else if known x.kind then word x.kind ++ 32 :: x.a else []
def kindOf (s : List UInt8) : Int := if s = wMark then 1 else if s = wBib then 2 else if s = wInd then 3 else if s = wCopy then 4 else 0
def one (w : List (List UInt8)) : Option Rl :=
  let k := kindOf (w.getD 0 [])
  if k = 4 then (if w.length = 3 then some ⟨4, w.getD 1 [], w.getD 2 []⟩ else none)
  else if k = 0 then none else if w.length = 2 then some ⟨k, w.getD 1 [], []⟩ else none
def skip (w : List (List UInt8)) : Bool := w.isEmpty || (w.getD 0 []).head? == some 35
def lines (s : List UInt8) : List (List UInt8) := Lb.pieces (fun c => c == 10) [] s
def parseL (acc : List Rl) : List (List UInt8) → Option (List Rl)
  | [] => some acc
  | l :: r => if skip (Lb.words l) then parseL acc r else match one (Lb.words l) with
    | none => none
    | some x => parseL (acc ++ [x]) r
def parse (s : List UInt8) : Option (List Rl) := match parseL [] (lines s) with
  | none => none
  | some l => if right l then some l else none
def errno (o : Option (List Rl)) : Int := if o.isSome then 0 else 16
theorem parseL_acc : ∀ (l : List (List UInt8)) (acc : List Rl), parseL acc l = (parseL [] l).map (acc ++ ·)
  | [], acc => by simp [parseL]
  | x :: r, acc => by
    unfold parseL
    by_cases h : skip (Lb.words x) = true
    · rw [if_pos h, if_pos h, parseL_acc r acc]
    · rw [if_neg h, if_neg h]
      cases h2 : one (Lb.words x) with
      | none => rfl
      | some y =>
        dsimp only
        rw [parseL_acc r (acc ++ [y]), parseL_acc r ([] ++ [y]), Option.map_map]
        congr 1
        funext z
        simp
theorem parseL_append : ∀ (l m : List (List UInt8)) (acc : List Rl), parseL acc (l ++ m) = (parseL acc l).bind fun a => parseL a m
  | [], m, acc => by simp [parseL]
  | x :: r, m, acc => by
    rw [List.cons_append, parseL, parseL]
    by_cases h : skip (Lb.words x) = true
    · rw [if_pos h, if_pos h, parseL_append r m acc]
    · rw [if_neg h, if_neg h]
      cases one (Lb.words x) with
      | none => rfl
      | some y => exact parseL_append r m _
theorem pieces_app (p : UInt8 → Bool) (y : UInt8) (hy : p y = true) (t : List UInt8) : ∀ (s cur : List UInt8), Lb.pieces p cur (s ++ y :: t) = Lb.pieces p cur s ++ Lb.pieces p [] t
  | [], cur => by simp [Lb.pieces, hy]
  | c :: s, cur => by
    rw [List.cons_append, Lb.pieces, Lb.pieces]
    cases p c
    · exact pieces_app p y hy t s (cur ++ [c])
    · simp only [if_true, List.cons_append]; rw [pieces_app p y hy t s []]
theorem pieces_none (p : UInt8 → Bool) : ∀ (s cur : List UInt8), (∀ c ∈ s, p c = false) → Lb.pieces p cur s = [cur ++ s]
  | [], cur, _ => by simp [Lb.pieces]
  | c :: s, cur, h => by
    unfold Lb.pieces
    rw [h c (by simp)]
    have := pieces_none p s (cur ++ [c]) (fun d hd => h d (List.mem_cons_of_mem _ hd))
    simpa using this
theorem lines_app (s t : List UInt8) : lines (s ++ 10 :: t) = lines s ++ lines t := pieces_app _ 10 rfl t s []
theorem lines_one (s : List UInt8) (h : ∀ c ∈ s, (c == 10) = false) : lines s = [s] := by
  have := pieces_none (fun c => c == 10) s [] h
  simpa [lines] using this
theorem right_pre {l m : List Rl} (h : right (l ++ m) = true) : right l = true ∧ right m = true := by
  unfold right allW at h ⊢
  simp only [List.all_append, List.flatMap_append, Bool.and_eq_true, decide_eq_true_eq, List.nodup_append, List.length_append] at h ⊢
  obtain ⟨⟨h1, h2⟩, ⟨h3, h4, _⟩, h5⟩ := h
  exact ⟨⟨h1, h3, by omega⟩, h2, h4, by omega⟩
theorem right_len {l : List Rl} (h : right l = true) : l.length ≤ 12 := by
  unfold right at h
  simp only [Bool.and_eq_true, decide_eq_true_eq] at h
  exact h.2.2
theorem parse_right {s : List UInt8} {l : List Rl} (h : parse s = some l) : right l = true := by
  unfold parse at h
  split at h
  · cases h
  · rename_i l' _
    by_cases hr : right l' = true
    · rw [if_pos hr] at h; cases h; exact hr
    · rw [if_neg hr] at h; cases h
theorem parse_len (s : List UInt8) : ((parse s).getD []).length ≤ 12 := by
  cases h : parse s with
  | none => simp
  | some l => exact right_len (parse_right h)
/- two texts, one behind the other -/
theorem parse_both (s t : List UInt8) : parse (s ++ 10 :: t) = match parseL [] (lines s), parseL [] (lines t) with
    | some a, some c => if right (a ++ c) then some (a ++ c) else none
    | _, _ => none := by
  unfold parse
  rw [lines_app, parseL_append]
  cases h1 : parseL [] (lines s) with
  | none => rfl
  | some a =>
    show (match parseL a (lines t) with | none => none | some l => if right l then some l else none) = _
    rw [parseL_acc]
    cases h2 : parseL [] (lines t) with
    | none => rfl
    | some c => rfl
theorem parse_none_l (s t : List UInt8) (h : parse s = none) : parse (s ++ 10 :: t) = none := by
  rw [parse_both]
  unfold parse at h
  cases h1 : parseL [] (lines s) with
  | none => rfl
  | some a =>
    rw [h1] at h
    dsimp only at h
    cases h2 : parseL [] (lines t) with
    | none => rfl
    | some c =>
      dsimp only
      rw [if_neg]
      intro hr
      rw [if_pos (right_pre hr).1] at h; cases h
theorem parse_none_r (s t : List UInt8) (h : parse t = none) : parse (s ++ 10 :: t) = none := by
  rw [parse_both]
  unfold parse at h
  cases h1 : parseL [] (lines s) with
  | none => rfl
  | some a =>
    cases h2 : parseL [] (lines t) with
    | none => rfl
    | some c =>
      rw [h2] at h
      dsimp only at h ⊢
      rw [if_neg]
      intro hr
      rw [if_pos (right_pre hr).2] at h; cases h
theorem parse_some {s : List UInt8} {l : List Rl} (h : parse s = some l) : parseL [] (lines s) = some l := by
  unfold parse at h
  split at h
  · cases h
  · rename_i l' hl
    by_cases hr : right l' = true
    · rw [if_pos hr] at h; cases h; exact hl
    · rw [if_neg hr] at h; cases h
theorem parse_two (s t : List UInt8) {a c : List Rl} (h1 : parse s = some a) (h2 : parse t = some c) : parse (s ++ 10 :: t) = if right (a ++ c) then some (a ++ c) else none := by
  rw [parse_both, parse_some h1, parse_some h2]
def rem1 : List UInt8 := [35, 32, 109, 97, 114, 107, 117, 112, 32, 120, 10, 10]
def rem2 : List UInt8 := [10, 32, 9, 35, 120, 10]
theorem parse_remarks (s : List UInt8) : parse (rem1 ++ (s ++ rem2)) = parse s := by
  have e : lines (rem1 ++ (s ++ rem2)) = [[35, 32, 109, 97, 114, 107, 117, 112, 32, 120], []] ++ (lines s ++ [[32, 9, 35, 120], []]) := by
    have e1 : rem1 ++ (s ++ rem2) = [35, 32, 109, 97, 114, 107, 117, 112, 32, 120] ++ 10 :: ([] ++ 10 :: (s ++ 10 :: ([32, 9, 35, 120] ++ 10 :: []))) := by simp [rem1, rem2]
    rw [e1, lines_app, lines_app, lines_app, lines_app]
    rfl
  have h : parseL [] (lines (rem1 ++ (s ++ rem2))) = parseL [] (lines s) := by
    rw [e, parseL_append]
    show parseL [] (lines s ++ [[32, 9, 35, 120], []]) = _
    rw [parseL_append]
    cases parseL [] (lines s) with
    | none => rfl
    | some a => rfl
  unfold parse
  rw [h]
/- rules back out of their lines -/
def remark : List UInt8 := [35, 32, 114, 101, 109, 97, 114, 107]
def backOne (x : Rl) : List UInt8 := 10 :: (remark ++ 10 :: (32 :: (text x ++ [9, 10])))
def back (l : List Rl) : List UInt8 := l.flatMap backOne
theorem nameOk_mem {s : List UInt8} (h : Ix.nameOk s = true) : s ≠ [] ∧ ∀ c ∈ s, Lb.blank c = false ∧ (c == 10) = false := by
  unfold Ix.nameOk at h
  simp only [Bool.and_eq_true, List.all_eq_true, decide_eq_true_eq] at h
  refine ⟨fun e => by rw [e] at h; simp at h, fun c hc => ?_⟩
  have h1 := h.1 c hc
  have k : ∀ d : UInt8, Ix.nameB d = false → c ≠ d := fun d hd e => by rw [e, hd] at h1; cases h1
  have k1 := k 32 (by decide +kernel)
  have k2 := k 9 (by decide +kernel)
  have k3 := k 10 (by decide +kernel)
  unfold Lb.blank
  simp [k1, k2, k3]
theorem jobOk_mem {s : List UInt8} (h : Ix.jobOk s = true) : s ≠ [] ∧ ∀ c ∈ s, Lb.blank c = false ∧ (c == 10) = false := by
  unfold Ix.jobOk at h
  rw [Bool.and_eq_true] at h
  exact nameOk_mem h.1
theorem words_cons (u v : List UInt8) (hu : u ≠ []) (h : ∀ c ∈ u, Lb.blank c = false) : Lb.full (Lb.pieces Lb.blank [] (u ++ 32 :: v)) = u :: Lb.full (Lb.pieces Lb.blank [] v) := by
  rw [pieces_app _ 32 rfl, pieces_none _ _ _ h]
  cases u with
  | nil => exact absurd rfl hu
  | cons c r => simp [Lb.full]
theorem words_end (u : List UInt8) (hu : u ≠ []) (h : ∀ c ∈ u, Lb.blank c = false) : Lb.full (Lb.pieces Lb.blank [] (u ++ [9])) = [u] := by
  rw [pieces_app _ 9 rfl, pieces_none _ _ _ h]
  cases u with
  | nil => exact absurd rfl hu
  | cons c r => simp [Lb.full, Lb.pieces]
theorem words_blank (v : List UInt8) : Lb.words (32 :: v) = Lb.full (Lb.pieces Lb.blank [] v) := by
  unfold Lb.words
  have := pieces_app Lb.blank 32 rfl v [] []
  rw [List.nil_append] at this
  rw [this]; simp [Lb.full, Lb.pieces]
theorem known_cases {k : Int} (h : known k = true) : k = 1 ∨ k = 2 ∨ k = 3 ∨ k = 4 := by
  unfold known at h
  simp only [Bool.and_eq_true, decide_eq_true_eq] at h
  omega
theorem line_of {x : Rl} (h : may x = true) : skip (Lb.words (32 :: (text x ++ [9]))) = false ∧ one (Lb.words (32 :: (text x ++ [9]))) = some x ∧ ∀ c ∈ (32 :: (text x ++ [9])), (c == 10) = false := by
  obtain ⟨k, a, b⟩ := x
  unfold may at h
  dsimp only at h
  by_cases h4 : k = 4
  · subst h4
    rw [if_pos rfl] at h
    simp only [Bool.and_eq_true] at h
    obtain ⟨ha, hb, _, _⟩ := h
    obtain ⟨a1, a2⟩ := nameOk_mem ha
    obtain ⟨b1, b2⟩ := nameOk_mem hb
    have e : Lb.words (32 :: (text ⟨4, a, b⟩ ++ [9])) = [wCopy, a, b] := by
      rw [words_blank]
      show Lb.full (Lb.pieces Lb.blank [] ((wCopy ++ 32 :: (a ++ 32 :: b)) ++ [9])) = _
      rw [List.append_assoc, List.cons_append, words_cons wCopy _ (by decide) (by decide), List.append_assoc, List.cons_append, words_cons a _ a1 (fun c hc => (a2 c hc).1), words_end b b1 (fun c hc => (b2 c hc).1)]
    rw [e]
    refine ⟨rfl, rfl, ?_⟩
    intro c hc
    have hc : c = 32 ∨ c ∈ wCopy ∨ c = 32 ∨ c ∈ a ∨ c = 32 ∨ c ∈ b ∨ c = 9 := by
      simpa [text] using hc
    rcases hc with rfl | hc | rfl | hc | rfl | hc | rfl
    · rfl
    · exact (by decide : ∀ c ∈ wCopy, (c == 10) = false) c hc
    · rfl
    · exact (a2 c hc).2
    · rfl
    · exact (b2 c hc).2
    · rfl
  · rw [if_neg h4] at h
    simp only [Bool.and_eq_true] at h
    obtain ⟨hk, ha, hb⟩ := h
    obtain ⟨a1, a2⟩ := jobOk_mem ha
    have hb : b = [] := List.isEmpty_iff.1 hb
    subst hb
    have hw : word k ≠ [] ∧ (∀ c ∈ word k, Lb.blank c = false) ∧ (∀ c ∈ word k, (c == 10) = false) ∧ skip [word k, a] = false ∧ kindOf (word k) = k := by
      rcases known_cases hk with rfl | rfl | rfl | rfl
      · exact ⟨by decide, by decide, by decide, rfl, by decide⟩
      · exact ⟨by decide, by decide, by decide, rfl, by decide⟩
      · exact ⟨by decide, by decide, by decide, rfl, by decide⟩
      · exact absurd rfl h4
    obtain ⟨w1, w2, w3, w4, w5⟩ := hw
    have et : text ⟨k, a, []⟩ = word k ++ 32 :: a := by
      unfold text; dsimp only; rw [if_neg h4, if_pos hk]
    have e : Lb.words (32 :: (text ⟨k, a, []⟩ ++ [9])) = [word k, a] := by
      rw [words_blank, et, List.append_assoc, List.cons_append, words_cons _ _ w1 w2, words_end a a1 (fun c hc => (a2 c hc).1)]
    rw [e]
    refine ⟨w4, ?_, ?_⟩
    · have h0 : k ≠ 0 := by rcases known_cases hk with rfl | rfl | rfl | rfl <;> decide
      unfold one
      simp [w5, h4, h0]
    · intro c hc
      have hc : c = 32 ∨ c ∈ word k ∨ c = 32 ∨ c ∈ a ∨ c = 9 := by
        rw [et] at hc
        simpa using hc
      rcases hc with rfl | hc | rfl | hc | rfl
      · rfl
      · exact w3 c hc
      · rfl
      · exact (a2 c hc).2
      · rfl
theorem parseL_back : ∀ (l : List Rl) (acc : List Rl), (∀ x ∈ l, may x = true) → parseL acc (lines (back l)) = some (acc ++ l)
  | [], acc, _ => by
    show parseL acc [[]] = _
    rw [List.append_nil]
    rfl
  | x :: l, acc, h => by
    obtain ⟨h1, h2, h3⟩ := line_of (h x (by simp))
    have e : back (x :: l) = [] ++ 10 :: (remark ++ 10 :: ((32 :: (text x ++ [9])) ++ 10 :: back l)) := by
      show backOne x ++ back l = _
      simp [backOne]
    rw [e, lines_app, lines_app, lines_app, lines_one remark (by decide), lines_one _ h3]
    show parseL acc (([32 :: (text x ++ [9])] : List (List UInt8)) ++ lines (back l)) = _
    rw [List.singleton_append]
    unfold parseL
    rw [h1, h2]
    have := parseL_back l (acc ++ [x]) (fun y hy => h y (List.mem_cons_of_mem _ hy))
    simpa using this
theorem parse_back (l : List Rl) (h : right l = true) : parse (back l) = some l := by
  unfold parse
  have hm : ∀ x ∈ l, may x = true := by
    unfold right at h
    simp only [Bool.and_eq_true, List.all_eq_true] at h
    exact h.1
  rw [parseL_back l [] hm]
  show (if right l = true then some l else none) = _
  rw [if_pos h]
theorem parse_not (s : List UInt8) (l : List Rl) (h : right l = false) : parse s ≠ some l := fun e => by rw [parse_right e] at h; cases h
end Ru
end Go.Proofs.YtibinlpbcoihoaaGreatDoor
namespace Go.Proofs.YtibinlpbcoihoaaGreatDoor
namespace Ru
def lastE (p : UInt8 → Bool) (cur : List UInt8) (t : List UInt8) : Bool := match t.getLast? with
  | none => cur.isEmpty
  | some d => p d
theorem lastE_cons (p : UInt8 → Bool) (cur : List UInt8) (d : UInt8) (t : List UInt8) : lastE p cur (d :: t) = match t.getLast? with
    | none => p d
    | some e => p e := by
  unfold lastE
  cases t with
  | nil => rfl
  | cons e r => rw [List.getLast?_cons_cons]; cases h : (e :: r).getLast? with
    | none => simp at h
    | some _ => rfl
theorem pieces_snoc (p : UInt8 → Bool) (c : UInt8) : ∀ (t cur : List UInt8), ∃ init last, Lb.pieces p cur t = init ++ [last] ∧ Lb.pieces p cur (t ++ [c]) = (if p c then init ++ [last, []] else init ++ [last ++ [c]]) ∧ last.isEmpty = lastE p cur t ∧ last.length ≤ cur.length + t.length ∧ init.length ≤ t.length
  | [], cur => by
    refine ⟨[], cur, rfl, ?_, rfl, by simp, by simp⟩
    rw [List.nil_append, Lb.pieces]
    cases p c <;> simp [Lb.pieces]
  | d :: t, cur => by
    rw [List.cons_append, Lb.pieces, Lb.pieces]
    cases hd : p d with
    | false =>
      obtain ⟨init, last, h1, h2, h3, h4, h5⟩ := pieces_snoc p c t (cur ++ [d])
      refine ⟨init, last, by simpa using h1, by simpa using h2, ?_, by simp at h4 ⊢; omega, by simp; omega⟩
      rw [h3, lastE_cons, hd]
      unfold lastE
      cases t.getLast? <;> simp
    | true =>
      obtain ⟨init, last, h1, h2, h3, h4, h5⟩ := pieces_snoc p c t []
      refine ⟨cur :: init, last, by simpa using h1, ?_, ?_, by simp at h4 ⊢; omega, by simp; omega⟩
      · simp only [if_true]; rw [h2]; cases p c <;> rfl
      · rw [h3, lastE_cons, hd]
        unfold lastE
        cases t.getLast? <;> rfl
theorem take_last (s : List UInt8) (i : Nat) (d : UInt8) (h : s[i]? = some d) : (s.take (i + 1)).getLast? = some d := by
  rw [List.take_add_one, h]; simp
theorem take_one (s : List UInt8) (i : Nat) (c : UInt8) (h : s[i]? = some c) : s.take (i + 1) = s.take i ++ [c] := by
  rw [List.take_add_one, h]; rfl
theorem full_app (a b : List (List UInt8)) : Lb.full (a ++ b) = Lb.full a ++ Lb.full b := List.filter_append ..
/-- what comes behind one byte more -/
theorem words_step (s : List UInt8) (i : Nat) (c : UInt8) (h : s[i]? = some c) :
    (Lb.blank c = true → Lb.words (s.take (i + 1)) = Lb.words (s.take i)) ∧
    (Lb.blank c = false → lastE Lb.blank [] (s.take i) = true → Lb.words (s.take (i + 1)) = Lb.words (s.take i) ++ [[c]]) ∧
    (Lb.blank c = false → lastE Lb.blank [] (s.take i) = false → ∃ a x, Lb.words (s.take i) = a ++ [x] ∧ Lb.words (s.take (i + 1)) = a ++ [x ++ [c]] ∧ x.length ≤ i) ∧ (Lb.words (s.take i)).length ≤ i + 1 := by
  obtain ⟨init, last, h1, h2, h3, h4, h5⟩ := pieces_snoc Lb.blank c (s.take i) []
  have hl : (s.take i).length ≤ i := by simp; omega
  unfold Lb.words
  rw [take_one s i c h, h1, h2]
  refine ⟨fun hb => ?_, fun hb he => ?_, fun hb he => ?_, ?_⟩
  · rw [hb, if_pos rfl, show init ++ [last, []] = (init ++ [last]) ++ [[]] by simp, full_app _ [[]]]; simp [Lb.full]
  · rw [he] at h3
    have := List.isEmpty_iff.1 h3
    subst this
    rw [hb, if_neg (by simp), full_app, full_app]; simp [Lb.full]
  · rw [he] at h3
    refine ⟨Lb.full init, last, ?_, ?_, by simpa using Nat.le_trans h4 (by simpa using hl)⟩
    · rw [full_app]; simp [Lb.full, h3]
    · rw [hb, if_neg (by simp), full_app]; simp [Lb.full]
  · refine Nat.le_trans (List.length_filter_le _ _) ?_
    simp; omega
theorem lines_step (s : List UInt8) (i : Nat) (c : UInt8) (h : s[i]? = some c) :
    ((c == 10) = true → lines (s.take (i + 1)) = lines (s.take i) ++ [[]]) ∧
    ((c == 10) = false → ∃ a x, lines (s.take i) = a ++ [x] ∧ lines (s.take (i + 1)) = a ++ [x ++ [c]] ∧ x.length ≤ i) ∧ (lines (s.take i)).length ≤ i + 1 := by
  obtain ⟨init, last, h1, h2, h3, h4, h5⟩ := pieces_snoc (fun c => c == 10) c (s.take i) []
  have hl : (s.take i).length ≤ i := by simp; omega
  unfold lines
  rw [take_one s i c h, h1, h2]
  refine ⟨fun hb => ?_, fun hb => ?_, by simp; omega⟩
  · rw [hb, if_pos rfl]; simp
  · refine ⟨init, last, rfl, ?_, by simpa using Nat.le_trans h4 (by simpa using hl)⟩
    rw [hb]; simp
end Ru
end Go.Proofs.YtibinlpbcoihoaaGreatDoor
