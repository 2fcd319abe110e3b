/- Texts held against each other, and lists of texts: plain orders. No program in sight. The plain model of package count (layer 1): counters, their sums, their texts, and the counters that texts are. Plain Lean, no program in sight. Numerals up to 3999, looked through by the kernel: each is that of its thousands, hundreds, tens and ones; each is read back. Maps from texts, as functions: the call's own. The walks of package entry's reader, first part: blanks, one byte, marks. The walks of package entry's reader: one byte. Names that stand for texts: a map of the call's own. The whole reader of package entry in memory; its notes. The walks of package entry's reader: a note more. The walks of package entry's reader: a part of a value. The walks of package entry's reader: a value. The walks of package entry's reader: what stands deferred: an entry's end is caught. -/
import Derived.Lib.Strings
import Derived.Lib.Case
import Derived.Lib.CountLaws
import Derived.Lib.ItoaNum
import Derived.Lib.MapU
import Derived.Test.YtibinlpbcoihoaaGreatDoorG01
import Derived.Maps.OwnSet
import Derived.Maps.OwnOps
import Derived.BigQuiet
import Derived.Deep.RegionHeld3
import Derived.Shelf.Strings.SlTrimAscii
import Derived.Recover
set_option linter.unusedSimpArgs false
set_option linter.unusedVariables false
namespace Go.Proofs.YtibinlpbcoihoaaGreatDoor
namespace Ix
def cmpB (a b : List UInt8) : Int := Lib.compareBytes a b
theorem u8_lt_tr {a b c : UInt8} (h : a < b) (k : b < c) : a < c := UInt8.lt_trans h k
theorem cmpB_refl : ∀ a : List UInt8, cmpB a a = 0
  | [] => rfl
  | x :: a => by
    unfold cmpB Lib.compareBytes
    rw [if_neg (UInt8.lt_irrefl x), if_neg (UInt8.lt_irrefl x)]
    exact cmpB_refl a
theorem cmpB_cons (x y : UInt8) (a b : List UInt8) : cmpB (x :: a) (y :: b) = if x < y then -1 else if y < x then 1 else cmpB a b := rfl
theorem cmpB_eq0 : ∀ a b : List UInt8, cmpB a b = 0 → a = b
  | [], [], _ => rfl
  | [], _ :: _, h => by simp [cmpB, Lib.compareBytes] at h
  | _ :: _, [], h => by simp [cmpB, Lib.compareBytes] at h
  | x :: a, y :: b, h => by
    rw [cmpB_cons] at h
    split at h
    · omega
    · next h1 =>
      split at h
      · omega
      · next h2 =>
        have : x = y := by
          refine UInt8.le_antisymm (UInt8.not_lt.1 h2) (UInt8.not_lt.1 h1)
        rw [this, cmpB_eq0 a b h]
theorem cmpB_trans : ∀ a b d : List UInt8, cmpB a b < 0 → cmpB b d < 0 → cmpB a d < 0
  | [], [], _, h, _ => by simp [cmpB, Lib.compareBytes] at h
  | _ :: _, [], _, h, _ => by simp [cmpB, Lib.compareBytes] at h
  | _, _ :: _, [], _, k => by simp [cmpB, Lib.compareBytes] at k
  | [], _ :: _, _ :: _, _, _ => by simp [cmpB, Lib.compareBytes]
  | x :: a, y :: b, z :: d, h, k => by
    rw [cmpB_cons] at h k ⊢
    have irr := UInt8.lt_irrefl
    by_cases h1 : x < y
    · by_cases k1 : y < z
      · rw [if_pos (u8_lt_tr h1 k1)]; omega
      · rw [if_neg k1] at k
        by_cases k2 : z < y
        · rw [if_pos k2] at k; omega
        · have : y = z := UInt8.le_antisymm (UInt8.not_lt.1 k2) (UInt8.not_lt.1 k1)
          rw [← this, if_pos h1]; omega
    · rw [if_neg h1] at h
      by_cases h2 : y < x
      · rw [if_pos h2] at h; omega
      · rw [if_neg h2] at h
        have e : x = y := UInt8.le_antisymm (UInt8.not_lt.1 h2) (UInt8.not_lt.1 h1)
        rw [e]
        by_cases k1 : y < z
        · rw [if_pos k1]; omega
        · rw [if_neg k1] at k ⊢
          by_cases k2 : z < y
          · rw [if_pos k2] at k; omega
          · rw [if_neg k2] at k ⊢; exact cmpB_trans a b d h k
/-! ### lists that rise by an order -/
section
variable {α : Type} {c : α → α → Int}
end
end Ix
end Go.Proofs.YtibinlpbcoihoaaGreatDoor
namespace Go.Proofs.YtibinlpbcoihoaaGreatDoor.Cnt

/-- a number as a counter -/
def cut (n : Int) : Int := if n < 0 then 0 else if 999999 < n then 999999 else n
def numerals : List (Nat × List UInt8) :=
  [(1000, [109]), (900, [99, 109]), (500, [100]), (400, [99, 100]), (100, [99]), (90, [120, 99]), (50, [108]), (40, [120, 108]), (10, [120]), (9, [105, 120]), (5, [118]), (4, [105, 118]), (1, [105])]

/-- the numeral of n by some parts -/
def romanGo : List (Nat × List UInt8) → Nat → List UInt8
  | [], _ => []
  | p :: ps, n => (List.replicate (n / p.1) p.2).flatten ++ romanGo ps (n % p.1)
def roman (n : Nat) : List UInt8 := romanGo numerals n
/-- letters, the last one first done; the first number is fuel -/
def letGo : Nat → Nat → List UInt8
  | 0, _ => []
  | f + 1, n => if n = 0 then [] else letGo f ((n - 1) / 26) ++ [UInt8.ofNat (97 + (n - 1) % 26)]
def lettered (n : Nat) : List UInt8 := letGo n n
/-- a counter's text -/
def text (n style : Int) : List UInt8 :=
  if style = 2 ∧ 1 ≤ cut n ∧ cut n ≤ 3999 then Lib.toUpperA (roman (cut n).toNat)
  else if style = 1 ∧ 1 ≤ cut n ∧ cut n ≤ 3999 then roman (cut n).toNat
  else if style = 3 ∧ 1 ≤ cut n then lettered (cut n).toNat
  else Lib.itoa (cut n)

def add (a b : Int) : Int × Bool := (cut (cut a + cut b), decide (999999 < cut a + cut b))
end Go.Proofs.YtibinlpbcoihoaaGreatDoor.Cnt
namespace Go.Proofs.YtibinlpbcoihoaaGreatDoor.Cnt
def parts (m : Nat) : List Nat := [m / 1000 * 1000, m / 100 % 10 * 100, m / 10 % 10 * 10, m % 10]
end Go.Proofs.YtibinlpbcoihoaaGreatDoor.Cnt
namespace Go.Proofs.YtibinlpbcoihoaaGreatDoor
open Go.RowKit
open Go.Maps (Keyed)
open Go.MapKept Go.WideElems

/-- block b is a map from texts to numbers, of at most n entries; it reads as f -/
def IMap (w : World) (b n : Nat) (f : List UInt8 → Int) : Prop :=
  ∃ D : DataW Unit, w.ownsMap Tryz.prog 9 (plainElem Tryz.prog 3) b n D ∧ ∀ s : List UInt8, D.atKey (.string s) (.lit (.int .i64 0)) = .lit (.int .i64 (f s))
theorem skeyed : Keyed Tryz.prog 9 := Maps.string_keyed Tryz.underlying9
theorem skey (s : List UInt8) (hs : s.length ≤ maxLen) : keyOf Tryz.prog 9 (.string ⟨s.toArray⟩) = some (.string s) := by
  have := WideMaps.keyOf_string_mk (P := Tryz.prog) Tryz.underlying9 (s := ⟨s.toArray⟩) (by simpa [ByteArray.size] using hs)
  simpa using this
theorem skeylit (s : List UInt8) : WideAt.IsKeyLit (.string s) := by
  first | exact trivial | simp [Go.WideAt.IsKeyLit]
theorem zero_int (w : World) : (zeroValue 3).run Tryz.prog w = .ok (.int .i64 0) w := by kernel_rfl
theorem IMap.made (w : World) : IMap (w.alloc (.map #[] 0)) w.heap.size 0 (fun _ => 0) := ⟨.map [], World.ownsMap_made w _ _ _, fun _ => rfl⟩
theorem IMap.lt {w : World} {b n : Nat} {f : List UInt8 → Int} (h : IMap w b n f) : b < w.heap.size := let ⟨_, h, _⟩ := h; h.lt
theorem IMap.kept {w w' : World} {b n : Nat} {f : List UInt8 → Int} (h : IMap w b n f) (hb : w'.heap[b]? = w.heap[b]?) : IMap w' b n f := by
  obtain ⟨D, ⟨es, clock, hb', F, hs, hD⟩, hf⟩ := h
  exact ⟨D, ⟨es, clock, hb.trans hb', F, hs, hD⟩, hf⟩
theorem IMap.below {w w' : World} {b n : Nat} {f : List UInt8 → Int} (h : IMap w b n f) (hb : Below w.heap.size w w') : IMap w' b n f := h.kept (hb.block b h.lt)
theorem IMap.mono {w : World} {b n n' : Nat} {f : List UInt8 → Int} (h : IMap w b n f) (hn : n ≤ n') : IMap w b n' f := let ⟨D, h1, h2⟩ := h; ⟨D, h1.mono hn, h2⟩

section
variable {w : World} {ops : Array Oper} {rest : List Oper} {o : Oper} {a : Act} {Q : Exit → Act → World → Prop}
theorem wpList_imap_look (hg : o.guard = none) (m x : Operand) (hop : o.op = Op.lookup 56 m x false) (b n : Nat) (f : List UInt8 → Int) (hm : a.eval m = .map (some b)) (hown : IMap w b n f)
    (s : List UInt8) (hx : a.eval x = .string ⟨s.toArray⟩) (hs : s.length ≤ maxLen) (hK : wpList Tryz.prog ops Q rest (a.put o.dst (.int .i64 (f s))) w) :
    wpList Tryz.prog ops Q (o :: rest) a w := by
  obtain ⟨D, h1, h2⟩ := hown
  refine wpList_lookup_own_int w hg m x 56 hop 9 3 .i64 skeyed Tryz.underlying56 Tryz.underlying3 (zero_int w) b n D hm h1 _ _ hx (skey s hs) ?_
  intro c hat _
  rw [h2 s] at hat
  injection hat with hat
  injection hat with _ hat
  rw [← hat]
  exact hK
theorem wpList_imap_store (hg : o.guard = none) (m x v : Operand) (hop : o.op = Op.mapUpdate 56 m x v) (b n : Nat) (f : List UInt8 → Int) (hm : a.eval m = .map (some b)) (hown : IMap w b n f)
    (s : List UInt8) (hx : a.eval x = .string ⟨s.toArray⟩) (hs : s.length ≤ maxLen) (hn : n < maxLen) (c : Int) (hv : a.eval v = .int .i64 c) (hc : -9223372036854775808 ≤ c ∧ c ≤ 9223372036854775807)
    (hK : ∀ w', IMap w' b (n + 1) (fun t => if t = s then c else f t) → w.grownBy w' (some b) → wpList Tryz.prog ops Q rest (a.put o.dst undef) w') :
    wpList Tryz.prog ops Q (o :: rest) a w := by
  obtain ⟨D, h1, h2⟩ := hown
  have hwf : (Lit.int IntKind.i64 c).wf = true := by
    have h1 : IntKind.i64.min = -9223372036854775808 := by decide
    have h2 : IntKind.i64.max = 9223372036854775807 := by decide
    show (decide (IntKind.i64.min ≤ c) && decide (c ≤ IntKind.i64.max)) = true
    rw [h1, h2]
    simp [hc.1, hc.2]
  refine wpList_mapUpdate_own w hg m x v 56 hop 9 3 skeyed Tryz.underlying56 _ b n D hm h1 hn _ _ _ hx hv (skey s hs) (.lit (.int .i64 c)) [] (plainElem_int Tryz.underlying3 hwf) ?_
  intro w' h3 h4
  refine hK w' ⟨_, h3, fun t => ?_⟩ h4
  show DataW.atKey _ _ _ = .lit (.int .i64 (if t = s then c else f t))
  by_cases ht : t = s
  · rw [if_pos ht, ht]
    exact Maps.atKey_put_same (h1.isMap) (skeylit s) _ _
  · rw [if_neg ht, ← h2 t]
    exact Maps.atKey_put_other (by intro e; injection e with e; exact ht e) _ _
end
end Go.Proofs.YtibinlpbcoihoaaGreatDoor
namespace Go.Proofs.YtibinlpbcoihoaaGreatDoor
open Go.RowKit

/-- the reader's place: its text, and what is left of it -/
structure At (s : List UInt8) (r : Nat) (w : World) (l : List UInt8) : Prop where
  text : w.cell? ⟨r, 0, none⟩ = some (.string ⟨s.toArray⟩)
  place : ∃ k : Nat, k ≤ s.length ∧ s.drop k = l ∧ w.cell? ⟨r, 1, none⟩ = some (.int .i64 (k : Int))
  free : w.frozen? ⟨r, 1, none⟩ = false
  lt : r < w.heap.size
/-- nothing but the reader's place has turned -/
structure Moved (r : Nat) (w w' : World) : Prop where
  os : w'.os = w.os
  tape : w'.tape = w.tape
  output : w'.output = w.output
  size : w'.heap.size = w.heap.size
  block : ∀ k, k ≠ r → w'.heap[k]? = w.heap[k]?
  cell : ∀ i, i ≠ 1 → w'.cell? ⟨r, i, none⟩ = w.cell? ⟨r, i, none⟩
  frozen : ∀ i, w'.frozen? ⟨r, i, none⟩ = w.frozen? ⟨r, i, none⟩
theorem Moved.refl (r : Nat) (w : World) : Moved r w w := ⟨rfl, rfl, rfl, rfl, fun _ _ => rfl, fun _ _ => rfl, fun _ => rfl⟩
theorem Moved.trans {r : Nat} {a b c : World} (h : Moved r a b) (k : Moved r b c) : Moved r a c :=
  ⟨k.os.trans h.os, k.tape.trans h.tape, k.output.trans h.output, k.size.trans h.size, fun i hi => (k.block i hi).trans (h.block i hi), fun i hi => (k.cell i hi).trans (h.cell i hi), fun i => (k.frozen i).trans (h.frozen i)⟩
theorem Moved.drew {r : Nat} {a w : World} (h : Moved r a w) : Moved r a w.drew := ⟨h.os, h.tape, h.output, h.size, h.block, h.cell, h.frozen⟩
theorem Moved.drewN {r : Nat} {a w : World} (h : Moved r a w) (n : Nat) : Moved r a (w.drewN n) := by
  induction n with
  | zero => exact h
  | succ k ih => exact ih.drew
theorem Moved.set {r : Nat} {a w : World} (h : Moved r a w) (v : Value) : Moved r a (w.setCell ⟨r, 1, none⟩ v) :=
  h.trans ⟨rfl, rfl, rfl, by simp [World.setCell], fun k hk => Below.heap_setCell _ _ _ _ hk, fun i hi => World.cell?_setCell_other _ _ _ _ (fun e => hi (by cases e; rfl)), fun i => by simp⟩
theorem At.drewN {s : List UInt8} {r : Nat} {w : World} {l : List UInt8} (h : At s r w l) (n : Nat) : At s r (w.drewN n) l := ⟨h.text, h.place, h.free, h.lt⟩
theorem At.set {s : List UInt8} {r : Nat} {w : World} {l : List UInt8} (h : At s r w l) {k : Nat} (hk : k ≤ s.length) (n : Int) (hn : n = (k : Int)) : At s r (w.setCell ⟨r, 1, none⟩ (.int .i64 n)) (s.drop k) := by
  obtain ⟨h1, ⟨_, _, _, h2⟩, h3, h4⟩ := h
  refine ⟨by rw [World.cell?_setCell_other _ _ _ _ (by simp)]; exact h1, ⟨k, hk, rfl, ?_⟩, by simpa using h3, by simpa using h4⟩
  rw [World.cell?_setCell_same _ _ _ h2, hn]
end Go.Proofs.YtibinlpbcoihoaaGreatDoor
namespace Go.Proofs.YtibinlpbcoihoaaGreatDoor
open Go.RowKit

theorem At.drew {s : List UInt8} {r : Nat} {w : World} {l : List UInt8} (h : At s r w l) : At s r w.drew l := ⟨h.text, h.place, h.free, h.lt⟩
end Go.Proofs.YtibinlpbcoihoaaGreatDoor
namespace Go.Proofs.YtibinlpbcoihoaaGreatDoor
open Go.RowKit
open Go.Maps (Keyed)
open Go.MapKept Go.WideElems

/-- how a 'stands' reads -/
def standR (v : Value) : Option (DataW Unit × List MemPlace) :=
  match v with
  | .agg a => match a.toList with
    | [.string s] => some (.lit (.string s.data.toList), [])
    | _ => none
  | _ => none
def SMap (w : World) (b n : Nat) (f : List UInt8 → Option (List UInt8)) : Prop :=
  ∃ D : DataW Unit, w.ownsMap Tryz.prog 9 standR b n D ∧ ∀ s : List UInt8, Maps.has D (.string s) = (f s).isSome ∧ D.atKey (.string s) (.lit (.string [])) = .lit (.string ((f s).getD []))
theorem SMap.made (w : World) : SMap (w.alloc (.map #[] 0)) w.heap.size 0 (fun _ => none) := ⟨.map [], World.ownsMap_made w _ _ _, fun _ => ⟨rfl, rfl⟩⟩
theorem SMap.lt {w : World} {b n : Nat} {f : List UInt8 → Option (List UInt8)} (h : SMap w b n f) : b < w.heap.size := let ⟨_, h, _⟩ := h; h.lt
theorem SMap.kept {w w' : World} {b n : Nat} {f : List UInt8 → Option (List UInt8)} (h : SMap w b n f) (hb : w'.heap[b]? = w.heap[b]?) : SMap w' b n f := by
  obtain ⟨D, ⟨es, clock, hb', F, hs, hD⟩, hf⟩ := h
  exact ⟨D, ⟨es, clock, hb.trans hb', F, hs, hD⟩, hf⟩
section
variable {w : World} {ops : Array Oper} {rest : List Oper} {o : Oper} {a : Act} {Q : Exit → Act → World → Prop}
end
end Go.Proofs.YtibinlpbcoihoaaGreatDoor
namespace Go.Proofs.YtibinlpbcoihoaaGreatDoor
open Go.RowKit

def RNote (x : Int × List UInt8) (vs : List Value) : Prop := vs = [.int .i64 x.1, .string ⟨x.2.toArray⟩]
theorem RNote.size (x : Int × List UInt8) (vs : List Value) (h : RNote x vs) : vs.length = 2 := by rw [h]; rfl
/-- the reader: r its block, m its map's, v its notes; b: what is left to spend on notes and names -/
structure Rdr (s : List UInt8) (r m b : Nat) (w : World) (σ : Ent.RS) (v : Value) : Prop where
  at' : At s r w σ.rest
  kind : w.cell? ⟨r, 2, none⟩ = some (.string ⟨σ.kind.toArray⟩)
  kfree : w.frozen? ⟨r, 2, none⟩ = false
  mcell : w.cell? ⟨r, 3, none⟩ = some (.map (some m))
  ncell : w.cell? ⟨r, 4, none⟩ = some v
  nfree : w.frozen? ⟨r, 4, none⟩ = false
  names : ∃ n, n + σ.notes.length + σ.rest.length + b ≤ s.length ∧ SMap w m n σ.names
  notes : ∃ fl, w.ownsRow (r + 1) 166 2 v σ.notes.length fl ∧ RepRow RNote σ.notes fl
  lt : m < r
/-- what the reader's doing leaves as it was -/
structure Step (r m : Nat) (v v' : Value) (w w' : World) : Prop where
  os : w'.os = w.os
  tape : w'.tape = w.tape
  output : w'.output = w.output
  size : w.heap.size ≤ w'.heap.size
  block : ∀ k, k < w.heap.size → k ≠ r → k ≠ m → v.ownBlock ≠ some k → w'.heap[k]? = w.heap[k]?
  own : v'.ownBlock = v.ownBlock ∨ ∃ g, v'.ownBlock = some g ∧ w.heap.size ≤ g
theorem Step.refl (r m : Nat) (v : Value) (w : World) : Step r m v v w w := ⟨rfl, rfl, rfl, Nat.le_refl _, fun _ _ _ _ _ => rfl, .inl rfl⟩
theorem Step.trans {r m : Nat} {v v' v'' : Value} {w w' w'' : World} (h : Step r m v v' w w') (k : Step r m v' v'' w' w'') : Step r m v v'' w w'' := by
  refine ⟨k.os.trans h.os, k.tape.trans h.tape, k.output.trans h.output, Nat.le_trans h.size k.size, fun i hi h1 h2 h3 => ?_, ?_⟩
  · refine (k.block i (Nat.lt_of_lt_of_le hi h.size) h1 h2 ?_).trans (h.block i hi h1 h2 h3)
    rcases h.own with e | ⟨g, e, hg⟩
    · rw [e]; exact h3
    · rw [e]; intro e2; injection e2 with e2; omega
  · rcases k.own with e | ⟨g, e, hg⟩
    · rw [e]; exact h.own
    · exact .inr ⟨g, e, Nat.le_trans h.size hg⟩
theorem Moved.step {r : Nat} {w w' : World} (h : Moved r w w') (m : Nat) (v : Value) : Step r m v v w w' :=
  ⟨h.os, h.tape, h.output, Nat.le_of_eq h.size.symm, fun k _ hk _ _ => h.block k hk, .inl rfl⟩
theorem Step.below {w w' : World} (h : Below w.heap.size w w') (r m : Nat) (v : Value) : Step r m v v w w' :=
  ⟨h.os, h.tape, h.output, h.size, fun k hk _ _ _ => h.block k hk, .inl rfl⟩
theorem grown_of_moved {r : Nat} {w w' : World} (h : Moved r w w') : w.grownBy w' (some r) := ⟨h.os, h.tape, h.output, Nat.le_of_eq h.size.symm, fun k _ hk => h.block k (fun e => hk (by rw [e]))⟩
theorem own_ne {w : World} {r e size n : Nat} {v : Value} {xs : List Value} (h : w.ownsRow (r + 1) e size v n xs) : v.ownBlock = none ∨ v.ownBlock ≠ some r := by
  cases hv : v.ownBlock with
  | none => exact .inl rfl
  | some g => refine .inr (fun e => ?_); injection e with e; have := (h.lt g hv).1; omega
theorem Rdr.moved {s : List UInt8} {r m b : Nat} {w w' : World} {σ : Ent.RS} {v : Value} (h : Rdr s r m b w σ v) (hM : Moved r w w') {l : List UInt8} (hA : At s r w' l) {b' : Nat} (hb : l.length + b' ≤ σ.rest.length + b) :
    Rdr s r m b' w' (σ.at l) v := by
  obtain ⟨n, h1, h2⟩ := h.names
  obtain ⟨fl, h3, h4⟩ := h.notes
  refine ⟨hA, (hM.cell 2 (by decide)).trans h.kind, (hM.frozen 2).trans h.kfree, (hM.cell 3 (by decide)).trans h.mcell, (hM.cell 4 (by decide)).trans h.ncell, (hM.frozen 4).trans h.nfree, ⟨n, ?_, ?_⟩, ⟨fl, ?_, h4⟩, h.lt⟩
  · show n + σ.notes.length + l.length + b' ≤ s.length
    omega
  · exact h2.kept (hM.block m (Nat.ne_of_lt h.lt))
  · exact h3.kept (grown_of_moved hM) (own_ne h3)
theorem At.below {s : List UInt8} {r : Nat} {w w' : World} {l : List UInt8} (h : At s r w l) (hb : Below w.heap.size w w') : At s r w' l :=
  ⟨(hb.cell (p := ⟨r, 0, none⟩) h.lt).trans h.text, (let ⟨k, h1, h2, h3⟩ := h.place; ⟨k, h1, h2, (hb.cell (p := ⟨r, 1, none⟩) h.lt).trans h3⟩), (hb.frozen (p := ⟨r, 1, none⟩) h.lt).trans h.free, Nat.lt_of_lt_of_le h.lt hb.size⟩
theorem Rdr.below {s : List UInt8} {r m b : Nat} {w w' : World} {σ : Ent.RS} {v : Value} (h : Rdr s r m b w σ v) (hb : Below w.heap.size w w') : Rdr s r m b w' σ v := by
  obtain ⟨n, h1, h2⟩ := h.names
  obtain ⟨fl, h3, h4⟩ := h.notes
  have hlt := h.at'.lt
  exact ⟨h.at'.below hb, (hb.cell (p := ⟨r, 2, none⟩) hlt).trans h.kind, (hb.frozen (p := ⟨r, 2, none⟩) hlt).trans h.kfree, (hb.cell (p := ⟨r, 3, none⟩) hlt).trans h.mcell, (hb.cell (p := ⟨r, 4, none⟩) hlt).trans h.ncell, (hb.frozen (p := ⟨r, 4, none⟩) hlt).trans h.nfree,
    ⟨n, h1, h2.kept (hb.block m h2.lt)⟩, ⟨fl, own_below h3 hb, h4⟩, h.lt⟩
theorem Rdr.mono {s : List UInt8} {r m b b' : Nat} {w : World} {σ : Ent.RS} {v : Value} (h : Rdr s r m b w σ v) (hb : b' ≤ b) : Rdr s r m b' w σ v :=
  ⟨h.at', h.kind, h.kfree, h.mcell, h.ncell, h.nfree, let ⟨n, h1, h2⟩ := h.names; ⟨n, by omega, h2⟩, h.notes, h.lt⟩
end Go.Proofs.YtibinlpbcoihoaaGreatDoor
namespace Go.Proofs.YtibinlpbcoihoaaGreatDoor
open Go.RowKit

theorem info_parts {P : Program} {e : TypeId} {z : Value} {n b : Nat} (h : (P.info? e).map (fun i => (i.zero, i.size, i.bytes)) = some (some z, n, b)) : ∃ i, P.info? e = some i ∧ i.zero = some z ∧ i.size = n ∧ i.bytes = b := by
  cases hi : P.info? e with
  | none => rw [hi] at h; cases h
  | some i => rw [hi] at h; injection h with h; injection h with h1 h2; injection h2 with h2 h3; exact ⟨i, rfl, h1, h2, h3⟩

theorem grown_cell {w w' : World} {row : Option Nat} {r : Nat} (hg : w.grownBy w' row) (hr : r < w.heap.size) (hne : row ≠ some r) (i : Nat) : w'.cell? ⟨r, i, none⟩ = w.cell? ⟨r, i, none⟩ :=
  World.cell?_of_block (hg.block r hr (fun e => hne e.symm))
theorem grown_frozen {w w' : World} {row : Option Nat} {r : Nat} (hg : w.grownBy w' row) (hr : r < w.heap.size) (hne : row ≠ some r) (i : Nat) : w'.frozen? ⟨r, i, none⟩ = w.frozen? ⟨r, i, none⟩ :=
  World.frozen?_of_block (hg.block r hr (fun e => hne e.symm))

theorem grown_set (w : World) (r i : Nat) (v : Value) : w.grownBy (w.setCell ⟨r, i, none⟩ v) (some r) :=
  ⟨rfl, rfl, rfl, by simp [World.setCell], fun k _ hk => Below.heap_setCell _ _ _ _ (fun e => hk (by rw [e]))⟩
end Go.Proofs.YtibinlpbcoihoaaGreatDoor
namespace Go.Proofs.YtibinlpbcoihoaaGreatDoor
open Go.RowKit

theorem Rdr.away {s : List UInt8} {r m b : Nat} {w : World} {σ : Ent.RS} {v : Value} (h : Rdr s r m b w σ v) {g : Nat} (hg : w.heap.size ≤ g) : g ≠ r ∧ g ≠ m ∧ v.ownBlock ≠ some g := by
  have h1 := h.at'.lt
  obtain ⟨n, _, h2⟩ := h.names
  have h3 := h2.lt
  obtain ⟨fl, h4, _⟩ := h.notes
  refine ⟨by omega, by omega, fun e => ?_⟩
  have := (h4.lt g e).2
  omega
/-- what was made behind the reader's back stays -/
theorem Step.kept {s : List UInt8} {r m b : Nat} {w W w' : World} {σ : Ent.RS} {v v' : Value} (h : Rdr s r m b w σ v) (hS : Step r m v v' W w') {g : Nat} (hg : w.heap.size ≤ g) (hW : g < W.heap.size) (i : Nat) : w'.cell? ⟨g, i, none⟩ = W.cell? ⟨g, i, none⟩ := by
  obtain ⟨h1, h2, h3⟩ := h.away hg
  exact World.cell?_of_block (hS.block g hW h1 h2 h3)
theorem below_new (w : World) (o : Obj) : Below w.heap.size w (w.alloc o) := (Below.refl w.heap.size w).alloc (Nat.le_refl _) o

end Go.Proofs.YtibinlpbcoihoaaGreatDoor
namespace Go.Proofs.YtibinlpbcoihoaaGreatDoor
open Go.RowKit

namespace Ent
/-- what names stand for is short -/
def NamesOk (σ : RS) : Prop := ∀ x t, σ.names x = some t → t.length ≤ 1000
end Ent
end Go.Proofs.YtibinlpbcoihoaaGreatDoor
namespace Go.Proofs.YtibinlpbcoihoaaGreatDoor
open Go.RowKit

/-- the three results of an entry, in memory -/
structure Res3 (w : World) (g : Nat) (k y : List UInt8) (vf : Value) (is : Bool) (e : Int) : Prop where
  k : w.cell? ⟨g, 0, none⟩ = some (.string ⟨k.toArray⟩)
  y : w.cell? ⟨g, 1, none⟩ = some (.string ⟨y.toArray⟩)
  vf : w.cell? ⟨g, 2, none⟩ = some vf
  is : w.cell? ⟨g + 1, 0, none⟩ = some (.bool is)
  e : w.cell? ⟨g + 2, 0, none⟩ = some (.int .i64 e)
  fk : ∀ i, i < 3 → w.frozen? ⟨g, i, none⟩ = false
  fi : w.frozen? ⟨g + 1, 0, none⟩ = false
  fe : w.frozen? ⟨g + 2, 0, none⟩ = false
  lt : g + 2 < w.heap.size

/-- all three written -/
def put3 (w : World) (g : Nat) (k y : List UInt8) (vf : Value) (is : Bool) (e : Int) : World :=
  ((((w.setCell ⟨g, 0, none⟩ (.string ⟨k.toArray⟩)).setCell ⟨g, 1, none⟩ (.string ⟨y.toArray⟩)).setCell ⟨g, 2, none⟩ vf).setCell ⟨g + 1, 0, none⟩ (.bool is)).setCell ⟨g + 2, 0, none⟩ (.int .i64 e)
theorem Res3.put {w : World} {g : Nat} {k y : List UInt8} {vf : Value} {is : Bool} {e : Int} (h : Res3 w g k y vf is e) (k' y' : List UInt8) (vf' : Value) (is' : Bool) (e' : Int) : Res3 (put3 w g k' y' vf' is' e') g k' y' vf' is' e' := by
  have ot : ∀ (W : World) (a b : Addr) (v : Value), a ≠ b → (W.setCell b v).cell? a = W.cell? a := fun W a b v hne => World.cell?_setCell_other _ _ _ _ hne.symm
  unfold put3
  refine ⟨?_, ?_, ?_, ?_, ?_, fun i hi => by simpa using h.fk i hi, by simpa using h.fi, by simpa using h.fe, by simpa using h.lt⟩
  · rw [ot _ _ _ _ (by simp), ot _ _ _ _ (by simp), ot _ _ _ _ (by simp), ot _ _ _ _ (by simp)]
    exact World.cell?_setCell_same _ _ _ h.k
  · rw [ot _ _ _ _ (by simp), ot _ _ _ _ (by simp), ot _ _ _ _ (by simp)]
    exact World.cell?_setCell_same _ _ _ ((ot _ _ _ _ (by simp)).trans h.y)
  · rw [ot _ _ _ _ (by simp), ot _ _ _ _ (by simp)]
    exact World.cell?_setCell_same _ _ _ (((ot _ _ _ _ (by simp)).trans (ot _ _ _ _ (by simp))).trans h.vf)
  · rw [ot _ _ _ _ (by simp)]
    exact World.cell?_setCell_same _ _ _ ((((ot _ _ _ _ (by simp)).trans (ot _ _ _ _ (by simp))).trans (ot _ _ _ _ (by simp))).trans h.is)
  · exact World.cell?_setCell_same _ _ _ (((((ot _ _ _ _ (by simp)).trans (ot _ _ _ _ (by simp))).trans (ot _ _ _ _ (by simp))).trans (ot _ _ _ _ (by simp))).trans h.e)
theorem Res3.below {w w' : World} {g : Nat} {k y : List UInt8} {vf : Value} {is : Bool} {e : Int} (h : Res3 w g k y vf is e) (hb : Below w.heap.size w w') : Res3 w' g k y vf is e := by
  have hl := h.lt
  exact ⟨(hb.cell (p := ⟨g, 0, none⟩) (by show g < _; omega)).trans h.k, (hb.cell (p := ⟨g, 1, none⟩) (by show g < _; omega)).trans h.y, (hb.cell (p := ⟨g, 2, none⟩) (by show g < _; omega)).trans h.vf,
    (hb.cell (p := ⟨g + 1, 0, none⟩) (by show g + 1 < _; omega)).trans h.is, (hb.cell (p := ⟨g + 2, 0, none⟩) (by show g + 2 < _; omega)).trans h.e,
    fun i hi => (hb.frozen (p := ⟨g, i, none⟩) (by show g < _; omega)).trans (h.fk i hi), (hb.frozen (p := ⟨g + 1, 0, none⟩) (by show g + 1 < _; omega)).trans h.fi, (hb.frozen (p := ⟨g + 2, 0, none⟩) (by show g + 2 < _; omega)).trans h.fe, Nat.lt_of_lt_of_le hl hb.size⟩
end Go.Proofs.YtibinlpbcoihoaaGreatDoor
