/- The plain model of package entry (layer 15). Plain Lean, no program in sight. Support: small facts on strings, results, owned rows; 'append(xs, x)' of one new element. No program in sight. Slices of structs, read as lists: rows of elements of some cells each. No program in sight. The walks of package entry, first part: signs, small letters, marks. A row of bytes of the call's own: '[]byte(s)', written, and back. No program in sight. -/
import Derived.Lib.Strings
import Derived.Lib.Case
import Derived.WalkKit
import Derived.WalkSpells
import Derived.WalkLawsBesides
import Derived.Lib.Hide
import Derived.Maps.AppendAt
import Derived.Deep.AppendLies
import Derived.Deep.DeepCutAuto
import Derived.Deep.CutBlock
import Derived.Test.YtibinlpbcoihoaaGreatDoorChecked
import Derived.Test.YtibinlpbcoihoaaGreatDoorShelf
import Derived.Laws.IdiomStrings
set_option linter.unusedSimpArgs false
set_option linter.unusedVariables false
namespace Go.Proofs.YtibinlpbcoihoaaGreatDoor.Ent

/-- a byte of a mark -/
def sign (c : UInt8) : Bool := (decide (97 ≤ c.toNat) && decide (c.toNat ≤ 122)) || (decide (65 ≤ c.toNat) && decide (c.toNat ≤ 90)) || (decide (48 ≤ c.toNat) && decide (c.toNat ≤ 57)) || (c == 45 || c == 46 || c == 95 || c == 58)
def low (c : UInt8) : UInt8 := if 65 ≤ c.toNat ∧ c.toNat ≤ 90 then c + 32 else c
def small (l : List UInt8) : List UInt8 := l.map low
def marked (l : List UInt8) : Bool := l.all sign && l != []
end Go.Proofs.YtibinlpbcoihoaaGreatDoor.Ent
namespace Go.Proofs.YtibinlpbcoihoaaGreatDoor
open Go.RowKit

/-! ### results -/
theorem ret_int {k : IntKind} {a b : Int} (h : a = b) : Ending.returned (.int k a) = .returned (.int k b) := by rw [h]
theorem ret_str {a b : List UInt8} (h : a = b) : Ending.returned (.string ⟨a.toArray⟩) = .returned (.string ⟨b.toArray⟩) := by rw [h]
theorem ret_bool {a b : Bool} (h : a = b) : Ending.returned (.bool a) = .returned (.bool b) := by rw [h]

/-! ### strings -/
theorem str_of (s : ByteArray) : ∃ l : List UInt8, s = ⟨l.toArray⟩ := ⟨s.data.toList, by cases s; simp⟩
theorem size_mk (l : List UInt8) : (⟨l.toArray⟩ : ByteArray).size = l.length := by simp [ByteArray.size]
theorem append_data (a b : List UInt8) : (⟨a.toArray⟩ : ByteArray) ++ ⟨b.toArray⟩ = ⟨(a ++ b).toArray⟩ := by
  apply ByteArray.ext
  simp
theorem extract_any (l : List UInt8) (a b : Nat) : (⟨l.toArray⟩ : ByteArray).extract a b = ⟨((l.drop a).take (b - a)).toArray⟩ := by
  apply ByteArray.ext
  simp
theorem extract_end (l : List UInt8) (a : Nat) : (⟨l.toArray⟩ : ByteArray).extract a l.length = ⟨(l.drop a).toArray⟩ := by
  apply ByteArray.ext
  simp [List.take_of_length_le]
theorem byte_at (l : List UInt8) (k : Nat) (x : UInt8) (hx : l[k]? = some x) : ∀ h, (⟨l.toArray⟩ : ByteArray)[k]'h = x := by
  intro h
  obtain ⟨h', e⟩ := List.getElem?_eq_some_iff.1 hx
  exact e
theorem encode_ascii (r : Int) (h0 : 0 ≤ r) (h1 : r < 128) : Utf8.encode r = ⟨#[UInt8.ofNat r.toNat]⟩ := by
  have hv : Utf8.valid r = true := by unfold Utf8.valid; simp; omega
  unfold Utf8.encode
  simp only [hv, if_true]
  rw [if_pos (by omega)]
theorem drop_get (s : ByteArray) (k : Nat) (h : k < s.size) : s.data.toList.drop k = s[k] :: s.data.toList.drop (k + 1) := by
  rw [List.drop_eq_getElem_cons (by simpa using h)]; rfl
theorem drop_end (s : ByteArray) (k : Nat) (h : s.size ≤ k) : s.data.toList.drop k = [] := List.drop_of_length_le (by simpa using h)
/-- the length of a string in a slot: for a measure -/
def strLen : Value → Nat | .string s => s.size | _ => 0

/-- 'string([]byte{c})' -/
theorem run_conv_one {P : Program} (src dst e : TypeId) (hs : P.underlying src = some (.slice e)) (he : P.underlying e = some (.int .u8)) (hd : P.underlying dst = some .string) (W : World) (n : Int) :
    (convert src dst (.slice (some ⟨W.heap.size, 0, none⟩) 1 1)).run P (W.alloc (.cells #[.int .u8 n] e)) = .ok (.string ⟨[UInt8.ofNat n.toNat].toArray⟩) (W.alloc (.cells #[.int .u8 n] e)) := by
  rw [run_convert_bytes_arg (W.alloc (.cells #[.int .u8 n] e)) src e hs he W.heap.size 0 1 1 [n] rfl (fun i hi => by
    have h0 : i = 0 := by omega
    subst h0
    rw [cell_of_row _ _ _ _ _ _ (heap_alloc_new W _)]
    rfl) dst hd]
  rfl

/-! ### worlds -/
theorem bseq {w w1 w2 : World} (b1 : Below w.heap.size w w1) (b2 : Below w1.heap.size w1 w2) : Below w.heap.size w w2 := b1.trans (b2.mono b1.size)
theorem grown_of_below {w w' : World} (hb : Below w.heap.size w w') (row : Option Nat) : w.grownBy w' row := ⟨hb.os, hb.tape, hb.output, hb.size, fun k hk _ => hb.block k hk⟩
theorem grown_trans {a b c : World} {row : Option Nat} (h : a.grownBy b row) (k : b.grownBy c row) : a.grownBy c row :=
  ⟨k.os.trans h.os, k.tape.trans h.tape, k.output.trans h.output, Nat.le_trans h.size k.size, fun i hi hne => (k.block i (Nat.lt_of_lt_of_le hi h.size) hne).trans (h.block i hi hne)⟩
theorem own_below {w w' : World} {base e size n : Nat} {v : Value} {xs : List Value} (h : w.ownsRow base e size v n xs) (hb : Below w.heap.size w w') : w'.ownsRow base e size v n xs :=
  h.kept (grown_of_below hb none) (by cases hv : v.ownBlock <;> simp)
/-- what an append to a row of the call's own (from base on) leaves of the world below -/
theorem below_grown {B base e size n : Nat} {a w w' : World} {v : Value} {xs : List Value} (h : Below B a w) (hg : w.grownBy w' v.ownBlock) (hown : w.ownsRow base e size v n xs) (hB : B ≤ w.heap.size) (hb : B ≤ base) : Below B a w' :=
  h.grown hg hB (fun k hk => Nat.le_trans hb (hown.lt k hk).1)
/-- a slice that the call has just built -/
theorem own_built (w : World) (base e size n : Nat) (cs : List Value) (hb : base ≤ w.heap.size) (hl : cs.length = n * size) (hm : n ≤ maxLen) :
    (w.alloc (.cells cs.toArray e)).ownsRow base e size (.slice (some ⟨w.heap.size, 0, none⟩) n n) n cs :=
  ⟨hl, .inr ⟨w.heap.size, n, _, rfl, hb, heap_alloc_new w _, Nat.le_refl _, hm, by simpa using hl, by rw [List.take_of_length_le (by simp [hl])]⟩⟩

/-! ### 'append(xs, x)': the element has just been built -/
theorem wpList_append1 {P : Program} {ops : Array Oper} {rest : List Oper} {o : Oper} {a : Act} {w1 : World} {Q : Exit → Act → World → Prop} (hgd : o.guard = none) (s x : Operand) (t : TypeId)
    (ho : o.op = .call { callee := .builtin .append, args := #[s, x], argTypes := #[t, t] })
    (base : Nat) (e : TypeId) (i : TypeInfo) (z : Value) (size bytes : Nat) (ht : P.underlying t = some (.slice e)) (hi : P.info? e = some i) (hz : i.zero = some z)
    (hsize : i.size = size) (hby : i.bytes = bytes) (hzs : z.cells.size = size) (hsz : 0 < size)
    (v : Value) (n : Nat) (xs : List Value) (hown : w1.ownsRow base e size v n xs) (hs : a.eval s = v)
    (news : List Value) {g : Nat} (hx : a.eval x = .slice (some ⟨g, 0, none⟩) 1 1) (hg : g = w1.heap.size) (hl : news.length = size) (h1 : ∀ u ∈ news, u.oneCell' = true)
    (h63 : n + 1 ≤ maxLen) (hbytes : (n + 1) * bytes ≤ 140737488355328) (hbase : base ≤ w1.heap.size)
    (h : ∀ v' w', w'.ownsRow base e size v' (n + 1) (xs ++ news) → w1.grownBy w' v.ownBlock → (v'.ownBlock = v.ownBlock ∨ v'.ownBlock = some (w1.heap.size + 1)) → wpList P ops Q rest (a.put o.dst v') w') :
    wpList P ops Q (o :: rest) a (w1.alloc (.cells news.toArray e)) := by
  subst hg
  refine wpList_plain hgd fun _ hK => ?_
  obtain ⟨v', w', hr, h2, h3, _, h4⟩ := run_append_own_at (P := P) (w1.alloc (.cells news.toArray e)) base t o.type e i z size bytes ht hi hz hsize hby hzs hsz v n xs (hown.alloc _) ⟨w1.heap.size, 0, none⟩ 1 1 news
    (by rw [hl]; simp) (fun j u hu => by
      have hadd : (⟨w1.heap.size, 0, none⟩ : Addr).add j = ⟨w1.heap.size, j, none⟩ := by unfold Addr.add; split <;> simp_all
      rw [hadd, cell_of_row _ _ j _ _ _ (heap_alloc_new w1 _)]
      simpa using hu) h1 h63 hbytes (by simp; omega)
  unfold Oper.wp execOp
  simp only [ho, resolve, invoke, builtin, Sem.run_bind, Sem.run_pure, Result.andThen_ok, List.map_toArray, List.map_cons, List.map_nil, hs, hx, hr]
  exact hK _ _ (h v' w' h2 (grown_trans (World.grownBy_alloc w1 _ _) h3) (by simpa using h4))
end Go.Proofs.YtibinlpbcoihoaaGreatDoor
namespace Go.Proofs.YtibinlpbcoihoaaGreatDoor
open Go.RowKit
variable {α : Type}

/-- a row of elements, one behind the other -/
def RepRow (R : α → List Value → Prop) : List α → List Value → Prop
  | [], fl => fl = []
  | x :: xs, fl => ∃ vs rest, fl = vs ++ rest ∧ R x vs ∧ RepRow R xs rest
theorem RepRow.snoc {R : α → List Value → Prop} {x : α} {vs : List Value} (h : R x vs) : ∀ {xs : List α} {fl : List Value}, RepRow R xs fl → RepRow R (xs ++ [x]) (fl ++ vs)
  | [], fl, hr => by
    have : fl = [] := hr
    subst this
    exact ⟨vs, [], by simp, h, rfl⟩
  | y :: ys, fl, hr => by
    obtain ⟨us, rest, rfl, h1, h2⟩ := hr
    exact ⟨us, rest ++ vs, by simp, h1, RepRow.snoc h h2⟩
theorem RepRow.imp {R R' : α → List Value → Prop} : ∀ {xs : List α} {fl : List Value}, RepRow R xs fl → (∀ x vs, x ∈ xs → R x vs → R' x vs) → RepRow R' xs fl
  | [], fl, hr, _ => hr
  | y :: ys, fl, hr, h => by
    obtain ⟨us, rest, rfl, h1, h2⟩ := hr
    exact ⟨us, rest, rfl, h y us (by simp) h1, h2.imp (fun x vs hx => h x vs (by simp [hx]))⟩
theorem RepRow.get {R : α → List Value → Prop} {size : Nat} (hsz : ∀ x vs, R x vs → vs.length = size) : ∀ {xs : List α} {fl : List Value}, RepRow R xs fl → ∀ {i : Nat} {x : α}, xs[i]? = some x →
    ∃ vs, R x vs ∧ ∀ j u, vs[j]? = some u → fl[i * size + j]? = some u
  | [], _, _, i, x, h => by simp at h
  | y :: ys, fl, hr, 0, x, h => by
    obtain ⟨us, rest, rfl, h1, h2⟩ := hr
    simp at h; subst h
    refine ⟨us, h1, fun j u hj => ?_⟩
    have := (List.getElem?_eq_some_iff.1 hj).1
    rw [Nat.zero_mul, Nat.zero_add, List.getElem?_append_left this]
    exact hj
  | y :: ys, fl, hr, i + 1, x, h => by
    obtain ⟨us, rest, rfl, h1, h2⟩ := hr
    obtain ⟨vs, h3, h4⟩ := RepRow.get hsz h2 (i := i) (x := x) (by simpa using h)
    refine ⟨vs, h3, fun j u hj => ?_⟩
    have hl := hsz _ _ h1
    rw [List.getElem?_append_right (by rw [hl, Nat.succ_mul]; omega), hl, show (i + 1) * size + j - size = i * size + j by rw [Nat.succ_mul]; omega]
    exact h4 j u hj
theorem RepRow.length {R : α → List Value → Prop} {size : Nat} (hsz : ∀ x vs, R x vs → vs.length = size) : ∀ {xs : List α} {fl : List Value}, RepRow R xs fl → fl.length = xs.length * size
  | [], fl, hr => by have : fl = [] := hr; subst this; simp
  | y :: ys, fl, hr => by
    obtain ⟨us, rest, rfl, h1, h2⟩ := hr
    rw [List.length_append, hsz _ _ h1, h2.length hsz, List.length_cons, Nat.succ_mul]; omega

/-- a slice, read as a list; its cells lie in blocks that are S -/
def SliceIn (S : Nat → Prop) (size : Nat) (R : α → List Value → Prop) (w : World) (v : Value) (xs : List α) : Prop :=
  ∃ p cap, v = .slice p xs.length cap ∧ xs.length ≤ cap ∧ cap ≤ maxLen ∧
    ∀ i x, xs[i]? = some x → ∃ b off vs, p = some ⟨b, off, none⟩ ∧ S b ∧ b < w.heap.size ∧ R x vs ∧ ∀ j u, vs[j]? = some u → w.cell? ⟨b, off + (i * size + j), none⟩ = some u
theorem SliceIn.kept {S S' : Nat → Prop} {size : Nat} {R R' : α → List Value → Prop} {w w' : World} {v : Value} {xs : List α} (h : SliceIn S size R w v xs)
    (hs : ∀ b, S b → S' b) (hz : w.heap.size ≤ w'.heap.size) (hb : ∀ b, S b → b < w.heap.size → w'.heap[b]? = w.heap[b]?) (hR : ∀ x vs, x ∈ xs → R x vs → R' x vs) : SliceIn S' size R' w' v xs := by
  obtain ⟨p, cap, hv, h1, h2, h3⟩ := h
  refine ⟨p, cap, hv, h1, h2, fun i x hi => ?_⟩
  obtain ⟨b, off, vs, hp, hS, hlt, hr, hc⟩ := h3 i x hi
  exact ⟨b, off, vs, hp, hs b hS, Nat.lt_of_lt_of_le hlt hz, hR x vs (List.mem_of_getElem? hi) hr, fun j u hj => (World.cell?_of_block (hb b hS hlt)).trans (hc j u hj)⟩
theorem SliceIn.below {S : Nat → Prop} {size : Nat} {R R' : α → List Value → Prop} {w w' : World} {v : Value} {xs : List α} (h : SliceIn S size R w v xs) (hb : Below w.heap.size w w')
    (hR : ∀ x vs, x ∈ xs → R x vs → R' x vs) : SliceIn S size R' w' v xs :=
  h.kept (fun _ h => h) hb.size (fun b _ hlt => hb.block b hlt) hR
theorem SliceIn.nil (S : Nat → Prop) (size : Nat) (R : α → List Value → Prop) (w : World) : SliceIn S size R w (.slice none 0 0) [] := ⟨none, 0, rfl, Nat.le_refl _, Nat.zero_le _, fun i x h => by simp at h⟩
/-- a row of the call's own, as a slice -/
theorem SliceIn.own {S : Nat → Prop} {size base e n : Nat} {R : α → List Value → Prop} {w : World} {v : Value} {fl : List Value} {xs : List α} (h : w.ownsRow base e size v n fl) (hr : RepRow R xs fl)
    (hsz : ∀ x vs, R x vs → vs.length = size) (hn : n = xs.length) (hS : ∀ b, v.ownBlock = some b → S b) : SliceIn S size R w v xs := by
  subst hn
  rcases h.2 with ⟨rfl, h0⟩ | ⟨g, cap, cur, rfl, hb, hg, hle, hm, hcs, hcur⟩
  · refine ⟨none, 0, by rw [h0], by omega, Nat.zero_le _, fun i x hi => ?_⟩
    have := (List.getElem?_eq_some_iff.1 hi).1
    omega
  · refine ⟨some ⟨g, 0, none⟩, cap, rfl, hle, hm, fun i x hi => ?_⟩
    obtain ⟨vs, hrx, hvs⟩ := hr.get hsz hi
    refine ⟨g, 0, vs, rfl, hS g rfl, (h.lt g rfl).2, hrx, fun j u hj => ?_⟩
    have h1 := hvs j u hj
    have h2 := (List.getElem?_eq_some_iff.1 h1).1
    rw [h.1] at h2
    rw [Nat.zero_add, World.ownsRow.cellAt h _ h2]
    exact h1
end Go.Proofs.YtibinlpbcoihoaaGreatDoor
namespace Go.Proofs.YtibinlpbcoihoaaGreatDoor
open Go.RowKit

/-- what holds of all 256 bytes, looked through -/
theorem byte_all (p : UInt8 → Bool) (h : (List.range 256).all (fun n => p (UInt8.ofNat n)) = true) (c : UInt8) : p c = true := by
  have := List.all_eq_true.1 h c.toNat (List.mem_range.2 c.toNat_lt)
  simpa using this
theorem index_sign (c : UInt8) (h : ¬ (97 ≤ c.toNat ∧ c.toNat ≤ 122)) (h2 : ¬ (65 ≤ c.toNat ∧ c.toNat ≤ 90)) (h3 : ¬ (48 ≤ c.toNat ∧ c.toNat ≤ 57)) : decide (0 ≤ Lib.indexByte [45, 46, 95, 58] c) = Ent.sign c := by
  have := byte_all (fun c => (decide (97 ≤ c.toNat ∧ c.toNat ≤ 122)) || (decide (65 ≤ c.toNat ∧ c.toNat ≤ 90)) || decide (48 ≤ c.toNat ∧ c.toNat ≤ 57) || (decide (0 ≤ Lib.indexByte [45, 46, 95, 58] c) == Ent.sign c)) (by decide +kernel) c
  simpa [h, h2, h3] using this
theorem toU8 (c : UInt8) : ((c.toNat : Int)).toNat.toUInt8 = c := by simp

set_option maxHeartbeats 800000 in
theorem entry_sign (c : UInt8) (w : World) :
    Calls Tryz.prog 304 #[.int .u8 (c.toNat : Int)] w fun e w' => e = .returned (.bool (Ent.sign c)) ∧ w = w' := by
  have hc := c.toNat_lt
  have hlow := toU8 c
  have hi := index_sign c
  obtain ⟨n, hn⟩ : ∃ n, c.toNat = n := ⟨_, rfl⟩
  have hs : (97 ≤ n ∧ n ≤ 122) ∨ (65 ≤ n ∧ n ≤ 90) ∨ (48 ≤ n ∧ n ≤ 57) → Ent.sign c = true := by
    intro h
    unfold Ent.sign
    rcases h with h | h | h <;> simp [hn, h.1, h.2]
  rw [hn] at hi hlow hc ⊢
  have Hi := Lib.hid hi; have Hs := Lib.hid hs; have Hlow := Lib.hid hlow
  clear hi hs hlow hn
  have hz : (n < 48) ∨ (48 ≤ n ∧ n ≤ 57) ∨ (58 ≤ n ∧ n ≤ 64) ∨ (65 ≤ n ∧ n ≤ 90) ∨ (91 ≤ n ∧ n ≤ 96) ∨ (97 ≤ n ∧ n ≤ 122) ∨ (123 ≤ n) := by omega
  rcases hz with hz | hz | hz | hz | hz | hz | hz
  all_goals
    go_enter Tryz.func304, Tryz.ntmps304
    go_wp2_with (go_at_call 60; refine (Tryz.strings_IndexByte _ _ _).mono ?_; rintro e w' ⟨rfl, rfl⟩; rw [Hlow.out])
    go_ret
    first
      | exact ⟨ret_bool (Hs.out (by omega)).symm, rfl⟩
      | (refine ⟨ret_bool ?_, rfl⟩
         rw [← Hi.out (by omega) (by omega) (by omega)]
         try rw [show decide ((n : Int) ≤ 122) = false by simp; omega]
         try rw [show decide ((n : Int) ≤ 90) = false by simp; omega]
         try rw [show decide ((n : Int) ≤ 57) = false by simp; omega]
         try simp only [Bool.false_or])

end Go.Proofs.YtibinlpbcoihoaaGreatDoor
namespace Go.Proofs.YtibinlpbcoihoaaGreatDoor
open Go.RowKit

/-- a row of bytes that may be written -/
structure ByteRow (w : World) (g : Nat) (l : List UInt8) : Prop where
  lt : g < w.heap.size
  cell : ∀ (j : Nat) (x : UInt8), l[j]? = some x → w.cell? ⟨g, j, none⟩ = some (.int .u8 (x.toNat : Int))
  free : ∀ j : Nat, j < l.length → w.frozen? ⟨g, j, none⟩ = false
theorem ByteRow.set {w : World} {g : Nat} {l : List UInt8} (h : ByteRow w g l) (k : Nat) (hk : k < l.length) (c : UInt8) : ByteRow (w.setCell ⟨g, k, none⟩ (.int .u8 (c.toNat : Int))) g (l.set k c) := by
  refine ⟨by simpa using h.lt, fun j x hj => ?_, fun j hj => by simpa using h.free j (by simpa using hj)⟩
  by_cases hjk : j = k
  · subst hjk
    rw [List.getElem?_set_self hk] at hj
    cases hj
    exact World.cell?_setCell_same _ _ _ (h.cell j _ (List.getElem?_eq_getElem hk))
  · rw [List.getElem?_set_ne (fun e => hjk e.symm)] at hj
    rw [World.cell?_setCell_other _ _ _ _ (fun e => hjk (by cases e; rfl))]
    exact h.cell j x hj
theorem ByteRow.drew {w : World} {g : Nat} {l : List UInt8} (h : ByteRow w g l) : ByteRow w.drew g l := ⟨h.lt, h.cell, h.free⟩
theorem ByteRow.below {w w' : World} {g : Nat} {l : List UInt8} (h : ByteRow w g l) (b : Below w.heap.size w w') : ByteRow w' g l :=
  ⟨Nat.lt_of_lt_of_le h.lt b.size, fun j x hj => (b.cell (p := ⟨g, j, none⟩) h.lt).trans (h.cell j x hj), fun j hj => (b.frozen (p := ⟨g, j, none⟩) h.lt).trans (h.free j hj)⟩
/-- what '[]byte(s)' makes -/
theorem byteRow_new (w : World) (l : List UInt8) (cap : Nat) (e : TypeId) (hc : l.length ≤ cap) :
    ByteRow (w.drew.alloc (.cells (bytesRow ⟨l.toArray⟩ cap) e ((bytesRow ⟨l.toArray⟩ cap).size, (bytesRow ⟨l.toArray⟩ cap).size + 1))) w.heap.size l := by
  have hg : (w.drew.alloc (.cells (bytesRow ⟨l.toArray⟩ cap) e ((bytesRow ⟨l.toArray⟩ cap).size, (bytesRow ⟨l.toArray⟩ cap).size + 1))).heap[w.heap.size]? = some (.cells (bytesRow ⟨l.toArray⟩ cap) e ((bytesRow ⟨l.toArray⟩ cap).size, (bytesRow ⟨l.toArray⟩ cap).size + 1)) := heap_alloc_new w.drew _
  refine ⟨by simp [World.alloc], fun j x hj => ?_, fun j hj => ?_⟩
  · rw [cell_of_row _ _ _ _ _ _ hg]
    obtain ⟨hj', e⟩ := List.getElem?_eq_some_iff.1 hj
    rw [bytesRow_at _ _ _ (by simpa using hj')]
    simp [e]
  · unfold World.frozen?
    rw [hg]
    have : (bytesRow ⟨l.toArray⟩ cap).size = cap := by simp [bytesRow, ByteArray.size]; omega
    simp [this]; omega
end Go.Proofs.YtibinlpbcoihoaaGreatDoor
