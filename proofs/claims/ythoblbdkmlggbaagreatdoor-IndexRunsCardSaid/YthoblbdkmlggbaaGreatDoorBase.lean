/- Support for the walks of a chapter: worlds, bytes, rows of the call's own. -/
import Derived.Test.YthoblbdkmlggbaaGreatDoorRep
import Derived.WalkKit
import Derived.Maps.OwnSet
set_option linter.unusedSimpArgs false
set_option linter.unusedVariables false
namespace Go.Proofs.YthoblbdkmlggbaaGreatDoor
open Go.RowKit
theorem lt_alloc (w : World) (o : Obj) : w.heap.size < (w.alloc o).heap.size := by
  show w.heap.size < (w.heap.push o).size
  rw [Array.size_push]; omega

theorem byte_all (p : UInt8 → Bool) (h : (List.range 256).all (fun n => p (UInt8.ofNat n)) = true) (c : UInt8) : p c = true := by
  have := List.all_eq_true.1 h c.toNat (List.mem_range.2 c.toNat_lt)
  simpa using this
theorem toU8 (c : UInt8) : ((c.toNat : Int)).toNat.toUInt8 = c := by simp

theorem info_parts {P : Program} {e : TypeId} {z : Value} {n b : Nat} (h : (P.info? e).map (fun i => (i.zero, i.size, i.bytes)) = some (some z, n, b)) : ∃ i, P.info? e = some i ∧ i.zero = some z ∧ i.size = n ∧ i.bytes = b := by
  cases hi : P.info? e with
  | none => rw [hi] at h; cases h
  | some i => rw [hi] at h; injection h with h; injection h with h1 h2; injection h2 with h2 h3; exact ⟨i, rfl, h1, h2, h3⟩

theorem grown_cell {w w' : World} {row : Option Nat} {r : Nat} (hg : w.grownBy w' row) (hr : r < w.heap.size) (hne : row ≠ some r) (i : Nat) : w'.cell? ⟨r, i, none⟩ = w.cell? ⟨r, i, none⟩ :=
  World.cell?_of_block (hg.block r hr (fun e => hne e.symm))
theorem below_new (w : World) (o : Obj) : Below w.heap.size w (w.alloc o) := (Below.refl w.heap.size w).alloc (Nat.le_refl _) o

theorem SliceIn.moved {α : Type} {S S' : Nat → Prop} {size : Nat} {R R' : α → List Value → Prop} {w w' : World} {v : Value} {xs : List α} (h : SliceIn S size R w v xs)
    (hs : ∀ b, S b → b < w.heap.size → S' b ∧ w'.heap[b]? = w.heap[b]?) (hz : w.heap.size ≤ w'.heap.size) (hR : ∀ x vs, x ∈ xs → R x vs → R' x vs) : SliceIn S' size R' w' v xs := by
  obtain ⟨p, cap, hv, h1, h2, h3⟩ := h
  refine ⟨p, cap, hv, h1, h2, fun i x hi => ?_⟩
  obtain ⟨b, off, vs, hp, hS, hlt, hr, hc⟩ := h3 i x hi
  exact ⟨b, off, vs, hp, (hs b hS hlt).1, Nat.lt_of_lt_of_le hlt hz, hR x vs (List.mem_of_getElem? hi) hr, fun j u hj => (World.cell?_of_block (hs b hS hlt).2).trans (hc j u hj)⟩
theorem u8_beq (c d : UInt8) : ((c.toNat : Int) == (d.toNat : Int)) = (c == d) := by
  rw [Bool.eq_iff_iff, beq_iff_eq, beq_iff_eq]
  constructor
  · intro h; exact UInt8.toNat_inj.1 (by omega)
  · intro h; rw [h]

theorem add_blk (a : Addr) (i : Nat) : (a.add i).block = a.block := by unfold Addr.add; split <;> rfl

theorem SliceIn.pre {α : Type} {S : Nat → Prop} {size : Nat} {R : α → List Value → Prop} {w : World} {p : Option Addr} {n cap : Nat} {xs : List α} (h : SliceIn S size R w (.slice p n cap) xs) (k : Nat) (hk : k ≤ xs.length) : SliceIn S size R w (.slice p k cap) (xs.take k) := by
  obtain ⟨p1, cap1, hv, h1, h2, h3⟩ := h
  injection hv with hp hn hc
  subst hp; subst hc
  have hlen : (xs.take k).length = k := by rw [List.length_take]; omega
  refine ⟨p, cap, by rw [hlen], by omega, h2, fun i x hi => ?_⟩
  have hik : i < k := by have := (List.getElem?_eq_some_iff.1 hi).1; omega
  rw [List.getElem?_take_of_lt hik] at hi
  exact h3 i x hi
theorem cut_textN (n : Nat) (s : List UInt8) : ∃ q : Nat, min (s.length : Int) (n : Int) = (q : Int) ∧ q ≤ s.length ∧ (q : Int) ≤ (s.length : Int) ∧ (⟨s.toArray⟩ : ByteArray).extract 0 q = ⟨(s.take n).toArray⟩ := by
  refine ⟨min s.length n, by omega, by omega, by omega, ?_⟩
  rw [extract_any]
  congr 2
  simp only [List.drop_zero, Nat.sub_zero]
  rcases Nat.le_total s.length n with h | h
  · rw [Nat.min_eq_left h, List.take_of_length_le (Nat.le_refl _), List.take_of_length_le h]
  · rw [Nat.min_eq_right h]
/-- a row of the call's own, read as a list; what an element reads as hangs on no memory -/
def OwnL {α : Type} (B : Nat) (t : TypeId) (n : Nat) (R : α → List Value → Prop) (W : World) (v : Value) (l : List α) : Prop := ∃ fl, W.ownsRow B t n v l.length fl ∧ RepRow R l fl
section
variable {α : Type} {B : Nat} {t : TypeId} {n : Nat} {R : α → List Value → Prop} {W W' : World} {v v' : Value} {l : List α}
theorem OwnL.below (h : OwnL B t n R W v l) (hb : Below W.heap.size W W') : OwnL B t n R W' v l := by
  obtain ⟨fl, h1, h2⟩ := h
  exact ⟨fl, own_below h1 hb, h2⟩
theorem OwnL.nil (B : Nat) (t : TypeId) (n : Nat) (R : α → List Value → Prop) (W : World) : OwnL B t n R W (.slice none 0 0) [] := ⟨[], ⟨by simp, .inl ⟨rfl, rfl⟩⟩, rfl⟩
theorem OwnL.made (B : Nat) (t : TypeId) (n : Nat) (R : α → List Value → Prop) (W : World) (h : B ≤ W.heap.size) : OwnL B t n R (W.alloc (.cells #[] t)) (.slice (some ⟨W.heap.size, 0, none⟩) 0 0) [] :=
  ⟨[], own_built W B t n 0 [] h (by simp) (by unfold maxLen; omega), rfl⟩
theorem OwnL.slice (h : OwnL B t n R W v l) (hsz : ∀ x vs, R x vs → vs.length = n) (S : Nat → Prop) (hS : ∀ b, B ≤ b → S b) : SliceIn S n R W v l := by
  obtain ⟨fl, h1, h2⟩ := h
  exact SliceIn.own h1 h2 hsz rfl (fun b hb => hS b (h1.lt b hb).1)
theorem OwnL.form (h : OwnL B t n R W v l) : ∃ p cap, v = .slice p l.length cap := by
  obtain ⟨fl, h1, _⟩ := h
  rcases h1.2 with ⟨h, h0⟩ | ⟨g, cap, cur, h, _⟩
  · exact ⟨none, 0, by rw [h, h0]⟩
  · exact ⟨_, _, h⟩
theorem OwnL.more {fl : List Value} {x : α} {vs : List Value} (h2 : RepRow R l fl) (hx : R x vs) (hown : W'.ownsRow B t n v' (l.length + 1) (fl ++ vs)) : OwnL B t n R W' v' (l ++ [x]) :=
  ⟨_, by rw [List.length_append]; exact hown, RepRow.snoc hx h2⟩
end
theorem SliceIn.below' {α : Type} {S : Nat → Prop} {size : Nat} {R : α → List Value → Prop} {w w' : World} {v : Value} {xs : List α} (h : SliceIn S size R w v xs) (hb : Below w.heap.size w w') : SliceIn S size R w' v xs := h.below hb (fun _ _ _ h => h)
theorem SliceIn.any {α : Type} {S : Nat → Prop} {size : Nat} {R : α → List Value → Prop} {w : World} {v : Value} {xs : List α} (h : SliceIn S size R w v xs) : SliceIn (fun _ => True) size R w v xs :=
  h.kept (fun _ _ => trivial) (Nat.le_refl _) (fun _ _ _ => rfl) (fun _ _ _ h => h)
theorem SliceIn.bound {α : Type} {S : Nat → Prop} {size : Nat} {R : α → List Value → Prop} {w : World} {v : Value} {xs : List α} (h : SliceIn S size R w v xs) : xs.length ≤ 9223372036854775807 := by
  obtain ⟨_, _, _, h1, h2, _⟩ := h
  unfold maxLen at h2; omega
end Go.Proofs.YthoblbdkmlggbaaGreatDoor
