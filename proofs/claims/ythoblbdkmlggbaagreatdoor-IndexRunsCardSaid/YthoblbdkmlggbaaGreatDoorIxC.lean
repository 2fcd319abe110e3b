/- Texts held against each other, and lists of texts: plain orders. No program in sight. -/
import Derived.Lib.Strings
import Derived.Lib.Case
import Derived.Lib.CountLaws
set_option linter.unusedSimpArgs false
set_option linter.unusedVariables false
namespace Go.Proofs.YthoblbdkmlggbaaGreatDoor
namespace Ix
def cmpB (a b : List UInt8) : Int := Lib.compareBytes a b
def cmpL : List (List UInt8) → List (List UInt8) → Int
  | a :: r, b :: q => if cmpB a b = 0 then cmpL r q else cmpB a b
  | _, _ => 0
theorem u8_lt_tr {a b c : UInt8} (h : a < b) (k : b < c) : a < c := UInt8.lt_trans h k
theorem cmpB_refl : ∀ a : List UInt8, cmpB a a = 0
  | [] => rfl
  | x :: a => by
    unfold cmpB Lib.compareBytes
    rw [if_neg (UInt8.lt_irrefl x), if_neg (UInt8.lt_irrefl x)]
    exact cmpB_refl a
theorem cmpB_cons (x y : UInt8) (a b : List UInt8) : cmpB (x :: a) (y :: b) = if x < y then -1 else if y < x then 1 else cmpB a b := rfl
theorem cmpB_eq0 : ∀ a b : List UInt8, cmpB a b = 0 → a = b
  | [], [], _ => rfl
  | [], _ :: _, h => by simp [cmpB, Lib.compareBytes] at h
  | _ :: _, [], h => by simp [cmpB, Lib.compareBytes] at h
  | x :: a, y :: b, h => by
    rw [cmpB_cons] at h
    split at h
    · omega
    · next h1 =>
      split at h
      · omega
      · next h2 =>
        have : x = y := by
          refine UInt8.le_antisymm (UInt8.not_lt.1 h2) (UInt8.not_lt.1 h1)
        rw [this, cmpB_eq0 a b h]
theorem cmpB_anti : ∀ a b : List UInt8, cmpB b a = - cmpB a b
  | [], [] => rfl
  | [], _ :: _ => rfl
  | _ :: _, [] => rfl
  | x :: a, y :: b => by
    rw [cmpB_cons, cmpB_cons]
    by_cases h1 : x < y
    · have h2 : ¬ y < x := UInt8.not_lt.2 (UInt8.le_of_lt h1)
      rw [if_pos h1, if_neg h2, if_pos h1]; rfl
    · by_cases h2 : y < x
      · rw [if_pos h2, if_neg h1, if_pos h2]
      · rw [if_neg h1, if_neg h2, if_neg h2, if_neg h1]; exact cmpB_anti a b
theorem cmpB_trans : ∀ a b d : List UInt8, cmpB a b < 0 → cmpB b d < 0 → cmpB a d < 0
  | [], [], _, h, _ => by simp [cmpB, Lib.compareBytes] at h
  | _ :: _, [], _, h, _ => by simp [cmpB, Lib.compareBytes] at h
  | _, _ :: _, [], _, k => by simp [cmpB, Lib.compareBytes] at k
  | [], _ :: _, _ :: _, _, _ => by simp [cmpB, Lib.compareBytes]
  | x :: a, y :: b, z :: d, h, k => by
    rw [cmpB_cons] at h k ⊢
    have irr := UInt8.lt_irrefl
    by_cases h1 : x < y
    · by_cases k1 : y < z
      · rw [if_pos (u8_lt_tr h1 k1)]; omega
      · rw [if_neg k1] at k
        by_cases k2 : z < y
        · rw [if_pos k2] at k; omega
        · have : y = z := UInt8.le_antisymm (UInt8.not_lt.1 k2) (UInt8.not_lt.1 k1)
          rw [← this, if_pos h1]; omega
    · rw [if_neg h1] at h
      by_cases h2 : y < x
      · rw [if_pos h2] at h; omega
      · rw [if_neg h2] at h
        have e : x = y := UInt8.le_antisymm (UInt8.not_lt.1 h2) (UInt8.not_lt.1 h1)
        rw [e]
        by_cases k1 : y < z
        · rw [if_pos k1]; omega
        · rw [if_neg k1] at k ⊢
          by_cases k2 : z < y
          · rw [if_pos k2] at k; omega
          · rw [if_neg k2] at k ⊢; exact cmpB_trans a b d h k
theorem cmpL_cons (x y : List UInt8) (a b : List (List UInt8)) : cmpL (x :: a) (y :: b) = if cmpB x y = 0 then cmpL a b else cmpB x y := rfl
theorem cmpL_refl : ∀ a : List (List UInt8), cmpL a a = 0
  | [] => rfl
  | x :: a => by rw [cmpL_cons, if_pos (cmpB_refl x)]; exact cmpL_refl a
theorem cmpL_eq0 : ∀ a b : List (List UInt8), a.length = b.length → cmpL a b = 0 → a = b
  | [], [], _, _ => rfl
  | [], _ :: _, h, _ => by simp at h
  | _ :: _, [], h, _ => by simp at h
  | x :: a, y :: b, h, e => by
    rw [cmpL_cons] at e
    split at e
    · next h0 => rw [cmpB_eq0 _ _ h0, cmpL_eq0 a b (by simpa using h) e]
    · next h0 => exact absurd e h0
theorem cmpL_anti : ∀ a b : List (List UInt8), a.length = b.length → cmpL b a = - cmpL a b
  | [], [], _ => rfl
  | [], _ :: _, h => by simp at h
  | _ :: _, [], h => by simp at h
  | x :: a, y :: b, h => by
    have ha := cmpB_anti x y
    rw [cmpL_cons, cmpL_cons]
    by_cases h0 : cmpB x y = 0
    · rw [if_pos h0, if_pos (by omega)]; exact cmpL_anti a b (by simpa using h)
    · rw [if_neg h0, if_neg (by omega)]; exact ha
theorem cmpL_trans : ∀ a b d : List (List UInt8), a.length = b.length → b.length = d.length → cmpL a b < 0 → cmpL b d < 0 → cmpL a d < 0
  | [], [], [], _, _, h, _ => by simp [cmpL] at h
  | [], _ :: _, _, h, _, _, _ => by simp at h
  | _ :: _, [], _, h, _, _, _ => by simp at h
  | [], [], _ :: _, _, h, _, _ => by simp at h
  | _ :: _, _ :: _, [], _, h, _, _ => by simp at h
  | x :: a, y :: b, z :: d, e1, e2, h, k => by
    rw [cmpL_cons] at h k ⊢
    by_cases h0 : cmpB x y = 0
    · have := cmpB_eq0 _ _ h0
      subst this
      rw [if_pos h0] at h
      by_cases k0 : cmpB x z = 0
      · rw [if_pos k0] at k ⊢
        exact cmpL_trans a b d (by simpa using e1) (by simpa using e2) h k
      · rw [if_neg k0] at k ⊢; exact k
    · rw [if_neg h0] at h
      by_cases k0 : cmpB y z = 0
      · have := cmpB_eq0 _ _ k0
        subst this
        rw [if_neg h0]; exact h
      · rw [if_neg k0] at k
        have := cmpB_trans x y z h k
        rw [if_neg (by omega)]; exact this
/-- the first number that is not 0 -/
def firstNZ : List Int → Int
  | [] => 0
  | a :: r => if a = 0 then firstNZ r else a
theorem cmpL_zip : ∀ a b : List (List UInt8), cmpL a b = firstNZ (List.zipWith cmpB a b)
  | [], b => by cases b <;> rfl
  | _ :: _, [] => rfl
  | x :: a, y :: b => by
    rw [cmpL_cons, cmpL_zip a b]
    rfl

/-! ### lists that rise by an order -/
/-- what an order owes -/
structure Ord {α : Type} (c : α → α → Int) : Prop where
  eq0 : ∀ a b, c a b = 0 → a = b
  refl : ∀ a, c a a = 0
  anti : ∀ a b, c b a = - c a b
  trans : ∀ a b d, c a b < 0 → c b d < 0 → c a d < 0
section
variable {α : Type} {c : α → α → Int}
def Up (c : α → α → Int) (l : List α) : Prop := l.Pairwise (fun a b => c a b < 0)
theorem Ord.irr (O : Ord c) (a : α) : ¬ c a a < 0 := by rw [O.refl]; omega
/-- two lists that rise, of the same things, are one -/
theorem Up.unique (O : Ord c) : ∀ (a b : List α), Up c a → Up c b → (∀ x, x ∈ a ↔ x ∈ b) → a = b
  | [], [], _, _, _ => rfl
  | [], y :: b, _, _, h => by have := (h y).2 (by simp); simp at this
  | x :: a, [], _, _, h => by have := (h x).1 (by simp); simp at this
  | x :: a, y :: b, ha, hb, h => by
    unfold Up at ha hb
    rw [List.pairwise_cons] at ha hb
    have hxy : x = y := by
      have h1 := (h x).1 (by simp)
      have h2 := (h y).2 (by simp)
      rcases List.mem_cons.1 h1 with e | h1
      · exact e
      · rcases List.mem_cons.1 h2 with e | h2
        · exact e.symm
        · have := ha.1 y h2; have := hb.1 x h1; have := O.anti x y; omega
    subst hxy
    rw [Up.unique O a b ha.2 hb.2 (fun z => ?_)]
    have := h z
    simp only [List.mem_cons] at this
    constructor
    · intro hz
      rcases this.1 (.inr hz) with rfl | h
      · exact absurd (ha.1 z hz) (O.irr z)
      · exact h
    · intro hz
      rcases this.2 (.inr hz) with rfl | h
      · exact absurd (hb.1 z hz) (O.irr z)
      · exact h
theorem Up.nodup (O : Ord c) {l : List α} (h : Up c l) : l.Nodup := by
  refine List.Pairwise.imp (fun {a b} hab e => ?_) h
  subst e
  exact O.irr _ hab
/-- one put into a list that rises, once -/
def once (c : α → α → Int) (x : α) : List α → List α
  | [] => [x]
  | y :: r => if c y x < 0 then y :: once c x r else if c x y < 0 then x :: y :: r else y :: r
theorem mem_once (O : Ord c) (x z : α) : ∀ l, z ∈ once c x l ↔ z = x ∨ z ∈ l
  | [] => by simp [once]
  | y :: r => by
    unfold once
    split
    · simp only [List.mem_cons, mem_once O x z r]
      constructor <;> (intro h; rcases h with h | h | h <;> simp [h])
    · split
      · simp
      · rename_i h1 h2
        have : x = y := by
          refine O.eq0 _ _ ?_
          have := O.anti x y
          omega
        subst this
        simp
theorem once_up (O : Ord c) (x : α) : ∀ l, Up c l → Up c (once c x l)
  | [], _ => by simp [once, Up]
  | y :: r, h => by
    have h' := h
    unfold Up at h
    rw [List.pairwise_cons] at h
    unfold once
    split
    · next hy =>
      refine List.pairwise_cons.2 ⟨fun z hz => ?_, once_up O x r h.2⟩
      rcases (mem_once O x z r).1 hz with rfl | hz
      · exact hy
      · exact h.1 z hz
    · split
      · next hx =>
        refine List.pairwise_cons.2 ⟨fun z hz => ?_, h'⟩
        rcases List.mem_cons.1 hz with rfl | hz
        · exact hx
        · exact O.trans _ _ _ hx (h.1 z hz)
      · exact h'
def onces (c : α → α → Int) : List α → List α → List α
  | a, [] => a
  | a, x :: r => onces c (once c x a) r
theorem mem_onces (O : Ord c) (z : α) : ∀ l a, z ∈ onces c a l ↔ z ∈ a ∨ z ∈ l
  | [], a => by simp [onces]
  | x :: r, a => by
    unfold onces
    rw [mem_onces O z r, mem_once O]
    simp only [List.mem_cons]
    constructor
    · rintro ((h | h) | h) <;> simp [h]
    · rintro (h | h | h) <;> simp [h]
theorem onces_up (O : Ord c) : ∀ l a, Up c a → Up c (onces c a l)
  | [], a, h => h
  | x :: r, a, h => onces_up O r _ (once_up O x a h)
theorem onces_length (c : α → α → Int) : ∀ l a, (onces c a l).length ≤ a.length + l.length
  | [], a => by simp [onces]
  | x :: r, a => by
    have h1 : ∀ l : List α, (once c x l).length ≤ l.length + 1 := by
      intro l
      induction l with
      | nil => simp [once]
      | cons y r ih =>
        unfold once
        split
        · simp; omega
        · split <;> simp
    have h2 := onces_length c r (once c x a)
    have := h1 a
    unfold onces
    simp
    omega
end
end Ix
end Go.Proofs.YthoblbdkmlggbaaGreatDoor
