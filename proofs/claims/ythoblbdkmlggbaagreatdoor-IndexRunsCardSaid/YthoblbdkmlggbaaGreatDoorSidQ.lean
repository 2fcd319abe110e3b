/- Plain laws of layer 7: blanks, byte by byte. Plain Lean, no program in sight. -/
import Derived.Test.YthoblbdkmlggbaaGreatDoorSidM
namespace Go.Proofs.YthoblbdkmlggbaaGreatDoor.Sd
def prev : Bool → List UInt8 → Bool
  | p, [] => p
  | _, c :: r => prev (c == 32) r
theorem prev_snoc : ∀ (l : List UInt8) (p : Bool) (c : UInt8), prev p (l ++ [c]) = (c == 32)
  | [], _, _ => rfl
  | d :: l, _, c => prev_snoc l (d == 32) c
theorem sqGo_snoc : ∀ (l : List UInt8) (p : Bool) (c : UInt8), sqGo p (l ++ [c]) = sqGo p l ++ (if c = 32 ∧ prev p l = true then [] else [c])
  | [], p, c => by
    show sqGo p [c] = _
    by_cases hc : c = 32
    · subst hc
      cases p <;> rfl
    · simp [sqGo, hc, prev]
  | d :: l, p, c => by
    rw [List.cons_append, sqGo, sqGo, prev]
    by_cases hd : d = 32
    · subst hd
      cases p
      · simp only [if_true, Bool.false_eq_true, if_false, sqGo_snoc l true c, List.cons_append, beq_self_eq_true]
      · simp only [if_true, sqGo_snoc l true c, beq_self_eq_true]
    · have h2 : (d == 32) = false := by simpa using hd
      simp only [if_neg hd, sqGo_snoc l false c, List.cons_append, h2]
theorem prev_sqN : ∀ (n : Nat) (l : List UInt8), l.length = n → (prev true l = true ↔ (sqGo true l = [] ∨ (sqGo true l).getLast? = some 32)) := by
  intro n
  induction n with
  | zero =>
    intro l h
    obtain rfl := List.length_eq_zero_iff.1 h
    simp [prev, sqGo]
  | succ n ih =>
    intro l h
    rcases List.eq_nil_or_concat l with rfl | ⟨k, c, rfl⟩
    · simp at h
    rw [List.concat_eq_append] at h ⊢
    have ih := ih k (by simpa using h)
    rw [prev_snoc, sqGo_snoc]
    by_cases hc : c = 32
    · subst hc
      by_cases hp : prev true k = true
      · have := ih.1 hp
        simpa [hp] using this
      · simp [hp]
    · simp [hc]
theorem prev_sq (l : List UInt8) : prev true l = true ↔ (sqGo true l = [] ∨ (sqGo true l).getLast? = some 32) := prev_sqN _ l rfl
/-- the byte is left out -/
def skips (l : List UInt8) (k : Nat) : Bool := prev true (l.take k) && l[k]? == some 32
theorem sq_step (l : List UInt8) (k : Nat) (c : UInt8) (h : l[k]? = some c) : sqGo true (l.take (k + 1)) = if c = 32 ∧ prev true (l.take k) = true then sqGo true (l.take k) else sqGo true (l.take k) ++ [c] := by
  rw [List.take_add_one, h]
  show sqGo true (l.take k ++ [c]) = _
  rw [sqGo_snoc]
  split <;> simp
theorem sqGo_len : ∀ (p : Bool) (l : List UInt8), (sqGo p l).length ≤ l.length
  | _, [] => by simp [sqGo]
  | p, c :: r => by
    have h1 := sqGo_len true r
    have h2 := sqGo_len false r
    rw [sqGo]
    split
    · split
      · simp; omega
      · simp; omega
    · simp; omega
/-- the byte ahead of it -/
theorem prev_at (l : List UInt8) (k : Nat) (c : UInt8) (h : l[k]? = some c) : prev true (l.take (k + 1)) = (c == 32) := by
  rw [List.take_add_one, h]
  exact prev_snoc _ _ _
end Go.Proofs.YthoblbdkmlggbaaGreatDoor.Sd
