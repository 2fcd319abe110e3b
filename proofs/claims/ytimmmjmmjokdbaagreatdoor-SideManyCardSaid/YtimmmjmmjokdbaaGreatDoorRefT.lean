/- The reference's numerals and digits are the model's texts: looked through by the kernel. Plain Lean. -/
import Derived.Test.YtimmmjmmjokdbaaGreatDoorRefD
namespace Go.Proofs.YtimmmjmmjokdbaaGreatDoor
theorem roman_all : (List.range 4000).all (fun m => m == 0 || romanS m [105, 118, 120, 108, 99, 100, 109] == Cnt.roman m) = true := by decide +kernel
theorem upper_all : (List.range 4000).all (fun m => m == 0 || romanS m [73, 86, 88, 76, 67, 68, 77] == Lib.toUpperA (Cnt.roman m)) = true := by decide +kernel
theorem ref_roman (m : Nat) (h0 : 1 ≤ m) (h : m ≤ 3999) : romanS m [105, 118, 120, 108, 99, 100, 109] = Cnt.roman m := by
  have := List.all_eq_true.1 roman_all m (List.mem_range.2 (by omega))
  simpa [show (m == 0) = false by simp; omega] using this
theorem ref_upper (m : Nat) (h0 : 1 ≤ m) (h : m ≤ 3999) : romanS m [73, 86, 88, 76, 67, 68, 77] = Lib.toUpperA (Cnt.roman m) := by
  have := List.all_eq_true.1 upper_all m (List.mem_range.2 (by omega))
  simpa [show (m == 0) = false by simp; omega] using this
theorem ref_text (n style : Int) : refText n style = Cnt.text n style := by
  have c0 := Cnt.cut_lo n
  have c1 := Cnt.cut_hi n
  unfold refText Cnt.text
  by_cases h1 : style = 1 ∧ 1 ≤ Cnt.cut n ∧ Cnt.cut n ≤ 3999
  · rw [if_pos h1, if_neg (by omega), if_pos h1, ref_roman _ (by omega) (by omega)]
  · rw [if_neg h1]
    by_cases h2 : style = 2 ∧ 1 ≤ Cnt.cut n ∧ Cnt.cut n ≤ 3999
    · rw [if_pos h2, if_pos h2, ref_upper _ (by omega) (by omega)]
    · rw [if_neg h2, if_neg h2, if_neg h1]
      by_cases h3 : style = 3 ∧ 1 ≤ Cnt.cut n
      · rw [if_pos h3, if_pos h3]
      · rw [if_neg h3, if_neg h3]
        obtain ⟨c, hc⟩ : ∃ c : Nat, Cnt.cut n = (c : Int) := ⟨(Cnt.cut n).toNat, by omega⟩
        rw [hc, Cnt.itoa_dec c (by omega)]
        rfl
/-- a text that is in no style's texts is no counter -/
theorem ref_none (l : List UInt8) (style : Int) (ha : ¬ (0 ≤ Cnt.digits l ∧ Cnt.digits l ≤ 999999 ∧ Cnt.text (Cnt.digits l) style = l))
    (hb : ¬ (0 ≤ Cnt.ofLetters l ∧ Cnt.ofLetters l ≤ 999999 ∧ Cnt.text (Cnt.ofLetters l) style = l))
    (hc : ∀ m : Nat, 1 ≤ m → m ≤ 3999 → (style = 1 ∨ style = 2) → Cnt.text (m : Int) style ≠ l) : Cnt.value l style = (0, 5) := by
  rcases Cnt.sound l style with ⟨n, hn, hv, ht⟩ | h
  · exfalso
    rcases Cnt.text_kinds n hn style with ⟨_, hd⟩ | ⟨_, hk, h0, h1 | h1 | h1⟩
    · rw [ht] at hd
      exact ha ⟨by omega, by omega, by rw [hd]; exact ht⟩
    · exact hc n h0 h1.2 (.inl h1.1) ht
    · exact hc n h0 h1.2 (.inr h1.1) ht
    · subst h1
      rw [ht] at hk
      have : Cnt.ofLetters l = n := by
        simp [Cnt.tries] at hk
        exact hk.2
      exact hb ⟨by omega, by omega, by rw [this]; exact ht⟩
  · exact h
theorem ref_hit (l : List UInt8) (style a : Int) (h0 : 0 ≤ a) (h1 : a ≤ 999999) (ht : Cnt.text a style = l) : Cnt.value l style = (a, 0) := by
  obtain ⟨n, rfl⟩ : ∃ n : Nat, a = n := ⟨a.toNat, by omega⟩
  rw [← ht]
  exact Cnt.back n (by omega) style
end Go.Proofs.YtimmmjmmjokdbaaGreatDoor
