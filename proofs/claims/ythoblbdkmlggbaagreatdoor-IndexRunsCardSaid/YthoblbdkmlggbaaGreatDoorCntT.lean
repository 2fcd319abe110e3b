/- Plain theory of counters' texts: each is read back as its counter; unlike counters have unlike texts; what a text is read as has that text. -/
import Derived.Test.YthoblbdkmlggbaaGreatDoorCntTab
import Derived.Shelf.Strings.CaseAny
namespace Go.Proofs.YthoblbdkmlggbaaGreatDoor.Cnt

/-- decimal digits with fuel: for the kernel -/
def decF : Nat → Nat → List UInt8
  | 0, _ => []
  | f + 1, n => if n < 10 then [UInt8.ofNat (48 + n)] else decF f (n / 10) ++ [UInt8.ofNat (48 + n % 10)]
theorem decF_eq : ∀ (f n : Nat), n < 10 ^ f → 0 < f → Lib.decDigits n = decF f n
  | 0, n, _, h => absurd h (by omega)
  | f + 1, n, h, _ => by
    rw [Lib.decDigits]
    unfold decF
    by_cases hn : n < 10
    · simp [hn]
    · rw [dif_neg hn, if_neg hn, decF_eq f (n / 10) (by rw [Nat.pow_succ] at h; omega) (by
        rcases Nat.eq_zero_or_pos f with h0 | h0
        · subst h0; simp at h; omega
        · exact h0)]
theorem decF_length : ∀ (f n : Nat), (decF f n).length ≤ f
  | 0, n => by simp [decF]
  | f + 1, n => by
    have := decF_length f (n / 10)
    unfold decF
    split
    · simp
    · simp; omega
theorem itoa_dec (n : Nat) (h : n ≤ 999999) : Lib.itoa (n : Int) = decF 6 n := by
  unfold Lib.itoa
  rw [if_neg (by omega), Int.toNat_natCast]
  exact decF_eq 6 n (by omega) (by omega)
theorem toNat_cut (n : Nat) (h : n ≤ 999999) : cut (n : Int) = n := cut_of (by omega) (by omega)
theorem text_roman (n : Nat) (h0 : 1 ≤ n) (h : n ≤ 3999) : text (n : Int) 1 = roman n := by
  unfold text
  rw [toNat_cut n (by omega), if_neg (by omega), if_pos (by omega), Int.toNat_natCast]
theorem text_upper (n : Nat) (h0 : 1 ≤ n) (h : n ≤ 3999) : text (n : Int) 2 = Lib.toUpperA (roman n) := by
  unfold text
  rw [toNat_cut n (by omega), if_pos (by omega), Int.toNat_natCast]
theorem text_letters (n : Nat) (h0 : 1 ≤ n) (h : n ≤ 999999) : text (n : Int) 3 = lettered n := by
  unfold text
  rw [toNat_cut n h, if_neg (by omega), if_neg (by omega), if_pos (by omega), Int.toNat_natCast]
theorem text_dec (n : Nat) (h : n ≤ 999999) (style : Int) (h1 : style = 2 → n = 0 ∨ 3999 < n) (h2 : style = 1 → n = 0 ∨ 3999 < n) (h3 : style = 3 → n = 0) : text (n : Int) style = decF 6 n := by
  unfold text
  rw [toNat_cut n h, if_neg (by omega), if_neg (by omega), if_neg (by omega), itoa_dec n h]
theorem text_cut (n style : Int) : text n style = text (cut n) style := by
  have h : cut (cut n) = cut n := cut_of (cut_lo n) (cut_hi n)
  unfold text
  rw [h]

theorem letGo_length : ∀ (f n : Nat), (letGo f n).length ≤ f
  | 0, n => by simp [letGo]
  | f + 1, n => by
    have := letGo_length f ((n - 1) / 26)
    simp only [letGo]
    split
    · simp
    · simp; omega
theorem romanGo_length : ∀ (ps : List (Nat × List UInt8)) (n : Nat), (∀ p ∈ ps, p.2.length ≤ p.1) → (romanGo ps n).length ≤ n
  | [], n, _ => by simp [romanGo]
  | p :: ps, n, h => by
    have h1 := h p (by simp)
    have h2 := romanGo_length ps (n % p.1) (fun q hq => h q (by simp [hq]))
    have h3 : n / p.1 * p.2.length ≤ n / p.1 * p.1 := Nat.mul_le_mul_left _ h1
    have h4 := Nat.div_add_mod n p.1
    rw [Nat.mul_comm] at h4
    simp [romanGo, List.length_flatten]
    omega
theorem text_length (n style : Int) : (text n style).length ≤ 999999 := by
  have h0 := cut_lo n
  have h1 := cut_hi n
  have hr := romanGo_length numerals (cut n).toNat (by decide)
  have hl := letGo_length (cut n).toNat (cut n).toNat
  unfold text
  split
  · unfold Lib.toUpperA roman; rw [List.length_map]; omega
  · split
    · unfold roman; omega
    · split
      · unfold lettered; omega
      · have := decF_length 6 (cut n).toNat
        rw [show cut n = ((cut n).toNat : Int) by omega, itoa_dec _ (by omega)]
        omega

/-! ### reading -/
theorem readGo_snoc (lo b low : Nat) (c : UInt8) : ∀ (l : List UInt8) (n : Nat), readGo lo b low (l ++ [c]) n =
    if readGo lo b low l n < 0 ∨ c.toNat < lo ∨ lo + b ≤ c.toNat ∨ 999999 < readGo lo b low l n then -1 else readGo lo b low l n * b + ((c.toNat - lo : Nat) : Int) + low
  | [], n => by
    have e : readGo lo b low [] n = (n : Int) := rfl
    rw [e]
    show (if c.toNat < lo ∨ lo + b ≤ c.toNat ∨ 999999 < n then (-1 : Int) else ((n * b + (c.toNat - lo) + low : Nat) : Int)) = _
    split
    · rw [if_pos (by omega)]
    · rw [if_neg (by omega)]; push_cast; rfl
  | d :: l, n => by
    simp only [List.cons_append, readGo]
    split
    · simp
    · exact readGo_snoc lo b low c l _
theorem digits_dec : ∀ (f n : Nat), n < 10 ^ f → 0 < f → n ≤ 9999999 → digits (decF f n) = n
  | 0, _, _, h, _ => absurd h (by omega)
  | f + 1, n, h, _, hn => by
    unfold decF
    by_cases h10 : n < 10
    · rw [if_pos h10]
      unfold digits
      simp only [readGo]
      have e : (UInt8.ofNat (48 + n)).toNat = 48 + n := by simp; omega
      rw [e, if_neg (by omega)]
      omega
    · rw [if_neg h10]
      have ih := digits_dec f (n / 10) (by rw [Nat.pow_succ] at h; omega) (by
        rcases Nat.eq_zero_or_pos f with h0 | h0
        · subst h0; simp at h; omega
        · exact h0) (by omega)
      unfold digits at ih ⊢
      rw [readGo_snoc, ih]
      have e : (UInt8.ofNat (48 + n % 10)).toNat = 48 + n % 10 := by simp; omega
      rw [e, if_neg (by omega)]
      omega
theorem letters_back (n : Nat) (hn : n ≤ 999999) : ofLetters (lettered n) = n := by
  induction n using Nat.strongRecOn with
  | _ n ih =>
    by_cases h0 : n = 0
    · subst h0; rfl
    · rw [lettered_pos n (by omega)]
      have := ih ((n - 1) / 26) (by omega) (by omega)
      unfold ofLetters at this ⊢
      rw [readGo_snoc, this]
      have e : (UInt8.ofNat (97 + (n - 1) % 26)).toNat = 97 + (n - 1) % 26 := by simp; omega
      rw [e, if_neg (by omega)]
      omega
/-- no digits -/
theorem digits_none (l : List UInt8) (h : l ≠ []) (hl : ∀ c ∈ l, 58 ≤ c.toNat) : digits l = -1 := by
  cases l with
  | nil => exact absurd rfl h
  | cons c l =>
    have := hl c (by simp)
    unfold digits
    simp only [readGo]
    rw [if_pos (by omega)]

theorem romanGo_all (Q : UInt8 → Prop) : ∀ (ps : List (Nat × List UInt8)) (n : Nat), (∀ p ∈ ps, ∀ b ∈ p.2, Q b) → ∀ b ∈ romanGo ps n, Q b
  | [], n, _, b, hb => by simp [romanGo] at hb
  | p :: ps, n, hp, b, hb => by
    simp only [romanGo, List.mem_append, List.mem_flatten, List.mem_replicate] at hb
    rcases hb with ⟨l, ⟨_, rfl⟩, hb⟩ | hb
    · exact hp p (by simp) b hb
    · exact romanGo_all Q ps _ (fun q hq => hp q (by simp [hq])) b hb
theorem roman_low (n : Nat) : ∀ b ∈ roman n, 97 ≤ b.toNat ∧ b.toNat ≤ 122 := romanGo_all _ _ n (by decide)
theorem roman_ne (n : Nat) (h0 : 1 ≤ n) (h : n ≤ 3999) : roman n ≠ [] := by
  intro e
  have := roman_inj (m := n) (n := 0) (by omega) (by omega) (by rw [e, roman_zero])
  omega
theorem upper_low (b : UInt8) (h : 97 ≤ b.toNat ∧ b.toNat ≤ 122) : (Lib.upperB b).toNat = b.toNat - 32 := by
  have e : Lib.isLowerB b = true := by unfold Lib.isLowerB; simp [UInt8.le_iff_toNat_le]; omega
  unfold Lib.upperB
  rw [if_pos e, UInt8.toNat_sub_of_le _ _ (by rw [UInt8.le_iff_toNat_le]; simp; omega)]
  simp
theorem lower_upper (b : UInt8) (h : 97 ≤ b.toNat ∧ b.toNat ≤ 122) : Lib.lowerB (Lib.upperB b) = b := by
  have hu := upper_low b h
  have e : Lib.isUpperB (Lib.upperB b) = true := by unfold Lib.isUpperB; simp [UInt8.le_iff_toNat_le]; omega
  unfold Lib.lowerB
  rw [if_pos e]
  apply UInt8.toNat_inj.1
  rw [UInt8.toNat_add, hu]
  simp; omega
theorem lowerA_upperA (l : List UInt8) (h : ∀ b ∈ l, 97 ≤ b.toNat ∧ b.toNat ≤ 122) : Lib.toLowerA (Lib.toUpperA l) = l := by
  unfold Lib.toLowerA Lib.toUpperA
  rw [List.map_map]
  conv => rhs; rw [← List.map_id l]
  apply List.map_congr_left
  intro b hb
  exact lower_upper b (h b hb)
theorem lowerD_upperA (l : List UInt8) (h : ∀ b ∈ l, 97 ≤ b.toNat ∧ b.toNat ≤ 122) : Lib.toLowerD (Lib.toUpperA l) = l := by
  rw [Lib.toLowerD_ascii, lowerA_upperA l h]
  intro b hb
  unfold Lib.toUpperA at hb
  obtain ⟨x, hx, rfl⟩ := List.mem_map.1 hb
  have := upper_low x (h x hx)
  have := h x hx
  omega
theorem lettered_low (n : Nat) : ∀ b ∈ lettered n, 97 ≤ b.toNat ∧ b.toNat ≤ 122 := by
  induction n using Nat.strongRecOn with
  | _ n ih =>
    by_cases h0 : n = 0
    · subst h0; intro b hb; simp [lettered_zero] at hb
    · rw [lettered_pos n (by omega)]
      intro b hb
      rcases List.mem_append.1 hb with hb | hb
      · exact ih _ (by omega) b hb
      · simp at hb; subst hb; simp; omega
theorem lettered_ne (n : Nat) (h : 0 < n) : lettered n ≠ [] := by rw [lettered_pos n h]; simp

/-- a counter's text in a style of the four: decimal digits, or none at all, and read back by the style's own reading -/
theorem text_kinds (n : Nat) (h : n ≤ 999999) (style : Int) :
    (text (n : Int) style = decF 6 n ∧ digits (text (n : Int) style) = n) ∨
    (digits (text (n : Int) style) = -1 ∧ tries (text (n : Int) style) style = [-1, (n : Int)] ∧ 0 < n ∧ ((style = 1 ∧ n ≤ 3999) ∨ (style = 2 ∧ n ≤ 3999) ∨ style = 3)) := by
  by_cases h1 : style = 1 ∧ 1 ≤ n ∧ n ≤ 3999
  · obtain ⟨rfl, h0, h3⟩ := h1
    right
    rw [text_roman n h0 h3]
    have hd := digits_none _ (roman_ne n h0 h3) (fun c hc => by have := roman_low n c hc; omega)
    refine ⟨hd, ?_, h0, .inl ⟨rfl, h3⟩⟩
    unfold tries
    rw [hd, if_pos rfl, back_roman n (by omega)]
  · by_cases h2 : style = 2 ∧ 1 ≤ n ∧ n ≤ 3999
    · obtain ⟨rfl, h0, h3⟩ := h2
      right
      rw [text_upper n h0 h3]
      have hd := digits_none (Lib.toUpperA (roman n)) (by unfold Lib.toUpperA; simpa using roman_ne n h0 h3) (fun c hc => by
        unfold Lib.toUpperA at hc
        obtain ⟨x, hx, rfl⟩ := List.mem_map.1 hc
        have := upper_low x (roman_low n x hx)
        have := roman_low n x hx
        omega)
      refine ⟨hd, ?_, h0, .inr (.inl ⟨rfl, h3⟩)⟩
      unfold tries
      rw [hd, if_neg (by omega), if_pos rfl, lowerD_upperA _ (roman_low n), back_roman n (by omega)]
    · by_cases h3 : style = 3 ∧ 1 ≤ n
      · obtain ⟨rfl, h0⟩ := h3
        right
        rw [text_letters n h0 h]
        have hd := digits_none _ (lettered_ne n h0) (fun c hc => by have := lettered_low n c hc; omega)
        refine ⟨hd, ?_, h0, .inr (.inr rfl)⟩
        unfold tries
        rw [hd, if_neg (by omega), if_neg (by omega), if_pos rfl, letters_back n h]
      · left
        have e := text_dec n h style (by omega) (by omega) (by omega)
        exact ⟨e, by rw [e]; exact digits_dec 6 n (by omega) (by omega) (by omega)⟩

/-- EACH COUNTER IS THAT OF ITS TEXT -/
theorem back (n : Nat) (h : n ≤ 999999) (style : Int) : value (text (n : Int) style) style = ((n : Int), 0) := by
  unfold value
  have hok : ((n : Int) == cut (n : Int) && text (n : Int) style == text (n : Int) style) = true := by rw [toNat_cut n h]; simp
  rcases text_kinds n h style with ⟨_, hd⟩ | ⟨_, ht, _⟩
  · unfold tries
    rw [hd]
    simp only [List.find?_cons, hok]
  · rw [ht]
    have hno : ((-1 : Int) == cut (-1)) = false := by decide +kernel
    simp only [List.find?_cons, hno, Bool.false_and, hok]
/-- what a text is read as has that text -/
theorem sound (s : List UInt8) (style : Int) : (∃ n : Nat, n ≤ 999999 ∧ value s style = ((n : Int), 0) ∧ text (n : Int) style = s) ∨ value s style = (0, 5) := by
  unfold value
  split
  · rename_i n hn
    left
    have h := List.find?_some hn
    simp only [Bool.and_eq_true, beq_iff_eq] at h
    have h0 := cut_lo n
    have h1 := cut_hi n
    exact ⟨n.toNat, by omega, by rw [show (n.toNat : Int) = n by omega], by rw [show (n.toNat : Int) = n by omega]; exact h.2⟩
  · right; rfl
theorem text_inj (n m : Nat) (hn : n ≤ 999999) (hm : m ≤ 999999) (style : Int) (h : text (n : Int) style = text (m : Int) style) : n = m := by
  have e1 := back n hn style
  have e2 := back m hm style
  rw [h, e2] at e1
  simp at e1
  omega
/-- decimal digits are a counter in a style just where its text in that style is these -/
theorem dec_value (n : Nat) (h : n ≤ 999999) (style : Int) (hne : text (n : Int) style ≠ decF 6 n) : value (decF 6 n) style = (0, 5) := by
  rcases sound (decF 6 n) style with ⟨k, hk, _, ht⟩ | h
  · exfalso
    have hd : digits (decF 6 n) = n := digits_dec 6 n (by omega) (by omega) (by omega)
    rcases text_kinds k hk style with ⟨_, e⟩ | ⟨e, _⟩
    · rw [ht, hd] at e
      have : n = k := by omega
      subst this
      exact hne ht
    · rw [ht, hd] at e; omega
  · exact h
theorem roman_dec (n : Nat) (h : n ≤ 999999) (style : Int) (hs : style = 1 ∨ style = 2) : (text (n : Int) style = decF 6 n) ↔ (n = 0 ∨ 3999 < n) := by
  constructor
  · intro e
    rcases text_kinds n h style with ⟨_, hd⟩ | ⟨hd, _⟩
    · by_cases hc : n = 0 ∨ 3999 < n
      · exact hc
      · exfalso
        rcases hs with rfl | rfl
        · rw [text_roman n (by omega) (by omega), digits_none _ (roman_ne n (by omega) (by omega)) (fun c hc => by have := roman_low n c hc; omega)] at hd
          omega
        · rw [text_upper n (by omega) (by omega), digits_none (Lib.toUpperA (roman n)) (by unfold Lib.toUpperA; simpa using roman_ne n (by omega) (by omega)) (fun c hc => by
            unfold Lib.toUpperA at hc
            obtain ⟨x, hx, rfl⟩ := List.mem_map.1 hc
            have := upper_low x (roman_low n x hx)
            have := roman_low n x hx
            omega)] at hd
          omega
    · rw [e, digits_dec 6 n (by omega) (by omega) (by omega)] at hd; omega
  · intro hc
    exact text_dec n h style (fun _ => hc) (fun _ => hc) (by omega)
theorem letters_dec (n : Nat) (h : n ≤ 999999) : (text (n : Int) 3 = decF 6 n) ↔ n = 0 := by
  constructor
  · intro e
    rcases text_kinds n h 3 with ⟨_, hd⟩ | ⟨hd, _⟩
    · by_cases hc : n = 0
      · exact hc
      · exfalso
        rw [text_letters n (by omega) h, digits_none _ (lettered_ne n (by omega)) (fun c hc => by have := lettered_low n c hc; omega)] at hd
        omega
    · rw [e, digits_dec 6 n (by omega) (by omega) (by omega)] at hd; omega
  · intro hc
    exact text_dec n h 3 (by omega) (by omega) (fun _ => hc)
end Go.Proofs.YthoblbdkmlggbaaGreatDoor.Cnt
