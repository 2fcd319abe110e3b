/- The plain model of package count (layer 1): counters, their sums, their texts, and the counters that texts are. Plain Lean, no program in sight. -/
import Derived.Lib.ItoaNum
import Derived.Lib.Strings
import Derived.Lib.Case
import Derived.Lib.MapU
namespace Go.Proofs.YthoblbdkmlggbaaGreatDoor.Cnt

/-- a number as a counter -/
def cut (n : Int) : Int := if n < 0 then 0 else if 999999 < n then 999999 else n
theorem cut_lo (n : Int) : 0 ≤ cut n := by unfold cut; split <;> (try split) <;> omega
theorem cut_hi (n : Int) : cut n ≤ 999999 := by unfold cut; split <;> (try split) <;> omega
theorem cut_of {n : Int} (h0 : 0 ≤ n) (h1 : n ≤ 999999) : cut n = n := by unfold cut; rw [if_neg (by omega), if_neg (by omega)]

def numerals : List (Nat × List UInt8) :=
  [(1000, [109]), (900, [99, 109]), (500, [100]), (400, [99, 100]), (100, [99]), (90, [120, 99]), (50, [108]), (40, [120, 108]), (10, [120]), (9, [105, 120]), (5, [118]), (4, [105, 118]), (1, [105])]

/-- the numeral of n by some parts -/
def romanGo : List (Nat × List UInt8) → Nat → List UInt8
  | [], _ => []
  | p :: ps, n => (List.replicate (n / p.1) p.2).flatten ++ romanGo ps (n % p.1)
def roman (n : Nat) : List UInt8 := romanGo numerals n
theorem romanGo_step (p : Nat × List UInt8) (ps : List (Nat × List UInt8)) (n : Nat) (h0 : 0 < p.1) (h : p.1 ≤ n) : romanGo (p :: ps) n = p.2 ++ romanGo (p :: ps) (n - p.1) := by
  have e : n / p.1 = (n - p.1) / p.1 + 1 := by rw [Nat.div_eq_sub_div h0 h]
  have e2 : n % p.1 = (n - p.1) % p.1 := by rw [Nat.mod_eq_sub_mod h]
  simp [romanGo, e, e2, List.replicate_succ]
theorem romanGo_skip (p : Nat × List UInt8) (ps : List (Nat × List UInt8)) (n : Nat) (h : n < p.1) : romanGo (p :: ps) n = romanGo ps n := by
  simp [romanGo, Nat.div_eq_of_lt h, Nat.mod_eq_of_lt h]

/-- letters, the last one first done; the first number is fuel -/
def letGo : Nat → Nat → List UInt8
  | 0, _ => []
  | f + 1, n => if n = 0 then [] else letGo f ((n - 1) / 26) ++ [UInt8.ofNat (97 + (n - 1) % 26)]
def lettered (n : Nat) : List UInt8 := letGo n n
theorem letGo_any : ∀ (f g n : Nat), n ≤ f → n ≤ g → letGo f n = letGo g n
  | 0, g, n, h, _ => by
    have : n = 0 := by omega
    subst this
    cases g <;> simp [letGo]
  | f + 1, 0, n, _, h => by
    have : n = 0 := by omega
    subst this
    simp [letGo]
  | f + 1, g + 1, n, h, h' => by
    simp only [letGo]
    by_cases hn : n = 0
    · simp [hn]
    · rw [if_neg hn, if_neg hn, letGo_any f g ((n - 1) / 26) (by omega) (by omega)]
theorem lettered_zero : lettered 0 = [] := rfl
theorem lettered_pos (n : Nat) (h : 0 < n) : lettered n = lettered ((n - 1) / 26) ++ [UInt8.ofNat (97 + (n - 1) % 26)] := by
  obtain ⟨m, rfl⟩ : ∃ m, n = m + 1 := ⟨n - 1, by omega⟩
  unfold lettered
  rw [letGo, if_neg (by omega)]
  rw [letGo_any m ((m + 1 - 1) / 26) _ (by omega) (by omega)]

/-- a counter's text -/
def text (n style : Int) : List UInt8 :=
  if style = 2 ∧ 1 ≤ cut n ∧ cut n ≤ 3999 then Lib.toUpperA (roman (cut n).toNat)
  else if style = 1 ∧ 1 ≤ cut n ∧ cut n ≤ 3999 then roman (cut n).toNat
  else if style = 3 ∧ 1 ≤ cut n then lettered (cut n).toNat
  else Lib.itoa (cut n)

/-- the number of digits, or of letters: -1 where there is none -/
def readGo (lo base low : Nat) : List UInt8 → Nat → Int
  | [], n => n
  | c :: l, n => if c.toNat < lo ∨ lo + base ≤ c.toNat ∨ 999999 < n then -1 else readGo lo base low l (n * base + (c.toNat - lo) + low)
def digits (s : List UInt8) : Int := readGo 48 10 0 s 0
def ofLetters (s : List UInt8) : Int := readGo 97 26 1 s 0

/-- the number of a numeral: fuel, parts, the number so far, what is left -/
def ofRomGo : Nat → List (Nat × List UInt8) → Nat → List UInt8 → Nat
  | _, [], n, _ => n
  | 0, _, n, _ => n
  | f + 1, p :: ps, n, s => if Lib.hasPrefix s p.2 = true ∧ n ≤ 3999 then ofRomGo f (p :: ps) (n + p.1) (s.drop p.2.length) else ofRomGo f ps n s
def ofRoman (s : List UInt8) : Nat := ofRomGo (s.length + 13) numerals 0 s

/-- the numbers to try -/
def tries (s : List UInt8) (style : Int) : List Int :=
  digits s :: (if style = 1 then [(ofRoman s : Int)] else if style = 2 then [(ofRoman (Lib.toLowerD s) : Int)] else if style = 3 then [ofLetters s] else [])
/-- the counter that a text is, and the error's number -/
def value (s : List UInt8) (style : Int) : Int × Int :=
  match (tries s style).find? (fun n => n == cut n && text n style == s) with
  | some n => (n, 0)
  | none => (0, 5)

def add (a b : Int) : Int × Bool := (cut (cut a + cut b), decide (999999 < cut a + cut b))
end Go.Proofs.YthoblbdkmlggbaaGreatDoor.Cnt
