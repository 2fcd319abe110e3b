/- Pages as a text: the plain law. No program in sight. -/
import Derived.Test.YthoblbdkmlggbaaGreatDoorCntT
set_option linter.unusedSimpArgs false
set_option linter.unusedVariables false
namespace Go.Proofs.YthoblbdkmlggbaaGreatDoor
namespace Ix
def page (n : Int) : Bool := decide (1 ≤ n) && decide (n ≤ 999999)
/-- a number put into a rising list, once -/
def ins (n : Int) : List Int → List Int
  | [] => [n]
  | m :: r => if m < n then m :: ins n r else if n = m then m :: r else n :: m :: r
def rising : List Int → List Int → List Int
  | a, [] => a
  | a, n :: r => rising (if page n then ins n a else a) r
theorem mem_ins (n x : Int) : ∀ l, x ∈ ins n l ↔ x = n ∨ x ∈ l
  | [] => by simp [ins]
  | m :: r => by
    unfold ins
    split
    · simp [mem_ins n x r]; constructor <;> (intro h; rcases h with h | h | h <;> simp [h])
    · split
      · rename_i h; subst h; simp
      · simp
theorem ins_sorted (n : Int) : ∀ l, l.Pairwise (· < ·) → (ins n l).Pairwise (· < ·)
  | [], _ => by simp [ins]
  | m :: r, h => by
    rw [List.pairwise_cons] at h
    unfold ins
    split
    · rename_i hm
      refine List.pairwise_cons.2 ⟨fun x hx => ?_, ins_sorted n r h.2⟩
      rcases (mem_ins n x r).1 hx with rfl | hx
      · exact hm
      · exact h.1 x hx
    · split
      · exact List.pairwise_cons.2 h
      · refine List.pairwise_cons.2 ⟨fun x hx => ?_, List.pairwise_cons.2 h⟩
        rcases List.mem_cons.1 hx with rfl | hx
        · omega
        · have := h.1 x hx; omega
theorem rising_sorted : ∀ (l a : List Int), a.Pairwise (· < ·) → (rising a l).Pairwise (· < ·)
  | [], a, h => h
  | n :: r, a, h => by
    unfold rising
    refine rising_sorted r _ ?_
    split
    · exact ins_sorted n a h
    · exact h
theorem mem_rising (x : Int) : ∀ (l a : List Int), x ∈ rising a l ↔ x ∈ a ∨ (x ∈ l ∧ page x = true)
  | [], a => by simp [rising]
  | n :: r, a => by
    unfold rising
    rw [mem_rising x r]
    by_cases hp : page n
    · rw [if_pos hp, mem_ins]
      constructor
      · rintro ((rfl | h) | h)
        · exact .inr ⟨by simp, hp⟩
        · exact .inl h
        · exact .inr ⟨by simp [h.1], h.2⟩
      · rintro (h | ⟨h, h2⟩)
        · exact .inl (.inr h)
        · rcases List.mem_cons.1 h with rfl | h
          · exact .inl (.inl rfl)
          · exact .inr ⟨h, h2⟩
    · rw [if_neg hp]
      constructor
      · rintro (h | h)
        · exact .inl h
        · exact .inr ⟨by simp [h.1], h.2⟩
      · rintro (h | ⟨h, h2⟩)
        · exact .inl h
        · rcases List.mem_cons.1 h with rfl | h
          · exact absurd h2 hp
          · exact .inr ⟨h, h2⟩
/-- two rising lists of the same numbers are one -/
theorem rising_unique : ∀ (a b : List Int), a.Pairwise (· < ·) → b.Pairwise (· < ·) → (∀ x, x ∈ a ↔ x ∈ b) → a = b
  | [], [], _, _, _ => rfl
  | [], y :: b, _, _, h => by have := (h y).2 (by simp); simp at this
  | x :: a, [], _, _, h => by have := (h x).1 (by simp); simp at this
  | x :: a, y :: b, ha, hb, h => by
    rw [List.pairwise_cons] at ha hb
    have hxy : x = y := by
      have h1 := (h x).1 (by simp)
      have h2 := (h y).2 (by simp)
      rcases List.mem_cons.1 h1 with e | h1
      · exact e
      · rcases List.mem_cons.1 h2 with e | h2
        · exact e.symm
        · have := ha.1 y h2; have := hb.1 x h1; omega
    subst hxy
    rw [rising_unique a b ha.2 hb.2 (fun z => ?_)]
    have := h z
    simp only [List.mem_cons] at this
    constructor
    · intro hz
      rcases this.1 (.inr hz) with rfl | h
      · have := ha.1 z hz; omega
      · exact h
    · intro hz
      rcases this.2 (.inr hz) with rfl | h
      · have := hb.1 z hz; omega
      · exact h
theorem rising_of_sorted (l m : List Int) (hm : m.Pairwise (· < ·)) (h : ∀ x, x ∈ m ↔ x ∈ l ∧ page x = true) : m = rising [] l :=
  rising_unique _ _ hm (rising_sorted l [] List.Pairwise.nil) (fun x => by rw [h, mem_rising]; simp)
theorem rising_same (l m : List Int) (h : ∀ x, page x = true → (x ∈ l ↔ x ∈ m)) : rising [] l = rising [] m :=
  rising_of_sorted _ _ (rising_sorted l [] List.Pairwise.nil) (fun x => by rw [mem_rising]; simp; intro hp; exact h x hp)
theorem rising_page (l : List Int) : ∀ x ∈ rising [] l, 1 ≤ x ∧ x ≤ 999999 := fun x hx => by
  have := (mem_rising x l []).1 hx
  simp [page] at this
  exact this.2
theorem ins_length (n : Int) : ∀ l, (ins n l).length ≤ l.length + 1
  | [] => by simp [ins]
  | m :: r => by
    unfold ins
    have := ins_length n r
    split
    · simp; omega
    · split <;> simp
theorem rising_length : ∀ (l a : List Int), (rising a l).length ≤ a.length + l.length
  | [], a => by simp [rising]
  | n :: r, a => by
    unfold rising
    have h := rising_length r (if page n then ins n a else a)
    have : (if page n then ins n a else a).length ≤ a.length + 1 := by
      split
      · exact ins_length n a
      · omega
    simp; omega

/-! ### the text -/
/-- how many at the start follow one another -/
def runLen : List Int → Nat
  | [] => 0
  | a :: r => match r with
    | [] => 1
    | b :: _ => if b = a + 1 then runLen r + 1 else 1
def dig (n : Int) : List UInt8 := Cnt.text n 0
def partsGo : Nat → List Int → List (List UInt8)
  | 0, _ => []
  | _ + 1, [] => []
  | f + 1, a :: r => if 3 ≤ runLen (a :: r) then (dig a ++ 45 :: dig ((a :: r).getD (runLen (a :: r) - 1) 0)) :: partsGo f ((a :: r).drop (runLen (a :: r))) else dig a :: partsGo f r
def parts (l : List Int) : List (List UInt8) := partsGo l.length l
/-- texts with ', ' between -/
def join : List (List UInt8) → List UInt8
  | [] => []
  | [t] => t
  | t :: u :: r => t ++ 44 :: 32 :: join (u :: r)
def text (l : List Int) : List UInt8 := join (parts (rising [] l))
theorem runLen_pos (a : Int) (r : List Int) : 1 ≤ runLen (a :: r) := by
  unfold runLen
  split
  · omega
  · split <;> omega
theorem runLen_le : ∀ l : List Int, runLen l ≤ l.length
  | [] => by simp [runLen]
  | a :: r => by
    have := runLen_le r
    unfold runLen
    split
    · simp
    · split <;> simp_all
theorem partsGo_fuel : ∀ (f g : Nat) (l : List Int), l.length ≤ f → l.length ≤ g → partsGo f l = partsGo g l
  | 0, 0, _, _, _ => rfl
  | 0, g + 1, [], _, _ => rfl
  | 0, _ + 1, _ :: _, h, _ => by simp at h
  | f + 1, 0, [], _, _ => rfl
  | _ + 1, 0, _ :: _, _, h => by simp at h
  | f + 1, g + 1, [], _, _ => rfl
  | f + 1, g + 1, a :: r, h1, h2 => by
    have hp := runLen_pos a r
    simp at h1 h2
    unfold partsGo
    rw [partsGo_fuel f g r (by omega) (by omega), partsGo_fuel f g ((a :: r).drop (runLen (a :: r))) (by simp; omega) (by simp; omega)]
theorem partsGo_cons (f : Nat) (a : Int) (r : List Int) : partsGo (f + 1) (a :: r) = if 3 ≤ runLen (a :: r) then (dig a ++ 45 :: dig ((a :: r).getD (runLen (a :: r) - 1) 0)) :: partsGo f ((a :: r).drop (runLen (a :: r))) else dig a :: partsGo f r := rfl
theorem parts_run (a : Int) (r : List Int) (h : 3 ≤ runLen (a :: r)) : parts (a :: r) = (dig a ++ 45 :: dig ((a :: r).getD (runLen (a :: r) - 1) 0)) :: parts ((a :: r).drop (runLen (a :: r))) := by
  have hp := runLen_pos a r
  show partsGo (r.length + 1) (a :: r) = _
  rw [partsGo_cons, if_pos h, partsGo_fuel r.length _ ((a :: r).drop (runLen (a :: r))) (by simp; omega) (Nat.le_refl _)]
  rfl
theorem parts_one (a : Int) (r : List Int) (h : ¬ 3 ≤ runLen (a :: r)) : parts (a :: r) = dig a :: parts r := by
  show partsGo (r.length + 1) (a :: r) = _
  rw [partsGo_cons, if_neg h]
  rfl
theorem parts_nil : parts [] = [] := rfl
theorem dig_eq (n : Int) : ∃ m : Nat, m ≤ 999999 ∧ Cnt.cut n = (m : Int) ∧ dig n = Cnt.decF 6 m := by
  have h0 := Cnt.cut_lo n
  have h1 := Cnt.cut_hi n
  refine ⟨(Cnt.cut n).toNat, by omega, by omega, ?_⟩
  unfold dig
  rw [Cnt.text_cut]
  have e : Cnt.cut n = (((Cnt.cut n).toNat : Nat) : Int) := by omega
  obtain ⟨m, hm⟩ : ∃ m, m = (Cnt.cut n).toNat := ⟨_, rfl⟩
  rw [← hm] at e ⊢
  rw [e, Cnt.text_dec _ (by omega) 0 (by simp) (by simp) (by simp)]
theorem decF_ne (f n : Nat) : Cnt.decF (f + 1) n ≠ [] := by
  unfold Cnt.decF
  split <;> simp
theorem dig_ne (n : Int) : dig n ≠ [] := by
  obtain ⟨m, _, _, h⟩ := dig_eq n
  rw [h]
  exact decF_ne 5 m
theorem dig_length (n : Int) : (dig n).length ≤ 6 := by
  obtain ⟨m, _, _, h⟩ := dig_eq n
  rw [h]
  exact Cnt.decF_length 6 m
theorem join_ne (t : List UInt8) (r : List (List UInt8)) (h : t ≠ []) : join (t :: r) ≠ [] := by
  cases r with
  | nil => exact h
  | cons u r => simp [join]
/-- the length of the text -/
theorem join_length (k : Nat) : ∀ l : List (List UInt8), (∀ t ∈ l, t.length ≤ k) → (join l).length ≤ (k + 2) * l.length
  | [], _ => by simp [join]
  | [t], h => by have := h t (by simp); simp [join]; omega
  | t :: u :: r, h => by
    have h1 := h t (by simp)
    have h2 := join_length k (u :: r) (fun x hx => h x (List.mem_cons_of_mem _ hx))
    simp only [join, List.length_append, List.length_cons] at h2 ⊢
    have : (k + 2) * (r.length + 1 + 1) = (k + 2) * (r.length + 1) + (k + 2) := by rw [Nat.mul_add]; omega
    omega
end Ix
end Go.Proofs.YthoblbdkmlggbaaGreatDoor
