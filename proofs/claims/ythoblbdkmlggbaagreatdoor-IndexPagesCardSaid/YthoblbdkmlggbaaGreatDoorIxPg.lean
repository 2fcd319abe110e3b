/- Which pages a text names: the plain half of IndexPages. No program in sight. -/
import Derived.Test.YthoblbdkmlggbaaGreatDoorIxP
set_option linter.unusedSimpArgs false
set_option linter.unusedVariables false
namespace Go.Proofs.YthoblbdkmlggbaaGreatDoor
namespace Ix
/-- numbers from k on, ahead of n, struck out: each one must be there (or be 0) -/
def clr : Nat → Nat → Nat → List Bool → Option (List Bool)
  | 0, _, _, ins => some ins
  | f + 1, k, n, ins => if k < n ∧ k < 62 then (if ins[k]? = some false ∧ 0 < k then none else clr f (k + 1) n (ins.set k false)) else some ins
structure Scn where
  n : Nat
  fr : Nat
  ins : List Bool
def term (s : Scn) : Option (List Bool) := clr 62 (if s.fr = 0 then s.n else s.fr) (s.n + 1) s.ins
def isDig (c : UInt8) : Bool := decide (48 ≤ c.toNat) && decide (c.toNat ≤ 57)
def step (c : UInt8) (s : Scn) : Option Scn :=
  if isDig c then (if s.n * 10 + (c.toNat - 48) ≤ 999999 then some ⟨s.n * 10 + (c.toNat - 48), s.fr, s.ins⟩ else none)
  else if c = 45 then some ⟨0, s.n, s.ins⟩
  else if c = 44 then (term s).map fun r => ⟨0, 0, r⟩
  else some ⟨0, s.fr, s.ins⟩
def scan : List UInt8 → Scn → Option (List Bool)
  | [], s => term s
  | c :: r, s => (step c s).bind (scan r)
theorem clr_len : ∀ (f k n : Nat) (l r : List Bool), clr f k n l = some r → r.length = l.length
  | 0, _, _, l, r, h => by simp [clr] at h; rw [h]
  | f + 1, k, n, l, r, h => by
    unfold clr at h
    split at h
    · split at h
      · simp at h
      · rw [clr_len f _ _ _ _ h, List.length_set]
    · simp at h; rw [h]
theorem clr_stop (f k n : Nat) (l : List Bool) (h : ¬ (k < n ∧ k < 62)) : clr f k n l = some l := by
  cases f with
  | zero => rfl
  | succ f => unfold clr; rw [if_neg h]
/-- which of 62 numbers a list has -/
def memb (L : List Int) : List Bool := (List.range 62).map fun k : Nat => decide ((k : Int) ∈ L)
theorem memb_len (L : List Int) : (memb L).length = 62 := by simp [memb]
theorem memb_get (L : List Int) (k : Nat) (h : k < 62) : (memb L)[k]? = some (decide ((k : Int) ∈ L)) := by
  unfold memb
  rw [List.getElem?_map, List.getElem?_range h]
  rfl
theorem memb_same (L M : List Int) (h : ∀ x, x ∈ L ↔ x ∈ M) : memb L = memb M := by
  unfold memb
  exact List.map_congr_left fun k _ => decide_eq_decide.2 (h k)
theorem memb_set (L : List Int) (k : Nat) (b : Bool) (h : k < 62) (M : List Int) (hM : ∀ x : Int, x ∈ M ↔ if x = (k : Int) then b = true else x ∈ L) : (memb L).set k b = memb M := by
  apply List.ext_getElem?
  intro j
  rw [List.getElem?_set, memb_len]
  by_cases hj : j < 62
  · rw [memb_get M j hj, memb_get L j hj]
    by_cases hk : k = j
    · subst hk
      rw [if_pos rfl, if_pos hj]
      have := hM (k : Int)
      rw [if_pos rfl] at this
      cases b <;> simp_all
    · rw [if_neg hk]
      have := hM (j : Int)
      rw [if_neg (by omega)] at this
      exact congrArg some (decide_eq_decide.2 this.symm)
  · have h1 : (memb L)[j]? = none := List.getElem?_eq_none (by rw [memb_len]; omega)
    have h2 : (memb M)[j]? = none := List.getElem?_eq_none (by rw [memb_len]; omega)
    rw [if_neg (by omega), h1, h2]
/-- a run at the start of a rising list is struck out -/
theorem clr_run : ∀ (K : Nat) (L : List Int) (k f : Nat), K ≤ f → K ≤ L.length → (∀ j, j < K → L[j]? = some ((k + j : Nat) : Int)) → L.Pairwise (· < ·) → (∀ x ∈ L, 1 ≤ x ∧ x ≤ 60) →
    clr f k (k + K) (memb L) = some (memb (L.drop K))
  | 0, L, k, f, _, _, _, _, _ => by rw [clr_stop _ _ _ _ (by omega), List.drop_zero]
  | K + 1, [], k, f, _, h, _, _, _ => by simp at h
  | K + 1, a :: r, k, 0, h, _, _, _, _ => by omega
  | K + 1, a :: r, k, f + 1, hf, hl, hj, hs, hp => by
    have ha := hj 0 (by omega)
    simp at ha
    subst ha
    have hk := hp (k : Int) (by simp)
    rw [List.pairwise_cons] at hs
    have hnk : (k : Int) ∉ r := fun h => by have := hs.1 _ h; omega
    unfold clr
    rw [if_pos (by omega), if_neg (by rw [memb_get _ _ (by omega)]; simp)]
    rw [memb_set _ k false (by omega) r (fun x => by
      by_cases hx : x = (k : Int)
      · rw [if_pos hx, hx]; simp [hnk]
      · rw [if_neg hx]; simp [hx])]
    have := clr_run K r (k + 1) f (by omega) (by simpa using hl) (fun j hjk => by
      have := hj (j + 1) (by omega)
      simp at this
      rw [this]
      congr 1
      omega) hs.2 (fun x hx => hp x (by simp [hx]))
    rw [List.drop_succ_cons, ← this]
    congr 1
    omega
/-- digits -/
theorem scan_dec : ∀ (f n : Nat) (fr : Nat) (ins : List Bool) (rest : List UInt8), 0 < f → n < 10 ^ f → n ≤ 999999 → scan (Cnt.decF f n ++ rest) ⟨0, fr, ins⟩ = scan rest ⟨n, fr, ins⟩
  | 0, _, _, _, _, h, _, _ => by omega
  | f + 1, n, fr, ins, rest, _, hn, hm => by
    have hd : ∀ (a d : Nat) (r : List UInt8), d < 10 → a * 10 + d ≤ 999999 → scan (UInt8.ofNat (48 + d) :: r) ⟨a, fr, ins⟩ = scan r ⟨a * 10 + d, fr, ins⟩ := by
      intro a d r h1 h2
      have e : (UInt8.ofNat (48 + d)).toNat = 48 + d := by
        rw [UInt8.toNat_ofNat']
        omega
      show (step _ _).bind _ = _
      unfold step
      rw [if_pos (by unfold isDig; rw [e]; simp; omega)]
      simp only [e]
      rw [show 48 + d - 48 = d by omega, if_pos h2]
      rfl
    unfold Cnt.decF
    split
    · rename_i h10
      rw [List.singleton_append, hd 0 n rest h10 (by omega)]
      simp
    · rename_i h10
      rw [List.append_assoc, scan_dec f (n / 10) fr ins _ (by
        rcases f with _ | f
        · simp at hn; omega
        · omega) (by rw [Nat.pow_succ] at hn; omega) (by omega), List.singleton_append, hd _ _ rest (Nat.mod_lt _ (by omega)) (by omega), show n / 10 * 10 + n % 10 = n by omega]
theorem scan_dig (a : Int) (fr : Nat) (ins : List Bool) (rest : List UInt8) (h : 1 ≤ a) (h2 : a ≤ 60) : scan (dig a ++ rest) ⟨0, fr, ins⟩ = scan rest ⟨a.toNat, fr, ins⟩ := by
  obtain ⟨m, hm, hc, hd⟩ := dig_eq a
  have hc2 : Cnt.cut a = a := by unfold Cnt.cut; (repeat' split) <;> omega
  rw [hd, scan_dec 6 m fr ins rest (by omega) (by omega) hm, show a.toNat = m by omega]
theorem runLen_run : ∀ (L : List Int) (a : Int), L[0]? = some a → ∀ j, j < runLen L → L[j]? = some (a + j)
  | [], a, h, j, hj => by simp at h
  | [b], a, h, j, hj => by
    simp at h
    simp [runLen] at hj
    subst hj
    simp [h]
  | b :: c :: r, a, h, j, hj => by
    simp at h
    subst h
    unfold runLen at hj
    cases j with
    | zero => simp
    | succ j =>
      simp only at hj
      split at hj
      · rename_i hc
        subst hc
        have := runLen_run ((b + 1) :: r) (b + 1) rfl j (by omega)
        rw [List.getElem?_cons_succ, this]
        congr 1
        omega
      · omega
theorem scan_nil : scan (join (parts [])) ⟨0, 0, memb []⟩ = some (memb []) := by
  show clr 62 0 1 (memb []) = _
  unfold clr
  rw [if_pos (by omega), if_neg (by omega), clr_stop _ _ _ _ (by omega), memb_set [] 0 false (by omega) [] (fun x => by simp)]
/-- what a part of the text strikes out -/
theorem scan_parts : ∀ (f : Nat) (L : List Int), L.length ≤ f → L.Pairwise (· < ·) → (∀ x ∈ L, 1 ≤ x ∧ x ≤ 60) → scan (join (parts L)) ⟨0, 0, memb L⟩ = some (memb [])
  | 0, [], _, _, _ => scan_nil
  | 0, _ :: _, h, _, _ => by simp at h
  | f + 1, [], _, _, _ => scan_nil
  | f + 1, a :: r, hl, hs, hp => by
    have ha := hp a (by simp)
    simp at hl
    -- one part t, and what is left
    have key : ∀ (t : List UInt8) (K : Nat), 1 ≤ K → K ≤ runLen (a :: r) → parts (a :: r) = t :: parts ((a :: r).drop K) →
        (∀ rest, ∃ s : Scn, scan (t ++ rest) ⟨0, 0, memb (a :: r)⟩ = scan rest s ∧ term s = some (memb ((a :: r).drop K))) →
        scan (join (parts (a :: r))) ⟨0, 0, memb (a :: r)⟩ = some (memb []) := by
      intro t K hK1 hK2 hpt hsc
      rw [hpt]
      have ih := scan_parts f ((a :: r).drop K) (by simp; omega) (hs.sublist (List.drop_sublist _ _)) (fun x hx => hp x (List.mem_of_mem_drop hx))
      cases hq : parts ((a :: r).drop K) with
      | nil =>
        rw [hq] at ih
        obtain ⟨s, h1, h2⟩ := hsc []
        rw [List.append_nil] at h1
        show scan t _ = _
        rw [h1]
        show term s = _
        rw [h2]
        generalize hD : (a :: r).drop K = D at *
        cases D with
        | nil => rfl
        | cons d D =>
          exfalso
          by_cases h3 : 3 ≤ runLen (d :: D)
          · rw [parts_run d D h3] at hq; simp at hq
          · rw [parts_one d D h3] at hq; simp at hq
      | cons u us =>
        rw [hq] at ih
        obtain ⟨s, h1, h2⟩ := hsc (44 :: 32 :: join (u :: us))
        show scan (t ++ 44 :: 32 :: join (u :: us)) _ = _
        rw [h1]
        show (step 44 s).bind _ = _
        have : step 44 s = some ⟨0, 0, memb ((a :: r).drop K)⟩ := by
          unfold step
          rw [if_neg (by decide), if_neg (by decide), if_pos rfl, h2]
          rfl
        rw [this]
        exact ih
    have hrl := runLen_le (a :: r)
    have hrp := runLen_pos a r
    have hrun := runLen_run (a :: r) a rfl
    obtain ⟨k, hk⟩ : ∃ k : Nat, a = (k : Int) := ⟨a.toNat, by omega⟩
    by_cases h3 : 3 ≤ runLen (a :: r)
    · refine key _ (runLen (a :: r)) (by omega) (Nat.le_refl _) (parts_run a r h3) (fun rest => ?_)
      have hlast := hrun (runLen (a :: r) - 1) (by omega)
      have hgd : (a :: r).getD (runLen (a :: r) - 1) 0 = a + ((runLen (a :: r) - 1 : Nat) : Int) := by
        rw [List.getD_eq_getElem?_getD, hlast]; rfl
      have hlb := hp _ (List.mem_of_getElem? hlast)
      rw [hgd]
      generalize hK : runLen (a :: r) = K at *
      refine ⟨⟨(a + ((K - 1 : Nat) : Int)).toNat, a.toNat, memb (a :: r)⟩, ?_, ?_⟩
      · rw [List.append_assoc, scan_dig a 0 _ _ ha.1 ha.2]
        show (step 45 _).bind _ = _
        have : step 45 ⟨a.toNat, 0, memb (a :: r)⟩ = some ⟨0, a.toNat, memb (a :: r)⟩ := by
          unfold step
          rw [if_neg (by decide), if_pos rfl]
        rw [this]
        show scan (dig (a + ((K - 1 : Nat) : Int)) ++ rest) _ = _
        rw [scan_dig _ _ _ _ hlb.1 hlb.2]
      · unfold term
        show clr 62 (if a.toNat = 0 then _ else a.toNat) _ _ = _
        rw [if_neg (by omega)]
        have := clr_run K (a :: r) k 62 (by
          have h9 := hlb.2
          omega) hrl (fun j hj => by rw [hrun j hj, hk]; rfl) hs hp
        show clr 62 a.toNat ((a + ((K - 1 : Nat) : Int)).toNat + 1) (memb (a :: r)) = _
        rw [show a.toNat = k by omega, show (a + ((K - 1 : Nat) : Int)).toNat + 1 = k + K by omega]
        exact this
    · refine key _ 1 (Nat.le_refl _) hrp (parts_one a r h3) (fun rest => ?_)
      refine ⟨⟨a.toNat, 0, memb (a :: r)⟩, scan_dig a 0 _ _ ha.1 ha.2, ?_⟩
      unfold term
      show clr 62 (if 0 = 0 then a.toNat else 0) (a.toNat + 1) _ = _
      rw [if_pos rfl]
      have := clr_run 1 (a :: r) k 62 (by omega) (by simp) (fun j hj => by rw [hrun j (by omega), hk]; rfl) hs hp
      rw [show a.toNat = k by omega]
      exact this
theorem scan_text (l : List Int) (h : ∀ x ∈ l, 1 ≤ x ∧ x ≤ 60) : scan (text l) ⟨0, 0, memb l⟩ = some (memb []) := by
  have h1 : ∀ x, x ∈ rising [] l ↔ x ∈ l := fun x => by
    rw [mem_rising]
    simp [page]
    intro hx
    have := h x hx
    omega
  rw [memb_same l (rising [] l) (fun x => (h1 x).symm)]
  exact scan_parts _ _ (Nat.le_refl _) (rising_sorted l [] List.Pairwise.nil) (fun x hx => h x ((h1 x).1 hx))
end Ix
end Go.Proofs.YthoblbdkmlggbaaGreatDoor
