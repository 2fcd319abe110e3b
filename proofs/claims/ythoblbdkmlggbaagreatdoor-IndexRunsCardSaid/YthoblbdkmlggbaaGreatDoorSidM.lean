/- Plain laws of layer 10: the document's decoding, which looks at nothing but what it needs, is the same; labels by their keys. Plain Lean, no program in sight. -/
import Derived.Test.YthoblbdkmlggbaaGreatDoorSidL
namespace Go.Proofs.YthoblbdkmlggbaaGreatDoor.Sd
def part (p : List (List UInt8)) (i : Nat) : List UInt8 := p.getD i []
def numAt (p : List (List UInt8)) (i : Nat) : Int := val (part p i)
def stepP (x : Side) (p : List (List UInt8)) : Side :=
  if part p 0 = labW then { x with labs := x.labs ++ [⟨part p 1, part p 2, numAt p 3⟩] }
  else if part p 0 = headW then { x with heads := x.heads ++ [⟨numAt p 1, part p 2, part p 3, numAt p 4⟩] }
  else if part p 0 = citeW then { x with cites := x.cites ++ [part p 1] }
  else if part p 0 = bibW then { x with bibs := x.bibs ++ [part p 1] }
  else x
def stepR (x : Side) (t : List UInt8) : Side := stepP x ((all t).getD [])
def readR (s : List UInt8) : Side := ((all s).getD []).foldl stepR none_
def decR (s : List UInt8) : Option Side := if right (readR s) && encN (readR s) == s then some (readR s) else none
theorem take1_step (x y : Side) (p : List (List UInt8)) (h : take1 x p = some y) : stepP x p = y := by
  unfold take1 at h
  split at h
  · next w a =>
    by_cases h1 : w = citeW
    · rw [if_pos h1] at h
      subst h1
      exact Option.some.inj h
    · rw [if_neg h1] at h
      by_cases h2 : w = bibW
      · rw [if_pos h2] at h
        subst h2
        exact Option.some.inj h
      · rw [if_neg h2] at h; cases h
  · next w a b c =>
    by_cases h1 : w = labW
    · rw [if_pos h1] at h
      subst h1
      exact Option.some.inj h
    · rw [if_neg h1] at h; cases h
  · next w a b c d =>
    by_cases h1 : w = headW
    · rw [if_pos h1] at h
      subst h1
      exact Option.some.inj h
    · rw [if_neg h1] at h; cases h
  · cases h
theorem takeAll_fold : ∀ (ts : List (List UInt8)) (x y : Side), takeAll x ts = some y → ts.foldl stepR x = y
  | [], x, y, h => Option.some.inj h
  | t :: ts, x, y, h => by
    rw [takeAll] at h
    rw [List.foldl_cons]
    cases ha : all t with
    | none => rw [ha] at h; cases h
    | some ps =>
      rw [ha] at h
      simp only at h
      cases hp : take1 x ps with
      | none => rw [hp] at h; cases h
      | some z =>
        rw [hp] at h
        have : stepR x t = z := by unfold stepR; rw [ha]; exact take1_step x z ps hp
        rw [this]
        exact takeAll_fold ts z y h
theorem decR_eq (s : List UInt8) : decR s = dec s := by
  cases hd : dec s with
  | some x =>
    obtain ⟨h1, h2⟩ := dec_sound s x hd
    have hs := right_small x h1
    have : readR s = x := by
      unfold readR
      rw [← h2, all_enc x hs]
      exact takeAll_fold _ _ _ (takeAll_recs x hs)
    unfold decR
    rw [this, h1, h2]
    simp
  | none =>
    unfold decR
    split
    · next h =>
      rw [Bool.and_eq_true, beq_iff_eq] at h
      have := dec_enc (readR s) h.1
      rw [h.2, hd] at this
      cases this
    · rfl

/-! ### labels by their keys -/
theorem keysN_fresh : ∀ (l before : List (List UInt8)), keysN before l = true → ∀ s ∈ l, (before.any fun g => g == s) = false
  | [], _, _, s, hs => by simp at hs
  | t :: l, before, h, s, hs => by
    rw [keysN, Bool.and_eq_true, Bool.and_eq_true] at h
    rcases List.mem_cons.1 hs with rfl | hs
    · simpa using h.1.2
    · have := keysN_fresh l _ h.2 s hs
      rw [List.any_append, Bool.or_eq_false_iff] at this
      exact this.1
theorem find_at : ∀ (ls : List Lab) (before : List (List UInt8)) (i : Nat) (l : Lab), keysN before (ls.map Lab.key) = true → ls[i]? = some l → find ls l.key = some l
  | [], _, i, l, _, h => by simp at h
  | h :: t, before, 0, l, _, hi => by
    simp at hi; subst hi
    simp [find]
  | h :: t, before, i + 1, l, hk, hi => by
    rw [List.map_cons, keysN, Bool.and_eq_true] at hk
    have hm : l ∈ t := List.mem_of_getElem? (by simpa using hi)
    have hf := keysN_fresh _ _ hk.2 l.key (List.mem_map.2 ⟨l, hm, rfl⟩)
    rw [List.any_append, Bool.or_eq_false_iff] at hf
    have hne : (h.key == l.key) = false := by simpa using hf.2
    have := find_at t _ i l hk.2 (by simpa using hi)
    unfold find at this ⊢
    rw [List.find?_cons, hne]
    exact this
theorem find_own (x : Side) (h : right x = true) (i : Nat) (l : Lab) (hi : x.labs[i]? = some l) : find x.labs l.key = some l := by
  unfold right at h
  rw [Bool.and_eq_true] at h
  exact find_at _ _ i l h.2 hi
theorem find_some (ls : List Lab) (k : List UInt8) : (find ls k).isSome = ls.any fun x => x.key == k := by
  unfold find
  rw [Bool.eq_iff_iff, List.find?_isSome, List.any_eq_true]
end Go.Proofs.YthoblbdkmlggbaaGreatDoor.Sd
