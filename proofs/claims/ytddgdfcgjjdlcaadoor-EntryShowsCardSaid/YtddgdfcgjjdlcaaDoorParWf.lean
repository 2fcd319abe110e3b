/- The walks of package entry's reader: what the whole reading needs of an entry. -/
import Derived.Test.YtddgdfcgjjdlcaaDoorParWd
namespace Go.Proofs.YtddgdfcgjjdlcaaDoor
open Go.RowKit
namespace Ent
theorem valueN_tlen : ∀ (n : Nat) (acc : List UInt8) (σ : RS) (t : List UInt8), (valueN n acc σ).1 = some t → t.length ≤ 1000
  | 0, _, _, _, h => by simp [valueN] at h
  | n + 1, acc, σ, t, h => by
    unfold valueN at h
    split at h
    · cases h
    · split at h
      · exact valueN_tlen n _ _ t h
      · cases h; simp; omega
theorem value_tlen (σ : RS) (t : List UInt8) (h : (value σ).1 = some t) : t.length ≤ 1000 := valueN_tlen _ _ _ t h
theorem pair_names (σ : RS) : (pair σ).2.names = σ.names := by
  unfold pair markS
  dsimp only
  split
  · rfl
  · split
    · split <;> exact value_names _
    · rfl
theorem pair_len (σ : RS) : (pair σ).2.rest.length ≤ σ.rest.length := by
  have h1 := mark_len σ.rest
  have h2 := isL_len 61 (mark σ.rest).2
  have h3 := value_len ((σ.at (mark σ.rest).2).at (isL 61 (σ.at (mark σ.rest).2).rest))
  have h4 : ((σ.at (mark σ.rest).2).at (isL 61 (σ.at (mark σ.rest).2).rest)).rest.length ≤ σ.rest.length := Nat.le_trans h2 h1
  unfold pair markS
  dsimp only
  split
  · exact h1
  · split
    · split <;> exact Nat.le_trans h3 h4
    · exact h4
theorem pair_tlen (σ : RS) (m t : List UInt8) (h : (pair σ).1 = some (m, t)) : t.length ≤ 1000 := by
  unfold pair at h
  split at h
  · cases h
  · split at h
    · split at h
      · cases h
      · rename_i t2 h2
        cases h
        exact value_tlen _ _ h2
    · cases h
theorem fieldsN_names : ∀ (n : Nat) (fs : List Fld) (σ : RS), (fieldsN n fs σ).2.names = σ.names
  | 0, _, _ => rfl
  | n + 1, fs, σ => by
    have h1 := pair_names (σ.at (isL 125 (isL 44 (isL 125 σ.rest))))
    unfold fieldsN
    split
    · rfl
    · split
      · split
        · rfl
        · split
          · exact h1
          · split
            · rw [fieldsN_names n]; exact h1
            · rw [fieldsN_names n]; exact h1
      · rfl
theorem fieldsN_len : ∀ (n : Nat) (fs : List Fld) (σ : RS), (fieldsN n fs σ).2.rest.length ≤ σ.rest.length
  | 0, _, _ => Nat.le_refl _
  | n + 1, fs, σ => by
    have a1 := isL_len 125 σ.rest
    have a2 := isL_len 44 (isL 125 σ.rest)
    have a3 := isL_len 125 (isL 44 (isL 125 σ.rest))
    have h1 : (pair (σ.at (isL 125 (isL 44 (isL 125 σ.rest))))).2.rest.length ≤ σ.rest.length := by
      have h2 : (pair (σ.at (isL 125 (isL 44 (isL 125 σ.rest))))).2.rest.length ≤ (isL 125 (isL 44 (isL 125 σ.rest))).length := pair_len _
      omega
    unfold fieldsN
    split
    · exact a1
    · split
      · split
        · show (isL 125 (isL 44 (isL 125 σ.rest))).length ≤ _; omega
        · split
          · exact h1
          · split
            · exact Nat.le_trans (fieldsN_len n _ _) h1
            · exact Nat.le_trans (fieldsN_len n _ _) h1
      · show (isL 44 (isL 125 σ.rest)).length ≤ _; omega
theorem entry_len (σ : RS) : (entry σ).2.rest.length ≤ σ.rest.length := by
  have h1 := mark_len σ.rest
  unfold entry
  split
  · exact h1
  · rename_i k _
    unfold entryB
    dsimp only
    have h2 := isL_len 123 (mark σ.rest).2
    split
    · split
      · unfold entryS
        have h3 : (pair (({ σ with rest := (mark σ.rest).2, kind := small k } : RS).at (isL 123 (mark σ.rest).2))).2.rest.length ≤ (isL 123 (mark σ.rest).2).length := pair_len _
        split
        · dsimp only; omega
        · have h4 := isL_len 125 (pair (({ σ with rest := (mark σ.rest).2, kind := small k } : RS).at (isL 123 (mark σ.rest).2))).2.rest
          split
          · show (isL 125 _).length ≤ _; omega
          · show (isL 125 _).length ≤ _; omega
      · unfold entryK
        have h3 : (mark (isL 123 (mark σ.rest).2)).2.length ≤ (isL 123 (mark σ.rest).2).length := mark_len _
        split
        · show (mark (isL 123 (mark σ.rest).2)).2.length ≤ _; omega
        · have h4 := fieldsN_len ((({ σ with rest := (mark σ.rest).2, kind := small k } : RS).at (isL 123 (mark σ.rest).2)).rest.length + 1) [] ((({ σ with rest := (mark σ.rest).2, kind := small k } : RS).at (isL 123 (mark σ.rest).2)).at (mark (isL 123 (mark σ.rest).2)).2)
          have h5 : ((({ σ with rest := (mark σ.rest).2, kind := small k } : RS).at (isL 123 (mark σ.rest).2)).at (mark (isL 123 (mark σ.rest).2)).2).rest.length ≤ σ.rest.length := by show (mark (isL 123 (mark σ.rest).2)).2.length ≤ _; omega
          split <;> exact Nat.le_trans h4 h5
    · show (isL 123 (mark σ.rest).2).length ≤ _; omega
theorem entry_names (σ : RS) (h : NamesOk σ) : NamesOk (entry σ).2 := by
  unfold entry
  split
  · exact h
  · rename_i k _
    unfold entryB
    dsimp only
    split
    · split
      · unfold entryS
        have h3 := pair_names (({ σ with rest := (mark σ.rest).2, kind := small k } : RS).at (isL 123 (mark σ.rest).2))
        split
        · unfold NamesOk; rw [h3]; exact h
        · rename_i m t hp
          have h4 := pair_tlen _ m t hp
          split
          · intro x t2 hx
            dsimp only at hx
            split at hx
            · cases hx; exact h4
            · rw [h3] at hx; exact h x t2 hx
          · unfold NamesOk
            show ∀ x t, (pair _).2.names x = some t → _
            rw [h3]; exact h
      · unfold entryK
        split
        · exact h
        · split
          · unfold NamesOk; dsimp only; rw [fieldsN_names]; exact h
          · unfold NamesOk; dsimp only; rw [fieldsN_names]; exact h
    · exact h
theorem entry_keylen (σ : RS) (x : Ent) (h : (entry σ).1 = some (some x)) : x.key.length ≤ σ.rest.length := by
  have h1 := mark_len σ.rest
  unfold entry at h
  split at h
  · cases h
  · unfold entryB at h
    dsimp only at h
    have h2 := isL_len 123 (mark σ.rest).2
    split at h
    · split at h
      · unfold entryS at h
        split at h
        · cases h
        · split at h <;> cases h
      · unfold entryK at h
        split at h
        · cases h
        · rename_i y hy
          have h3 : y.length ≤ (isL 123 (mark σ.rest).2).length := mark_tlen _ y hy
          split at h
          · cases h
          · injection h with h
            injection h with h
            rw [← h]
            show y.length ≤ _
            omega
    · cases h
end Ent
end Go.Proofs.YtddgdfcgjjdlcaaDoor
