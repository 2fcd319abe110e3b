/- What the laws of chapter 10 share. -/
import Derived.Test.YtimmmjmmjokdbaaGreatDoorSidWh
set_option linter.unusedSimpArgs false
set_option linter.unusedVariables false
namespace Go.Proofs.YtimmmjmmjokdbaaGreatDoor
open Go.RowKit
namespace Sd
/-- how long a side's bytes are -/
theorem enc_len (x : Side) (h : right x = true) : (encN x).length ≤ 107184 := by
  have hs := right_small x h
  have h' := h
  unfold right at h'
  simp only [Bool.and_eq_true, decide_eq_true_eq, List.all_eq_true] at h'
  obtain ⟨⟨⟨⟨⟨⟨⟨⟨n1, n2⟩, n3⟩, n4⟩, hc⟩, hb⟩, hl⟩, hh⟩, hk⟩ := h'
  have hr : ∀ t ∈ recs x, t.length ≤ 340 := by
    intro t ht
    unfold recs at ht
    simp only [List.mem_append, List.mem_map] at ht
    rcases ht with ((⟨l, hm, rfl⟩ | ⟨l, hm, rfl⟩) | ⟨l, hm, rfl⟩) | ⟨l, hm, rfl⟩
    · have h1 := hl l hm
      have h2 := key_len _ (keysN_key _ _ hk l.key (List.mem_map.2 ⟨l, hm, rfl⟩))
      simp only [labOk, pageOk, Bool.and_eq_true, decide_eq_true_eq] at h1
      have h3 := dig_len l.page h1.2.1 h1.2.2
      have := puts_le [labW, l.key, l.num, dig l.page] 60 (by omega) (by
        intro t ht
        simp only [List.mem_cons, List.not_mem_nil, or_false] at ht
        rcases ht with rfl | rfl | rfl | rfl
        · decide
        · omega
        · omega
        · omega)
      simp only [List.length_cons, List.length_nil] at this
      unfold recL
      omega
    · have h1 := hh l hm
      simp only [headOk, pageOk, Bool.and_eq_true, decide_eq_true_eq] at h1
      have h2 := key_len _ h1.2
      have h3 := dig_len l.page h1.1.1.1.2.1 h1.1.1.1.2.2
      have h4 := dig_len l.level (by omega) (by omega)
      have := puts_le [headW, dig l.level, l.num, l.title, dig l.page] 60 (by omega) (by
        intro t ht
        simp only [List.mem_cons, List.not_mem_nil, or_false] at ht
        rcases ht with rfl | rfl | rfl | rfl | rfl
        · decide
        · omega
        · omega
        · omega
        · omega)
      simp only [List.length_cons, List.length_nil] at this
      unfold recH
      omega
    · have h2 := key_len _ (keysN_key _ _ hc l hm)
      have := puts_le [citeW, l] 60 (by omega) (by
        intro t ht
        simp only [List.mem_cons, List.not_mem_nil, or_false] at ht
        rcases ht with rfl | rfl
        · decide
        · omega)
      simp only [List.length_cons, List.length_nil] at this
      unfold recC
      omega
    · have h2 := key_len _ (keysN_key _ _ hb l hm)
      have := puts_le [bibW, l] 60 (by omega) (by
        intro t ht
        simp only [List.mem_cons, List.not_mem_nil, or_false] at ht
        rcases ht with rfl | rfl
        · decide
        · omega)
      simp only [List.length_cons, List.length_nil] at this
      unfold recB
      omega
  have hn : (recs x).length ≤ 308 := by unfold recs; simp only [List.length_append, List.length_map]; omega
  have := puts_le (recs x) 340 (by omega) hr
  rw [encN_puts]
  omega
theorem right_enc (x : Side) : (∃ s, enc x = (s, 0) ∧ right x = true ∧ s = encN x ∧ s.length ≤ 107184) ∨ (enc x = ([], 5) ∧ right x = false) := by
  unfold enc
  by_cases h : right x = true
  · exact .inl ⟨_, if_pos h, h, rfl, enc_len x h⟩
  · exact .inr ⟨if_neg h, by simpa using h⟩
end Sd
theorem OSide.below {w w' : World} {v : Value} {x : Sd.Side} (h : OSide w v x) (hb : Below w.heap.size w w') : OSide w' v x := by
  obtain ⟨pl, cl, ph, ch, pc, cc, pb, cb, e, h1, h2, h3, h4⟩ := h.ex
  exact ⟨⟨pl, cl, ph, ch, pc, cc, pb, cb, e, h1.below hb (fun _ _ _ h => h), h2.below hb (fun _ _ _ h => h), h3.below hb (fun _ _ _ h => h), h4.below hb (fun _ _ _ h => h)⟩, h.labs, h.heads, h.cites, h.bibs⟩
theorem cut80_le (s : List UInt8) : (cut80 s).length ≤ 80 := by unfold cut80; rw [List.length_take]; omega
theorem cutS_len (n : Nat) (x : Sd.Side) : (cutS n x).labs.length ≤ n ∧ (cutS n x).heads.length ≤ n ∧ (cutS n x).cites.length ≤ n ∧ (cutS n x).bibs.length ≤ n := by
  unfold cutS
  simp only [List.length_map, List.length_take]
  omega
theorem cutS_lab (n : Nat) (x : Sd.Side) : ∀ l ∈ (cutS n x).labs, l.key.length ≤ 80 ∧ l.num.length ≤ 80 := by
  intro l hl
  obtain ⟨y, _, rfl⟩ := List.mem_map.1 hl
  exact ⟨cut80_le _, cut80_le _⟩
theorem cutS_head (n : Nat) (x : Sd.Side) : ∀ l ∈ (cutS n x).heads, l.num.length ≤ 80 ∧ l.title.length ≤ 80 := by
  intro l hl
  obtain ⟨y, _, rfl⟩ := List.mem_map.1 hl
  exact ⟨cut80_le _, cut80_le _⟩
theorem cutS_cite (n : Nat) (x : Sd.Side) : ∀ l ∈ (cutS n x).cites, l.length ≤ 80 := by
  intro l hl
  obtain ⟨y, _, rfl⟩ := List.mem_map.1 hl
  exact cut80_le _
theorem cutS_bib (n : Nat) (x : Sd.Side) : ∀ l ∈ (cutS n x).bibs, l.length ≤ 80 := by
  intro l hl
  obtain ⟨y, _, rfl⟩ := List.mem_map.1 hl
  exact cut80_le _
theorem cutS_sm (n : Nat) (x : Sd.Side) (hn : n ≤ 1000) : SideSm (cutS n x) := by
  obtain ⟨a, b, c, d⟩ := cutS_len n x
  exact ⟨by omega, by omega, by omega, by omega, fun l hl => by have := cutS_lab n x l hl; omega, fun l hl => by have := cutS_head n x l hl; omega, fun l hl => by have := cutS_cite n x l hl; omega, fun l hl => by have := cutS_bib n x l hl; omega⟩
theorem four_set {g : Nat} {w : World} {o0 o1 o2 o3 : Value} (a b c d : Value) (h : Four g w #[o0, o1, o2, o3]) :
    Four g ((((w.setCell ⟨g, 0, none⟩ a).setCell ⟨g, 1, none⟩ b).setCell ⟨g, 2, none⟩ c).setCell ⟨g, 3, none⟩ d) #[a, b, c, d] := by
  have d0 := h.2 0 _ rfl; have d1 := h.2 1 _ rfl; have d2 := h.2 2 _ rfl; have d3 := h.2 3 _ rfl
  refine ⟨by simpa [World.setCell] using h.1, ?_⟩
  have q0 : ((((w.setCell ⟨g, 0, none⟩ a).setCell ⟨g, 1, none⟩ b).setCell ⟨g, 2, none⟩ c).setCell ⟨g, 3, none⟩ d).cell? ⟨g, 0, none⟩ = some a := by
    rw [World.cell?_setCell_other _ _ _ _ (by simp), World.cell?_setCell_other _ _ _ _ (by simp), World.cell?_setCell_other _ _ _ _ (by simp)]
    exact World.cell?_setCell_same _ _ _ d0
  have q1 : ((((w.setCell ⟨g, 0, none⟩ a).setCell ⟨g, 1, none⟩ b).setCell ⟨g, 2, none⟩ c).setCell ⟨g, 3, none⟩ d).cell? ⟨g, 1, none⟩ = some b := by
    rw [World.cell?_setCell_other _ _ _ _ (by simp), World.cell?_setCell_other _ _ _ _ (by simp)]
    exact World.cell?_setCell_same _ _ _ (by rw [World.cell?_setCell_other _ _ _ _ (by simp)]; exact d1)
  have q2 : ((((w.setCell ⟨g, 0, none⟩ a).setCell ⟨g, 1, none⟩ b).setCell ⟨g, 2, none⟩ c).setCell ⟨g, 3, none⟩ d).cell? ⟨g, 2, none⟩ = some c := by
    rw [World.cell?_setCell_other _ _ _ _ (by simp)]
    exact World.cell?_setCell_same _ _ _ (by rw [World.cell?_setCell_other _ _ _ _ (by simp), World.cell?_setCell_other _ _ _ _ (by simp)]; exact d2)
  have q3 : ((((w.setCell ⟨g, 0, none⟩ a).setCell ⟨g, 1, none⟩ b).setCell ⟨g, 2, none⟩ c).setCell ⟨g, 3, none⟩ d).cell? ⟨g, 3, none⟩ = some d :=
    World.cell?_setCell_same _ _ _ (by rw [World.cell?_setCell_other _ _ _ _ (by simp), World.cell?_setCell_other _ _ _ _ (by simp), World.cell?_setCell_other _ _ _ _ (by simp)]; exact d3)
  intro i u hu
  match i, hu with
  | 0, hu => cases hu; exact q0
  | 1, hu => cases hu; exact q1
  | 2, hu => cases hu; exact q2
  | 3, hu => cases hu; exact q3
theorem four_below {g B : Nat} {a0 w : World} (h : Below B a0 w) (hg : B ≤ g) (a b c d : Value) : Below B a0 ((((w.setCell ⟨g, 0, none⟩ a).setCell ⟨g, 1, none⟩ b).setCell ⟨g, 2, none⟩ c).setCell ⟨g, 3, none⟩ d) :=
  (((h.setCell (p := ⟨g, 0, none⟩) hg a).setCell (p := ⟨g, 1, none⟩) hg b).setCell (p := ⟨g, 2, none⟩) hg c).setCell (p := ⟨g, 3, none⟩) hg d
/-- a side that stands apart from one block that is written -/
theorem heap_set4 (w : World) (g k : Nat) (a b c d : Value) (hk : k ≠ g) : ((((w.setCell ⟨g, 0, none⟩ a).setCell ⟨g, 1, none⟩ b).setCell ⟨g, 2, none⟩ c).setCell ⟨g, 3, none⟩ d).heap[k]? = w.heap[k]? := by
  rw [Below.heap_setCell _ _ _ _ hk, Below.heap_setCell _ _ _ _ hk, Below.heap_setCell _ _ _ _ hk, Below.heap_setCell _ _ _ _ hk]
theorem size_set4 (w : World) (g : Nat) (a b c d : Value) : ((((w.setCell ⟨g, 0, none⟩ a).setCell ⟨g, 1, none⟩ b).setCell ⟨g, 2, none⟩ c).setCell ⟨g, 3, none⟩ d).heap.size = w.heap.size := by
  simp [World.setCell]
theorem SliceIn.off {α : Type} {S : Nat → Prop} {n : Nat} {R : α → List Value → Prop} {w W : World} {v : Value} {xs : List α} (h : SliceIn S n R w v xs) (g : Nat) (hS : ∀ j, S j → j ≠ g) (hz : W.heap.size = w.heap.size) (hb : ∀ k, k ≠ g → W.heap[k]? = w.heap[k]?) : SliceIn (fun _ => True) n R W v xs :=
  h.kept (fun _ _ => trivial) (Nat.le_of_eq hz.symm) (fun b hb' _ => hb b (hS b hb')) (fun _ _ _ h => h)
theorem SideIn.set4 {S : Nat → Prop} {w : World} {v : Value} {x : Sd.Side} (h : SideIn S w v x) (g : Nat) (hS : ∀ j, S j → j ≠ g) (a b c d : Value) : SideIn (fun _ => True) ((((w.setCell ⟨g, 0, none⟩ a).setCell ⟨g, 1, none⟩ b).setCell ⟨g, 2, none⟩ c).setCell ⟨g, 3, none⟩ d) v x := by
  obtain ⟨vl, vh, vc, vb, e, h1, h2, h3, h4⟩ := h
  have hz := size_set4 w g a b c d
  have hb := fun k hk => heap_set4 w g k a b c d hk
  exact ⟨vl, vh, vc, vb, e, h1.off g hS hz hb, h2.off g hS hz hb, h3.off g hS hz hb, h4.off g hS hz hb⟩
theorem SideIn.onlyL {S : Nat → Prop} {w : World} {a b c d : Value} {x : Sd.Side} (h : SideIn S w (.agg #[a, b, c, d]) x) : SideIn (fun _ => True) w (.agg #[a, .slice none 0 0, .slice none 0 0, .slice none 0 0]) (Sd.onlyL x) := by
  obtain ⟨vl, vh, vc, vb, e, h1, h2, h3, h4⟩ := h
  exact ⟨_, _, _, _, rfl, (by cases e; exact h1.any), SliceIn.nil _ _ _ _, SliceIn.nil _ _ _ _, SliceIn.nil _ _ _ _⟩
theorem SideSm.onlyL {x : Sd.Side} (h : SideSm x) : SideSm (Sd.onlyL x) := by
  constructor
  · exact h.labs
  · exact Nat.zero_le _
  · exact Nat.zero_le _
  · exact Nat.zero_le _
  · exact h.lab
  · exact fun l hl => by cases hl
  · exact fun l hl => by cases hl
  · exact fun l hl => by cases hl
theorem SideIn.onlyH {S : Nat → Prop} {w : World} {a b c d : Value} {x : Sd.Side} (h : SideIn S w (.agg #[a, b, c, d]) x) : SideIn (fun _ => True) w (.agg #[.slice none 0 0, b, .slice none 0 0, .slice none 0 0]) (Sd.onlyH x) := by
  obtain ⟨vl, vh, vc, vb, e, h1, h2, h3, h4⟩ := h
  exact ⟨_, _, _, _, rfl, SliceIn.nil _ _ _ _, (by cases e; exact h2.any), SliceIn.nil _ _ _ _, SliceIn.nil _ _ _ _⟩
theorem SideSm.onlyH {x : Sd.Side} (h : SideSm x) : SideSm (Sd.onlyH x) := by
  constructor
  · exact Nat.zero_le _
  · exact h.heads
  · exact Nat.zero_le _
  · exact Nat.zero_le _
  · exact fun l hl => by cases hl
  · exact h.head
  · exact fun l hl => by cases hl
  · exact fun l hl => by cases hl
theorem SideIn.onlyC {S : Nat → Prop} {w : World} {a b c d : Value} {x : Sd.Side} (h : SideIn S w (.agg #[a, b, c, d]) x) : SideIn (fun _ => True) w (.agg #[.slice none 0 0, .slice none 0 0, c, .slice none 0 0]) (Sd.onlyC x) := by
  obtain ⟨vl, vh, vc, vb, e, h1, h2, h3, h4⟩ := h
  exact ⟨_, _, _, _, rfl, SliceIn.nil _ _ _ _, SliceIn.nil _ _ _ _, (by cases e; exact h3.any), SliceIn.nil _ _ _ _⟩
theorem SideSm.onlyC {x : Sd.Side} (h : SideSm x) : SideSm (Sd.onlyC x) := by
  constructor
  · exact Nat.zero_le _
  · exact Nat.zero_le _
  · exact h.cites
  · exact Nat.zero_le _
  · exact fun l hl => by cases hl
  · exact fun l hl => by cases hl
  · exact h.cite
  · exact fun l hl => by cases hl
theorem SideIn.onlyB {S : Nat → Prop} {w : World} {a b c d : Value} {x : Sd.Side} (h : SideIn S w (.agg #[a, b, c, d]) x) : SideIn (fun _ => True) w (.agg #[.slice none 0 0, .slice none 0 0, .slice none 0 0, d]) (Sd.onlyB x) := by
  obtain ⟨vl, vh, vc, vb, e, h1, h2, h3, h4⟩ := h
  exact ⟨_, _, _, _, rfl, SliceIn.nil _ _ _ _, SliceIn.nil _ _ _ _, SliceIn.nil _ _ _ _, (by cases e; exact h4.any)⟩
theorem SideSm.onlyB {x : Sd.Side} (h : SideSm x) : SideSm (Sd.onlyB x) := by
  constructor
  · exact Nat.zero_le _
  · exact Nat.zero_le _
  · exact Nat.zero_le _
  · exact h.bibs
  · exact fun l hl => by cases hl
  · exact fun l hl => by cases hl
  · exact fun l hl => by cases hl
  · exact h.bib
end Go.Proofs.YtimmmjmmjokdbaaGreatDoor
