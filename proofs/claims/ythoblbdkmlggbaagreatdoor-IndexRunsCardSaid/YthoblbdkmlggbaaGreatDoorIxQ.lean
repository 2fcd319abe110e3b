/- The lines of an index: the plain law. No program in sight. -/
import Derived.Test.YthoblbdkmlggbaaGreatDoorIxC
import Derived.Test.YthoblbdkmlggbaaGreatDoorIxP
import Derived.Test.YthoblbdkmlggbaaGreatDoorEntP
set_option linter.unusedSimpArgs false
set_option linter.unusedVariables false
namespace Go.Proofs.YthoblbdkmlggbaaGreatDoor
namespace Ix
theorem tw_mem {p : UInt8 → Bool} {c : UInt8} : ∀ {l : List UInt8}, c ∈ l.takeWhile p → p c = true
  | [], h => by simp at h
  | x :: r, h => by
    rw [List.takeWhile_cons] at h
    split at h
    · next hx =>
      rcases List.mem_cons.1 h with rfl | h
      · exact hx
      · exact tw_mem h
    · simp at h
theorem tw_self {p : UInt8 → Bool} : ∀ {l : List UInt8}, (∀ c ∈ l, p c = true) → l.takeWhile p = l
  | [], _ => rfl
  | x :: r, h => by rw [List.takeWhile_cons, if_pos (h x (by simp)), tw_self fun c hc => h c (List.mem_cons_of_mem _ hc)]
theorem dw_nil {p : UInt8 → Bool} : ∀ {l : List UInt8}, l.dropWhile p = [] ↔ ∀ c ∈ l, p c = true
  | [] => by simp
  | x :: r => by
    rw [List.dropWhile_cons]
    split
    · next hx => rw [dw_nil]; simp [hx]
    · next hx => simp; intro h; exact absurd h hx
theorem flat_congr {α β : Type} {f g : α → List β} : ∀ {l : List α}, (∀ x ∈ l, f x = g x) → l.flatMap f = l.flatMap g
  | [], _ => rfl
  | x :: r, h => by rw [List.flatMap_cons, List.flatMap_cons, h x (by simp), flat_congr fun y hy => h y (List.mem_cons_of_mem _ hy)]
def small (s : List UInt8) : List UInt8 := Ent.small s
theorem ord_of {α : Type} (k : α → List (List UInt8)) (n : Nat) (hn : ∀ a, (k a).length = n) (hi : ∀ a b, k a = k b → a = b) : Ord (fun a b => cmpL (k a) (k b)) where
  eq0 a b h := hi a b (cmpL_eq0 _ _ (by rw [hn, hn]) h)
  refl a := cmpL_refl _
  anti a b := cmpL_anti _ _ (by rw [hn, hn])
  trans a b d := cmpL_trans _ _ _ (by rw [hn, hn]) (by rw [hn, hn])
def kl (s : List UInt8) : List (List UInt8) := [small s, s]
/-- two texts held against each other by letters -/
def cl (a b : List UInt8) : Int := cmpL (kl a) (kl b)
theorem ordL : Ord cl := ord_of kl 2 (fun _ => rfl) (fun a b h => by simp [kl] at h; exact h.2)
/-- a place: main part, sub part, whether there is one -/
abbrev Pl := List UInt8 × List UInt8 × Bool
def flag (b : Bool) : List UInt8 := if b then [1] else [0]
def kp (p : Pl) : List (List UInt8) := [small p.1, p.1, flag p.2.2, small p.2.1, p.2.1]
def cp (a b : Pl) : Int := cmpL (kp a) (kp b)
theorem flag_inj {a b : Bool} (h : flag a = flag b) : a = b := by cases a <;> cases b <;> simp_all [flag]
theorem ordP : Ord cp := ord_of kp 5 (fun _ => rfl) (fun a b h => by
  obtain ⟨a1, a2, a3⟩ := a
  obtain ⟨b1, b2, b3⟩ := b
  simp [kp] at h
  obtain ⟨_, h1, h2, _, h3⟩ := h
  rw [h1, h3, flag_inj h2])
abbrev En := List UInt8 × Int
def cut (w : List UInt8) : Pl := (w.takeWhile (fun c => c != 33), (w.dropWhile (fun c => c != 33)).drop 1, w.contains 33)
def top (p : Pl) : Pl := (p.1, [], false)
def bad (x : En) : Option Int := if page x.2 then (if (cut x.1).1 = [] ∨ ((cut x.1).2.2 = true ∧ (cut x.1).2.1 = []) then some 2 else none) else some 5
def notes (l : List En) : List (Int × List UInt8) := l.filterMap fun x => (bad x).map fun e => (e, x.1)
def good (l : List En) : List En := l.filter fun x => (bad x).isNone
/-- the pages of a place, as they come -/
def pagesAt (l : List En) (p : Pl) : List Int := (good l).flatMap fun x => (if cut x.1 = p then [x.2] else []) ++ (if top (cut x.1) = p then [0] else [])
def has (l : List En) (p : Pl) : Prop := ∃ x ∈ good l, cut x.1 = p ∨ top (cut x.1) = p
def line (l : List En) (p : Pl) : List UInt8 := (if p.2.2 then 32 :: 32 :: p.2.1 else p.1) ++ (if text (pagesAt l p) = [] then [] else 32 :: text (pagesAt l p))
theorem mem_pagesAt (l : List En) (p : Pl) (n : Int) (hn : page n = true) : n ∈ pagesAt l p ↔ ∃ x ∈ good l, cut x.1 = p ∧ x.2 = n := by
  unfold pagesAt
  rw [List.mem_flatMap]
  constructor
  · rintro ⟨x, hx, h⟩
    rcases List.mem_append.1 h with h | h
    · split at h
      · next e =>
        simp at h
        exact ⟨x, hx, e, h.symm⟩
      · simp at h
    · split at h
      · simp at h; subst h; simp [page] at hn
      · simp at h
  · rintro ⟨x, hx, e, rfl⟩
    exact ⟨x, hx, List.mem_append_left _ (by rw [if_pos e]; simp)⟩
theorem good_page (l : List En) (x : En) (h : x ∈ good l) : page x.2 = true ∧ (cut x.1).1 ≠ [] ∧ ((cut x.1).2.2 = true → (cut x.1).2.1 ≠ []) := by
  unfold good at h
  rw [List.mem_filter] at h
  have h2 := h.2
  unfold bad at h2
  split at h2
  · next hp =>
    split at h2
    · simp at h2
    · next hc => exact ⟨hp, fun e => hc (.inl e), fun a b => hc (.inr ⟨a, b⟩)⟩
  · simp at h2
theorem cut_sub (w : List UInt8) (h : (cut w).2.2 = false) : (cut w).2.1 = [] := by
  unfold cut at h ⊢
  simp only at h ⊢
  have : w.dropWhile (fun c => c != 33) = [] := by
    rw [dw_nil]
    intro c hc
    have : ¬ w.contains 33 = true := by rw [h]; simp
    rw [List.contains_iff_mem] at this
    simp
    intro e
    subst e
    exact this hc
  rw [this]
  rfl
theorem cut_main (w : List UInt8) : ∀ c ∈ (cut w).1, c ≠ 33 := by
  intro c hc e
  subst e
  have := tw_mem hc
  simp at this
theorem cut_word (w : List UInt8) : w = (cut w).1 ++ (if (cut w).2.2 then 33 :: (cut w).2.1 else []) := by
  unfold cut
  simp only
  by_cases h : w.contains 33 = true
  · rw [if_pos h]
    conv => lhs; rw [← List.takeWhile_append_dropWhile (p := fun c : UInt8 => c != 33) (l := w)]
    congr 1
    have hne : w.dropWhile (fun c => c != 33) ≠ [] := by
      intro e
      rw [dw_nil] at e
      have := e 33 (by simpa using h)
      simp at this
    have h0 := List.head_dropWhile_not (fun c : UInt8 => c != 33) hne
    cases hd : w.dropWhile (fun c => c != 33) with
    | nil => exact absurd hd hne
    | cons a r =>
      simp only [hd, List.head_cons] at h0
      have : a = 33 := by simpa using h0
      subst this
      rfl
  · rw [if_neg h, List.append_nil]
    have : ∀ c ∈ w, (c != 33) = true := by
      intro c hc
      simp
      intro e
      subst e
      exact h (by simpa using hc)
    rw [tw_self this]
theorem cut_of (m s : List UInt8) (hm : ∀ c ∈ m, c ≠ 33) : cut (m ++ 33 :: s) = (m, s, true) := by
  have h1 : (m ++ 33 :: s).takeWhile (fun c => c != 33) = m := by
    rw [List.takeWhile_append_of_pos (fun a ha => by simpa using hm a ha)]
    simp
  have h2 : (m ++ 33 :: s).dropWhile (fun c => c != 33) = 33 :: s := by
    rw [List.dropWhile_append_of_pos (fun a ha => by simpa using hm a ha)]
    simp
  unfold cut
  rw [h1, h2]
  simp
theorem cut_plain (m : List UInt8) (hm : ∀ c ∈ m, c ≠ 33) : cut m = (m, [], false) := by
  have h1 : m.takeWhile (fun c => c != 33) = m := tw_self (fun a ha => by simpa using hm a ha)
  have h2 : m.dropWhile (fun c => c != 33) = [] := by rw [dw_nil]; intro a ha; simpa using hm a ha
  have h3 : m.contains 33 = false := by
    cases h : m.contains 33 with
    | false => rfl
    | true => exact absurd rfl (hm 33 (by simpa using h))
  unfold cut
  rw [h1, h2, h3]
  rfl
/-- what a word's main and sub parts say -/
theorem word_sub (w m s : List UInt8) (hm : ∀ c ∈ m, c ≠ 33) : w = m ++ 33 :: s ↔ cut w = (m, s, true) := by
  constructor
  · rintro rfl; exact cut_of m s hm
  · intro h
    have := cut_word w
    rw [h] at this
    simpa using this
theorem word_main (w m : List UInt8) (hm : ∀ c ∈ m, c ≠ 33) : w = m ↔ cut w = (m, [], false) := by
  constructor
  · intro h; subst h; exact cut_plain _ hm
  · intro h
    have := cut_word w
    rw [h] at this
    simpa using this

/-! ### the document's answer -/
def mainsOf (l : List En) : List (List UInt8) := onces cl [] ((good l).map fun x => (cut x.1).1)
def namesOf (l : List En) (m : List UInt8) : List (List UInt8) := onces cl [] (((good l).filter fun x => (cut x.1).2.2 && (cut x.1).1 == m).map fun x => (cut x.1).2.1)
def subPages (l : List En) (m s : List UInt8) : List Int := ((good l).filter fun x => x.1 == m ++ 33 :: s).map (·.2)
def mainPages (l : List En) (m : List UInt8) : List Int := ((good l).filter fun x => x.1 == m).map (·.2)
def subLines (l : List En) (m : List UInt8) : List (List UInt8) := (namesOf l m).map fun s => 32 :: 32 :: s ++ 32 :: text (subPages l m s)
def mainLine (l : List En) (m : List UInt8) : List UInt8 := if mainPages l m = [] then m else m ++ 32 :: text (mainPages l m)
def lines (l : List En) : List (List UInt8) := (mainsOf l).flatMap fun m => mainLine l m :: subLines l m
def places (l : List En) : List Pl := (mainsOf l).flatMap fun m => (m, [], false) :: (namesOf l m).map fun s => (m, s, true)
theorem nil_up {α : Type} (c : α → α → Int) : Up c [] := List.Pairwise.nil
theorem mem_mainsOf (l : List En) (m : List UInt8) : m ∈ mainsOf l ↔ ∃ x ∈ good l, (cut x.1).1 = m := by
  unfold mainsOf
  rw [mem_onces ordL, List.mem_map]
  simp only [List.not_mem_nil, false_or]
theorem mem_namesOf (l : List En) (m s : List UInt8) : s ∈ namesOf l m ↔ ∃ x ∈ good l, cut x.1 = (m, s, true) := by
  unfold namesOf
  rw [mem_onces ordL]
  simp only [List.not_mem_nil, false_or, List.mem_map, List.mem_filter, Bool.and_eq_true, beq_iff_eq]
  constructor
  · rintro ⟨x, ⟨hx, h1, h2⟩, h3⟩
    refine ⟨x, hx, ?_⟩
    rw [← h1, ← h2, ← h3]
  · rintro ⟨x, hx, h⟩
    exact ⟨x, ⟨hx, by rw [h], by rw [h]⟩, by rw [h]⟩
theorem mem_places (l : List En) (p : Pl) : p ∈ places l ↔ has l p := by
  unfold places has
  simp only [List.mem_flatMap, List.mem_cons, List.mem_map]
  constructor
  · rintro ⟨m, hm, rfl | ⟨s, hs, rfl⟩⟩
    · obtain ⟨x, hx, rfl⟩ := (mem_mainsOf l m).1 hm
      exact ⟨x, hx, .inr rfl⟩
    · obtain ⟨x, hx, e⟩ := (mem_namesOf l m s).1 hs
      exact ⟨x, hx, .inl e⟩
  · rintro ⟨x, hx, e | e⟩
    · refine ⟨(cut x.1).1, (mem_mainsOf l _).2 ⟨x, hx, rfl⟩, ?_⟩
      cases hb : (cut x.1).2.2 with
      | true =>
        right
        refine ⟨(cut x.1).2.1, (mem_namesOf l _ _).2 ⟨x, hx, ?_⟩, ?_⟩
        · rw [← hb]
        · rw [← e, ← hb]
      | false =>
        left
        rw [← e]
        have := cut_sub x.1 hb
        rw [← this, ← hb]
    · exact ⟨(cut x.1).1, (mem_mainsOf l _).2 ⟨x, hx, rfl⟩, .inl e.symm⟩
theorem cmpB_ne {a b : List UInt8} (h : cmpB a b < 0) : cmpB a b ≠ 0 := by omega
theorem cp_main (m m' : List UInt8) (h : cl m m' < 0) (s s' : List UInt8) (b b' : Bool) : cp (m, s, b) (m', s', b') < 0 := by
  unfold cl kl at h
  rw [cmpL_cons] at h
  unfold cp kp
  rw [cmpL_cons]
  by_cases h0 : cmpB (small m) (small m') = 0
  · rw [if_pos h0] at h ⊢
    rw [cmpL_cons] at h ⊢
    by_cases h1 : cmpB m m' = 0
    · rw [if_pos h1] at h; simp [cmpL] at h
    · rw [if_neg h1] at h ⊢; exact h
  · rw [if_neg h0] at h ⊢; exact h
theorem cp_sub (m s s' : List UInt8) (h : cl s s' < 0) (b : Bool) : cp (m, s, b) (m, s', b) < 0 := by
  unfold cp kp
  rw [cmpL_cons, if_pos (cmpB_refl _), cmpL_cons, if_pos (cmpB_refl _), cmpL_cons, if_pos (cmpB_refl _)]
  exact h
theorem cp_top (m s : List UInt8) : cp (m, [], false) (m, s, true) < 0 := by
  unfold cp kp
  rw [cmpL_cons, if_pos (cmpB_refl _), cmpL_cons, if_pos (cmpB_refl _), cmpL_cons]
  have : cmpB (flag false) (flag true) = -1 := by decide
  rw [if_neg (by rw [this]; decide), this]
  decide
theorem flat_up : ∀ (ms : List (List UInt8)) (f : List UInt8 → List Pl), Up cl ms → (∀ m, Up cp (f m)) → (∀ m, ∀ p ∈ f m, p.1 = m) → Up cp (ms.flatMap f)
  | [], f, _, _, _ => by simp [Up]
  | m :: r, f, h, h1, h2 => by
    unfold Up at h
    rw [List.pairwise_cons] at h
    rw [List.flatMap_cons]
    refine List.pairwise_append.2 ⟨h1 m, flat_up r f h.2 h1 h2, fun a ha b hb => ?_⟩
    obtain ⟨m', hm', hb⟩ := List.mem_flatMap.1 hb
    have e1 := h2 m a ha
    have e2 := h2 m' b hb
    obtain ⟨a1, a2, a3⟩ := a
    obtain ⟨b1, b2, b3⟩ := b
    simp only at e1 e2
    subst e1; subst e2
    exact cp_main _ _ (h.1 _ hm') _ _ _ _
theorem places_up (l : List En) : Up cp (places l) := by
  refine flat_up _ _ (onces_up ordL _ _ (nil_up _)) (fun m => ?_) (fun m p hp => ?_)
  · refine List.pairwise_cons.2 ⟨fun p hp => ?_, ?_⟩
    · obtain ⟨s, _, rfl⟩ := List.mem_map.1 hp
      exact cp_top m s
    · refine List.pairwise_map.2 (List.Pairwise.imp (fun {a b} h => cp_sub m a b h true) (onces_up ordL _ _ (nil_up _)))
  · rcases List.mem_cons.1 hp with rfl | hp
    · rfl
    · obtain ⟨s, _, rfl⟩ := List.mem_map.1 hp
      rfl
theorem text_same (l m : List Int) (h : ∀ x, page x = true → (x ∈ l ↔ x ∈ m)) : text l = text m := by unfold text; rw [rising_same l m h]
theorem text_ne (l : List Int) (x : Int) (hx : x ∈ l) (hp : page x = true) : text l ≠ [] := by
  unfold text
  have : x ∈ rising [] l := (mem_rising x l []).2 (.inr ⟨hx, hp⟩)
  cases hr : rising [] l with
  | nil => rw [hr] at this; simp at this
  | cons a r =>
    by_cases h : 3 ≤ runLen (a :: r)
    · rw [parts_run a r h]; exact join_ne _ _ (by simp)
    · rw [parts_one a r h]; exact join_ne _ _ (dig_ne a)
theorem text_nil : text [] = [] := rfl
/-- the lines, by their places -/
theorem lines_places (l : List En) : lines l = (places l).map (line l) := by
  unfold lines places
  rw [List.map_flatMap]
  refine flat_congr fun m hm => ?_
  obtain ⟨x0, hx0, rfl⟩ := (mem_mainsOf l m).1 hm
  have hn := cut_main x0.1
  obtain ⟨m, hme⟩ : ∃ m, m = (cut x0.1).1 := ⟨_, rfl⟩
  rw [← hme] at hn ⊢
  rw [List.map_cons, List.map_map]
  congr 1
  · unfold mainLine line
    have hs : text (pagesAt l (m, [], false)) = text (mainPages l m) := by
      refine text_same _ _ fun x hx => ?_
      rw [mem_pagesAt l _ x hx]
      unfold mainPages
      simp only [List.mem_map, List.mem_filter, beq_iff_eq]
      constructor
      · rintro ⟨y, hy, e, rfl⟩; exact ⟨y, ⟨hy, (word_main y.1 m hn).2 e⟩, rfl⟩
      · rintro ⟨y, ⟨hy, e⟩, rfl⟩; exact ⟨y, hy, (word_main y.1 m hn).1 e, rfl⟩
    rw [hs]
    simp only [Bool.false_eq_true, if_false]
    by_cases h0 : mainPages l m = []
    · rw [if_pos h0, h0, if_pos text_nil, List.append_nil]
    · rw [if_neg h0]
      obtain ⟨n, hn0⟩ := List.exists_mem_of_ne_nil _ h0
      have hp : page n = true := by
        unfold mainPages at hn0
        obtain ⟨y, hy, rfl⟩ := List.mem_map.1 hn0
        exact (good_page l y (List.mem_filter.1 hy).1).1
      rw [if_neg (text_ne _ n hn0 hp)]
  · unfold subLines
    refine List.map_congr_left fun s hsn => ?_
    simp only [Function.comp]
    unfold line
    have hs : text (pagesAt l (m, s, true)) = text (subPages l m s) := by
      refine text_same _ _ fun x hx => ?_
      rw [mem_pagesAt l _ x hx]
      unfold subPages
      simp only [List.mem_map, List.mem_filter, beq_iff_eq]
      constructor
      · rintro ⟨y, hy, e, rfl⟩; exact ⟨y, ⟨hy, (word_sub y.1 m s hn).2 e⟩, rfl⟩
      · rintro ⟨y, ⟨hy, e⟩, rfl⟩; exact ⟨y, hy, (word_sub y.1 m s hn).1 e, rfl⟩
    obtain ⟨y, hy, e⟩ := (mem_namesOf l m s).1 hsn
    have hp := (good_page l y hy).1
    have hmem : y.2 ∈ subPages l m s := by
      unfold subPages
      exact List.mem_map.2 ⟨y, List.mem_filter.2 ⟨hy, by rw [beq_iff_eq]; exact (word_sub y.1 m s hn).2 e⟩, rfl⟩
    rw [hs, if_neg (text_ne _ _ hmem hp)]
    simp
/-- whatever rises and holds the places is these -/
theorem places_unique (l : List En) (ks : List Pl) (hk : Up cp ks) (h : ∀ p, p ∈ ks ↔ has l p) : ks = places l :=
  Up.unique ordP _ _ hk (places_up l) (fun p => by rw [h, mem_places])
end Ix
end Go.Proofs.YthoblbdkmlggbaaGreatDoor
