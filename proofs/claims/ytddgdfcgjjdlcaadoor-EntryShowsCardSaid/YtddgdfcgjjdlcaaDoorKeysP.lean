/- EntryKeys, the plain law: what is read may be shown, but for its texts. No program in sight. -/
import Derived.Test.YtddgdfcgjjdlcaaDoorEntQ
namespace Go.Proofs.YtddgdfcgjjdlcaaDoor.Ent
theorem low_sign (c : UInt8) (h : sign c = true) : sign (low c) = true ∧ low (low c) = low c := by
  unfold low
  have hlt := c.toNat_lt
  split
  · rename_i hc
    have ha : (c + 32).toNat = c.toNat + 32 := by
      rw [UInt8.toNat_add]
      show (c.toNat + 32) % 256 = _
      omega
    refine ⟨?_, ?_⟩
    · have h1 : decide (97 ≤ (c + 32).toNat) = true := decide_eq_true (by omega)
      have h2 : decide ((c + 32).toNat ≤ 122) = true := decide_eq_true (by omega)
      unfold sign
      rw [h1, h2]; rfl
    · rw [if_neg (by omega)]
  · rename_i hc
    exact ⟨h, by first | rfl | rw [if_neg hc]⟩
theorem small_marked (m : List UInt8) (h : marked m = true) : marked (small m) = true ∧ small (small m) = small m := by
  unfold marked at h ⊢
  rw [Bool.and_eq_true] at h
  obtain ⟨h1, h2⟩ := h
  rw [List.all_eq_true] at h1
  refine ⟨?_, ?_⟩
  · rw [Bool.and_eq_true, List.all_eq_true]
    refine ⟨fun x hx => ?_, ?_⟩
    · unfold small at hx
      obtain ⟨y, hy, rfl⟩ := List.mem_map.1 hx
      exact (low_sign y (h1 y hy)).1
    · cases m with
      | nil => simp at h2
      | cons a l => rfl
  · unfold small
    rw [List.map_map]
    apply List.map_congr_left
    intro x hx
    exact (low_sign x (h1 x hx)).2
theorem mark_marked (l m : List UInt8) (h : (mark l).1 = some m) : marked m = true := by
  have h0 := (mark_lt l m h).1
  unfold mark at h
  dsimp only at h
  split at h
  · cases h
  · cases h
    unfold marked
    rw [Bool.and_eq_true, List.all_eq_true]
    refine ⟨fun x hx => ?_, by simpa using h0⟩
    generalize bl l = u at hx
    clear h0
    induction u with
    | nil => simp at hx
    | cons a u ih =>
      rw [List.takeWhile_cons] at hx
      split at hx
      · rename_i ha
        rcases List.mem_cons.1 hx with e | e
        · rw [e]; exact ha
        · exact ih e
      · simp at hx
theorem valueN_le : ∀ (n : Nat) (acc : List UInt8) (σ : RS) (t : List UInt8), (valueN n acc σ).1 = some t → t.length ≤ 1000
  | 0, _, _, _, h => by simp [valueN] at h
  | n + 1, acc, σ, t, h => by
    unfold valueN at h
    cases hp : (part σ).1 with
    | none => rw [hp] at h; simp at h
    | some u =>
      rw [hp] at h
      dsimp only at h
      split at h
      · exact valueN_le n _ _ t h
      · cases h
        rw [List.length_take]; omega
theorem pair_good (σ : RS) (m t : List UInt8) (h : (pair σ).1 = some (m, t)) : marked m = true ∧ small m = m ∧ t.length ≤ 1000 := by
  unfold pair at h
  cases hm : (markS σ).1 with
  | none => rw [hm] at h; simp at h
  | some y =>
    rw [hm] at h
    dsimp only at h
    have hy := mark_marked σ.rest y hm
    split at h
    · generalize hv : value ((markS σ).2.at (isL 61 (markS σ).2.rest)) = v at h
      cases h1 : v.1 with
      | none => rw [h1] at h; simp at h
      | some u =>
        rw [h1] at h
        simp only [Option.some.injEq, Prod.mk.injEq] at h
        obtain ⟨rfl, rfl⟩ := h
        obtain ⟨a, b⟩ := small_marked y hy
        refine ⟨a, b, ?_⟩
        unfold value at hv
        rw [← hv] at h1
        exact valueN_le _ _ _ _ h1
    · simp at h
def stripF (f : Fld) : Fld := ⟨f.name, []⟩
def strip (x : Ent) : Ent := ⟨x.kind, x.key, x.fields.map stripF⟩
theorem fieldsOk_snoc : ∀ (fs before : List Fld) (f : Fld), fieldsOk before (fs ++ [f]) = (fieldsOk before fs && fieldOk (before ++ fs) f)
  | [], before, f => by simp [fieldsOk]
  | g :: fs, before, f => by
    show (fieldOk before g && fieldsOk (before ++ [g]) (fs ++ [f])) = ((fieldOk before g && fieldsOk (before ++ [g]) fs) && fieldOk (before ++ g :: fs) f)
    rw [fieldsOk_snoc fs (before ++ [g]) f, Bool.and_assoc, List.append_assoc]
    rfl
theorem rightN_snoc : ∀ (l before : List Ent) (x : Ent), rightN before (l ++ [x]) = (rightN before l && (headOk (before ++ l) x && fieldsOk [] x.fields))
  | [], before, x => by simp [rightN]
  | y :: l, before, x => by
    show (headOk before y && fieldsOk [] y.fields && rightN (before ++ [y]) (l ++ [x])) = ((headOk before y && fieldsOk [] y.fields && rightN (before ++ [y]) l) && (headOk (before ++ y :: l) x && fieldsOk [] x.fields))
    rw [rightN_snoc l (before ++ [y]) x, Bool.and_assoc (headOk before y && fieldsOk [] y.fields), List.append_assoc]
    rfl
theorem get_none (fs : List Fld) (m : List UInt8) (h : (get fs m).2 = false) : fs.any (fun g => g.name == m) = false := by
  unfold get at h
  cases hf : fs.find? (fun f => f.name == m) with
  | none =>
    rw [List.find?_eq_none] at hf
    rw [List.any_eq_false]
    exact hf
  | some y => rw [hf] at h; simp at h
theorem any_strip (fs : List Fld) (m : List UInt8) : (fs.map stripF).any (fun g => g.name == m) = fs.any (fun g => g.name == m) := by rw [List.any_map]; rfl
theorem fieldsN_ok : ∀ (n : Nat) (fs : List Fld) (σ : RS) (gs : List Fld), fieldsOk [] (fs.map stripF) = true → (∀ f ∈ fs, f.text.length ≤ 1000) → (fieldsN n fs σ).1 = some gs → fieldsOk [] (gs.map stripF) = true ∧ ∀ f ∈ gs, f.text.length ≤ 1000
  | 0, _, _, _, _, _, h => by simp [fieldsN] at h
  | n + 1, fs, σ, gs, h1, h2, h => by
    unfold fieldsN at h
    split at h
    · simp only [Option.some.injEq] at h; subst h; exact ⟨h1, h2⟩
    · split at h
      · split at h
        · simp only [Option.some.injEq] at h; subst h; exact ⟨h1, h2⟩
        · generalize hp : pair (σ.at (isL 125 (isL 44 (isL 125 σ.rest)))) = p at h
          cases hp1 : p.1 with
          | none => rw [hp1] at h; simp at h
          | some q =>
            obtain ⟨m, t⟩ := q
            rw [hp1] at h
            dsimp only at h
            obtain ⟨hm, hs, ht⟩ := pair_good _ m t (by rw [hp]; exact hp1)
            cases hg : (get fs m).2
            · rw [hg, if_neg (by simp)] at h
              refine fieldsN_ok n (fs ++ [⟨m, t⟩]) _ gs ?_ ?_ h
              · rw [List.map_append, List.map_cons, List.map_nil, fieldsOk_snoc, h1, List.nil_append, Bool.true_and]
                unfold fieldOk
                show (marked m && small m == m && !((fs.map stripF).any fun g => g.name == m) && !(([] : List UInt8).any brace1) && decide (([] : List UInt8).length ≤ 1000)) = true
                rw [any_strip, get_none fs m hg, hm, hs]
                simp
              · intro f hf
                rcases List.mem_append.1 hf with e | e
                · exact h2 f e
                · rw [List.mem_singleton.1 e]; exact ht
            · rw [hg, if_pos rfl] at h
              exact fieldsN_ok n fs _ gs h1 h2 h
      · simp at h
/-- an entry that was read -/
structure Good (x : Ent) : Prop where
  kind : marked x.kind = true
  low : small x.kind = x.kind
  str : x.kind ≠ strW
  key : marked x.key = true
  flds : fieldsOk [] (x.fields.map stripF) = true
  texts : ∀ f ∈ x.fields, f.text.length ≤ 1000
theorem entry_good (σ : RS) (x : Ent) (h : (entry σ).1 = some (some x)) : Good x := by
  unfold entry at h
  cases hm : (mark σ.rest).1 with
  | none => rw [hm] at h; simp at h
  | some k =>
    rw [hm] at h
    dsimp only at h
    have hk := small_marked k (mark_marked _ _ hm)
    unfold entryB at h
    split at h
    · split at h
      · unfold entryS at h
        split at h
        · simp at h
        · dsimp only at h
          split at h <;> simp at h
      · rename_i hne
        generalize (RS.at _ _ : RS) = σ2 at h
        unfold entryK at h
        cases hy : (mark σ2.rest).1 with
        | none => rw [hy] at h; simp at h
        | some y =>
          rw [hy] at h
          dsimp only at h
          generalize hf : fieldsN (σ2.rest.length + 1) [] (σ2.at (mark σ2.rest).2) = p at h
          cases hp : p.1 with
          | none => rw [hp] at h; simp at h
          | some fs =>
            rw [hp] at h
            simp only [Option.some.injEq] at h
            subst h
            obtain ⟨a, b⟩ := fieldsN_ok _ [] _ fs rfl (by simp) (by rw [hf]; exact hp)
            exact ⟨hk.1, hk.2, hne, mark_marked _ _ hy, a, b⟩
    · simp at h
theorem has_strip (l : List Ent) (key : List UInt8) : has (l.map strip) key = has l key := by unfold has; rw [List.any_map]; rfl
theorem parseN_good : ∀ (n : Nat) (out : List Ent) (σ : RS), right (out.map strip) = true → (∀ x ∈ out, Good x) → right ((parseN n out σ).1.map strip) = true ∧ ∀ x ∈ (parseN n out σ).1, Good x
  | 0, out, σ, h1, h2 => ⟨h1, h2⟩
  | n + 1, out, σ, h1, h2 => by
    unfold parseN
    split
    · exact ⟨h1, h2⟩
    · rename_i l _
      split
      · exact parseN_good n out _ h1 h2
      · exact parseN_good n out _ h1 h2
      · rename_i x hx
        have hg := entry_good _ x hx
        cases hh : has out x.key
        · rw [if_neg (by simp)]
          refine parseN_good n _ _ ?_ ?_
          · rw [List.map_append, List.map_cons, List.map_nil]
            unfold right at h1 ⊢
            rw [rightN_snoc, h1, Bool.true_and, List.nil_append, Bool.and_eq_true]
            refine ⟨?_, hg.flds⟩
            unfold headOk
            show (marked x.kind && small x.kind == x.kind && !(x.kind == strW) && marked x.key && !(has (out.map strip) x.key)) = true
            rw [hg.kind, hg.low, hg.key, has_strip, hh]
            have := hg.str
            simp [this]
          · intro y hy
            rcases List.mem_append.1 hy with e | e
            · exact h2 y e
            · rw [List.mem_singleton.1 e]; exact hg
        · rw [if_pos rfl]
          exact parseN_good n out _ h1 h2
theorem parse_good (s : List UInt8) : right ((parse s).1.map strip) = true ∧ ∀ x ∈ (parse s).1, Good x := parseN_good _ [] _ rfl (by simp)
/-! ### nothing is longer than the text -/
theorem mark_short (l m : List UInt8) (h : (mark l).1 = some m) : m.length ≤ l.length := by
  unfold mark at h
  dsimp only at h
  split at h
  · cases h
  · cases h
    exact Nat.le_trans (takeWhile_len _ _) (bl_len l)
theorem pair_short (σ : RS) (m t : List UInt8) (h : (pair σ).1 = some (m, t)) : m.length ≤ σ.rest.length := by
  unfold pair at h
  cases hm : (markS σ).1 with
  | none => rw [hm] at h; simp at h
  | some y =>
    rw [hm] at h
    dsimp only at h
    have hy := mark_short σ.rest y hm
    split at h
    · generalize value ((markS σ).2.at (isL 61 (markS σ).2.rest)) = v at h
      cases h1 : v.1 with
      | none => rw [h1] at h; simp at h
      | some u =>
        rw [h1] at h
        simp only [Option.some.injEq, Prod.mk.injEq] at h
        obtain ⟨rfl, rfl⟩ := h
        unfold small
        rw [List.length_map]
        exact hy
    · simp at h
theorem fieldsN_short (N : Nat) : ∀ (n : Nat) (fs : List Fld) (σ : RS) (gs : List Fld), σ.rest.length ≤ N → (∀ f ∈ fs, f.name.length ≤ N) → (fieldsN n fs σ).1 = some gs → gs.length ≤ fs.length + σ.rest.length ∧ ∀ f ∈ gs, f.name.length ≤ N
  | 0, _, _, _, _, _, h => by simp [fieldsN] at h
  | n + 1, fs, σ, gs, h1, h2, h => by
    unfold fieldsN at h
    split at h
    · simp only [Option.some.injEq] at h; subst h; exact ⟨by omega, h2⟩
    · split at h
      · rename_i h44
        split at h
        · simp only [Option.some.injEq] at h; subst h; exact ⟨by omega, h2⟩
        · have l1 := isL_len 125 σ.rest
          have l2 := isL_lt 44 (isL 125 σ.rest) h44
          have l3 := isL_len 125 (isL 44 (isL 125 σ.rest))
          have l4 := pair_len (σ.at (isL 125 (isL 44 (isL 125 σ.rest))))
          have l5 : ∀ m t, (pair (σ.at (isL 125 (isL 44 (isL 125 σ.rest))))).1 = some (m, t) → m.length ≤ (isL 125 (isL 44 (isL 125 σ.rest))).length := fun m t e => pair_short _ m t e
          have l6 : (σ.at (isL 125 (isL 44 (isL 125 σ.rest)))).rest.length = (isL 125 (isL 44 (isL 125 σ.rest))).length := rfl
          generalize hp : pair (σ.at (isL 125 (isL 44 (isL 125 σ.rest)))) = p at h l4 l5
          cases hp1 : p.1 with
          | none => rw [hp1] at h; simp at h
          | some q =>
            obtain ⟨m, t⟩ := q
            have l7 := l5 m t hp1
            rw [hp1] at h
            dsimp only at h
            cases hg : (get fs m).2
            · rw [hg, if_neg (by simp)] at h
              obtain ⟨a, b⟩ := fieldsN_short N n (fs ++ [⟨m, t⟩]) _ gs (by omega) (by
                intro f hf
                rcases List.mem_append.1 hf with e | e
                · exact h2 f e
                · rw [List.mem_singleton.1 e]; show m.length ≤ N; omega) h
              rw [List.length_append, List.length_singleton] at a
              exact ⟨by omega, b⟩
            · rw [hg, if_pos rfl] at h
              obtain ⟨a, b⟩ := fieldsN_short N n fs (p.2.note 12 m) gs (by show p.2.rest.length ≤ N; omega) h2 h
              have a' : gs.length ≤ fs.length + p.2.rest.length := a
              exact ⟨by omega, b⟩
      · simp at h
def Short (N : Nat) (x : Ent) : Prop := x.fields.length ≤ N ∧ x.kind.length ≤ N ∧ x.key.length ≤ N ∧ ∀ f ∈ x.fields, f.name.length ≤ N
theorem entry_short (σ : RS) (x : Ent) (h : (entry σ).1 = some (some x)) : Short σ.rest.length x := by
  unfold entry at h
  cases hm : (mark σ.rest).1 with
  | none => rw [hm] at h; simp at h
  | some k =>
    rw [hm] at h
    dsimp only at h
    have hk := mark_short _ _ hm
    have hl := mark_len σ.rest
    unfold entryB at h
    split at h
    · have hi := isL_len 123 (mark σ.rest).2
      split at h
      · unfold entryS at h
        split at h
        · simp at h
        · dsimp only at h
          split at h <;> simp at h
      · unfold entryK at h
        have e0 : (RS.at { σ with rest := (mark σ.rest).2, kind := small k } (isL 123 (mark σ.rest).2)).rest.length = (isL 123 (mark σ.rest).2).length := rfl
        generalize (RS.at { σ with rest := (mark σ.rest).2, kind := small k } (isL 123 (mark σ.rest).2)) = σ2 at h e0
        have hy1 := mark_len σ2.rest
        cases hy : (mark σ2.rest).1 with
        | none => rw [hy] at h; simp at h
        | some y =>
          rw [hy] at h
          dsimp only at h
          have hy2 := mark_short _ _ hy
          have hf2 := fun gs => fieldsN_short σ.rest.length (σ2.rest.length + 1) [] (σ2.at (mark σ2.rest).2) gs (by show (mark σ2.rest).2.length ≤ _; omega) (by simp)
          generalize fieldsN (σ2.rest.length + 1) [] (σ2.at (mark σ2.rest).2) = p at h hf2
          cases hp : p.1 with
          | none => rw [hp] at h; simp at h
          | some fs =>
            rw [hp] at h
            simp only [Option.some.injEq] at h
            subst h
            obtain ⟨a, b⟩ := hf2 fs hp
            have a' : fs.length ≤ 0 + (mark σ2.rest).2.length := a
            refine ⟨by show fs.length ≤ _; omega, by show (small k).length ≤ _; unfold small; rw [List.length_map]; exact hk, by show y.length ≤ _; omega, b⟩
    · simp at h
theorem parseN_short (N : Nat) : ∀ (n : Nat) (out : List Ent) (σ : RS), σ.rest.length ≤ N → (∀ x ∈ out, Short N x) → (parseN n out σ).1.length ≤ out.length + σ.rest.length ∧ ∀ x ∈ (parseN n out σ).1, Short N x
  | 0, out, σ, _, h2 => ⟨by simp [parseN], h2⟩
  | n + 1, out, σ, h1, h2 => by
    unfold parseN
    split
    · exact ⟨by simp, h2⟩
    · rename_i c l hd
      have hl : l.length + 1 ≤ σ.rest.length := by
        have := dropWhile_len (fun c : UInt8 => !(c == 64)) σ.rest
        rw [hd] at this
        simpa using this
      have he := entry_len (σ.at l)
      have he' : (entry (σ.at l)).2.rest.length ≤ l.length := he
      split
      · obtain ⟨a, b⟩ := parseN_short N n out ((entry (σ.at l)).2.note (err (entry (σ.at l)).2.rest) (entry (σ.at l)).2.kind) (by show (entry (σ.at l)).2.rest.length ≤ N; omega) h2
        have a' : _ ≤ out.length + (entry (σ.at l)).2.rest.length := a
        exact ⟨by omega, b⟩
      · obtain ⟨a, b⟩ := parseN_short N n out (entry (σ.at l)).2 (by omega) h2
        exact ⟨by omega, b⟩
      · rename_i x hx
        have hs : Short N x := by
          obtain ⟨s1, s2, s3, s4⟩ := entry_short _ x hx
          have e0 : (σ.at l).rest.length = l.length := rfl
          exact ⟨by omega, by omega, by omega, fun f hf => by have := s4 f hf; omega⟩
        split
        · obtain ⟨a, b⟩ := parseN_short N n out ((entry (σ.at l)).2.note 12 x.key) (by show (entry (σ.at l)).2.rest.length ≤ N; omega) h2
          have a' : _ ≤ out.length + (entry (σ.at l)).2.rest.length := a
          exact ⟨by omega, b⟩
        · obtain ⟨a, b⟩ := parseN_short N n (out ++ [x]) (entry (σ.at l)).2 (by omega) (by
            intro y hy
            rcases List.mem_append.1 hy with e | e
            · exact h2 y e
            · rw [List.mem_singleton.1 e]; exact hs)
          rw [List.length_append, List.length_singleton] at a
          exact ⟨by omega, b⟩
theorem parse_short (s : List UInt8) : (parse s).1.length ≤ s.length ∧ ∀ x ∈ (parse s).1, Short s.length x := by
  have h := parseN_short s.length (s.length + 1) [] ⟨s, [], fun _ => none, []⟩ (Nat.le_refl _) (by simp)
  simpa [parse] using h
end Go.Proofs.YtddgdfcgjjdlcaaDoor.Ent
