/- EntryBack, EntryTwo, the plain laws: what is parsed of what is shown. Plain Lean, no program in sight. -/
import Derived.Test.YtddgdfcgjjdlcaaDoorStQ
import Derived.Test.YtddgdfcgjjdlcaaDoorKeysP
set_option linter.unusedSimpArgs false
set_option linter.unusedVariables false
namespace Go.Proofs.YtddgdfcgjjdlcaaDoor.Ent
theorem sign_no (c : UInt8) (h : sign c = true) : blank c = false ∧ (c == 64) = false ∧ (c == 125) = false := by
  have e : ∀ d : UInt8, sign d = false → (c == d) = false := fun d hd => by
    cases hcd : (c == d) with
    | false => rfl
    | true => rw [beq_iff_eq.1 hcd] at h; rw [hd] at h; cases h
  refine ⟨?_, e 64 (by decide), e 125 (by decide)⟩
  unfold blank
  rw [e 32 (by decide), e 9 (by decide), e 10 (by decide)]
  rfl
theorem bl_cons (c : UInt8) (r : List UInt8) (h : blank c = false) : bl (c :: r) = c :: r := by unfold bl; rw [List.dropWhile_cons, h]; rfl
theorem isB_hit (c : UInt8) (r : List UInt8) (h : blank c = false) : isB c (c :: r) = true := by unfold isB; rw [bl_cons c r h]; simp
theorem isL_hit (c : UInt8) (r : List UInt8) (h : blank c = false) : isL c (c :: r) = r := by unfold isL; rw [bl_cons c r h]; simp
theorem isB_miss (d c : UInt8) (r : List UInt8) (h : blank c = false) (hd : (c == d) = false) : isB d (c :: r) = false := by unfold isB; rw [bl_cons c r h]; exact hd
theorem isL_miss (d c : UInt8) (r : List UInt8) (h : blank c = false) (hd : (c == d) = false) : isL d (c :: r) = c :: r := by unfold isL; rw [bl_cons c r h]; dsimp only; rw [hd]; rfl
theorem marked_form (m : List UInt8) (h : marked m = true) : ∃ a m', m = a :: m' ∧ sign a = true ∧ ∀ x ∈ m, sign x = true := by
  unfold marked at h
  rw [Bool.and_eq_true, List.all_eq_true] at h
  cases m with
  | nil => simp at h
  | cons a m' => exact ⟨a, m', rfl, h.1 a (by simp), h.1⟩
theorem mark_to (m : List UInt8) (c : UInt8) (r : List UInt8) (h : marked m = true) (hc : sign c = false) : mark (m ++ c :: r) = (some m, c :: r) := by
  obtain ⟨a, m', rfl, ha, hall⟩ := marked_form m h
  have hb : bl ((a :: m') ++ c :: r) = (a :: m') ++ c :: r := bl_cons a _ (sign_no a ha).1
  have ht : ((a :: m') ++ c :: r).takeWhile sign = a :: m' := by
    rw [List.takeWhile_append_of_pos hall, List.takeWhile_cons, hc]; simp
  have hd : ((a :: m') ++ c :: r).dropWhile sign = c :: r := by
    rw [List.dropWhile_append_of_pos hall, List.dropWhile_cons, hc]; simp
  unfold mark
  dsimp only
  rw [hb, ht, hd]
  rfl
theorem marked_bl (m r : List UInt8) (h : marked m = true) : bl (m ++ r) = m ++ r ∧ ∀ d : UInt8, sign d = false → isB d (m ++ r) = false ∧ isL d (m ++ r) = m ++ r := by
  obtain ⟨a, m', rfl, ha, _⟩ := marked_form m h
  have hs := (sign_no a ha).1
  refine ⟨bl_cons a _ hs, fun d hd => ?_⟩
  have hne : (a == d) = false := by
    cases hcd : (a == d) with
    | false => rfl
    | true => rw [beq_iff_eq.1 hcd] at ha; rw [hd] at ha; cases ha
  exact ⟨isB_miss d a _ hs hne, isL_miss d a _ hs hne⟩
theorem pair_to (m t : List UInt8) (c : UInt8) (r kd : List UInt8) (nm : List UInt8 → Option (List UInt8)) (ns : List (Int × List UInt8)) (hm : marked m = true) (hs : small m = m) (ht : t.any brace1 = false) (hl : t.length ≤ 1000) (hb : blank c = false) (hc : (c == 35) = false) :
    pair ⟨m ++ 61 :: 123 :: (t ++ 125 :: c :: r), kd, nm, ns⟩ = (some (m, t), ⟨c :: r, kd, nm, ns⟩) := by
  have hv := value_one (123 :: (t ++ 125 :: c :: r)).length [] ⟨123 :: (t ++ 125 :: c :: r), kd, nm, ns⟩ t (c :: r) (part_braced _ t (c :: r) rfl ht) (isB_miss 35 c r hb hc)
  rw [List.nil_append, tk t hl, isL_miss 35 c r hb hc] at hv
  have h := pair_of ⟨m ++ 61 :: 123 :: (t ++ 125 :: c :: r), kd, nm, ns⟩ ⟨123 :: (t ++ 125 :: c :: r), kd, nm, ns⟩ m t (61 :: 123 :: (t ++ 125 :: c :: r)) (mark_to m 61 _ hm (by decide)) (isB_hit 61 _ (by decide)) (by rw [isL_hit 61 _ (by decide)]; rfl) (c :: r) hv
  rw [hs] at h
  exact h
theorem showF_head (fs : List Fld) (r : List UInt8) : ∃ c l, showF fs ++ 125 :: r = c :: l ∧ blank c = false ∧ (c == 35) = false ∧ sign c = false := by
  cases fs with
  | nil => exact ⟨125, r, rfl, by decide, by decide, by decide⟩
  | cons f fs => exact ⟨44, _, rfl, by decide, by decide, by decide⟩
theorem get_no (fs : List Fld) (m : List UInt8) (h : fs.any (fun g => g.name == m) = false) : (get fs m).2 = false := by
  unfold get
  have : fs.find? (fun f => f.name == m) = none := by
    rw [List.find?_eq_none]
    rw [List.any_eq_false] at h
    exact h
  rw [this]
theorem fields_to (kd : List UInt8) (nm : List UInt8 → Option (List UInt8)) (ns : List (Int × List UInt8)) : ∀ (fs before : List Fld) (n : Nat) (r : List UInt8), fieldsOk before fs = true → fs.length < n → fieldsN n before ⟨showF fs ++ 125 :: r, kd, nm, ns⟩ = (some (before ++ fs), ⟨r, kd, nm, ns⟩)
  | [], before, n, r, _, hn => by
    obtain ⟨n, rfl⟩ : ∃ k, n = k + 1 := ⟨n - 1, by simp at hn; omega⟩
    rw [fields_end n before ⟨showF [] ++ 125 :: r, kd, nm, ns⟩ (isB_hit 125 r (by decide))]
    have e : isL 125 (showF [] ++ 125 :: r) = r := isL_hit 125 r (by decide)
    show (some before, (⟨isL 125 (showF [] ++ 125 :: r), kd, nm, ns⟩ : RS)) = _
    rw [e, List.append_nil]
  | f :: fs, before, n, r, h, hn => by
    obtain ⟨n, rfl⟩ : ∃ k, n = k + 1 := ⟨n - 1, by simp at hn; omega⟩
    have h' : (fieldOk before f && fieldsOk (before ++ [f]) fs) = true := h
    rw [Bool.and_eq_true] at h'
    obtain ⟨hf, hfs⟩ := h'
    unfold fieldOk at hf
    simp only [Bool.and_eq_true, Bool.not_eq_true', decide_eq_true_eq, beq_iff_eq] at hf
    obtain ⟨⟨⟨⟨hm, hs⟩, hno⟩, hbr⟩, hlen⟩ := hf
    obtain ⟨c, l, hcl, c1, c2, _⟩ := showF_head fs r
    have hrest : showF (f :: fs) ++ 125 :: r = 44 :: 10 :: (f.name ++ 61 :: 123 :: (f.text ++ 125 :: c :: l)) := by
      rw [← hcl]
      show ([44, 10] ++ f.name ++ [61, 123] ++ f.text ++ [125] ++ showF fs) ++ 125 :: r = _
      simp only [List.append_assoc, List.cons_append, List.nil_append]
    have hmb := marked_bl f.name (61 :: 123 :: (f.text ++ 125 :: c :: l)) hm
    have hbl : ∀ d, sign d = false → isB d (10 :: (f.name ++ 61 :: 123 :: (f.text ++ 125 :: c :: l))) = false ∧ isL d (10 :: (f.name ++ 61 :: 123 :: (f.text ++ 125 :: c :: l))) = f.name ++ 61 :: 123 :: (f.text ++ 125 :: c :: l) := fun d hd => by
      have e1 : bl (10 :: (f.name ++ 61 :: 123 :: (f.text ++ 125 :: c :: l))) = bl (f.name ++ 61 :: 123 :: (f.text ++ 125 :: c :: l)) := by unfold bl; rw [List.dropWhile_cons]; rfl
      rw [← isB_bl, ← isL_bl, e1, isB_bl, isL_bl]
      exact hmb.2 d hd
    have l1 : isL 125 (44 :: 10 :: (f.name ++ 61 :: 123 :: (f.text ++ 125 :: c :: l))) = 44 :: 10 :: (f.name ++ 61 :: 123 :: (f.text ++ 125 :: c :: l)) := isL_miss 125 44 _ (by decide) (by decide)
    have l2 : isL 44 (44 :: 10 :: (f.name ++ 61 :: 123 :: (f.text ++ 125 :: c :: l))) = 10 :: (f.name ++ 61 :: 123 :: (f.text ++ 125 :: c :: l)) := isL_hit 44 _ (by decide)
    have hst := fields_step n before ⟨44 :: 10 :: (f.name ++ 61 :: 123 :: (f.text ++ 125 :: c :: l)), kd, nm, ns⟩ ⟨c :: l, kd, nm, ns⟩ f.name f.text (f.name ++ 61 :: 123 :: (f.text ++ 125 :: c :: l))
      (isB_miss 125 44 _ (by decide) (by decide)) (by rw [l1]; exact isB_hit 44 _ (by decide)) (by rw [l1, l2]; exact (hbl 125 (by decide)).1) (by rw [l1, l2]; exact (hbl 125 (by decide)).2)
      (pair_to f.name f.text c l kd nm ns hm hs hbr hlen c1 c2) (get_no before f.name (by simpa using hno))
    rw [hrest, hst, ← hcl]
    refine (fields_to kd nm ns fs (before ++ [f]) n r hfs (by simp at hn; omega)).trans ?_
    rw [List.append_assoc]
    rfl
theorem showF_length (fs : List Fld) : fs.length ≤ (showF fs).length := by
  induction fs with
  | nil => simp [showF]
  | cons f fs ih => simp [showF]; omega
theorem head_parts (before : List Ent) (x : Ent) (h : headOk before x = true) : marked x.kind = true ∧ small x.kind = x.kind ∧ x.kind ≠ strW ∧ marked x.key = true ∧ has before x.key = false := by
  unfold headOk at h
  simp only [Bool.and_eq_true, Bool.not_eq_true', beq_iff_eq] at h
  obtain ⟨⟨⟨⟨a, b⟩, c⟩, d⟩, e⟩ := h
  exact ⟨a, b, by simpa using c, d, e⟩
theorem entry_to (before : List Ent) (x : Ent) (r kd : List UInt8) (nm : List UInt8 → Option (List UInt8)) (ns : List (Int × List UInt8)) (h : headOk before x = true) (hf : fieldsOk [] x.fields = true) :
    entry ⟨x.kind ++ 123 :: (x.key ++ (showF x.fields ++ 125 :: r)), kd, nm, ns⟩ = (some (some x), ⟨r, x.kind, nm, ns⟩) := by
  obtain ⟨a, b, c, d, _⟩ := head_parts before x h
  obtain ⟨c0, l, hcl, c1, c2, c3⟩ := showF_head x.fields r
  have h5 := fields_to x.kind nm ns x.fields [] ((x.key ++ (showF x.fields ++ 125 :: r)).length + 1) r hf (by
    have := showF_length x.fields
    simp only [List.length_append, List.length_cons]
    omega)
  rw [hcl] at h5
  have he := entry_ent ⟨x.kind ++ 123 :: (x.key ++ (showF x.fields ++ 125 :: r)), kd, nm, ns⟩ x.kind (123 :: (x.key ++ (showF x.fields ++ 125 :: r))) (x.key ++ (showF x.fields ++ 125 :: r)) x.key (c0 :: l) x.fields ⟨r, x.kind, nm, ns⟩
    (mark_to x.kind 123 _ a (by decide)) (by rw [b]; exact c) (isB_hit 123 _ (by decide)) (isL_hit 123 _ (by decide)) (by rw [hcl]; exact mark_to x.key c0 l d c3) (by rw [b, hcl]; exact h5)
  rw [he, b]
def noAt (l : List UInt8) : Bool := l.all (fun c => !(c == 64))
theorem drop_noAt (pre r : List UInt8) (h : noAt pre = true) : (pre ++ r).dropWhile (fun c => !(c == 64)) = r.dropWhile (fun c => !(c == 64)) := List.dropWhile_append_of_pos (List.all_eq_true.1 h)
theorem parse_to (nm : List UInt8 → Option (List UInt8)) (ns : List (Int × List UInt8)) : ∀ (l before : List Ent) (pre r kd : List UInt8) (n : Nat), noAt pre = true → rightN before l = true →
    ∃ pre' kd', noAt pre' = true ∧ (pre'.length ≤ pre.length ∨ pre'.length ≤ 1) ∧ parseN (n + l.length) before ⟨pre ++ (showN l ++ r), kd, nm, ns⟩ = parseN n (before ++ l) ⟨pre' ++ r, kd', nm, ns⟩
  | [], before, pre, r, kd, n, hp, _ => ⟨pre, kd, hp, .inl (Nat.le_refl _), by rw [List.append_nil]; rfl⟩
  | x :: l, before, pre, r, kd, n, hp, h => by
    have h' : (headOk before x && fieldsOk [] x.fields && rightN (before ++ [x]) l) = true := h
    simp only [Bool.and_eq_true] at h'
    obtain ⟨⟨h1, h2⟩, h3⟩ := h'
    have hrest : pre ++ (showN (x :: l) ++ r) = pre ++ 64 :: (x.kind ++ 123 :: (x.key ++ (showF x.fields ++ 125 :: 10 :: (showN l ++ r)))) := by
      show pre ++ (([64] ++ x.kind ++ [123] ++ x.key ++ showF x.fields ++ [125, 10] ++ showN l) ++ r) = _
      simp only [List.append_assoc, List.cons_append, List.nil_append]
    have hd : (pre ++ (showN (x :: l) ++ r)).dropWhile (fun c => !(c == 64)) = 64 :: (x.kind ++ 123 :: (x.key ++ (showF x.fields ++ 125 :: 10 :: (showN l ++ r)))) := by
      rw [hrest, drop_noAt pre _ hp, List.dropWhile_cons]; rfl
    have he := entry_to before x (10 :: (showN l ++ r)) kd nm ns h1 h2
    obtain ⟨pre', kd', e1, e2, e3⟩ := parse_to nm ns l (before ++ [x]) [10] r x.kind n (by decide) h3
    refine ⟨pre', kd', e1, .inr (by simp at e2; omega), ?_⟩
    rw [show n + (x :: l).length = n + l.length + 1 by simp; omega, parse_ent (n + l.length) before ⟨pre ++ (showN (x :: l) ++ r), kd, nm, ns⟩ ⟨10 :: (showN l ++ r), x.kind, nm, ns⟩ (x.kind ++ 123 :: (x.key ++ (showF x.fields ++ 125 :: 10 :: (showN l ++ r)))) x hd he (head_parts before x h1).2.2.2.2]
    have e4 : 10 :: (showN l ++ r) = [10] ++ (showN l ++ r) := rfl
    rw [e4, e3, List.append_assoc]
    rfl
theorem showN_length (l : List Ent) : l.length ≤ (showN l).length := by
  induction l with
  | nil => simp [showN]
  | cons x l ih => simp [showN]; omega
theorem law_back (l : List Ent) (a : List UInt8) (h : right l = true) (ha : noAt a = true) : parse (a ++ (showN l ++ a)) = (l, []) := by
  unfold parse
  have hlen := showN_length l
  obtain ⟨n, hn⟩ : ∃ n, (a ++ (showN l ++ a)).length + 1 = (n + 1) + l.length := ⟨(a ++ (showN l ++ a)).length - l.length, by simp only [List.length_append]; omega⟩
  obtain ⟨pre', kd', e1, _, e3⟩ := parse_to (fun _ => none) [] l [] a a [] (n + 1) ha h
  rw [hn, e3]
  have hd : (pre' ++ a).dropWhile (fun c => !(c == 64)) = [] := by
    rw [drop_noAt pre' a e1]
    have := drop_noAt a [] ha
    rw [List.append_nil] at this
    rw [this]; rfl
  rw [parse_end n _ ⟨pre' ++ a, kd', fun _ => none, []⟩ hd]
  rfl
/-! ### another text behind it: what is noted ahead makes no difference -/
def RS.pre (σ : RS) (ns : List (Int × List UInt8)) : RS := { σ with notes := ns ++ σ.notes }
theorem pre_rest (σ : RS) (ns : List (Int × List UInt8)) : (σ.pre ns).rest = σ.rest := rfl
theorem pre_names (σ : RS) (ns : List (Int × List UInt8)) : (σ.pre ns).names = σ.names := rfl
theorem pre_at (σ : RS) (ns : List (Int × List UInt8)) (l : List UInt8) : (σ.pre ns).at l = (σ.at l).pre ns := rfl
theorem pre_note (σ : RS) (ns : List (Int × List UInt8)) (e : Int) (s : List UInt8) : (σ.pre ns).note e s = (σ.note e s).pre ns := by
  unfold RS.pre RS.note
  simp
theorem part_pre (σ : RS) (ns : List (Int × List UInt8)) : part (σ.pre ns) = ((part σ).1, (part σ).2.pre ns) := by
  unfold part
  simp only [pre_rest, pre_names, pre_at, pre_note]
  by_cases h1 : isB 34 σ.rest = true
  · simp [h1]
  · by_cases h2 : isB 123 σ.rest = true
    · simp [h1, h2]
    · simp only [h1, h2, Bool.false_eq_true, ↓reduceIte]
      cases hm : (mark σ.rest).1 with
      | none => rfl
      | some m =>
        dsimp only
        by_cases h3 : (small m).all digit = true
        · simp only [h3, Bool.false_eq_true, ↓reduceIte]
        · simp only [h3, Bool.false_eq_true, ↓reduceIte]
          cases σ.names (small m) <;> rfl
theorem valueN_pre (ns : List (Int × List UInt8)) : ∀ (n : Nat) (acc : List UInt8) (σ : RS), valueN n acc (σ.pre ns) = ((valueN n acc σ).1, (valueN n acc σ).2.pre ns)
  | 0, _, _ => rfl
  | n + 1, acc, σ => by
    rw [valueN, valueN, part_pre]
    dsimp only
    simp only [pre_rest, pre_at]
    cases hp : (part σ).1 with
    | none => rfl
    | some t =>
      dsimp only
      by_cases h : isB 35 (part σ).2.rest = true
      · simp only [h, Bool.false_eq_true, ↓reduceIte]; exact valueN_pre ns n _ _
      · simp only [h, Bool.false_eq_true, ↓reduceIte]
theorem value_pre (σ : RS) (ns : List (Int × List UInt8)) : value (σ.pre ns) = ((value σ).1, (value σ).2.pre ns) := valueN_pre ns _ _ _
theorem pair_pre (σ : RS) (ns : List (Int × List UInt8)) : pair (σ.pre ns) = ((pair σ).1, (pair σ).2.pre ns) := by
  unfold pair markS
  simp only [pre_rest, pre_at]
  cases hm : (mark σ.rest).1 with
  | none => rfl
  | some m =>
    dsimp only
    by_cases h : isB 61 (σ.at (mark σ.rest).2).rest = true
    · simp only [h, Bool.false_eq_true, ↓reduceIte, value_pre]
      cases (value ((σ.at (mark σ.rest).2).at (isL 61 (σ.at (mark σ.rest).2).rest))).1 <;> rfl
    · simp only [h, Bool.false_eq_true, ↓reduceIte]
theorem fieldsN_pre (ns : List (Int × List UInt8)) : ∀ (n : Nat) (fs : List Fld) (σ : RS), fieldsN n fs (σ.pre ns) = ((fieldsN n fs σ).1, (fieldsN n fs σ).2.pre ns)
  | 0, _, _ => rfl
  | n + 1, fs, σ => by
    rw [fieldsN, fieldsN]
    simp only [pre_rest, pre_at, pair_pre, pre_note]
    by_cases h1 : isB 125 σ.rest = true
    · simp only [h1, Bool.false_eq_true, ↓reduceIte]
    · simp only [h1, Bool.false_eq_true, ↓reduceIte]
      by_cases h2 : isB 44 (isL 125 σ.rest) = true
      · simp only [h2, Bool.false_eq_true, ↓reduceIte]
        by_cases h3 : isB 125 (isL 44 (isL 125 σ.rest)) = true
        · simp only [h3, Bool.false_eq_true, ↓reduceIte]
        · simp only [h3, Bool.false_eq_true, ↓reduceIte]
          cases hp : (pair (σ.at (isL 125 (isL 44 (isL 125 σ.rest))))).1 with
          | none => rfl
          | some q =>
            obtain ⟨m, t⟩ := q
            dsimp only
            by_cases h4 : (get fs m).2 = true
            · simp only [h4, Bool.false_eq_true, ↓reduceIte]; exact fieldsN_pre ns n _ _
            · simp only [h4, Bool.false_eq_true, ↓reduceIte]; exact fieldsN_pre ns n _ _
      · simp only [h2, Bool.false_eq_true, ↓reduceIte]
theorem entryS_pre (σ : RS) (ns : List (Int × List UInt8)) : entryS (σ.pre ns) = ((entryS σ).1, (entryS σ).2.pre ns) := by
  unfold entryS
  rw [pair_pre]
  dsimp only
  simp only [pre_rest, pre_at, pre_names]
  cases hp : (pair σ).1 with
  | none => rfl
  | some q =>
    obtain ⟨m, t⟩ := q
    dsimp only
    by_cases h : isB 125 (pair σ).2.rest = true
    · simp only [h, Bool.false_eq_true, ↓reduceIte]; rfl
    · simp only [h, Bool.false_eq_true, ↓reduceIte]
theorem entryK_pre (u : List UInt8) (σ : RS) (ns : List (Int × List UInt8)) : entryK u (σ.pre ns) = ((entryK u σ).1, (entryK u σ).2.pre ns) := by
  unfold entryK
  simp only [pre_rest, pre_at, fieldsN_pre]
  cases (mark σ.rest).1 with
  | none => rfl
  | some y =>
    dsimp only
    cases (fieldsN (σ.rest.length + 1) [] (σ.at (mark σ.rest).2)).1 <;> rfl
theorem entryB_pre (u : List UInt8) (σ : RS) (ns : List (Int × List UInt8)) : entryB u (σ.pre ns) = ((entryB u σ).1, (entryB u σ).2.pre ns) := by
  unfold entryB
  simp only [pre_rest, pre_at, entryS_pre, entryK_pre]
  by_cases h : isB 123 σ.rest = true
  · simp only [h, Bool.false_eq_true, ↓reduceIte]
    by_cases h2 : u = strW
    · simp only [h2, Bool.false_eq_true, ↓reduceIte]
    · simp only [h2, Bool.false_eq_true, ↓reduceIte]
  · simp only [h, Bool.false_eq_true, ↓reduceIte]
theorem entry_pre (l kd kd' : List UInt8) (nm : List UInt8 → Option (List UInt8)) (ns : List (Int × List UInt8)) : entry ⟨l, kd, nm, ns⟩ = ((entry ⟨l, kd', nm, []⟩).1, (entry ⟨l, kd', nm, []⟩).2.pre ns) := by
  unfold entry
  dsimp only
  cases (mark l).1 with
  | none => simp [RS.pre]
  | some k =>
    dsimp only
    have h := entryB_pre (small k) ⟨(mark l).2, small k, nm, []⟩ ns
    rw [← h]
    unfold RS.pre
    simp
theorem has_app (a b : List Ent) (key : List UInt8) : has (a ++ b) key = (has a key || has b key) := by unfold has; rw [List.any_append]
theorem has_filter (l out : List Ent) (key : List UInt8) (h : has l key = false) : has (out.filter (fun x => !has l x.key)) key = has out key := by
  unfold has
  rw [List.any_filter]
  congr 1
  funext x
  cases hk : (x.key == key) with
  | false => simp
  | true =>
    have : has l x.key = false := by rw [beq_iff_eq.1 hk]; exact h
    unfold has at this
    simp [this]
theorem parseN_two (l : List Ent) : ∀ (nA nB : Nat) (outA : List Ent) (restA restB kdA kdB : List UInt8) (nm : List UInt8 → Option (List UInt8)) (nsA nsB : List (Int × List UInt8)),
    restA.dropWhile (fun c => !(c == 64)) = restB.dropWhile (fun c => !(c == 64)) → restA.length < nA → restB.length < nB → nsB.length = nsA.length + (outA.filter (fun x => has l x.key)).length →
    (parseN nB (l ++ outA.filter (fun x => !has l x.key)) ⟨restB, kdB, nm, nsB⟩).1 = l ++ (parseN nA outA ⟨restA, kdA, nm, nsA⟩).1.filter (fun x => !has l x.key) ∧
    (parseN nB (l ++ outA.filter (fun x => !has l x.key)) ⟨restB, kdB, nm, nsB⟩).2.notes.length = (parseN nA outA ⟨restA, kdA, nm, nsA⟩).2.notes.length + ((parseN nA outA ⟨restA, kdA, nm, nsA⟩).1.filter (fun x => has l x.key)).length
  | 0, _, _, _, _, _, _, _, _, _, _, h, _, _ => by omega
  | nA + 1, nB, outA, restA, restB, kdA, kdB, nm, nsA, nsB, hd, hA, hB, hn => by
    obtain ⟨nB, rfl⟩ : ∃ k, nB = k + 1 := ⟨nB - 1, by omega⟩
    rw [parseN, parseN]
    dsimp only
    have lA := dropWhile_len (fun c : UInt8 => !(c == 64)) restA
    have lB := dropWhile_len (fun c : UInt8 => !(c == 64)) restB
    rw [← hd] at lB ⊢
    cases hr : restA.dropWhile (fun c => !(c == 64)) with
    | nil => exact ⟨rfl, hn⟩
    | cons c lst =>
      rw [hr] at lA lB
      have eA : entry (RS.at ⟨restA, kdA, nm, nsA⟩ lst) = _ := entry_pre lst kdA [] nm nsA
      have eB : entry (RS.at ⟨restB, kdB, nm, nsB⟩ lst) = _ := entry_pre lst kdB [] nm nsB
      dsimp only
      rw [eA, eB]
      have hlen := entry_len ⟨lst, [], nm, []⟩
      obtain ⟨E, hE⟩ : ∃ E, entry ⟨lst, [], nm, []⟩ = E := ⟨_, rfl⟩
      rw [hE] at hlen ⊢
      have hlen' : E.2.rest.length ≤ lst.length := hlen
      simp only [List.length_cons] at lA lB
      obtain ⟨E1, E2⟩ := E
      dsimp only at hlen' ⊢
      obtain ⟨r2, k2, n2, s2⟩ := E2
      have q : ∀ ns, (RS.pre ⟨r2, k2, n2, s2⟩ ns) = ⟨r2, k2, n2, ns ++ s2⟩ := fun ns => rfl
      have q2 : ∀ ns e t, (RS.note ⟨r2, k2, n2, ns⟩ e t) = ⟨r2, k2, n2, ns ++ [(e, t)]⟩ := fun ns e t => rfl
      rw [q, q]
      have hlen2 : r2.length ≤ lst.length := hlen'
      match E1 with
      | none =>
        dsimp only
        rw [q2, q2]
        exact parseN_two l nA nB outA r2 r2 k2 k2 n2 _ _ rfl (by omega) (by omega) (by simp only [List.length_append, List.length_singleton]; omega)
      | some none =>
        dsimp only
        exact parseN_two l nA nB outA r2 r2 k2 k2 n2 _ _ rfl (by omega) (by omega) (by simp only [List.length_append]; omega)
      | some (some x) =>
        dsimp only
        rw [has_app]
        cases hl : has l x.key with
        | true =>
          rw [Bool.true_or, if_pos rfl, q2]
          cases ho : has outA x.key with
          | true =>
            rw [if_pos rfl, q2]
            exact parseN_two l nA nB outA r2 r2 k2 k2 n2 _ _ rfl (by omega) (by omega) (by simp only [List.length_append, List.length_singleton]; omega)
          | false =>
            rw [if_neg (by simp)]
            have f1 : (outA ++ [x]).filter (fun y => !has l y.key) = outA.filter (fun y => !has l y.key) := by rw [List.filter_append]; simp [hl]
            have f2 : ((outA ++ [x]).filter (fun y => has l y.key)).length = (outA.filter (fun y => has l y.key)).length + 1 := by rw [List.filter_append, List.length_append]; simp [hl]
            have h := parseN_two l nA nB (outA ++ [x]) r2 r2 k2 k2 n2 (nsA ++ s2) (nsB ++ s2 ++ [(12, x.key)]) rfl (by omega) (by omega) (by rw [f2]; simp only [List.length_append, List.length_singleton]; omega)
            rw [f1] at h
            exact h
        | false =>
          rw [Bool.false_or, has_filter l outA x.key hl]
          cases ho : has outA x.key with
          | true =>
            rw [if_pos rfl, if_pos rfl, q2, q2]
            exact parseN_two l nA nB outA r2 r2 k2 k2 n2 _ _ rfl (by omega) (by omega) (by simp only [List.length_append, List.length_singleton]; omega)
          | false =>
            rw [if_neg (by simp), if_neg (by simp)]
            have f1 : (outA ++ [x]).filter (fun y => !has l y.key) = outA.filter (fun y => !has l y.key) ++ [x] := by rw [List.filter_append]; simp [hl]
            have f2 : ((outA ++ [x]).filter (fun y => has l y.key)).length = (outA.filter (fun y => has l y.key)).length := by rw [List.filter_append, List.length_append]; simp [hl]
            have h := parseN_two l nA nB (outA ++ [x]) r2 r2 k2 k2 n2 (nsA ++ s2) (nsB ++ s2) rfl (by omega) (by omega) (by rw [f2]; simp only [List.length_append]; omega)
            rw [f1, ← List.append_assoc] at h
            exact h
theorem showN_two (x : Ent) (l : List Ent) : (x :: l).length + 2 ≤ (showN (x :: l)).length := by
  have := showN_length l
  show _ ≤ ([64] ++ x.kind ++ [123] ++ x.key ++ showF x.fields ++ [125, 10] ++ showN l).length
  simp only [List.length_append, List.length_cons, List.length_nil]
  omega
theorem law_two (l : List Ent) (s : List UInt8) (h : right l = true) :
    (parse (showN l ++ s)).1 = l ++ (parse s).1.filter (fun x => !has l x.key) ∧ (parse (showN l ++ s)).2.length = (parse s).2.length + ((parse s).1.filter (fun x => has l x.key)).length := by
  unfold parse
  dsimp only
  cases l with
  | nil =>
    have h0 := parseN_two [] (s.length + 1) (s.length + 1) [] s s [] [] (fun _ => none) [] [] rfl (by omega) (by omega) rfl
    exact h0
  | cons x l =>
    have h2 := showN_two x l
    obtain ⟨n, hn⟩ : ∃ n, (showN (x :: l) ++ s).length + 1 = n + (x :: l).length := ⟨(showN (x :: l) ++ s).length + 1 - (x :: l).length, by simp only [List.length_append]; omega⟩
    obtain ⟨pre', kd', e1, e2, e3⟩ := parse_to (fun _ => none) [] (x :: l) [] [] s [] n rfl h
    have hns : pre'.length + s.length < n := by
      simp only [List.length_append] at hn
      simp only [List.length_nil] at e2
      omega
    have h0 := parseN_two (x :: l) (s.length + 1) n [] s (pre' ++ s) [] kd' (fun _ => none) [] [] (drop_noAt pre' s e1).symm (by omega) (by rw [List.length_append]; exact hns) rfl
    rw [hn]
    have e4 : parseN (n + (x :: l).length) [] ⟨showN (x :: l) ++ s, [], fun _ => none, []⟩ = parseN n ([] ++ (x :: l)) ⟨pre' ++ s, kd', fun _ => none, []⟩ := e3
    rw [e4]
    have h1 : ((x :: l) ++ ([] : List Ent).filter (fun y => !has (x :: l) y.key)) = [] ++ (x :: l) := by simp
    rw [h1] at h0
    exact h0
end Go.Proofs.YtddgdfcgjjdlcaaDoor.Ent
