/- The plain model of the reader of package entry. Plain Lean, no program in sight. -/
import Derived.Test.YtanbcokkfbidbaaGreatDoorEntR
namespace Go.Proofs.YtanbcokkfbidbaaGreatDoor.Ent

def blank (c : UInt8) : Bool := c == 32 || c == 9 || c == 10
/-- behind blanks -/
def bl (l : List UInt8) : List UInt8 := l.dropWhile blank
def hd : List UInt8 → Int | [] => 0 | x :: _ => (x.toNat : Int)
/-- goes over a byte, if it is next -/
def isB (c : UInt8) (l : List UInt8) : Bool := match bl l with | [] => false | x :: _ => x == c
def isL (c : UInt8) (l : List UInt8) : List UInt8 := match bl l with | [] => [] | x :: r => if x == c then r else x :: r
/-- what is wrong at a place -/
def err (l : List UInt8) : Int := if l.isEmpty then 6 else 5
def mark (l : List UInt8) : Option (List UInt8) × List UInt8 :=
  let m := (bl l).takeWhile sign
  (if m.isEmpty then none else some m, (bl l).dropWhile sign)
def quoted (l : List UInt8) : Option (List UInt8) × List UInt8 :=
  match l.dropWhile (fun c => !(c == 34)) with
  | [] => (none, [])
  | _ :: r => (some (l.takeWhile (fun c => !(c == 34))), r)
/-- what stands up to the brace that closes; so many are open -/
def brace : Nat → List UInt8 → List UInt8 → Option (List UInt8) × List UInt8
  | _, _, [] => (none, [])
  | deep, acc, x :: r =>
    let d := if x == 123 then deep + 1 else if x == 125 then deep - 1 else deep
    if d == 0 then (some acc, r) else brace d (acc ++ [x]) r
def braced (l : List UInt8) : Option (List UInt8) × List UInt8 := brace 1 [] l
def digit (c : UInt8) : Bool := decide (48 ≤ c.toNat) && decide (c.toNat ≤ 57)

structure RS where
  rest : List UInt8
  kind : List UInt8
  names : List UInt8 → Option (List UInt8)
  notes : List (Int × List UInt8)
def RS.at (σ : RS) (l : List UInt8) : RS := { σ with rest := l }
def RS.note (σ : RS) (e : Int) (s : List UInt8) : RS := { σ with notes := σ.notes ++ [(e, s)] }
def part (σ : RS) : Option (List UInt8) × RS :=
  if isB 34 σ.rest then ((quoted (isL 34 σ.rest)).1, σ.at (quoted (isL 34 σ.rest)).2)
  else if isB 123 σ.rest then ((braced (isL 123 σ.rest)).1, σ.at (braced (isL 123 σ.rest)).2)
  else match (mark σ.rest).1 with
    | none => (none, σ.at (mark σ.rest).2)
    | some m =>
      if (small m).all digit then (some (small m), σ.at (mark σ.rest).2)
      else match σ.names (small m) with
        | some t => (some t, σ.at (mark σ.rest).2)
        | none => (some [], (σ.at (mark σ.rest).2).note 4 (small m))
def valueN : Nat → List UInt8 → RS → Option (List UInt8) × RS
  | 0, _, σ => (none, σ)
  | n + 1, acc, σ =>
    match (part σ).1 with
    | none => (none, (part σ).2)
    | some t =>
      if isB 35 (part σ).2.rest then valueN n ((acc ++ t).take 1000) ((part σ).2.at (isL 35 (part σ).2.rest))
      else (some ((acc ++ t).take 1000), (part σ).2.at (isL 35 (part σ).2.rest))
def value (σ : RS) : Option (List UInt8) × RS := valueN (σ.rest.length + 1) [] σ
/-- a byte has to be next -/
def must (c : UInt8) (σ : RS) : Bool × RS := (isB c σ.rest, σ.at (isL c σ.rest))
def markS (σ : RS) : Option (List UInt8) × RS := ((mark σ.rest).1, σ.at (mark σ.rest).2)
/-- a name, and what it stands for, or a field -/
def pair (σ : RS) : Option (List UInt8 × List UInt8) × RS :=
  match (markS σ).1 with
  | none => (none, (markS σ).2)
  | some m =>
    if isB 61 (markS σ).2.rest then
      match (value ((markS σ).2.at (isL 61 (markS σ).2.rest))).1 with
      | none => (none, (value ((markS σ).2.at (isL 61 (markS σ).2.rest))).2)
      | some t => (some (small m, t), (value ((markS σ).2.at (isL 61 (markS σ).2.rest))).2)
    else (none, (markS σ).2.at (isL 61 (markS σ).2.rest))
def fieldsN : Nat → List Fld → RS → Option (List Fld) × RS
  | 0, _, σ => (none, σ)
  | n + 1, fs, σ =>
    if isB 125 σ.rest then (some fs, σ.at (isL 125 σ.rest))
    else if isB 44 (isL 125 σ.rest) then
      if isB 125 (isL 44 (isL 125 σ.rest)) then (some fs, σ.at (isL 125 (isL 44 (isL 125 σ.rest))))
      else match (pair (σ.at (isL 125 (isL 44 (isL 125 σ.rest))))).1 with
        | none => (none, (pair (σ.at (isL 125 (isL 44 (isL 125 σ.rest))))).2)
        | some (m, t) =>
          if (get fs m).2 then fieldsN n fs ((pair (σ.at (isL 125 (isL 44 (isL 125 σ.rest))))).2.note 12 m)
          else fieldsN n (fs ++ [⟨m, t⟩]) (pair (σ.at (isL 125 (isL 44 (isL 125 σ.rest))))).2
    else (none, σ.at (isL 44 (isL 125 σ.rest)))
def strW : List UInt8 := [115, 116, 114, 105, 110, 103]
/-- behind '{' of a string -/
def entryS (σ2 : RS) : Option (Option Ent) × RS :=
  match (pair σ2).1 with
  | none => (none, (pair σ2).2)
  | some (m, t) =>
    if isB 125 (pair σ2).2.rest then (some none, { (pair σ2).2.at (isL 125 (pair σ2).2.rest) with names := fun x => if x = m then some t else (pair σ2).2.names x })
    else (none, (pair σ2).2.at (isL 125 (pair σ2).2.rest))
/-- behind '{' of an entry -/
def entryK (u : List UInt8) (σ2 : RS) : Option (Option Ent) × RS :=
  match (mark σ2.rest).1 with
  | none => (none, σ2.at (mark σ2.rest).2)
  | some y =>
    match (fieldsN (σ2.rest.length + 1) [] (σ2.at (mark σ2.rest).2)).1 with
    | none => (none, (fieldsN (σ2.rest.length + 1) [] (σ2.at (mark σ2.rest).2)).2)
    | some fs => (some (some ⟨u, y, fs⟩), (fieldsN (σ2.rest.length + 1) [] (σ2.at (mark σ2.rest).2)).2)
/-- behind a kind -/
def entryB (u : List UInt8) (σ1 : RS) : Option (Option Ent) × RS :=
  if isB 123 σ1.rest then
    if u = strW then entryS (σ1.at (isL 123 σ1.rest)) else entryK u (σ1.at (isL 123 σ1.rest))
  else (none, σ1.at (isL 123 σ1.rest))
/-- what stands behind an @: an entry, or none -/
def entry (σ : RS) : Option (Option Ent) × RS :=
  match (mark σ.rest).1 with
  | none => (none, { σ with rest := (mark σ.rest).2, kind := [] })
  | some k => entryB (small k) { σ with rest := (mark σ.rest).2, kind := small k }
def has (l : List Ent) (key : List UInt8) : Bool := l.any (fun x => x.key == key)
def parseN : Nat → List Ent → RS → List Ent × RS
  | 0, out, σ => (out, σ)
  | n + 1, out, σ =>
    match σ.rest.dropWhile (fun c => !(c == 64)) with
    | [] => (out, σ)
    | _ :: l =>
      match (entry (σ.at l)).1 with
      | none => parseN n out ((entry (σ.at l)).2.note (err (entry (σ.at l)).2.rest) (entry (σ.at l)).2.kind)
      | some none => parseN n out (entry (σ.at l)).2
      | some (some x) => if has out x.key then parseN n out ((entry (σ.at l)).2.note 12 x.key) else parseN n (out ++ [x]) (entry (σ.at l)).2
def parse (s : List UInt8) : List Ent × List (Int × List UInt8) :=
  let r := parseN (s.length + 1) [] ⟨s, [], fun _ => none, []⟩
  (r.1, r.2.notes)

/-! ### nothing that is read comes back -/
theorem bl_len (l : List UInt8) : (bl l).length ≤ l.length := by unfold bl; exact List.Sublist.length_le (List.dropWhile_sublist _)
theorem isL_len (c : UInt8) (l : List UInt8) : (isL c l).length ≤ l.length := by
  have := bl_len l
  unfold isL
  cases h : bl l with
  | nil => simp
  | cons x r => rw [h] at this; simp at this; dsimp only; split <;> simp <;> omega
theorem isL_lt (c : UInt8) (l : List UInt8) (hb : isB c l = true) : (isL c l).length < l.length := by
  have := bl_len l
  unfold isB at hb; unfold isL
  cases h : bl l with
  | nil => rw [h] at hb; simp at hb
  | cons x r => rw [h] at this hb; simp at this hb; simp [hb]; omega
theorem dropWhile_len {α : Type} (p : α → Bool) (l : List α) : (l.dropWhile p).length ≤ l.length := List.Sublist.length_le (List.dropWhile_sublist _)
theorem mark_len (l : List UInt8) : (mark l).2.length ≤ l.length := by
  unfold mark
  exact Nat.le_trans (dropWhile_len _ _) (bl_len l)
theorem mark_lt (l m : List UInt8) (h : (mark l).1 = some m) : m ≠ [] ∧ (mark l).2.length < l.length := by
  unfold mark at h ⊢
  dsimp only at h ⊢
  split at h
  · cases h
  · rename_i hne
    cases h
    have h0 : (bl l).takeWhile sign ≠ [] := by intro e; rw [e] at hne; simp at hne
    refine ⟨h0, ?_⟩
    have h1 := congrArg List.length (List.takeWhile_append_dropWhile (p := sign) (l := bl l))
    rw [List.length_append] at h1
    have h2 := List.length_pos_iff.2 h0
    have h3 := bl_len l
    omega
theorem quoted_len (l : List UInt8) : (quoted l).2.length ≤ l.length := by
  have := dropWhile_len (fun c : UInt8 => !(c == 34)) l
  unfold quoted
  cases h : l.dropWhile (fun c => !(c == 34)) with
  | nil => simp
  | cons x r => rw [h] at this; simp at this; simp; omega
theorem brace_len : ∀ (l : List UInt8) (d : Nat) (acc : List UInt8), (brace d acc l).2.length ≤ l.length
  | [], _, _ => by simp [brace]
  | x :: r, d, acc => by
    unfold brace
    dsimp only
    generalize (if x == 123 then d + 1 else if x == 125 then d - 1 else d) = d'
    cases d' with
    | zero => simp
    | succ k =>
      have := brace_len r (k + 1) (acc ++ [x])
      simp
      omega
theorem bl_bl (l : List UInt8) : bl (bl l) = bl l := by
  unfold bl
  induction l with
  | nil => rfl
  | cons x l ih =>
    rw [List.dropWhile_cons]
    cases h : blank x
    · simp [h]
    · simpa using ih
theorem isB_bl (c : UInt8) (l : List UInt8) : isB c (bl l) = isB c l := by unfold isB; rw [bl_bl]
theorem isL_bl (c : UInt8) (l : List UInt8) : isL c (bl l) = isL c l := by unfold isL; rw [bl_bl]
theorem mark_bl (l : List UInt8) : mark (bl l) = mark l := by unfold mark; rw [bl_bl]
theorem isL_no (c : UInt8) (l : List UInt8) (h : isB c l = false) : isL c l = bl l := by
  unfold isL
  unfold isB at h
  cases hb : bl l with
  | nil => rfl
  | cons x r => rw [hb] at h; dsimp only at h ⊢; rw [h]; rfl
end Go.Proofs.YtanbcokkfbidbaaGreatDoor.Ent
