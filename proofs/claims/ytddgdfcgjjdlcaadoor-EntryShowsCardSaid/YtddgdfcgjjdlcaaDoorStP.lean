/- EntryStands, the plain law: what is parsed of a name that stands for a text, of the text in braces, in quotation marks. Plain Lean, no program in sight. -/
import Derived.Test.YtddgdfcgjjdlcaaDoorSameW
namespace Go.Proofs.YtddgdfcgjjdlcaaDoor.Ent

theorem brace_to (t r : List UInt8) (ht : t.any brace1 = false) : ∀ (acc : List UInt8), brace 1 acc (t ++ 125 :: r) = (some (acc ++ t), r) := by
  induction t with
  | nil => intro acc; simp [brace]
  | cons c t ih =>
    intro acc
    rw [List.any_cons, Bool.or_eq_false_iff] at ht
    have h1 := ht.1
    unfold brace1 at h1
    rw [Bool.or_eq_false_iff] at h1
    rw [List.cons_append, brace]
    simp only [h1.1, h1.2, Bool.false_eq_true, if_false]
    rw [if_neg (by decide), ih ht.2]
    simp
theorem quoted_to (t r : List UInt8) (ht : t.all (fun c => !(c == 34)) = true) : quoted (t ++ 34 :: r) = (some t, r) := by
  have h : ∀ a ∈ t, (!(a == 34)) = true := List.all_eq_true.1 ht
  unfold quoted
  rw [List.dropWhile_append_of_pos h, List.takeWhile_append_of_pos h]
  simp
theorem part_braced (σ : RS) (t r : List UInt8) (h : σ.rest = 123 :: (t ++ 125 :: r)) (ht : t.any brace1 = false) : part σ = (some t, σ.at r) := by
  unfold part
  have h1 : isB 34 σ.rest = false := by rw [h]; rfl
  have h2 : isB 123 σ.rest = true := by rw [h]; rfl
  have h3 : isL 123 σ.rest = t ++ 125 :: r := by rw [h]; rfl
  rw [h1, if_neg (by simp), h2, if_pos rfl, h3]
  unfold braced
  rw [brace_to t r ht []]
  rfl
theorem part_quoted (σ : RS) (t r : List UInt8) (h : σ.rest = 34 :: (t ++ 34 :: r)) (ht : t.all (fun c => !(c == 34)) = true) : part σ = (some t, σ.at r) := by
  unfold part
  have h1 : isB 34 σ.rest = true := by rw [h]; rfl
  have h3 : isL 34 σ.rest = t ++ 34 :: r := by rw [h]; rfl
  rw [h1, if_pos rfl, h3, quoted_to t r ht]
theorem part_name (σ : RS) (m t r : List UInt8) (h : mark σ.rest = (some m, r)) (h1 : isB 34 σ.rest = false) (h2 : isB 123 σ.rest = false) (hd : (small m).all digit = false) (hn : σ.names (small m) = some t) : part σ = (some t, σ.at r) := by
  unfold part
  rw [h1, if_neg (by simp), h2, if_neg (by simp), h]
  dsimp only
  rw [hd, if_neg (by simp), hn]
theorem part_digits (σ : RS) (m r : List UInt8) (h : mark σ.rest = (some m, r)) (h1 : isB 34 σ.rest = false) (h2 : isB 123 σ.rest = false) (hd : (small m).all digit = true) : part σ = (some (small m), σ.at r) := by
  unfold part
  rw [h1, if_neg (by simp), h2, if_neg (by simp), h]
  dsimp only
  rw [hd, if_pos rfl]
theorem value_one (n : Nat) (acc : List UInt8) (σ : RS) (t r : List UInt8) (h : part σ = (some t, σ.at r)) (hb : isB 35 r = false) : valueN (n + 1) acc σ = (some ((acc ++ t).take 1000), σ.at (isL 35 r)) := by
  unfold valueN
  rw [h]
  dsimp only
  have : isB 35 (σ.at r).rest = false := hb
  rw [this, if_neg (by simp)]
  rfl
theorem value_more (n : Nat) (acc : List UInt8) (σ : RS) (t r : List UInt8) (h : part σ = (some t, σ.at r)) (hb : isB 35 r = true) : valueN (n + 1) acc σ = valueN n ((acc ++ t).take 1000) (σ.at (isL 35 r)) := by
  rw [valueN, h]
  dsimp only
  have : isB 35 (σ.at r).rest = true := hb
  rw [this, if_pos rfl]
  rfl
theorem fields_step (n : Nat) (fs : List Fld) (σ σ' : RS) (m t : List UInt8) (l : List UInt8) (h1 : isB 125 σ.rest = false) (h2 : isB 44 (isL 125 σ.rest) = true) (h3 : isB 125 (isL 44 (isL 125 σ.rest)) = false) (hl : isL 125 (isL 44 (isL 125 σ.rest)) = l)
    (h4 : pair (σ.at l) = (some (m, t), σ')) (h5 : (get fs m).2 = false) : fieldsN (n + 1) fs σ = fieldsN n (fs ++ [⟨m, t⟩]) σ' := by
  subst hl
  rw [fieldsN, h1, if_neg (by simp), h2, if_pos rfl, h3, if_neg (by simp), h4]
  dsimp only
  rw [h5, if_neg (by simp)]
theorem fields_end (n : Nat) (fs : List Fld) (σ : RS) (h1 : isB 125 σ.rest = true) : fieldsN (n + 1) fs σ = (some fs, σ.at (isL 125 σ.rest)) := by
  rw [fieldsN, h1, if_pos rfl]
theorem entry_str (σ : RS) (r r2 m t : List UInt8) (σ3 : RS) (h : mark σ.rest = (some strW, r)) (h2 : isB 123 r = true) (h3 : isL 123 r = r2) (h4 : pair ⟨r2, strW, σ.names, σ.notes⟩ = (some (m, t), σ3)) (h5 : isB 125 σ3.rest = true) :
    entry σ = (some none, { σ3.at (isL 125 σ3.rest) with names := fun x => if x = m then some t else σ3.names x }) := by
  have hs : small strW = strW := rfl
  subst h3
  unfold entry
  rw [h]
  dsimp only
  unfold entryB
  rw [hs]
  dsimp only
  rw [h2, if_pos rfl, if_pos rfl]
  unfold entryS
  have h6 : (({ σ with rest := r, kind := strW } : RS).at (isL 123 r)) = ⟨isL 123 r, strW, σ.names, σ.notes⟩ := rfl
  rw [h6, h4]
  dsimp only
  rw [h5, if_pos rfl]
theorem entry_ent (σ : RS) (k r r2 y r3 : List UInt8) (fs : List Fld) (σ3 : RS) (h : mark σ.rest = (some k, r)) (hk : small k ≠ strW) (h2 : isB 123 r = true) (h3 : isL 123 r = r2) (h4 : mark r2 = (some y, r3)) (h5 : fieldsN (r2.length + 1) [] ⟨r3, small k, σ.names, σ.notes⟩ = (some fs, σ3)) :
    entry σ = (some (some ⟨small k, y, fs⟩), σ3) := by
  subst h3
  unfold entry
  rw [h]
  dsimp only
  unfold entryB
  dsimp only
  rw [h2, if_pos rfl, if_neg hk]
  unfold entryK
  have h6 : (({ σ with rest := r, kind := small k } : RS).at (isL 123 r)) = ⟨isL 123 r, small k, σ.names, σ.notes⟩ := rfl
  rw [h6]
  dsimp only
  rw [h4]
  dsimp only
  have h7 : ((⟨isL 123 r, small k, σ.names, σ.notes⟩ : RS).at r3) = ⟨r3, small k, σ.names, σ.notes⟩ := rfl
  rw [h7, h5]
theorem parse_str (n : Nat) (out : List Ent) (σ σ2 : RS) (l : List UInt8) (h : σ.rest.dropWhile (fun c => !(c == 64)) = 64 :: l) (h2 : entry (σ.at l) = (some none, σ2)) : parseN (n + 1) out σ = parseN n out σ2 := by
  rw [parseN, h]
  dsimp only
  rw [h2]
theorem parse_ent (n : Nat) (out : List Ent) (σ σ2 : RS) (l : List UInt8) (x : Ent) (h : σ.rest.dropWhile (fun c => !(c == 64)) = 64 :: l) (h2 : entry (σ.at l) = (some (some x), σ2)) (h3 : has out x.key = false) : parseN (n + 1) out σ = parseN n (out ++ [x]) σ2 := by
  rw [parseN, h]
  dsimp only
  rw [h2]
  dsimp only
  rw [h3, if_neg (by simp)]
theorem parse_end (n : Nat) (out : List Ent) (σ : RS) (h : σ.rest.dropWhile (fun c => !(c == 64)) = []) : parseN (n + 1) out σ = (out, σ) := by
  rw [parseN, h]
end Go.Proofs.YtddgdfcgjjdlcaaDoor.Ent
