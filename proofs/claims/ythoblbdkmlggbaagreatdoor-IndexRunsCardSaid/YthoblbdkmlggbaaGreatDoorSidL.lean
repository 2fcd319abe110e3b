/- Plain laws of layers 3 and 10: what is encoded is decoded as it was; what is decoded is what is encoded of it. Plain Lean, no program in sight. -/
import Derived.Test.YthoblbdkmlggbaaGreatDoorSidP
namespace Go.Proofs.YthoblbdkmlggbaaGreatDoor.Sd

/-! ### lengths -/
theorem dec_digit (d : Nat) (h : d < 10) : (UInt8.ofNat (48 + d)).toNat = 48 + d := by
  simp; omega
theorem lenGo_digit (first : Bool) (n d : Nat) (r : List UInt8) (hd : d < 10) (h0 : first = false → 0 < n) (hn : n * 10 + d ≤ 999999) :
    lenGo first n (UInt8.ofNat (48 + d) :: r) = lenGo false (n * 10 + d) r := by
  have hb := dec_digit d hd
  have hne : UInt8.ofNat (48 + d) ≠ 58 := by
    intro h
    have h2 := congrArg UInt8.toNat h
    rw [hb] at h2
    have : (58 : UInt8).toNat = 58 := rfl
    omega
  rw [lenGo, if_neg (fun h => hne h.1), hb]
  rw [if_neg (by
    rintro (h | h | h)
    · omega
    · omega
    · have := h0 h.1; omega), if_neg (by omega)]
  congr 1
  omega
theorem lenGo_dec : ∀ (f n : Nat) (r : List UInt8), n < 10 ^ f → 0 < f → n ≤ 999999 → lenGo true 0 (Cnt.decF f n ++ r) = lenGo false n r
  | 0, n, r, _, h, _ => absurd h (by omega)
  | f + 1, n, r, h, _, hn => by
    unfold Cnt.decF
    by_cases h10 : n < 10
    · rw [if_pos h10, List.singleton_append, lenGo_digit true 0 n r h10 (by simp) (by omega)]
      simp
    · rw [if_neg h10, List.append_assoc, lenGo_dec f (n / 10) _ (by rw [Nat.pow_succ] at h; omega) (by
        rcases Nat.eq_zero_or_pos f with h0 | h0
        · subst h0; simp at h; omega
        · exact h0) (by omega), List.singleton_append, lenGo_digit false (n / 10) (n % 10) r (by omega) (by omega) (by omega)]
      congr 1
      omega
theorem len_put (t r : List UInt8) (h : t.length ≤ 999999) : lenGo true 0 (Lib.itoa (t.length : Int) ++ 58 :: r) = some (t.length, r) := by
  rw [Cnt.itoa_dec _ h, lenGo_dec 6 _ _ (by omega) (by omega) h, lenGo, if_pos ⟨rfl, rfl⟩]
theorem put_shape (t r : List UInt8) : put t ++ r = Lib.itoa (t.length : Int) ++ 58 :: (t ++ 44 :: r) := by unfold put; simp
theorem get_put (t r : List UInt8) (h : t.length ≤ 999999) : get (put t ++ r) = some (t, r) := by
  have h44 : (t ++ 44 :: r)[t.length]? = some 44 := by simp
  unfold get
  rw [put_shape, len_put t _ h]
  simp only [h44, if_true]
  have e : t ++ 44 :: r = (t ++ [44]) ++ r := by simp
  rw [List.take_left, e, List.drop_left' (by simp)]
theorem get_cut (t : List UInt8) (h : t.length ≤ 999999) : get (Lib.itoa (t.length : Int) ++ 58 :: t) = none := by
  unfold get
  rw [len_put t _ h]
  simp
theorem get_one (c : UInt8) : get [c] = none := by
  have h : lenGo true 0 [c] = none := by
    rw [lenGo, if_neg (fun h => by simp at h)]
    split
    · rfl
    · split <;> rfl
  unfold get
  rw [h]
theorem put_ne (t r : List UInt8) : ∃ c q, put t ++ r = c :: q := by
  cases h : put t ++ r with
  | nil => exact absurd h (by unfold put; simp)
  | cons c q => exact ⟨c, q, rfl⟩

/-! ### all texts -/
def puts (ts : List (List UInt8)) : List UInt8 := (ts.map put).flatten
theorem puts_cons (t : List UInt8) (ts : List (List UInt8)) : puts (t :: ts) = put t ++ puts ts := rfl
theorem puts_append (a b : List (List UInt8)) : puts (a ++ b) = puts a ++ puts b := by unfold puts; simp
theorem allN_nil (f : Nat) : allN f [] = some [] := by cases f <;> rfl
theorem allN_put (f : Nat) (t r : List UInt8) (h : t.length ≤ 999999) : allN (f + 1) (put t ++ r) = (allN f r).map (t :: ·) := by
  obtain ⟨c, q, hq⟩ := put_ne t r
  have hg := get_put t r h
  rw [hq] at hg ⊢
  rw [allN, hg]
theorem allN_puts : ∀ (ts : List (List UInt8)) (f : Nat) (r : List UInt8), (∀ t ∈ ts, t.length ≤ 999999) → ts.length ≤ f → allN f (puts ts ++ r) = (allN (f - ts.length) r).map (ts ++ ·)
  | [], f, r, _, _ => by simp [puts]
  | t :: ts, 0, r, _, h => by simp at h
  | t :: ts, f + 1, r, hl, h => by
    rw [puts_cons, List.append_assoc, allN_put f t _ (hl t (by simp)), allN_puts ts f r (fun u hu => hl u (by simp [hu])) (by simpa using h)]
    simp only [List.length_cons, Nat.add_sub_add_right, Option.map_map]
    rfl
theorem put_len (t : List UInt8) : t.length + 2 ≤ (put t).length := by unfold put; simp only [List.length_append, List.length_cons, List.length_nil]; omega
theorem puts_len : ∀ ts : List (List UInt8), ts.length ≤ (puts ts).length
  | [] => by simp
  | t :: ts => by
    have h1 := puts_len ts
    have h2 := put_len t
    rw [puts_cons, List.length_append, List.length_cons]
    omega
theorem all_puts (ts : List (List UInt8)) (h : ∀ t ∈ ts, t.length ≤ 999999) : all (puts ts) = some ts := by
  have h1 := allN_puts ts (puts ts).length [] h (puts_len ts)
  rw [List.append_nil, allN_nil] at h1
  unfold all
  rw [h1]
  simp
theorem all_bad (ts : List (List UInt8)) (r : List UInt8) (h : ∀ t ∈ ts, t.length ≤ 999999) (hr : ∀ f, allN f r = none) : all (puts ts ++ r) = none := by
  unfold all
  rw [allN_puts ts _ r h (by rw [List.length_append]; have := puts_len ts; omega), hr]
  rfl
theorem allN_cut (t : List UInt8) (h : t.length ≤ 999999) (f : Nat) : allN f (Lib.itoa (t.length : Int) ++ 58 :: t) = none := by
  have hg := get_cut t h
  obtain ⟨c, q, hq⟩ : ∃ c q, Lib.itoa (t.length : Int) ++ 58 :: t = c :: q := by
    cases h : Lib.itoa (t.length : Int) ++ 58 :: t with
    | nil => simp at h
    | cons c q => exact ⟨c, q, rfl⟩
  rw [hq] at hg ⊢
  cases f with
  | zero => rfl
  | succ f => rw [allN, hg]
theorem allN_one (c : UInt8) (f : Nat) : allN f [c] = none := by
  cases f with
  | zero => rfl
  | succ f => rw [allN, get_one]

/-! ### records -/
def recL (x : Lab) : List UInt8 := puts [labW, x.key, x.num, dig x.page]
def recH (x : Hd) : List UInt8 := puts [headW, dig x.level, x.num, x.title, dig x.page]
def recC (s : List UInt8) : List UInt8 := puts [citeW, s]
def recB (s : List UInt8) : List UInt8 := puts [bibW, s]
def recs (x : Side) : List (List UInt8) := x.labs.map recL ++ x.heads.map recH ++ x.cites.map recC ++ x.bibs.map recB
theorem encN_puts (x : Side) : encN x = puts (recs x) := by
  unfold encN recs
  rw [puts_append, puts_append, puts_append]
  unfold puts
  simp only [List.map_map]
  rfl
/-- what is small enough to be put -/
structure Small (x : Side) : Prop where
  lab : ∀ l ∈ x.labs, l.key.length ≤ 1000 ∧ l.num.length ≤ 1000 ∧ 0 ≤ l.page ∧ l.page ≤ 999999
  head : ∀ h ∈ x.heads, h.num.length ≤ 1000 ∧ h.title.length ≤ 1000 ∧ 0 ≤ h.level ∧ h.level ≤ 999999 ∧ 0 ≤ h.page ∧ h.page ≤ 999999
  cite : ∀ s ∈ x.cites, s.length ≤ 1000
  bib : ∀ s ∈ x.bibs, s.length ≤ 1000
theorem dig_nat (n : Nat) (h : n ≤ 999999) : dig (n : Int) = Cnt.decF 6 n := by
  unfold dig
  exact Cnt.text_dec n h 0 (by omega) (by omega) (by omega)
theorem dig_len (n : Int) (h0 : 0 ≤ n) (h : n ≤ 999999) : (dig n).length ≤ 6 := by
  obtain ⟨k, rfl⟩ := Int.eq_ofNat_of_zero_le h0
  rw [dig_nat k (by omega)]
  exact Cnt.decF_length 6 k
theorem val_dig (n : Int) (h0 : 0 ≤ n) (h : n ≤ 999999) : val (dig n) = n := by
  obtain ⟨k, rfl⟩ := Int.eq_ofNat_of_zero_le h0
  unfold val dig
  rw [Cnt.back k (by omega) 0]
theorem put_le (t : List UInt8) (h : t.length ≤ 999999) : (put t).length ≤ t.length + 8 := by
  unfold put
  rw [Cnt.itoa_dec _ h]
  have := Cnt.decF_length 6 t.length
  simp only [List.length_append, List.length_cons, List.length_nil]
  omega
theorem puts_le : ∀ (ts : List (List UInt8)) (m : Nat), m ≤ 999999 → (∀ t ∈ ts, t.length ≤ m) → (puts ts).length ≤ ts.length * (m + 8)
  | [], m, _, _ => by simp [puts]
  | t :: ts, m, hm, h => by
    have h1 := puts_le ts m hm (fun u hu => h u (by simp [hu]))
    have h2 := h t (by simp)
    have h3 := put_le t (by omega)
    rw [puts_cons, List.length_append, List.length_cons, Nat.succ_mul]
    omega
theorem labL (l : Lab) (h : l.key.length ≤ 1000 ∧ l.num.length ≤ 1000 ∧ 0 ≤ l.page ∧ l.page ≤ 999999) : ∀ t ∈ [labW, l.key, l.num, dig l.page], t.length ≤ 1000 := by
  intro t ht
  have := dig_len l.page h.2.2.1 h.2.2.2
  simp only [List.mem_cons, List.not_mem_nil, or_false] at ht
  rcases ht with rfl | rfl | rfl | rfl
  · decide
  · exact h.1
  · exact h.2.1
  · omega
theorem headL (l : Hd) (h : l.num.length ≤ 1000 ∧ l.title.length ≤ 1000 ∧ 0 ≤ l.level ∧ l.level ≤ 999999 ∧ 0 ≤ l.page ∧ l.page ≤ 999999) : ∀ t ∈ [headW, dig l.level, l.num, l.title, dig l.page], t.length ≤ 1000 := by
  intro t ht
  have h1 := dig_len l.page h.2.2.2.2.1 h.2.2.2.2.2
  have h2 := dig_len l.level h.2.2.1 h.2.2.2.1
  simp only [List.mem_cons, List.not_mem_nil, or_false] at ht
  rcases ht with rfl | rfl | rfl | rfl | rfl
  · decide
  · omega
  · exact h.1
  · exact h.2.1
  · omega
theorem citeL (w s : List UInt8) (hw : w.length ≤ 1000) (h : s.length ≤ 1000) : ∀ t ∈ [w, s], t.length ≤ 1000 := by
  intro t ht
  simp only [List.mem_cons, List.not_mem_nil, or_false] at ht
  rcases ht with rfl | rfl
  · exact hw
  · exact h
theorem big {ts : List (List UInt8)} (h : ∀ t ∈ ts, t.length ≤ 1000) : ∀ t ∈ ts, t.length ≤ 999999 := fun t ht => Nat.le_trans (h t ht) (by omega)
theorem recs_small (x : Side) (h : Small x) : ∀ t ∈ recs x, t.length ≤ 999999 := by
  intro t ht
  unfold recs at ht
  simp only [List.mem_append, List.mem_map] at ht
  rcases ht with ((⟨l, hl, rfl⟩ | ⟨l, hl, rfl⟩) | ⟨l, hl, rfl⟩) | ⟨l, hl, rfl⟩
  · have := puts_le _ 1000 (by omega) (labL l (h.lab l hl)); simp only [List.length_cons, List.length_nil] at this; unfold recL; omega
  · have := puts_le _ 1000 (by omega) (headL l (h.head l hl)); simp only [List.length_cons, List.length_nil] at this; unfold recH; omega
  · have := puts_le _ 1000 (by omega) (citeL citeW l (by decide) (h.cite l hl)); simp only [List.length_cons, List.length_nil] at this; unfold recC; omega
  · have := puts_le _ 1000 (by omega) (citeL bibW l (by decide) (h.bib l hl)); simp only [List.length_cons, List.length_nil] at this; unfold recB; omega
theorem takeAll_append : ∀ (a b : List (List UInt8)) (x : Side), takeAll x (a ++ b) = (takeAll x a).bind fun y => takeAll y b
  | [], b, x => rfl
  | t :: a, b, x => by
    rw [List.cons_append, takeAll, takeAll]
    cases all t with
    | none => rfl
    | some ps =>
      cases h : take1 x ps with
      | none => simp only [h]; rfl
      | some y => simp only [h]; exact takeAll_append a b y
theorem takeAll_labs : ∀ (ls : List Lab) (x : Side), (∀ l ∈ ls, l.key.length ≤ 1000 ∧ l.num.length ≤ 1000 ∧ 0 ≤ l.page ∧ l.page ≤ 999999) → takeAll x (ls.map recL) = some { x with labs := x.labs ++ ls }
  | [], x, _ => by simp [takeAll]
  | l :: ls, x, h => by
    have hl := h l (by simp)
    rw [List.map_cons, takeAll, show all (recL l) = _ from all_puts _ (big (labL l hl))]
    have : take1 x [labW, l.key, l.num, dig l.page] = some { x with labs := x.labs ++ [l] } := by
      simp only [take1, if_true, val_dig l.page hl.2.2.1 hl.2.2.2]
    simp only [this]
    rw [takeAll_labs ls _ (fun u hu => h u (by simp [hu]))]
    simp
theorem takeAll_heads : ∀ (ls : List Hd) (x : Side), (∀ h ∈ ls, h.num.length ≤ 1000 ∧ h.title.length ≤ 1000 ∧ 0 ≤ h.level ∧ h.level ≤ 999999 ∧ 0 ≤ h.page ∧ h.page ≤ 999999) → takeAll x (ls.map recH) = some { x with heads := x.heads ++ ls }
  | [], x, _ => by simp [takeAll]
  | l :: ls, x, h => by
    have hl := h l (by simp)
    rw [List.map_cons, takeAll, show all (recH l) = _ from all_puts _ (big (headL l hl))]
    have : take1 x [headW, dig l.level, l.num, l.title, dig l.page] = some { x with heads := x.heads ++ [l] } := by
      simp only [take1, if_true, val_dig l.page hl.2.2.2.2.1 hl.2.2.2.2.2, val_dig l.level hl.2.2.1 hl.2.2.2.1]
    simp only [this]
    rw [takeAll_heads ls _ (fun u hu => h u (by simp [hu]))]
    simp
theorem takeAll_cites : ∀ (ls : List (List UInt8)) (x : Side), (∀ s ∈ ls, s.length ≤ 1000) → takeAll x (ls.map recC) = some { x with cites := x.cites ++ ls }
  | [], x, _ => by simp [takeAll]
  | l :: ls, x, h => by
    rw [List.map_cons, takeAll, show all (recC l) = _ from all_puts _ (big (citeL citeW l (by decide) (h l (by simp))))]
    have : take1 x [citeW, l] = some { x with cites := x.cites ++ [l] } := by simp only [take1, if_true]
    simp only [this]
    rw [takeAll_cites ls _ (fun u hu => h u (by simp [hu]))]
    simp
theorem takeAll_bibs : ∀ (ls : List (List UInt8)) (x : Side), (∀ s ∈ ls, s.length ≤ 1000) → takeAll x (ls.map recB) = some { x with bibs := x.bibs ++ ls }
  | [], x, _ => by simp [takeAll]
  | l :: ls, x, h => by
    rw [List.map_cons, takeAll, show all (recB l) = _ from all_puts _ (big (citeL bibW l (by decide) (h l (by simp))))]
    have : take1 x [bibW, l] = some { x with bibs := x.bibs ++ [l] } := by
      simp only [take1, if_neg (show ¬ bibW = citeW by decide), if_true]
    simp only [this]
    rw [takeAll_bibs ls _ (fun u hu => h u (by simp [hu]))]
    simp
theorem takeAll_recs (x : Side) (h : Small x) : takeAll none_ (recs x) = some x := by
  unfold recs
  rw [takeAll_append, takeAll_append, takeAll_append, takeAll_labs _ _ h.lab]
  simp only [Option.bind_some]
  rw [takeAll_heads _ _ h.head]
  simp only [Option.bind_some]
  rw [takeAll_cites _ _ h.cite]
  simp only [Option.bind_some]
  rw [takeAll_bibs _ _ h.bib]
  simp [none_]

/-! ### what may be is small -/
theorem keysN_key : ∀ (l before : List (List UInt8)), keysN before l = true → ∀ s ∈ l, key s = true
  | [], _, _, s, hs => by simp at hs
  | t :: l, before, h, s, hs => by
    rw [keysN, Bool.and_eq_true, Bool.and_eq_true] at h
    rcases List.mem_cons.1 hs with rfl | hs
    · exact h.1.1
    · exact keysN_key l _ h.2 s hs
theorem key_len (s : List UInt8) (h : key s = true) : s.length ≤ 60 := by
  unfold key at h
  simp only [Bool.and_eq_true, decide_eq_true_eq] at h
  exact h.1.2
theorem right_small (x : Side) (h : right x = true) : Small x := by
  unfold right at h
  simp only [Bool.and_eq_true, decide_eq_true_eq, List.all_eq_true] at h
  obtain ⟨⟨⟨⟨⟨⟨⟨⟨_, _⟩, _⟩, _⟩, hc⟩, hb⟩, hl⟩, hh⟩, hk⟩ := h
  refine ⟨fun l hm => ?_, fun l hm => ?_, fun s hs => ?_, fun s hs => ?_⟩
  · have h1 := hl l hm
    have h2 := key_len _ (keysN_key _ _ hk l.key (List.mem_map.2 ⟨l, hm, rfl⟩))
    simp only [labOk, pageOk, Bool.and_eq_true, decide_eq_true_eq] at h1
    omega
  · have h1 := hh l hm
    simp only [headOk, pageOk, Bool.and_eq_true, decide_eq_true_eq] at h1
    have h2 := key_len _ h1.2
    omega
  · have := key_len _ (keysN_key _ _ hc s hs); omega
  · have := key_len _ (keysN_key _ _ hb s hs); omega

/-! ### the laws -/
theorem all_enc (x : Side) (h : Small x) : all (encN x) = some (recs x) := by rw [encN_puts]; exact all_puts _ (recs_small x h)
theorem dec_enc (x : Side) (h : right x = true) : dec (encN x) = some x := by
  have hs := right_small x h
  unfold dec
  rw [all_enc x hs]
  simp only [takeAll_recs x hs, h, beq_self_eq_true, Bool.and_self, if_true]
theorem dec_sound (s : List UInt8) (x : Side) (h : dec s = some x) : right x = true ∧ encN x = s := by
  unfold dec at h
  split at h
  · cases h
  · split at h
    · cases h
    · next y hy =>
      split at h
      · next hc =>
        obtain rfl := Option.some.inj h
        rw [Bool.and_eq_true, beq_iff_eq] at hc
        exact hc
      · cases h
/-- a byte less -/
theorem dec_less (x : Side) (h : right x = true) (hne : encN x ≠ []) : dec (encN x).dropLast = none := by
  have hs := right_small x h
  have hsm := recs_small x hs
  rw [encN_puts] at hne ⊢
  obtain ⟨ts, t, ht⟩ : ∃ ts t, recs x = ts ++ [t] := by
    rcases List.eq_nil_or_concat (recs x) with h0 | ⟨ts, t, h0⟩
    · rw [h0] at hne; exact absurd rfl hne
    · exact ⟨ts, t, by rw [h0, List.concat_eq_append]⟩
  rw [ht] at hsm ⊢
  have hd : (puts (ts ++ [t])).dropLast = puts ts ++ (Lib.itoa (t.length : Int) ++ 58 :: t) := by
    rw [puts_append]
    have : puts [t] = (Lib.itoa (t.length : Int) ++ 58 :: t) ++ [44] := by unfold puts put; simp
    rw [this, ← List.append_assoc, List.dropLast_concat]
  unfold dec
  rw [hd, all_bad ts _ (fun u hu => hsm u (by simp [hu])) (fun f => allN_cut t (hsm t (by simp)) f)]
/-- a byte more -/
theorem dec_more (x : Side) (h : right x = true) (c : UInt8) : dec (encN x ++ [c]) = none := by
  have hsm := recs_small x (right_small x h)
  unfold dec
  rw [encN_puts, all_bad (recs x) [c] hsm (fun f => allN_one c f)]
/-- a record more that is none -/
def noneW : List UInt8 := [110, 111, 110, 101]
theorem dec_none (x : Side) (h : right x = true) : dec (encN x ++ put (put noneW)) = none := by
  have hs := right_small x h
  have hsm := recs_small x hs
  have hp : (put noneW).length ≤ 999999 := by have := put_le noneW (by decide); have h2 : noneW.length = 4 := rfl; omega
  have e : encN x ++ put (put noneW) = puts (recs x ++ [put noneW]) := by rw [encN_puts, puts_append]; unfold puts; simp
  have ha : all (put noneW) = some [noneW] := by
    have := all_puts [noneW] (by intro t ht; simp at ht; subst ht; decide)
    rwa [show puts [noneW] = put noneW by unfold puts; simp] at this
  unfold dec
  have hall : ∀ t ∈ recs x ++ [put noneW], t.length ≤ 999999 := by
    intro t ht
    rcases List.mem_append.1 ht with ht | ht
    · exact hsm t ht
    · rw [List.mem_singleton] at ht
      rw [ht]; exact hp
  rw [e, all_puts _ hall]
  simp only [takeAll_append, takeAll_recs x hs, Option.bind_some]
  have : takeAll x [put noneW] = none := by rw [takeAll, ha]; rfl
  rw [this]
/-! ### parts -/
def onlyL (x : Side) : Side := ⟨x.labs, [], [], []⟩
def onlyH (x : Side) : Side := ⟨[], x.heads, [], []⟩
def onlyC (x : Side) : Side := ⟨[], [], x.cites, []⟩
def onlyB (x : Side) : Side := ⟨[], [], [], x.bibs⟩
theorem right_join (x : Side) : right x = (right (onlyL x) && right (onlyH x) && right (onlyC x) && right (onlyB x)) := by
  unfold right onlyL onlyH onlyC onlyB
  dsimp only
  have k0 : keys [] = true := rfl
  simp only [k0, List.length_nil, List.map_nil, List.all_nil, Nat.zero_le, decide_true, Bool.true_and, Bool.and_true]
  generalize decide (x.labs.length ≤ 100) = a1
  generalize decide (x.heads.length ≤ 100) = a2
  generalize decide (x.cites.length ≤ 100) = a3
  generalize decide (x.bibs.length ≤ 8) = a4
  generalize keys x.cites = a5
  generalize keys x.bibs = a6
  generalize x.labs.all labOk = a7
  generalize x.heads.all headOk = a8
  generalize keys (x.labs.map Lab.key) = a9
  revert a1 a2 a3 a4 a5 a6 a7 a8 a9
  decide
theorem enc_join (x : Side) : encN x = encN (onlyL x) ++ encN (onlyH x) ++ encN (onlyC x) ++ encN (onlyB x) := by
  unfold encN onlyL onlyH onlyC onlyB
  simp
end Go.Proofs.YthoblbdkmlggbaaGreatDoor.Sd
