/- Chapter 01, CountLetters: a counter's letters are those of the one ahead of it, with the last one turned on, or are longer by one; a greater one's are never fewer, and of as many the greater text. -/
import Derived.Test.YtcpckgkimelhmaaDoorCntL
import Derived.Deep.RegionWith
import Derived.BigQuiet
import Derived.StillTailTactics
namespace Go.Proofs.YtcpckgkimelhmaaDoor.lawLet
open Go.RowKit Go.Op

theorem less_prefix : ∀ (p : List UInt8) (x y : List UInt8), bytesLess (p ++ x) (p ++ y) = bytesLess x y
  | [], x, y => rfl
  | a :: p, x, y => by simp [bytesLess, less_prefix p x y]
theorem less_left : ∀ (p q x y : List UInt8), p.length = q.length → bytesLess p q = true → bytesLess (p ++ x) (q ++ y) = true
  | [], [], _, _, _, h => by simp [bytesLess] at h
  | [], _ :: _, _, _, h, _ => by simp at h
  | _ :: _, [], _, _, h, _ => by simp at h
  | a :: p, b :: q, x, y, h, hl => by
    simp only [List.cons_append, bytesLess, Bool.or_eq_true, Bool.and_eq_true] at hl ⊢
    rcases hl with hl | ⟨h1, h2⟩
    · exact .inl hl
    · exact .inr ⟨h1, less_left p q x y (by simpa using h) h2⟩

theorem last_at (p : List UInt8) (c : UInt8) : ∀ h, (⟨(p ++ [c]).toArray⟩ : ByteArray)[p.length]'h = c := by
  intro h
  show (p ++ [c]).toArray[p.length] = c
  simp
theorem let_pos (n : Nat) (h : 0 < n) : 0 < (Cnt.lettered n).length := by rw [Cnt.lettered_pos n h]; simp

theorem mono (b : Nat) : ∀ a, 0 < a → a < b → (Cnt.lettered a).length < (Cnt.lettered b).length ∨ ((Cnt.lettered a).length = (Cnt.lettered b).length ∧ bytesLess (Cnt.lettered a) (Cnt.lettered b) = true) := by
  induction b using Nat.strongRecOn with
  | _ b ih =>
    intro a h0 hab
    rw [Cnt.lettered_pos a h0, Cnt.lettered_pos b (by omega)]
    simp only [List.length_append, List.length_cons, List.length_nil]
    by_cases he : (a - 1) / 26 = (b - 1) / 26
    · right
      rw [he, less_prefix]
      refine ⟨rfl, ?_⟩
      have h1 : (a - 1) % 26 < (b - 1) % 26 := by omega
      simp only [bytesLess, Bool.or_eq_true, decide_eq_true_eq]
      left
      rw [UInt8.lt_iff_toNat_lt]
      simp
      omega
    · by_cases hz : (a - 1) / 26 = 0
      · left
        have := let_pos ((b - 1) / 26) (by omega)
        rw [hz]
        simp [Cnt.lettered_zero]; omega
      · rcases ih ((b - 1) / 26) (by omega) ((a - 1) / 26) (by omega) (by omega) with h | ⟨h1, h2⟩
        · left; omega
        · right
          exact ⟨by omega, less_left _ _ _ _ h1 h2⟩

theorem len_step (n : Nat) : (Cnt.lettered (n + 1)).length = (Cnt.lettered n).length ∨ (Cnt.lettered (n + 1)).length = (Cnt.lettered n).length + 1 := by
  induction n using Nat.strongRecOn with
  | _ n ih =>
    by_cases h0 : n = 0
    · subst h0; right; rw [Cnt.lettered_pos 1 (by omega)]; simp [Cnt.lettered_zero]
    · rw [Cnt.lettered_pos (n + 1) (by omega), Cnt.lettered_pos n (by omega)]
      simp only [List.length_append, List.length_cons, List.length_nil]
      by_cases hm : (n - 1) % 26 = 25
      · have e : (n + 1 - 1) / 26 = (n - 1) / 26 + 1 := by omega
        rw [e]
        have := ih ((n - 1) / 26) (by omega)
        omega
      · have e : (n + 1 - 1) / 26 = (n - 1) / 26 := by omega
        rw [e]; left; rfl
/-- a counter's letters, and the next one's -/
theorem next (n : Nat) (h : 0 < n) : ∃ p c, Cnt.lettered n = p ++ [c] ∧ 97 ≤ c.toNat ∧ c.toNat ≤ 122 ∧
    (c.toNat ≠ 122 → ∃ d, Cnt.lettered (n + 1) = p ++ [d] ∧ d.toNat = c.toNat + 1) ∧
    (c.toNat = 122 → ∃ q, Cnt.lettered (n + 1) = q ++ [97] ∧ (q.length = p.length ∨ q.length = p.length + 1)) := by
  refine ⟨_, _, Cnt.lettered_pos n h, by simp; omega, by simp; omega, fun hc => ?_, fun hc => ?_⟩
  · have hc' : (n - 1) % 26 ≠ 25 := by simp at hc; omega
    have e : (n + 1 - 1) / 26 = (n - 1) / 26 := by omega
    refine ⟨_, by rw [Cnt.lettered_pos (n + 1) (by omega), e], ?_⟩
    simp; omega
  · have hc' : (n - 1) % 26 = 25 := by simp at hc; omega
    have e : (n + 1 - 1) / 26 = (n - 1) / 26 + 1 := by omega
    have e2 : (n + 1 - 1) % 26 = 0 := by omega
    refine ⟨_, by rw [Cnt.lettered_pos (n + 1) (by omega), e, e2]; rfl, len_step _⟩

set_option maxRecDepth 100000 in
set_option maxHeartbeats 1000000 in
theorem walk (a b : Int) (w : World) (hL : Laid01 w) :
    Calls Tryd.prog 6 #[.int .i64 a, .int .i64 b] w fun e w' => e = .returned (.bool true) ∧ Below w.heap.size w w' := by
  have a0 := Cnt.cut_lo a; have b0 := Cnt.cut_lo b; have a1 := Cnt.cut_hi a; have b1 := Cnt.cut_hi b
  obtain ⟨m, hm⟩ : ∃ m : Nat, max 1 (Cnt.cut a) = (m : Int) := ⟨(max 1 (Cnt.cut a)).toNat, by omega⟩
  obtain ⟨k, hk⟩ : ∃ k : Nat, max 1 (Cnt.cut b) = (k : Int) := ⟨(max 1 (Cnt.cut b)).toNat, by omega⟩
  have hm0 : 0 < m := by omega
  have hk0 : 0 < k := by omega
  have hm1 : m ≤ 999999 := by omega
  have hk1 : k ≤ 999999 := by omega
  clear a0 a1 b0 b1
  obtain ⟨p, c, hs, c97, c122, hn1, hn2⟩ := next m hm0
  obtain ⟨t, ht⟩ : ∃ t, Cnt.lettered k = t := ⟨_, rfl⟩
  have hmono : m < k → (p ++ [c]).length < t.length ∨ ((p ++ [c]).length = t.length ∧ bytesLess (p ++ [c]) t = true) := fun h => by have := mono k m hm0 h; rwa [hs, ht] at this
  have htl : 0 < t.length := by have := let_pos k hk0; rwa [ht] at this
  have hts : Cnt.text (m : Int) 3 = p ++ [c] := by rw [Cnt.text_letters m hm0 hm1, hs]
  have htt : Cnt.text (k : Int) 3 = t := by rw [Cnt.text_letters k hk0 hk1, ht]
  have hpl : p.length ≤ 999999 := by have := letGo_length m m; unfold Cnt.lettered at hs; rw [hs] at this; simp at this; omega
  have Hs := Lib.hid hs; have Ht := Lib.hid ht; have Hmono := Lib.hid hmono; have Hn1 := Lib.hid hn1; have Hn2 := Lib.hid hn2
  have HL := Lib.hid hL; clear hs ht hmono hn1 hn2 hL
  have HB := Lib.hid (Below.refl w.heap.size w)
  go_enter Tryd.func6, Tryd.ntmps6
  go_upto_region 4 with (first
    | (go_at_call 11; refine (count_cut _ _).mono ?_; rintro e w' ⟨rfl, rfl⟩)
    | (go_at_call 13; refine (count_text _ _ _ HL.out).mono ?_; rintro e w2 ⟨rfl, b2⟩; replace HL := Lib.hid (HL.out.below b2); replace HB := Lib.hid (bseq HB.out b2); clear b2))
  clear hm hk hts htt
  go_cut [49] (fun v wc => v = .bool false ∧ wc = w2)
  case first =>
    by_cases hlt : m < k
    · have hlt' : (m : Int) < (k : Int) := by omega
      rcases Hmono.out hlt with h1 | ⟨h1, h2⟩
      · have h3 : (p.length : Int) + 1 < (t.length : Int) := by simp at h1; omega
        clear Hmono h1
        go_wp2_with fail
        go_meet
        case rel => exact ⟨by simp; omega, rfl⟩
      · have h3 : (p.length : Int) + 1 = (t.length : Int) := by simp at h1; omega
        have h4 : (p.length : Int) + 1 ≤ (t.length : Int) := by omega
        have h5 : ((p.length : Int) + 1 == (t.length : Int)) = true := by simp [h3]
        clear h3 h1 Hmono
        go_wp2_with fail
        go_meet
        case rel => exact ⟨by simp; omega, rfl⟩
    · have hlt' : (k : Int) ≤ (m : Int) := by omega
      clear hlt Hmono
      go_wp2_with fail
      go_meet
      case rel => exact ⟨by simp; omega, rfl⟩
  case rest =>
    obtain ⟨rfl, rfl⟩ := hcut
    by_cases hmx : m = 999999
    · have hnx : Cnt.text ((m : Int) + 1) 3 = p ++ [c] := by
        rw [← Hs.out, ← Cnt.text_letters m hm0 hm1]
        unfold Cnt.text
        rw [show Cnt.cut ((m : Int) + 1) = Cnt.cut (m : Int) by subst hmx; decide +kernel]
      have hm9 : ((m : Int) == 999999) = true := by simp; omega
      clear hmx Hn1 Hn2
      go_wp2_with (first
        | (go_at_call 13; refine (count_text _ _ _ HL.out).mono ?_; rintro e w3 ⟨rfl, b3⟩; replace HL := Lib.hid (HL.out.below b3); replace HB := Lib.hid (bseq HB.out b3))
        | (go_at_call 17; refine (law01_fixed _ HL.out).mono ?_; rintro e w4 ⟨rfl, b4⟩))
      go_ret
      exact ⟨ret_bool rfl, bseq HB.out b4⟩
    · have hnx : Cnt.text ((m : Int) + 1) 3 = Cnt.lettered (m + 1) := by
        have := Cnt.text_letters (m + 1) (by omega) (by omega)
        rwa [show ((m + 1 : Nat) : Int) = (m : Int) + 1 by omega] at this
      have hm9 : ((m : Int) == 999999) = false := by simp; omega
      by_cases hc : c.toNat = 122
      · obtain ⟨q, hq, hql⟩ := Hn2.out hc
        rw [hq] at hnx
        have hix := last_at p c
        have hiy := last_at q 97
        have hcb : ((c.toNat : Int) != 122) = false := by simp; omega
        have hq0 : (0 : Int) < (q.length : Int) + 1 := by omega
        have hqe : ((q.length : Int) + 1 == (p.length : Int) + 1) = true ∨ (((q.length : Int) + 1 == (p.length : Int) + 1) = false ∧ ((q.length : Int) + 1 == (p.length : Int) + 1 + 1) = true) := by
          rcases hql with h | h
          · left; simp [h]
          · right; constructor <;> simp <;> omega
        have hq5 : q.length ≤ 1999999 := by omega
        clear hmx Hn1 Hn2 hq hql hc
        rcases hqe with e1 | ⟨e1, e2⟩
        all_goals
          go_wp2_with (first
            | (go_at_call 13; refine (count_text _ _ _ HL.out).mono ?_; rintro e w3 ⟨rfl, b3⟩; replace HL := Lib.hid (HL.out.below b3); replace HB := Lib.hid (bseq HB.out b3))
            | (go_at_call 17; refine (law01_fixed _ HL.out).mono ?_; rintro e w4 ⟨rfl, b4⟩))
          go_ret
          exact ⟨ret_bool rfl, bseq HB.out b4⟩
      · obtain ⟨d, hd, hdc⟩ := Hn1.out hc
        rw [hd] at hnx
        have hd' : (d.toNat : Int) = (c.toNat : Int) + 1 := by omega
        have hix := last_at p c
        have hiy := last_at p d
        have hcb : ((c.toNat : Int) != 122) = true := by simp; omega
        have hcd : ((d.toNat : Int) == (c.toNat : Int) + 1) = true := by simp [hd']
        clear hmx Hn1 Hn2 hd hdc hd'
        go_wp2_with (first
          | (go_at_call 13; refine (count_text _ _ _ HL.out).mono ?_; rintro e w3 ⟨rfl, b3⟩; replace HL := Lib.hid (HL.out.below b3); replace HB := Lib.hid (bseq HB.out b3)))
        have hw1 : IntKind.i64.wrap (p.length : Int) = (p.length : Int) := IntWalk.i64_in _ (by omega)
        have hw2 : IntKind.u8.wrap ((c.toNat : Int) + 1) = (c.toNat : Int) + 1 := IntWalk.u8_in _ (by omega)
        have hle1 : (p.length : Int) ≤ (p.length : Int) + 1 := by omega
        have hlt1 : (p.length : Int) < (p.length : Int) + 1 := by omega
        have hxx : ∀ x : UInt8, (⟨(p ++ [x]).toArray⟩ : ByteArray).extract 0 p.length = ⟨p.toArray⟩ := fun x => by rw [extract_any]; simp
        go_still_tail 33, (by kernel_rfl)
        change wpList _ _ _ _ _ w3.drew
        go_wp2_with (go_at_call 17; refine (law01_fixed _ (HL.out.below (Below.refl _ _).drew)).mono ?_; rintro e w4 ⟨rfl, b4⟩)
        go_ret
        exact ⟨ret_bool rfl, (HB.out.drew).trans (b4.mono HB.out.size)⟩
end Go.Proofs.YtcpckgkimelhmaaDoor.lawLet
