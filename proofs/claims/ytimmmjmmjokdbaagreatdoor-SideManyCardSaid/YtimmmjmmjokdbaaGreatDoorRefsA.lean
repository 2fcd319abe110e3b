/- The walks of the references of layers 3, 7, 9 and 10, first part: texts with their lengths, keys, whether a side may be. -/
import Derived.Test.YtimmmjmmjokdbaaGreatDoorRefE
import Derived.Test.YtimmmjmmjokdbaaGreatDoorSidW1
import Derived.Test.YtimmmjmmjokdbaaGreatDoorSidWa
import Derived.Test.YtimmmjmmjokdbaaGreatDoorSidWd
import Derived.Test.YtimmmjmmjokdbaaGreatDoorSidLw2
set_option linter.unusedSimpArgs false
set_option linter.unusedVariables false
namespace Go.Proofs.YtimmmjmmjokdbaaGreatDoor
open Go.RowKit

set_option maxRecDepth 100000 in
set_option maxHeartbeats 800000 in
theorem ref03_put (t : List UInt8) (w : World) (ht : t.length ≤ 999999) :
    Calls Tryz.prog 21 #[.string ⟨t.toArray⟩] w fun e w' => e = .returned (.string ⟨(Sd.put t).toArray⟩) ∧ Below w.heap.size w w' := by
  have hit := itoa_len t.length ht
  have hid := Cnt.itoa_dec t.length ht
  obtain ⟨d, hd⟩ : ∃ d, Cnt.decF 6 t.length = d := ⟨_, rfl⟩
  have hp : Sd.put t = d ++ [58] ++ t ++ [44] := by unfold Sd.put; rw [hid, hd]
  rw [hid, hd] at hit
  have Hd := Lib.hid hd; have Hp := Lib.hid hp; have Ht := Lib.hid ht
  clear hd hp hid
  have h1 : ¬ 9223372036854775807 < d.length + 1 := by omega
  have h2 : ¬ 9223372036854775807 < d.length + 1 + t.length := by omega
  have h3 : ¬ 9223372036854775807 < d.length + 1 + t.length + 1 := by omega
  go_enter Tryz.func21, Tryz.ntmps21
  go_wp2_with (go_at_call 26; refine (ref01_digits 6 t.length _ (Nat.lt_of_le_of_lt Ht.out (by decide)) (by decide) (by decide)).mono ?_; rw [Hd.out]; rintro e w1 ⟨rfl, hb⟩; have Hb := Lib.hid hb; clear hb)
  go_ret
  refine ⟨?_, Hb.out⟩
  rw [Hp.out]
  have g1 : ∀ l : List UInt8, (⟨l.toArray⟩ : ByteArray) ++ ⟨#[58]⟩ = ⟨(l ++ [58]).toArray⟩ := fun l => append_data l [58]
  have g2 : ∀ l : List UInt8, (⟨l.toArray⟩ : ByteArray) ++ ⟨#[44]⟩ = ⟨(l ++ [44]).toArray⟩ := fun l => append_data l [44]
  rw [g1, append_data (d ++ [58]) t, g2]
  rfl

theorem ref03_digit (m : Nat) (b : Bool) (hb : decide (48 ≤ m ∧ m ≤ 57) = b) (w : World) :
    Calls Tryz.prog 77 #[.int .u8 (m : Int)] w fun e w' => e = .returned (.bool b) ∧ w = w' := by
  subst hb
  by_cases h1 : 48 ≤ m
  · have g1 : (48 : Int) ≤ (m : Int) := by omega
    by_cases h2 : m ≤ 57
    · have g2 : (m : Int) ≤ 57 := by omega
      have e : decide (48 ≤ m ∧ m ≤ 57) = true := decide_eq_true ⟨h1, h2⟩
      rw [e]
      clear h1 h2 e
      go_enter Tryz.func77, Tryz.ntmps77
      go_wp2_with fail
      go_ret
      exact ⟨rfl, rfl⟩
    · have g2 : ¬ (m : Int) ≤ 57 := by omega
      have e : decide (48 ≤ m ∧ m ≤ 57) = false := decide_eq_false (fun h => h2 h.2)
      rw [e]
      clear h1 h2 e
      go_enter Tryz.func77, Tryz.ntmps77
      go_wp2_with fail
      go_ret
      exact ⟨rfl, rfl⟩
  · have g1 : ¬ (48 : Int) ≤ (m : Int) := by omega
    have e : decide (48 ≤ m ∧ m ≤ 57) = false := decide_eq_false (fun h => h1 h.1)
    rw [e]
    clear h1 e
    go_enter Tryz.func77, Tryz.ntmps77
    go_wp2_with fail
    go_ret
    exact ⟨rfl, rfl⟩

/-- what the reference's 'length' tells -/
def RLen (s : List UInt8) (at_ : Nat) (w : World) (e : Ending) (w' : World) : Prop :=
  w = w' ∧
  match Sd.lenGo true 0 (s.drop at_) with
  | some (n, r) => ∃ k : Nat, at_ < k ∧ k ≤ s.length ∧ r = s.drop k ∧ n ≤ 999999 ∧ e = .returned (.tuple #[.int .i64 (n : Int), .int .i64 (k : Int), .int .i64 0])
  | none => ∃ er : Int, 1 ≤ er ∧ er ≤ 100 ∧ e = .returned (.tuple #[.int .i64 0, .int .i64 0, .int .i64 er])
set_option maxRecDepth 100000 in
set_option maxHeartbeats 3200000 in
theorem ref03_length (s : List UInt8) (a : Nat) (w : World) (hs : s.length ≤ 1000000000) (ha : a ≤ s.length) :
    Calls Tryz.prog 58 #[.string ⟨s.toArray⟩, .int .i64 (a : Int)] w (RLen s a w) := by
  obtain ⟨o, ho⟩ : ∃ o, Sd.lenGo true 0 (s.drop a) = o := ⟨_, rfl⟩
  have Ho := Lib.hid ho
  clear ho
  go_enter Tryz.func58, Tryz.ntmps58
  go_wp2_with fail
  go_loopw [7, 8] (fun nv iv wr => ∃ (k n : Nat), a ≤ k ∧ k ≤ s.length ∧ n ≤ 999999 ∧ nv = .int .i64 (n : Int) ∧ iv = .int .i64 (k : Int) ∧ Sd.lenGo (decide (k = a)) n (s.drop k) = o ∧ (k = a → n = 0) ∧ (a < k → ∀ y, s[a]? = some y → (n = 0 ↔ y.toNat = 48)) ∧ wr = w) (fun _ iv _ => s.length - (intOf iv).toNat)
  case atStart => exact ⟨a, 0, Nat.le_refl _, ha, by omega, rfl, rfl, by rw [decide_eq_true rfl]; exact Ho.out, fun _ => rfl, fun h => by omega, rfl⟩
  case round =>
    obtain ⟨k, n, hak, hk, hn, rfl, rfl, hg, hkn, hy0, rfl⟩ := hrel
    have Hg := Lib.hid hg; have Hkn := Lib.hid hkn; have Hy := Lib.hid hy0
    clear hg hkn hy0
    by_cases hlt : k < s.length
    · obtain ⟨x, hx⟩ : ∃ x, s[k]? = some x := ⟨_, List.getElem?_eq_getElem hlt⟩
      obtain ⟨y, hy⟩ : ∃ y, s[a]? = some y := ⟨_, List.getElem?_eq_getElem (by omega)⟩
      have hby := byte_at s k x hx
      have hbya := byte_at s a y hy
      have hdrop : s.drop k = x :: s.drop (k + 1) := by
        obtain ⟨h1, h2⟩ := List.getElem?_eq_some_iff.1 hx
        rw [List.drop_eq_getElem_cons h1, h2]
      have hgo := Hg.out
      rw [hdrop, Sd.lenGo] at hgo
      have hxy : k = a → x = y := fun h => by rw [h, hy] at hx; exact (Option.some.inj hx).symm
      have hny : a < k → (n = 0 ↔ y.toNat = 48) := fun h => Hy.out h y hy
      have hlt' : (k : Int) < (s.length : Int) := by omega
      have hal' : (a : Int) < (s.length : Int) := by omega
      have hkl : (k : Int) + 1 ≤ 9223372036854775807 := by omega
      have hxl := x.toNat_lt
      obtain ⟨m, hm⟩ : ∃ m, x.toNat = m := ⟨_, rfl⟩
      obtain ⟨my, hmy⟩ : ∃ my, y.toNat = my := ⟨_, rfl⟩
      have hx58 : x = 58 ↔ m = 58 := ⟨fun h => by rw [← hm, h]; rfl, fun h => UInt8.toNat_inj.1 (by rw [hm, h]; rfl)⟩
      have hmm : k = a → m = my := fun h => by rw [← hm, ← hmy, hxy h]
      have hyk : ∀ y', s[a]? = some y' → y'.toNat = my := fun y' h => by rw [hy] at h; rw [← Option.some.inj h]; exact hmy
      rw [hmy] at hny
      rw [hm] at hxl hgo
      simp only [hx58] at hgo
      have Hgo := Lib.hid hgo; have Hmm := Lib.hid hmm; have Hny := Lib.hid hny; have Hyk := Lib.hid hyk
      clear hgo hdrop hx hy hx58 hxy hmm hny hyk Hy
      have hdg : decide (48 ≤ m ∧ m ≤ 57) = true ∨ decide (48 ≤ m ∧ m ≤ 57) = false := by cases decide (48 ≤ m ∧ m ≤ 57) <;> simp
      by_cases h1 : m = 58 ∧ a < k
      · obtain ⟨rfl, hne⟩ := h1
        have hgt : (a : Int) < (k : Int) := by omega
        have hr := Hgo.out
        rw [if_pos ⟨rfl, by simp; omega⟩] at hr
        have Hr := Lib.hid hr
        clear hr Hgo hdg
        go_wp2_with fail
        go_ret3
        refine ⟨rfl, ?_⟩
        rw [Ho.out, ← Hr.out]
        exact ⟨k + 1, by omega, by omega, rfl, hn, rfl⟩
      · have hr := Hgo.out
        have hc0 : ¬ (m = 58 ∧ decide (k = a) = false) := by
          rintro ⟨h2, h3⟩
          exact h1 ⟨h2, by simp at h3; omega⟩
        rw [if_neg hc0] at hr
        clear Hgo hc0
        rcases hdg with hd | hd
        · have hmd : 48 ≤ m ∧ m ≤ 57 := of_decide_eq_true hd
          have e58 : ((m : Int) == 58) = false := by rw [beq_eq_false_iff_ne]; omega
          have Hd := Lib.hid hd
          clear hd h1
          by_cases hka : k = a
          · subst hka
            have hgt : ¬ (k : Int) < (k : Int) := by omega
            have hn0 := Hkn.out rfl
            subst hn0
            rw [if_neg (by simp; omega), if_neg (by omega)] at hr
            have Hr := Lib.hid hr
            have Hmy2 := Lib.hid (Hmm.out rfl)
            clear hr
            obtain ⟨q, hq⟩ : ∃ q : Nat, q = m - 48 := ⟨_, rfl⟩
            obtain ⟨z, hz⟩ : ∃ z : Int, z = (q : Int) := ⟨_, rfl⟩
            have hw1 : IntKind.i64.wrap ((m : Int) - 48) = z := by rw [IntWalk.i64_in _ (by omega)]; omega
            have Hq9 := Lib.hid (show q ≤ 999999 by omega)
            have hb2 : decide ((999999 : Int) < z) = false := decide_eq_false (by omega)
            have Hz := Lib.hid hz
            clear hz
            have Hq := Lib.hid hq; have Hmd := Lib.hid hmd
            clear hq hmd
            have HK := Lib.hid (And.intro hs (And.intro ha (And.intro hak (And.intro hk (And.intro hn (And.intro hlt hkl))))))
            go_wp2_with (go_at_call 77; refine (ref03_digit _ true Hd.out _).mono ?_; rintro e w9 ⟨rfl, rfl⟩)
            go_roundw
            case rel => exact ⟨k + 1, q, by omega, by omega, Hq9.out, by rw [Hz.out], by go_num, by rw [decide_eq_false (by omega : ¬ k + 1 = k), Hq.out]; simpa using Hr.out, by omega, fun _ y' h => by have h1 := Hyk.out y' h; have h2 := Hmd.out; have h3 := Hq.out; have h4 := Hmy2.out; rw [h1]; omega, trivial⟩
            case measure => simp [intOf]; omega
          · have hgt : (a : Int) < (k : Int) := by omega
            have hak2 : a < k := by omega
            by_cases h0 : n = 0
            · have e48 : ((my : Int) == 48) = true := by have := (Hny.out hak2).1 h0; rw [this]; rfl
              rw [if_pos (.inr (.inr ⟨by simp [hka], h0⟩))] at hr
              have Hr := Lib.hid hr
              clear hr h0 hmd
              go_wp2_with (go_at_call 77; refine (ref03_digit _ true Hd.out _).mono ?_; rintro e w9 ⟨rfl, rfl⟩)
              go_ret3
              refine ⟨rfl, ?_⟩
              rw [Ho.out, ← Hr.out]
              exact ⟨5, by omega, by omega, rfl⟩
            · have e48 : ((my : Int) == 48) = false := by rw [beq_eq_false_iff_ne]; intro h; exact h0 ((Hny.out hak2).2 (by omega))
              have hng : ¬ (m < 48 ∨ 57 < m ∨ decide (k = a) = false ∧ n = 0) := by
                rintro (h | h | h)
                · omega
                · omega
                · exact h0 h.2
              rw [if_neg hng] at hr
              clear hng
              obtain ⟨q, hq⟩ : ∃ q : Nat, q = n * 10 + (m - 48) := ⟨_, rfl⟩
              have hw1 : IntKind.i64.wrap (10 * (n : Int)) = 10 * (n : Int) := IntWalk.i64_in _ (by omega)
              have hw2 : IntKind.i64.wrap (10 * (n : Int) + (m : Int)) = 10 * (n : Int) + (m : Int) := IntWalk.i64_in _ (by omega)
              obtain ⟨z, hz⟩ : ∃ z : Int, z = (q : Int) := ⟨_, rfl⟩
              have hw3 : IntKind.i64.wrap (10 * (n : Int) + (m : Int) - 48) = z := by rw [IntWalk.i64_in _ (by omega)]; omega
              have Hq := Lib.hid hq; have Hmd := Lib.hid hmd; have H0 := Lib.hid h0
              by_cases hbig : 999999 < n * 10 + (m - 48)
              · rw [if_pos hbig] at hr
                have Hr := Lib.hid hr
                have gb : (999999 : Int) < z := by omega
                clear hr hbig hq hmd h0 hz
                go_wp2_with (go_at_call 77; refine (ref03_digit _ true Hd.out _).mono ?_; rintro e w9 ⟨rfl, rfl⟩)
                go_ret3
                refine ⟨rfl, ?_⟩
                rw [Ho.out, ← Hr.out]
                exact ⟨3, by omega, by omega, rfl⟩
              · rw [if_neg hbig] at hr
                have Hr := Lib.hid hr
                have Hq9 := Lib.hid (show q ≤ 999999 by omega)
                have gb : decide ((999999 : Int) < z) = false := decide_eq_false (by omega)
                have Hz := Lib.hid hz
                clear hr hbig hq hmd h0 hz
                have HK := Lib.hid (And.intro hs (And.intro ha (And.intro hak (And.intro hk (And.intro hn (And.intro hlt hkl))))))
                go_wp2_with (go_at_call 77; refine (ref03_digit _ true Hd.out _).mono ?_; rintro e w9 ⟨rfl, rfl⟩)
                go_roundw
                case rel => exact ⟨k + 1, q, by omega, by omega, Hq9.out, by rw [Hz.out], by go_num, by rw [decide_eq_false (by omega : ¬ k + 1 = a), Hq.out]; exact Hr.out, by omega, fun _ y' h => by have h1 := Hyk.out y' h; have h2 := (Hny.out hak2); have h3 := Hq.out; have h4 := H0.out; rw [h1]; omega, trivial⟩
                case measure => simp [intOf]; omega
        · have hmd : ¬ (48 ≤ m ∧ m ≤ 57) := of_decide_eq_false hd
          rw [if_pos (show m < 48 ∨ 57 < m ∨ decide (k = a) = false ∧ n = 0 by omega)] at hr
          have Hr := Lib.hid hr; have Hd := Lib.hid hd
          clear hr hd hmd
          by_cases h58 : m = 58
          · subst h58
            have hgt : ¬ (a : Int) < (k : Int) := by have := h1; omega
            clear h1
            go_wp2_with (go_at_call 77; refine (ref03_digit _ false Hd.out _).mono ?_; rintro e w9 ⟨rfl, rfl⟩)
            go_ret3
            refine ⟨rfl, ?_⟩
            rw [Ho.out, ← Hr.out]
            exact ⟨5, by omega, by omega, rfl⟩
          · have e58 : ((m : Int) == 58) = false := by rw [beq_eq_false_iff_ne]; omega
            clear h58 h1
            go_wp2_with (go_at_call 77; refine (ref03_digit _ false Hd.out _).mono ?_; rintro e w9 ⟨rfl, rfl⟩)
            go_ret3
            refine ⟨rfl, ?_⟩
            rw [Ho.out, ← Hr.out]
            exact ⟨5, by omega, by omega, rfl⟩
    · have hlt' : ¬ (k : Int) < (s.length : Int) := by omega
      have hnil : s.drop k = [] := List.drop_of_length_le (by omega)
      have hr := Hg.out
      rw [hnil, Sd.lenGo] at hr
      have Hr := Lib.hid hr
      clear hr hnil
      go_wp2_with fail
      go_ret3
      refine ⟨rfl, ?_⟩
      rw [Ho.out, ← Hr.out]
      exact ⟨6, by omega, by omega, rfl⟩

/-- what the reference's 'Get' tells: the text at a place, and the place behind it -/
def RGet (s : List UInt8) (at_ : Nat) (w : World) (e : Ending) (w' : World) : Prop :=
  w = w' ∧
  match Sd.get (s.drop at_) with
  | some (t, r) => ∃ k : Nat, at_ < k ∧ k ≤ s.length ∧ r = s.drop k ∧ t.length ≤ s.length ∧ e = .returned (.tuple #[.string ⟨t.toArray⟩, .int .i64 (k : Int), .int .i64 0])
  | none => ∃ er : Int, 1 ≤ er ∧ er ≤ 100 ∧ e = .returned (.tuple #[.string ⟨#[]⟩, .int .i64 0, .int .i64 er])
set_option maxRecDepth 100000 in
set_option maxHeartbeats 3200000 in
theorem ref03_get (s : List UInt8) (a : Nat) (w : World) (hs : s.length ≤ 1000000000) (ha : a ≤ s.length) :
    Calls Tryz.prog 47 #[.string ⟨s.toArray⟩, .int .i64 (a : Int), .int .i64 999999] w (RGet s a w) := by
  have hg : Sd.get (s.drop a) = match Sd.lenGo true 0 (s.drop a) with | none => none | some (n, r) => if r[n]? = some 44 then some (r.take n, r.drop (n + 1)) else none := rfl
  cases hlg : Sd.lenGo true 0 (s.drop a) with
  | none =>
    rw [hlg] at hg
    have Hg := Lib.hid hg; have Hlg := Lib.hid hlg
    clear hg hlg
    have h0 : ¬ (a : Int) < 0 := by omega
    have h1 : ¬ (s.length : Int) < (a : Int) := by omega
    go_enter Tryz.func47, Tryz.ntmps47
    go_wp2_with (go_at_call 58; refine (ref03_length s a _ hs ha).mono ?_; rintro e w1 ⟨rfl, hm⟩; rw [Hlg.out] at hm; obtain ⟨er, h1, h2, rfl⟩ := hm; have her : (er != 0) = true := (by simp; omega); have H12 := Lib.hid (And.intro h1 h2); clear h1 h2)
    go_ret3
    refine ⟨rfl, ?_⟩
    rw [Hg.out]
    exact ⟨er, H12.out.1, H12.out.2, rfl⟩
  | some o =>
    obtain ⟨n, r⟩ := o
    rw [hlg] at hg
    simp only at hg
    have Hg := Lib.hid hg; have Hlg := Lib.hid hlg
    clear hg hlg
    have h0 : ¬ (a : Int) < 0 := by omega
    have h1 : ¬ (s.length : Int) < (a : Int) := by omega
    go_enter Tryz.func47, Tryz.ntmps47
    go_upto_region 6 with (go_at_call 58; refine (ref03_length s a _ hs ha).mono ?_; rintro e w1 ⟨rfl, hm⟩; rw [Hlg.out] at hm; obtain ⟨k, hak, hk, hr, hn, rfl⟩ := hm)
    clear h0 h1
    obtain ⟨q, hq⟩ : ∃ q, q = k + n := ⟨_, rfl⟩
    have hw0 : IntKind.i64.wrap ((s.length : Int) - (k : Int)) = (s.length : Int) - (k : Int) := IntWalk.i64_in _ (by omega)
    have hwn : IntKind.i64.wrap ((n : Int) + 1) = (n : Int) + 1 := IntWalk.i64_in _ (by omega)
    have hw1 : IntKind.i64.wrap ((k : Int) + (n : Int)) = (q : Int) := by rw [IntWalk.i64_in _ (by omega)]; omega
    have hw2 : IntKind.i64.wrap ((q : Int) + 1) = (q : Int) + 1 := IntWalk.i64_in _ (by omega)
    have hmx : ¬ (999999 : Int) < (n : Int) := by omega
    have hn0 : (0 : Int) < (n : Int) ∨ ¬ (0 : Int) < (n : Int) := by omega
    subst hr
    have hget : (s.drop k)[n]? = s[q]? := by rw [List.getElem?_drop, hq]
    rw [hget] at Hg
    by_cases hsh : s.length < q + 1
    · have g1 : (s.length : Int) - (k : Int) < (n : Int) + 1 := by omega
      have hnone : s[q]? = none := List.getElem?_eq_none (by omega)
      rw [hnone, if_neg (by simp)] at Hg
      clear hnone hget hsh hq hk hak hn
      rcases hn0 with hn0 | hn0
      all_goals
        go_wp2_with fail
        go_ret3
        refine ⟨rfl, ?_⟩
        rw [Hg.out]
        exact ⟨6, by omega, by omega, rfl⟩
    · have g1 : ¬ (s.length : Int) - (k : Int) < (n : Int) + 1 := by omega
      have g2 : (q : Int) < (s.length : Int) := by omega
      obtain ⟨x, hx⟩ : ∃ x, s[q]? = some x := ⟨_, List.getElem?_eq_getElem (by omega)⟩
      have hby := byte_at s q x hx
      have Hq := Lib.hid hq
      rw [hx] at Hg
      clear hx hget hsh hq
      have Hak := Lib.hid hak; have Hk := Lib.hid hk; have Hn := Lib.hid hn
      by_cases hc : x = 44
      · have e1 : ((x.toNat : Int) == 44) = true := by rw [hc]; rfl
        rw [hc, if_pos rfl] at Hg
        have hex : (⟨s.toArray⟩ : ByteArray).extract k q = ⟨((s.drop k).take n).toArray⟩ := by
          rw [extract_any, Hq.out, Nat.add_sub_cancel_left]
        have hkq : (k : Int) ≤ (q : Int) := by have := Hq.out; omega
        have hqs : (q : Int) ≤ (s.length : Int) := by omega
        clear hc hk hak hn
        rcases hn0 with hn0 | hn0
        all_goals
          go_wp2_with fail
          go_ret3
          refine ⟨rfl, ?_⟩
          rw [Hg.out]
          exact ⟨q + 1, by have := Hq.out; have := Hak.out; omega, by omega, by rw [List.drop_drop, Hq.out, Nat.add_assoc], by rw [List.length_take, List.length_drop]; omega, rfl⟩
      · have e1 : ((x.toNat : Int) == 44) = false := by rw [beq_eq_false_iff_ne]; intro h; exact hc (UInt8.toNat_inj.1 (by show x.toNat = 44; omega))
        rw [if_neg (fun h => hc (Option.some.inj h))] at Hg
        clear hc hk hak hn
        rcases hn0 with hn0 | hn0
        all_goals
          go_wp2_with fail
          go_ret3
          refine ⟨rfl, ?_⟩
          rw [Hg.out]
          exact ⟨5, by omega, by omega, rfl⟩

/-- what the reference's 'All' tells: the texts, none where it is wrong -/
def RAll (s : List UInt8) (w : World) (e : Ending) (w' : World) : Prop :=
  Below w.heap.size w w' ∧ ∃ (v : Value) (er : Int), OwnL w.heap.size 9 1 RStr w' v ((Sd.all s).getD []) ∧ (∀ t ∈ (Sd.all s).getD [], t.length ≤ s.length) ∧ ((Sd.all s).getD []).length ≤ s.length ∧ e = .returned (.tuple #[v, .int .i64 er])
set_option maxRecDepth 100000 in
set_option maxHeartbeats 3200000 in
theorem ref03_all (s : List UInt8) (w : World) (hs : s.length ≤ 1000000) :
    Calls Tryz.prog 29 #[.string ⟨s.toArray⟩] w (RAll s w) := by
  obtain ⟨i0, hi, hz0, hz1, hz2⟩ := info_parts str_info
  have Hi := Lib.hid hi; have Hz0 := Lib.hid hz0; have Hz1 := Lib.hid hz1; have Hz2 := Lib.hid hz2; clear hi hz0 hz1 hz2
  go_enter Tryz.func29, Tryz.ntmps29
  go_wp2_with fail
  go_loopw [4, 5] (fun vo iv wr => ∃ (k : Nat) (out : List (List UInt8)), k ≤ s.length ∧ iv = .int .i64 (k : Int) ∧ OwnL w.heap.size 9 1 RStr wr vo out ∧ Sd.all s = (Sd.all (s.drop k)).map (out ++ ·) ∧ (∀ t ∈ out, t.length ≤ s.length) ∧ out.length ≤ k ∧ Below w.heap.size w wr) (fun _ iv _ => s.length - (intOf iv).toNat)
  case atStart => exact ⟨0, [], Nat.zero_le _, rfl, OwnL.made _ _ _ _ _ (Nat.le_refl _), by simp, by simp, Nat.le_refl _, below_new w _⟩
  case round =>
    obtain ⟨k, out, hk, rfl, hO, hall, hsm, hol, hb⟩ := hrel
    have HO := Lib.hid hO; have Hall := Lib.hid hall; have Hsm := Lib.hid hsm; have Hb := Lib.hid hb
    clear hO hall hsm hb
    by_cases hlt : k < s.length
    · have hlt' : (k : Int) < (s.length : Int) := by omega
      have hne : s.drop k ≠ [] := by intro h; have := congrArg List.length h; rw [List.length_drop] at this; simp at this; omega
      cases hg : Sd.get (s.drop k) with
      | none =>
        have ha := all_bad _ hne hg
        have Hr := Lib.hid (show Sd.all s = none by rw [Hall.out, ha]; rfl)
        have Hg := Lib.hid hg
        clear hg hne ha
        go_wp2_with (go_at_call 47; refine (ref03_get s k _ (by omega) hk).mono ?_; rintro e w1 ⟨rfl, hm⟩; rw [Hg.out] at hm; obtain ⟨er, h1, h2, rfl⟩ := hm; have her : (er != 0) = true := (by simp; omega))
        go_ret2
        refine ⟨Hb.out, _, er, ?_, ?_, ?_, rfl⟩
        · rw [Hr.out]; exact OwnL.nil _ _ _ _ _
        · rw [Hr.out]; intro t ht; cases ht
        · rw [Hr.out]; exact Nat.zero_le _
      | some o =>
        obtain ⟨t, r⟩ := o
        have ha := all_eq _ _ _ hg
        have Hr := Lib.hid (show Sd.all s = (Sd.all r).map ((out ++ [t]) ++ ·) by rw [Hall.out, ha, Option.map_map]; congr 1; funext l; simp)
        have Hg := Lib.hid hg
        clear hg hne ha
        obtain ⟨fl, hown, hrep⟩ := HO.out
        have Hown := Lib.hid hown; have Hrep := Lib.hid hrep
        clear hown hrep
        have hout : out.length ≤ 1000000 := by omega
        go_wp2_with (first
          | (go_at_call 47; refine (ref03_get s k _ (by omega) hk).mono ?_; rintro e w1 ⟨rfl, hm⟩; rw [Hg.out] at hm; obtain ⟨k2, hak, hk2, hr, ht, rfl⟩ := hm)
          | (at_builtin; go_loud (refine wpList_append1 rfl (.tmp 24) (.tmp 26) 24 rfl w.heap.size 9 i0 (.string ⟨#[]⟩) 1 16 Tryz.underlying24 Hi.out Hz0.out Hz1.out Hz2.out rfl (by decide) _ _ _ Hown.out rfl [.string ⟨t.toArray⟩] rfl (by simp) rfl (by simp [Value.oneCell']) (by unfold maxLen; omega) (by omega) Hb.out.size ?_); intro v2 w2 own2 g2 at2))
        go_roundw
        case rel =>
          refine ⟨k2, out ++ [t], hk2, rfl, OwnL.more Hrep.out rfl own2, by rw [← hr]; exact Hr.out, ?_, by rw [List.length_append, List.length_singleton]; omega, Hb.out.grown g2 Hb.out.size (fun q e => (Hown.out.lt q e).1)⟩
          intro u hu
          rcases List.mem_append.1 hu with h | h
          · exact Hsm.out u h
          · rw [List.mem_singleton] at h; rw [h]; exact ht
        case measure => simp [intOf]; omega
    · have hlt' : ¬ (k : Int) < (s.length : Int) := by omega
      have hd : s.drop k = [] := List.drop_of_length_le (by omega)
      have Hr := Lib.hid (show Sd.all s = some out by rw [Hall.out, hd, all_nil]; simp)
      go_wp2_with fail
      go_ret2
      refine ⟨Hb.out, _, 0, ?_, ?_, ?_, rfl⟩
      · rw [Hr.out]; exact HO.out
      · rw [Hr.out]; exact Hsm.out
      · rw [Hr.out]; show out.length ≤ _; omega

set_option maxRecDepth 100000 in
set_option maxHeartbeats 3200000 in
theorem ref07_squeezed (s : List UInt8) (w : World) (hs : s.length ≤ 1000000) :
    Calls Tryz.prog 50 #[.string ⟨s.toArray⟩] w fun e w' => e = .returned (.string ⟨(Sd.sq s).toArray⟩) ∧ w = w' := by
  have Hs := Lib.hid hs
  clear hs
  go_enter Tryz.func50, Tryz.ntmps50
  go_wp2_with fail
  go_loopw [3, 4] (fun sv iv wr => ∃ k : Nat, k ≤ s.length ∧ iv = .int .i64 (k : Int) ∧ sv = .string ⟨(Sd.sqGo true (s.take k)).toArray⟩ ∧ wr = w) (fun _ iv _ => s.length - (intOf iv).toNat)
  case atStart => exact ⟨0, Nat.zero_le _, rfl, rfl, rfl⟩
  case round =>
    obtain ⟨k, hk, rfl, rfl, rfl⟩ := hrel
    by_cases hlt : k < s.length
    · obtain ⟨x, hx⟩ : ∃ x, s[k]? = some x := ⟨_, List.getElem?_eq_getElem hlt⟩
      have hby := byte_at s k x hx
      have hlt' : (k : Int) < (s.length : Int) := by omega
      obtain ⟨k1, hk1e⟩ : ∃ k1, k1 = k + 1 := ⟨_, rfl⟩
      have hk1 : (k : Int) ≤ (k1 : Int) := by omega
      have hk2 : (k1 : Int) ≤ (s.length : Int) := by omega
      have hwk : IntKind.i64.wrap ((k : Int) + 1) = (k1 : Int) := by have := Hs.out; rw [IntWalk.i64_in _ (by omega)]; omega
      have hstep := Sd.sq_step s k x hx
      have hol := Sd.sqGo_len true (s.take k)
      rw [List.length_take] at hol
      have hs := Hs.out
      obtain ⟨out, hout⟩ : ∃ out, Sd.sqGo true (s.take k) = out := ⟨_, rfl⟩
      rw [hout] at hstep hol ⊢
      have hadd : ¬ 9223372036854775807 < out.length + 1 := by omega
      have hex : (⟨s.toArray⟩ : ByteArray).extract k k1 = ⟨#[x]⟩ := by
        rw [extract_any, show k1 - k = 1 by omega]
        obtain ⟨h1, h2⟩ := List.getElem?_eq_some_iff.1 hx
        rw [List.drop_eq_getElem_cons h1, h2]
        rfl
      have happ : (⟨out.toArray⟩ : ByteArray) ++ ⟨#[x]⟩ = ⟨(out ++ [x]).toArray⟩ := append_data out [x]
      rw [← hk1e] at hstep
      have Hstep := Lib.hid hstep; have Hlt := Lib.hid hlt; have Hk1 := Lib.hid hk1e
      have hxl := x.toNat_lt
      clear hout hstep hol hlt hk1e hk hs
      by_cases hc : x = 32
      · have e1 : (x.toNat : Int) = 32 := by rw [hc]; rfl
        by_cases hk0 : k = 0
        · have hn : Sd.sqGo true (s.take k1) = out := by rw [Hstep.out, if_pos ⟨hc, by rw [hk0]; rfl⟩]
          have Hn := Lib.hid hn
          have hkz : ¬ 0 < k := by omega
          clear hn hc hx hk0
          go_wp2_with fail
          go_roundw
          case rel => exact ⟨k1, by have := Hk1.out; have := Hlt.out; omega, rfl, by rw [Hn.out], trivial⟩
          case measure => have := Hlt.out; have := Hk1.out; simp [intOf]; omega
        · obtain ⟨q, hq⟩ : ∃ q, k = q + 1 := ⟨k - 1, by omega⟩
          obtain ⟨y, hy⟩ : ∃ y, s[q]? = some y := ⟨_, List.getElem?_eq_getElem (by have := Hlt.out; omega)⟩
          have hbq := byte_at s q y hy
          have hpv : Sd.prev true (s.take k) = (y == 32) := by rw [hq]; exact Sd.prev_at s q y hy
          have hkz : 0 < k := by omega
          have hwq : IntKind.i64.wrap ((k : Int) - 1) = (q : Int) := by have := Hlt.out; have := Hs.out; rw [IntWalk.i64_in _ (by omega)]; omega
          have hql : (q : Int) < (s.length : Int) := by have := Hlt.out; omega
          have hyl := y.toNat_lt
          by_cases hy32 : y = 32
          · have e2 : (y.toNat : Int) = 32 := by rw [hy32]; rfl
            have hn : Sd.sqGo true (s.take k1) = out := by rw [Hstep.out, if_pos ⟨hc, by rw [hpv, hy32]; rfl⟩]
            have Hn := Lib.hid hn
            clear hn hc hx hk0 hq hy hpv hy32
            go_wp2_with fail
            go_roundw
            case rel => exact ⟨k1, by have := Hk1.out; have := Hlt.out; omega, rfl, by rw [Hn.out], trivial⟩
            case measure => have := Hlt.out; have := Hk1.out; simp [intOf]; omega
          · have e2 : ¬ (y.toNat : Int) = 32 := by intro h; exact hy32 (UInt8.toNat_inj.1 (by show y.toNat = 32; omega))
            have hn : Sd.sqGo true (s.take k1) = out ++ [x] := by rw [Hstep.out, if_neg (by rintro ⟨_, h⟩; rw [hpv] at h; simp at h; exact hy32 h)]
            have Hn := Lib.hid hn
            clear hn hc hx hk0 hq hy hpv hy32
            go_wp2_with fail
            go_roundw
            case rel => exact ⟨k1, by have := Hk1.out; have := Hlt.out; omega, rfl, by rw [Hn.out], trivial⟩
            case measure => have := Hlt.out; have := Hk1.out; simp [intOf]; omega
      · have e1 : ¬ (x.toNat : Int) = 32 := by intro h; exact hc (UInt8.toNat_inj.1 (by show x.toNat = 32; omega))
        have hn : Sd.sqGo true (s.take k1) = out ++ [x] := by rw [Hstep.out, if_neg (fun h => hc h.1)]
        have Hn := Lib.hid hn
        clear hn hc hx
        go_wp2_with fail
        go_roundw
        case rel => exact ⟨k1, by have := Hk1.out; have := Hlt.out; omega, rfl, by rw [Hn.out], trivial⟩
        case measure => have := Hlt.out; have := Hk1.out; simp [intOf]; omega
    · have hlt' : ¬ (k : Int) < (s.length : Int) := by omega
      have htk : s.take k = s := List.take_of_length_le (by omega)
      rw [htk]
      have hol := Sd.sqGo_len true s
      obtain ⟨out, hout⟩ : ∃ out, Sd.sqGo true s = out := ⟨_, rfl⟩
      have hsq : Sd.sq s = if out.getLast? = some 32 then out.dropLast else out := by unfold Sd.sq; rw [hout]; rfl
      rw [hout] at hol ⊢
      have hs := Hs.out
      have Hsq := Lib.hid hsq
      clear hsq hout htk
      by_cases hnil : out = []
      · subst hnil
        have hn : Sd.sq s = [] := by rw [Hsq.out]; rfl
        have Hn := Lib.hid hn
        clear hn Hsq
        go_wp2_with fail
        go_ret
        exact ⟨ret_str Hn.out.symm, rfl⟩
      · obtain ⟨q, hq⟩ : ∃ q, out.length = q + 1 := ⟨out.length - 1, by have := List.length_pos_iff.2 hnil; omega⟩
        obtain ⟨y, hy⟩ : ∃ y, out[q]? = some y := ⟨_, List.getElem?_eq_getElem (by omega)⟩
        have hlast : out.getLast? = some y := by rw [List.getLast?_eq_getElem?, hq]; exact hy
        have hbq := byte_at out q y hy
        have hpos : 0 < out.length := by omega
        have hwq : IntKind.i64.wrap ((out.length : Int) - 1) = (q : Int) := by rw [IntWalk.i64_in _ (by omega)]; omega
        have hql : (q : Int) < (out.length : Int) := by omega
        have hqle : (q : Int) ≤ (out.length : Int) := by omega
        have hyl := y.toNat_lt
        by_cases hy32 : y = 32
        · have e2 : (y.toNat : Int) = 32 := by rw [hy32]; rfl
          have hn : Sd.sq s = out.take q := by rw [Hsq.out, hlast, hy32, if_pos rfl, List.dropLast_eq_take, hq]; rfl
          have hex : (⟨out.toArray⟩ : ByteArray).extract 0 q = ⟨(out.take q).toArray⟩ := by rw [extract_any]; simp
          have Hn := Lib.hid hn
          clear hn hq hy hlast hy32 Hsq hnil hs hol hk hlt
          go_wp2_with fail
          go_ret
          exact ⟨ret_str Hn.out.symm, rfl⟩
        · have e2 : ¬ (y.toNat : Int) = 32 := by intro h; exact hy32 (UInt8.toNat_inj.1 (by show y.toNat = 32; omega))
          have hn : Sd.sq s = out := by rw [Hsq.out, hlast, if_neg (fun h => hy32 (Option.some.inj h))]
          have Hn := Lib.hid hn
          clear hn hq hy hlast hy32 Hsq hnil hs hol hk hlt
          go_wp2_with fail
          go_ret
          exact ⟨ret_str Hn.out.symm, rfl⟩

theorem ref09_key (s : List UInt8) (w : World) (hs : s.length ≤ 1000000) :
    Calls Tryz.prog 36 #[.string ⟨s.toArray⟩] w fun e w' => e = .returned (.bool (Sd.key s)) ∧ w = w' := by
  have hk : Sd.key s = (s != [] && decide (s.length ≤ 60) && Sd.sq s == s) := rfl
  cases hse : s.isEmpty
  · have hne : (s != []) = true := by cases s with | nil => cases hse | cons c t => rfl
    by_cases hl : s.length ≤ 60
    · have hl' : (s.length : Int) ≤ 60 := by omega
      obtain ⟨r, hr⟩ : ∃ r, (Sd.sq s == s) = r := ⟨_, rfl⟩
      have Hk := Lib.hid (show Sd.key s = r by rw [hk, hne, decide_eq_true hl, hr]; rfl)
      have Hs := Lib.hid hs
      clear hk hne hl hs
      go_enter Tryz.func36, Tryz.ntmps36
      go_wp2_with (go_at_call 50; refine (ref07_squeezed s _ Hs.out).mono ?_; rintro e w1 ⟨rfl, rfl⟩)
      go_ret
      exact ⟨ret_bool Hk.out.symm, rfl⟩
    · have hl' : ¬ (s.length : Int) ≤ 60 := by omega
      have Hk := Lib.hid (show Sd.key s = false by rw [hk, decide_eq_false hl]; simp)
      clear hk hne hl
      go_enter Tryz.func36, Tryz.ntmps36
      go_wp2_with fail
      go_ret
      exact ⟨ret_bool Hk.out.symm, rfl⟩
  · obtain rfl : s = [] := by cases s with | nil => rfl | cons c t => cases hse
    clear hk hs hse
    go_enter Tryz.func36, Tryz.ntmps36
    go_wp2_with fail
    go_ret
    exact ⟨rfl, rfl⟩

theorem ref10_page (n : Int) (w : World) :
    Calls Tryz.prog 35 #[.int .i64 n] w fun e w' => e = .returned (.bool (Sd.pageOk n)) ∧ w = w' := by
  have hp : Sd.pageOk n = (decide (0 ≤ n) && decide (n ≤ 999999)) := rfl
  by_cases h1 : 0 ≤ n
  · by_cases h2 : n ≤ 999999
    · rw [hp, decide_eq_true h1, decide_eq_true h2]
      clear hp
      go_enter Tryz.func35, Tryz.ntmps35
      go_wp2_with fail
      go_ret
      exact ⟨rfl, rfl⟩
    · rw [hp, decide_eq_true h1, decide_eq_false h2]
      clear hp
      go_enter Tryz.func35, Tryz.ntmps35
      go_wp2_with fail
      go_ret
      exact ⟨rfl, rfl⟩
  · rw [hp, decide_eq_false h1]
    clear hp
    go_enter Tryz.func35, Tryz.ntmps35
    go_wp2_with fail
    go_ret
    exact ⟨rfl, rfl⟩

set_option maxHeartbeats 800000 in
theorem ref10_part (l : List (List UInt8)) (v : Value) (i : Nat) (S : Nat → Prop) (w : World) (hS : SliceIn S 1 RStr w v l) :
    Calls Tryz.prog 30 #[v, .int .i64 (i : Int)] w fun e w' => e = .returned (.string ⟨(Sd.part l i).toArray⟩) ∧ w = w' := by
  have hb := hS.bound
  obtain ⟨p, cap, rfl, hle, hm, hat⟩ := hS
  have hp : Sd.part l i = l[i]?.getD [] := by unfold Sd.part; rw [List.getD_eq_getElem?_getD]
  by_cases hlt : i < l.length
  · obtain ⟨x, hx⟩ : ∃ x, l[i]? = some x := ⟨_, List.getElem?_eq_getElem hlt⟩
    obtain ⟨b, off, vs, rfl, _, hbw, hR, hc⟩ := hat i x hx
    have hR : vs = _ := hR
    subst hR
    have e0 : w.cell? ⟨b, off + i, none⟩ = some (.string ⟨x.toArray⟩) := by
      have := hc 0 _ rfl
      rwa [Nat.mul_one, Nat.add_zero] at this
    have Hp := Lib.hid (show Sd.part l i = x by rw [hp, hx]; rfl)
    have g1 : ¬ (l.length : Int) ≤ (i : Int) := by omega
    have hlt' : (i : Int) < (l.length : Int) := by omega
    clear hp hat hc hx hle hm hlt
    go_enter Tryz.func30, Tryz.ntmps30
    go_wp2_with fail
    go_ret
    exact ⟨ret_str Hp.out.symm, rfl⟩
  · have Hp := Lib.hid (show Sd.part l i = [] by rw [hp, List.getElem?_eq_none (by omega)]; rfl)
    have g1 : (l.length : Int) ≤ (i : Int) := by omega
    clear hp hat hle hm hlt
    go_enter Tryz.func30, Tryz.ntmps30
    go_wp2_with fail
    go_ret
    exact ⟨ret_str Hp.out.symm, rfl⟩

theorem part_len (l : List (List UInt8)) (i n : Nat) (h : ∀ t ∈ l, t.length ≤ n) : (Sd.part l i).length ≤ n := by
  unfold Sd.part
  rw [List.getD_eq_getElem?_getD]
  cases hx : l[i]? with
  | none => exact Nat.zero_le _
  | some x => exact h x (List.mem_of_getElem? hx)
theorem ref10_number (l : List (List UInt8)) (v : Value) (i : Nat) (S : Nat → Prop) (w : World) (hS : SliceIn S 1 RStr w v l) (hl : ∀ t ∈ l, t.length ≤ 1000000) :
    Calls Tryz.prog 31 #[v, .int .i64 (i : Int)] w fun e w' => e = .returned (.int .i64 (Sd.numAt l i)) ∧ Below w.heap.size w w' := by
  have HS := Lib.hid hS; have Hl := Lib.hid (part_len l i _ hl)
  clear hS hl
  go_enter Tryz.func31, Tryz.ntmps31
  go_wp2_with (first
    | (go_at_call 30; refine (ref10_part l _ i _ _ HS.out).mono ?_; rintro e w1 ⟨rfl, rfl⟩)
    | (go_at_call 48; refine (ref01_value _ 0 _ Hl.out).mono ?_; rintro e w2 ⟨rfl, hb⟩; have Hb := Lib.hid hb; clear hb))
  go_ret
  exact ⟨rfl, Hb.out⟩

set_option maxRecDepth 100000 in
set_option maxHeartbeats 1600000 in
theorem ref10_record (ps : List (List UInt8)) (v : Value) (S : Nat → Prop) (w : World) (hS : SliceIn S 1 RStr w v ps) (hl : ps.length ≤ 10) (hp : ∀ t ∈ ps, t.length ≤ 1000) :
    Calls Tryz.prog 25 #[v] w fun e w' => e = .returned (.string ⟨(Sd.record ps).toArray⟩) ∧ Below w.heap.size w w' := by
  obtain ⟨p, cap, rfl, hle, hm, hat⟩ := hS
  have Hat := Lib.hid hat; have Hp := Lib.hid hp
  have hrec : Sd.record ps = Sd.put (Sd.puts ps) := rfl
  have Hrec := Lib.hid hrec
  clear hat hm hle hp hrec
  go_enter Tryz.func25, Tryz.ntmps25
  go_wp2_with fail
  go_loopw [3, 4] (fun sv iv wr => ∃ k : Nat, k ≤ ps.length ∧ iv = .int .i64 (k : Int) ∧ sv = .string ⟨(Sd.puts (ps.take k)).toArray⟩ ∧ (Sd.puts (ps.take k)).length ≤ k * 1008 ∧ Below w.heap.size w wr) (fun _ iv _ => ps.length - (intOf iv).toNat)
  case atStart => exact ⟨0, Nat.zero_le _, rfl, rfl, by simp [Sd.puts], Below.refl _ _⟩
  case round =>
    obtain ⟨k, hk, rfl, rfl, hsz, hb⟩ := hrel
    have Hb := Lib.hid hb; clear hb
    by_cases hlt : k < ps.length
    · obtain ⟨x, hx⟩ : ∃ x, ps[k]? = some x := ⟨_, List.getElem?_eq_getElem hlt⟩
      obtain ⟨b, off, vs, rfl, _, hbw, hR, hc⟩ := Hat.out k x hx
      have hR : vs = _ := hR
      subst hR
      have e0 : wr.cell? ⟨b, off + k, none⟩ = some (.string ⟨x.toArray⟩) := by
        have := (Hb.out.cell (p := ⟨b, off + (k * 1 + 0), none⟩) hbw).trans (hc 0 _ rfl)
        rwa [Nat.mul_one, Nat.add_zero] at this
      have hxl := Hp.out x (List.mem_of_getElem? hx)
      have hps := put_size x hxl
      have htk : Sd.puts (ps.take (k + 1)) = Sd.puts (ps.take k) ++ Sd.put x := by
        rw [List.take_add_one, hx, Sd.puts_append]
        unfold Sd.puts
        simp
      have Htk := Lib.hid htk
      obtain ⟨acc, hacc⟩ : ∃ acc, Sd.puts (ps.take k) = acc := ⟨_, rfl⟩
      rw [hacc] at hsz Htk ⊢
      obtain ⟨px, hpx⟩ : ∃ px, Sd.put x = px := ⟨_, rfl⟩
      rw [hpx] at hps Htk
      have Hpx := Lib.hid hpx
      have hk10 : k * 1008 ≤ 10 * 1008 := Nat.mul_le_mul_right _ (by omega)
      have hadd : ¬ 9223372036854775807 < acc.length + px.length := by omega
      have hlt' : (k : Int) < (ps.length : Int) := by omega
      have Hlt := Lib.hid hlt; have Hsz := Lib.hid hsz; have Hps := Lib.hid hps
      have hx6 : x.length ≤ 999999 := by omega
      have Hx6 := Lib.hid hx6
      clear hx hc htk hacc hpx hlt hk10 hsz hps hxl hx6
      go_wp2_with (go_at_call 21; refine (ref03_put x _ Hx6.out).mono ?_; rw [Hpx.out]; rintro e w1 ⟨rfl, hb⟩; have Hb1 := Lib.hid (Hb.out.trans (hb.mono Hb.out.size)); clear hb)
      go_roundw
      case rel => exact ⟨k + 1, Hlt.out, by go_num, by rw [Htk.out]; exact congrArg Value.string (append_data _ _), by rw [Htk.out, List.length_append]; have := Hsz.out; have := Hps.out; omega, Hb1.out⟩
      case measure => have := Hlt.out; simp [intOf]; omega
    · have hlt' : ¬ (k : Int) < (ps.length : Int) := by omega
      have htk : ps.take k = ps := List.take_of_length_le (by omega)
      rw [htk] at hsz ⊢
      have hk10 : k * 1008 ≤ 10 * 1008 := Nat.mul_le_mul_right _ (by omega)
      have h6 : (Sd.puts ps).length ≤ 999999 := by omega
      have H6 := Lib.hid h6
      clear hsz hk10 htk hlt h6
      go_wp2_with (go_at_call 21; refine (ref03_put _ _ H6.out).mono ?_; rintro e w1 ⟨rfl, hb⟩; have Hb1 := Lib.hid (Hb.out.trans (hb.mono Hb.out.size)); clear hb)
      go_ret
      exact ⟨by rw [Hrec.out]; rfl, Hb1.out⟩

theorem any_snoc (l : List (List UInt8)) (j : Nat) (x y : List UInt8) (hy : l[j]? = some y) : ((l.take (j + 1)).any fun g => g == x) = (((l.take j).any fun g => g == x) || y == x) := by
  rw [List.take_add_one, hy]; simp
theorem any_hit (l : List (List UInt8)) (j k : Nat) (x y : List UInt8) (hy : l[j]? = some y) (hj : j < k) (h : (y == x) = true) : ((l.take k).any fun g => g == x) = true := by
  rw [List.any_eq_true]
  exact ⟨y, List.mem_of_getElem? (by rw [List.getElem?_take_of_lt hj]; exact hy), h⟩
set_option maxRecDepth 100000 in
set_option maxHeartbeats 3200000 in
theorem ref10_keys (l : List (List UInt8)) (v : Value) (S : Nat → Prop) (w : World) (hS : SliceIn S 1 RStr w v l) (hl : l.length ≤ 1000000) (hs : ∀ s ∈ l, s.length ≤ 1000000) :
    Calls Tryz.prog 37 #[v] w fun e w' => e = .returned (.bool (Sd.keys l)) ∧ Below w.heap.size w w' := by
  obtain ⟨p, cap, rfl, hle, hm, hat⟩ := hS
  have Hat := Lib.hid hat; have Hs := Lib.hid hs; clear hat hm hle hs
  go_enter Tryz.func37, Tryz.ntmps37
  go_wp2_with fail
  go_loopw [3] (fun i wr => ∃ k : Nat, k ≤ l.length ∧ i = .int .i64 (k : Int) ∧ Sd.keys l = Sd.keysN (l.take k) (l.drop k) ∧ Below w.heap.size w wr) (fun i _ => l.length - (intOf i).toNat)
  case atStart => exact ⟨0, Nat.zero_le _, rfl, rfl, Below.refl _ _⟩
  case round =>
    obtain ⟨k, hk, rfl, hr, hb⟩ := hrel
    have Hr := Lib.hid hr; have Hb := Lib.hid hb
    clear hr hb
    by_cases hlt : k < l.length
    · obtain ⟨x, hx⟩ : ∃ x, l[k]? = some x := ⟨_, List.getElem?_eq_getElem hlt⟩
      obtain ⟨b, off, vs, rfl, _, hbw, hR, hc⟩ := Hat.out k x hx
      have hR : vs = _ := hR
      subst hR
      have e0 : wr.cell? ⟨b, off + k, none⟩ = some (.string ⟨x.toArray⟩) := by
        have := (Hb.out.cell (p := ⟨b, off + (k * 1 + 0), none⟩) hbw).trans (hc 0 _ rfl)
        rwa [Nat.mul_one, Nat.add_zero] at this
      have hlt' : (k : Int) < (l.length : Int) := by omega
      have hxl := Hs.out x (List.mem_of_getElem? hx)
      have hdrop : l.drop k = x :: l.drop (k + 1) := by
        obtain ⟨h1, h2⟩ := List.getElem?_eq_some_iff.1 hx
        rw [List.drop_eq_getElem_cons h1, h2]
      have hr2 : Sd.keys l = (Sd.key x && !((l.take k).any fun g => g == x) && Sd.keysN (l.take (k + 1)) (l.drop (k + 1))) := by
        rw [Hr.out, hdrop, Sd.keysN, List.take_add_one, hx]; rfl
      have Hr2 := Lib.hid hr2; have Hlt := Lib.hid hlt; have Hxl := Lib.hid hxl; have Hx := Lib.hid hx; have Hbw := Lib.hid hbw; have Hc := Lib.hid (hc 0 _ rfl)
      clear hc hx hdrop hr2 Hr hxl hlt hbw
      obtain ⟨ky, hky⟩ : ∃ ky, Sd.key x = ky := ⟨_, rfl⟩
      have Hky := Lib.hid hky
      rw [hky] at Hr2
      clear hky
      cases ky
      · have Hr3 := Lib.hid (show Sd.keys l = false by rw [Hr2.out]; rfl)
        go_wp2_with (go_at_call 36; refine (ref09_key x _ Hxl.out).mono ?_; rw [Hky.out]; rintro e w7 ⟨rfl, rfl⟩)
        go_ret
        exact ⟨ret_bool Hr3.out.symm, Hb.out⟩
      · go_wp2_with (go_at_call 36; refine (ref09_key x _ Hxl.out).mono ?_; rw [Hky.out]; rintro e w7 ⟨rfl, rfl⟩)
        have Hlt2 := Lib.hid hlt'
        clear e0
        go_loopw [4] (fun jv wi => ∃ j : Nat, j ≤ k ∧ jv = .int .i64 (j : Int) ∧ ((l.take j).any fun g => g == x) = false ∧ Below w.heap.size w wi) (fun jv _ => k - (intOf jv).toNat)
        case atStart => exact ⟨0, Nat.zero_le _, rfl, rfl, Hb.out⟩
        case round =>
          obtain ⟨j, hj, rfl, hany, hb⟩ := hrel
          have Hany := Lib.hid hany
          replace Hb := Lib.hid hb
          clear hany hb
          by_cases hjk : j < k
          · have hjk' : (j : Int) < (k : Int) := by omega
            obtain ⟨y, hy⟩ : ∃ y, l[j]? = some y := ⟨_, List.getElem?_eq_getElem (by have := Hlt.out; omega)⟩
            obtain ⟨b2, off2, vs2, hpe, _, hbw2, hR2, hc2⟩ := Hat.out j y hy
            have hR2 : vs2 = _ := hR2
            subst hR2
            injection hpe with hpe
            injection hpe with hpe1 hpe2
            subst hpe1
            subst hpe2
            have e0 : wr.cell? ⟨b, off + k, none⟩ = some (.string ⟨x.toArray⟩) := by
              have := (Hb.out.cell (p := ⟨b, off + (k * 1 + 0), none⟩) Hbw.out).trans Hc.out
              rwa [Nat.mul_one, Nat.add_zero] at this
            have e1 : wr.cell? ⟨b, off + j, none⟩ = some (.string ⟨y.toArray⟩) := by
              have := (Hb.out.cell (p := ⟨b, off + (j * 1 + 0), none⟩) hbw2).trans (hc2 0 _ rfl)
              rwa [Nat.mul_one, Nat.add_zero] at this
            have hjl : (j : Int) < (l.length : Int) := by have := Hlt2.out; omega
            have hkl := Hlt2.out
            have hsn := any_snoc l j x y hy
            rw [Hany.out, Bool.false_or] at hsn
            obtain ⟨j1, hj1e⟩ : ∃ j1, j1 = j + 1 := ⟨_, rfl⟩
            have hj1 : IntKind.i64.wrap ((j : Int) + 1) = (j1 : Int) := by rw [IntWalk.i64_in _ (by omega)]; omega
            have Hj1e := Lib.hid hj1e
            rw [← hj1e] at hsn
            have Hhit := Lib.hid (any_hit l j k x y hy hjk)
            obtain ⟨t, ht⟩ : ∃ t, (y == x) = t := ⟨_, rfl⟩
            rw [ht] at hsn
            have Hsn := Lib.hid hsn; have Ht := Lib.hid ht; have Hjk := Lib.hid hjk; have Hj1 := Lib.hid hj1
            clear hsn ht hy hc2 hbw2 hjk hj1 hj1e hj
            cases t
            · have hb1 := Ht.out
              have hb2 : ¬ y = x := fun h => by rw [h] at hb1; simp at hb1
              go_upto_region 9 with fail
              go_quiet (fail)
              have hj1 := Hj1.out
              clear e0 e1 hb2
              go_wp2_with fail
              go_roundw
              case rel => exact ⟨j1, by have := Hjk.out; have := Hj1e.out; omega, rfl, Hsn.out, below_drewN' Hb.out _⟩
              case measure => have := Hjk.out; have := Hj1e.out; simp [intOf]; omega
            · have Hr3 := Lib.hid (show Sd.keys l = false by rw [Hr2.out, Hhit.out Ht.out]; rfl)
              have hb2 : y = x := eq_of_beq Ht.out
              go_upto_region 9 with fail
              go_quiet (fail)
              clear e0 e1 hb2
              go_wp2_with fail
              go_ret
              exact ⟨ret_bool Hr3.out.symm, below_drewN' Hb.out _⟩
          · have hjk' : ¬ (j : Int) < (k : Int) := by omega
            have hje : j = k := by omega
            subst hje
            obtain ⟨j1, hj1e⟩ : ∃ j1, j1 = j + 1 := ⟨_, rfl⟩
            have hj1 : IntKind.i64.wrap ((j : Int) + 1) = (j1 : Int) := by have := Hlt2.out; rw [IntWalk.i64_in _ (by omega)]; omega
            have Hj1e := Lib.hid hj1e
            have Hr3 := Lib.hid (show Sd.keys l = Sd.keysN (l.take j1) (l.drop j1) by rw [Hr2.out, Hany.out, hj1e]; rfl)
            clear hjk hj1e hj
            go_wp2_with fail
            go_roundw
            case rel => exact ⟨j1, by have := Hlt.out; have := Hj1e.out; omega, rfl, Hr3.out, Hb.out⟩
            case measure => have := Hlt.out; have := Hj1e.out; simp [intOf]; omega
    · have hlt' : ¬ (k : Int) < (l.length : Int) := by omega
      have Hr3 := Lib.hid (show Sd.keys l = true by rw [Hr.out, List.drop_of_length_le (by omega)]; rfl)
      go_wp2_with fail
      go_ret
      exact ⟨ret_bool Hr3.out.symm, Hb.out⟩
theorem all_snoc {α : Type} (f : α → Bool) (l : List α) (k : Nat) (y : α) (hy : l[k]? = some y) (h : (l.take k).all f = true) (hf : f y = true) : (l.take (k + 1)).all f = true := by
  rw [List.take_add_one, hy]; simp [h, hf]
theorem all_bad1 {α : Type} (f : α → Bool) (l : List α) (k : Nat) (y : α) (hy : l[k]? = some y) (hf : f y = false) : l.all f = false := by
  rw [Bool.eq_false_iff]
  intro h
  rw [List.all_eq_true] at h
  rw [h y (List.mem_of_getElem? hy)] at hf
  cases hf
theorem keys_snoc (l : List Sd.Lab) (k : Nat) (y : Sd.Lab) (hy : l[k]? = some y) : (l.take (k + 1)).map Sd.Lab.key = (l.take k).map Sd.Lab.key ++ [y.key] := by
  rw [List.take_add_one, hy]; simp
theorem ref01_dig (n : Int) (w : World) (h0 : 0 ≤ n ∧ n ≤ 999999) :
    Calls Tryz.prog 26 #[.int .i64 n] w fun e w' => e = .returned (.string ⟨(Sd.dig n).toArray⟩) ∧ Below w.heap.size w w' := by
  obtain ⟨m, rfl⟩ : ∃ m : Nat, n = (m : Int) := ⟨n.toNat, by omega⟩
  have hm : m ≤ 999999 := by omega
  rw [Sd.dig_nat m hm]
  exact ref01_digits 6 m w (Nat.lt_of_le_of_lt hm (by decide)) (by decide) (by decide)
set_option maxRecDepth 100000 in
set_option maxHeartbeats 6400000 in
theorem ref10_right (x : Sd.Side) (v : Value) (S : Nat → Prop) (w : World) (hX : SideIn S w v x) (hsm : SideSm x) :
    Calls Tryz.prog 18 #[v] w fun e w' => e = .returned (.bool (Sd.right x)) ∧ Below w.heap.size w w' := by
  have HX := Lib.hid hX; have Hsm := Lib.hid hsm
  obtain ⟨vl, vh, vc, vb, rfl, hLb, hHd, hCt, hBb⟩ := hX
  have hsl := hsm.labs; have hsh := hsm.heads; have hsc := hsm.cites; have hsb := hsm.bibs
  have HCt := Lib.hid hCt; have HBb := Lib.hid hBb
  clear hsm
  obtain ⟨pc, cc, rfl, _, _, hcat⟩ := hCt
  obtain ⟨pb, cb, rfl, _, _, hbat⟩ := hBb
  obtain ⟨pl, cl, rfl, _, _, hlat⟩ := hLb
  obtain ⟨ph, ch, rfl, _, _, hhat⟩ := hHd
  have Hlat := Lib.hid hlat; have Hhat := Lib.hid hhat; have Hcat := Lib.hid hcat; have Hbat := Lib.hid hbat
  clear hlat hhat hcat hbat
  have hrt : Sd.right x = (decide (x.labs.length ≤ 100) && decide (x.heads.length ≤ 100) && decide (x.cites.length ≤ 100) && decide (x.bibs.length ≤ 8) && Sd.keys x.cites && Sd.keys x.bibs && x.labs.all Sd.labOk && x.heads.all Sd.headOk && Sd.keys (x.labs.map Sd.Lab.key)) := rfl
  have Hrt := Lib.hid hrt
  clear hrt
  obtain ⟨i0, hi, hz0, hz1, hz2⟩ := info_parts str_info
  have Hi := Lib.hid hi; have Hz0 := Lib.hid hz0; have Hz1 := Lib.hid hz1; have Hz2 := Lib.hid hz2; clear hi hz0 hz1 hz2
  go_enter Tryz.func18, Tryz.ntmps18
  go_upto_region 1 with fail
  obtain ⟨W1, hW1⟩ : ∃ W1, W1 = w.alloc (.cells #[.slice pl x.labs.length cl, .slice ph x.heads.length ch, .slice pc x.cites.length cc, .slice pb x.bibs.length cb] 35) := ⟨_, rfl⟩
  obtain ⟨g, hg⟩ : ∃ g, g = w.heap.size := ⟨_, rfl⟩
  rw [← hW1, ← hg]
  have hF : Four g W1 #[.slice pl x.labs.length cl, .slice ph x.heads.length ch, .slice pc x.cites.length cc, .slice pb x.bibs.length cb] := by rw [hW1, hg]; exact Four.made _ _ _
  have hb : Below w.heap.size w W1 := by rw [hW1]; exact below_new w _
  have HB := Lib.hid hb; have HF := Lib.hid hF
  clear hW1 hg hb hF
  have c0 := HF.out.2 0 _ rfl; have c1 := HF.out.2 1 _ rfl; have c2 := HF.out.2 2 _ rfl; have c3 := HF.out.2 3 _ rfl
  by_cases n1 : x.labs.length ≤ 100
  · have kn1 : ¬ (100 : Int) < (x.labs.length : Int) := by omega
    by_cases n2 : x.heads.length ≤ 100
    · have kn2 : ¬ (100 : Int) < (x.heads.length : Int) := by omega
      by_cases n3 : x.cites.length ≤ 100
      · have kn3 : ¬ (100 : Int) < (x.cites.length : Int) := by omega
        by_cases n4 : x.bibs.length ≤ 8
        · have kn4 : ¬ (8 : Int) < (x.bibs.length : Int) := by omega
          go_wp2_with fail
          clear c0 c1 c2 c3
          go_loopw [3, 4] (fun vo iv wr => ∃ k : Nat, k ≤ x.labs.length ∧ iv = .int .i64 (k : Int) ∧ OwnL W1.heap.size 9 1 RStr wr vo ((x.labs.take k).map Sd.Lab.key) ∧ (x.labs.take k).all Sd.labOk = true ∧ Below W1.heap.size W1 wr) (fun _ iv _ => x.labs.length - (intOf iv).toNat)
          case atStart => exact ⟨0, Nat.zero_le _, rfl, OwnL.made _ _ _ _ _ (Nat.le_refl _), rfl, below_new W1 _⟩
          case round =>
            obtain ⟨k, hk, rfl, hO, hall, hb⟩ := hrel
            have HO := Lib.hid hO; have Hall := Lib.hid hall; have Hb := Lib.hid hb
            have HBr := Lib.hid (HB.out.trans (hb.mono HB.out.size))
            have HFr := Lib.hid (HF.out.below hb)
            have c0 := HFr.out.2 0 _ rfl; have c1 := HFr.out.2 1 _ rfl; have c2 := HFr.out.2 2 _ rfl; have c3 := HFr.out.2 3 _ rfl
            clear hO hall hb
            by_cases hlt : k < x.labs.length
            · obtain ⟨y, hy⟩ : ∃ y, x.labs[k]? = some y := ⟨_, List.getElem?_eq_getElem hlt⟩
              obtain ⟨b, off, vs, rfl, _, hbw, hR, hcc⟩ := Hlat.out k y hy
              have hR : vs = _ := hR
              subst hR
              have a0 : wr.cell? ⟨b, off + k * 3, none⟩ = some (.string ⟨y.key.toArray⟩) := (HBr.out.cell (p := ⟨b, off + k * 3, none⟩) hbw).trans (hcc 0 _ rfl)
              have a1 : wr.cell? ⟨b, off + k * 3 + 1, none⟩ = some (.string ⟨y.num.toArray⟩) := (HBr.out.cell (p := ⟨b, off + k * 3 + 1, none⟩) hbw).trans (hcc 1 _ rfl)
              have a2 : wr.cell? ⟨b, off + k * 3 + 2, none⟩ = some (.int .i64 y.page) := (HBr.out.cell (p := ⟨b, off + k * 3 + 2, none⟩) hbw).trans (hcc 2 _ rfl)
              have hlt' : (k : Int) < (x.labs.length : Int) := by omega
              have hkl : (k : Int) + 1 ≤ 9223372036854775807 := by omega
              have Hlt := Lib.hid hlt; have Hy := Lib.hid hy; have Hkl := Lib.hid hkl
              clear hcc hy hbw hkl hlt
              go_upto_region 8 with fail
              obtain ⟨w2, hw2⟩ : ∃ W, W = wr.alloc (.cells #[.string ⟨y.key.toArray⟩, .string ⟨y.num.toArray⟩, .int .i64 y.page] 45) := ⟨_, rfl⟩
              obtain ⟨gl, hgl⟩ : ∃ gl, gl = wr.heap.size := ⟨_, rfl⟩
              rw [← hw2, ← hgl]
              have HFl := Lib.hid (show Four gl w2 #[.string ⟨y.key.toArray⟩, .string ⟨y.num.toArray⟩, .int .i64 y.page] by rw [hw2, hgl]; exact Four.made _ _ _)
              have hb7 : Below wr.heap.size wr w2 := by rw [hw2]; exact below_new _ _
              have d0 := HFl.out.2 0 _ rfl
              have d1 := HFl.out.2 1 _ rfl
              have d2 := HFl.out.2 2 _ rfl
              clear hw2 hgl a0 a1 a2
              have HO2 := Lib.hid (HO.out.below hb7)
              have Hb2 := Lib.hid (Hb.out.trans (hb7.mono Hb.out.size))
              have HB2 := Lib.hid (HBr.out.trans (hb7.mono HBr.out.size))
              clear hb7 c0 c1 c2 c3 hlt'
              have hlk : Sd.labOk y = (decide (y.num.length ≤ 40) && Sd.pageOk y.page) := rfl
              have Hbad := Lib.hid (fun h : Sd.labOk y = false => show Sd.right x = false by rw [Hrt.out, all_bad1 _ _ _ _ Hy.out h]; simp)
              by_cases h40 : y.num.length ≤ 40
              · have k40 : ¬ (40 : Int) < (y.num.length : Int) := by omega
                obtain ⟨pg, hpg⟩ : ∃ pg, Sd.pageOk y.page = pg := ⟨_, rfl⟩
                rw [decide_eq_true h40, hpg] at hlk
                have Hpg := Lib.hid hpg; have Hlk := Lib.hid hlk
                clear hpg hlk h40
                cases pg
                · go_wp2_with (go_at_call 35; refine (ref10_page y.page _).mono ?_; rw [Hpg.out]; rintro e w9 ⟨rfl, rfl⟩)
                  go_ret
                  exact ⟨ret_bool (Hbad.out (by rw [Hlk.out]; rfl)).symm, HB2.out⟩
                · obtain ⟨fl, hown, hrep⟩ := HO2.out
                  have Hown := Lib.hid hown; have Hrep := Lib.hid hrep
                  have hll : ((x.labs.take k).map Sd.Lab.key).length ≤ 1000000 := by rw [List.length_map, List.length_take]; omega
                  have Hll := Lib.hid hll
                  have hkl := Hkl.out
                  clear hown hrep hll
                  go_wp2_with (first
                    | (go_at_call 35; refine (ref10_page y.page _).mono ?_; rw [Hpg.out]; rintro e w9 ⟨rfl, rfl⟩)
                    | (at_builtin; go_loud (refine wpList_append1 rfl (.tmp 53) (.tmp 56) 24 rfl W1.heap.size 9 i0 (.string ⟨#[]⟩) 1 16 Tryz.underlying24 Hi.out Hz0.out Hz1.out Hz2.out rfl (by decide) _ _ _ Hown.out rfl [.string ⟨y.key.toArray⟩] rfl (by simp) rfl (by simp [Value.oneCell']) (by have := Hll.out; unfold maxLen; omega) (by have := Hll.out; omega) Hb2.out.size ?_); intro v2 w3 own2 g2 at2))
                  go_roundw
                  case rel => exact ⟨k + 1, Hlt.out, by go_num, by rw [keys_snoc _ _ _ Hy.out]; exact OwnL.more Hrep.out rfl own2, all_snoc _ _ _ _ Hy.out Hall.out Hlk.out, Hb2.out.grown g2 Hb2.out.size (fun q e => (Hown.out.lt q e).1)⟩
                  case measure => have := Hlt.out; simp [intOf]; omega
              · have k40 : (40 : Int) < (y.num.length : Int) := by omega
                have H0 := Lib.hid (Hbad.out (by rw [hlk, decide_eq_false h40]; rfl))
                clear hlk h40
                go_wp2_with fail
                go_ret
                exact ⟨ret_bool H0.out.symm, HB2.out⟩
            · have hlt' : ¬ (k : Int) < (x.labs.length : Int) := by omega
              have htk : x.labs.take k = x.labs := List.take_of_length_le (by omega)
              rw [htk] at HO Hall
              obtain ⟨pa, ca, rfl⟩ := HO.out.form
              go_wp2_with fail
              obtain ⟨wm, hwm⟩ : ∃ W, W = wr := ⟨_, rfl⟩
              subst hwm
              clear htk hlt hk c0 c1 c2 c3 hlt'
              go_loopw [6] (fun iv wr => ∃ k : Nat, k ≤ x.heads.length ∧ iv = .int .i64 (k : Int) ∧ (x.heads.take k).all Sd.headOk = true ∧ Below wm.heap.size wm wr) (fun iv _ => x.heads.length - (intOf iv).toNat)
              case atStart => exact ⟨0, Nat.zero_le _, rfl, rfl, Below.refl _ _⟩
              case round =>
                obtain ⟨k, hk, rfl, hall, hb⟩ := hrel
                have Hallh := Lib.hid hall; have Hbh := Lib.hid hb
                have HBs := Lib.hid (HBr.out.trans (hb.mono HBr.out.size))
                have HFs := Lib.hid (HFr.out.below hb)
                have c0 := HFs.out.2 0 _ rfl; have c1 := HFs.out.2 1 _ rfl; have c2 := HFs.out.2 2 _ rfl; have c3 := HFs.out.2 3 _ rfl
                clear hall
                by_cases hlt : k < x.heads.length
                · obtain ⟨y, hy⟩ : ∃ y, x.heads[k]? = some y := ⟨_, List.getElem?_eq_getElem hlt⟩
                  obtain ⟨b, off, vs, rfl, _, hbw, hR, hcc⟩ := Hhat.out k y hy
                  have hR : vs = _ := hR
                  subst hR
                  have a0 : wr.cell? ⟨b, off + k * 4, none⟩ = some (.int .i64 y.level) := (HBs.out.cell (p := ⟨b, off + k * 4, none⟩) hbw).trans (hcc 0 _ rfl)
                  have a1 : wr.cell? ⟨b, off + k * 4 + 1, none⟩ = some (.string ⟨y.num.toArray⟩) := (HBs.out.cell (p := ⟨b, off + k * 4 + 1, none⟩) hbw).trans (hcc 1 _ rfl)
                  have a2 : wr.cell? ⟨b, off + k * 4 + 2, none⟩ = some (.string ⟨y.title.toArray⟩) := (HBs.out.cell (p := ⟨b, off + k * 4 + 2, none⟩) hbw).trans (hcc 2 _ rfl)
                  have a3 : wr.cell? ⟨b, off + k * 4 + 3, none⟩ = some (.int .i64 y.page) := (HBs.out.cell (p := ⟨b, off + k * 4 + 3, none⟩) hbw).trans (hcc 3 _ rfl)
                  have hlt' : (k : Int) < (x.heads.length : Int) := by omega
                  have hkl : (k : Int) + 1 ≤ 9223372036854775807 := by omega
                  have Hlt := Lib.hid hlt; have Hy := Lib.hid hy; have Hkl := Lib.hid hkl
                  have Hti := Lib.hid (Hsm.out.head y (List.mem_of_getElem? hy)).2
                  clear hcc hy hbw hkl hlt hb
                  go_upto_region 15 with fail
                  obtain ⟨w2, hw2⟩ : ∃ W, W = wr.alloc (.cells #[.int .i64 y.level, .string ⟨y.num.toArray⟩, .string ⟨y.title.toArray⟩, .int .i64 y.page] 65) := ⟨_, rfl⟩
                  obtain ⟨gl, hgl⟩ : ∃ gl, gl = wr.heap.size := ⟨_, rfl⟩
                  rw [← hw2, ← hgl]
                  have HFl := Lib.hid (show Four gl w2 #[.int .i64 y.level, .string ⟨y.num.toArray⟩, .string ⟨y.title.toArray⟩, .int .i64 y.page] by rw [hw2, hgl]; exact Four.made _ _ _)
                  have hb7 : Below wr.heap.size wr w2 := by rw [hw2]; exact below_new _ _
                  have d0 := HFl.out.2 0 _ rfl
                  have d1 := HFl.out.2 1 _ rfl
                  have d2 := HFl.out.2 2 _ rfl
                  have d3 := HFl.out.2 3 _ rfl
                  clear hw2 hgl a0 a1 a2 a3
                  have HB2 := Lib.hid (HBs.out.trans (hb7.mono HBs.out.size))
                  have Hb2 := Lib.hid (Hbh.out.trans (hb7.mono Hbh.out.size))
                  clear hb7 c0 c1 c2 c3 hlt'
                  have hhk : Sd.headOk y = (decide (y.num.length ≤ 40) && Sd.pageOk y.page && decide (1 ≤ y.level) && decide (y.level ≤ 2) && Sd.key y.title) := rfl
                  have Hbad := Lib.hid (fun h : Sd.headOk y = false => show Sd.right x = false by rw [Hrt.out, all_bad1 _ _ _ _ Hy.out h]; simp)
                  obtain ⟨lv, hlv⟩ : ∃ lv, y.level = lv := ⟨_, rfl⟩
                  rw [hlv] at hhk d0
                  clear hlv
                  by_cases h1 : 1 ≤ lv
                  · have k1 : ¬ lv < 1 := by omega
                    by_cases h2 : lv ≤ 2
                    · have k2 : ¬ 2 < lv := by omega
                      by_cases h40 : y.num.length ≤ 40
                      · have k40 : ¬ (40 : Int) < (y.num.length : Int) := by omega
                        obtain ⟨ky, hky⟩ : ∃ ky, Sd.key y.title = ky := ⟨_, rfl⟩
                        obtain ⟨pg, hpg⟩ : ∃ pg, Sd.pageOk y.page = pg := ⟨_, rfl⟩
                        rw [decide_eq_true h40, decide_eq_true h1, decide_eq_true h2, hky, hpg] at hhk
                        have Hky := Lib.hid hky; have Hpg := Lib.hid hpg
                        clear hky hpg h40 h1 h2
                        cases ky
                        · have H0 := Lib.hid (Hbad.out (by rw [hhk]; simp))
                          clear hhk
                          go_wp2_with (go_at_call 36; refine (ref09_key y.title _ Hti.out).mono ?_; rw [Hky.out]; rintro e w9 ⟨rfl, rfl⟩)
                          go_ret
                          exact ⟨ret_bool H0.out.symm, HB2.out⟩
                        · cases pg
                          · have H0 := Lib.hid (Hbad.out (by rw [hhk]; simp))
                            clear hhk
                            go_wp2_with (first | (go_at_call 36; refine (ref09_key y.title _ Hti.out).mono ?_; rw [Hky.out]; rintro e w9 ⟨rfl, rfl⟩) | (go_at_call 35; refine (ref10_page y.page _).mono ?_; rw [Hpg.out]; rintro e w9 ⟨rfl, rfl⟩))
                            go_ret
                            exact ⟨ret_bool H0.out.symm, HB2.out⟩
                          · have Hhk := Lib.hid (show Sd.headOk y = true by rw [hhk]; rfl)
                            clear hhk
                            have hkl := Hkl.out
                            go_wp2_with (first | (go_at_call 36; refine (ref09_key y.title _ Hti.out).mono ?_; rw [Hky.out]; rintro e w9 ⟨rfl, rfl⟩) | (go_at_call 35; refine (ref10_page y.page _).mono ?_; rw [Hpg.out]; rintro e w9 ⟨rfl, rfl⟩))
                            go_roundw
                            case rel => exact ⟨k + 1, Hlt.out, by go_num, all_snoc _ _ _ _ Hy.out Hallh.out Hhk.out, Hb2.out⟩
                            case measure => have := Hlt.out; simp [intOf]; omega
                      · have k40 : (40 : Int) < (y.num.length : Int) := by omega
                        have H0 := Lib.hid (Hbad.out (by rw [hhk, decide_eq_false h40]; rfl))
                        clear hhk h40 h1 h2
                        go_wp2_with fail
                        go_ret
                        exact ⟨ret_bool H0.out.symm, HB2.out⟩
                    · have k2 : 2 < lv := by omega
                      have H0 := Lib.hid (Hbad.out (by rw [hhk, decide_eq_false h2]; simp))
                      clear hhk h1 h2
                      go_wp2_with fail
                      go_ret
                      exact ⟨ret_bool H0.out.symm, HB2.out⟩
                  · have k1 : lv < 1 := by omega
                    have H0 := Lib.hid (Hbad.out (by rw [hhk, decide_eq_false h1]; simp))
                    clear hhk h1
                    go_wp2_with fail
                    go_ret
                    exact ⟨ret_bool H0.out.symm, HB2.out⟩
                · have hlt' : ¬ (k : Int) < (x.heads.length : Int) := by omega
                  have htk : x.heads.take k = x.heads := List.take_of_length_le (by omega)
                  rw [htk] at Hallh
                  have HA := Lib.hid (show SliceIn (fun _ => True) 1 RStr wr (.slice pa x.labs.length ca) (x.labs.map Sd.Lab.key) by have h := (HO.out.below hb).slice RStr.size (fun _ => True) (fun _ _ => trivial); rw [List.length_map] at h; exact h)
                  have HAs := Lib.hid (show ∀ s ∈ x.labs.map Sd.Lab.key, s.length ≤ 1000000 by intro s hs; obtain ⟨l, hl, rfl⟩ := List.mem_map.1 hs; exact (Hsm.out.lab l hl).1)
                  have HAl := Lib.hid (show (x.labs.map Sd.Lab.key).length ≤ 1000000 by rw [List.length_map]; exact hsl)
                  have HCx := Lib.hid (HCt.out.below' HBs.out); have HBx := Lib.hid (HBb.out.below' HBs.out)
                  clear htk hlt hk hb
                  obtain ⟨LK, hLK⟩ : ∃ LK, x.labs.map Sd.Lab.key = LK := ⟨_, rfl⟩
                  have hrt2 : Sd.right x = (Sd.keys x.cites && Sd.keys x.bibs && Sd.keys LK) := by rw [Hrt.out, hLK, Hall.out, Hallh.out, decide_eq_true n1, decide_eq_true n2, decide_eq_true n3, decide_eq_true n4]; simp
                  rw [hLK] at HA HAs HAl
                  obtain ⟨ka, hka⟩ : ∃ ka, Sd.keys LK = ka := ⟨_, rfl⟩
                  obtain ⟨kc, hkc⟩ : ∃ kc, Sd.keys x.cites = kc := ⟨_, rfl⟩
                  obtain ⟨kb, hkb⟩ : ∃ kb, Sd.keys x.bibs = kb := ⟨_, rfl⟩
                  rw [hka, hkc, hkb] at hrt2
                  have Hka := Lib.hid hka; have Hkc := Lib.hid hkc; have Hkb := Lib.hid hkb; have Hrt2 := Lib.hid hrt2
                  clear hka hkc hkb hrt2 n1 n2 n3 n4 kn1 kn2 kn3 kn4 hLK
                  go_upto_region 17 with fail
                  cases ka
                  · go_wp2_with (first | (go_at_call 37; (with_reducible refine (ref10_keys LK _ _ _ HA.out HAl.out HAs.out).mono ?_); rw [Hka.out]; rintro e w9 ⟨rfl, hb⟩; replace HBs := Lib.hid (HBs.out.trans (hb.mono HBs.out.size)); replace HCx := Lib.hid (HCx.out.below' hb); replace HBx := Lib.hid (HBx.out.below' hb); have q2 := (hb.cell (p := ⟨g, 2, none⟩) HFs.out.1).trans c2; have q3 := (hb.cell (p := ⟨g, 3, none⟩) HFs.out.1).trans c3; replace HFs := Lib.hid (HFs.out.below hb); clear hb))
                    go_ret
                    exact ⟨ret_bool (by rw [Hrt2.out]; cases kc <;> cases kb <;> rfl), HBs.out⟩
                  · cases kc
                    · go_wp2_with (first | (go_at_call 37; (with_reducible refine (ref10_keys LK _ _ _ HA.out HAl.out HAs.out).mono ?_); rw [Hka.out]; rintro e w9 ⟨rfl, hb⟩; replace HBs := Lib.hid (HBs.out.trans (hb.mono HBs.out.size)); replace HCx := Lib.hid (HCx.out.below' hb); replace HBx := Lib.hid (HBx.out.below' hb); have q2 := (hb.cell (p := ⟨g, 2, none⟩) HFs.out.1).trans c2; have q3 := (hb.cell (p := ⟨g, 3, none⟩) HFs.out.1).trans c3; replace HFs := Lib.hid (HFs.out.below hb); clear hb) | (go_at_call 37; (with_reducible refine (ref10_keys x.cites _ _ _ HCx.out hsc Hsm.out.cite).mono ?_); rw [Hkc.out]; rintro e w9 ⟨rfl, hb⟩; replace HBs := Lib.hid (HBs.out.trans (hb.mono HBs.out.size)); replace HBx := Lib.hid (HBx.out.below' hb); have r3 := (hb.cell (p := ⟨g, 3, none⟩) HFs.out.1).trans q3; replace HFs := Lib.hid (HFs.out.below hb); clear hb))
                      go_ret
                      exact ⟨ret_bool (by rw [Hrt2.out]; cases kb <;> rfl), HBs.out⟩
                    · go_wp2_with (first | (go_at_call 37; (with_reducible refine (ref10_keys LK _ _ _ HA.out HAl.out HAs.out).mono ?_); rw [Hka.out]; rintro e w9 ⟨rfl, hb⟩; replace HBs := Lib.hid (HBs.out.trans (hb.mono HBs.out.size)); replace HCx := Lib.hid (HCx.out.below' hb); replace HBx := Lib.hid (HBx.out.below' hb); have q2 := (hb.cell (p := ⟨g, 2, none⟩) HFs.out.1).trans c2; have q3 := (hb.cell (p := ⟨g, 3, none⟩) HFs.out.1).trans c3; replace HFs := Lib.hid (HFs.out.below hb); clear hb) | (go_at_call 37; (with_reducible refine (ref10_keys x.cites _ _ _ HCx.out hsc Hsm.out.cite).mono ?_); rw [Hkc.out]; rintro e w9 ⟨rfl, hb⟩; replace HBs := Lib.hid (HBs.out.trans (hb.mono HBs.out.size)); replace HBx := Lib.hid (HBx.out.below' hb); have r3 := (hb.cell (p := ⟨g, 3, none⟩) HFs.out.1).trans q3; replace HFs := Lib.hid (HFs.out.below hb); clear hb) | (go_at_call 37; (with_reducible refine (ref10_keys x.bibs _ _ _ HBx.out hsb Hsm.out.bib).mono ?_); rw [Hkb.out]; rintro e w9 ⟨rfl, hb⟩; replace HBs := Lib.hid (HBs.out.trans (hb.mono HBs.out.size)); clear hb))
                      go_ret
                      exact ⟨ret_bool (by rw [Hrt2.out]; cases kb <;> rfl), HBs.out⟩
        · have kn4 : (8 : Int) < (x.bibs.length : Int) := by omega
          have h0 : Sd.right x = false := by rw [Hrt.out, decide_eq_false n4]; simp
          have H0 := Lib.hid h0
          clear h0
          go_wp2_with fail
          go_ret
          exact ⟨ret_bool H0.out.symm, HB.out⟩
      · have kn3 : (100 : Int) < (x.cites.length : Int) := by omega
        have h0 : Sd.right x = false := by rw [Hrt.out, decide_eq_false n3]; simp
        have H0 := Lib.hid h0
        clear h0
        go_wp2_with fail
        go_ret
        exact ⟨ret_bool H0.out.symm, HB.out⟩
    · have kn2 : (100 : Int) < (x.heads.length : Int) := by omega
      have h0 : Sd.right x = false := by rw [Hrt.out, decide_eq_false n2]; simp
      have H0 := Lib.hid h0
      clear h0
      go_wp2_with fail
      go_ret
      exact ⟨ret_bool H0.out.symm, HB.out⟩
  · have kn1 : (100 : Int) < (x.labs.length : Int) := by omega
    have h0 : Sd.right x = false := by rw [Hrt.out, decide_eq_false n1]; simp
    have H0 := Lib.hid h0
    clear h0
    go_wp2_with fail
    go_ret
    exact ⟨ret_bool H0.out.symm, HB.out⟩
end Go.Proofs.YtimmmjmmjokdbaaGreatDoor
