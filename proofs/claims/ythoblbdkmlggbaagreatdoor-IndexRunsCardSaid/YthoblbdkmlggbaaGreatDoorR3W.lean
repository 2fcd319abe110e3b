/- The walks of the reference of layer 3 (wire): texts with their lengths ahead. -/
import Derived.Test.YthoblbdkmlggbaaGreatDoorKRa
import Derived.Test.YthoblbdkmlggbaaGreatDoorSidW1
set_option linter.unusedSimpArgs false
set_option linter.unusedVariables false
namespace Go.Proofs.YthoblbdkmlggbaaGreatDoor
open Go.RowKit

set_option maxRecDepth 100000 in
set_option maxHeartbeats 800000 in
theorem ref03_put (t : List UInt8) (w : World) (ht : t.length ≤ 999999) :
    Calls Tryz.prog 51 #[.string ⟨t.toArray⟩] w fun e w' => e = .returned (.string ⟨(Sd.put t).toArray⟩) ∧ Below w.heap.size w w' := by
  have hit := itoa_len t.length ht
  have hid := Cnt.itoa_dec t.length ht
  obtain ⟨d, hd⟩ : ∃ d, Cnt.decF 6 t.length = d := ⟨_, rfl⟩
  have hp : Sd.put t = d ++ [58] ++ t ++ [44] := by unfold Sd.put; rw [hid, hd]
  rw [hid, hd] at hit
  have Hd := Lib.hid hd; have Hp := Lib.hid hp; have Ht := Lib.hid ht
  clear hd hp hid
  have h1 : ¬ 9223372036854775807 < d.length + 1 := by omega
  have h2 : ¬ 9223372036854775807 < d.length + 1 + t.length := by omega
  have h3 : ¬ 9223372036854775807 < d.length + 1 + t.length + 1 := by omega
  go_enter Tryz.func51, Tryz.ntmps51
  go_wp2_with (go_at_call 39; refine (ref01_digits 6 t.length _ (Nat.lt_of_le_of_lt Ht.out (by decide)) (by decide) (by decide)).mono ?_; rw [Hd.out]; rintro e w1 ⟨rfl, hb⟩; have Hb := Lib.hid hb; clear hb)
  go_ret
  refine ⟨?_, Hb.out⟩
  rw [Hp.out]
  have g1 : ∀ l : List UInt8, (⟨l.toArray⟩ : ByteArray) ++ ⟨#[58]⟩ = ⟨(l ++ [58]).toArray⟩ := fun l => append_data l [58]
  have g2 : ∀ l : List UInt8, (⟨l.toArray⟩ : ByteArray) ++ ⟨#[44]⟩ = ⟨(l ++ [44]).toArray⟩ := fun l => append_data l [44]
  rw [g1, append_data (d ++ [58]) t, g2]
  rfl

theorem ref03_digit (m : Nat) (b : Bool) (hb : decide (48 ≤ m ∧ m ≤ 57) = b) (w : World) :
    Calls Tryz.prog 171 #[.int .u8 (m : Int)] w fun e w' => e = .returned (.bool b) ∧ w = w' := by
  subst hb
  by_cases h1 : 48 ≤ m
  · have g1 : (48 : Int) ≤ (m : Int) := by omega
    by_cases h2 : m ≤ 57
    · have g2 : (m : Int) ≤ 57 := by omega
      have e : decide (48 ≤ m ∧ m ≤ 57) = true := decide_eq_true ⟨h1, h2⟩
      rw [e]
      clear h1 h2 e
      go_enter Tryz.func171, Tryz.ntmps171
      go_wp2_with fail
      go_ret
      exact ⟨rfl, rfl⟩
    · have g2 : ¬ (m : Int) ≤ 57 := by omega
      have e : decide (48 ≤ m ∧ m ≤ 57) = false := decide_eq_false (fun h => h2 h.2)
      rw [e]
      clear h1 h2 e
      go_enter Tryz.func171, Tryz.ntmps171
      go_wp2_with fail
      go_ret
      exact ⟨rfl, rfl⟩
  · have g1 : ¬ (48 : Int) ≤ (m : Int) := by omega
    have e : decide (48 ≤ m ∧ m ≤ 57) = false := decide_eq_false (fun h => h1 h.1)
    rw [e]
    clear h1 e
    go_enter Tryz.func171, Tryz.ntmps171
    go_wp2_with fail
    go_ret
    exact ⟨rfl, rfl⟩

/-- what the reference's 'length' tells -/
def RLen (s : List UInt8) (at_ : Nat) (w : World) (e : Ending) (w' : World) : Prop :=
  w = w' ∧
  match Sd.lenGo true 0 (s.drop at_) with
  | some (n, r) => ∃ k : Nat, at_ < k ∧ k ≤ s.length ∧ r = s.drop k ∧ n ≤ 999999 ∧ e = .returned (.tuple #[.int .i64 (n : Int), .int .i64 (k : Int), .int .i64 0])
  | none => ∃ er : Int, 1 ≤ er ∧ er ≤ 100 ∧ e = .returned (.tuple #[.int .i64 0, .int .i64 0, .int .i64 er])
set_option maxRecDepth 100000 in
set_option maxHeartbeats 3200000 in
theorem ref03_length (s : List UInt8) (a : Nat) (w : World) (hs : s.length ≤ 1000000000) (ha : a ≤ s.length) :
    Calls Tryz.prog 147 #[.string ⟨s.toArray⟩, .int .i64 (a : Int)] w (RLen s a w) := by
  obtain ⟨o, ho⟩ : ∃ o, Sd.lenGo true 0 (s.drop a) = o := ⟨_, rfl⟩
  have Ho := Lib.hid ho
  clear ho
  go_enter Tryz.func147, Tryz.ntmps147
  go_wp2_with fail
  go_loopw [7, 8] (fun nv iv wr => ∃ (k n : Nat), a ≤ k ∧ k ≤ s.length ∧ n ≤ 999999 ∧ nv = .int .i64 (n : Int) ∧ iv = .int .i64 (k : Int) ∧ Sd.lenGo (decide (k = a)) n (s.drop k) = o ∧ (k = a → n = 0) ∧ (a < k → ∀ y, s[a]? = some y → (n = 0 ↔ y.toNat = 48)) ∧ wr = w) (fun _ iv _ => s.length - (intOf iv).toNat)
  case atStart => exact ⟨a, 0, Nat.le_refl _, ha, by omega, rfl, rfl, by rw [decide_eq_true rfl]; exact Ho.out, fun _ => rfl, fun h => by omega, rfl⟩
  case round =>
    obtain ⟨k, n, hak, hk, hn, rfl, rfl, hg, hkn, hy0, rfl⟩ := hrel
    have Hg := Lib.hid hg; have Hkn := Lib.hid hkn; have Hy := Lib.hid hy0
    clear hg hkn hy0
    by_cases hlt : k < s.length
    · obtain ⟨x, hx⟩ : ∃ x, s[k]? = some x := ⟨_, List.getElem?_eq_getElem hlt⟩
      obtain ⟨y, hy⟩ : ∃ y, s[a]? = some y := ⟨_, List.getElem?_eq_getElem (by omega)⟩
      have hby := byte_at s k x hx
      have hbya := byte_at s a y hy
      have hdrop : s.drop k = x :: s.drop (k + 1) := by
        obtain ⟨h1, h2⟩ := List.getElem?_eq_some_iff.1 hx
        rw [List.drop_eq_getElem_cons h1, h2]
      have hgo := Hg.out
      rw [hdrop, Sd.lenGo] at hgo
      have hxy : k = a → x = y := fun h => by rw [h, hy] at hx; exact (Option.some.inj hx).symm
      have hny : a < k → (n = 0 ↔ y.toNat = 48) := fun h => Hy.out h y hy
      have hlt' : (k : Int) < (s.length : Int) := by omega
      have hal' : (a : Int) < (s.length : Int) := by omega
      have hkl : (k : Int) + 1 ≤ 9223372036854775807 := by omega
      have hxl := x.toNat_lt
      obtain ⟨m, hm⟩ : ∃ m, x.toNat = m := ⟨_, rfl⟩
      obtain ⟨my, hmy⟩ : ∃ my, y.toNat = my := ⟨_, rfl⟩
      have hx58 : x = 58 ↔ m = 58 := ⟨fun h => by rw [← hm, h]; rfl, fun h => UInt8.toNat_inj.1 (by rw [hm, h]; rfl)⟩
      have hmm : k = a → m = my := fun h => by rw [← hm, ← hmy, hxy h]
      have hyk : ∀ y', s[a]? = some y' → y'.toNat = my := fun y' h => by rw [hy] at h; rw [← Option.some.inj h]; exact hmy
      rw [hmy] at hny
      rw [hm] at hxl hgo
      simp only [hx58] at hgo
      have Hgo := Lib.hid hgo; have Hmm := Lib.hid hmm; have Hny := Lib.hid hny; have Hyk := Lib.hid hyk
      clear hgo hdrop hx hy hx58 hxy hmm hny hyk Hy
      have hdg : decide (48 ≤ m ∧ m ≤ 57) = true ∨ decide (48 ≤ m ∧ m ≤ 57) = false := by cases decide (48 ≤ m ∧ m ≤ 57) <;> simp
      by_cases h1 : m = 58 ∧ a < k
      · obtain ⟨rfl, hne⟩ := h1
        have hgt : (a : Int) < (k : Int) := by omega
        have hr := Hgo.out
        rw [if_pos ⟨rfl, by simp; omega⟩] at hr
        have Hr := Lib.hid hr
        clear hr Hgo hdg
        go_wp2_with fail
        go_ret3
        refine ⟨rfl, ?_⟩
        rw [Ho.out, ← Hr.out]
        exact ⟨k + 1, by omega, by omega, rfl, hn, rfl⟩
      · have hr := Hgo.out
        have hc0 : ¬ (m = 58 ∧ decide (k = a) = false) := by
          rintro ⟨h2, h3⟩
          exact h1 ⟨h2, by simp at h3; omega⟩
        rw [if_neg hc0] at hr
        clear Hgo hc0
        rcases hdg with hd | hd
        · have hmd : 48 ≤ m ∧ m ≤ 57 := of_decide_eq_true hd
          have e58 : ((m : Int) == 58) = false := by rw [beq_eq_false_iff_ne]; omega
          have Hd := Lib.hid hd
          clear hd h1
          by_cases hka : k = a
          · subst hka
            have hgt : ¬ (k : Int) < (k : Int) := by omega
            have hn0 := Hkn.out rfl
            subst hn0
            rw [if_neg (by simp; omega), if_neg (by omega)] at hr
            have Hr := Lib.hid hr
            have Hmy2 := Lib.hid (Hmm.out rfl)
            clear hr
            obtain ⟨q, hq⟩ : ∃ q : Nat, q = m - 48 := ⟨_, rfl⟩
            obtain ⟨z, hz⟩ : ∃ z : Int, z = (q : Int) := ⟨_, rfl⟩
            have hw1 : IntKind.i64.wrap ((m : Int) - 48) = z := by rw [IntWalk.i64_in _ (by omega)]; omega
            have Hq9 := Lib.hid (show q ≤ 999999 by omega)
            have hb2 : decide ((999999 : Int) < z) = false := decide_eq_false (by omega)
            have Hz := Lib.hid hz
            clear hz
            have Hq := Lib.hid hq; have Hmd := Lib.hid hmd
            clear hq hmd
            have HK := Lib.hid (And.intro hs (And.intro ha (And.intro hak (And.intro hk (And.intro hn (And.intro hlt hkl))))))
            go_wp2_with (go_at_call 171; refine (ref03_digit _ true Hd.out _).mono ?_; rintro e w9 ⟨rfl, rfl⟩)
            go_roundw
            case rel => exact ⟨k + 1, q, by omega, by omega, Hq9.out, by rw [Hz.out], by go_num, by rw [decide_eq_false (by omega : ¬ k + 1 = k), Hq.out]; simpa using Hr.out, by omega, fun _ y' h => by have h1 := Hyk.out y' h; have h2 := Hmd.out; have h3 := Hq.out; have h4 := Hmy2.out; rw [h1]; omega, trivial⟩
            case measure => simp [intOf]; omega
          · have hgt : (a : Int) < (k : Int) := by omega
            have hak2 : a < k := by omega
            by_cases h0 : n = 0
            · have e48 : ((my : Int) == 48) = true := by have := (Hny.out hak2).1 h0; rw [this]; rfl
              rw [if_pos (.inr (.inr ⟨by simp [hka], h0⟩))] at hr
              have Hr := Lib.hid hr
              clear hr h0 hmd
              go_wp2_with (go_at_call 171; refine (ref03_digit _ true Hd.out _).mono ?_; rintro e w9 ⟨rfl, rfl⟩)
              go_ret3
              refine ⟨rfl, ?_⟩
              rw [Ho.out, ← Hr.out]
              exact ⟨5, by omega, by omega, rfl⟩
            · have e48 : ((my : Int) == 48) = false := by rw [beq_eq_false_iff_ne]; intro h; exact h0 ((Hny.out hak2).2 (by omega))
              have hng : ¬ (m < 48 ∨ 57 < m ∨ decide (k = a) = false ∧ n = 0) := by
                rintro (h | h | h)
                · omega
                · omega
                · exact h0 h.2
              rw [if_neg hng] at hr
              clear hng
              obtain ⟨q, hq⟩ : ∃ q : Nat, q = n * 10 + (m - 48) := ⟨_, rfl⟩
              have hw1 : IntKind.i64.wrap (10 * (n : Int)) = 10 * (n : Int) := IntWalk.i64_in _ (by omega)
              have hw2 : IntKind.i64.wrap (10 * (n : Int) + (m : Int)) = 10 * (n : Int) + (m : Int) := IntWalk.i64_in _ (by omega)
              obtain ⟨z, hz⟩ : ∃ z : Int, z = (q : Int) := ⟨_, rfl⟩
              have hw3 : IntKind.i64.wrap (10 * (n : Int) + (m : Int) - 48) = z := by rw [IntWalk.i64_in _ (by omega)]; omega
              have Hq := Lib.hid hq; have Hmd := Lib.hid hmd; have H0 := Lib.hid h0
              by_cases hbig : 999999 < n * 10 + (m - 48)
              · rw [if_pos hbig] at hr
                have Hr := Lib.hid hr
                have gb : (999999 : Int) < z := by omega
                clear hr hbig hq hmd h0 hz
                go_wp2_with (go_at_call 171; refine (ref03_digit _ true Hd.out _).mono ?_; rintro e w9 ⟨rfl, rfl⟩)
                go_ret3
                refine ⟨rfl, ?_⟩
                rw [Ho.out, ← Hr.out]
                exact ⟨3, by omega, by omega, rfl⟩
              · rw [if_neg hbig] at hr
                have Hr := Lib.hid hr
                have Hq9 := Lib.hid (show q ≤ 999999 by omega)
                have gb : decide ((999999 : Int) < z) = false := decide_eq_false (by omega)
                have Hz := Lib.hid hz
                clear hr hbig hq hmd h0 hz
                have HK := Lib.hid (And.intro hs (And.intro ha (And.intro hak (And.intro hk (And.intro hn (And.intro hlt hkl))))))
                go_wp2_with (go_at_call 171; refine (ref03_digit _ true Hd.out _).mono ?_; rintro e w9 ⟨rfl, rfl⟩)
                go_roundw
                case rel => exact ⟨k + 1, q, by omega, by omega, Hq9.out, by rw [Hz.out], by go_num, by rw [decide_eq_false (by omega : ¬ k + 1 = a), Hq.out]; exact Hr.out, by omega, fun _ y' h => by have h1 := Hyk.out y' h; have h2 := (Hny.out hak2); have h3 := Hq.out; have h4 := H0.out; rw [h1]; omega, trivial⟩
                case measure => simp [intOf]; omega
        · have hmd : ¬ (48 ≤ m ∧ m ≤ 57) := of_decide_eq_false hd
          rw [if_pos (show m < 48 ∨ 57 < m ∨ decide (k = a) = false ∧ n = 0 by omega)] at hr
          have Hr := Lib.hid hr; have Hd := Lib.hid hd
          clear hr hd hmd
          by_cases h58 : m = 58
          · subst h58
            have hgt : ¬ (a : Int) < (k : Int) := by have := h1; omega
            clear h1
            go_wp2_with (go_at_call 171; refine (ref03_digit _ false Hd.out _).mono ?_; rintro e w9 ⟨rfl, rfl⟩)
            go_ret3
            refine ⟨rfl, ?_⟩
            rw [Ho.out, ← Hr.out]
            exact ⟨5, by omega, by omega, rfl⟩
          · have e58 : ((m : Int) == 58) = false := by rw [beq_eq_false_iff_ne]; omega
            clear h58 h1
            go_wp2_with (go_at_call 171; refine (ref03_digit _ false Hd.out _).mono ?_; rintro e w9 ⟨rfl, rfl⟩)
            go_ret3
            refine ⟨rfl, ?_⟩
            rw [Ho.out, ← Hr.out]
            exact ⟨5, by omega, by omega, rfl⟩
    · have hlt' : ¬ (k : Int) < (s.length : Int) := by omega
      have hnil : s.drop k = [] := List.drop_of_length_le (by omega)
      have hr := Hg.out
      rw [hnil, Sd.lenGo] at hr
      have Hr := Lib.hid hr
      clear hr hnil
      go_wp2_with fail
      go_ret3
      refine ⟨rfl, ?_⟩
      rw [Ho.out, ← Hr.out]
      exact ⟨6, by omega, by omega, rfl⟩

/-- what the reference's 'Get' tells: the text at a place, and the place behind it -/
def RGet (s : List UInt8) (at_ : Nat) (w : World) (e : Ending) (w' : World) : Prop :=
  w = w' ∧
  match Sd.get (s.drop at_) with
  | some (t, r) => ∃ k : Nat, at_ < k ∧ k ≤ s.length ∧ r = s.drop k ∧ t.length ≤ s.length ∧ e = .returned (.tuple #[.string ⟨t.toArray⟩, .int .i64 (k : Int), .int .i64 0])
  | none => ∃ er : Int, 1 ≤ er ∧ er ≤ 100 ∧ e = .returned (.tuple #[.string ⟨#[]⟩, .int .i64 0, .int .i64 er])
set_option maxRecDepth 100000 in
set_option maxHeartbeats 3200000 in
theorem ref03_get (s : List UInt8) (a : Nat) (w : World) (hs : s.length ≤ 1000000000) (ha : a ≤ s.length) :
    Calls Tryz.prog 109 #[.string ⟨s.toArray⟩, .int .i64 (a : Int), .int .i64 999999] w (RGet s a w) := by
  have hg : Sd.get (s.drop a) = match Sd.lenGo true 0 (s.drop a) with | none => none | some (n, r) => if r[n]? = some 44 then some (r.take n, r.drop (n + 1)) else none := rfl
  cases hlg : Sd.lenGo true 0 (s.drop a) with
  | none =>
    rw [hlg] at hg
    have Hg := Lib.hid hg; have Hlg := Lib.hid hlg
    clear hg hlg
    have h0 : ¬ (a : Int) < 0 := by omega
    have h1 : ¬ (s.length : Int) < (a : Int) := by omega
    go_enter Tryz.func109, Tryz.ntmps109
    go_wp2_with (go_at_call 147; refine (ref03_length s a _ hs ha).mono ?_; rintro e w1 ⟨rfl, hm⟩; rw [Hlg.out] at hm; obtain ⟨er, h1, h2, rfl⟩ := hm; have her : (er != 0) = true := (by simp; omega); have H12 := Lib.hid (And.intro h1 h2); clear h1 h2)
    go_ret3
    refine ⟨rfl, ?_⟩
    rw [Hg.out]
    exact ⟨er, H12.out.1, H12.out.2, rfl⟩
  | some o =>
    obtain ⟨n, r⟩ := o
    rw [hlg] at hg
    simp only at hg
    have Hg := Lib.hid hg; have Hlg := Lib.hid hlg
    clear hg hlg
    have h0 : ¬ (a : Int) < 0 := by omega
    have h1 : ¬ (s.length : Int) < (a : Int) := by omega
    go_enter Tryz.func109, Tryz.ntmps109
    go_upto_region 6 with (go_at_call 147; refine (ref03_length s a _ hs ha).mono ?_; rintro e w1 ⟨rfl, hm⟩; rw [Hlg.out] at hm; obtain ⟨k, hak, hk, hr, hn, rfl⟩ := hm)
    clear h0 h1
    obtain ⟨q, hq⟩ : ∃ q, q = k + n := ⟨_, rfl⟩
    have hw0 : IntKind.i64.wrap ((s.length : Int) - (k : Int)) = (s.length : Int) - (k : Int) := IntWalk.i64_in _ (by omega)
    have hwn : IntKind.i64.wrap ((n : Int) + 1) = (n : Int) + 1 := IntWalk.i64_in _ (by omega)
    have hw1 : IntKind.i64.wrap ((k : Int) + (n : Int)) = (q : Int) := by rw [IntWalk.i64_in _ (by omega)]; omega
    have hw2 : IntKind.i64.wrap ((q : Int) + 1) = (q : Int) + 1 := IntWalk.i64_in _ (by omega)
    have hmx : ¬ (999999 : Int) < (n : Int) := by omega
    have hn0 : (0 : Int) < (n : Int) ∨ ¬ (0 : Int) < (n : Int) := by omega
    subst hr
    have hget : (s.drop k)[n]? = s[q]? := by rw [List.getElem?_drop, hq]
    rw [hget] at Hg
    by_cases hsh : s.length < q + 1
    · have g1 : (s.length : Int) - (k : Int) < (n : Int) + 1 := by omega
      have hnone : s[q]? = none := List.getElem?_eq_none (by omega)
      rw [hnone, if_neg (by simp)] at Hg
      clear hnone hget hsh hq hk hak hn
      rcases hn0 with hn0 | hn0
      all_goals
        go_wp2_with fail
        go_ret3
        refine ⟨rfl, ?_⟩
        rw [Hg.out]
        exact ⟨6, by omega, by omega, rfl⟩
    · have g1 : ¬ (s.length : Int) - (k : Int) < (n : Int) + 1 := by omega
      have g2 : (q : Int) < (s.length : Int) := by omega
      obtain ⟨x, hx⟩ : ∃ x, s[q]? = some x := ⟨_, List.getElem?_eq_getElem (by omega)⟩
      have hby := byte_at s q x hx
      have Hq := Lib.hid hq
      rw [hx] at Hg
      clear hx hget hsh hq
      have Hak := Lib.hid hak; have Hk := Lib.hid hk; have Hn := Lib.hid hn
      by_cases hc : x = 44
      · have e1 : ((x.toNat : Int) == 44) = true := by rw [hc]; rfl
        rw [hc, if_pos rfl] at Hg
        have hex : (⟨s.toArray⟩ : ByteArray).extract k q = ⟨((s.drop k).take n).toArray⟩ := by
          rw [extract_any, Hq.out, Nat.add_sub_cancel_left]
        have hkq : (k : Int) ≤ (q : Int) := by have := Hq.out; omega
        have hqs : (q : Int) ≤ (s.length : Int) := by omega
        clear hc hk hak hn
        rcases hn0 with hn0 | hn0
        all_goals
          go_wp2_with fail
          go_ret3
          refine ⟨rfl, ?_⟩
          rw [Hg.out]
          exact ⟨q + 1, by have := Hq.out; have := Hak.out; omega, by omega, by rw [List.drop_drop, Hq.out, Nat.add_assoc], by rw [List.length_take, List.length_drop]; omega, rfl⟩
      · have e1 : ((x.toNat : Int) == 44) = false := by rw [beq_eq_false_iff_ne]; intro h; exact hc (UInt8.toNat_inj.1 (by show x.toNat = 44; omega))
        rw [if_neg (fun h => hc (Option.some.inj h))] at Hg
        clear hc hk hak hn
        rcases hn0 with hn0 | hn0
        all_goals
          go_wp2_with fail
          go_ret3
          refine ⟨rfl, ?_⟩
          rw [Hg.out]
          exact ⟨5, by omega, by omega, rfl⟩

/-- what the reference's 'All' tells: the texts, none where it is wrong -/
def RAll (s : List UInt8) (w : World) (e : Ending) (w' : World) : Prop :=
  Below w.heap.size w w' ∧ ∃ (v : Value) (er : Int), OwnL w.heap.size 9 1 RStr w' v ((Sd.all s).getD []) ∧ (∀ t ∈ (Sd.all s).getD [], t.length ≤ s.length) ∧ ((Sd.all s).getD []).length ≤ s.length ∧ e = .returned (.tuple #[v, .int .i64 er])
set_option maxRecDepth 100000 in
set_option maxHeartbeats 3200000 in
theorem ref03_all (s : List UInt8) (w : World) (hs : s.length ≤ 1000000) :
    Calls Tryz.prog 74 #[.string ⟨s.toArray⟩] w (RAll s w) := by
  obtain ⟨i0, hi, hz0, hz1, hz2⟩ := info_parts str_info
  have Hi := Lib.hid hi; have Hz0 := Lib.hid hz0; have Hz1 := Lib.hid hz1; have Hz2 := Lib.hid hz2; clear hi hz0 hz1 hz2
  go_enter Tryz.func74, Tryz.ntmps74
  go_wp2_with fail
  go_loopw [4, 5] (fun vo iv wr => ∃ (k : Nat) (out : List (List UInt8)), k ≤ s.length ∧ iv = .int .i64 (k : Int) ∧ OwnL w.heap.size 9 1 RStr wr vo out ∧ Sd.all s = (Sd.all (s.drop k)).map (out ++ ·) ∧ (∀ t ∈ out, t.length ≤ s.length) ∧ out.length ≤ k ∧ Below w.heap.size w wr) (fun _ iv _ => s.length - (intOf iv).toNat)
  case atStart => exact ⟨0, [], Nat.zero_le _, rfl, OwnL.made _ _ _ _ _ (Nat.le_refl _), by simp, by simp, Nat.le_refl _, below_new w _⟩
  case round =>
    obtain ⟨k, out, hk, rfl, hO, hall, hsm, hol, hb⟩ := hrel
    have HO := Lib.hid hO; have Hall := Lib.hid hall; have Hsm := Lib.hid hsm; have Hb := Lib.hid hb
    clear hO hall hsm hb
    by_cases hlt : k < s.length
    · have hlt' : (k : Int) < (s.length : Int) := by omega
      have hne : s.drop k ≠ [] := by intro h; have := congrArg List.length h; rw [List.length_drop] at this; simp at this; omega
      cases hg : Sd.get (s.drop k) with
      | none =>
        have ha := all_bad _ hne hg
        have Hr := Lib.hid (show Sd.all s = none by rw [Hall.out, ha]; rfl)
        have Hg := Lib.hid hg
        clear hg hne ha
        go_wp2_with (go_at_call 109; refine (ref03_get s k _ (by omega) hk).mono ?_; rintro e w1 ⟨rfl, hm⟩; rw [Hg.out] at hm; obtain ⟨er, h1, h2, rfl⟩ := hm; have her : (er != 0) = true := (by simp; omega))
        go_ret2
        refine ⟨Hb.out, _, er, ?_, ?_, ?_, rfl⟩
        · rw [Hr.out]; exact OwnL.nil _ _ _ _ _
        · rw [Hr.out]; intro t ht; cases ht
        · rw [Hr.out]; exact Nat.zero_le _
      | some o =>
        obtain ⟨t, r⟩ := o
        have ha := all_eq _ _ _ hg
        have Hr := Lib.hid (show Sd.all s = (Sd.all r).map ((out ++ [t]) ++ ·) by rw [Hall.out, ha, Option.map_map]; congr 1; funext l; simp)
        have Hg := Lib.hid hg
        clear hg hne ha
        obtain ⟨fl, hown, hrep⟩ := HO.out
        have Hown := Lib.hid hown; have Hrep := Lib.hid hrep
        clear hown hrep
        have hout : out.length ≤ 1000000 := by omega
        go_wp2_with (first
          | (go_at_call 109; refine (ref03_get s k _ (by omega) hk).mono ?_; rintro e w1 ⟨rfl, hm⟩; rw [Hg.out] at hm; obtain ⟨k2, hak, hk2, hr, ht, rfl⟩ := hm)
          | (at_builtin; go_loud (refine wpList_append1 rfl (.tmp 24) (.tmp 26) 25 rfl w.heap.size 9 i0 (.string ⟨#[]⟩) 1 16 Tryz.underlying25 Hi.out Hz0.out Hz1.out Hz2.out rfl (by decide) _ _ _ Hown.out rfl [.string ⟨t.toArray⟩] rfl (by simp) rfl (by simp [Value.oneCell']) (by unfold maxLen; omega) (by omega) Hb.out.size ?_); intro v2 w2 own2 g2 at2))
        go_roundw
        case rel =>
          refine ⟨k2, out ++ [t], hk2, rfl, OwnL.more Hrep.out rfl own2, by rw [← hr]; exact Hr.out, ?_, by rw [List.length_append, List.length_singleton]; omega, Hb.out.grown g2 Hb.out.size (fun q e => (Hown.out.lt q e).1)⟩
          intro u hu
          rcases List.mem_append.1 hu with h | h
          · exact Hsm.out u h
          · rw [List.mem_singleton] at h; rw [h]; exact ht
        case measure => simp [intOf]; omega
    · have hlt' : ¬ (k : Int) < (s.length : Int) := by omega
      have hd : s.drop k = [] := List.drop_of_length_le (by omega)
      have Hr := Lib.hid (show Sd.all s = some out by rw [Hall.out, hd, all_nil]; simp)
      go_wp2_with fail
      go_ret2
      refine ⟨Hb.out, _, 0, ?_, ?_, ?_, rfl⟩
      · rw [Hr.out]; exact HO.out
      · rw [Hr.out]; exact Hsm.out
      · rw [Hr.out]; show out.length ≤ _; omega
end Go.Proofs.YthoblbdkmlggbaaGreatDoor
