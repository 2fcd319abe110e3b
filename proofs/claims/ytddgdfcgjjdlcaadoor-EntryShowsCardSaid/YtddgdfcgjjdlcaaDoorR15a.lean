/- stetref15's Sign, Mark, Get, Small, right: their walks. -/
import Derived.Test.YtddgdfcgjjdlcaaDoorEntR
import Derived.Test.YtddgdfcgjjdlcaaDoorBytes
import Derived.WalkMore
set_option linter.unusedSimpArgs false
set_option linter.unusedVariables false
namespace Go.Proofs.YtddgdfcgjjdlcaaDoor
open Go.RowKit

theorem u8_beq (c d : UInt8) : ((c.toNat : Int) == (d.toNat : Int)) = (c == d) := by
  rw [Bool.eq_iff_iff, beq_iff_eq, beq_iff_eq]
  constructor
  · intro h; exact UInt8.toNat_inj.1 (by omega)
  · intro h; rw [h]

set_option maxRecDepth 100000 in
set_option maxHeartbeats 1600000 in
theorem ref15_sign (c : UInt8) (w : World) :
    Calls Tryd.prog 32 #[.int .u8 (c.toNat : Int)] w fun e w' => e = .returned (.bool (Ent.sign c)) ∧ w = w' := by
  have hc := c.toNat_lt
  have hsn : Ent.sign c = ((decide (97 ≤ c.toNat) && decide (c.toNat ≤ 122)) || (decide (65 ≤ c.toNat) && decide (c.toNat ≤ 90)) || (decide (48 ≤ c.toNat) && decide (c.toNat ≤ 57)) || (c == 45 || c == 46 || c == 95 || c == 58)) := rfl
  have b1 := u8_beq c 45
  have b2 := u8_beq c 46
  have b3 := u8_beq c 95
  have b4 := u8_beq c 58
  rw [← b1, ← b2, ← b3, ← b4] at hsn
  obtain ⟨n, hn⟩ : ∃ n, c.toNat = n := ⟨_, rfl⟩
  rw [hn] at hsn hc ⊢
  clear b1 b2 b3 b4 hn
  have hz : (n < 45) ∨ n = 45 ∨ n = 46 ∨ n = 47 ∨ (48 ≤ n ∧ n ≤ 57) ∨ n = 58 ∨ (59 ≤ n ∧ n ≤ 64) ∨ (65 ≤ n ∧ n ≤ 90) ∨ (91 ≤ n ∧ n ≤ 94) ∨ n = 95 ∨ (n = 96) ∨ (97 ≤ n ∧ n ≤ 122) ∨ (123 ≤ n) := by omega
  have hs : Ent.sign c = true ∧ ((48 ≤ n ∧ n ≤ 57) ∨ (65 ≤ n ∧ n ≤ 90) ∨ (97 ≤ n ∧ n ≤ 122) ∨ n = 45 ∨ n = 46 ∨ n = 95 ∨ n = 58) ∨ Ent.sign c = false ∧ ¬ ((48 ≤ n ∧ n ≤ 57) ∨ (65 ≤ n ∧ n ≤ 90) ∨ (97 ≤ n ∧ n ≤ 122) ∨ n = 45 ∨ n = 46 ∨ n = 95 ∨ n = 58) := by
    rw [hsn]
    by_cases h : ((48 ≤ n ∧ n ≤ 57) ∨ (65 ≤ n ∧ n ≤ 90) ∨ (97 ≤ n ∧ n ≤ 122) ∨ n = 45 ∨ n = 46 ∨ n = 95 ∨ n = 58)
    · left
      refine ⟨?_, h⟩
      rcases h with h | h | h | h | h | h | h
      · simp [h.1, h.2]
      · simp [h.1, h.2]
      · simp [h.1, h.2]
      · subst h; rfl
      · subst h; rfl
      · subst h; rfl
      · subst h; rfl
    · right
      refine ⟨?_, h⟩
      have e1 : ((n : Int) == ((45 : UInt8).toNat : Int)) = false := by rw [beq_eq_false_iff_ne]; show (n : Int) ≠ 45; omega
      have e2 : ((n : Int) == ((46 : UInt8).toNat : Int)) = false := by rw [beq_eq_false_iff_ne]; show (n : Int) ≠ 46; omega
      have e3 : ((n : Int) == ((95 : UInt8).toNat : Int)) = false := by rw [beq_eq_false_iff_ne]; show (n : Int) ≠ 95; omega
      have e4 : ((n : Int) == ((58 : UInt8).toNat : Int)) = false := by rw [beq_eq_false_iff_ne]; show (n : Int) ≠ 58; omega
      rw [e1, e2, e3, e4]
      simp
      omega
  clear hsn
  rcases hs with ⟨hs, hi⟩ | ⟨hs, hi⟩
  · have Hs := Lib.hid hs; clear hs
    rcases hi with hi | hi | hi | hi | hi | hi | hi
    all_goals
      first
        | subst hi
        | (have i1 : (n : Int) ≤ 122 ∨ True := Or.inr trivial; clear i1)
      clear hz
      go_enter Tryd.func32, Tryd.ntmps32
      go_wp2_with fail
      go_ret
      exact ⟨ret_bool Hs.out.symm, rfl⟩
  · have Hs := Lib.hid hs; clear hs
    have e1 : ((n : Int) == 45) = false := by rw [beq_eq_false_iff_ne]; omega
    have e2 : ((n : Int) == 46) = false := by rw [beq_eq_false_iff_ne]; omega
    have e3 : ((n : Int) == 95) = false := by rw [beq_eq_false_iff_ne]; omega
    have e4 : ((n : Int) == 58) = false := by rw [beq_eq_false_iff_ne]; omega
    have hz2 : (n < 48) ∨ (58 ≤ n ∧ n ≤ 64) ∨ (91 ≤ n ∧ n ≤ 96) ∨ (123 ≤ n) := by omega
    clear hz hi
    rcases hz2 with hz | hz | hz | hz
    all_goals
      go_enter Tryd.func32, Tryd.ntmps32
      go_wp2_with fail
      go_ret
      first
        | exact ⟨ret_bool Hs.out.symm, rfl⟩
        | (refine ⟨ret_bool ?_, rfl⟩
           rw [Hs.out]
           simp
           omega)

set_option maxRecDepth 100000 in
set_option maxHeartbeats 1600000 in
theorem ref15_mark (l : List UInt8) (w : World) (hl : l.length ≤ maxLen) :
    Calls Tryd.prog 23 #[.string ⟨l.toArray⟩] w fun e w' => e = .returned (.bool (Ent.marked l)) ∧ w = w' := by
  unfold maxLen at hl
  go_enter Tryd.func23, Tryd.ntmps23
  go_wp2_with fail
  go_loop [3] (fun i => ∃ k : Nat, k ≤ l.length ∧ i = .int .i64 k ∧ (l.take k).all Ent.sign = true) (fun i => l.length - (intOf i).toNat)
  case atStart => exact ⟨0, Nat.zero_le _, rfl, rfl⟩
  case round =>
    obtain ⟨k, hk, rfl, hall⟩ := hrel
    have Hall := Lib.hid hall; clear hall
    by_cases hlt : k < l.length
    · obtain ⟨x, hx⟩ : ∃ x, l[k]? = some x := ⟨_, List.getElem?_eq_getElem hlt⟩
      have hb := byte_at l k x hx
      have Hx := Lib.hid hx; clear hx
      have hlt' : (k : Int) < (l.length : Int) := by omega
      have hkl : (k : Int) + 1 ≤ 9223372036854775807 := by omega
      cases hs : Ent.sign x
      · have Hs := Lib.hid hs
        go_wp2_with (go_at_call 32; refine (ref15_sign _ _).mono ?_; rintro e w' ⟨rfl, rfl⟩)
        go_ret
        refine ⟨ret_bool ?_, rfl⟩
        have h1 : l.all Ent.sign = false := by
          rw [List.all_eq_false]
          exact ⟨x, List.mem_of_getElem? Hx.out, by rw [Hs.out]; simp⟩
        unfold Ent.marked
        rw [h1]; rfl
      · have Hs := Lib.hid hs
        go_wp2_with (go_at_call 32; refine (ref15_sign _ _).mono ?_; rintro e w' ⟨rfl, rfl⟩)
        go_round
        case rel => exact ⟨k + 1, by omega, by go_num, by rw [List.take_add_one, Hx.out, List.all_append, Hall.out]; simp [Hs.out]⟩
        case measure => simp [intOf]; omega
    · have hlt' : ¬ (k : Int) < (l.length : Int) := by omega
      go_wp2_with fail
      go_ret
      refine ⟨ret_bool ?_, rfl⟩
      have h := Hall.out
      rw [List.take_of_length_le (by omega)] at h
      unfold Ent.marked
      rw [h]
      cases l <;> simp

theorem small_snoc (l : List UInt8) (k : Nat) (x : UInt8) (h : l[k]? = some x) : Ent.small (l.take (k + 1)) = Ent.small (l.take k) ++ [Ent.low x] := by
  unfold Ent.small
  rw [List.take_add_one, h, List.map_append]; rfl
theorem low_at (x : UInt8) (h : 65 ≤ x.toNat ∧ x.toNat ≤ 90) : UInt8.ofNat ((x.toNat : Int) + 32).toNat = Ent.low x := by
  have := byte_all (fun c => !(decide (65 ≤ c.toNat ∧ c.toNat ≤ 90)) || (UInt8.ofNat ((c.toNat : Int) + 32).toNat == Ent.low c)) (by decide +kernel) x
  rw [decide_eq_true h] at this
  simpa using this
theorem low_out (x : UInt8) (h : ¬ (65 ≤ x.toNat ∧ x.toNat ≤ 90)) : UInt8.ofNat ((x.toNat : Int)).toNat = Ent.low x := by
  have := byte_all (fun c => (decide (65 ≤ c.toNat ∧ c.toNat ≤ 90)) || (UInt8.ofNat ((c.toNat : Int)).toNat == Ent.low c)) (by decide +kernel) x
  rw [decide_eq_false h] at this
  simpa using this

set_option maxRecDepth 100000 in
set_option maxHeartbeats 1600000 in
theorem ref15_small (l : List UInt8) (w : World) (hl : l.length ≤ maxLen) :
    Calls Tryd.prog 24 #[.string ⟨l.toArray⟩] w fun e w' => e = .returned (.string ⟨(Ent.small l).toArray⟩) ∧ Below w.heap.size w w' := by
  unfold maxLen at hl
  have Hl := Lib.hid hl; clear hl
  go_enter Tryd.func24, Tryd.ntmps24
  go_wp2_with fail
  go_loopw [3, 4] (fun tv iv wr => ∃ k : Nat, k ≤ l.length ∧ iv = .int .i64 (k : Int) ∧ tv = .string ⟨(Ent.small (l.take k)).toArray⟩ ∧ Below w.heap.size w wr) (fun _ iv _ => l.length - (intOf iv).toNat)
  case atStart => exact ⟨0, Nat.zero_le _, rfl, rfl, Below.refl _ _⟩
  case round =>
    obtain ⟨k, hk, rfl, rfl, hb⟩ := hrel
    have Hb := Lib.hid hb; clear hb
    by_cases hlt : k < l.length
    · obtain ⟨x, hx⟩ : ∃ x, l[k]? = some x := ⟨_, List.getElem?_eq_getElem hlt⟩
      have hby := byte_at l k x hx
      have Hsn := Lib.hid (small_snoc l k x hx)
      have hlt' : (k : Int) < (l.length : Int) := by have := Hl.out; omega
      have hl := Hl.out
      have hsl : (Ent.small (l.take k)).length = k := by unfold Ent.small; simp; omega
      obtain ⟨t, ht⟩ : ∃ t, Ent.small (l.take k) = t := ⟨_, rfl⟩
      rw [ht] at hsl Hsn ⊢
      have Hk := Lib.hid hk; have Hlt := Lib.hid hlt
      clear hx ht hk hlt
      have hx256 := x.toNat_lt
      have hcut : ∃ v : Int, UInt8.ofNat v.toNat = Ent.low x ∧ ((65 ≤ x.toNat ∧ x.toNat ≤ 90 ∧ v = (x.toNat : Int) + 32) ∨ (90 < x.toNat ∧ v = x.toNat) ∨ (x.toNat < 65 ∧ v = x.toNat)) := by
        by_cases h : 65 ≤ x.toNat ∧ x.toNat ≤ 90
        · exact ⟨_, low_at x h, Or.inl ⟨h.1, h.2, rfl⟩⟩
        · refine ⟨_, low_out x h, ?_⟩
          right
          omega
      obtain ⟨v, hv, hz⟩ := hcut
      have Hv := Lib.hid hv; clear hv
      obtain ⟨n, hn⟩ : ∃ n, x.toNat = n := ⟨_, rfl⟩
      rw [hn] at hz hx256
      have Hsl := Lib.hid hsl; have Hl2 := Lib.hid hl
      rcases hz with ⟨h1, h2, hv⟩ | ⟨h1, hv⟩ | ⟨h1, hv⟩
      · have g1 : (65 : Int) ≤ (n : Int) := by omega
        have g2 : (n : Int) ≤ 90 := by omega
        have hw2 : IntKind.u8.wrap ((n : Int) + 32) = v := by rw [hv]; exact IntWalk.u8_in _ (by omega)
        have Hvv := Lib.hid hv; clear hv
        go_upto_region 8 with fail
        skip
        clear h1 hx256 g1 g2 hw2 h2 hlt' hl hsl
        have hcv : ∀ W : World, (convert 68 9 (.slice (some ⟨W.heap.size, 0, none⟩) 1 1)).run Tryd.prog (W.alloc (.cells #[.int .u8 v] 5)) = .ok (.string ⟨[Ent.low x].toArray⟩) (W.alloc (.cells #[.int .u8 v] 5)) := fun W => by
          rw [← Hv.out]
          exact run_conv_one (P := Tryd.prog) 68 9 5 Tryd.underlying68 Tryd.underlying5 Tryd.underlying9 W v
        have hadd : ¬ 9223372036854775807 < t.length + 1 := by have := Hsl.out; have := Hl2.out; have := Hlt.out; omega
        go_upto_region 4 with fail
        clear hcv hadd
        have hkl : (k : Int) + 1 ≤ 9223372036854775807 := by have := Hlt.out; have := Hl2.out; omega
        go_wp2_with fail
        go_roundw
        case rel => exact ⟨k + 1, Hlt.out, by go_num, by rw [Hsn.out]; exact congrArg Value.string (append_data _ _), Hb.out.alloc Hb.out.size _⟩
        case measure => have := Hlt.out; simp [intOf]; omega
      · have g1 : (65 : Int) ≤ (n : Int) := by omega
        have g2 : ¬ (n : Int) ≤ 90 := by omega
        go_upto_region 8 with fail
        rw [← hv]
        clear h1 hx256 g1 g2 hv hlt' hl hsl
        have hcv : ∀ W : World, (convert 68 9 (.slice (some ⟨W.heap.size, 0, none⟩) 1 1)).run Tryd.prog (W.alloc (.cells #[.int .u8 v] 5)) = .ok (.string ⟨[Ent.low x].toArray⟩) (W.alloc (.cells #[.int .u8 v] 5)) := fun W => by
          rw [← Hv.out]
          exact run_conv_one (P := Tryd.prog) 68 9 5 Tryd.underlying68 Tryd.underlying5 Tryd.underlying9 W v
        have hadd : ¬ 9223372036854775807 < t.length + 1 := by have := Hsl.out; have := Hl2.out; have := Hlt.out; omega
        go_upto_region 4 with fail
        clear hcv hadd
        have hkl : (k : Int) + 1 ≤ 9223372036854775807 := by have := Hlt.out; have := Hl2.out; omega
        go_wp2_with fail
        go_roundw
        case rel => exact ⟨k + 1, Hlt.out, by go_num, by rw [Hsn.out]; exact congrArg Value.string (append_data _ _), Hb.out.alloc Hb.out.size _⟩
        case measure => have := Hlt.out; simp [intOf]; omega
      · have g1 : ¬ (65 : Int) ≤ (n : Int) := by omega
        go_upto_region 8 with fail
        rw [← hv]
        clear h1 hx256 g1 hv hlt' hl hsl
        have hcv : ∀ W : World, (convert 68 9 (.slice (some ⟨W.heap.size, 0, none⟩) 1 1)).run Tryd.prog (W.alloc (.cells #[.int .u8 v] 5)) = .ok (.string ⟨[Ent.low x].toArray⟩) (W.alloc (.cells #[.int .u8 v] 5)) := fun W => by
          rw [← Hv.out]
          exact run_conv_one (P := Tryd.prog) 68 9 5 Tryd.underlying68 Tryd.underlying5 Tryd.underlying9 W v
        have hadd : ¬ 9223372036854775807 < t.length + 1 := by have := Hsl.out; have := Hl2.out; have := Hlt.out; omega
        go_upto_region 4 with fail
        clear hcv hadd
        have hkl : (k : Int) + 1 ≤ 9223372036854775807 := by have := Hlt.out; have := Hl2.out; omega
        go_wp2_with fail
        go_roundw
        case rel => exact ⟨k + 1, Hlt.out, by go_num, by rw [Hsn.out]; exact congrArg Value.string (append_data _ _), Hb.out.alloc Hb.out.size _⟩
        case measure => have := Hlt.out; simp [intOf]; omega
    · have hlt' : ¬ (k : Int) < (l.length : Int) := by have := Hl.out; omega
      go_wp2_with fail
      go_ret
      rw [List.take_of_length_le (by omega)]
      exact ⟨rfl, Hb.out⟩
end Go.Proofs.YtddgdfcgjjdlcaaDoor
