/- The walks of package entry, first part: signs, small letters, marks. -/
import Derived.Test.YtddgdfcgjjdlcaaDoorChecked
import Derived.Test.YtddgdfcgjjdlcaaDoorShelf
import Derived.Test.YtddgdfcgjjdlcaaDoorEntP
import Derived.Test.YtddgdfcgjjdlcaaDoorRep
namespace Go.Proofs.YtddgdfcgjjdlcaaDoor
open Go.RowKit

/-- what holds of all 256 bytes, looked through -/
theorem byte_all (p : UInt8 → Bool) (h : (List.range 256).all (fun n => p (UInt8.ofNat n)) = true) (c : UInt8) : p c = true := by
  have := List.all_eq_true.1 h c.toNat (List.mem_range.2 c.toNat_lt)
  simpa using this
theorem index_sign (c : UInt8) (h : ¬ (97 ≤ c.toNat ∧ c.toNat ≤ 122)) (h2 : ¬ (65 ≤ c.toNat ∧ c.toNat ≤ 90)) (h3 : ¬ (48 ≤ c.toNat ∧ c.toNat ≤ 57)) : decide (0 ≤ Lib.indexByte [45, 46, 95, 58] c) = Ent.sign c := by
  have := byte_all (fun c => (decide (97 ≤ c.toNat ∧ c.toNat ≤ 122)) || (decide (65 ≤ c.toNat ∧ c.toNat ≤ 90)) || decide (48 ≤ c.toNat ∧ c.toNat ≤ 57) || (decide (0 ≤ Lib.indexByte [45, 46, 95, 58] c) == Ent.sign c)) (by decide +kernel) c
  simpa [h, h2, h3] using this
theorem toU8 (c : UInt8) : ((c.toNat : Int)).toNat.toUInt8 = c := by simp

set_option maxHeartbeats 800000 in
theorem entry_sign (c : UInt8) (w : World) :
    Calls Tryd.prog 30 #[.int .u8 (c.toNat : Int)] w fun e w' => e = .returned (.bool (Ent.sign c)) ∧ w = w' := by
  have hc := c.toNat_lt
  have hlow := toU8 c
  have hi := index_sign c
  obtain ⟨n, hn⟩ : ∃ n, c.toNat = n := ⟨_, rfl⟩
  have hs : (97 ≤ n ∧ n ≤ 122) ∨ (65 ≤ n ∧ n ≤ 90) ∨ (48 ≤ n ∧ n ≤ 57) → Ent.sign c = true := by
    intro h
    unfold Ent.sign
    rcases h with h | h | h <;> simp [hn, h.1, h.2]
  rw [hn] at hi hlow hc ⊢
  have Hi := Lib.hid hi; have Hs := Lib.hid hs; have Hlow := Lib.hid hlow
  clear hi hs hlow hn
  have hz : (n < 48) ∨ (48 ≤ n ∧ n ≤ 57) ∨ (58 ≤ n ∧ n ≤ 64) ∨ (65 ≤ n ∧ n ≤ 90) ∨ (91 ≤ n ∧ n ≤ 96) ∨ (97 ≤ n ∧ n ≤ 122) ∨ (123 ≤ n) := by omega
  rcases hz with hz | hz | hz | hz | hz | hz | hz
  all_goals
    go_enter Tryd.func30, Tryd.ntmps30
    go_wp2_with (go_at_call 27; refine (Tryd.strings_IndexByte _ _ _).mono ?_; rintro e w' ⟨rfl, rfl⟩; rw [Hlow.out])
    go_ret
    first
      | exact ⟨ret_bool (Hs.out (by omega)).symm, rfl⟩
      | (refine ⟨ret_bool ?_, rfl⟩
         rw [← Hi.out (by omega) (by omega) (by omega)]
         try rw [show decide ((n : Int) ≤ 122) = false by simp; omega]
         try rw [show decide ((n : Int) ≤ 90) = false by simp; omega]
         try rw [show decide ((n : Int) ≤ 57) = false by simp; omega]
         try simp only [Bool.false_or])

set_option maxHeartbeats 400000 in
theorem entry_marked (l : List UInt8) (w : World) (hl : l.length ≤ maxLen) :
    Calls Tryd.prog 20 #[.string ⟨l.toArray⟩] w fun e w' => e = .returned (.bool (Ent.marked l)) ∧ w = w' := by
  unfold maxLen at hl
  go_enter Tryd.func20, Tryd.ntmps20
  go_wp2_with fail
  go_loop [6] (fun i => ∃ k : Nat, k ≤ l.length ∧ i = .int .i64 k ∧ (l.take k).all Ent.sign = true) (fun i => l.length - (intOf i).toNat)
  case atStart => exact ⟨0, Nat.zero_le _, rfl, rfl⟩
  case round =>
    obtain ⟨k, hk, rfl, hall⟩ := hrel
    have Hall := Lib.hid hall; clear hall
    by_cases hlt : k < l.length
    · obtain ⟨x, hx⟩ : ∃ x, l[k]? = some x := ⟨_, List.getElem?_eq_getElem hlt⟩
      have hb := byte_at l k x hx
      have Hx := Lib.hid hx; clear hx
      have hlt' : (k : Int) < (l.length : Int) := by omega
      cases hs : Ent.sign x
      · have Hs := Lib.hid hs
        go_wp2_with (go_at_call 30; refine (entry_sign _ _).mono ?_; rintro e w' ⟨rfl, rfl⟩)
        go_ret
        refine ⟨ret_bool ?_, rfl⟩
        have h1 : l.all Ent.sign = false := by
          rw [List.all_eq_false]
          exact ⟨x, List.mem_of_getElem? Hx.out, by rw [Hs.out]; simp⟩
        unfold Ent.marked
        rw [h1]; rfl
      · have Hs := Lib.hid hs
        go_wp2_with (go_at_call 30; refine (entry_sign _ _).mono ?_; rintro e w' ⟨rfl, rfl⟩)
        go_round
        case rel => exact ⟨k + 1, by omega, by go_num, by rw [List.take_add_one, Hx.out, List.all_append, Hall.out]; simp [Hs.out]⟩
        case measure => simp [intOf]; omega
    · go_wp2_with fail
      go_ret
      refine ⟨ret_bool ?_, rfl⟩
      have h := Hall.out
      rw [List.take_of_length_le (by omega)] at h
      unfold Ent.marked
      rw [h]
      cases l <;> simp
end Go.Proofs.YtddgdfcgjjdlcaaDoor
