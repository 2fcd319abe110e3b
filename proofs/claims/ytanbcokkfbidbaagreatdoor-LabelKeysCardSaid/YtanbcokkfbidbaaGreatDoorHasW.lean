/- The walk of the reference's Has. -/
import Derived.Test.YtanbcokkfbidbaaGreatDoorCutW
import Derived.Test.YtanbcokkfbidbaaGreatDoorEntQ
set_option linter.unusedSimpArgs false
set_option linter.unusedVariables false
namespace Go.Proofs.YtanbcokkfbidbaaGreatDoor
open Go.RowKit
theorem has_false (c : List Ent.Ent) (k : Nat) (x : Ent.Ent) (key : List UInt8) (hx : c[k]? = some x) (h : Ent.has (c.take k) key = false) (hk : (x.key == key) = false) : Ent.has (c.take (k + 1)) key = false := by
  rw [List.take_add_one, hx]
  unfold Ent.has at h ⊢
  rw [List.any_append, h]
  simpa using hk
set_option maxRecDepth 100000 in
set_option maxHeartbeats 1600000 in
theorem ref15_has (c : List Ent.Ent) (vr : Value) (key : List UInt8) (S : Nat → Prop) (w : World) (hE : Ents S w vr c) :
    Calls Tryz.prog 8 #[vr, .string ⟨key.toArray⟩] w fun e w' => e = .returned (.bool (Ent.has c key)) ∧ Below w.heap.size w w' := by
  obtain ⟨p, cap, rfl, hle, hm, hat⟩ := hE
  have hlm : c.length ≤ 9223372036854775807 := by unfold maxLen at hm; omega
  have Hat := Lib.hid hat; clear hat hm hle
  go_enter Tryz.func8, Tryz.ntmps8
  go_wp2_with fail
  go_loopw [5] (fun i wr => ∃ k : Nat, k ≤ c.length ∧ i = .int .i64 (k : Int) ∧ Ent.has (c.take k) key = false ∧ wr = w) (fun i _ => c.length - (intOf i).toNat)
  case atStart => exact ⟨0, Nat.zero_le _, rfl, rfl, rfl⟩
  case round =>
    obtain ⟨k, hk, rfl, hno, rfl⟩ := hrel
    have Hno := Lib.hid hno; clear hno
    by_cases hlt : k < c.length
    · obtain ⟨x, hx⟩ : ∃ x, c[k]? = some x := ⟨_, List.getElem?_eq_getElem hlt⟩
      obtain ⟨b, off, vs, rfl, _, hbw, hR, hc⟩ := Hat.out k x hx
      obtain ⟨vf, rfl, _⟩ := hR
      have e1 := hc 1 _ rfl
      rw [show off + (k * 3 + 1) = off + k * 3 + 1 by omega] at e1
      have hlt' : (k : Int) < (c.length : Int) := by omega
      have hkl : (k : Int) + 1 ≤ 9223372036854775807 := by omega
      have Hx := Lib.hid hx
      clear hc hx
      cases hp : (x.key == key)
      · have Hp := Lib.hid hp
        go_wp2_with fail
        go_roundw
        case rel => exact ⟨k + 1, by omega, by go_num, has_false c k x key Hx.out Hno.out Hp.out, trivial⟩
        case measure => simp [intOf]; omega
      · have Hp := Lib.hid hp
        go_wp2_with fail
        go_ret
        refine ⟨?_, Below.refl _ _⟩
        have h : Ent.has c key = true := by unfold Ent.has; rw [List.any_eq_true]; exact ⟨x, List.mem_of_getElem? Hx.out, Hp.out⟩
        rw [h]; rfl
    · have hlt' : ¬ (k : Int) < (c.length : Int) := by omega
      go_wp2_with fail
      go_ret
      refine ⟨?_, Below.refl _ _⟩
      have h := Hno.out
      rw [List.take_of_length_le (by omega)] at h
      rw [h]; rfl

end Go.Proofs.YtanbcokkfbidbaaGreatDoor
