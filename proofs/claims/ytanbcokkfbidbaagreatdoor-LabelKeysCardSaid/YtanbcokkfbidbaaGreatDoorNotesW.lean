/- The walk of stetref08.Notes. -/
import Derived.Test.YtanbcokkfbidbaaGreatDoorEntQ
namespace Go.Proofs.YtanbcokkfbidbaaGreatDoor
open Go.RowKit

set_option maxRecDepth 100000 in
set_option maxHeartbeats 1600000 in
theorem ref08_notes (A B : List (Int × List UInt8)) (va vb : Value) (S S' : Nat → Prop) (w : World) (hA : SliceIn S 2 RNote w va A) (hB : SliceIn S' 2 RNote w vb B) :
    Calls Tryz.prog 17 #[va, vb] w fun e w' => e = .returned (.bool (decide (A = B))) ∧ Below w.heap.size w w' := by
  obtain ⟨p, cap, rfl, hle, hm, hat⟩ := hA
  obtain ⟨p2, cap2, rfl, hle2, hm2, hat2⟩ := hB
  have hAm : A.length ≤ 9223372036854775807 := by unfold maxLen at hm; omega
  have hBm : B.length ≤ 9223372036854775807 := by unfold maxLen at hm2; omega
  have Hat := Lib.hid hat; have Hat2 := Lib.hid hat2; clear hat hm hle hat2 hm2 hle2
  by_cases hl : A.length = B.length
  · have hl' : ((A.length : Int) != (B.length : Int)) = false := by simp [hl]
    have hlI : (A.length : Int) = (B.length : Int) := by omega
    have Hl := Lib.hid hl; clear hl hlI
    go_enter Tryz.func17, Tryz.ntmps17
    go_wp2_with fail
    go_loopw [5] (fun i wr => ∃ k : Nat, k ≤ A.length ∧ i = .int .i64 (k : Int) ∧ A.take k = B.take k ∧ Below w.heap.size w wr) (fun i _ => A.length - (intOf i).toNat)
    case atStart => exact ⟨0, Nat.zero_le _, rfl, rfl, Below.refl _ _⟩
    case round =>
      obtain ⟨k, hk, rfl, ht, hb⟩ := hrel
      have Ht := Lib.hid ht; have Hb := Lib.hid hb; clear ht hb
      by_cases hlt : k < A.length
      · obtain ⟨x, hx⟩ : ∃ x, A[k]? = some x := ⟨_, List.getElem?_eq_getElem hlt⟩
        have hlt2 : k < B.length := by have := Hl.out; omega
        obtain ⟨y, hy⟩ : ∃ y, B[k]? = some y := ⟨_, List.getElem?_eq_getElem hlt2⟩
        obtain ⟨b, off, vs, rfl, _, hbw, hR, hc⟩ := Hat.out k x hx
        obtain ⟨b2, off2, vs2, rfl, _, hbw2, hR2, hc2⟩ := Hat2.out k y hy
        subst hR
        subst hR2
        have e0 : wr.cell? ⟨b, off + k * 2, none⟩ = some (.int .i64 x.1) := (Hb.out.cell (p := ⟨b, off + k * 2, none⟩) hbw).trans (hc 0 _ rfl)
        have e1 : wr.cell? ⟨b, off + k * 2 + 1, none⟩ = some (.string ⟨x.2.toArray⟩) := (Hb.out.cell (p := ⟨b, off + k * 2 + 1, none⟩) hbw).trans (hc 1 _ rfl)
        have e2 : wr.cell? ⟨b2, off2 + k * 2, none⟩ = some (.int .i64 y.1) := (Hb.out.cell (p := ⟨b2, off2 + k * 2, none⟩) hbw2).trans (hc2 0 _ rfl)
        have e3 : wr.cell? ⟨b2, off2 + k * 2 + 1, none⟩ = some (.string ⟨y.2.toArray⟩) := (Hb.out.cell (p := ⟨b2, off2 + k * 2 + 1, none⟩) hbw2).trans (hc2 1 _ rfl)
        have hlt' : (k : Int) < (A.length : Int) := by omega
        have hlt2' : (k : Int) < (B.length : Int) := by omega
        have hkl : (k : Int) + 1 ≤ 9223372036854775807 := by omega
        have Hx := Lib.hid hx; have Hy := Lib.hid hy
        clear hc hc2 hx hy
        obtain ⟨xe, xs⟩ := x
        obtain ⟨ye, ys⟩ := y
        dsimp only at e0 e1 e2 e3
        cases hs : (xs == ys)
        · have hne : A ≠ B := fun h => by
            have h1 := Hx.out; rw [h, Hy.out] at h1; injection h1 with h1; injection h1 with _ h1; rw [h1] at hs; simp at hs
          have Hne := Lib.hid hne; clear hne
          cases he : (xe == ye)
          · go_wp2_with fail
            go_quiet (fail)
            go_wp2_with fail
            go_ret
            exact ⟨ret_bool (by simp [Hne.out]), below_drewN Hb.out _⟩
          · obtain rfl := eq_of_beq he
            go_wp2_with fail
            go_quiet (fail)
            go_wp2_with fail
            go_ret
            exact ⟨ret_bool (by simp [Hne.out]), below_drewN Hb.out _⟩
        · obtain rfl := eq_of_beq hs
          clear hs
          cases he : (xe == ye)
          · have hne : A ≠ B := fun h => by
              have h1 := Hx.out; rw [h, Hy.out] at h1; injection h1 with h1; injection h1 with h1 _; rw [h1] at he; simp at he
            have Hne := Lib.hid hne; clear hne
            go_wp2_with fail
            go_quiet (fail)
            go_wp2_with fail
            go_ret
            exact ⟨ret_bool (by simp [Hne.out]), below_drewN Hb.out _⟩
          · obtain rfl := eq_of_beq he
            clear he
            have ht2 : A.take (k + 1) = B.take (k + 1) := by rw [List.take_add_one, List.take_add_one, Ht.out, Hx.out, Hy.out]
            have Ht2 := Lib.hid ht2; clear ht2
            go_wp2_with fail
            go_quiet (fail)
            go_wp2_with fail
            go_roundw
            case rel => exact ⟨k + 1, by omega, by go_num, Ht2.out, below_drewN Hb.out _⟩
            case measure => simp [intOf]; omega
      · go_wp2_with fail
        go_ret
        refine ⟨ret_bool ?_, Hb.out⟩
        have h := Ht.out
        rw [List.take_of_length_le (by omega), List.take_of_length_le (by have := Hl.out; omega)] at h
        simp [h]
  · have hl' : ((A.length : Int) != (B.length : Int)) = true := by simp; omega
    have hne : decide (A = B) = false := by simp; intro h; rw [h] at hl; exact hl rfl
    have Hne := Lib.hid hne; clear hne
    go_enter Tryz.func17, Tryz.ntmps17
    go_wp2_with fail
    go_ret
    exact ⟨ret_bool Hne.out.symm, Below.refl _ _⟩
end Go.Proofs.YtanbcokkfbidbaaGreatDoor
