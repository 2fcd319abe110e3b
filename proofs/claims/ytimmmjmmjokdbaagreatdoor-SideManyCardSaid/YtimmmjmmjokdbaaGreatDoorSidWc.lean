/- The walks of stetlaw10's own functions, first part: the same words. -/
import Derived.Test.YtimmmjmmjokdbaaGreatDoorSidWb
import Derived.BigQuiet
set_option linter.unusedSimpArgs false
set_option linter.unusedVariables false
namespace Go.Proofs.YtimmmjmmjokdbaaGreatDoor
open Go.RowKit
theorem below_drewN' {B : Nat} {a w : World} (h : Below B a w) (n : Nat) : Below B a (w.drewN n) := by
  first
    | exact below_drewN h n
    | (induction n with
       | zero => exact h
       | succ n ih => exact ih.drew)
theorem take_snoc_eq {α : Type} {a b : List α} {k : Nat} {x : α} (h : a.take k = b.take k) (ha : a[k]? = some x) (hb : b[k]? = some x) : a.take (k + 1) = b.take (k + 1) := by
  rw [List.take_add_one, List.take_add_one, h, ha, hb]
set_option maxRecDepth 100000 in
set_option maxHeartbeats 1600000 in
theorem ref02_words (a b : List (List UInt8)) (va vb : Value) (S S' : Nat → Prop) (w : World) (hA : SliceIn S 1 RStr w va a) (hB : SliceIn S' 1 RStr w vb b) :
    Calls Tryz.prog 38 #[va, vb] w fun e w' => e = .returned (.bool (decide (a = b))) ∧ Below w.heap.size w w' := by
  have hla := hA.bound; have hlb := hB.bound
  obtain ⟨pa, ca, rfl, _, _, hata⟩ := hA
  obtain ⟨pb, cb, rfl, _, _, hatb⟩ := hB
  have HA := Lib.hid hata; have HB := Lib.hid hatb
  clear hata hatb
  go_enter Tryz.func38, Tryz.ntmps38
  by_cases hl : a.length = b.length
  · have hl' : ((a.length : Int) != (b.length : Int)) = false := by simp [hl]
    have Hl := Lib.hid hl
    clear hl
    go_wp2_with fail
    clear hl'
    go_loopw [5] (fun iv wr => ∃ k : Nat, k ≤ a.length ∧ iv = .int .i64 (k : Int) ∧ a.take k = b.take k ∧ Below w.heap.size w wr) (fun iv _ => a.length - (intOf iv).toNat)
    case atStart => exact ⟨0, Nat.zero_le _, rfl, rfl, Below.refl _ _⟩
    case round =>
      obtain ⟨k, hk, rfl, ht, hb⟩ := hrel
      have Ht := Lib.hid ht; have Hb := Lib.hid hb
      clear ht hb
      by_cases hlt : k < a.length
      · obtain ⟨x, hx⟩ : ∃ x, a[k]? = some x := ⟨_, List.getElem?_eq_getElem hlt⟩
        obtain ⟨y, hy⟩ : ∃ y, b[k]? = some y := ⟨_, List.getElem?_eq_getElem (by have := Hl.out; omega)⟩
        obtain ⟨b1, o1, vs1, rfl, _, hw1, hR1, hc1⟩ := HA.out k x hx
        obtain ⟨b2, o2, vs2, rfl, _, hw2, hR2, hc2⟩ := HB.out k y hy
        have hR1 : vs1 = _ := hR1
        have hR2 : vs2 = _ := hR2
        subst hR1 hR2
        have e1 : wr.cell? ⟨b1, o1 + k, none⟩ = some (.string ⟨x.toArray⟩) := by
          have := (Hb.out.cell (p := ⟨b1, o1 + (k * 1 + 0), none⟩) hw1).trans (hc1 0 _ rfl)
          rwa [Nat.mul_one, Nat.add_zero] at this
        have e2 : wr.cell? ⟨b2, o2 + k, none⟩ = some (.string ⟨y.toArray⟩) := by
          have := (Hb.out.cell (p := ⟨b2, o2 + (k * 1 + 0), none⟩) hw2).trans (hc2 0 _ rfl)
          rwa [Nat.mul_one, Nat.add_zero] at this
        have hlt' : (k : Int) < (a.length : Int) := by omega
        have hltb : (k : Int) < (b.length : Int) := by have := Hl.out; omega
        have hkl : (k : Int) + 1 ≤ 9223372036854775807 := by omega
        have Hx := Lib.hid hx; have Hy := Lib.hid hy; have Hkl := Lib.hid hkl; have Hlt := Lib.hid hlt
        clear hc1 hc2 hx hy hkl
        cases hs : (x == y)
        · have Hne := Lib.hid (show decide (a = b) = false from decide_eq_false (fun h => by
            rw [h, Hy.out] at Hx
            have := Option.some.inj Hx.out
            rw [this] at hs; simp at hs))
          go_upto_region 6 with fail
          go_quiet (fail)
          go_wp2_with fail
          go_ret
          exact ⟨ret_bool Hne.out.symm, below_drewN' Hb.out _⟩
        · obtain rfl := eq_of_beq hs
          clear hs
          have Ht2 := Lib.hid (take_snoc_eq Ht.out Hx.out Hy.out)
          go_upto_region 6 with fail
          go_quiet (fail)
          have hkl := Hkl.out
          clear e1 e2 hltb
          go_wp2_with fail
          go_roundw
          case rel => exact ⟨k + 1, by omega, by go_num, Ht2.out, below_drewN' Hb.out _⟩
          case measure => simp [intOf]; omega
      · have hlt' : ¬ (k : Int) < (a.length : Int) := by omega
        have Heq := Lib.hid (show decide (a = b) = true from decide_eq_true (by
          have h := Ht.out
          rwa [List.take_of_length_le (by omega), List.take_of_length_le (by have := Hl.out; omega)] at h))
        go_wp2_with fail
        go_ret
        exact ⟨ret_bool Heq.out.symm, Hb.out⟩
  · have hl' : ((a.length : Int) != (b.length : Int)) = true := by simp; omega
    have Hne := Lib.hid (show decide (a = b) = false from decide_eq_false (fun h => hl (by rw [h])))
    clear hl
    go_wp2_with fail
    go_ret
    exact ⟨ret_bool Hne.out.symm, Below.refl _ _⟩
end Go.Proofs.YtimmmjmmjokdbaaGreatDoor
