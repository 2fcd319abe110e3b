/- The walks of what holds two answers together: notes, words, files. -/
import Derived.Test.YthoblbdkmlggbaaGreatDoorIxL
import Derived.BigQuiet
set_option linter.unusedSimpArgs false
set_option linter.unusedVariables false
namespace Go.Proofs.YthoblbdkmlggbaaGreatDoor
open Go.RowKit
def RFile (x : List UInt8 × List UInt8) (vs : List Value) : Prop := vs = [.string ⟨x.1.toArray⟩, .string ⟨x.2.toArray⟩]
theorem RFile.size (x : List UInt8 × List UInt8) (vs : List Value) (h : RFile x vs) : vs.length = 2 := by rw [h]; rfl
set_option maxRecDepth 100000 in
set_option maxHeartbeats 1600000 in
theorem ref08_notes (A B : List (Int × List UInt8)) (va vb : Value) (S S' : Nat → Prop) (w : World) (hA : SliceIn S 2 RNote w va A) (hB : SliceIn S' 2 RNote w vb B) :
    Calls Tryz.prog 16 #[va, vb] w fun e w' => e = .returned (.bool (decide (A = B))) ∧ Below w.heap.size w w' := by
  obtain ⟨p, cap, rfl, hle, hm, hat⟩ := hA
  obtain ⟨p2, cap2, rfl, hle2, hm2, hat2⟩ := hB
  have hAm : A.length ≤ 9223372036854775807 := by unfold maxLen at hm; omega
  have hBm : B.length ≤ 9223372036854775807 := by unfold maxLen at hm2; omega
  have Hat := Lib.hid hat; have Hat2 := Lib.hid hat2; clear hat hm hle hat2 hm2 hle2
  by_cases hl : A.length = B.length
  · have hl' : ((A.length : Int) != (B.length : Int)) = false := by simp [hl]
    have hlI : (A.length : Int) = (B.length : Int) := by omega
    have Hl := Lib.hid hl; clear hl hlI
    go_enter Tryz.func16, Tryz.ntmps16
    go_wp2_with fail
    go_loopw [5] (fun i wr => ∃ k : Nat, k ≤ A.length ∧ i = .int .i64 (k : Int) ∧ A.take k = B.take k ∧ Below w.heap.size w wr) (fun i _ => A.length - (intOf i).toNat)
    case atStart => exact ⟨0, Nat.zero_le _, rfl, rfl, Below.refl _ _⟩
    case round =>
      obtain ⟨k, hk, rfl, ht, hb⟩ := hrel
      have Ht := Lib.hid ht; have Hb := Lib.hid hb; clear ht hb
      by_cases hlt : k < A.length
      · obtain ⟨x, hx⟩ : ∃ x, A[k]? = some x := ⟨_, List.getElem?_eq_getElem hlt⟩
        have hlt2 : k < B.length := by have := Hl.out; omega
        obtain ⟨y, hy⟩ : ∃ y, B[k]? = some y := ⟨_, List.getElem?_eq_getElem hlt2⟩
        obtain ⟨b, off, vs, rfl, _, hbw, hR, hc⟩ := Hat.out k x hx
        obtain ⟨b2, off2, vs2, rfl, _, hbw2, hR2, hc2⟩ := Hat2.out k y hy
        subst hR
        subst hR2
        have e0 : wr.cell? ⟨b, off + k * 2, none⟩ = some (.int .i64 x.1) := (Hb.out.cell (p := ⟨b, off + k * 2, none⟩) hbw).trans (hc 0 _ rfl)
        have e1 : wr.cell? ⟨b, off + k * 2 + 1, none⟩ = some (.string ⟨x.2.toArray⟩) := (Hb.out.cell (p := ⟨b, off + k * 2 + 1, none⟩) hbw).trans (hc 1 _ rfl)
        have e2 : wr.cell? ⟨b2, off2 + k * 2, none⟩ = some (.int .i64 y.1) := (Hb.out.cell (p := ⟨b2, off2 + k * 2, none⟩) hbw2).trans (hc2 0 _ rfl)
        have e3 : wr.cell? ⟨b2, off2 + k * 2 + 1, none⟩ = some (.string ⟨y.2.toArray⟩) := (Hb.out.cell (p := ⟨b2, off2 + k * 2 + 1, none⟩) hbw2).trans (hc2 1 _ rfl)
        have hlt' : (k : Int) < (A.length : Int) := by omega
        have hlt2' : (k : Int) < (B.length : Int) := by omega
        have hkl : (k : Int) + 1 ≤ 9223372036854775807 := by omega
        have Hx := Lib.hid hx; have Hy := Lib.hid hy
        clear hc hc2 hx hy
        obtain ⟨xe, xs⟩ := x
        obtain ⟨ye, ys⟩ := y
        dsimp only at e0 e1 e2 e3
        cases hs : (xs == ys)
        · have hne : A ≠ B := fun h => by
            have h1 := Hx.out; rw [h, Hy.out] at h1; injection h1 with h1; injection h1 with _ h1; rw [h1] at hs; simp at hs
          have Hne := Lib.hid hne; clear hne
          cases he : (xe == ye)
          · go_wp2_with fail
            go_quiet (fail)
            go_wp2_with fail
            go_ret
            exact ⟨ret_bool (by simp [Hne.out]), below_drewN Hb.out _⟩
          · obtain rfl := eq_of_beq he
            go_wp2_with fail
            go_quiet (fail)
            go_wp2_with fail
            go_ret
            exact ⟨ret_bool (by simp [Hne.out]), below_drewN Hb.out _⟩
        · obtain rfl := eq_of_beq hs
          clear hs
          cases he : (xe == ye)
          · have hne : A ≠ B := fun h => by
              have h1 := Hx.out; rw [h, Hy.out] at h1; injection h1 with h1; injection h1 with h1 _; rw [h1] at he; simp at he
            have Hne := Lib.hid hne; clear hne
            go_wp2_with fail
            go_quiet (fail)
            go_wp2_with fail
            go_ret
            exact ⟨ret_bool (by simp [Hne.out]), below_drewN Hb.out _⟩
          · obtain rfl := eq_of_beq he
            clear he
            have ht2 : A.take (k + 1) = B.take (k + 1) := by rw [List.take_add_one, List.take_add_one, Ht.out, Hx.out, Hy.out]
            have Ht2 := Lib.hid ht2; clear ht2
            go_wp2_with fail
            go_quiet (fail)
            go_wp2_with fail
            go_roundw
            case rel => exact ⟨k + 1, by omega, by go_num, Ht2.out, below_drewN Hb.out _⟩
            case measure => simp [intOf]; omega
      · go_wp2_with fail
        go_ret
        refine ⟨ret_bool ?_, Hb.out⟩
        have h := Ht.out
        rw [List.take_of_length_le (by omega), List.take_of_length_le (by have := Hl.out; omega)] at h
        simp [h]
  · have hl' : ((A.length : Int) != (B.length : Int)) = true := by simp; omega
    have hne : decide (A = B) = false := by simp; intro h; rw [h] at hl; exact hl rfl
    have Hne := Lib.hid hne; clear hne
    go_enter Tryz.func16, Tryz.ntmps16
    go_wp2_with fail
    go_ret
    exact ⟨ret_bool Hne.out.symm, Below.refl _ _⟩
theorem take_snoc_eq {α : Type} {a b : List α} {k : Nat} {x : α} (h : a.take k = b.take k) (ha : a[k]? = some x) (hb : b[k]? = some x) : a.take (k + 1) = b.take (k + 1) := by
  rw [List.take_add_one, List.take_add_one, h, ha, hb]
set_option maxRecDepth 100000 in
set_option maxHeartbeats 1600000 in
theorem ref02_words (a b : List (List UInt8)) (va vb : Value) (S S' : Nat → Prop) (w : World) (hA : SliceIn S 1 RStr w va a) (hB : SliceIn S' 1 RStr w vb b) :
    Calls Tryz.prog 15 #[va, vb] w fun e w' => e = .returned (.bool (decide (a = b))) ∧ Below w.heap.size w w' := by
  have hla := hA.bound; have hlb := hB.bound
  obtain ⟨pa, ca, rfl, _, _, hata⟩ := hA
  obtain ⟨pb, cb, rfl, _, _, hatb⟩ := hB
  have HA := Lib.hid hata; have HB := Lib.hid hatb
  clear hata hatb
  go_enter Tryz.func15, Tryz.ntmps15
  by_cases hl : a.length = b.length
  · have hl' : ((a.length : Int) != (b.length : Int)) = false := by simp [hl]
    have Hl := Lib.hid hl
    clear hl
    go_wp2_with fail
    clear hl'
    go_loopw [5] (fun iv wr => ∃ k : Nat, k ≤ a.length ∧ iv = .int .i64 (k : Int) ∧ a.take k = b.take k ∧ Below w.heap.size w wr) (fun iv _ => a.length - (intOf iv).toNat)
    case atStart => exact ⟨0, Nat.zero_le _, rfl, rfl, Below.refl _ _⟩
    case round =>
      obtain ⟨k, hk, rfl, ht, hb⟩ := hrel
      have Ht := Lib.hid ht; have Hb := Lib.hid hb
      clear ht hb
      by_cases hlt : k < a.length
      · obtain ⟨x, hx⟩ : ∃ x, a[k]? = some x := ⟨_, List.getElem?_eq_getElem hlt⟩
        obtain ⟨y, hy⟩ : ∃ y, b[k]? = some y := ⟨_, List.getElem?_eq_getElem (by have := Hl.out; omega)⟩
        obtain ⟨b1, o1, vs1, rfl, _, hw1, hR1, hc1⟩ := HA.out k x hx
        obtain ⟨b2, o2, vs2, rfl, _, hw2, hR2, hc2⟩ := HB.out k y hy
        have hR1 : vs1 = _ := hR1
        have hR2 : vs2 = _ := hR2
        subst hR1 hR2
        have e1 : wr.cell? ⟨b1, o1 + k, none⟩ = some (.string ⟨x.toArray⟩) := by
          have := (Hb.out.cell (p := ⟨b1, o1 + (k * 1 + 0), none⟩) hw1).trans (hc1 0 _ rfl)
          rwa [Nat.mul_one, Nat.add_zero] at this
        have e2 : wr.cell? ⟨b2, o2 + k, none⟩ = some (.string ⟨y.toArray⟩) := by
          have := (Hb.out.cell (p := ⟨b2, o2 + (k * 1 + 0), none⟩) hw2).trans (hc2 0 _ rfl)
          rwa [Nat.mul_one, Nat.add_zero] at this
        have hlt' : (k : Int) < (a.length : Int) := by omega
        have hltb : (k : Int) < (b.length : Int) := by have := Hl.out; omega
        have hkl : (k : Int) + 1 ≤ 9223372036854775807 := by omega
        have Hx := Lib.hid hx; have Hy := Lib.hid hy; have Hkl := Lib.hid hkl; have Hlt := Lib.hid hlt
        clear hc1 hc2 hx hy hkl
        cases hs : (x == y)
        · have Hne := Lib.hid (show decide (a = b) = false from decide_eq_false (fun h => by
            rw [h, Hy.out] at Hx
            have := Option.some.inj Hx.out
            rw [this] at hs; simp at hs))
          go_upto_region 6 with fail
          go_quiet (fail)
          go_wp2_with fail
          go_ret
          exact ⟨ret_bool Hne.out.symm, below_drewN Hb.out _⟩
        · obtain rfl := eq_of_beq hs
          clear hs
          have Ht2 := Lib.hid (take_snoc_eq Ht.out Hx.out Hy.out)
          go_upto_region 6 with fail
          go_quiet (fail)
          have hkl := Hkl.out
          clear e1 e2 hltb
          go_wp2_with fail
          go_roundw
          case rel => exact ⟨k + 1, by omega, by go_num, Ht2.out, below_drewN Hb.out _⟩
          case measure => simp [intOf]; omega
      · have hlt' : ¬ (k : Int) < (a.length : Int) := by omega
        have Heq := Lib.hid (show decide (a = b) = true from decide_eq_true (by
          have h := Ht.out
          rwa [List.take_of_length_le (by omega), List.take_of_length_le (by have := Hl.out; omega)] at h))
        go_wp2_with fail
        go_ret
        exact ⟨ret_bool Heq.out.symm, Hb.out⟩
  · have hl' : ((a.length : Int) != (b.length : Int)) = true := by simp; omega
    have Hne := Lib.hid (show decide (a = b) = false from decide_eq_false (fun h => hl (by rw [h])))
    clear hl
    go_wp2_with fail
    go_ret
    exact ⟨ret_bool Hne.out.symm, Below.refl _ _⟩
set_option maxRecDepth 100000 in
set_option maxHeartbeats 1600000 in
theorem law14_equal (A B : List (List UInt8 × List UInt8)) (va vb : Value) (S S' : Nat → Prop) (w : World) (hA : SliceIn S 2 RFile w va A) (hB : SliceIn S' 2 RFile w vb B) :
    Calls Tryz.prog 24 #[va, vb] w fun e w' => e = .returned (.bool (decide (A = B))) ∧ Below w.heap.size w w' := by
  obtain ⟨p, cap, rfl, hle, hm, hat⟩ := hA
  obtain ⟨p2, cap2, rfl, hle2, hm2, hat2⟩ := hB
  have hAm : A.length ≤ 9223372036854775807 := by unfold maxLen at hm; omega
  have hBm : B.length ≤ 9223372036854775807 := by unfold maxLen at hm2; omega
  have Hat := Lib.hid hat; have Hat2 := Lib.hid hat2; clear hat hm hle hat2 hm2 hle2
  by_cases hl : A.length = B.length
  · have hl' : ((A.length : Int) != (B.length : Int)) = false := by simp [hl]
    have hlI : (A.length : Int) = (B.length : Int) := by omega
    have Hl := Lib.hid hl; clear hl hlI
    go_enter Tryz.func24, Tryz.ntmps24
    go_wp2_with fail
    go_loopw [5] (fun i wr => ∃ k : Nat, k ≤ A.length ∧ i = .int .i64 (k : Int) ∧ A.take k = B.take k ∧ Below w.heap.size w wr) (fun i _ => A.length - (intOf i).toNat)
    case atStart => exact ⟨0, Nat.zero_le _, rfl, rfl, Below.refl _ _⟩
    case round =>
      obtain ⟨k, hk, rfl, ht, hb⟩ := hrel
      have Ht := Lib.hid ht; have Hb := Lib.hid hb; clear ht hb
      by_cases hlt : k < A.length
      · obtain ⟨x, hx⟩ : ∃ x, A[k]? = some x := ⟨_, List.getElem?_eq_getElem hlt⟩
        have hlt2 : k < B.length := by have := Hl.out; omega
        obtain ⟨y, hy⟩ : ∃ y, B[k]? = some y := ⟨_, List.getElem?_eq_getElem hlt2⟩
        obtain ⟨b, off, vs, rfl, _, hbw, hR, hc⟩ := Hat.out k x hx
        obtain ⟨b2, off2, vs2, rfl, _, hbw2, hR2, hc2⟩ := Hat2.out k y hy
        subst hR
        subst hR2
        have e0 : wr.cell? ⟨b, off + k * 2, none⟩ = some (.string ⟨x.1.toArray⟩) := (Hb.out.cell (p := ⟨b, off + k * 2, none⟩) hbw).trans (hc 0 _ rfl)
        have e1 : wr.cell? ⟨b, off + k * 2 + 1, none⟩ = some (.string ⟨x.2.toArray⟩) := (Hb.out.cell (p := ⟨b, off + k * 2 + 1, none⟩) hbw).trans (hc 1 _ rfl)
        have e2 : wr.cell? ⟨b2, off2 + k * 2, none⟩ = some (.string ⟨y.1.toArray⟩) := (Hb.out.cell (p := ⟨b2, off2 + k * 2, none⟩) hbw2).trans (hc2 0 _ rfl)
        have e3 : wr.cell? ⟨b2, off2 + k * 2 + 1, none⟩ = some (.string ⟨y.2.toArray⟩) := (Hb.out.cell (p := ⟨b2, off2 + k * 2 + 1, none⟩) hbw2).trans (hc2 1 _ rfl)
        have hlt' : (k : Int) < (A.length : Int) := by omega
        have hlt2' : (k : Int) < (B.length : Int) := by omega
        have hkl : (k : Int) + 1 ≤ 9223372036854775807 := by omega
        have Hx := Lib.hid hx; have Hy := Lib.hid hy
        clear hc hc2 hx hy
        obtain ⟨xe, xs⟩ := x
        obtain ⟨ye, ys⟩ := y
        dsimp only at e0 e1 e2 e3
        cases hs : (xs == ys)
        · have hne : A ≠ B := fun h => by
            have h1 := Hx.out; rw [h, Hy.out] at h1; injection h1 with h1; injection h1 with _ h1; rw [h1] at hs; simp at hs
          have Hne := Lib.hid hne; clear hne
          cases he : (xe == ye)
          · go_wp2_with fail
            go_quiet (fail)
            go_wp2_with fail
            go_ret
            exact ⟨ret_bool (by simp [Hne.out]), below_drewN Hb.out _⟩
          · obtain rfl := eq_of_beq he
            go_wp2_with fail
            go_quiet (fail)
            go_wp2_with fail
            go_ret
            exact ⟨ret_bool (by simp [Hne.out]), below_drewN Hb.out _⟩
        · obtain rfl := eq_of_beq hs
          clear hs
          cases he : (xe == ye)
          · have hne : A ≠ B := fun h => by
              have h1 := Hx.out; rw [h, Hy.out] at h1; injection h1 with h1; injection h1 with h1 _; rw [h1] at he; simp at he
            have Hne := Lib.hid hne; clear hne
            go_wp2_with fail
            go_quiet (fail)
            go_wp2_with fail
            go_ret
            exact ⟨ret_bool (by simp [Hne.out]), below_drewN Hb.out _⟩
          · obtain rfl := eq_of_beq he
            clear he
            have ht2 : A.take (k + 1) = B.take (k + 1) := by rw [List.take_add_one, List.take_add_one, Ht.out, Hx.out, Hy.out]
            have Ht2 := Lib.hid ht2; clear ht2
            go_wp2_with fail
            go_quiet (fail)
            go_wp2_with fail
            go_roundw
            case rel => exact ⟨k + 1, by omega, by go_num, Ht2.out, below_drewN Hb.out _⟩
            case measure => simp [intOf]; omega
      · go_wp2_with fail
        go_ret
        refine ⟨ret_bool ?_, Hb.out⟩
        have h := Ht.out
        rw [List.take_of_length_le (by omega), List.take_of_length_le (by have := Hl.out; omega)] at h
        simp [h]
  · have hl' : ((A.length : Int) != (B.length : Int)) = true := by simp; omega
    have hne : decide (A = B) = false := by simp; intro h; rw [h] at hl; exact hl rfl
    have Hne := Lib.hid hne; clear hne
    go_enter Tryz.func24, Tryz.ntmps24
    go_wp2_with fail
    go_ret
    exact ⟨ret_bool Hne.out.symm, Below.refl _ _⟩
end Go.Proofs.YthoblbdkmlggbaaGreatDoor
