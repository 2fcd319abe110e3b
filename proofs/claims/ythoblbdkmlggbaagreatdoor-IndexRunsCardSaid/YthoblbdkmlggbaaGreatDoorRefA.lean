/- The walks of the reference of layer 1: each function returns what the plain model of package count computes. -/
import Derived.Test.YthoblbdkmlggbaaGreatDoorKC
import Derived.Test.YthoblbdkmlggbaaGreatDoorCntT
import Derived.Deep.RegionHeld3
set_option linter.unusedSimpArgs false
set_option linter.unusedVariables false
namespace Go.Proofs.YthoblbdkmlggbaaGreatDoor
open Go.RowKit

set_option maxHeartbeats 400000 in
theorem ref01_cut (n : Int) (w : World) :
    Calls Tryz.prog 148 #[.int .i64 n] w fun e w' => e = .returned (.int .i64 (Cnt.cut n)) ∧ w = w' := by
  go_enter Tryz.func148, Tryz.ntmps148
  go_wp2
  all_goals
    go_ret
    exact ⟨ret_int (by unfold Cnt.cut; (repeat' split) <;> omega), rfl⟩

set_option maxRecDepth 100000 in
set_option maxHeartbeats 400000 in
theorem ref01_digits (f : Nat) : ∀ (n : Nat) (w : World), n < 10 ^ f → 0 < f → f ≤ 8 →
    Calls Tryz.prog 39 #[.int .i64 (n : Int)] w fun e w' => e = .returned (.string ⟨(Cnt.decF f n).toArray⟩) ∧ Below w.heap.size w w' := by
  induction f with
  | zero => intro n w _ h; omega
  | succ f ih =>
    intro n w hn _ hf
    have hn8 : n < 100000000 := Nat.lt_of_lt_of_le hn (Nat.pow_le_pow_right (by omega) hf (n := 10))
    have Hn := Lib.hid hn; have IH := Lib.hid ih; clear hn ih
    have h48 : IntKind.u8.wrap (48 + (n : Int) % 10) = 48 + (n : Int) % 10 := IntWalk.u8_in _ (by omega)
    have hcv := fun (W : World) (x : Int) => run_conv_one (P := Tryz.prog) 40 9 5 Tryz.underlying40 Tryz.underlying5 Tryz.underlying9 W x
    have hu : UInt8.ofNat (48 + (n : Int) % 10).toNat = UInt8.ofNat (48 + n % 10) := by congr 1
    have hd : Cnt.decF (f + 1) n = if n < 10 then [UInt8.ofNat (48 + n)] else Cnt.decF f (n / 10) ++ [UInt8.ofNat (48 + n % 10)] := rfl
    have Hd := Lib.hid hd; have Hu := Lib.hid hu; clear hd hu
    by_cases h10 : n < 10
    · go_enter Tryz.func39, Tryz.ntmps39
      go_wp2_with fail
      go_ret
      refine ⟨ret_str ?_, (Below.refl _ _).alloc (Nat.le_refl _) _⟩
      rw [Hd.out, if_pos h10, Nat.mod_eq_of_lt h10]
    · have hdl := Cnt.decF_length f (n / 10)
      have h10' : (10 : Int) ≤ (n : Int) := by omega
      go_enter Tryz.func39, Tryz.ntmps39
      go_wp2_with (go_at_call 39; refine (IH.out (n / 10) _ (by have := Hn.out; rw [Nat.pow_succ] at this; omega) (by
        rcases Nat.eq_zero_or_pos f with h0 | h0
        · subst h0; have := Hn.out; simp at this; omega
        · exact h0) (by omega)).mono ?_; rintro e w2 ⟨rfl, b2⟩)
      go_ret
      refine ⟨?_, ?_⟩
      · rw [Hd.out, if_neg h10]
        refine congrArg (fun x => Ending.returned (Value.string x)) ((append_data _ [48 + UInt8.ofNat (n % 10)]).trans ?_)
        rw [show UInt8.ofNat (48 + n % 10) = 48 + UInt8.ofNat (n % 10) by rw [UInt8.ofNat_add]; rfl]
      · exact bseq ((Below.refl _ _).alloc (Nat.le_refl _) _) b2

theorem lettered_len : ∀ n : Nat, (Cnt.lettered n).length ≤ n := by
  have h : ∀ f n : Nat, (Cnt.letGo f n).length ≤ f := by
    intro f
    induction f with
    | zero => intro n; simp [Cnt.letGo]
    | succ f ih => intro n; rw [Cnt.letGo]; split <;> simp [ih]
  exact fun n => h n n

set_option maxRecDepth 100000 in
set_option maxHeartbeats 400000 in
theorem ref01_letters (f : Nat) : ∀ (n : Nat) (w : World), 0 < n → n ≤ 26 ^ f → f ≤ 5 →
    Calls Tryz.prog 150 #[.int .i64 (n : Int)] w fun e w' => e = .returned (.string ⟨(Cnt.lettered n).toArray⟩) ∧ Below w.heap.size w w' := by
  induction f with
  | zero =>
    intro n w h0 h _
    have h1 : n = 1 := by simp at h; omega
    subst h1
    have hcv := fun (W : World) (x : Int) => run_conv_one (P := Tryz.prog) 40 9 5 Tryz.underlying40 Tryz.underlying5 Tryz.underlying9 W x
    have hl : Cnt.lettered 1 = [97] := by decide
    go_enter Tryz.func150, Tryz.ntmps150
    go_wp2_with fail
    go_ret
    exact ⟨ret_str hl.symm, (Below.refl _ _).alloc (Nat.le_refl _) _⟩
  | succ f ih =>
    intro n w h0 hn hf
    have hn8 : n ≤ 11881376 := Nat.le_trans hn (Nat.pow_le_pow_right (by omega) hf (n := 26))
    have Hn := Lib.hid hn; have IH := Lib.hid ih; clear hn ih
    have hi64 : IntKind.i64.wrap ((n : Int) - 1) = (n : Int) - 1 := IntWalk.i64_in _ (by omega)
    have hmod : Int.tmod ((n : Int) - 1) 26 = (((n - 1) % 26 : Nat) : Int) := by
      rw [show ((n : Int) - 1) = ((n - 1 : Nat) : Int) by omega]; rfl
    have hdiv : Int.tdiv ((n : Int) - 1) 26 = (((n - 1) / 26 : Nat) : Int) := by
      rw [show ((n : Int) - 1) = ((n - 1 : Nat) : Int) by omega]; rfl
    have hcv := fun (W : World) (x : Int) => run_conv_one (P := Tryz.prog) 40 9 5 Tryz.underlying40 Tryz.underlying5 Tryz.underlying9 W x
    have hd := Cnt.lettered_pos n h0
    have Hd := Lib.hid hd; clear hd
    by_cases h26 : n ≤ 26
    · have h26' : (n : Int) ≤ 26 := by omega
      go_enter Tryz.func150, Tryz.ntmps150
      go_wp2_with fail
      go_ret
      refine ⟨?_, (Below.refl _ _).alloc (Nat.le_refl _) _⟩
      rw [Hd.out, show (n - 1) / 26 = 0 by omega, Cnt.lettered_zero]
      simp [UInt8.ofNat_add]
    · have h26' : (26 : Int) < (n : Int) := by omega
      have hdl := lettered_len ((n - 1) / 26)
      have hdl2 : (Cnt.lettered ((n - 1) / 26)).length ≤ 11881376 := by omega
      clear hdl
      go_enter Tryz.func150, Tryz.ntmps150
      go_wp2_with (go_at_call 150; refine (IH.out ((n - 1) / 26) _ (by omega) (by have := Hn.out; rw [Nat.pow_succ] at this; omega) (by omega)).mono ?_; rintro e w2 ⟨rfl, b2⟩)
      go_ret
      refine ⟨?_, bseq ((Below.refl _ _).alloc (Nat.le_refl _) _) b2⟩
      rw [Hd.out]
      refine congrArg (fun x => Ending.returned (Value.string x)) ((append_data _ [97 + UInt8.ofNat ((n - 1) % 26)]).trans ?_)
      rw [show UInt8.ofNat (97 + (n - 1) % 26) = 97 + UInt8.ofNat ((n - 1) % 26) by rw [UInt8.ofNat_add]; rfl]
end Go.Proofs.YthoblbdkmlggbaaGreatDoor
