/- The walks of package entry's reader: texts in braces. -/
import Derived.Test.YtddgdfcgjjdlcaaDoorParW5
namespace Go.Proofs.YtddgdfcgjjdlcaaDoor
open Go.RowKit

theorem brace_step (d : Nat) (acc : List UInt8) (x : UInt8) (r : List UInt8) (d2 : Nat) (h : (if x == 123 then d + 1 else if x == 125 then d - 1 else d) = d2) :
    Ent.brace d acc (x :: r) = if d2 == 0 then (some acc, r) else Ent.brace d2 (acc ++ [x]) r := by
  rw [Ent.brace, h]

set_option maxRecDepth 100000 in
set_option maxHeartbeats 1600000 in
theorem reader_braced (s : List UInt8) (r : Nat) (l : List UInt8) (w : World) (hs : s.length ≤ 1000000000) (hA : At s r w l) :
    Calls Tryd.prog 51 #[.pointer (some ⟨r, 0, none⟩)] w fun e w' => said (Ent.braced l) e ∧ At s r w' (Ent.braced l).2 ∧ Moved r w w' := by
  obtain ⟨o, ho⟩ : ∃ o, Ent.braced l = o := ⟨_, rfl⟩
  rw [ho]
  unfold Ent.braced at ho
  have e0 := hA.text
  have f1 := hA.free
  obtain ⟨k0, hk0, hd0, e1⟩ := hA.place
  have HA := Lib.hid hA; have Ho := Lib.hid ho.symm; have Hd0 := Lib.hid hd0; clear hA ho hd0
  go_enter Tryd.func51, Tryd.ntmps51
  go_wp2_with fail
  go_loop [3, 4] (fun dv iv => ∃ (d : Nat) (acc l2 : List UInt8), l = acc ++ l2 ∧ d ≤ acc.length + 1 ∧ d ≠ 0 ∧ o = Ent.brace d acc l2 ∧ dv = .int .i64 (d : Int) ∧ iv = .int .i64 ((k0 + acc.length : Nat) : Int)) (fun _ iv => s.length - (intOf iv).toNat)
  case atStart => exact ⟨1, [], l, rfl, by simp, by simp, Ho.out, rfl, by simp⟩
  case round =>
    clear Ho
    obtain ⟨d, acc, l2, hl, hda, hd1, ho, rfl, rfl⟩ := hrel
    have hsl : s.length = k0 + acc.length + l2.length := by
      have h := congrArg List.length Hd0.out
      rw [hl] at h
      simp at h; omega
    obtain ⟨k, hk⟩ : ∃ k, k = k0 + acc.length := ⟨_, rfl⟩
    rw [← hk] at hsl ⊢
    have hdr : s.drop k = l2 := by rw [hk, ← List.drop_drop, Hd0.out, hl, List.drop_left]
    have hacc : (⟨s.toArray⟩ : ByteArray).extract k0 k = ⟨acc.toArray⟩ := by rw [extract_any, Hd0.out, hl, hk, Nat.add_sub_cancel_left, List.take_left]
    have hda' : d ≤ 1000000001 := by omega
    have hk9 : k0 ≤ k := by omega
    have Hl := Lib.hid hl; have Hda := Lib.hid hda; have HO := Lib.hid ho; have Hk := Lib.hid hk
    clear hl hda ho hk
    cases hl2 : l2 with
    | nil =>
      have g1 : (k : Int) = (s.length : Int) := by rw [hsl, hl2]; simp
      have h9 : o = (none, []) := by rw [HO.out, hl2]; rfl
      have H9 := Lib.hid h9; clear h9 hl2 hsl hdr hda' hacc hk9
      go_wp2_with (go_at_call 53; refine (reader_end _ _ _ _ HA.out).mono ?_; rintro e w3 ⟨rfl, hA3, hM3⟩)
      refine ⟨rfl, ?_⟩
      rw [H9.out]
      exact ⟨rfl, hA3, hM3⟩
    | cons x l3 =>
      obtain ⟨hx, hlt, hd2⟩ := drop_cons (hdr.trans hl2)
      have hb := byte_at s k x hx
      have g1 : (k : Int) < (s.length : Int) := by omega
      have g3 : (k0 : Int) ≤ (k : Int) := by omega
      have hkl : (k : Int) + 1 ≤ 9223372036854775807 := by omega
      have hO2 := fun d2 h => brace_step d acc x l3 d2 h
      rw [hl2] at HO
      have HO2 := Lib.hid hO2; have Hd2 := Lib.hid hd2; have Hl2 := Lib.hid hl2; have Hacc := Lib.hid hacc; have Hsl := Lib.hid hsl
      clear hO2 hd2 hl2 hdr hx hacc hsl
      cases h1 : (x == 123)
      · cases h2 : (x == 125)
        · have q1 : ((x.toNat : Int) == 123) = false := by
            have : x.toNat ≠ 123 := fun e => by rw [show x = 123 from UInt8.toNat_inj.1 e] at h1; simp at h1
            simp; omega
          have q2 : ((x.toNat : Int) == 125) = false := by
            have : x.toNat ≠ 125 := fun e => by rw [show x = 125 from UInt8.toNat_inj.1 e] at h2; simp at h2
            simp; omega
          have q3 : ((d : Int) == 0) = false := by simp; omega
          have H1 := Lib.hid h1; have H2 := Lib.hid h2; clear h1 h2
          go_wp2_with fail
          go_round
          case rel =>
            have h := HO2.out d (by rw [H1.out, H2.out]; rfl)
            rw [if_neg (by simpa using hd1)] at h
            exact ⟨d, acc ++ [x], l3, by rw [Hl.out, Hl2.out]; simp, by have := Hda.out; simp; omega, hd1, HO.out.trans h, by go_num, by simp; rw [Hk.out]; omega⟩
          case measure => simp [intOf]; omega
        · have hx5 : x.toNat = 125 := by rw [eq_of_beq h2]; rfl
          have q1 : ((x.toNat : Int) == 123) = false := by rw [hx5]; rfl
          have q2 : ((x.toNat : Int) == 125) = true := by rw [hx5]; rfl
          have H1 := Lib.hid h1; have H2 := Lib.hid h2; have Hx5 := Lib.hid hx5; clear h1 h2 hx5
          obtain ⟨d2, hd3⟩ : ∃ d2, d = d2 + 1 := ⟨d - 1, by omega⟩
          have hw : IntKind.i64.wrap ((d : Int) - 1) = (d2 : Int) := by rw [hd3]; rw [IntWalk.i64_in _ (by omega)]; omega
          have hw2 : (d : Int) - 1 = (d2 : Int) := by omega
          have Hd3 := Lib.hid hd3; clear hd3
          have h := HO2.out d2 (by rw [H1.out, H2.out, Hd3.out]; rfl)
          by_cases hz : d2 = 0
          · have q3 : ((d2 : Int) == 0) = true := by rw [hz]; rfl
            rw [if_pos (by rw [hz]; rfl)] at h
            have h9 := Lib.hid (HO.out.trans h); clear h
            have Hz := Lib.hid hz; clear hz
            go_wp2_with fail
            go_quiet (fail)
            go_wp2_with fail
            go_ret
            rw [h9.out]
            refine ⟨congrArg (fun z => Ending.returned (.string z)) Hacc.out, ?_, ((Moved.refl r w).drewN _).set _⟩
            rw [← Hd2.out]
            exact (HA.out.drewN _).set (by omega) _ (by omega)
          · have q3 : ((d2 : Int) == 0) = false := by simp; omega
            rw [if_neg (by simpa using hz)] at h
            have h9 := Lib.hid (HO.out.trans h); clear h
            go_wp2_with fail
            go_round
            case rel => exact ⟨d2, acc ++ [x], l3, by rw [Hl.out, Hl2.out]; simp, by have := Hda.out; have := Hd3.out; simp; omega, hz, h9.out, by go_num, by simp; rw [Hk.out]; omega⟩
            case measure => simp [intOf]; omega
      · have hx5 : x.toNat = 123 := by rw [eq_of_beq h1]; rfl
        have q1 : ((x.toNat : Int) == 123) = true := by rw [hx5]; rfl
        have H1 := Lib.hid h1; have Hx5 := Lib.hid hx5; clear h1 hx5
        have q3 : (((d : Int) + 1) == 0) = false := by simp; omega
        go_wp2_with fail
        go_round
        case rel =>
          have h := HO2.out (d + 1) (by rw [H1.out]; rfl)
          rw [if_neg (by simp)] at h
          exact ⟨d + 1, acc ++ [x], l3, by rw [Hl.out, Hl2.out]; simp, by have := Hda.out; simp; omega, by omega, HO.out.trans h, by go_num, by simp; rw [Hk.out]; omega⟩
        case measure => simp [intOf]; omega
end Go.Proofs.YtddgdfcgjjdlcaaDoor
