/- Chapter 01, CountRoman: a numeral up to 3999 is that of its thousands, hundreds, tens and ones, one behind the other; in capitals it is the same but for the case. -/
import Derived.Test.YtcpckgkimelhmaaDoorCntL
import Derived.BigQuiet
import Derived.Test.YtcpckgkimelhmaaDoorCntTab
namespace Go.Proofs.YtcpckgkimelhmaaDoor.lawRom
open Go.RowKit

theorem roman_low (n : Nat) : ∀ b ∈ Cnt.roman n, 97 ≤ b.toNat ∧ b.toNat ≤ 122 := by
  have h : ∀ (ps : List (Nat × List UInt8)) (n : Nat), (∀ p ∈ ps, ∀ b ∈ p.2, 97 ≤ b.toNat ∧ b.toNat ≤ 122) → ∀ b ∈ Cnt.romanGo ps n, 97 ≤ b.toNat ∧ b.toNat ≤ 122 := by
    intro ps
    induction ps with
    | nil => intro n _ b hb; simp [Cnt.romanGo] at hb
    | cons p ps ih =>
      intro n hp b hb
      simp only [Cnt.romanGo, List.mem_append, List.mem_flatten, List.mem_replicate] at hb
      rcases hb with ⟨l, ⟨_, rfl⟩, hb⟩ | hb
      · exact hp p (by simp) b hb
      · exact ih _ (fun q hq => hp q (by simp [hq])) b hb
  exact h _ n (by decide)
theorem upper_low (b : UInt8) (h : 97 ≤ b.toNat ∧ b.toNat ≤ 122) : (Lib.upperB b).toNat = b.toNat - 32 := by
  have e : Lib.isLowerB b = true := by unfold Lib.isLowerB; simp [UInt8.le_iff_toNat_le]; omega
  unfold Lib.upperB
  rw [if_pos e, UInt8.toNat_sub_of_le _ _ (by rw [UInt8.le_iff_toNat_le]; simp; omega)]
  simp

set_option maxRecDepth 100000 in
set_option maxHeartbeats 1000000 in
theorem walk (a : Int) (w : World) (hL : Laid01 w) :
    Calls Tryd.prog 7 #[.int .i64 a] w fun e w' => e = .returned (.bool true) ∧ Below w.heap.size w w' := by
  have a0 := Cnt.cut_lo a; have a1 := Cnt.cut_hi a
  obtain ⟨m, hm⟩ : ∃ m : Nat, Cnt.cut a % 4000 = (m : Int) := ⟨(Cnt.cut a % 4000).toNat, by omega⟩
  have hm1 : m < 4000 := by omega
  have HL := Lib.hid hL; clear hL
  have HB := Lib.hid (Below.refl w.heap.size w)
  by_cases hm0 : m = 0
  · have e1 := Cnt.fix_t3
    have e2 : Cnt.text 4000 2 = [52, 48, 48, 48] := (Cnt.text_dec 4000 (by omega) 2 (by omega) (by omega) (by omega)).trans (by decide +kernel)
    subst hm0
    have hm' : Cnt.cut a % 4000 = 0 := by simpa using hm
    clear hm
    go_enter Tryd.func7, Tryd.ntmps7
    go_wp2_with (first
      | (go_at_call 11; refine (count_cut _ _).mono ?_; rintro e w' ⟨rfl, rfl⟩)
      | (go_at_call 13; refine (count_text _ _ _ HL.out).mono ?_; rintro e w3 ⟨rfl, b3⟩; replace HL := Lib.hid (HL.out.below b3); replace HB := Lib.hid (bseq HB.out b3); clear b3)
      | (go_at_call 17; refine (law01_fixed _ HL.out).mono ?_; rintro e w4 ⟨rfl, b4⟩))
    go_ret
    exact ⟨ret_bool rfl, bseq HB.out b4⟩
  · have hmb : ((m : Int) == 0) = false := by simp; omega
    have hmp : 0 < (m : Int) := by omega
    have hmt : (m : Int) < 4000 := by omega
    go_enter Tryd.func7, Tryd.ntmps7
    go_wp2_with (first
      | (go_at_call 11; refine (count_cut _ _).mono ?_; rintro e w' ⟨rfl, rfl⟩))
    have hcell0 : ∀ (k x : Nat), (Cnt.parts m)[k]? = some x → (w.alloc (.cells #[.int .i64 ((m : Int) / 1000 * 1000), .int .i64 ((m : Int) / 100 % 10 * 100), .int .i64 ((m : Int) / 10 % 10 * 10), .int .i64 ((m : Int) % 10)] 3)).cell? ⟨w.heap.size, k, none⟩ = some (.int .i64 (x : Int)) := by
      intro k x hx
      rw [cell_of_row _ _ k _ _ _ (heap_alloc_new w _)]
      match k, hx with
      | 0, hx | 1, hx | 2, hx | 3, hx => simp [Cnt.parts] at hx; subst hx; simp
      | k + 4, hx => simp [Cnt.parts] at hx
    have hup : Cnt.text (m : Int) 2 = Lib.toUpperA (Cnt.roman m) := Cnt.text_upper m (by omega) (by omega)
    have hro : Cnt.text (m : Int) 1 = Cnt.roman m := Cnt.text_roman m (by omega) (by omega)
    have Hro := Lib.hid hro; clear hro
    have Hcell0 := Lib.hid hcell0; clear hcell0
    refine (count_text _ _ _ (HL.out.below ((Below.refl _ _).alloc (Nat.le_refl _) _))).mono ?_
    rintro e w5 ⟨rfl, b5⟩
    have hcell : ∀ (k x : Nat), (Cnt.parts m)[k]? = some x → w5.cell? ⟨w.heap.size, k, none⟩ = some (.int .i64 (x : Int)) := fun k x hx => (b5.cell (p := ⟨w.heap.size, k, none⟩) (by simp)).trans (Hcell0.out k x hx)
    have hb5 : Below w.heap.size w w5 := bseq ((Below.refl _ _).alloc (Nat.le_refl _) _) b5
    have hz5 : w.heap.size < w5.heap.size := by have := b5.size; simp at this; omega
    have Hcell := Lib.hid hcell; have HB5 := Lib.hid hb5; have HL5 := Lib.hid (HL.out.below hb5)
    clear hcell hb5 HL HB b5
    have hrl := roman_length m
    go_wp2_with fail
    go_loopw [3, 6] (fun s i wr => ∃ k : Nat, k ≤ 4 ∧ i = .int .i64 k ∧ s = .string ⟨(((Cnt.parts m).take k).flatMap Cnt.roman).toArray⟩ ∧ Below w5.heap.size w5 wr) (fun _ i _ => 4 - (intOf i).toNat)
    case atStart => exact ⟨0, by omega, rfl, rfl, Below.refl _ _⟩
    case round =>
      obtain ⟨k, hk, rfl, rfl, hb⟩ := hrel
      have HLr := Lib.hid (HL5.out.below hb)
      by_cases hlt : k < 4
      · obtain ⟨x, hx⟩ : ∃ x, (Cnt.parts m)[k]? = some x := ⟨_, List.getElem?_eq_getElem (by simpa [Cnt.parts] using hlt)⟩
        have hc := (hb.cell (p := ⟨w.heap.size, k, none⟩) hz5).trans (Hcell.out k x hx)
        have hx1 : x < 4000 := by
          have := List.mem_of_getElem? hx
          simp only [Cnt.parts, List.mem_cons, List.not_mem_nil, or_false] at this
          omega
        have hstep : ((Cnt.parts m).take (k + 1)).flatMap Cnt.roman = ((Cnt.parts m).take k).flatMap Cnt.roman ++ Cnt.roman x := by
          rw [List.take_add_one, hx]
          simp
        obtain ⟨acc, hacc⟩ : ∃ acc, ((Cnt.parts m).take k).flatMap Cnt.roman = acc := ⟨_, rfl⟩
        have hal : acc.length ≤ 4000 := by
          have h1 : Cnt.roman m = acc ++ ((Cnt.parts m).drop k).flatMap Cnt.roman := by
            rw [Cnt.parts_roman m hm1, ← hacc, ← List.flatMap_append, List.take_append_drop]
          have := congrArg List.length h1
          simp at this; omega
        rw [hacc] at hstep ⊢
        have Hstep := Lib.hid hstep; have Hx := Lib.hid hx
        clear hstep hx hacc
        by_cases hx0 : x = 0
        · subst hx0
          go_wp2_with fail
          go_roundw
          case rel => exact ⟨k + 1, by omega, by go_num, by rw [Hstep.out, Cnt.roman_zero]; simp, hb⟩
          case measure => simp [intOf]; omega
        · have hxp : 0 < (x : Int) := by omega
          have hxr : Cnt.text (x : Int) 1 = Cnt.roman x := Cnt.text_roman x (by omega) (by omega)
          have hxl := roman_length x
          go_wp2_with (go_at_call 13; refine (count_text _ _ _ HLr.out).mono ?_; rintro e w3 ⟨rfl, b3⟩)
          go_roundw
          case rel => exact ⟨k + 1, by omega, by go_num, by rw [Hstep.out]; exact congrArg Value.string (append_data _ _), bseq hb b3⟩
          case measure => simp [intOf]; omega
      · have hk4 : k = 4 := by omega
        subst hk4
        have hall : ((Cnt.parts m).take 4).flatMap Cnt.roman = Cnt.roman m := (Cnt.parts_roman m hm1).symm
        have hro := Hro.out
        have hul : (Lib.toUpperA (Cnt.roman m)).length = (Cnt.roman m).length := by simp [Lib.toUpperA]
        go_wp2_with (go_at_call 13; refine (count_text _ _ _ HLr.out).mono ?_; rintro e w3 ⟨rfl, b3⟩)
        have HL3 := Lib.hid (HLr.out.below b3)
        have HB3 := Lib.hid (bseq (bseq HB5.out hb) b3)
        clear hb b3 hro hup
        go_loopw [7] (fun i wr => ∃ k : Nat, k ≤ (Cnt.roman m).length ∧ i = .int .i64 k ∧ Below w3.heap.size w3 wr) (fun i _ => (Cnt.roman m).length - (intOf i).toNat)
        case atStart => exact ⟨0, Nat.zero_le _, rfl, Below.refl _ _⟩
        case round =>
          obtain ⟨k, hk, rfl, hb⟩ := hrel
          by_cases hlt : k < (Cnt.roman m).length
          · obtain ⟨x, hx⟩ : ∃ x, (Cnt.roman m)[k]? = some x := ⟨_, List.getElem?_eq_getElem hlt⟩
            have hxl := roman_low m x (List.mem_of_getElem? hx)
            have hu := upper_low x hxl
            have i1 : ∀ h, (⟨(Cnt.roman m).toArray⟩ : ByteArray)[k]'h = x := byte_at _ _ _ hx
            have i2 : ∀ h, (⟨(Lib.toUpperA (Cnt.roman m)).toArray⟩ : ByteArray)[k]'h = Lib.upperB x := byte_at _ _ _ (by simp [Lib.toUpperA, hx])
            have hlt' : (k : Int) < ((Cnt.roman m).length : Int) := by omega
            have hw : IntKind.u8.wrap ((x.toNat : Int) - 32) = (x.toNat : Int) - 32 := IntWalk.u8_in _ (by omega)
            have hne : (((Lib.upperB x).toNat : Int) != (x.toNat : Int) - 32) = false := by simp; omega
            clear hx hxl hu
            go_wp2_with fail
            go_quiet (fail)
            go_wp2_with fail
            go_roundw
            case rel => exact ⟨k + 1, by omega, by go_num, below_drewN hb _⟩
            case measure => simp [intOf]; omega
          · go_wp2_with (go_at_call 17; refine (law01_fixed _ (HL3.out.below hb)).mono ?_; rintro e w4 ⟨rfl, b4⟩)
            go_ret
            exact ⟨ret_bool rfl, bseq (bseq HB3.out hb) b4⟩
end Go.Proofs.YtcpckgkimelhmaaDoor.lawRom
