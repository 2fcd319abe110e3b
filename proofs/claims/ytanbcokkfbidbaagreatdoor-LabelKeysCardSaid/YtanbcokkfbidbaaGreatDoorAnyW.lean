/- 'strings.ContainsAny(t, "{}")' of any bytes. -/
import Derived.Test.YtanbcokkfbidbaaGreatDoorParWh
import Derived.Lib.SpaceUEq
import Derived.Lib.QuoteLoop
import Derived.Lib.OthersKept
import Derived.Laws.Runes
import Derived.WalkMore
set_option linter.unusedSimpArgs false
set_option linter.unusedVariables false
namespace Go.Proofs.YtanbcokkfbidbaaGreatDoor
open Go.RowKit Go.Lib
abbrev braces : ByteArray := ⟨#[123, 125]⟩
theorem enc_cases (r : Nat) (h : 128 ≤ r) (h2 : r ≤ 1114111) (hv : r < 55296 ∨ 57343 < r) :
    (∃ x y : UInt8, 128 ≤ y.toNat ∧ Utf8.encode (r : Int) = ⟨#[x, y]⟩) ∨ (∃ x y z : UInt8, Utf8.encode (r : Int) = ⟨#[x, y, z]⟩) ∨ (∃ x y z u : UInt8, Utf8.encode (r : Int) = ⟨#[x, y, z, u]⟩) := by
  have hval : Utf8.valid (r : Int) = true := by
    rw [validRune_eq]
    unfold validRune
    rw [decide_eq_true_eq]
    omega
  unfold Utf8.encode
  simp only [hval, if_true, Int.toNat_natCast]
  rw [if_neg (by omega)]
  split
  · refine .inl ⟨_, _, ?_, rfl⟩
    simp; omega
  · split
    · exact .inr (.inl ⟨_, _, _, rfl⟩)
    · exact .inr (.inr ⟨_, _, _, _, rfl⟩)
theorem quiet_none (s : ByteArray) (c : Int) (w : World) (h : ∀ c, Lib.indexByte s.data.toList c = -1) :
    Calls Tryz.prog 40 #[.string s, .int .u8 c] w fun e w' => e = .returned (.int .i64 (-1)) ∧ w' = w := by
  refine (Tryz.strings_IndexByte _ _ _).mono (fun e w' ⟨h1, h2⟩ => ⟨?_, h2⟩)
  rw [h1, h]
set_option maxRecDepth 100000 in
set_option maxHeartbeats 3200000 in
theorem rune_brace_bad (w : World) : Calls Tryz.prog 144 #[.string braces, .int .i32 65533] w fun e w' => e = .returned (.int .i64 (-1)) ∧ Below w.heap.size w w' := by
  go_enter Tryz.func144, Tryz.ntmps144
  go_wp2_with fail
  go_loopg [5, 6] 2 (fun g _ _ wx => ∃ i : Nat, i + g = 2 ∧ wx = w.iter braces i)
  case atStart => exact ⟨0, rfl, rfl⟩
  case round =>
    obtain ⟨i, hig, rfl⟩ := hrel
    cases gk with
    | zero =>
      obtain rfl : i = 2 := by omega
      have hnx := run_next_end (P := Tryz.prog) w braces 2
      have hnx := fun ty => hnx ty (by decide)
      go_wp2
      go_ret
      exact ⟨rfl, below_new w _⟩
    | succ g =>
      obtain rfl | rfl : i = 0 ∨ i = 1 := by omega
      · have hnx : ∀ ty, (Instr.next (.pointer (some ⟨w.heap.size, 0, none⟩)) true ty).run Tryz.prog (w.iter braces 0) = .ok (.tuple #[.bool true, .int .i64 0, .int .i32 123]) (w.iter braces 1) := fun ty => run_next_ascii (P := Tryz.prog) w braces 0 ty (by decide) (by decide)
        go_wp2
        go_roundg g
        case measure => omega
        case rel => exact ⟨1, by omega, rfl⟩
      · have hnx : ∀ ty, (Instr.next (.pointer (some ⟨w.heap.size, 0, none⟩)) true ty).run Tryz.prog (w.iter braces 1) = .ok (.tuple #[.bool true, .int .i64 1, .int .i32 125]) (w.iter braces 2) := fun ty => run_next_ascii (P := Tryz.prog) w braces 1 ty (by decide) (by decide)
        go_wp2
        go_roundg g
        case measure => omega
        case rel => exact ⟨2, by omega, rfl⟩
set_option maxRecDepth 100000 in
set_option maxHeartbeats 3200000 in
theorem rune_brace_other (r : Nat) (w : World) (h : 128 ≤ r) (h2 : r ≤ 1114111) (hv : r < 55296 ∨ 57343 < r) (hb : r ≠ 65533) :
    Calls Tryz.prog 144 #[.string braces, .int .i32 (r : Int)] w fun e w' => e = .returned (.int .i64 (-1)) ∧ Below w.heap.size w w' := by
  have q0 : (0 : Int) ≤ (r : Int) := by omega
  have q1 : decide ((r : Int) < 128) = false := by simp; omega
  have q2 : ((r : Int) == 65533) = false := by simp; omega
  have q3 : Lib.validRune (r : Int) = true := by unfold Lib.validRune; rw [decide_eq_true_eq]; omega
  rcases enc_cases r h h2 hv with ⟨x, y, hy, he⟩ | ⟨x, y, z, he⟩ | ⟨x, y, z, u, he⟩
  · have q4 : ((125 : Int) != (y.toNat : Int)) = true := by simp; omega
    have b1 : (((braces[1]'(by decide)).toNat : Nat) : Int) = 125 := rfl
    have b2 : (((⟨#[x, y]⟩ : ByteArray)[1]'(by show 1 < 2; decide)).toNat : Int) = (y.toNat : Int) := rfl
    have hw2 : IntKind.i64.wrap 2 = 2 := by decide
    have q5 : ∀ c, Lib.indexByte ByteArray.empty.data.toList c = -1 := fun c => rfl
    have hcv : ∀ w' : World, (convert 21 9 (.int .i32 (r : Int))).run Tryz.prog w' = .ok (.string ⟨#[x, y]⟩) w' := fun w' => by rw [run_convert_int_string w' 21 9 .i32 r (by kernel_rfl) Tryz.underlying9, he]
    clear h h2 hv hb hy
    go_enter Tryz.func144, Tryz.ntmps144
    go_wp2_with (go_at_call 147; refine (Tryz.utf8_ValidRune _ _).mono ?_; rintro e w' ⟨rfl, rfl⟩; rw [q3])
    go_step3
    go_wp2_with fail
    obtain ⟨wo, hwo⟩ : ∃ wo, wo = w' := ⟨_, rfl⟩
    subst hwo
    go_loopw [9, 10] (fun i f wr => i = .int .i64 1 ∧ wr = wo) (fun _ _ _ => 0)
    case atStart => exact ⟨rfl, rfl⟩
    case round =>
      obtain ⟨rfl, rfl⟩ := hrel
      go_wp2_with fail
      go_step3
      go_upto_region 6 with fail
      go_quiet (fail)
      go_upto_region 7 with fail
      go_quiet (first | (go_at_call 40; exact (quiet_none _ _ _ q5).mono (fun e w' ⟨h1, h2⟩ => ⟨h1, _, h2⟩)))
      go_wp2_with fail
      simp (config := { zetaDelta := true }) only [Exit.noGoto_ret, Exit.inBlock, Exit.then]
      go_ret
      exact ⟨rfl, below_drewN (Below.refl _ _) _⟩
  · have hcv : ∀ w' : World, (convert 21 9 (.int .i32 (r : Int))).run Tryz.prog w' = .ok (.string ⟨#[x, y, z]⟩) w' := fun w' => by rw [run_convert_int_string w' 21 9 .i32 r (by kernel_rfl) Tryz.underlying9, he]
    clear h h2 hv hb
    go_enter Tryz.func144, Tryz.ntmps144
    go_wp2_with (go_at_call 147; refine (Tryz.utf8_ValidRune _ _).mono ?_; rintro e w' ⟨rfl, rfl⟩; rw [q3])
    go_step3
    go_wp2_with fail
    obtain ⟨wo, hwo⟩ : ∃ wo, wo = w' := ⟨_, rfl⟩
    subst hwo
    go_loopw [9, 10] (fun i f wr => i = .int .i64 2 ∧ wr = wo) (fun _ _ _ => 0)
    case atStart => exact ⟨rfl, rfl⟩
    case round =>
      obtain ⟨rfl, rfl⟩ := hrel
      go_wp2_with fail
      (try rw [Exit.noGoto_ret]); (try rw [Exit.noGoto_ret])
      go_ret
      exact ⟨rfl, Below.refl _ _⟩
  · have hcv : ∀ w' : World, (convert 21 9 (.int .i32 (r : Int))).run Tryz.prog w' = .ok (.string ⟨#[x, y, z, u]⟩) w' := fun w' => by rw [run_convert_int_string w' 21 9 .i32 r (by kernel_rfl) Tryz.underlying9, he]
    clear h h2 hv hb
    go_enter Tryz.func144, Tryz.ntmps144
    go_wp2_with (go_at_call 147; refine (Tryz.utf8_ValidRune _ _).mono ?_; rintro e w' ⟨rfl, rfl⟩; rw [q3])
    go_step3
    go_wp2_with fail
    obtain ⟨wo, hwo⟩ : ∃ wo, wo = w' := ⟨_, rfl⟩
    subst hwo
    go_loopw [9, 10] (fun i f wr => i = .int .i64 3 ∧ wr = wo) (fun _ _ _ => 0)
    case atStart => exact ⟨rfl, rfl⟩
    case round =>
      obtain ⟨rfl, rfl⟩ := hrel
      go_wp2_with fail
      (try rw [Exit.noGoto_ret]); (try rw [Exit.noGoto_ret])
      go_ret
      exact ⟨rfl, Below.refl _ _⟩
theorem rune_brace (r : Nat) (w : World) (h : 128 ≤ r) (h2 : r ≤ 1114111) (hv : r < 55296 ∨ 57343 < r) :
    Calls Tryz.prog 144 #[.string braces, .int .i32 (r : Int)] w fun e w' => e = .returned (.int .i64 (-1)) ∧ Below w.heap.size w w' := by
  by_cases hb : r = 65533
  · subst hb; exact rune_brace_bad w
  · exact rune_brace_other r w h h2 hv hb
/-- what is read at a byte that is no ASCII: a rune, and only such bytes -/
theorem decode_wide (l : List UInt8) (i : Nat) (x : UInt8) (hx : l[i]? = some x) (hi : 128 ≤ x.toNat) :
    ∃ r n : Nat, Utf8.decode ⟨l.toArray⟩ i = (r, n) ∧ 128 ≤ r ∧ r ≤ 1114111 ∧ (r < 55296 ∨ 57343 < r) ∧ 1 ≤ n ∧ i + n ≤ l.length ∧ ∀ j y, i ≤ j → j < i + n → l[j]? = some y → 128 ≤ y.toNat := by
  have hil := (List.getElem?_eq_some_iff.1 hx).1
  have hsz : (⟨l.toArray⟩ : ByteArray).size = l.length := by show l.toArray.size = _; simp
  have hd := decode_N ⟨l.toArray⟩ i
  have h1 := decode_high ⟨l.toArray⟩ i (by rw [hsz]; exact hil) (by
    have e : (⟨l.toArray⟩ : ByteArray)[i]'(by rw [hsz]; exact hil) = x := by
      obtain ⟨_, e⟩ := List.getElem?_eq_some_iff.1 hx
      exact e
    rw [e]; exact hi)
  have e0 : l.getD i 0 = x := by rw [List.getD_eq_getElem?_getD, hx]; rfl
  have hlist : (⟨l.toArray⟩ : ByteArray).data.toList = l := by simp
  rw [hlist, e0] at hd
  obtain ⟨r, n, hrn⟩ : ∃ r n, Utf8.decode ⟨l.toArray⟩ i = (r, n) := ⟨_, _, rfl⟩
  rw [hrn] at h1 hd
  have hv := decodeN_valid (l.length - i) x.toNat (l.getD (i + 1) 0).toNat (l.getD (i + 2) 0).toNat (l.getD (i + 3) 0).toNat (UInt8.toNat_lt _)
  have hc := decodeN_conts (l.length - i) x.toNat (l.getD (i + 1) 0).toNat (l.getD (i + 2) 0).toNat (l.getD (i + 3) 0).toNat
  have hr := decodeN_rune_le (l.length - i) x.toNat (l.getD (i + 1) 0).toNat (l.getD (i + 2) 0).toNat (l.getD (i + 3) 0).toNat (UInt8.toNat_lt _)
  have hw := decodeN_width_le (l.length - i) x.toNat (l.getD (i + 1) 0).toNat (l.getD (i + 2) 0).toNat (l.getD (i + 3) 0).toNat (by omega)
  rw [← hd] at hv hc hr hw
  dsimp only at hv hc hr hw h1
  refine ⟨r, n, hrn, h1.1, hr, by omega, h1.2, by omega, fun j y hj hjn hy => ?_⟩
  have hg : ∀ k, l[i + k]? = some y → l.getD (i + k) 0 = y := fun k h => by rw [List.getD_eq_getElem?_getD, h]; rfl
  obtain ⟨c1, c2, c3, c4⟩ := hc
  obtain rfl | rfl | rfl | rfl : j = i ∨ j = i + 1 ∨ j = i + 2 ∨ j = i + 3 := by omega
  · rw [hx] at hy; cases hy; exact hi
  · have := (c1 (by omega)).1; rw [hg 1 hy] at this; omega
  · have := (c2 (by omega)).1; rw [hg 2 hy] at this; omega
  · have := (c3 (by omega)).1; rw [hg 3 hy] at this; omega
theorem brace_wide (y : UInt8) (h : 128 ≤ y.toNat) : [(123 : UInt8), 125].contains y = false := by
  cases hc : [(123 : UInt8), 125].contains y with
  | false => rfl
  | true =>
    simp at hc
    rcases hc with rfl | rfl <;> simp at h
end Go.Proofs.YtanbcokkfbidbaaGreatDoor
