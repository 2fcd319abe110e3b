/- Numerals up to 3999, looked through by the kernel: each is that of its thousands, hundreds, tens and ones; each is read back. -/
import Derived.Test.YthoblbdkmlggbaaGreatDoorCntP
namespace Go.Proofs.YthoblbdkmlggbaaGreatDoor.Cnt
def parts (m : Nat) : List Nat := [m / 1000 * 1000, m / 100 % 10 * 100, m / 10 % 10 * 10, m % 10]
theorem parts_all : (List.range 4000).all (fun m => roman m == (parts m).flatMap roman) = true := by decide +kernel
theorem parts_roman (m : Nat) (h : m < 4000) : roman m = (parts m).flatMap roman := by
  have := List.all_eq_true.1 parts_all m (List.mem_range.2 h)
  simpa using this
theorem roman_zero : roman 0 = [] := by decide +kernel
theorem back_all : (List.range 4000).all (fun m => ofRoman (roman m) == m) = true := by decide +kernel
theorem back_roman (m : Nat) (h : m < 4000) : ofRoman (roman m) = m := by
  have := List.all_eq_true.1 back_all m (List.mem_range.2 h)
  simpa using this
theorem roman_inj {m n : Nat} (hm : m < 4000) (hn : n < 4000) (h : roman m = roman n) : m = n := by
  rw [← back_roman m hm, ← back_roman n hn, h]
end Go.Proofs.YthoblbdkmlggbaaGreatDoor.Cnt
