/- The walks of package entry's reader: what ends an entry; a byte that has to be next; the end. -/
import Derived.Test.YtddgdfcgjjdlcaaDoorParW2
namespace Go.Proofs.YtddgdfcgjjdlcaaDoor
open Go.RowKit

/-- what an entry ends with -/
abbrev wrongP (l : List UInt8) : Ending := .panicked [{ v := .iface 71 (.agg #[.int .i64 (Ent.err l)]), recovered := false }]

set_option maxRecDepth 100000 in
set_option maxHeartbeats 400000 in
theorem reader_fail (s : List UInt8) (r : Nat) (l : List UInt8) (w : World) (hA : At s r w l) :
    Calls Tryd.prog 45 #[.pointer (some ⟨r, 0, none⟩)] w fun e w' => e = wrongP l ∧ At s r w' l ∧ Moved r w w' := by
  have e0 := hA.text
  obtain ⟨k, hk, hd, e1⟩ := hA.place
  have HA := Lib.hid hA; have Hd := Lib.hid hd; clear hA
  cases hl : l with
  | nil =>
    have g1 : (s.length : Int) ≤ (k : Int) := by
      have h := congrArg List.length hd; rw [hl] at h; simp at h; omega
    clear hd
    have Hl := Lib.hid hl; clear hl
    go_enter Tryd.func45, Tryd.ntmps45
    go_wp2_with fail
    go_quiet (fail)
    go_wp2_with fail
    exact ⟨rfl, rfl, by rw [← Hl.out]; exact HA.out.drewN _, (Moved.refl r w).drewN _⟩
  | cons x l2 =>
    have g1 : k < s.length := (drop_cons (hd.trans hl)).2.1
    clear hd
    have Hl := Lib.hid hl; clear hl
    go_enter Tryd.func45, Tryd.ntmps45
    go_wp2_with fail
    go_quiet (fail)
    go_wp2_with fail
    exact ⟨rfl, rfl, by rw [← Hl.out]; exact HA.out.drewN _, (Moved.refl r w).drewN _⟩

set_option maxRecDepth 100000 in
set_option maxHeartbeats 400000 in
theorem reader_must (s : List UInt8) (r : Nat) (l : List UInt8) (c : UInt8) (w : World) (hs : s.length ≤ maxLen) (h0 : c.toNat ≠ 0) (hA : At s r w l) :
    Calls Tryd.prog 36 #[.pointer (some ⟨r, 0, none⟩), .int .u8 (c.toNat : Int)] w fun e w' => e = (if Ent.isB c l then .returned (.tuple #[]) else wrongP (Ent.isL c l)) ∧ At s r w' (Ent.isL c l) ∧ Moved r w w' := by
  have HI := Lib.hid (reader_is s r l c w hs h0 hA)
  clear hA
  cases hb : Ent.isB c l
  · rw [hb] at HI
    go_enter Tryd.func36, Tryd.ntmps36
    go_wp2_with (first
      | (go_at_call 38; refine HI.out.mono ?_; rintro e w2 ⟨rfl, hA2, hM2⟩)
      | (go_at_call 45; refine (reader_fail _ _ _ _ hA2).mono ?_; rintro e w3 ⟨rfl, hA3, hM3⟩))
    exact ⟨rfl, rfl, hA3, hM2.trans hM3⟩
  · rw [hb] at HI
    go_enter Tryd.func36, Tryd.ntmps36
    go_wp2_with (first
      | (go_at_call 38; refine HI.out.mono ?_; rintro e w2 ⟨rfl, hA2, hM2⟩))
    refine bodyPost_end (results_none rfl _ _ _) rfl ?_
    exact ⟨rfl, hA2, hM2⟩

set_option maxRecDepth 100000 in
set_option maxHeartbeats 400000 in
theorem reader_end (s : List UInt8) (r : Nat) (l : List UInt8) (w : World) (hA : At s r w l) :
    Calls Tryd.prog 53 #[.pointer (some ⟨r, 0, none⟩)] w fun e w' => e = wrongP [] ∧ At s r w' [] ∧ Moved r w w' := by
  have e0 := hA.text
  have f1 := hA.free
  obtain ⟨k, hk, hd, e1⟩ := hA.place
  have HA := Lib.hid hA; have Hd := Lib.hid hd; clear hA
  have h2 := HA.out.set (k := s.length) (Nat.le_refl _) (s.length : Int) rfl
  have H2 := Lib.hid h2; clear h2
  rw [List.drop_length] at H2
  go_enter Tryd.func53, Tryd.ntmps53
  go_wp2_with (go_at_call 45; refine (reader_fail _ _ _ _ H2.out).mono ?_; rintro e w3 ⟨rfl, hA3, hM3⟩)
  exact ⟨rfl, rfl, hA3, ((Moved.refl r w).set _).trans hM3⟩
end Go.Proofs.YtddgdfcgjjdlcaaDoor
