/- The walks of package entry's reader: one byte. The walks of package entry's reader: what ends an entry; a byte that has to be next; the end. The walks of package entry's reader: marks, texts in quotation marks and in braces. The walks of package entry's reader: texts in quotation marks. The walks of package entry's reader: texts in braces. -/
import Derived.Test.YtanbcokkfbidbaaGreatDoorParW1
import Derived.Deep.RegionHeld3
set_option linter.unusedSimpArgs false
set_option linter.unusedVariables false
namespace Go.Proofs.YtanbcokkfbidbaaGreatDoor
section
open Go.RowKit

theorem At.drew {s : List UInt8} {r : Nat} {w : World} {l : List UInt8} (h : At s r w l) : At s r w.drew l := ⟨h.text, h.place, h.free, h.lt⟩
theorem Moved.of_drew {r : Nat} {w w' : World} (h : Moved r w.drew w') : Moved r w w' := ⟨h.os, h.tape, h.output, h.size, h.block, h.cell, h.frozen⟩
set_option maxRecDepth 100000 in
set_option maxHeartbeats 1600000 in
theorem reader_is (s : List UInt8) (r : Nat) (l : List UInt8) (c : UInt8) (w : World) (hs : s.length ≤ maxLen) (h0 : c.toNat ≠ 0) (hA : At s r w l) :
    Calls Tryz.prog 65 #[.pointer (some ⟨r, 0, none⟩), .int .u8 (c.toNat : Int)] w fun e w' => e = .returned (.bool (Ent.isB c l)) ∧ At s r w' (Ent.isL c l) ∧ Moved r w w' := by
  have HB := Lib.hid (fun w (hA : At s r w l) => reader_blanks s r l w hs hA)
  have HA := Lib.hid hA; clear hA
  unfold maxLen at hs
  obtain ⟨n, hn⟩ : ∃ n, c.toNat = n := ⟨_, rfl⟩
  rw [hn] at h0 ⊢
  obtain ⟨y, hy⟩ : ∃ y, Ent.hd (Ent.bl l) = y := ⟨_, rfl⟩
  rw [hy] at HB
  by_cases hyn : y = (n : Int)
  · obtain ⟨l2, hb⟩ : ∃ l2, Ent.bl l = c :: l2 := by
      cases hb : Ent.bl l with
      | nil => rw [hb] at hy; simp [Ent.hd] at hy; omega
      | cons x l2 =>
        rw [hb] at hy; simp only [Ent.hd] at hy
        have : x.toNat = c.toNat := by omega
        exact ⟨l2, by rw [UInt8.toNat_inj.1 this]⟩
    have hB : Ent.isB c l = true := by unfold Ent.isB; rw [hb]; simp
    have hL : Ent.isL c l = l2 := by unfold Ent.isL; rw [hb]; simp
    rw [hB, hL]
    rw [hb, hyn] at HB
    have Hn := Lib.hid hn; have Hy := Lib.hid hy; clear hn hy hB hL hyn hb
    go_enter Tryz.func65, Tryz.ntmps65
    go_upto_region 1 with fail
    refine wp_region_any (by kernel_rfl) ?_
    change wpAny _ _ _ _ _ _ _ (World.drew _)
    refine wpAny_take (i := 0) (v := .pointer (some ⟨r, 0, none⟩)) rfl (by kernel_rfl) (by kernel_rfl) (by kernel_rfl) (fun _ _ _ h => h) (Or.inl ⟨by kernel_rfl, fun W => by kernel_rfl⟩) ?_
    try simp only [Act.put, List.getElem_toArray, List.getElem_cons_zero, List.getElem_cons_succ, List.setIfInBounds_toArray, List.set_cons_zero, List.set_cons_succ]
    refine wpAny_take (i := 2) (v := .int .u8 (n : Int)) rfl (by kernel_rfl) (by kernel_rfl) (by kernel_rfl) (fun _ _ _ h => h) (Or.inl ⟨by kernel_rfl, fun W => by kernel_rfl⟩) ?_
    try simp only [Act.put, List.getElem_toArray, List.getElem_cons_zero, List.getElem_cons_succ, List.setIfInBounds_toArray, List.set_cons_zero, List.set_cons_succ]
    refine wpAny_ready (rs := [1]) (by kernel_rfl) (by simp) ?_
    refine AllReady.cons rfl (fun K hK => ?_) AllReady.nil
    go_simp
    go_wp2_with (first | (go_at_call 87; refine (HB.out _ HA.out.drew).mono ?_; rintro e w2 ⟨rfl, hA2, hM2⟩))
    have e0 := hA2.text
    have f1 := hA2.free
    obtain ⟨k, hk, hd, e1⟩ := hA2.place
    have g1 : (k : Int) < (s.length : Int) := by have := (drop_cons hd).2.1; omega
    have g2 : decide ((s.length : Int) ≤ (k : Int)) = false := by simp; omega
    have hkl : (k : Int) + 1 ≤ 9223372036854775807 := by omega
    have hlt : k < s.length := (drop_cons hd).2.1
    have HA2 := Lib.hid hA2; have HM2 := Lib.hid hM2; have Hd := Lib.hid hd; clear hA2 hM2 hd
    refine wpAny_of_held (S := fun W => W.cell? ⟨r, 0, none⟩ = some (.string ⟨s.toArray⟩) ∧ W.cell? ⟨r, 1, none⟩ = some (.int .i64 (k : Int))) _ _ _ _ ?_
    have hS := And.intro e0 e1
    refine wpAnyH_take (i := 3) (v := .bool false) rfl (by kernel_rfl) (by kernel_rfl) (by kernel_rfl) (fun _ _ _ h => h) (Or.inl ⟨by kernel_rfl, fun W hW => by go_simp⟩) (by assumption) ?_
    try simp only [Act.put, List.getElem_toArray, List.getElem_cons_zero, List.getElem_cons_succ, List.setIfInBounds_toArray, List.set_cons_zero, List.set_cons_succ]
    refine wpAnyH_take (i := 4) (v := .bool false) rfl (by kernel_rfl) (by kernel_rfl) (by kernel_rfl) (fun _ _ _ h => h) (Or.inl ⟨by kernel_rfl, fun W hW => by kernel_rfl⟩) (by assumption) ?_
    try simp only [Act.put, List.getElem_toArray, List.getElem_cons_zero, List.getElem_cons_succ, List.setIfInBounds_toArray, List.set_cons_zero, List.set_cons_succ]
    refine wpAnyH_take (i := 5) (v := .pointer (some ⟨r, 0, none⟩)) rfl (by kernel_rfl) (by kernel_rfl) (by kernel_rfl) (fun _ _ _ h => h) (Or.inl ⟨by kernel_rfl, fun W hW => by kernel_rfl⟩) (by assumption) ?_
    try simp only [Act.put, List.getElem_toArray, List.getElem_cons_zero, List.getElem_cons_succ, List.setIfInBounds_toArray, List.set_cons_zero, List.set_cons_succ]
    refine wpAnyH_take (i := 6) (v := .pointer (some ⟨r, 0, none⟩)) rfl (by kernel_rfl) (by kernel_rfl) (by kernel_rfl) (fun _ _ _ h => h) (Or.inl ⟨by kernel_rfl, fun W hW => by kernel_rfl⟩) (by assumption) ?_
    try simp only [Act.put, List.getElem_toArray, List.getElem_cons_zero, List.getElem_cons_succ, List.setIfInBounds_toArray, List.set_cons_zero, List.set_cons_succ]
    refine wpAnyH_take (i := 7) (v := .pointer (some ⟨r, 1, none⟩)) rfl (by kernel_rfl) (by kernel_rfl) (by kernel_rfl) (fun _ _ _ h => h) (Or.inl ⟨by kernel_rfl, fun W hW => by obtain ⟨hW0, hW1⟩ := hW; go_simp⟩) (by assumption) ?_
    try simp only [Act.put, List.getElem_toArray, List.getElem_cons_zero, List.getElem_cons_succ, List.setIfInBounds_toArray, List.set_cons_zero, List.set_cons_succ]
    refine wpAnyH_take (i := 8) (v := .int .i64 (k : Int)) rfl (by kernel_rfl) (by kernel_rfl) (by kernel_rfl) (fun _ _ _ h => h) (Or.inl ⟨by kernel_rfl, fun W hW => by obtain ⟨hW0, hW1⟩ := hW; go_simp⟩) (by assumption) ?_
    try simp only [Act.put, List.getElem_toArray, List.getElem_cons_zero, List.getElem_cons_succ, List.setIfInBounds_toArray, List.set_cons_zero, List.set_cons_succ]
    refine wpAnyH_take (i := 9) (v := .pointer (some ⟨r, 0, none⟩)) rfl (by kernel_rfl) (by kernel_rfl) (by kernel_rfl) (fun _ _ _ h => h) (Or.inl ⟨by kernel_rfl, fun W hW => by kernel_rfl⟩) (by assumption) ?_
    try simp only [Act.put, List.getElem_toArray, List.getElem_cons_zero, List.getElem_cons_succ, List.setIfInBounds_toArray, List.set_cons_zero, List.set_cons_succ]
    refine wpAnyH_take (i := 10) (v := .pointer (some ⟨r, 0, none⟩)) rfl (by kernel_rfl) (by kernel_rfl) (by kernel_rfl) (fun _ _ _ h => h) (Or.inl ⟨by kernel_rfl, fun W hW => by kernel_rfl⟩) (by assumption) ?_
    try simp only [Act.put, List.getElem_toArray, List.getElem_cons_zero, List.getElem_cons_succ, List.setIfInBounds_toArray, List.set_cons_zero, List.set_cons_succ]
    refine wpAnyH_take (i := 11) (v := .pointer (some ⟨r, 0, none⟩)) rfl (by kernel_rfl) (by kernel_rfl) (by kernel_rfl) (fun _ _ _ h => h) (Or.inl ⟨by kernel_rfl, fun W hW => by obtain ⟨hW0, hW1⟩ := hW; go_simp⟩) (by assumption) ?_
    try simp only [Act.put, List.getElem_toArray, List.getElem_cons_zero, List.getElem_cons_succ, List.setIfInBounds_toArray, List.set_cons_zero, List.set_cons_succ]
    refine wpAnyH_take (i := 12) (v := .string ⟨s.toArray⟩) rfl (by kernel_rfl) (by kernel_rfl) (by kernel_rfl) (fun _ _ _ h => h) (Or.inl ⟨by kernel_rfl, fun W hW => by obtain ⟨hW0, hW1⟩ := hW; go_simp⟩) (by assumption) ?_
    try simp only [Act.put, List.getElem_toArray, List.getElem_cons_zero, List.getElem_cons_succ, List.setIfInBounds_toArray, List.set_cons_zero, List.set_cons_succ]
    refine wpAnyH_take (i := 13) (v := .int .i64 (s.length : Int)) rfl (by kernel_rfl) (by kernel_rfl) (by kernel_rfl) (fun _ _ _ h => h) (Or.inl ⟨by kernel_rfl, fun W hW => by obtain ⟨hW0, hW1⟩ := hW; go_simp⟩) (by assumption) ?_
    try simp only [Act.put, List.getElem_toArray, List.getElem_cons_zero, List.getElem_cons_succ, List.setIfInBounds_toArray, List.set_cons_zero, List.set_cons_succ]
    refine wpAnyH_take (i := 14) (v := .bool false) rfl (by kernel_rfl) (by kernel_rfl) (by kernel_rfl) (fun _ _ _ h => h) (Or.inl ⟨by kernel_rfl, fun W hW => by obtain ⟨hW0, hW1⟩ := hW; go_simp⟩) (by assumption) ?_
    try simp only [Act.put, List.getElem_toArray, List.getElem_cons_zero, List.getElem_cons_succ, List.setIfInBounds_toArray, List.set_cons_zero, List.set_cons_succ]
    refine wpAnyH_take (i := 15) (v := .bool false) rfl (by kernel_rfl) (by kernel_rfl) (by kernel_rfl) (fun _ _ _ h => h) (Or.inl ⟨by kernel_rfl, fun W hW => by kernel_rfl⟩) (by assumption) ?_
    try simp only [Act.put, List.getElem_toArray, List.getElem_cons_zero, List.getElem_cons_succ, List.setIfInBounds_toArray, List.set_cons_zero, List.set_cons_succ]
    refine wpAnyH_done (by kernel_rfl) ?_ _
    clear hS g2
    go_wp2_with fail
    go_ret
    refine ⟨rfl, ?_, ?_⟩
    · have h := HA2.out.set (k := k + 1) (by omega) ((k : Int) + 1) (by omega)
      rw [(drop_cons Hd.out).2.2] at h
      exact h
    · exact HM2.out.of_drew.set _
  · have g1 : (y != (n : Int)) = true := by simp [hyn]
    have hB : Ent.isB c l = false := by
      unfold Ent.isB
      cases hb : Ent.bl l with
      | nil => rfl
      | cons x l2 => rw [hb] at hy; simp [Ent.hd] at hy; simp; intro e; rw [e] at hy; exact hyn (by omega)
    have hL : Ent.isL c l = Ent.bl l := by
      unfold Ent.isL
      unfold Ent.isB at hB
      cases hb : Ent.bl l with
      | nil => rfl
      | cons x l2 => rw [hb] at hB; dsimp only at hB ⊢; rw [hB]; rfl
    rw [hB, hL]
    have Hn := Lib.hid hn; have Hy := Lib.hid hy; clear hn hy hB hL hyn
    go_enter Tryz.func65, Tryz.ntmps65
    go_upto_region 1 with fail
    refine wp_region_any (by kernel_rfl) ?_
    change wpAny _ _ _ _ _ _ _ (World.drew _)
    refine wpAny_take (i := 0) (v := .pointer (some ⟨r, 0, none⟩)) rfl (by kernel_rfl) (by kernel_rfl) (by kernel_rfl) (fun _ _ _ h => h) (Or.inl ⟨by rfl, fun w => by rfl⟩) ?_
    refine wpAny_take (i := 2) (v := .int .u8 (n : Int)) rfl (by kernel_rfl) (by kernel_rfl) (by kernel_rfl) (fun _ _ _ h => h) (Or.inl ⟨by rfl, fun w => by rfl⟩) ?_
    refine wpAny_ready (rs := [1]) (by kernel_rfl) (by simp) ?_
    refine AllReady.cons rfl (fun K hK => ?_) AllReady.nil
    go_simp
    go_wp2_with (first | (go_at_call 87; refine (HB.out _ HA.out.drew).mono ?_; rintro e w2 ⟨rfl, hA2, hM2⟩))
    try simp only [Act.put, List.getElem_toArray, List.getElem_cons_zero, List.getElem_cons_succ, List.setIfInBounds_toArray, List.set_cons_zero, List.set_cons_succ]
    refine wpAny_take (i := 3) (v := .bool true) rfl (by kernel_rfl) (by kernel_rfl) (by kernel_rfl) (fun _ _ _ h => h) (Or.inl ⟨by kernel_rfl, fun w => by go_simp⟩) ?_
    try simp only [Act.put, List.getElem_toArray, List.getElem_cons_zero, List.getElem_cons_succ, List.setIfInBounds_toArray, List.set_cons_zero, List.set_cons_succ]
    refine wpAny_take (i := 4) (v := .bool true) rfl (by kernel_rfl) (by kernel_rfl) (by kernel_rfl) (fun _ _ _ h => h) (Or.inl ⟨by kernel_rfl, fun w => by kernel_rfl⟩) ?_
    try simp only [Act.put, List.getElem_toArray, List.getElem_cons_zero, List.getElem_cons_succ, List.setIfInBounds_toArray, List.set_cons_zero, List.set_cons_succ]
    refine wpAny_take (i := 5) (v := undef) rfl (by kernel_rfl) (by kernel_rfl) (by kernel_rfl) (fun _ _ _ h => h) (Or.inr ⟨by kernel_rfl, rfl⟩) ?_
    try simp only [Act.put, List.getElem_toArray, List.getElem_cons_zero, List.getElem_cons_succ, List.setIfInBounds_toArray, List.set_cons_zero, List.set_cons_succ]
    refine wpAny_take (i := 6) (v := undef) rfl (by kernel_rfl) (by kernel_rfl) (by kernel_rfl) (fun _ _ _ h => h) (Or.inr ⟨by kernel_rfl, rfl⟩) ?_
    try simp only [Act.put, List.getElem_toArray, List.getElem_cons_zero, List.getElem_cons_succ, List.setIfInBounds_toArray, List.set_cons_zero, List.set_cons_succ]
    refine wpAny_take (i := 7) (v := undef) rfl (by kernel_rfl) (by kernel_rfl) (by kernel_rfl) (fun _ _ _ h => h) (Or.inr ⟨by kernel_rfl, rfl⟩) ?_
    try simp only [Act.put, List.getElem_toArray, List.getElem_cons_zero, List.getElem_cons_succ, List.setIfInBounds_toArray, List.set_cons_zero, List.set_cons_succ]
    refine wpAny_take (i := 8) (v := undef) rfl (by kernel_rfl) (by kernel_rfl) (by kernel_rfl) (fun _ _ _ h => h) (Or.inr ⟨by kernel_rfl, rfl⟩) ?_
    try simp only [Act.put, List.getElem_toArray, List.getElem_cons_zero, List.getElem_cons_succ, List.setIfInBounds_toArray, List.set_cons_zero, List.set_cons_succ]
    refine wpAny_take (i := 9) (v := undef) rfl (by kernel_rfl) (by kernel_rfl) (by kernel_rfl) (fun _ _ _ h => h) (Or.inr ⟨by kernel_rfl, rfl⟩) ?_
    try simp only [Act.put, List.getElem_toArray, List.getElem_cons_zero, List.getElem_cons_succ, List.setIfInBounds_toArray, List.set_cons_zero, List.set_cons_succ]
    refine wpAny_take (i := 10) (v := undef) rfl (by kernel_rfl) (by kernel_rfl) (by kernel_rfl) (fun _ _ _ h => h) (Or.inr ⟨by kernel_rfl, rfl⟩) ?_
    try simp only [Act.put, List.getElem_toArray, List.getElem_cons_zero, List.getElem_cons_succ, List.setIfInBounds_toArray, List.set_cons_zero, List.set_cons_succ]
    refine wpAny_take (i := 11) (v := undef) rfl (by kernel_rfl) (by kernel_rfl) (by kernel_rfl) (fun _ _ _ h => h) (Or.inr ⟨by kernel_rfl, rfl⟩) ?_
    try simp only [Act.put, List.getElem_toArray, List.getElem_cons_zero, List.getElem_cons_succ, List.setIfInBounds_toArray, List.set_cons_zero, List.set_cons_succ]
    refine wpAny_take (i := 12) (v := undef) rfl (by kernel_rfl) (by kernel_rfl) (by kernel_rfl) (fun _ _ _ h => h) (Or.inr ⟨by kernel_rfl, rfl⟩) ?_
    try simp only [Act.put, List.getElem_toArray, List.getElem_cons_zero, List.getElem_cons_succ, List.setIfInBounds_toArray, List.set_cons_zero, List.set_cons_succ]
    refine wpAny_take (i := 13) (v := undef) rfl (by kernel_rfl) (by kernel_rfl) (by kernel_rfl) (fun _ _ _ h => h) (Or.inr ⟨by kernel_rfl, rfl⟩) ?_
    try simp only [Act.put, List.getElem_toArray, List.getElem_cons_zero, List.getElem_cons_succ, List.setIfInBounds_toArray, List.set_cons_zero, List.set_cons_succ]
    refine wpAny_take (i := 14) (v := undef) rfl (by kernel_rfl) (by kernel_rfl) (by kernel_rfl) (fun _ _ _ h => h) (Or.inr ⟨by kernel_rfl, rfl⟩) ?_
    try simp only [Act.put, List.getElem_toArray, List.getElem_cons_zero, List.getElem_cons_succ, List.setIfInBounds_toArray, List.set_cons_zero, List.set_cons_succ]
    refine wpAny_take (i := 15) (v := .bool true) rfl (by kernel_rfl) (by kernel_rfl) (by kernel_rfl) (fun _ _ _ h => h) (Or.inl ⟨by kernel_rfl, fun w => by kernel_rfl⟩) ?_
    try simp only [Act.put, List.getElem_toArray, List.getElem_cons_zero, List.getElem_cons_succ, List.setIfInBounds_toArray, List.set_cons_zero, List.set_cons_succ]
    refine wpAny_done (by kernel_rfl) ?_ _
    go_wp2_with fail
    go_ret
    exact ⟨rfl, hA2, hM2.of_drew⟩
end
section
open Go.RowKit

/-- what an entry ends with -/
abbrev wrongP (l : List UInt8) : Ending := .panicked [{ v := .iface 106 (.agg #[.int .i64 (Ent.err l)]), recovered := false }]

set_option maxRecDepth 100000 in
set_option maxHeartbeats 400000 in
theorem reader_fail (s : List UInt8) (r : Nat) (l : List UInt8) (w : World) (hA : At s r w l) :
    Calls Tryz.prog 89 #[.pointer (some ⟨r, 0, none⟩)] w fun e w' => e = wrongP l ∧ At s r w' l ∧ Moved r w w' := by
  have e0 := hA.text
  obtain ⟨k, hk, hd, e1⟩ := hA.place
  have HA := Lib.hid hA; have Hd := Lib.hid hd; clear hA
  cases hl : l with
  | nil =>
    have g1 : (s.length : Int) ≤ (k : Int) := by
      have h := congrArg List.length hd; rw [hl] at h; simp at h; omega
    clear hd
    have Hl := Lib.hid hl; clear hl
    go_enter Tryz.func89, Tryz.ntmps89
    go_wp2_with fail
    go_quiet (fail)
    go_wp2_with fail
    exact ⟨rfl, rfl, by rw [← Hl.out]; exact HA.out.drewN _, (Moved.refl r w).drewN _⟩
  | cons x l2 =>
    have g1 : k < s.length := (drop_cons (hd.trans hl)).2.1
    clear hd
    have Hl := Lib.hid hl; clear hl
    go_enter Tryz.func89, Tryz.ntmps89
    go_wp2_with fail
    go_quiet (fail)
    go_wp2_with fail
    exact ⟨rfl, rfl, by rw [← Hl.out]; exact HA.out.drewN _, (Moved.refl r w).drewN _⟩

set_option maxRecDepth 100000 in
set_option maxHeartbeats 400000 in
theorem reader_must (s : List UInt8) (r : Nat) (l : List UInt8) (c : UInt8) (w : World) (hs : s.length ≤ maxLen) (h0 : c.toNat ≠ 0) (hA : At s r w l) :
    Calls Tryz.prog 63 #[.pointer (some ⟨r, 0, none⟩), .int .u8 (c.toNat : Int)] w fun e w' => e = (if Ent.isB c l then .returned (.tuple #[]) else wrongP (Ent.isL c l)) ∧ At s r w' (Ent.isL c l) ∧ Moved r w w' := by
  have HI := Lib.hid (reader_is s r l c w hs h0 hA)
  clear hA
  cases hb : Ent.isB c l
  · rw [hb] at HI
    go_enter Tryz.func63, Tryz.ntmps63
    go_wp2_with (first
      | (go_at_call 65; refine HI.out.mono ?_; rintro e w2 ⟨rfl, hA2, hM2⟩)
      | (go_at_call 89; refine (reader_fail _ _ _ _ hA2).mono ?_; rintro e w3 ⟨rfl, hA3, hM3⟩))
    exact ⟨rfl, rfl, hA3, hM2.trans hM3⟩
  · rw [hb] at HI
    go_enter Tryz.func63, Tryz.ntmps63
    go_wp2_with (first
      | (go_at_call 65; refine HI.out.mono ?_; rintro e w2 ⟨rfl, hA2, hM2⟩))
    refine bodyPost_end (results_none rfl _ _ _) rfl ?_
    exact ⟨rfl, hA2, hM2⟩

set_option maxRecDepth 100000 in
set_option maxHeartbeats 400000 in
theorem reader_end (s : List UInt8) (r : Nat) (l : List UInt8) (w : World) (hA : At s r w l) :
    Calls Tryz.prog 117 #[.pointer (some ⟨r, 0, none⟩)] w fun e w' => e = wrongP [] ∧ At s r w' [] ∧ Moved r w w' := by
  have e0 := hA.text
  have f1 := hA.free
  obtain ⟨k, hk, hd, e1⟩ := hA.place
  have HA := Lib.hid hA; have Hd := Lib.hid hd; clear hA
  have h2 := HA.out.set (k := s.length) (Nat.le_refl _) (s.length : Int) rfl
  have H2 := Lib.hid h2; clear h2
  rw [List.drop_length] at H2
  go_enter Tryz.func117, Tryz.ntmps117
  go_wp2_with (go_at_call 89; refine (reader_fail _ _ _ _ H2.out).mono ?_; rintro e w3 ⟨rfl, hA3, hM3⟩)
  exact ⟨rfl, rfl, hA3, ((Moved.refl r w).set _).trans hM3⟩
end
section
open Go.RowKit

/-- what a call of the reader hands back: a text, or an end -/
abbrev said (o : Option (List UInt8) × List UInt8) (e : Ending) : Prop := e = match o.1 with | some m => .returned (.string ⟨m.toArray⟩) | none => wrongP o.2

theorem quiet_sign (c : UInt8) (w : World) (n : Nat) (b : Bool) (hb : Ent.sign c = b) :
    Calls Tryz.prog 88 #[.int .u8 (c.toNat : Int)] (w.drewN n) fun e w' => e = .returned (.bool b) ∧ ∃ m, w' = w.drewN m :=
  (entry_sign c _).mono (fun _ _ ⟨h1, h2⟩ => ⟨by rw [h1, hb], n, h2.symm⟩)

theorem mark_split (l1 m l2 : List UInt8) (h : l1 = m ++ l2) (hm : m.all Ent.sign = true) (hl : l2 = [] ∨ ∃ x l3, l2 = x :: l3 ∧ Ent.sign x = false) : l1.takeWhile Ent.sign = m ∧ l1.dropWhile Ent.sign = l2 := by
  have h1 : l2.takeWhile Ent.sign = [] ∧ l2.dropWhile Ent.sign = l2 := by
    rcases hl with rfl | ⟨x, l3, rfl, hx⟩
    · exact ⟨rfl, rfl⟩
    · simp [hx]
  have hm' : ∀ a ∈ m, Ent.sign a = true := List.all_eq_true.1 hm
  rw [h, List.takeWhile_append_of_pos hm', List.dropWhile_append_of_pos hm', h1.1, h1.2]
  simp
theorem place_split (s m l2 : List UInt8) (k0 k : Nat) (hk : k ≤ s.length) (h0 : s.drop k0 = m ++ l2) (h1 : s.drop k = l2) (hk0 : k0 ≤ s.length) : k = k0 + m.length ∧ (⟨s.toArray⟩ : ByteArray).extract k0 k = ⟨m.toArray⟩ := by
  have h2 : k = k0 + m.length := by
    have a := congrArg List.length h0
    have b := congrArg List.length h1
    simp at a b
    omega
  refine ⟨h2, ?_⟩
  rw [extract_any, h0, h2, Nat.add_sub_cancel_left, List.take_left]

set_option maxRecDepth 100000 in
set_option maxHeartbeats 800000 in
theorem reader_mark (s : List UInt8) (r : Nat) (l : List UInt8) (w : World) (hs : s.length ≤ maxLen) (hA : At s r w l) :
    Calls Tryz.prog 62 #[.pointer (some ⟨r, 0, none⟩)] w fun e w' => said (Ent.mark l) e ∧ At s r w' (Ent.mark l).2 ∧ Moved r w w' := by
  have HB := Lib.hid (reader_blanks s r l w hs hA)
  clear hA
  unfold maxLen at hs
  obtain ⟨l1, hl1⟩ : ∃ l1, Ent.bl l = l1 := ⟨_, rfl⟩
  obtain ⟨o, ho⟩ : ∃ o, Ent.mark l = o := ⟨_, rfl⟩
  rw [ho]
  unfold Ent.mark at ho
  rw [hl1] at HB ho
  have Ho := Lib.hid ho
  clear hl1 ho
  go_enter Tryz.func62, Tryz.ntmps62
  go_upto_region 2 with (go_at_call 87; refine HB.out.mono ?_; rintro e w2 ⟨rfl, hA2, hM2⟩)
  have e0 := hA2.text
  obtain ⟨k0, hk0, hd0, e1⟩ := hA2.place
  have HA := Lib.hid hA2; have HM := Lib.hid hM2; have Hd0 := Lib.hid hd0; clear hA2 hM2 hd0 HB
  go_wp2_with fail
  go_loopw [] (fun wr => ∃ l2, ((∃ m, l1 = m ++ l2 ∧ m.all Ent.sign = true)) ∧ At s r wr l2 ∧ Moved r w wr) (fun wr => s.length - placeOf r wr)
  case atStart => exact ⟨l1, ⟨[], rfl, rfl⟩, HA.out, HM.out⟩
  case round =>
    clear HA HM e0 e1
    obtain ⟨l2, hm, hA, hM⟩ := hrel
    obtain ⟨k, hk, hd, e1⟩ := hA.place
    have e0 := hA.text
    have f1 := hA.free
    have HA := Lib.hid hA; have HM := Lib.hid hM; have Hm := Lib.hid hm; clear hA hM hm
    cases hl2 : l2 with
    | nil =>
      have hkn : k = s.length := by
        have h := congrArg List.length hd
        rw [List.length_drop, hl2] at h
        simp at h; omega
      have g1 : decide ((k : Int) < (s.length : Int)) = false := by simp; omega
      have Hd := Lib.hid hd; have Hl2 := Lib.hid hl2; clear hd hl2
      go_wp2_with fail
      go_quiet (fail)
      have HA2 := Lib.hid (HA.out.drewN nq); have HM2 := Lib.hid (HM.out.drewN nq)
      clear HA HM hkn
      obtain ⟨m, hm1, hm2⟩ := Hm.out
      have h3 := mark_split l1 m l2 hm1 hm2 (.inl Hl2.out)
      have h4 := place_split s m l2 k0 k hk (Hd0.out.trans hm1) Hd.out hk0
      have h5 := h4.1
      have h6 := h4.2
      have hO : o = (if m.isEmpty then none else some m, l2) := by rw [← Ho.out, h3.1, h3.2]
      have HO := Lib.hid hO
      clear h3 h4 hm1 hm2 hO
      cases hmm : m with
      | nil =>
        rw [hmm] at HO
        have h7 : k0 = k := by rw [h5, hmm]; simp
        clear h5 h6 hmm
        subst h7
        go_wp2_with (go_at_call 89; refine (reader_fail _ _ _ _ HA2.out).mono ?_; rintro e w3 ⟨rfl, hA3, hM3⟩)
        refine ⟨rfl, ?_⟩
        rw [HO.out]
        exact ⟨rfl, hA3, HM2.out.trans hM3⟩
      | cons y m2 =>
        have g2 : ((k : Int) == (k0 : Int)) = false := by rw [h5, hmm]; simp; omega
        have g3 : (k0 : Int) ≤ (k : Int) := by omega
        have g4 : (k : Int) ≤ (s.length : Int) := by omega
        rw [hmm] at h6 HO
        clear h5 hmm
        go_wp2_with fail
        go_quiet (fail)
        go_wp2_with fail
        go_ret
        rw [HO.out]
        exact ⟨rfl, HA2.out.drewN _, HM2.out.drewN _⟩
    | cons x l3 =>
      obtain ⟨hx, hlt, hd2⟩ := drop_cons (hd.trans hl2)
      have g1 : (k : Int) < (s.length : Int) := by omega
      have hb := byte_at s k x hx
      have hkl : (k : Int) + 1 ≤ 9223372036854775807 := by omega
      have Hd := Lib.hid hd; have Hx := Lib.hid hx; have Hl2 := Lib.hid hl2; have Hd2 := Lib.hid hd2; clear hd hx hd2 hl2
      cases hsx : Ent.sign x
      · have Hsx := Lib.hid hsx; clear hsx
        go_wp2_with fail
        go_quiet (first | (go_at_call 88; exact quiet_sign _ _ _ _ Hsx.out))
        have HA2 := Lib.hid (HA.out.drewN nq); have HM2 := Lib.hid (HM.out.drewN nq)
        clear HA HM
        obtain ⟨m, hm1, hm2⟩ := Hm.out
        have h3 := mark_split l1 m l2 hm1 hm2 (.inr ⟨x, l3, Hl2.out, Hsx.out⟩)
        have h4 := place_split s m l2 k0 k hk (Hd0.out.trans hm1) Hd.out hk0
        have h5 := h4.1
        have h6 := h4.2
        have hO : o = (if m.isEmpty then none else some m, l2) := by rw [← Ho.out, h3.1, h3.2]
        have HO := Lib.hid hO
        clear h3 h4 hm1 hm2 hO
        cases hmm : m with
        | nil =>
          rw [hmm] at HO
          have h7 : k0 = k := by rw [h5, hmm]; simp
          clear h5 h6 hmm
          subst h7
          go_wp2_with (go_at_call 89; refine (reader_fail _ _ _ _ HA2.out).mono ?_; rintro e w3 ⟨rfl, hA3, hM3⟩)
          refine ⟨rfl, ?_⟩
          rw [HO.out]
          exact ⟨rfl, hA3, HM2.out.trans hM3⟩
        | cons y m2 =>
          have g2 : ((k : Int) == (k0 : Int)) = false := by rw [h5, hmm]; simp; omega
          have g3 : (k0 : Int) ≤ (k : Int) := by omega
          have g4 : (k : Int) ≤ (s.length : Int) := by omega
          rw [hmm] at h6 HO
          clear h5 hmm
          go_wp2_with fail
          go_quiet (fail)
          go_wp2_with fail
          go_ret
          rw [HO.out]
          exact ⟨rfl, HA2.out.drewN _, HM2.out.drewN _⟩
      · have Hsx := Lib.hid hsx; clear hsx
        go_wp2_with fail
        go_quiet (first | (go_at_call 88; exact quiet_sign _ _ _ _ Hsx.out))
        go_wp2_with fail
        have h2 := (HA.out.drewN nq).set (k := k + 1) (by omega) ((k : Int) + 1) (by omega)
        rw [Hd2.out] at h2
        refine ⟨⟨l3, ?_, h2, (HM.out.drewN nq).set _⟩, ?_⟩
        · obtain ⟨m, h3, h4⟩ := Hm.out
          exact ⟨m ++ [x], by rw [h3, Hl2.out]; simp, by rw [List.all_append, h4]; simp [Hsx.out]⟩
        have p1 : placeOf r wr = k := by unfold placeOf; rw [e1]; simp
        have p2 : placeOf r ((wr.drewN nq).setCell ⟨r, 1, none⟩ (.int .i64 ((k : Int) + 1))) = k + 1 := by
          unfold placeOf
          rw [World.cell?_setCell_same (wr.drewN nq) _ _ e1]
          simp
        rw [p1, p2]; omega
end
section
open Go.RowKit

theorem index_split (c : UInt8) : ∀ l : List UInt8, (l.dropWhile (fun x => !(x == c)) = [] ∧ Lib.indexByte l c = -1) ∨
    (∃ r, l.dropWhile (fun x => !(x == c)) = c :: r ∧ Lib.indexByte l c = ((l.takeWhile (fun x => !(x == c))).length : Int) ∧ l = l.takeWhile (fun x => !(x == c)) ++ c :: r)
  | [] => .inl ⟨rfl, rfl⟩
  | x :: l => by
    cases hx : (x == c)
    · rcases index_split c l with ⟨h1, h2⟩ | ⟨r, h1, h2, h3⟩
      · exact .inl ⟨by rw [List.dropWhile_cons, hx]; exact h1, by unfold Lib.indexByte; rw [hx, h2]; rfl⟩
      · refine .inr ⟨r, by rw [List.dropWhile_cons, hx]; exact h1, ?_, ?_⟩
        · unfold Lib.indexByte
          rw [hx, h2, List.takeWhile_cons, hx]
          have : (((l.takeWhile (fun x => !(x == c))).length : Int) == -1) = false := by simp
          rw [this]
          simp
        · rw [List.takeWhile_cons, hx]
          simpa using h3
    · have := eq_of_beq hx
      subst this
      exact .inr ⟨l, by simp, by simp [Lib.indexByte], by simp⟩
theorem quiet_find (l : List UInt8) (c : Int) (b : UInt8) (hc : c.toNat.toUInt8 = b) (w : World) (n : Nat) (v : Int) (hv : Lib.indexByte l b = v) :
    Calls Tryz.prog 40 #[.string ⟨l.toArray⟩, .int .u8 c] (w.drewN n) fun e w' => e = .returned (.int .i64 v) ∧ ∃ m, w' = w.drewN m := by
  refine (Tryz.strings_IndexByte _ _ _).mono (fun e w' ⟨h1, h2⟩ => ⟨?_, n, h2⟩)
  rw [h1, hc, hv]

set_option maxRecDepth 100000 in
set_option maxHeartbeats 800000 in
theorem reader_quoted (s : List UInt8) (r : Nat) (l : List UInt8) (w : World) (hs : s.length ≤ maxLen) (hA : At s r w l) :
    Calls Tryz.prog 102 #[.pointer (some ⟨r, 0, none⟩)] w fun e w' => said (Ent.quoted l) e ∧ At s r w' (Ent.quoted l).2 ∧ Moved r w w' := by
  unfold maxLen at hs
  obtain ⟨o, ho⟩ : ∃ o, Ent.quoted l = o := ⟨_, rfl⟩
  rw [ho]
  unfold Ent.quoted at ho
  have e0 := hA.text
  have f1 := hA.free
  obtain ⟨k, hk, hd, e1⟩ := hA.place
  have hx1 := extract_end s k
  rw [hd] at hx1
  have HA := Lib.hid hA; clear hA
  have g3 : (k : Int) ≤ (s.length : Int) := by omega
  rcases index_split 34 l with ⟨h1, h2⟩ | ⟨r2, h1, h2, h3⟩
  · rw [h1] at ho
    have Ho := Lib.hid ho.symm; have H2 := Lib.hid h2; clear ho h1 h2 hd
    go_enter Tryz.func102, Tryz.ntmps102
    go_wp2_with fail
    go_quiet (first | (go_at_call 40; exact quiet_find _ _ 34 rfl _ _ _ H2.out))
    go_wp2_with (go_at_call 117; refine (reader_end _ _ _ _ (HA.out.drewN nq)).mono ?_; rintro e w3 ⟨rfl, hA3, hM3⟩)
    refine ⟨rfl, ?_⟩
    rw [Ho.out]
    exact ⟨rfl, hA3, ((Moved.refl r w).drewN nq).trans hM3⟩
  · rw [h1] at ho
    dsimp only at ho
    obtain ⟨t, ht⟩ : ∃ t, l.takeWhile (fun x => !(x == 34)) = t := ⟨_, rfl⟩
    rw [ht] at h2 h3 ho
    have hlen : k + (t.length + 1) ≤ s.length := by
      have h := congrArg List.length hd
      rw [h3] at h
      simp at h; omega
    have hx2 : (⟨s.toArray⟩ : ByteArray).extract k (k + t.length) = ⟨t.toArray⟩ := by
      rw [extract_any, hd, h3, Nat.add_sub_cancel_left, List.take_left]
    have hx3 : s.drop (k + (t.length + 1)) = r2 := by
      rw [← List.drop_drop, hd, h3, ← List.drop_drop, List.drop_left]; rfl
    have g4 : IntKind.i64.wrap ((k : Int) + (t.length : Int)) = (k : Int) + (t.length : Int) := IntWalk.i64_in _ (by omega)
    have g5 : IntKind.i64.wrap ((t.length : Int) + 1) = (t.length : Int) + 1 := IntWalk.i64_in _ (by omega)
    have g6 : IntKind.i64.wrap ((k : Int) + ((t.length : Int) + 1)) = (k : Int) + ((t.length : Int) + 1) := IntWalk.i64_in _ (by omega)
    have g7 : (k : Int) + (t.length : Int) ≤ (s.length : Int) := by omega
    have Ho := Lib.hid ho.symm; have H2 := Lib.hid h2; have Hx3 := Lib.hid hx3; clear ho h1 h2 hd ht h3 hx3
    go_enter Tryz.func102, Tryz.ntmps102
    go_wp2_with fail
    go_quiet (first | (go_at_call 40; exact quiet_find _ _ 34 rfl _ _ _ H2.out))
    go_wp2_with fail
    go_quiet (fail)
    go_wp2_with fail
    go_ret
    rw [Ho.out]
    refine ⟨congrArg (fun z => Ending.returned (.string z)) hx2, ?_, ((Moved.refl r w).drewN _).set _⟩
    rw [← Hx3.out]
    exact (HA.out.drewN _).set hlen _ (by omega)
end
section
open Go.RowKit

theorem brace_step (d : Nat) (acc : List UInt8) (x : UInt8) (r : List UInt8) (d2 : Nat) (h : (if x == 123 then d + 1 else if x == 125 then d - 1 else d) = d2) :
    Ent.brace d acc (x :: r) = if d2 == 0 then (some acc, r) else Ent.brace d2 (acc ++ [x]) r := by
  rw [Ent.brace, h]

set_option maxRecDepth 100000 in
set_option maxHeartbeats 1600000 in
theorem reader_braced (s : List UInt8) (r : Nat) (l : List UInt8) (w : World) (hs : s.length ≤ 1000000000) (hA : At s r w l) :
    Calls Tryz.prog 103 #[.pointer (some ⟨r, 0, none⟩)] w fun e w' => said (Ent.braced l) e ∧ At s r w' (Ent.braced l).2 ∧ Moved r w w' := by
  obtain ⟨o, ho⟩ : ∃ o, Ent.braced l = o := ⟨_, rfl⟩
  rw [ho]
  unfold Ent.braced at ho
  have e0 := hA.text
  have f1 := hA.free
  obtain ⟨k0, hk0, hd0, e1⟩ := hA.place
  have HA := Lib.hid hA; have Ho := Lib.hid ho.symm; have Hd0 := Lib.hid hd0; clear hA ho hd0
  go_enter Tryz.func103, Tryz.ntmps103
  go_wp2_with fail
  go_loop [3, 4] (fun dv iv => ∃ (d : Nat) (acc l2 : List UInt8), l = acc ++ l2 ∧ d ≤ acc.length + 1 ∧ d ≠ 0 ∧ o = Ent.brace d acc l2 ∧ dv = .int .i64 (d : Int) ∧ iv = .int .i64 ((k0 + acc.length : Nat) : Int)) (fun _ iv => s.length - (intOf iv).toNat)
  case atStart => exact ⟨1, [], l, rfl, by simp, by simp, Ho.out, rfl, by simp⟩
  case round =>
    clear Ho
    obtain ⟨d, acc, l2, hl, hda, hd1, ho, rfl, rfl⟩ := hrel
    have hsl : s.length = k0 + acc.length + l2.length := by
      have h := congrArg List.length Hd0.out
      rw [hl] at h
      simp at h; omega
    obtain ⟨k, hk⟩ : ∃ k, k = k0 + acc.length := ⟨_, rfl⟩
    rw [← hk] at hsl ⊢
    have hdr : s.drop k = l2 := by rw [hk, ← List.drop_drop, Hd0.out, hl, List.drop_left]
    have hacc : (⟨s.toArray⟩ : ByteArray).extract k0 k = ⟨acc.toArray⟩ := by rw [extract_any, Hd0.out, hl, hk, Nat.add_sub_cancel_left, List.take_left]
    have hda' : d ≤ 1000000001 := by omega
    have hk9 : k0 ≤ k := by omega
    have Hl := Lib.hid hl; have Hda := Lib.hid hda; have HO := Lib.hid ho; have Hk := Lib.hid hk
    clear hl hda ho hk
    cases hl2 : l2 with
    | nil =>
      have g1 : (k : Int) = (s.length : Int) := by rw [hsl, hl2]; simp
      have h9 : o = (none, []) := by rw [HO.out, hl2]; rfl
      have H9 := Lib.hid h9; clear h9 hl2 hsl hdr hda' hacc hk9
      go_wp2_with (go_at_call 117; refine (reader_end _ _ _ _ HA.out).mono ?_; rintro e w3 ⟨rfl, hA3, hM3⟩)
      refine ⟨rfl, ?_⟩
      rw [H9.out]
      exact ⟨rfl, hA3, hM3⟩
    | cons x l3 =>
      obtain ⟨hx, hlt, hd2⟩ := drop_cons (hdr.trans hl2)
      have hb := byte_at s k x hx
      have g1 : (k : Int) < (s.length : Int) := by omega
      have g3 : (k0 : Int) ≤ (k : Int) := by omega
      have hkl : (k : Int) + 1 ≤ 9223372036854775807 := by omega
      have hO2 := fun d2 h => brace_step d acc x l3 d2 h
      rw [hl2] at HO
      have HO2 := Lib.hid hO2; have Hd2 := Lib.hid hd2; have Hl2 := Lib.hid hl2; have Hacc := Lib.hid hacc; have Hsl := Lib.hid hsl
      clear hO2 hd2 hl2 hdr hx hacc hsl
      cases h1 : (x == 123)
      · cases h2 : (x == 125)
        · have q1 : ((x.toNat : Int) == 123) = false := by
            have : x.toNat ≠ 123 := fun e => by rw [show x = 123 from UInt8.toNat_inj.1 e] at h1; simp at h1
            simp; omega
          have q2 : ((x.toNat : Int) == 125) = false := by
            have : x.toNat ≠ 125 := fun e => by rw [show x = 125 from UInt8.toNat_inj.1 e] at h2; simp at h2
            simp; omega
          have q3 : ((d : Int) == 0) = false := by simp; omega
          have H1 := Lib.hid h1; have H2 := Lib.hid h2; clear h1 h2
          go_wp2_with fail
          go_round
          case rel =>
            have h := HO2.out d (by rw [H1.out, H2.out]; rfl)
            rw [if_neg (by simpa using hd1)] at h
            exact ⟨d, acc ++ [x], l3, by rw [Hl.out, Hl2.out]; simp, by have := Hda.out; simp; omega, hd1, HO.out.trans h, by go_num, by simp; rw [Hk.out]; omega⟩
          case measure => simp [intOf]; omega
        · have hx5 : x.toNat = 125 := by rw [eq_of_beq h2]; rfl
          have q1 : ((x.toNat : Int) == 123) = false := by rw [hx5]; rfl
          have q2 : ((x.toNat : Int) == 125) = true := by rw [hx5]; rfl
          have H1 := Lib.hid h1; have H2 := Lib.hid h2; have Hx5 := Lib.hid hx5; clear h1 h2 hx5
          obtain ⟨d2, hd3⟩ : ∃ d2, d = d2 + 1 := ⟨d - 1, by omega⟩
          have hw : IntKind.i64.wrap ((d : Int) - 1) = (d2 : Int) := by rw [hd3]; rw [IntWalk.i64_in _ (by omega)]; omega
          have hw2 : (d : Int) - 1 = (d2 : Int) := by omega
          have Hd3 := Lib.hid hd3; clear hd3
          have h := HO2.out d2 (by rw [H1.out, H2.out, Hd3.out]; rfl)
          by_cases hz : d2 = 0
          · have q3 : ((d2 : Int) == 0) = true := by rw [hz]; rfl
            rw [if_pos (by rw [hz]; rfl)] at h
            have h9 := Lib.hid (HO.out.trans h); clear h
            have Hz := Lib.hid hz; clear hz
            go_wp2_with fail
            go_quiet (fail)
            go_wp2_with fail
            go_ret
            rw [h9.out]
            refine ⟨congrArg (fun z => Ending.returned (.string z)) Hacc.out, ?_, ((Moved.refl r w).drewN _).set _⟩
            rw [← Hd2.out]
            exact (HA.out.drewN _).set (by omega) _ (by omega)
          · have q3 : ((d2 : Int) == 0) = false := by simp; omega
            rw [if_neg (by simpa using hz)] at h
            have h9 := Lib.hid (HO.out.trans h); clear h
            go_wp2_with fail
            go_round
            case rel => exact ⟨d2, acc ++ [x], l3, by rw [Hl.out, Hl2.out]; simp, by have := Hda.out; have := Hd3.out; simp; omega, hz, h9.out, by go_num, by simp; rw [Hk.out]; omega⟩
            case measure => simp [intOf]; omega
      · have hx5 : x.toNat = 123 := by rw [eq_of_beq h1]; rfl
        have q1 : ((x.toNat : Int) == 123) = true := by rw [hx5]; rfl
        have H1 := Lib.hid h1; have Hx5 := Lib.hid hx5; clear h1 hx5
        have q3 : (((d : Int) + 1) == 0) = false := by simp; omega
        go_wp2_with fail
        go_round
        case rel =>
          have h := HO2.out (d + 1) (by rw [H1.out]; rfl)
          rw [if_neg (by simp)] at h
          exact ⟨d + 1, acc ++ [x], l3, by rw [Hl.out, Hl2.out]; simp, by have := Hda.out; simp; omega, by omega, HO.out.trans h, by go_num, by simp; rw [Hk.out]; omega⟩
        case measure => simp [intOf]; omega
end
end Go.Proofs.YtanbcokkfbidbaaGreatDoor
