/- The walk of stetref14.Job. The walks of the document's answer for a rule: word, May, Writes, Text. The walk of stetref22.Text. -/
import Derived.Test.YtibinlpbcoihoaaGreatDoorG06
import Derived.Test.YtibinlpbcoihoaaGreatDoorG10
import Derived.OrdersHeld
set_option linter.unusedSimpArgs false
set_option linter.unusedVariables false
namespace Go.Proofs.YtibinlpbcoihoaaGreatDoor
open Go.RowKit
theorem ref14_job (s : List UInt8) (w : World) (hs : s.length ≤ 9223372036854775807) :
    Calls Tryz.prog 46 #[.string ⟨s.toArray⟩] w fun e w' => e = .returned (.bool (Ix.jobOk s)) ∧ w' = w := by
  have hj : Ix.jobOk s = (Ix.nameOk s && decide (s.length ≤ 20)) := rfl
  have Hj := Lib.hid hj; clear hj
  go_enter Tryz.func46, Tryz.ntmps46
  go_wp2_with fail
  refine (ref02_name s w hs).mono ?_
  rintro e w' ⟨rfl, hw'⟩
  have hw' := hw'.symm
  subst hw'
  cases hn : Ix.nameOk s with
  | false =>
    have Hv := Lib.hid (show Ix.jobOk s = false by rw [Hj.out, hn]; rfl)
    clear hn
    go_wp2_with fail
    go_ret
    exact ⟨ret_bool Hv.out.symm, rfl⟩
  | true =>
    by_cases h : s.length ≤ 20
    · have g : decide ((s.length : Int) ≤ 20) = true := decide_eq_true (by omega)
      have Hv := Lib.hid (show Ix.jobOk s = true by rw [Hj.out, hn]; simp [h])
      clear hn h
      go_wp2_with fail
      go_ret
      exact ⟨ret_bool Hv.out.symm, rfl⟩
    · have g : decide ((s.length : Int) ≤ 20) = false := decide_eq_false (by omega)
      have Hv := Lib.hid (show Ix.jobOk s = false by rw [Hj.out, hn]; simp; omega)
      clear hn h
      go_wp2_with fail
      go_ret
      exact ⟨ret_bool Hv.out.symm, rfl⟩
end Go.Proofs.YtibinlpbcoihoaaGreatDoor
set_option linter.unusedSimpArgs false
set_option linter.unusedVariables false
namespace Go.Proofs.YtibinlpbcoihoaaGreatDoor
open Go.RowKit
set_option maxRecDepth 100000 in
theorem ref22_word (k : Int) (w : World) : Calls Tryz.prog 30 #[.int .i64 k] w fun e w' => e = .returned (.string ⟨(Ru.word k).toArray⟩) ∧ Below w.heap.size w w' := by
  by_cases h1 : k < 1
  · have Hr := Lib.hid (show Ru.word k = [] by unfold Ru.word; rw [if_neg (by omega), if_neg (by omega), if_neg (by omega), if_neg (by omega)])
    have g1 : decide (k < 1) = true := decide_eq_true h1
    clear h1
    go_enter Tryz.func30, Tryz.ntmps30
    go_wp2_with fail
    go_ret
    exact ⟨ret_str Hr.out.symm, Below.refl _ _⟩
  · by_cases h2 : 4 < k
    · have Hr := Lib.hid (show Ru.word k = [] by unfold Ru.word; rw [if_neg (by omega), if_neg (by omega), if_neg (by omega), if_neg (by omega)])
      have g1 : decide (k < 1) = false := decide_eq_false h1
      have g2 : decide (4 < k) = true := decide_eq_true h2
      clear h1 h2
      go_enter Tryz.func30, Tryz.ntmps30
      go_wp2_with fail
      go_ret
      exact ⟨ret_str Hr.out.symm, Below.refl _ _⟩
    · have h3 : k = 1 ∨ k = 2 ∨ k = 3 ∨ k = 4 := by omega
      clear h1 h2
      rcases h3 with rfl | rfl | rfl | rfl
      · go_enter Tryz.func30, Tryz.ntmps30
        go_wp2_with fail
        go_ret
        exact ⟨ret_str rfl, below_new _ _⟩
      · go_enter Tryz.func30, Tryz.ntmps30
        go_wp2_with fail
        go_ret
        exact ⟨ret_str rfl, below_new _ _⟩
      · go_enter Tryz.func30, Tryz.ntmps30
        go_wp2_with fail
        go_ret
        exact ⟨ret_str rfl, below_new _ _⟩
      · go_enter Tryz.func30, Tryz.ntmps30
        go_wp2_with fail
        go_ret
        exact ⟨ret_str rfl, below_new _ _⟩
set_option maxRecDepth 100000 in
set_option maxHeartbeats 1600000 in
theorem ref22_may (x : Ru.Rl) (w : World) (ha : x.a.length ≤ 100000) (hb : x.b.length ≤ 100000) : Calls Tryz.prog 29 #[rlV x] w fun e w' => e = .returned (.bool (Ru.may x)) ∧ Below w.heap.size w w' := by
  obtain ⟨k, a, b⟩ := x
  unfold rlV at *
  dsimp only at *
  have Ha := Lib.hid (show a.length ≤ 9223372036854775807 by omega)
  have Hb := Lib.hid (show b.length ≤ 9223372036854775807 by omega)
  clear ha hb
  go_enter Tryz.func29, Tryz.ntmps29
  by_cases h4 : k = 4
  · subst h4
    have Hm := Lib.hid (show Ru.may ⟨4, a, b⟩ = (Ix.nameOk a && (Ix.nameOk b && (!(a == b) && !(b == Ru.table)))) from rfl)
    cases hna : Ix.nameOk a with
    | false =>
      rw [hna] at Hm
      have Hna := Lib.hid hna; clear hna
      go_wp2_with (go_at_call 45; with_reducible refine (ref02_name a _ Ha.out).mono ?_; rw [Hna.out]; rintro e w' ⟨rfl, hw'⟩; have hw' := hw'.symm; subst hw')
      go_ret
      exact ⟨ret_bool (by rw [Hm.out]; rfl), below_new _ _⟩
    | true =>
      rw [hna] at Hm
      have Hna := Lib.hid hna; clear hna
      cases hnb : Ix.nameOk b with
      | false =>
        rw [hnb] at Hm
        have Hnb := Lib.hid hnb; clear hnb
        go_wp2_with (go_at_call 45; first | ((with_reducible refine (ref02_name a _ Ha.out).mono ?_); rw [Hna.out]; rintro e w' ⟨rfl, hw'⟩; have hw' := hw'.symm; subst hw') | ((with_reducible refine (ref02_name b _ Hb.out).mono ?_); rw [Hnb.out]; rintro e w' ⟨rfl, hw'⟩; have hw' := hw'.symm; subst hw'))
        go_ret
        exact ⟨ret_bool (by rw [Hm.out]; rfl), below_new _ _⟩
      | true =>
        rw [hnb] at Hm
        have Hnb := Lib.hid hnb; clear hnb
        cases hab : (a == b) with
        | true =>
          rw [hab] at Hm
          go_wp2_with (go_at_call 45; first | ((with_reducible refine (ref02_name a _ Ha.out).mono ?_); rw [Hna.out]; rintro e w' ⟨rfl, hw'⟩; have hw' := hw'.symm; subst hw') | ((with_reducible refine (ref02_name b _ Hb.out).mono ?_); rw [Hnb.out]; rintro e w' ⟨rfl, hw'⟩; have hw' := hw'.symm; subst hw'))
          go_ret
          exact ⟨ret_bool (by rw [Hm.out]; rfl), below_new _ _⟩
        | false =>
          rw [hab] at Hm
          cases hbt : (b == Ru.table) with
          | true =>
            rw [hbt] at Hm
            unfold Ru.table at hbt
            go_wp2_with (go_at_call 45; first | ((with_reducible refine (ref02_name a _ Ha.out).mono ?_); rw [Hna.out]; rintro e w' ⟨rfl, hw'⟩; have hw' := hw'.symm; subst hw') | ((with_reducible refine (ref02_name b _ Hb.out).mono ?_); rw [Hnb.out]; rintro e w' ⟨rfl, hw'⟩; have hw' := hw'.symm; subst hw'))
            go_ret
            exact ⟨ret_bool (by rw [Hm.out]; rfl), below_new _ _⟩
          | false =>
            rw [hbt] at Hm
            unfold Ru.table at hbt
            go_wp2_with (go_at_call 45; first | ((with_reducible refine (ref02_name a _ Ha.out).mono ?_); rw [Hna.out]; rintro e w' ⟨rfl, hw'⟩; have hw' := hw'.symm; subst hw') | ((with_reducible refine (ref02_name b _ Hb.out).mono ?_); rw [Hnb.out]; rintro e w' ⟨rfl, hw'⟩; have hw' := hw'.symm; subst hw'))
            go_ret
            exact ⟨ret_bool (by rw [Hm.out]; rfl), below_new _ _⟩
  · have Hm := Lib.hid (show Ru.may ⟨k, a, b⟩ = (Ru.known k && (Ix.jobOk a && b.isEmpty)) by unfold Ru.may; exact if_neg h4)
    have g4 : (k == 4) = false := beq_eq_false_iff_ne.2 h4
    by_cases h1 : 1 ≤ k
    · have g1 : decide ((1 : Int) ≤ k) = true := decide_eq_true h1
      by_cases h2 : k ≤ 3
      · have g2 : decide (k ≤ 3) = true := decide_eq_true h2
        rw [show Ru.known k = true by unfold Ru.known; simp; omega] at Hm
        clear h4 h1 h2
        cases hj : Ix.jobOk a with
        | false =>
          rw [hj] at Hm
          have Hj := Lib.hid hj; clear hj
          go_wp2_with (go_at_call 46; refine (ref14_job a _ Ha.out).mono ?_; rw [Hj.out]; rintro e w' ⟨rfl, hw'⟩; have hw' := hw'.symm; subst hw')
          go_ret
          exact ⟨ret_bool (by rw [Hm.out]; rfl), below_new _ _⟩
        | true =>
          rw [hj] at Hm
          have Hj := Lib.hid hj; clear hj
          cases b with
          | nil =>
            go_wp2_with (go_at_call 46; refine (ref14_job a _ Ha.out).mono ?_; rw [Hj.out]; rintro e w' ⟨rfl, hw'⟩; have hw' := hw'.symm; subst hw')
            go_ret
            exact ⟨ret_bool (by rw [Hm.out]; rfl), below_new _ _⟩
          | cons c r =>
            go_wp2_with (go_at_call 46; refine (ref14_job a _ Ha.out).mono ?_; rw [Hj.out]; rintro e w' ⟨rfl, hw'⟩; have hw' := hw'.symm; subst hw')
            go_ret
            exact ⟨ret_bool (by rw [Hm.out]; rfl), below_new _ _⟩
      · have g2 : decide (k ≤ 3) = false := decide_eq_false h2
        rw [show Ru.known k = false by unfold Ru.known; simp; omega] at Hm
        clear h4 h1 h2
        go_wp2_with fail
        go_ret
        exact ⟨ret_bool (by rw [Hm.out]; rfl), below_new _ _⟩
    · have g1 : decide ((1 : Int) ≤ k) = false := decide_eq_false h1
      rw [show Ru.known k = false by unfold Ru.known; simp; omega] at Hm
      clear h4 h1
      go_wp2_with fail
      go_ret
      exact ⟨ret_bool (by rw [Hm.out]; rfl), below_new _ _⟩
end Go.Proofs.YtibinlpbcoihoaaGreatDoor
set_option linter.unusedSimpArgs false
set_option linter.unusedVariables false
namespace Go.Proofs.YtibinlpbcoihoaaGreatDoor
open Go.RowKit
set_option maxRecDepth 100000 in
set_option maxHeartbeats 1600000 in
theorem ref22_text (x : Ru.Rl) (w : World) (ha : x.a.length ≤ 100000) (hb : x.b.length ≤ 100000) : Calls Tryz.prog 14 #[rlV x] w fun e w' => e = .returned (.string ⟨(Ru.text x).toArray⟩) ∧ Below w.heap.size w w' := by
  obtain ⟨k, a, b⟩ := x
  unfold rlV at *
  dsimp only at *
  have Ha := Lib.hid ha; have Hb := Lib.hid hb
  clear ha hb
  by_cases hk : Ru.known k = true
  case neg =>
    have Hr := Lib.hid (show Ru.text ⟨k, a, b⟩ = [] by unfold Ru.text Ru.known at *; simp at hk ⊢; rw [if_neg (by omega), if_neg (by omega)])
    by_cases h1 : k < 1
    · have g1 : decide (k < 1) = true := decide_eq_true h1
      clear h1 hk
      go_enter Tryz.func14, Tryz.ntmps14
      go_wp2_with fail
      go_ret
      exact ⟨ret_str Hr.out.symm, below_new _ _⟩
    · have g1 : decide (k < 1) = false := decide_eq_false h1
      have g2 : decide (4 < k) = true := decide_eq_true (by unfold Ru.known at hk; simp at hk; omega)
      clear h1 hk
      go_enter Tryz.func14, Tryz.ntmps14
      go_wp2_with fail
      go_ret
      exact ⟨ret_str Hr.out.symm, below_new _ _⟩
  case pos =>
    have h14 : 1 ≤ k ∧ k < 5 := by unfold Ru.known at hk; simpa using hk
    have Hk := Lib.hid hk
    have g1 : decide (k < 1) = false := decide_eq_false (by omega)
    have g2 : decide (4 < k) = false := decide_eq_false (by omega)
    clear h14 hk
    go_enter Tryz.func14, Tryz.ntmps14
    go_upto_region 3 with fail
    obtain ⟨wa, hwa⟩ : ∃ W, W = w.alloc (.cells #[.int .i64 k, .string ⟨a.toArray⟩, .string ⟨b.toArray⟩] 38) := ⟨_, rfl⟩
    have f0 : wa.cell? ⟨w.heap.size, 0, none⟩ = some (.int .i64 k) := by rw [hwa, cell_of_row _ _ _ _ _ _ (heap_alloc_new w _)]; rfl
    have f1 : wa.cell? ⟨w.heap.size, 1, none⟩ = some (.string ⟨a.toArray⟩) := by rw [hwa, cell_of_row _ _ _ _ _ _ (heap_alloc_new w _)]; rfl
    have f2 : wa.cell? ⟨w.heap.size, 2, none⟩ = some (.string ⟨b.toArray⟩) := by rw [hwa, cell_of_row _ _ _ _ _ _ (heap_alloc_new w _)]; rfl
    have hba : Below w.heap.size w wa := by rw [hwa]; exact below_new _ _
    have hlt : w.heap.size < wa.heap.size := by rw [hwa]; simp
    rw [← hwa]
    clear hwa
    have hwl : (Ru.word k).length ≤ 6 := by unfold Ru.word; repeat (first | decide | split)
    have s1 : ¬ 9223372036854775807 < (Ru.word k).length + 1 := by omega
    have s2 : ¬ 9223372036854775807 < (Ru.word k).length + 1 + a.length := by have := Ha.out; omega
    clear hwl
    refine wp_region_any (by kernel_rfl) ?_
    change wpAny _ _ _ _ _ _ _ (World.drew _)
    have hS0 : Below wa.heap.size wa wa.drew := (Below.refl _ _).drew
    generalize wa.drew = wd at *
    refine wpAny_of_held (S := fun W => Below wa.heap.size wa W) _ _ _ _ ?_
    have hS1 : Below wa.heap.size wa wd := hS0
    have hS2 : (fun W => Below wa.heap.size wa W) wd := hS0
    refine wpAnyH_take (i := 0) (v := ?v0) rfl (by kernel_rfl) (by kernel_rfl) (by kernel_rfl) (fun _ _ _ h => h) (Or.inl ⟨by kernel_rfl, fun W hW => ?h0⟩) (by assumption) ?_
    case h0 => (go_simp; rfl)
    refine wpAnyH_take (i := 1) (v := ?v1) rfl (by kernel_rfl) (by kernel_rfl) (by kernel_rfl) (fun _ _ _ h => h) (Or.inl ⟨by kernel_rfl, fun W hW => ?h1⟩) (by assumption) ?_
    case h1 => (have c0 := (hW.cell (p := ⟨w.heap.size, 0, none⟩) hlt).trans f0; have c1 := (hW.cell (p := ⟨w.heap.size, 1, none⟩) hlt).trans f1; go_simp; rfl)
    refine wpAnyH_take (i := 4) (v := ?v4) rfl (by kernel_rfl) (by kernel_rfl) (by kernel_rfl) (fun _ _ _ h => h) (Or.inl ⟨by kernel_rfl, fun W hW => ?h4⟩) (by assumption) ?_
    case h4 => (go_simp; rfl)
    refine wpAnyH_take (i := 5) (v := ?v5) rfl (by kernel_rfl) (by kernel_rfl) (by kernel_rfl) (fun _ _ _ h => h) (Or.inl ⟨by kernel_rfl, fun W hW => ?h5⟩) (by assumption) ?_
    case h5 => (have c0 := (hW.cell (p := ⟨w.heap.size, 0, none⟩) hlt).trans f0; have c1 := (hW.cell (p := ⟨w.heap.size, 1, none⟩) hlt).trans f1; go_simp; rfl)
    refine wpAnyH_ready (rs := [2]) (by kernel_rfl) (by simp) ?_
    refine AllReadyH.cons rfl (fun K hK => ?_) AllReadyH.nil
    try simp only [Act.put, List.getElem_toArray, List.getElem_cons_zero, List.getElem_cons_succ, List.setIfInBounds_toArray, List.set_cons_zero, List.set_cons_succ]
    go_simp
    go_wp2_with (go_at_call 30; refine (ref22_word k _).mono ?_; rintro e w2 ⟨rfl, hb2⟩)
    refine hK.out _ _ (hS1.trans (hb2.mono hS1.size)) (fun _ => ?_)
    clear K hK
    try simp only [Act.put, List.getElem_toArray, List.getElem_cons_zero, List.getElem_cons_succ, List.setIfInBounds_toArray, List.set_cons_zero, List.set_cons_succ]
    refine wpAnyH_take (i := 3) (v := ?v3) rfl (by kernel_rfl) (by kernel_rfl) (by kernel_rfl) (fun _ _ _ h => h) (Or.inl ⟨by kernel_rfl, fun W hW => ?h3⟩) (by assumption) ?_
    case h3 => (go_simp; rw [append_data])
    refine wpAnyH_take (i := 6) (v := ?v6) rfl (by kernel_rfl) (by kernel_rfl) (by kernel_rfl) (fun _ _ _ h => h) (Or.inl ⟨by kernel_rfl, fun W hW => ?h6⟩) (by assumption) ?_
    case h6 => (go_simp; rw [append_data])
    refine wpAnyH_take (i := 7) (v := ?v7) rfl (by kernel_rfl) (by kernel_rfl) (by kernel_rfl) (fun _ _ _ h => h) (Or.inl ⟨by kernel_rfl, fun W hW => ?h7⟩) (by assumption) ?_
    case h7 => (go_simp; rfl)
    refine wpAnyH_done (by kernel_rfl) ?_ _
    have Hb2 := Lib.hid (bseq hba (hS0.trans (hb2.mono hS0.size)))
    have f2' := ((hS0.trans (hb2.mono hS0.size)).cell (p := ⟨w.heap.size, 2, none⟩) hlt).trans f2
    have f0' := ((hS0.trans (hb2.mono hS0.size)).cell (p := ⟨w.heap.size, 0, none⟩) hlt).trans f0
    clear hS0 hS1 hS2 hb2 f0 f1 f2 hba hlt s1 s2
    by_cases h4 : k = 4
    · subst h4
      have Hr := Lib.hid (show Ru.text ⟨4, a, b⟩ = (Ru.word 4 ++ [32] ++ a) ++ ([32] ++ b) by show Ru.wCopy ++ 32 :: (a ++ 32 :: b) = (Ru.wCopy ++ [32] ++ a) ++ ([32] ++ b); simp)
      have s3 : ¬ 9223372036854775807 < 1 + b.length := by have := Hb.out; omega
      have s4 : ¬ 9223372036854775807 < (Ru.word 4).length + 1 + a.length + (1 + b.length) := by have := Hb.out; have := Ha.out; rw [show (Ru.word 4).length = 4 from rfl]; omega
      go_wp2_with fail
      go_ret
      refine ⟨?_, Hb2.out⟩
      rw [show (⟨#[32]⟩ : ByteArray) = ⟨[32].toArray⟩ from rfl, append_data, append_data]
      exact ret_str (by rw [Hr.out]; simp)
    · have g4 : (k == 4) = false := beq_eq_false_iff_ne.2 h4
      have Hr := Lib.hid (show Ru.text ⟨k, a, b⟩ = Ru.word k ++ [32] ++ a by unfold Ru.text; dsimp only; rw [if_neg h4, if_pos Hk.out]; simp)
      clear h4
      go_wp2_with fail
      go_ret
      exact ⟨ret_str (by rw [Hr.out]; simp), Hb2.out⟩
end Go.Proofs.YtibinlpbcoihoaaGreatDoor
