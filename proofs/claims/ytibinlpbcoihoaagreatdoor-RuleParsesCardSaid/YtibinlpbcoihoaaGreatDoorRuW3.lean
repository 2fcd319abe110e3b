/- The walks of rule.Text and rule.Writes. -/
import Derived.Test.YtibinlpbcoihoaaGreatDoorG10
import Derived.Test.YtibinlpbcoihoaaGreatDoorG03
set_option linter.unusedSimpArgs false
set_option linter.unusedVariables false
namespace Go.Proofs.YtibinlpbcoihoaaGreatDoor
open Go.RowKit
theorem word_len (k : Int) : (Ru.word k).length ≤ 6 := by unfold Ru.word; repeat (first | decide | split)
set_option maxRecDepth 100000 in
set_option maxHeartbeats 3200000 in
theorem rule_text (x : Ru.Rl) (w : World) (ha : x.a.length ≤ 100000) (hb : x.b.length ≤ 100000) : Calls Tryz.prog 13 #[rlV x] w fun e w' => e = .returned (.string ⟨(Ru.text x).toArray⟩) ∧ Below w.heap.size w w' := by
  have Hkn := Lib.hid (rule_known x)
  obtain ⟨k, a, b⟩ := x
  unfold rlV at *
  dsimp only at *
  have Ha := Lib.hid ha; have Hb := Lib.hid hb
  clear ha hb
  by_cases hk : Ru.known k = true
  case neg =>
    have hk : Ru.known k = false := by simpa using hk
    have h4 : k ≠ 4 := by rintro rfl; revert hk; decide
    have Hr := Lib.hid (show Ru.text ⟨k, a, b⟩ = [] by unfold Ru.text; dsimp only; rw [if_neg h4, hk]; rfl)
    have g4 : (k == 4) = false := beq_eq_false_iff_ne.2 h4
    have Hk := Lib.hid hk
    clear h4 hk
    go_enter Tryz.func13, Tryz.ntmps13
    go_wp2_with (go_at_call 24; refine (Hkn.out _).mono ?_; rw [Hk.out]; rintro e w' ⟨rfl, hb'⟩; have Hb' := Lib.hid hb'; clear hb')
    go_ret
    exact ⟨ret_str Hr.out.symm, bseq (below_new _ _) Hb'.out⟩
  case pos =>
    rcases Ru.known_cases hk with rfl | rfl | rfl | rfl
    · have Hr := Lib.hid (show Ru.text ⟨1, a, b⟩ = Ru.wMark ++ [32] ++ a by show Ru.wMark ++ 32 :: a = _; simp)
      have s1 : ¬ 9223372036854775807 < Ru.wMark.length + 1 := by decide
      have s2 : ¬ 9223372036854775807 < Ru.wMark.length + 1 + a.length := by have := Ha.out; rw [show Ru.wMark.length = 6 from rfl]; omega
      clear hk
      go_enter Tryz.func13, Tryz.ntmps13
      go_upto_region 3 with fail
      obtain ⟨wa, hwa⟩ : ∃ W, W = w.alloc (.cells #[.int .i64 1, .string ⟨a.toArray⟩, .string ⟨b.toArray⟩] 36) := ⟨_, rfl⟩
      have f0 : wa.cell? ⟨w.heap.size, 0, none⟩ = some (.int .i64 1) := by rw [hwa, cell_of_row _ _ _ _ _ _ (heap_alloc_new w _)]; rfl
      have f1 : wa.cell? ⟨w.heap.size, 1, none⟩ = some (.string ⟨a.toArray⟩) := by rw [hwa, cell_of_row _ _ _ _ _ _ (heap_alloc_new w _)]; rfl
      have f2 : wa.cell? ⟨w.heap.size, 2, none⟩ = some (.string ⟨b.toArray⟩) := by rw [hwa, cell_of_row _ _ _ _ _ _ (heap_alloc_new w _)]; rfl
      have hba : Below w.heap.size w wa := by rw [hwa]; exact below_new _ _
      have hlt : w.heap.size < wa.heap.size := by rw [hwa]; simp
      rw [← hwa]
      clear hwa
      go_upto_region 4 with (go_at_call 24; refine (Hkn.out _).mono ?_; rw [show Ru.known 1 = true from rfl]; rintro e w2 ⟨rfl, hb2⟩)
      have f0' := (hb2.cell (p := ⟨w.heap.size, 0, none⟩) hlt).trans f0
      have f1' := (hb2.cell (p := ⟨w.heap.size, 1, none⟩) hlt).trans f1
      have hlt' : w.heap.size < w2.heap.size := Nat.lt_of_lt_of_le hlt hb2.size
      have hba' := bseq hba hb2
      clear f0 f1 f2 hba hlt hb2
      refine wp_region_any (by kernel_rfl) ?_
      change wpAny _ _ _ _ _ _ _ (World.drew _)
      have hS0 : Below w2.heap.size w2 w2.drew := (Below.refl _ _).drew
      generalize w2.drew = wd at *
      refine wpAny_of_held (S := fun W => Below w2.heap.size w2 W) _ _ _ _ ?_
      have hS1 : Below w2.heap.size w2 wd := hS0
      have hS2 : (fun W => Below w2.heap.size w2 W) wd := hS0
      refine wpAnyH_take (i := 1) (v := ?v1) rfl (by kernel_rfl) (by kernel_rfl) (by kernel_rfl) (fun _ _ _ h => h) (Or.inl ⟨by kernel_rfl, fun W hW => ?h1⟩) (by assumption) ?_
      case h1 => (go_simp; rfl)
      refine wpAnyH_take (i := 2) (v := ?v2) rfl (by kernel_rfl) (by kernel_rfl) (by kernel_rfl) (fun _ _ _ h => h) (Or.inl ⟨by kernel_rfl, fun W hW => ?h2⟩) (by assumption) ?_
      case h2 => (have c0 := (hW.cell (p := ⟨w.heap.size, 0, none⟩) hlt').trans f0'; have c1 := (hW.cell (p := ⟨w.heap.size, 1, none⟩) hlt').trans f1'; go_simp; rfl)
      refine wpAnyH_take (i := 6) (v := ?v3) rfl (by kernel_rfl) (by kernel_rfl) (by kernel_rfl) (fun _ _ _ h => h) (Or.inl ⟨by kernel_rfl, fun W hW => ?h3⟩) (by assumption) ?_
      case h3 => (go_simp; rfl)
      refine wpAnyH_take (i := 7) (v := ?v4) rfl (by kernel_rfl) (by kernel_rfl) (by kernel_rfl) (fun _ _ _ h => h) (Or.inl ⟨by kernel_rfl, fun W hW => ?h4⟩) (by assumption) ?_
      case h4 => (have c0 := (hW.cell (p := ⟨w.heap.size, 0, none⟩) hlt').trans f0'; have c1 := (hW.cell (p := ⟨w.heap.size, 1, none⟩) hlt').trans f1'; go_simp; rfl)
      refine wpAnyH_ready (rs := [0]) (by kernel_rfl) (by simp) ?_
      refine AllReadyH.cons rfl (fun K hK => ?_) AllReadyH.nil
      try simp only [Act.put, List.getElem_toArray, List.getElem_cons_zero, List.getElem_cons_succ, List.setIfInBounds_toArray, List.set_cons_zero, List.set_cons_succ]
      go_simp
      go_wp2_with (go_at_call 20; refine (rule_tools _).mono ?_; rintro e w3 ⟨rfl, _, hb3⟩)
      refine hK.out _ _ (hS1.trans (hb3.mono hS1.size)) (fun _ => ?_)
      clear K hK
      try simp only [Act.put, List.getElem_toArray, List.getElem_cons_zero, List.getElem_cons_succ, List.setIfInBounds_toArray, List.set_cons_zero, List.set_cons_succ]
      refine wpAnyH_take (i := 3) (v := .agg #[.string ⟨Ru.wMark.toArray⟩, .slice (some ⟨wd.heap.size + 1, 0, none⟩) 4 4, .func (.func 34) #[] #[]]) rfl (by kernel_rfl) (by kernel_rfl) (by kernel_rfl) (fun _ _ _ h => h) (Or.inl ⟨by kernel_rfl, fun W hW => by (unfold toolsV; go_simp; rfl)⟩) (by assumption) ?_
      refine wpAnyH_take (i := 4) (v := .string ⟨Ru.wMark.toArray⟩) rfl (by kernel_rfl) (by kernel_rfl) (by kernel_rfl) (fun _ _ _ h => h) (Or.inl ⟨by kernel_rfl, fun W hW => by (go_simp; rfl)⟩) (by assumption) ?_
      refine wpAnyH_take (i := 5) (v := ?v5) rfl (by kernel_rfl) (by kernel_rfl) (by kernel_rfl) (fun _ _ _ h => h) (Or.inl ⟨by kernel_rfl, fun W hW => ?h5⟩) (by assumption) ?_
      case h5 => (go_simp; rw [append_data])
      refine wpAnyH_take (i := 8) (v := ?v6) rfl (by kernel_rfl) (by kernel_rfl) (by kernel_rfl) (fun _ _ _ h => h) (Or.inl ⟨by kernel_rfl, fun W hW => ?h6⟩) (by assumption) ?_
      case h6 => (go_simp; rw [append_data])
      refine wpAnyH_take (i := 9) (v := ?v7) rfl (by kernel_rfl) (by kernel_rfl) (by kernel_rfl) (fun _ _ _ h => h) (Or.inl ⟨by kernel_rfl, fun W hW => ?h7⟩) (by assumption) ?_
      case h7 => (go_simp; rfl)
      refine wpAnyH_done (by kernel_rfl) ?_ _
      have Hb2 := Lib.hid (bseq hba' (hS0.trans (hb3.mono hS0.size)))
      clear hS0 hS1 hS2 hb3 f0' f1' hba' s1 s2
      go_wp2_with fail
      go_ret
      exact ⟨ret_str (by rw [Hr.out]; simp), Hb2.out⟩
    · have Hr := Lib.hid (show Ru.text ⟨2, a, b⟩ = Ru.wBib ++ [32] ++ a by show Ru.wBib ++ 32 :: a = _; simp)
      have s1 : ¬ 9223372036854775807 < Ru.wBib.length + 1 := by decide
      have s2 : ¬ 9223372036854775807 < Ru.wBib.length + 1 + a.length := by have := Ha.out; rw [show Ru.wBib.length = 3 from rfl]; omega
      clear hk
      go_enter Tryz.func13, Tryz.ntmps13
      go_upto_region 3 with fail
      obtain ⟨wa, hwa⟩ : ∃ W, W = w.alloc (.cells #[.int .i64 2, .string ⟨a.toArray⟩, .string ⟨b.toArray⟩] 36) := ⟨_, rfl⟩
      have f0 : wa.cell? ⟨w.heap.size, 0, none⟩ = some (.int .i64 2) := by rw [hwa, cell_of_row _ _ _ _ _ _ (heap_alloc_new w _)]; rfl
      have f1 : wa.cell? ⟨w.heap.size, 1, none⟩ = some (.string ⟨a.toArray⟩) := by rw [hwa, cell_of_row _ _ _ _ _ _ (heap_alloc_new w _)]; rfl
      have f2 : wa.cell? ⟨w.heap.size, 2, none⟩ = some (.string ⟨b.toArray⟩) := by rw [hwa, cell_of_row _ _ _ _ _ _ (heap_alloc_new w _)]; rfl
      have hba : Below w.heap.size w wa := by rw [hwa]; exact below_new _ _
      have hlt : w.heap.size < wa.heap.size := by rw [hwa]; simp
      rw [← hwa]
      clear hwa
      go_upto_region 4 with (go_at_call 24; refine (Hkn.out _).mono ?_; rw [show Ru.known 2 = true from rfl]; rintro e w2 ⟨rfl, hb2⟩)
      have f0' := (hb2.cell (p := ⟨w.heap.size, 0, none⟩) hlt).trans f0
      have f1' := (hb2.cell (p := ⟨w.heap.size, 1, none⟩) hlt).trans f1
      have hlt' : w.heap.size < w2.heap.size := Nat.lt_of_lt_of_le hlt hb2.size
      have hba' := bseq hba hb2
      clear f0 f1 f2 hba hlt hb2
      refine wp_region_any (by kernel_rfl) ?_
      change wpAny _ _ _ _ _ _ _ (World.drew _)
      have hS0 : Below w2.heap.size w2 w2.drew := (Below.refl _ _).drew
      generalize w2.drew = wd at *
      refine wpAny_of_held (S := fun W => Below w2.heap.size w2 W) _ _ _ _ ?_
      have hS1 : Below w2.heap.size w2 wd := hS0
      have hS2 : (fun W => Below w2.heap.size w2 W) wd := hS0
      refine wpAnyH_take (i := 1) (v := ?v8) rfl (by kernel_rfl) (by kernel_rfl) (by kernel_rfl) (fun _ _ _ h => h) (Or.inl ⟨by kernel_rfl, fun W hW => ?h8⟩) (by assumption) ?_
      case h8 => (go_simp; rfl)
      refine wpAnyH_take (i := 2) (v := ?v9) rfl (by kernel_rfl) (by kernel_rfl) (by kernel_rfl) (fun _ _ _ h => h) (Or.inl ⟨by kernel_rfl, fun W hW => ?h9⟩) (by assumption) ?_
      case h9 => (have c0 := (hW.cell (p := ⟨w.heap.size, 0, none⟩) hlt').trans f0'; have c1 := (hW.cell (p := ⟨w.heap.size, 1, none⟩) hlt').trans f1'; go_simp; rfl)
      refine wpAnyH_take (i := 6) (v := ?v10) rfl (by kernel_rfl) (by kernel_rfl) (by kernel_rfl) (fun _ _ _ h => h) (Or.inl ⟨by kernel_rfl, fun W hW => ?h10⟩) (by assumption) ?_
      case h10 => (go_simp; rfl)
      refine wpAnyH_take (i := 7) (v := ?v11) rfl (by kernel_rfl) (by kernel_rfl) (by kernel_rfl) (fun _ _ _ h => h) (Or.inl ⟨by kernel_rfl, fun W hW => ?h11⟩) (by assumption) ?_
      case h11 => (have c0 := (hW.cell (p := ⟨w.heap.size, 0, none⟩) hlt').trans f0'; have c1 := (hW.cell (p := ⟨w.heap.size, 1, none⟩) hlt').trans f1'; go_simp; rfl)
      refine wpAnyH_ready (rs := [0]) (by kernel_rfl) (by simp) ?_
      refine AllReadyH.cons rfl (fun K hK => ?_) AllReadyH.nil
      try simp only [Act.put, List.getElem_toArray, List.getElem_cons_zero, List.getElem_cons_succ, List.setIfInBounds_toArray, List.set_cons_zero, List.set_cons_succ]
      go_simp
      go_wp2_with (go_at_call 20; refine (rule_tools _).mono ?_; rintro e w3 ⟨rfl, _, hb3⟩)
      refine hK.out _ _ (hS1.trans (hb3.mono hS1.size)) (fun _ => ?_)
      clear K hK
      try simp only [Act.put, List.getElem_toArray, List.getElem_cons_zero, List.getElem_cons_succ, List.setIfInBounds_toArray, List.set_cons_zero, List.set_cons_succ]
      refine wpAnyH_take (i := 3) (v := .agg #[.string ⟨Ru.wBib.toArray⟩, .slice (some ⟨wd.heap.size + 1 + 1, 0, none⟩) 2 2, .func (.func 35) #[] #[]]) rfl (by kernel_rfl) (by kernel_rfl) (by kernel_rfl) (fun _ _ _ h => h) (Or.inl ⟨by kernel_rfl, fun W hW => by (unfold toolsV; go_simp; rfl)⟩) (by assumption) ?_
      refine wpAnyH_take (i := 4) (v := .string ⟨Ru.wBib.toArray⟩) rfl (by kernel_rfl) (by kernel_rfl) (by kernel_rfl) (fun _ _ _ h => h) (Or.inl ⟨by kernel_rfl, fun W hW => by (go_simp; rfl)⟩) (by assumption) ?_
      refine wpAnyH_take (i := 5) (v := ?v12) rfl (by kernel_rfl) (by kernel_rfl) (by kernel_rfl) (fun _ _ _ h => h) (Or.inl ⟨by kernel_rfl, fun W hW => ?h12⟩) (by assumption) ?_
      case h12 => (go_simp; rw [append_data])
      refine wpAnyH_take (i := 8) (v := ?v13) rfl (by kernel_rfl) (by kernel_rfl) (by kernel_rfl) (fun _ _ _ h => h) (Or.inl ⟨by kernel_rfl, fun W hW => ?h13⟩) (by assumption) ?_
      case h13 => (go_simp; rw [append_data])
      refine wpAnyH_take (i := 9) (v := ?v14) rfl (by kernel_rfl) (by kernel_rfl) (by kernel_rfl) (fun _ _ _ h => h) (Or.inl ⟨by kernel_rfl, fun W hW => ?h14⟩) (by assumption) ?_
      case h14 => (go_simp; rfl)
      refine wpAnyH_done (by kernel_rfl) ?_ _
      have Hb2 := Lib.hid (bseq hba' (hS0.trans (hb3.mono hS0.size)))
      clear hS0 hS1 hS2 hb3 f0' f1' hba' s1 s2
      go_wp2_with fail
      go_ret
      exact ⟨ret_str (by rw [Hr.out]; simp), Hb2.out⟩
    · have Hr := Lib.hid (show Ru.text ⟨3, a, b⟩ = Ru.wInd ++ [32] ++ a by show Ru.wInd ++ 32 :: a = _; simp)
      have s1 : ¬ 9223372036854775807 < Ru.wInd.length + 1 := by decide
      have s2 : ¬ 9223372036854775807 < Ru.wInd.length + 1 + a.length := by have := Ha.out; rw [show Ru.wInd.length = 5 from rfl]; omega
      clear hk
      go_enter Tryz.func13, Tryz.ntmps13
      go_upto_region 3 with fail
      obtain ⟨wa, hwa⟩ : ∃ W, W = w.alloc (.cells #[.int .i64 3, .string ⟨a.toArray⟩, .string ⟨b.toArray⟩] 36) := ⟨_, rfl⟩
      have f0 : wa.cell? ⟨w.heap.size, 0, none⟩ = some (.int .i64 3) := by rw [hwa, cell_of_row _ _ _ _ _ _ (heap_alloc_new w _)]; rfl
      have f1 : wa.cell? ⟨w.heap.size, 1, none⟩ = some (.string ⟨a.toArray⟩) := by rw [hwa, cell_of_row _ _ _ _ _ _ (heap_alloc_new w _)]; rfl
      have f2 : wa.cell? ⟨w.heap.size, 2, none⟩ = some (.string ⟨b.toArray⟩) := by rw [hwa, cell_of_row _ _ _ _ _ _ (heap_alloc_new w _)]; rfl
      have hba : Below w.heap.size w wa := by rw [hwa]; exact below_new _ _
      have hlt : w.heap.size < wa.heap.size := by rw [hwa]; simp
      rw [← hwa]
      clear hwa
      go_upto_region 4 with (go_at_call 24; refine (Hkn.out _).mono ?_; rw [show Ru.known 3 = true from rfl]; rintro e w2 ⟨rfl, hb2⟩)
      have f0' := (hb2.cell (p := ⟨w.heap.size, 0, none⟩) hlt).trans f0
      have f1' := (hb2.cell (p := ⟨w.heap.size, 1, none⟩) hlt).trans f1
      have hlt' : w.heap.size < w2.heap.size := Nat.lt_of_lt_of_le hlt hb2.size
      have hba' := bseq hba hb2
      clear f0 f1 f2 hba hlt hb2
      refine wp_region_any (by kernel_rfl) ?_
      change wpAny _ _ _ _ _ _ _ (World.drew _)
      have hS0 : Below w2.heap.size w2 w2.drew := (Below.refl _ _).drew
      generalize w2.drew = wd at *
      refine wpAny_of_held (S := fun W => Below w2.heap.size w2 W) _ _ _ _ ?_
      have hS1 : Below w2.heap.size w2 wd := hS0
      have hS2 : (fun W => Below w2.heap.size w2 W) wd := hS0
      refine wpAnyH_take (i := 1) (v := ?v15) rfl (by kernel_rfl) (by kernel_rfl) (by kernel_rfl) (fun _ _ _ h => h) (Or.inl ⟨by kernel_rfl, fun W hW => ?h15⟩) (by assumption) ?_
      case h15 => (go_simp; rfl)
      refine wpAnyH_take (i := 2) (v := ?v16) rfl (by kernel_rfl) (by kernel_rfl) (by kernel_rfl) (fun _ _ _ h => h) (Or.inl ⟨by kernel_rfl, fun W hW => ?h16⟩) (by assumption) ?_
      case h16 => (have c0 := (hW.cell (p := ⟨w.heap.size, 0, none⟩) hlt').trans f0'; have c1 := (hW.cell (p := ⟨w.heap.size, 1, none⟩) hlt').trans f1'; go_simp; rfl)
      refine wpAnyH_take (i := 6) (v := ?v17) rfl (by kernel_rfl) (by kernel_rfl) (by kernel_rfl) (fun _ _ _ h => h) (Or.inl ⟨by kernel_rfl, fun W hW => ?h17⟩) (by assumption) ?_
      case h17 => (go_simp; rfl)
      refine wpAnyH_take (i := 7) (v := ?v18) rfl (by kernel_rfl) (by kernel_rfl) (by kernel_rfl) (fun _ _ _ h => h) (Or.inl ⟨by kernel_rfl, fun W hW => ?h18⟩) (by assumption) ?_
      case h18 => (have c0 := (hW.cell (p := ⟨w.heap.size, 0, none⟩) hlt').trans f0'; have c1 := (hW.cell (p := ⟨w.heap.size, 1, none⟩) hlt').trans f1'; go_simp; rfl)
      refine wpAnyH_ready (rs := [0]) (by kernel_rfl) (by simp) ?_
      refine AllReadyH.cons rfl (fun K hK => ?_) AllReadyH.nil
      try simp only [Act.put, List.getElem_toArray, List.getElem_cons_zero, List.getElem_cons_succ, List.setIfInBounds_toArray, List.set_cons_zero, List.set_cons_succ]
      go_simp
      go_wp2_with (go_at_call 20; refine (rule_tools _).mono ?_; rintro e w3 ⟨rfl, _, hb3⟩)
      refine hK.out _ _ (hS1.trans (hb3.mono hS1.size)) (fun _ => ?_)
      clear K hK
      try simp only [Act.put, List.getElem_toArray, List.getElem_cons_zero, List.getElem_cons_succ, List.setIfInBounds_toArray, List.set_cons_zero, List.set_cons_succ]
      refine wpAnyH_take (i := 3) (v := .agg #[.string ⟨Ru.wInd.toArray⟩, .slice (some ⟨wd.heap.size + 1 + 1 + 1, 0, none⟩) 2 2, .func (.func 36) #[] #[]]) rfl (by kernel_rfl) (by kernel_rfl) (by kernel_rfl) (fun _ _ _ h => h) (Or.inl ⟨by kernel_rfl, fun W hW => by (unfold toolsV; go_simp; rfl)⟩) (by assumption) ?_
      refine wpAnyH_take (i := 4) (v := .string ⟨Ru.wInd.toArray⟩) rfl (by kernel_rfl) (by kernel_rfl) (by kernel_rfl) (fun _ _ _ h => h) (Or.inl ⟨by kernel_rfl, fun W hW => by (go_simp; rfl)⟩) (by assumption) ?_
      refine wpAnyH_take (i := 5) (v := ?v19) rfl (by kernel_rfl) (by kernel_rfl) (by kernel_rfl) (fun _ _ _ h => h) (Or.inl ⟨by kernel_rfl, fun W hW => ?h19⟩) (by assumption) ?_
      case h19 => (go_simp; rw [append_data])
      refine wpAnyH_take (i := 8) (v := ?v20) rfl (by kernel_rfl) (by kernel_rfl) (by kernel_rfl) (fun _ _ _ h => h) (Or.inl ⟨by kernel_rfl, fun W hW => ?h20⟩) (by assumption) ?_
      case h20 => (go_simp; rw [append_data])
      refine wpAnyH_take (i := 9) (v := ?v21) rfl (by kernel_rfl) (by kernel_rfl) (by kernel_rfl) (fun _ _ _ h => h) (Or.inl ⟨by kernel_rfl, fun W hW => ?h21⟩) (by assumption) ?_
      case h21 => (go_simp; rfl)
      refine wpAnyH_done (by kernel_rfl) ?_ _
      have Hb2 := Lib.hid (bseq hba' (hS0.trans (hb3.mono hS0.size)))
      clear hS0 hS1 hS2 hb3 f0' f1' hba' s1 s2
      go_wp2_with fail
      go_ret
      exact ⟨ret_str (by rw [Hr.out]; simp), Hb2.out⟩
    · have Hr := Lib.hid (show Ru.text ⟨4, a, b⟩ = Ru.wCopy ++ [32] ++ a ++ [32] ++ b by show Ru.wCopy ++ 32 :: (a ++ 32 :: b) = _; simp)
      have s1 : ¬ 9223372036854775807 < Ru.wCopy.length + 1 := by decide
      have s2 : ¬ 9223372036854775807 < Ru.wCopy.length + 1 + a.length := by have := Ha.out; rw [show Ru.wCopy.length = 4 from rfl]; omega
      have s3 : ¬ 9223372036854775807 < Ru.wCopy.length + (a.length + 1) + 1 := by have := Ha.out; rw [show Ru.wCopy.length = 4 from rfl]; omega
      have s5 : ¬ 9223372036854775807 < Ru.wCopy.length + (a.length + 1) + 1 + b.length := by have := Ha.out; have := Hb.out; rw [show Ru.wCopy.length = 4 from rfl]; omega
      have s4 : ¬ 9223372036854775807 < Ru.wCopy.length + (a.length + 1 + 1) + b.length := by have := Ha.out; have := Hb.out; rw [show Ru.wCopy.length = 4 from rfl]; omega
      clear hk
      go_enter Tryz.func13, Tryz.ntmps13
      go_upto_region 2 with fail
      obtain ⟨wa, hwa⟩ : ∃ W, W = w.alloc (.cells #[.int .i64 4, .string ⟨a.toArray⟩, .string ⟨b.toArray⟩] 36) := ⟨_, rfl⟩
      have f0 : wa.cell? ⟨w.heap.size, 0, none⟩ = some (.int .i64 4) := by rw [hwa, cell_of_row _ _ _ _ _ _ (heap_alloc_new w _)]; rfl
      have f1 : wa.cell? ⟨w.heap.size, 1, none⟩ = some (.string ⟨a.toArray⟩) := by rw [hwa, cell_of_row _ _ _ _ _ _ (heap_alloc_new w _)]; rfl
      have f2 : wa.cell? ⟨w.heap.size, 2, none⟩ = some (.string ⟨b.toArray⟩) := by rw [hwa, cell_of_row _ _ _ _ _ _ (heap_alloc_new w _)]; rfl
      have hba : Below w.heap.size w wa := by rw [hwa]; exact below_new _ _
      have hlt : w.heap.size < wa.heap.size := by rw [hwa]; simp
      rw [← hwa]
      clear hwa
      refine wp_region_any (by kernel_rfl) ?_
      change wpAny _ _ _ _ _ _ _ (World.drew _)
      have hS0 : Below wa.heap.size wa wa.drew := (Below.refl _ _).drew
      generalize wa.drew = wd at *
      refine wpAny_of_held (S := fun W => Below wa.heap.size wa W) _ _ _ _ ?_
      have hS1 : Below wa.heap.size wa wd := hS0
      have hS2 : (fun W => Below wa.heap.size wa W) wd := hS0
      refine wpAnyH_take (i := 4) (v := ?v22) rfl (by kernel_rfl) (by kernel_rfl) (by kernel_rfl) (fun _ _ _ h => h) (Or.inl ⟨by kernel_rfl, fun W hW => ?h22⟩) (by assumption) ?_
      case h22 => (go_simp; rfl)
      refine wpAnyH_take (i := 5) (v := ?v23) rfl (by kernel_rfl) (by kernel_rfl) (by kernel_rfl) (fun _ _ _ h => h) (Or.inl ⟨by kernel_rfl, fun W hW => ?h23⟩) (by assumption) ?_
      case h23 => (have c1 := (hW.cell (p := ⟨w.heap.size, 1, none⟩) hlt).trans f1; have c2 := (hW.cell (p := ⟨w.heap.size, 2, none⟩) hlt).trans f2; go_simp; rfl)
      refine wpAnyH_take (i := 8) (v := ?v24) rfl (by kernel_rfl) (by kernel_rfl) (by kernel_rfl) (fun _ _ _ h => h) (Or.inl ⟨by kernel_rfl, fun W hW => ?h24⟩) (by assumption) ?_
      case h24 => (go_simp; rfl)
      refine wpAnyH_take (i := 9) (v := ?v25) rfl (by kernel_rfl) (by kernel_rfl) (by kernel_rfl) (fun _ _ _ h => h) (Or.inl ⟨by kernel_rfl, fun W hW => ?h25⟩) (by assumption) ?_
      case h25 => (have c1 := (hW.cell (p := ⟨w.heap.size, 1, none⟩) hlt).trans f1; have c2 := (hW.cell (p := ⟨w.heap.size, 2, none⟩) hlt).trans f2; go_simp; rfl)
      refine wpAnyH_ready (rs := [0]) (by kernel_rfl) (by simp) ?_
      refine AllReadyH.cons rfl (fun K hK => ?_) AllReadyH.nil
      try simp only [Act.put, List.getElem_toArray, List.getElem_cons_zero, List.getElem_cons_succ, List.setIfInBounds_toArray, List.set_cons_zero, List.set_cons_succ]
      go_simp
      go_wp2_with (go_at_call 20; refine (rule_tools _).mono ?_; rintro e w3 ⟨rfl, _, hb3⟩)
      refine hK.out _ _ (hS1.trans (hb3.mono hS1.size)) (fun _ => ?_)
      clear K hK
      try simp only [Act.put, List.getElem_toArray, List.getElem_cons_zero, List.getElem_cons_succ, List.setIfInBounds_toArray, List.set_cons_zero, List.set_cons_succ]
      refine wpAnyH_take (i := 1) (v := .agg #[.string ⟨Ru.wCopy.toArray⟩, .slice none 0 0, .func (.func 37) #[] #[]]) rfl (by kernel_rfl) (by kernel_rfl) (by kernel_rfl) (fun _ _ _ h => h) (Or.inl ⟨by kernel_rfl, fun W hW => by (unfold toolsV; go_simp; rfl)⟩) (by assumption) ?_
      refine wpAnyH_take (i := 2) (v := .string ⟨Ru.wCopy.toArray⟩) rfl (by kernel_rfl) (by kernel_rfl) (by kernel_rfl) (fun _ _ _ h => h) (Or.inl ⟨by kernel_rfl, fun W hW => by (go_simp; rfl)⟩) (by assumption) ?_
      refine wpAnyH_take (i := 3) (v := ?v26) rfl (by kernel_rfl) (by kernel_rfl) (by kernel_rfl) (fun _ _ _ h => h) (Or.inl ⟨by kernel_rfl, fun W hW => ?h26⟩) (by assumption) ?_
      case h26 => (go_simp; rw [append_data])
      refine wpAnyH_take (i := 6) (v := ?v27) rfl (by kernel_rfl) (by kernel_rfl) (by kernel_rfl) (fun _ _ _ h => h) (Or.inl ⟨by kernel_rfl, fun W hW => ?h27⟩) (by assumption) ?_
      case h27 => (go_simp; rw [append_data])
      refine wpAnyH_take (i := 7) (v := ?v28) rfl (by kernel_rfl) (by kernel_rfl) (by kernel_rfl) (fun _ _ _ h => h) (Or.inl ⟨by kernel_rfl, fun W hW => ?h28⟩) (by assumption) ?_
      case h28 => (go_simp; rw [append_data])
      refine wpAnyH_take (i := 10) (v := ?v29) rfl (by kernel_rfl) (by kernel_rfl) (by kernel_rfl) (fun _ _ _ h => h) (Or.inl ⟨by kernel_rfl, fun W hW => ?h29⟩) (by assumption) ?_
      case h29 => (go_simp; rw [append_data])
      refine wpAnyH_take (i := 11) (v := ?v30) rfl (by kernel_rfl) (by kernel_rfl) (by kernel_rfl) (fun _ _ _ h => h) (Or.inl ⟨by kernel_rfl, fun W hW => ?h30⟩) (by assumption) ?_
      case h30 => (go_simp; rfl)
      refine wpAnyH_done (by kernel_rfl) ?_ _
      have Hb2 := Lib.hid (bseq hba (hS0.trans (hb3.mono hS0.size)))
      clear hS0 hS1 hS2 hb3 f0 f1 f2 hba s1 s2 s3 s4 s5
      go_wp2_with fail
      go_ret
      exact ⟨ret_str (by rw [Hr.out]; simp), Hb2.out⟩
end Go.Proofs.YtibinlpbcoihoaaGreatDoor
