/- The walks of package bib, second part: what is read. The walks of markup.within, markup.Right, slices.Clone of files, (rule.Rule).copy, record.Look. -/
import Derived.Test.YtibinlpbcoihoaaGreatDoorG23
import Derived.BigQuiet
set_option linter.unusedSimpArgs false
set_option linter.unusedVariables false
namespace Go.Proofs.YtibinlpbcoihoaaGreatDoor
open Go.RowKit
theorem ixP_any (l : List (List UInt8)) (y : List UInt8) : decide (0 ≤ ixP (fun s => s == y) l) = l.any (fun s => s == y) := by
  unfold ixP
  cases h : l.any (fun s => s == y)
  · simp
  · simp
set_option maxHeartbeats 400000 in
theorem std_holds (l : List (List UInt8)) (y : List UInt8) (b : Bool) (v : Value) (S : Nat → Prop) (w : World) (hS : SliceIn S 1 RStr w v l) (hb : l.any (fun s => s == y) = b) :
    Calls Tryz.prog 62 #[v, .string ⟨y.toArray⟩] w fun e w' => e = .returned (.bool b) ∧ w = w' := by
  have hb2 := (ixP_any l y).trans hb
  have HS := Lib.hid hS; clear hS hb
  go_enter Tryz.func62, Tryz.ntmps62
  go_wp2_with (go_at_call 91; refine (nm_Index l y v S _ HS.out).mono ?_; rintro e w1 ⟨rfl, rfl⟩)
  go_ret
  exact ⟨by simp [hb2], rfl⟩
end Go.Proofs.YtibinlpbcoihoaaGreatDoor
set_option linter.unusedSimpArgs false
set_option linter.unusedVariables false
namespace Go.Proofs.YtibinlpbcoihoaaGreatDoor
open Go.RowKit
theorem mk_within (n lo hi : Int) (w : World) : Calls Tryz.prog 61 #[.int .i64 n, .int .i64 lo, .int .i64 hi] w fun e w' => e = .returned (.int .i64 (min (max n lo) hi)) ∧ w' = w := by
  go_enter Tryz.func61, Tryz.ntmps61
  go_wp2_with fail
  go_ret
  exact ⟨rfl, rfl⟩
def cfV (a b c d : Int) : Value := .agg #[.int .i64 a, .int .i64 b, .int .i64 c, .int .i64 d]
set_option maxRecDepth 100000 in
set_option maxHeartbeats 1600000 in
theorem markup_right_ok (w : World) : Calls Tryz.prog 47 #[cfV 9 9 9 99] w fun e w' => e = .returned (.bool true) ∧ Below w.heap.size w w' := by
  unfold cfV
  have Hb := Lib.hid (below_new w (.cells #[.int .i64 9, .int .i64 9, .int .i64 9, .int .i64 99] 63))
  go_enter Tryz.func47, Tryz.ntmps47
  go_upto_region 1 with fail
  obtain ⟨wa, hwa⟩ : ∃ W, W = w.alloc (.cells #[.int .i64 9, .int .i64 9, .int .i64 9, .int .i64 99] 63) := ⟨_, rfl⟩
  have HF := Lib.hid (show (wa.cell? ⟨w.heap.size, 0, none⟩ = some (.int .i64 9) ∧ wa.cell? ⟨w.heap.size, 1, none⟩ = some (.int .i64 9)) ∧ wa.cell? ⟨w.heap.size, 2, none⟩ = some (.int .i64 9) ∧ wa.cell? ⟨w.heap.size, 3, none⟩ = some (.int .i64 99) by rw [hwa]; refine ⟨⟨?_, ?_⟩, ?_, ?_⟩ <;> (rw [cell_of_row _ _ _ _ _ _ (heap_alloc_new w _)]; rfl))
  rw [← hwa] at Hb ⊢
  clear hwa
  refine wp_region_any (by kernel_rfl) ?_
  change wpAny _ _ _ _ _ _ _ (World.drew _)
  skip
  refine wpAny_of_held (S := fun W => W = wa.drew) _ _ _ _ ?_
  have hS1 : (fun W => W = wa.drew) wa.drew := rfl
  refine wpAnyH_take (i := 0) (v := ?v1) rfl (by kernel_rfl) (by kernel_rfl) (by kernel_rfl) (fun _ _ _ h => h) (Or.inl ⟨by kernel_rfl, fun W hW => ?h1⟩) (by assumption) ?_
  case h1 => (obtain rfl := hW; obtain ⟨⟨c0, c1⟩, c2, c3⟩ := HF.out; have c0 : wa.drew.cell? _ = _ := c0; have c1 : wa.drew.cell? _ = _ := c1; have c2 : wa.drew.cell? _ = _ := c2; have c3 : wa.drew.cell? _ = _ := c3; go_simp; rfl)
  refine wpAnyH_take (i := 1) (v := ?v2) rfl (by kernel_rfl) (by kernel_rfl) (by kernel_rfl) (fun _ _ _ h => h) (Or.inl ⟨by kernel_rfl, fun W hW => ?h2⟩) (by assumption) ?_
  case h2 => (go_simp; rfl)
  refine wpAnyH_take (i := 2) (v := ?v3) rfl (by kernel_rfl) (by kernel_rfl) (by kernel_rfl) (fun _ _ _ h => h) (Or.inl ⟨by kernel_rfl, fun W hW => ?h3⟩) (by assumption) ?_
  case h3 => (obtain rfl := hW; obtain ⟨⟨c0, c1⟩, c2, c3⟩ := HF.out; have c0 : wa.drew.cell? _ = _ := c0; have c1 : wa.drew.cell? _ = _ := c1; have c2 : wa.drew.cell? _ = _ := c2; have c3 : wa.drew.cell? _ = _ := c3; go_simp; rfl)
  refine wpAnyH_take (i := 4) (v := ?v4) rfl (by kernel_rfl) (by kernel_rfl) (by kernel_rfl) (fun _ _ _ h => h) (Or.inl ⟨by kernel_rfl, fun W hW => ?h4⟩) (by assumption) ?_
  case h4 => (go_simp; rfl)
  refine wpAnyH_take (i := 5) (v := ?v5) rfl (by kernel_rfl) (by kernel_rfl) (by kernel_rfl) (fun _ _ _ h => h) (Or.inl ⟨by kernel_rfl, fun W hW => ?h5⟩) (by assumption) ?_
  case h5 => (obtain rfl := hW; obtain ⟨⟨c0, c1⟩, c2, c3⟩ := HF.out; have c0 : wa.drew.cell? _ = _ := c0; have c1 : wa.drew.cell? _ = _ := c1; have c2 : wa.drew.cell? _ = _ := c2; have c3 : wa.drew.cell? _ = _ := c3; go_simp; rfl)
  refine wpAnyH_take (i := 7) (v := ?v6) rfl (by kernel_rfl) (by kernel_rfl) (by kernel_rfl) (fun _ _ _ h => h) (Or.inl ⟨by kernel_rfl, fun W hW => ?h6⟩) (by assumption) ?_
  case h6 => (go_simp; rfl)
  refine wpAnyH_take (i := 8) (v := ?v7) rfl (by kernel_rfl) (by kernel_rfl) (by kernel_rfl) (fun _ _ _ h => h) (Or.inl ⟨by kernel_rfl, fun W hW => ?h7⟩) (by assumption) ?_
  case h7 => (obtain rfl := hW; obtain ⟨⟨c0, c1⟩, c2, c3⟩ := HF.out; have c0 : wa.drew.cell? _ = _ := c0; have c1 : wa.drew.cell? _ = _ := c1; have c2 : wa.drew.cell? _ = _ := c2; have c3 : wa.drew.cell? _ = _ := c3; go_simp; rfl)
  refine wpAnyH_take (i := 10) (v := ?v8) rfl (by kernel_rfl) (by kernel_rfl) (by kernel_rfl) (fun _ _ _ h => h) (Or.inl ⟨by kernel_rfl, fun W hW => ?h8⟩) (by assumption) ?_
  case h8 => (go_simp; rfl)
  refine wpAnyH_take (i := 11) (v := ?v9) rfl (by kernel_rfl) (by kernel_rfl) (by kernel_rfl) (fun _ _ _ h => h) (Or.inl ⟨by kernel_rfl, fun W hW => ?h9⟩) (by assumption) ?_
  case h9 => (obtain rfl := hW; obtain ⟨⟨c0, c1⟩, c2, c3⟩ := HF.out; have c0 : wa.drew.cell? _ = _ := c0; have c1 : wa.drew.cell? _ = _ := c1; have c2 : wa.drew.cell? _ = _ := c2; have c3 : wa.drew.cell? _ = _ := c3; go_simp; rfl)
  refine wpAnyH_ready (rs := [3]) (by kernel_rfl) (by simp) ?_
  refine AllReadyH.cons rfl (fun K hK => ?_) AllReadyH.nil
  try simp only [Act.put, List.getElem_toArray, List.getElem_cons_zero, List.getElem_cons_succ, List.setIfInBounds_toArray, List.set_cons_zero, List.set_cons_succ]
  go_simp
  go_wp2_with (go_at_call 61; refine (mk_within _ _ _ _).mono ?_; rintro e w' ⟨rfl, hw'⟩; have hw' := hw'.symm; subst hw')
  refine hK.out _ _ (rfl) (fun _ => ?_)
  clear K hK
  try simp only [Act.put, List.getElem_toArray, List.getElem_cons_zero, List.getElem_cons_succ, List.setIfInBounds_toArray, List.set_cons_zero, List.set_cons_succ]
  refine wpAnyH_ready (rs := [6]) (by kernel_rfl) (by simp) ?_
  refine AllReadyH.cons rfl (fun K hK => ?_) AllReadyH.nil
  try simp only [Act.put, List.getElem_toArray, List.getElem_cons_zero, List.getElem_cons_succ, List.setIfInBounds_toArray, List.set_cons_zero, List.set_cons_succ]
  go_simp
  go_wp2_with (go_at_call 61; refine (mk_within _ _ _ _).mono ?_; rintro e w' ⟨rfl, hw'⟩; have hw' := hw'.symm; subst hw')
  refine hK.out _ _ (rfl) (fun _ => ?_)
  clear K hK
  try simp only [Act.put, List.getElem_toArray, List.getElem_cons_zero, List.getElem_cons_succ, List.setIfInBounds_toArray, List.set_cons_zero, List.set_cons_succ]
  refine wpAnyH_ready (rs := [9]) (by kernel_rfl) (by simp) ?_
  refine AllReadyH.cons rfl (fun K hK => ?_) AllReadyH.nil
  try simp only [Act.put, List.getElem_toArray, List.getElem_cons_zero, List.getElem_cons_succ, List.setIfInBounds_toArray, List.set_cons_zero, List.set_cons_succ]
  go_simp
  go_wp2_with (go_at_call 61; refine (mk_within _ _ _ _).mono ?_; rintro e w' ⟨rfl, hw'⟩; have hw' := hw'.symm; subst hw')
  refine hK.out _ _ (rfl) (fun _ => ?_)
  clear K hK
  try simp only [Act.put, List.getElem_toArray, List.getElem_cons_zero, List.getElem_cons_succ, List.setIfInBounds_toArray, List.set_cons_zero, List.set_cons_succ]
  refine wpAnyH_ready (rs := [12]) (by kernel_rfl) (by simp) ?_
  refine AllReadyH.cons rfl (fun K hK => ?_) AllReadyH.nil
  try simp only [Act.put, List.getElem_toArray, List.getElem_cons_zero, List.getElem_cons_succ, List.setIfInBounds_toArray, List.set_cons_zero, List.set_cons_succ]
  go_simp
  go_wp2_with (go_at_call 61; refine (mk_within _ _ _ _).mono ?_; rintro e w' ⟨rfl, hw'⟩; have hw' := hw'.symm; subst hw')
  refine hK.out _ _ (rfl) (fun _ => ?_)
  clear K hK
  try simp only [Act.put, List.getElem_toArray, List.getElem_cons_zero, List.getElem_cons_succ, List.setIfInBounds_toArray, List.set_cons_zero, List.set_cons_succ]
  refine wpAnyH_take (i := 13) (v := ?v10) rfl (by kernel_rfl) (by kernel_rfl) (by kernel_rfl) (fun _ _ _ h => h) (Or.inl ⟨by kernel_rfl, fun W hW => ?h10⟩) (by assumption) ?_
  case h10 => (go_simp; rfl)
  refine wpAnyH_take (i := 14) (v := ?v11) rfl (by kernel_rfl) (by kernel_rfl) (by kernel_rfl) (fun _ _ _ h => h) (Or.inl ⟨by kernel_rfl, fun W hW => ?h11⟩) (by assumption) ?_
  case h11 => (go_simp; rfl)
  refine wpAnyH_take (i := 15) (v := ?v12) rfl (by kernel_rfl) (by kernel_rfl) (by kernel_rfl) (fun _ _ _ h => h) (Or.inl ⟨by kernel_rfl, fun W hW => ?h12⟩) (by assumption) ?_
  case h12 => (go_simp; rfl)
  refine wpAnyH_done (by kernel_rfl) ?_ _
  try simp only [Act.put, List.getElem_toArray, List.getElem_cons_zero, List.getElem_cons_succ, List.setIfInBounds_toArray, List.set_cons_zero, List.set_cons_succ]
  go_wp2_with fail
  go_ret
  exact ⟨by first | rfl | simp, Hb.out.drew⟩
set_option maxRecDepth 100000 in
set_option maxHeartbeats 1600000 in
theorem markup_right_zero (w : World) : Calls Tryz.prog 47 #[cfV 0 0 0 0] w fun e w' => e = .returned (.bool false) ∧ Below w.heap.size w w' := by
  unfold cfV
  have Hb := Lib.hid (below_new w (.cells #[.int .i64 0, .int .i64 0, .int .i64 0, .int .i64 0] 63))
  go_enter Tryz.func47, Tryz.ntmps47
  go_upto_region 1 with fail
  obtain ⟨wa, hwa⟩ : ∃ W, W = w.alloc (.cells #[.int .i64 0, .int .i64 0, .int .i64 0, .int .i64 0] 63) := ⟨_, rfl⟩
  have HF := Lib.hid (show (wa.cell? ⟨w.heap.size, 0, none⟩ = some (.int .i64 0) ∧ wa.cell? ⟨w.heap.size, 1, none⟩ = some (.int .i64 0)) ∧ wa.cell? ⟨w.heap.size, 2, none⟩ = some (.int .i64 0) ∧ wa.cell? ⟨w.heap.size, 3, none⟩ = some (.int .i64 0) by rw [hwa]; refine ⟨⟨?_, ?_⟩, ?_, ?_⟩ <;> (rw [cell_of_row _ _ _ _ _ _ (heap_alloc_new w _)]; rfl))
  rw [← hwa] at Hb ⊢
  clear hwa
  refine wp_region_any (by kernel_rfl) ?_
  change wpAny _ _ _ _ _ _ _ (World.drew _)
  skip
  refine wpAny_of_held (S := fun W => W = wa.drew) _ _ _ _ ?_
  have hS1 : (fun W => W = wa.drew) wa.drew := rfl
  refine wpAnyH_take (i := 0) (v := ?v13) rfl (by kernel_rfl) (by kernel_rfl) (by kernel_rfl) (fun _ _ _ h => h) (Or.inl ⟨by kernel_rfl, fun W hW => ?h13⟩) (by assumption) ?_
  case h13 => (obtain rfl := hW; obtain ⟨⟨c0, c1⟩, c2, c3⟩ := HF.out; have c0 : wa.drew.cell? _ = _ := c0; have c1 : wa.drew.cell? _ = _ := c1; have c2 : wa.drew.cell? _ = _ := c2; have c3 : wa.drew.cell? _ = _ := c3; go_simp; rfl)
  refine wpAnyH_take (i := 1) (v := ?v14) rfl (by kernel_rfl) (by kernel_rfl) (by kernel_rfl) (fun _ _ _ h => h) (Or.inl ⟨by kernel_rfl, fun W hW => ?h14⟩) (by assumption) ?_
  case h14 => (go_simp; rfl)
  refine wpAnyH_take (i := 2) (v := ?v15) rfl (by kernel_rfl) (by kernel_rfl) (by kernel_rfl) (fun _ _ _ h => h) (Or.inl ⟨by kernel_rfl, fun W hW => ?h15⟩) (by assumption) ?_
  case h15 => (obtain rfl := hW; obtain ⟨⟨c0, c1⟩, c2, c3⟩ := HF.out; have c0 : wa.drew.cell? _ = _ := c0; have c1 : wa.drew.cell? _ = _ := c1; have c2 : wa.drew.cell? _ = _ := c2; have c3 : wa.drew.cell? _ = _ := c3; go_simp; rfl)
  refine wpAnyH_take (i := 4) (v := ?v16) rfl (by kernel_rfl) (by kernel_rfl) (by kernel_rfl) (fun _ _ _ h => h) (Or.inl ⟨by kernel_rfl, fun W hW => ?h16⟩) (by assumption) ?_
  case h16 => (go_simp; rfl)
  refine wpAnyH_take (i := 5) (v := ?v17) rfl (by kernel_rfl) (by kernel_rfl) (by kernel_rfl) (fun _ _ _ h => h) (Or.inl ⟨by kernel_rfl, fun W hW => ?h17⟩) (by assumption) ?_
  case h17 => (obtain rfl := hW; obtain ⟨⟨c0, c1⟩, c2, c3⟩ := HF.out; have c0 : wa.drew.cell? _ = _ := c0; have c1 : wa.drew.cell? _ = _ := c1; have c2 : wa.drew.cell? _ = _ := c2; have c3 : wa.drew.cell? _ = _ := c3; go_simp; rfl)
  refine wpAnyH_take (i := 7) (v := ?v18) rfl (by kernel_rfl) (by kernel_rfl) (by kernel_rfl) (fun _ _ _ h => h) (Or.inl ⟨by kernel_rfl, fun W hW => ?h18⟩) (by assumption) ?_
  case h18 => (go_simp; rfl)
  refine wpAnyH_take (i := 8) (v := ?v19) rfl (by kernel_rfl) (by kernel_rfl) (by kernel_rfl) (fun _ _ _ h => h) (Or.inl ⟨by kernel_rfl, fun W hW => ?h19⟩) (by assumption) ?_
  case h19 => (obtain rfl := hW; obtain ⟨⟨c0, c1⟩, c2, c3⟩ := HF.out; have c0 : wa.drew.cell? _ = _ := c0; have c1 : wa.drew.cell? _ = _ := c1; have c2 : wa.drew.cell? _ = _ := c2; have c3 : wa.drew.cell? _ = _ := c3; go_simp; rfl)
  refine wpAnyH_take (i := 10) (v := ?v20) rfl (by kernel_rfl) (by kernel_rfl) (by kernel_rfl) (fun _ _ _ h => h) (Or.inl ⟨by kernel_rfl, fun W hW => ?h20⟩) (by assumption) ?_
  case h20 => (go_simp; rfl)
  refine wpAnyH_take (i := 11) (v := ?v21) rfl (by kernel_rfl) (by kernel_rfl) (by kernel_rfl) (fun _ _ _ h => h) (Or.inl ⟨by kernel_rfl, fun W hW => ?h21⟩) (by assumption) ?_
  case h21 => (obtain rfl := hW; obtain ⟨⟨c0, c1⟩, c2, c3⟩ := HF.out; have c0 : wa.drew.cell? _ = _ := c0; have c1 : wa.drew.cell? _ = _ := c1; have c2 : wa.drew.cell? _ = _ := c2; have c3 : wa.drew.cell? _ = _ := c3; go_simp; rfl)
  refine wpAnyH_ready (rs := [3]) (by kernel_rfl) (by simp) ?_
  refine AllReadyH.cons rfl (fun K hK => ?_) AllReadyH.nil
  try simp only [Act.put, List.getElem_toArray, List.getElem_cons_zero, List.getElem_cons_succ, List.setIfInBounds_toArray, List.set_cons_zero, List.set_cons_succ]
  go_simp
  go_wp2_with (go_at_call 61; refine (mk_within _ _ _ _).mono ?_; rintro e w' ⟨rfl, hw'⟩; have hw' := hw'.symm; subst hw')
  refine hK.out _ _ (rfl) (fun _ => ?_)
  clear K hK
  try simp only [Act.put, List.getElem_toArray, List.getElem_cons_zero, List.getElem_cons_succ, List.setIfInBounds_toArray, List.set_cons_zero, List.set_cons_succ]
  refine wpAnyH_ready (rs := [6]) (by kernel_rfl) (by simp) ?_
  refine AllReadyH.cons rfl (fun K hK => ?_) AllReadyH.nil
  try simp only [Act.put, List.getElem_toArray, List.getElem_cons_zero, List.getElem_cons_succ, List.setIfInBounds_toArray, List.set_cons_zero, List.set_cons_succ]
  go_simp
  go_wp2_with (go_at_call 61; refine (mk_within _ _ _ _).mono ?_; rintro e w' ⟨rfl, hw'⟩; have hw' := hw'.symm; subst hw')
  refine hK.out _ _ (rfl) (fun _ => ?_)
  clear K hK
  try simp only [Act.put, List.getElem_toArray, List.getElem_cons_zero, List.getElem_cons_succ, List.setIfInBounds_toArray, List.set_cons_zero, List.set_cons_succ]
  refine wpAnyH_ready (rs := [9]) (by kernel_rfl) (by simp) ?_
  refine AllReadyH.cons rfl (fun K hK => ?_) AllReadyH.nil
  try simp only [Act.put, List.getElem_toArray, List.getElem_cons_zero, List.getElem_cons_succ, List.setIfInBounds_toArray, List.set_cons_zero, List.set_cons_succ]
  go_simp
  go_wp2_with (go_at_call 61; refine (mk_within _ _ _ _).mono ?_; rintro e w' ⟨rfl, hw'⟩; have hw' := hw'.symm; subst hw')
  refine hK.out _ _ (rfl) (fun _ => ?_)
  clear K hK
  try simp only [Act.put, List.getElem_toArray, List.getElem_cons_zero, List.getElem_cons_succ, List.setIfInBounds_toArray, List.set_cons_zero, List.set_cons_succ]
  refine wpAnyH_ready (rs := [12]) (by kernel_rfl) (by simp) ?_
  refine AllReadyH.cons rfl (fun K hK => ?_) AllReadyH.nil
  try simp only [Act.put, List.getElem_toArray, List.getElem_cons_zero, List.getElem_cons_succ, List.setIfInBounds_toArray, List.set_cons_zero, List.set_cons_succ]
  go_simp
  go_wp2_with (go_at_call 61; refine (mk_within _ _ _ _).mono ?_; rintro e w' ⟨rfl, hw'⟩; have hw' := hw'.symm; subst hw')
  refine hK.out _ _ (rfl) (fun _ => ?_)
  clear K hK
  try simp only [Act.put, List.getElem_toArray, List.getElem_cons_zero, List.getElem_cons_succ, List.setIfInBounds_toArray, List.set_cons_zero, List.set_cons_succ]
  refine wpAnyH_take (i := 13) (v := ?v22) rfl (by kernel_rfl) (by kernel_rfl) (by kernel_rfl) (fun _ _ _ h => h) (Or.inl ⟨by kernel_rfl, fun W hW => ?h22⟩) (by assumption) ?_
  case h22 => (go_simp; rfl)
  refine wpAnyH_take (i := 14) (v := ?v23) rfl (by kernel_rfl) (by kernel_rfl) (by kernel_rfl) (fun _ _ _ h => h) (Or.inl ⟨by kernel_rfl, fun W hW => ?h23⟩) (by assumption) ?_
  case h23 => (go_simp; rfl)
  refine wpAnyH_take (i := 15) (v := ?v24) rfl (by kernel_rfl) (by kernel_rfl) (by kernel_rfl) (fun _ _ _ h => h) (Or.inl ⟨by kernel_rfl, fun W hW => ?h24⟩) (by assumption) ?_
  case h24 => (go_simp; rfl)
  refine wpAnyH_done (by kernel_rfl) ?_ _
  try simp only [Act.put, List.getElem_toArray, List.getElem_cons_zero, List.getElem_cons_succ, List.setIfInBounds_toArray, List.set_cons_zero, List.set_cons_succ]
  go_wp2_with fail
  go_ret
  exact ⟨by first | rfl | simp, Hb.out.drew⟩
end Go.Proofs.YtibinlpbcoihoaaGreatDoor
