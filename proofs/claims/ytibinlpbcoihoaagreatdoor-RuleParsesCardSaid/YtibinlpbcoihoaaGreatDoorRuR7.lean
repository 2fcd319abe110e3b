/- The walk of stetref22.one. -/
import Derived.Test.YtibinlpbcoihoaaGreatDoorRuR6
import Derived.OrdersHeld
set_option linter.unusedSimpArgs false
set_option linter.unusedVariables false
namespace Go.Proofs.YtibinlpbcoihoaaGreatDoor
open Go.RowKit
namespace Ru
theorem one_hit (w0 w1 : List UInt8) (k : Int) (hk : 1 ≤ k ∧ k ≤ 3) (h : w0 = word k) : one [w0, w1] = some ⟨k, w1, []⟩ := by
  have h3 : k = 1 ∨ k = 2 ∨ k = 3 := by omega
  rcases h3 with rfl | rfl | rfl <;> subst h <;> rfl
theorem one_copy (w1 w2 : List UInt8) : one [wCopy, w1, w2] = some ⟨4, w1, w2⟩ := rfl
theorem one_none (w0 : List UInt8) (r : List (List UInt8)) (h : ∀ k : Nat, 1 ≤ k → k ≤ 3 → ¬ (w0 = word k ∧ r.length = 1)) (h4 : ¬ (w0 = wCopy ∧ r.length = 2)) : one (w0 :: r) = none := by
  have e : (w0 :: r).getD 0 [] = w0 := rfl
  have l1 : (w0 :: r).length = r.length + 1 := rfl
  have h1 := h 1 (by decide) (by decide)
  have h2 := h 2 (by decide) (by decide)
  have h3 := h 3 (by decide) (by decide)
  unfold one
  rw [e]
  dsimp only
  unfold kindOf
  have w1 : word ((1 : Nat) : Int) = wMark := rfl
  have w2 : word ((2 : Nat) : Int) = wBib := rfl
  have w3 : word ((3 : Nat) : Int) = wInd := rfl
  rw [w1] at h1; rw [w2] at h2; rw [w3] at h3
  by_cases c1 : w0 = wMark
  · rw [if_pos c1, if_neg (by decide), if_neg (by decide), if_neg]; intro hl; exact h1 ⟨c1, by omega⟩
  · rw [if_neg c1]
    by_cases c2 : w0 = wBib
    · rw [if_pos c2, if_neg (by decide), if_neg (by decide), if_neg]; intro hl; exact h2 ⟨c2, by omega⟩
    · rw [if_neg c2]
      by_cases c3 : w0 = wInd
      · rw [if_pos c3, if_neg (by decide), if_neg (by decide), if_neg]; intro hl; exact h3 ⟨c3, by omega⟩
      · rw [if_neg c3]
        by_cases c4 : w0 = wCopy
        · rw [if_pos c4, if_pos rfl, if_neg]; intro hl; exact h4 ⟨c4, by omega⟩
        · rw [if_neg c4, if_neg (by decide), if_pos rfl]
end Ru
/-- what 'one' tells -/
def oneV (o : Option Ru.Rl) : Value := match o with
  | some x => .tuple #[rlV x, .bool true]
  | none => .tuple #[rlV ⟨0, [], []⟩, .bool false]
theorem set3f (g : Nat) (w : World) (a b c : Value) (i : Nat) (h : w.frozen? ⟨g, i, none⟩ = false) : w.frozen? ⟨g, i, none⟩ = false := h
theorem load_rrule (g : Nat) (k : Int) (a b : List UInt8) (w : World) (h0 : w.cell? ⟨g, 0, none⟩ = some (.int .i64 k)) (h1 : w.cell? ⟨g, 1, none⟩ = some (.string ⟨a.toArray⟩)) (h2 : w.cell? ⟨g, 2, none⟩ = some (.string ⟨b.toArray⟩)) :
    (loadVar 38 ⟨g, 0, none⟩).run Tryz.prog w = .ok (rlV ⟨k, a, b⟩) w := by
  unfold rlV
  go_simp
set_option maxRecDepth 100000 in
set_option maxHeartbeats 3200000 in
theorem ref22_one (w0 : List UInt8) (r : List (List UInt8)) (p : Option Addr) (cap : Nat) (S : Nat → Prop) (w : World) (hS : SliceIn S 1 RStr w (.slice p (r.length + 1) cap) (w0 :: r)) (hl : r.length ≤ 100000) :
    Calls Tryz.prog 27 #[.slice p (r.length + 1) cap] w fun e w' => e = .returned (oneV (Ru.one (w0 :: r))) ∧ Below w.heap.size w w' := by
  obtain ⟨b, off, rfl⟩ : ∃ b o, p = some ⟨b, o, none⟩ := by
    obtain ⟨p', c', he, _, _, hat⟩ := hS
    obtain ⟨b', o', vs, hp, _⟩ := hat 0 w0 rfl
    simp only [Value.slice.injEq] at he
    obtain ⟨rfl, _, _⟩ := he
    exact ⟨b', o', hp⟩
  have HS := Lib.hid hS; have Hl := Lib.hid hl
  clear hS hl
  obtain ⟨n, hn⟩ : ∃ n, n = r.length + 1 := ⟨_, rfl⟩
  rw [← hn] at HS ⊢
  have hpos : 0 < n := by omega
  have Hn := Lib.hid hn
  clear hn
  go_enter Tryz.func27, Tryz.ntmps27
  go_upto_region 1 with fail
  obtain ⟨wa, hwa⟩ : ∃ W, W = w.alloc (.cells #[.int .i64 0, .string ⟨#[]⟩, .string ⟨#[]⟩] 38) := ⟨_, rfl⟩
  have h0 : wa.cell? ⟨w.heap.size, 0, none⟩ = some (.int .i64 0) := by rw [hwa, cell_of_row _ _ _ _ _ _ (heap_alloc_new w _)]; rfl
  have h1 : wa.cell? ⟨w.heap.size, 1, none⟩ = some (.string ⟨#[]⟩) := by rw [hwa, cell_of_row _ _ _ _ _ _ (heap_alloc_new w _)]; rfl
  have h2 : wa.cell? ⟨w.heap.size, 2, none⟩ = some (.string ⟨#[]⟩) := by rw [hwa, cell_of_row _ _ _ _ _ _ (heap_alloc_new w _)]; rfl
  have hf : ∀ i, wa.frozen? ⟨w.heap.size, i, none⟩ = false := by intro i; rw [hwa]; simp
  have hba : Below w.heap.size w wa := by rw [hwa]; exact below_new _ _
  have hlt : w.heap.size < wa.heap.size := by rw [hwa]; simp
  have HF := Lib.hid (show ∀ W, Below wa.heap.size wa W → (W.cell? ⟨w.heap.size, 0, none⟩ = some (.int .i64 0) ∧ W.cell? ⟨w.heap.size, 1, none⟩ = some (.string ⟨#[]⟩) ∧ W.cell? ⟨w.heap.size, 2, none⟩ = some (.string ⟨#[]⟩)) ∧ (W.frozen? ⟨w.heap.size, 0, none⟩ = false ∧ W.frozen? ⟨w.heap.size, 1, none⟩ = false ∧ W.frozen? ⟨w.heap.size, 2, none⟩ = false) from fun W hW =>
    ⟨⟨(hW.cell (p := ⟨w.heap.size, 0, none⟩) hlt).trans h0, (hW.cell (p := ⟨w.heap.size, 1, none⟩) hlt).trans h1, (hW.cell (p := ⟨w.heap.size, 2, none⟩) hlt).trans h2⟩, (frozen_below hW hlt).trans (hf 0), (frozen_below hW hlt).trans (hf 1), (frozen_below hW hlt).trans (hf 2)⟩)
  have HC := Lib.hid (show ∀ W, Below w.heap.size w W → ∀ i x, (w0 :: r)[i]? = some x → W.cell? ⟨b, off + i, none⟩ = some (.string ⟨x.toArray⟩) from fun W hW i x hx => (HS.out.below hW (fun _ _ _ h => h)).cellS hx)
  have HB := Lib.hid (show ∀ W, Below wa.heap.size wa W → Below w.heap.size w W from fun W hW => bseq hba hW)
  have Hba := Lib.hid hba
  rw [← hwa]
  clear hwa h0 h1 h2 hf hba hlt HS
  go_wp2_with fail
  go_loopw [4] (fun kv wr => ∃ k : Nat, 1 ≤ k ∧ k ≤ 4 ∧ kv = .int .i64 (k : Int) ∧ (∀ j : Nat, 1 ≤ j → j < k → ¬ (w0 = Ru.word j ∧ r.length = 1)) ∧ Below wa.heap.size wa wr) (fun kv _ => 4 - (intOf kv).toNat)
  case atStart => exact ⟨1, by decide, by decide, rfl, fun j h1 h2 => by omega, Below.refl _ _⟩
  case round =>
    obtain ⟨k, hk1, hk4, rfl, hno, hb⟩ := hrel
    have Hno := Lib.hid hno; have Hb := Lib.hid hb; have Hk1 := Lib.hid hk1
    clear hno hb hk1
    by_cases hlt : k ≤ 3
    · have hlt' : (k : Int) ≤ 3 := by omega
      have Hwk := Lib.hid (f2_w1 k (by omega))
      have Hlt := Lib.hid hlt
      clear hk4 hlt
      have c0 := HC.out wr (HB.out _ Hb.out) 0 w0 rfl
      rw [Nat.add_zero] at c0
      go_upto_region 4 with fail
      cases hc : (w0 == Ru.word (k : Int)) with
      | false =>
        have Hno2 := Lib.hid (show ∀ j : Nat, 1 ≤ j → j < k + 1 → ¬ (w0 = Ru.word j ∧ r.length = 1) from fun j h1 h2 h3 => by
          rcases Nat.lt_or_ge j k with h4 | h4
          · exact Hno.out j h1 h4 h3
          · have : j = k := by omega
            rw [this] at h3; rw [h3.1] at hc; simp at hc)
        refine wp_region_any (by kernel_rfl) ?_
        change wpAny _ _ _ _ _ _ _ (World.drew _)
        have hS0 : Below wr.heap.size wr wr.drew := (Below.refl _ _).drew
        generalize wr.drew = wd at *
        refine wpAny_of_held (S := fun W => Below wr.heap.size wr W) _ _ _ _ ?_
        have hS1 : Below wr.heap.size wr wd := hS0
        have hS2 : (fun W => Below wr.heap.size wr W) wd := hS0
        refine wpAnyH_take (i := 0) (v := ?v1) rfl (by kernel_rfl) (by kernel_rfl) (by kernel_rfl) (fun _ _ _ h => h) (Or.inl ⟨by kernel_rfl, fun W hW => ?h1⟩) (by assumption) ?_
        case h1 => (go_simp; rfl)
        refine wpAnyH_take (i := 1) (v := ?v2) rfl (by kernel_rfl) (by kernel_rfl) (by kernel_rfl) (fun _ _ _ h => h) (Or.inl ⟨by kernel_rfl, fun W hW => ?h2⟩) (by assumption) ?_
        case h2 => (go_simp; rfl)
        refine wpAnyH_take (i := 2) (v := ?v3) rfl (by kernel_rfl) (by kernel_rfl) (by kernel_rfl) (fun _ _ _ h => h) (Or.inl ⟨by kernel_rfl, fun W hW => ?h3⟩) (by assumption) ?_
        case h3 => (have d0 := (HC.out W (HB.out _ (Hb.out.trans (hW.mono Hb.out.size))) 0 w0 rfl); rw [Nat.add_zero] at d0; go_simp; rfl)
        refine wpAnyH_take (i := 3) (v := ?v4) rfl (by kernel_rfl) (by kernel_rfl) (by kernel_rfl) (fun _ _ _ h => h) (Or.inl ⟨by kernel_rfl, fun W hW => ?h4⟩) (by assumption) ?_
        case h4 => (go_simp; rfl)
        refine wpAnyH_ready (rs := [4]) (by kernel_rfl) (by simp) ?_
        refine AllReadyH.cons rfl (fun K hK => ?_) AllReadyH.nil
        try simp only [Act.put, List.getElem_toArray, List.getElem_cons_zero, List.getElem_cons_succ, List.setIfInBounds_toArray, List.set_cons_zero, List.set_cons_succ]
        go_simp
        go_wp2_with (go_at_call 30; refine (ref22_word (k : Int) _).mono ?_; rintro e w2 ⟨rfl, hb2⟩)
        refine hK.out _ _ (hS1.trans (hb2.mono hS1.size)) (fun _ => ?_)
        clear K hK
        try simp only [Act.put, List.getElem_toArray, List.getElem_cons_zero, List.getElem_cons_succ, List.setIfInBounds_toArray, List.set_cons_zero, List.set_cons_succ]
        refine wpAnyH_take (i := 5) (v := ?v5) rfl (by kernel_rfl) (by kernel_rfl) (by kernel_rfl) (fun _ _ _ h => h) (Or.inl ⟨by kernel_rfl, fun W hW => ?h5⟩) (by assumption) ?_
        case h5 => (go_simp; rfl)
        refine wpAnyH_take (i := 6) (v := ?v6) rfl (by kernel_rfl) (by kernel_rfl) (by kernel_rfl) (fun _ _ _ h => h) (Or.inl ⟨by kernel_rfl, fun W hW => ?h6⟩) (by assumption) ?_
        case h6 => (go_simp; rfl)
        refine wpAnyH_take (i := 7) (v := undef) rfl (by kernel_rfl) (by kernel_rfl) (by kernel_rfl) (fun _ _ _ h => h) (Or.inr ⟨by kernel_rfl, rfl⟩) (by assumption) ?_
        refine wpAnyH_take (i := 8) (v := undef) rfl (by kernel_rfl) (by kernel_rfl) (by kernel_rfl) (fun _ _ _ h => h) (Or.inr ⟨by kernel_rfl, rfl⟩) (by assumption) ?_
        refine wpAnyH_take (i := 9) (v := undef) rfl (by kernel_rfl) (by kernel_rfl) (by kernel_rfl) (fun _ _ _ h => h) (Or.inr ⟨by kernel_rfl, rfl⟩) (by assumption) ?_
        refine wpAnyH_take (i := 10) (v := ?v7) rfl (by kernel_rfl) (by kernel_rfl) (by kernel_rfl) (fun _ _ _ h => h) (Or.inl ⟨by kernel_rfl, fun W hW => ?h7⟩) (by assumption) ?_
        case h7 => (go_simp; rfl)
        refine wpAnyH_done (by kernel_rfl) ?_ _
        try simp only [Act.put, List.getElem_toArray, List.getElem_cons_zero, List.getElem_cons_succ, List.setIfInBounds_toArray, List.set_cons_zero, List.set_cons_succ]
        have Hb2 := Lib.hid (Hb.out.trans ((hS0.trans (hb2.mono hS0.size)).mono Hb.out.size))
        clear hS0 hS1 hS2 hb2 Hb hlt' c0 hc
        go_wp2_with fail
        go_roundw
        case rel => exact ⟨k + 1, by omega, by have := Hlt.out; omega, by first | rfl | rw [Hwk.out], Hno2.out, Hb2.out⟩
        case measure => have := Hlt.out; (try rw [Hwk.out]); simp [intOf]; omega
      | true =>
        by_cases hr : r.length = 1
        · obtain ⟨w1, rfl⟩ : ∃ w1, r = [w1] := by
            cases r with
            | nil => simp at hr
            | cons a t => cases t with
              | nil => exact ⟨a, rfl⟩
              | cons _ _ => simp at hr
          have hn2 : n = 2 := Hn.out
          have Hres := Lib.hid (Ru.one_hit w0 w1 (k : Int) ⟨by have := Hk1.out; omega, by have := Hlt.out; omega⟩ (eq_of_beq hc))
          subst hn2
          clear hr hpos
          refine wp_region_any (by kernel_rfl) ?_
          change wpAny _ _ _ _ _ _ _ (World.drew _)
          have hS0 : Below wr.heap.size wr wr.drew := (Below.refl _ _).drew
          generalize wr.drew = wd at *
          refine wpAny_of_held (S := fun W => Below wr.heap.size wr W) _ _ _ _ ?_
          have hS1 : Below wr.heap.size wr wd := hS0
          have hS2 : (fun W => Below wr.heap.size wr W) wd := hS0
          refine wpAnyH_take (i := 0) (v := ?v8) rfl (by kernel_rfl) (by kernel_rfl) (by kernel_rfl) (fun _ _ _ h => h) (Or.inl ⟨by kernel_rfl, fun W hW => ?h8⟩) (by assumption) ?_
          case h8 => (go_simp; rfl)
          refine wpAnyH_take (i := 1) (v := ?v9) rfl (by kernel_rfl) (by kernel_rfl) (by kernel_rfl) (fun _ _ _ h => h) (Or.inl ⟨by kernel_rfl, fun W hW => ?h9⟩) (by assumption) ?_
          case h9 => (go_simp; rfl)
          refine wpAnyH_take (i := 2) (v := ?v10) rfl (by kernel_rfl) (by kernel_rfl) (by kernel_rfl) (fun _ _ _ h => h) (Or.inl ⟨by kernel_rfl, fun W hW => ?h10⟩) (by assumption) ?_
          case h10 => (have d0 := (HC.out W (HB.out _ (Hb.out.trans (hW.mono Hb.out.size))) 0 w0 rfl); rw [Nat.add_zero] at d0; go_simp; rfl)
          refine wpAnyH_take (i := 3) (v := ?v11) rfl (by kernel_rfl) (by kernel_rfl) (by kernel_rfl) (fun _ _ _ h => h) (Or.inl ⟨by kernel_rfl, fun W hW => ?h11⟩) (by assumption) ?_
          case h11 => (go_simp; rfl)
          refine wpAnyH_ready (rs := [4]) (by kernel_rfl) (by simp) ?_
          refine AllReadyH.cons rfl (fun K hK => ?_) AllReadyH.nil
          try simp only [Act.put, List.getElem_toArray, List.getElem_cons_zero, List.getElem_cons_succ, List.setIfInBounds_toArray, List.set_cons_zero, List.set_cons_succ]
          go_simp
          go_wp2_with (go_at_call 30; refine (ref22_word (k : Int) _).mono ?_; rintro e w2 ⟨rfl, hb2⟩)
          refine hK.out _ _ (hS1.trans (hb2.mono hS1.size)) (fun _ => ?_)
          clear K hK
          try simp only [Act.put, List.getElem_toArray, List.getElem_cons_zero, List.getElem_cons_succ, List.setIfInBounds_toArray, List.set_cons_zero, List.set_cons_succ]
          refine wpAnyH_take (i := 5) (v := ?v12) rfl (by kernel_rfl) (by kernel_rfl) (by kernel_rfl) (fun _ _ _ h => h) (Or.inl ⟨by kernel_rfl, fun W hW => ?h12⟩) (by assumption) ?_
          case h12 => (go_simp; rfl)
          refine wpAnyH_take (i := 6) (v := ?v13) rfl (by kernel_rfl) (by kernel_rfl) (by kernel_rfl) (fun _ _ _ h => h) (Or.inl ⟨by kernel_rfl, fun W hW => ?h13⟩) (by assumption) ?_
          case h13 => (go_simp; rfl)
          refine wpAnyH_take (i := 7) (v := ?v14) rfl (by kernel_rfl) (by kernel_rfl) (by kernel_rfl) (fun _ _ _ h => h) (Or.inl ⟨by kernel_rfl, fun W hW => ?h14⟩) (by assumption) ?_
          case h14 => (go_simp; rfl)
          refine wpAnyH_take (i := 8) (v := ?v15) rfl (by kernel_rfl) (by kernel_rfl) (by kernel_rfl) (fun _ _ _ h => h) (Or.inl ⟨by kernel_rfl, fun W hW => ?h15⟩) (by assumption) ?_
          case h15 => (go_simp; rfl)
          refine wpAnyH_take (i := 9) (v := ?v16) rfl (by kernel_rfl) (by kernel_rfl) (by kernel_rfl) (fun _ _ _ h => h) (Or.inl ⟨by kernel_rfl, fun W hW => ?h16⟩) (by assumption) ?_
          case h16 => (go_simp; rfl)
          refine wpAnyH_take (i := 10) (v := ?v17) rfl (by kernel_rfl) (by kernel_rfl) (by kernel_rfl) (fun _ _ _ h => h) (Or.inl ⟨by kernel_rfl, fun W hW => ?h17⟩) (by assumption) ?_
          case h17 => (go_simp; rfl)
          refine wpAnyH_done (by kernel_rfl) ?_ _
          try simp only [Act.put, List.getElem_toArray, List.getElem_cons_zero, List.getElem_cons_succ, List.setIfInBounds_toArray, List.set_cons_zero, List.set_cons_succ]
          have Hb2 := Lib.hid (Hb.out.trans ((hS0.trans (hb2.mono hS0.size)).mono Hb.out.size))
          clear hS0 hS1 hS2 hb2 Hb hlt' c0 hc
          have c1 := HC.out w2 (HB.out _ Hb2.out) 1 w1 rfl
          obtain ⟨⟨d0, d1, d2⟩, q0, q1, q2⟩ := HF.out w2 Hb2.out
          go_wp2_with fail
          have hs := set3 w.heap.size w2 (.int .i64 (k : Int)) (.string ⟨w1.toArray⟩) (.string ⟨#[]⟩) d0 d1 d2
          refine ret_cell (v := rlV ⟨(k : Int), w1, []⟩) rfl rfl (load_rrule w.heap.size _ _ [] _ hs.1 hs.2.1 hs.2.2) rfl ⟨?_, ?_⟩
          · rw [Hres.out]; rfl
          · exact set3_below (HB.out _ Hb2.out) (Nat.le_refl _) _ _ _
        · have hn2 : ((n : Int) == 2) = false := by rw [beq_eq_false_iff_ne]; have := Hn.out; omega
          have Hno2 := Lib.hid (show ∀ j : Nat, 1 ≤ j → j < k + 1 → ¬ (w0 = Ru.word j ∧ r.length = 1) from fun j h1 h2 h3 => hr h3.2)
          clear hr
          refine wp_region_any (by kernel_rfl) ?_
          change wpAny _ _ _ _ _ _ _ (World.drew _)
          have hS0 : Below wr.heap.size wr wr.drew := (Below.refl _ _).drew
          generalize wr.drew = wd at *
          refine wpAny_of_held (S := fun W => Below wr.heap.size wr W) _ _ _ _ ?_
          have hS1 : Below wr.heap.size wr wd := hS0
          have hS2 : (fun W => Below wr.heap.size wr W) wd := hS0
          refine wpAnyH_take (i := 0) (v := ?v18) rfl (by kernel_rfl) (by kernel_rfl) (by kernel_rfl) (fun _ _ _ h => h) (Or.inl ⟨by kernel_rfl, fun W hW => ?h18⟩) (by assumption) ?_
          case h18 => (go_simp; rfl)
          refine wpAnyH_take (i := 1) (v := ?v19) rfl (by kernel_rfl) (by kernel_rfl) (by kernel_rfl) (fun _ _ _ h => h) (Or.inl ⟨by kernel_rfl, fun W hW => ?h19⟩) (by assumption) ?_
          case h19 => (go_simp; rfl)
          refine wpAnyH_take (i := 2) (v := ?v20) rfl (by kernel_rfl) (by kernel_rfl) (by kernel_rfl) (fun _ _ _ h => h) (Or.inl ⟨by kernel_rfl, fun W hW => ?h20⟩) (by assumption) ?_
          case h20 => (have d0 := (HC.out W (HB.out _ (Hb.out.trans (hW.mono Hb.out.size))) 0 w0 rfl); rw [Nat.add_zero] at d0; go_simp; rfl)
          refine wpAnyH_take (i := 3) (v := ?v21) rfl (by kernel_rfl) (by kernel_rfl) (by kernel_rfl) (fun _ _ _ h => h) (Or.inl ⟨by kernel_rfl, fun W hW => ?h21⟩) (by assumption) ?_
          case h21 => (go_simp; rfl)
          refine wpAnyH_ready (rs := [4]) (by kernel_rfl) (by simp) ?_
          refine AllReadyH.cons rfl (fun K hK => ?_) AllReadyH.nil
          try simp only [Act.put, List.getElem_toArray, List.getElem_cons_zero, List.getElem_cons_succ, List.setIfInBounds_toArray, List.set_cons_zero, List.set_cons_succ]
          go_simp
          go_wp2_with (go_at_call 30; refine (ref22_word (k : Int) _).mono ?_; rintro e w2 ⟨rfl, hb2⟩)
          refine hK.out _ _ (hS1.trans (hb2.mono hS1.size)) (fun _ => ?_)
          clear K hK
          try simp only [Act.put, List.getElem_toArray, List.getElem_cons_zero, List.getElem_cons_succ, List.setIfInBounds_toArray, List.set_cons_zero, List.set_cons_succ]
          refine wpAnyH_take (i := 5) (v := ?v22) rfl (by kernel_rfl) (by kernel_rfl) (by kernel_rfl) (fun _ _ _ h => h) (Or.inl ⟨by kernel_rfl, fun W hW => ?h22⟩) (by assumption) ?_
          case h22 => (go_simp; rfl)
          refine wpAnyH_take (i := 6) (v := ?v23) rfl (by kernel_rfl) (by kernel_rfl) (by kernel_rfl) (fun _ _ _ h => h) (Or.inl ⟨by kernel_rfl, fun W hW => ?h23⟩) (by assumption) ?_
          case h23 => (go_simp; rfl)
          refine wpAnyH_take (i := 7) (v := ?v24) rfl (by kernel_rfl) (by kernel_rfl) (by kernel_rfl) (fun _ _ _ h => h) (Or.inl ⟨by kernel_rfl, fun W hW => ?h24⟩) (by assumption) ?_
          case h24 => (go_simp; rfl)
          refine wpAnyH_take (i := 8) (v := ?v25) rfl (by kernel_rfl) (by kernel_rfl) (by kernel_rfl) (fun _ _ _ h => h) (Or.inl ⟨by kernel_rfl, fun W hW => ?h25⟩) (by assumption) ?_
          case h25 => (go_simp; rfl)
          refine wpAnyH_take (i := 9) (v := ?v26) rfl (by kernel_rfl) (by kernel_rfl) (by kernel_rfl) (fun _ _ _ h => h) (Or.inl ⟨by kernel_rfl, fun W hW => ?h26⟩) (by assumption) ?_
          case h26 => (go_simp; rfl)
          refine wpAnyH_take (i := 10) (v := ?v27) rfl (by kernel_rfl) (by kernel_rfl) (by kernel_rfl) (fun _ _ _ h => h) (Or.inl ⟨by kernel_rfl, fun W hW => ?h27⟩) (by assumption) ?_
          case h27 => (go_simp; rfl)
          refine wpAnyH_done (by kernel_rfl) ?_ _
          try simp only [Act.put, List.getElem_toArray, List.getElem_cons_zero, List.getElem_cons_succ, List.setIfInBounds_toArray, List.set_cons_zero, List.set_cons_succ]
          have Hb2 := Lib.hid (Hb.out.trans ((hS0.trans (hb2.mono hS0.size)).mono Hb.out.size))
          clear hS0 hS1 hS2 hb2 Hb hlt' c0 hc hn2
          go_wp2_with fail
          go_roundw
          case rel => exact ⟨k + 1, by omega, by have := Hlt.out; omega, by first | rfl | rw [Hwk.out], Hno2.out, Hb2.out⟩
          case measure => have := Hlt.out; (try rw [Hwk.out]); simp [intOf]; omega
    · have he : k = 4 := by omega
      subst he
      clear hlt hk4
      have Hno3 := Lib.hid (show ∀ j : Nat, 1 ≤ j → j ≤ 3 → ¬ (w0 = Ru.word j ∧ r.length = 1) from fun j h1 h2 => Hno.out j h1 (by omega))
      have c0 := HC.out wr (HB.out _ Hb.out) 0 w0 rfl
      rw [Nat.add_zero] at c0
      obtain ⟨⟨d0, d1, d2⟩, q0, q1, q2⟩ := HF.out wr Hb.out
      cases hc : (w0 == Ru.wCopy) with
      | false =>
        have Hres := Lib.hid (Ru.one_none w0 r Hno3.out (fun h => by rw [h.1] at hc; simp at hc))
        unfold Ru.wCopy at hc
        go_wp2_with fail
        have hs := set3 w.heap.size wr (.int .i64 0) (.string ⟨#[]⟩) (.string ⟨#[]⟩) d0 d1 d2
        refine ret_cell (v := rlV ⟨0, [], []⟩) rfl rfl (load_rrule w.heap.size _ [] [] _ hs.1 hs.2.1 hs.2.2) rfl ⟨?_, ?_⟩
        · rw [Hres.out]; rfl
        · exact set3_below (HB.out _ Hb.out) (Nat.le_refl _) _ _ _
      | true =>
        by_cases hr : r.length = 2
        · obtain ⟨w1, w2, rfl⟩ : ∃ w1 w2, r = [w1, w2] := by
            cases r with
            | nil => simp at hr
            | cons a t => cases t with
              | nil => simp at hr
              | cons b t => cases t with
                | nil => exact ⟨a, b, rfl⟩
                | cons _ _ => simp at hr
          have hn2 : n = 3 := Hn.out
          have Hres := Lib.hid (show Ru.one (w0 :: [w1, w2]) = some ⟨4, w1, w2⟩ by rw [eq_of_beq hc]; rfl)
          subst hn2
          unfold Ru.wCopy at hc
          have c1 := HC.out wr (HB.out _ Hb.out) 1 w1 rfl
          have c2 := HC.out wr (HB.out _ Hb.out) 2 w2 rfl
          clear hr hpos
          go_upto_region 7 with fail
          clear c0 hc
          refine wp_region_any (by kernel_rfl) ?_
          change wpAny _ _ _ _ _ _ _ (World.drew _)
          skip
          refine wpAny_of_held (S := fun W => Below w.heap.size w W) _ _ _ _ ?_
          have hS1 : (fun W => Below w.heap.size w W) wr.drew := (HB.out _ Hb.out).drew
          have d0' : wr.drew.cell? ⟨w.heap.size, 0, none⟩ = some (.int .i64 0) := d0
          have d1' : wr.drew.cell? ⟨w.heap.size, 1, none⟩ = some (.string ⟨#[]⟩) := d1
          have d2' : wr.drew.cell? ⟨w.heap.size, 2, none⟩ = some (.string ⟨#[]⟩) := d2
          have q0' : wr.drew.frozen? ⟨w.heap.size, 0, none⟩ = false := q0
          have q1' : wr.drew.frozen? ⟨w.heap.size, 1, none⟩ = false := q1
          have q2' : wr.drew.frozen? ⟨w.heap.size, 2, none⟩ = false := q2
          refine wpAnyH_take (i := 0) (v := ?v28) rfl (by kernel_rfl) (by kernel_rfl) (by kernel_rfl) (fun _ _ _ h => h) (Or.inl ⟨by kernel_rfl, fun W hW => ?h28⟩) (by assumption) ?_
          case h28 => (go_simp; rfl)
          refine wpAnyH_take (i := 1) (v := ?v29) rfl (by kernel_rfl) (by kernel_rfl) (by kernel_rfl) (fun _ _ _ h => h) (Or.inl ⟨by kernel_rfl, fun W hW => ?h29⟩) (by assumption) ?_
          case h29 => (go_simp; rfl)
          refine wpAnyH_take (i := 2) (v := ?v30) rfl (by kernel_rfl) (by kernel_rfl) (by kernel_rfl) (fun _ _ _ h => h) (Or.inl ⟨by kernel_rfl, fun W hW => ?h30⟩) (by assumption) ?_
          case h30 => (have c1 := HC.out W hW 1 w1 rfl; have c2 := HC.out W hW 2 w2 rfl; go_simp; rfl)
          refine wpAnyH_take (i := 3) (v := ?v31) rfl (by kernel_rfl) (by kernel_rfl) (by kernel_rfl) (fun _ _ _ h => h) (Or.inl ⟨by kernel_rfl, fun W hW => ?h31⟩) (by assumption) ?_
          case h31 => (go_simp; rfl)
          refine wpAnyH_take (i := 4) (v := ?v32) rfl (by kernel_rfl) (by kernel_rfl) (by kernel_rfl) (fun _ _ _ h => h) (Or.inl ⟨by kernel_rfl, fun W hW => ?h32⟩) (by assumption) ?_
          case h32 => (go_simp; rfl)
          refine wpAnyH_take (i := 5) (v := ?v33) rfl (by kernel_rfl) (by kernel_rfl) (by kernel_rfl) (fun _ _ _ h => h) (Or.inl ⟨by kernel_rfl, fun W hW => ?h33⟩) (by assumption) ?_
          case h33 => (have c1 := HC.out W hW 1 w1 rfl; have c2 := HC.out W hW 2 w2 rfl; go_simp; rfl)
          refine wpAnyH_take (i := 6) (v := ?v34) rfl (by kernel_rfl) (by kernel_rfl) (by kernel_rfl) (fun _ _ _ h => h) (Or.inl ⟨by kernel_rfl, fun W hW => ?h34⟩) (by assumption) ?_
          case h34 => (go_simp; rfl)
          refine wpAnyH_ready (rs := [7]) (by kernel_rfl) (by simp) ?_
          refine AllReadyH.cons rfl (fun K hK => ?_) AllReadyH.nil
          try simp only [Act.put, List.getElem_toArray, List.getElem_cons_zero, List.getElem_cons_succ, List.setIfInBounds_toArray, List.set_cons_zero, List.set_cons_succ]
          go_simp
          refine hK.out _ _ ((set3_below (HB.out _ Hb.out) (Nat.le_refl _) (.int .i64 4) (.string ⟨w1.toArray⟩) (.string ⟨w2.toArray⟩)).drew) (fun _ => ?_)
          clear K hK
          try simp only [Act.put, List.getElem_toArray, List.getElem_cons_zero, List.getElem_cons_succ, List.setIfInBounds_toArray, List.set_cons_zero, List.set_cons_succ]
          refine wpAnyH_take (i := 8) (v := ?v35) rfl (by kernel_rfl) (by kernel_rfl) (by kernel_rfl) (fun _ _ _ h => h) (Or.inl ⟨by kernel_rfl, fun W hW => ?h35⟩) (by assumption) ?_
          case h35 => (go_simp; rfl)
          refine wpAnyH_done (by kernel_rfl) ?_ _
          try simp only [Act.put, List.getElem_toArray, List.getElem_cons_zero, List.getElem_cons_succ, List.setIfInBounds_toArray, List.set_cons_zero, List.set_cons_succ]
          go_wp2_with fail
          have hs := set3 w.heap.size wr.drew (.int .i64 4) (.string ⟨w1.toArray⟩) (.string ⟨w2.toArray⟩) d0' d1' d2'
          refine ret_cell (v := rlV ⟨4, w1, w2⟩) rfl rfl (load_rrule w.heap.size _ _ _ _ hs.1 hs.2.1 hs.2.2) rfl ⟨?_, ?_⟩
          · rw [Hres.out]; rfl
          · exact set3_below (HB.out _ Hb.out).drew (Nat.le_refl _) _ _ _
        · have hn2 : ((n : Int) == 3) = false := by rw [beq_eq_false_iff_ne]; have := Hn.out; omega
          have Hres := Lib.hid (Ru.one_none w0 r Hno3.out (fun h => hr h.2))
          unfold Ru.wCopy at hc
          clear hr
          go_wp2_with fail
          have hs := set3 w.heap.size wr (.int .i64 0) (.string ⟨#[]⟩) (.string ⟨#[]⟩) d0 d1 d2
          refine ret_cell (v := rlV ⟨0, [], []⟩) rfl rfl (load_rrule w.heap.size _ [] [] _ hs.1 hs.2.1 hs.2.2) rfl ⟨?_, ?_⟩
          · rw [Hres.out]; rfl
          · exact set3_below (HB.out _ Hb.out) (Nat.le_refl _) _ _ _
end Go.Proofs.YtibinlpbcoihoaaGreatDoor
