/- The walk of stetlaw22.Cut: at most 14 rules, with names of at most 40 bytes. -/
import Derived.Test.YtibinlpbcoihoaaGreatDoorG14
import Derived.Test.YtibinlpbcoihoaaGreatDoorAp1
import Derived.Test.YtibinlpbcoihoaaGreatDoorG04
set_option linter.unusedSimpArgs false
set_option linter.unusedVariables false
namespace Go.Proofs.YtibinlpbcoihoaaGreatDoor
open Go.RowKit
def Ru.cut1 (x : Ru.Rl) : Ru.Rl := ⟨x.kind, x.a.take 40, x.b.take 40⟩
def Ru.cutR (l : List Ru.Rl) : List Ru.Rl := (l.take 14).map Ru.cut1
theorem Ru.cutR_len (l : List Ru.Rl) : (Ru.cutR l).length ≤ 14 := by unfold Ru.cutR; rw [List.length_map, List.length_take]; omega
theorem Ru.cutR_each (l : List Ru.Rl) : ∀ x ∈ Ru.cutR l, x.a.length ≤ 40 ∧ x.b.length ≤ 40 := by
  intro x hx
  unfold Ru.cutR at hx
  obtain ⟨y, _, rfl⟩ := List.mem_map.1 hx
  show (y.a.take 40).length ≤ 40 ∧ (y.b.take 40).length ≤ 40
  rw [List.length_take, List.length_take]; omega
theorem Ru.cutR_snoc (l : List Ru.Rl) (k : Nat) (x : Ru.Rl) (h : l[k]? = some x) (hk : k < 14) : Ru.cutR (l.take (k + 1)) = Ru.cutR (l.take k) ++ [Ru.cut1 x] := by
  unfold Ru.cutR
  rw [List.take_take, List.take_take, show min 14 (k + 1) = k + 1 by omega, show min 14 k = k by omega, takeS l k x h, List.map_append]
  rfl
theorem Ru.cutR_take (l : List Ru.Rl) (k : Nat) (h : k = 14 ∨ k = l.length) : Ru.cutR (l.take k) = Ru.cutR l := by
  unfold Ru.cutR
  rw [List.take_take]
  rcases h with rfl | rfl
  · rfl
  · rcases Nat.le_total 14 l.length with h | h
    · rw [Nat.min_eq_left h]
    · rw [Nat.min_eq_right h, List.take_length, List.take_of_length_le h]
set_option maxRecDepth 100000 in
set_option maxHeartbeats 3200000 in
theorem law22_cut (p : Option Addr) (cap : Nat) (l : List Ru.Rl) (w : World) (hE : OSl 3 RRl w p l) (hlm : l.length ≤ maxLen) :
    Calls Tryz.prog 6 #[.slice p l.length cap] w fun e w' => ∃ va, e = .returned va ∧ OwnL w.heap.size 36 3 RRl w' va (Ru.cutR l) ∧ Below w.heap.size w w' := by
  obtain ⟨i0, hi, hz0, hz1, hz2⟩ := info_parts rule_info
  have Hi := Lib.hid hi; have Hz0 := Lib.hid hz0; have Hz1 := Lib.hid hz1; have Hz2 := Lib.hid hz2; clear hi hz0 hz1 hz2
  have Hat := Lib.hid hE
  clear hE
  have hO := Lib.hid (OwnL.made w.heap.size 36 3 RRl w (Nat.le_refl _))
  have hB := Lib.hid (below_new w (.cells #[] 36))
  have Hlm := Lib.hid hlm; clear hlm
  go_enter Tryz.func6, Tryz.ntmps6
  go_wp2_with fail
  go_loopw [3, 4] (fun ov iv wr => ∃ k : Nat, k ≤ l.length ∧ k ≤ 14 ∧ iv = .int .i64 (k : Int) ∧ OwnL w.heap.size 36 3 RRl wr ov (Ru.cutR (l.take k)) ∧ Below w.heap.size w wr) (fun _ iv _ => l.length - (intOf iv).toNat)
  case atStart => exact ⟨0, Nat.zero_le _, Nat.zero_le _, rfl, hO.out, hB.out⟩
  case round =>
    clear hO hB
    obtain ⟨k, hk, hk30, rfl, hO, hb⟩ := hrel
    obtain ⟨po, co, rfl⟩ := hO.form
    have HO := Lib.hid hO; have Hb := Lib.hid hb
    clear hO hb
    by_cases hlt : k < l.length
    · by_cases h30 : k < 14
      · obtain ⟨x, hx⟩ : ∃ x, l[k]? = some x := ⟨_, List.getElem?_eq_getElem hlt⟩
        have hsn := Ru.cutR_snoc l k x hx h30
        obtain ⟨L, hL⟩ : ∃ L, L = Ru.cutR (l.take k) := ⟨_, rfl⟩
        have hLn : L.length ≤ 14 := by rw [hL]; exact Ru.cutR_len _
        rw [← hL] at HO hsn ⊢
        obtain ⟨a, b, o, sp, vs, rfl, hadr, hbw, hR, hc⟩ := Hat.out k x hx
        have hR : vs = _ := hR
        subst hR
        obtain ⟨ki, na, nb⟩ := x
        have e0 : wr.cell? ⟨b, o, sp⟩ = some (.int .i64 ki) := (Hb.out.cell (p := ⟨b, o, sp⟩) hbw).trans (hc 0 _ rfl)
        have e1 : wr.cell? ⟨b, o + 1, none⟩ = some (.string ⟨na.toArray⟩) := (Hb.out.cell (p := ⟨b, o + 1, none⟩) hbw).trans (hc 1 _ rfl)
        have e2 : wr.cell? ⟨b, o + 2, none⟩ = some (.string ⟨nb.toArray⟩) := (Hb.out.cell (p := ⟨b, o + 2, none⟩) hbw).trans (hc 2 _ rfl)
        have Hw0 := Lib.hid (hc 0 _ rfl); have Hw1 := Lib.hid (hc 1 _ rfl); have Hw2 := Lib.hid (hc 2 _ rfl); have Hbw := Lib.hid hbw
        have hlt' : (k : Int) < (l.length : Int) := by omega
        have h30' : (k : Int) < 14 := by omega
        obtain ⟨q, h1, h2, h3, h4⟩ := cut_textN 40 na
        have hq0 : (0 : Int) ≤ (q : Int) := by omega
        have h5 : min (na.length : Int) 40 = (q : Int) := by simpa using h1
        obtain ⟨r, r1, r2, r3, r4⟩ := cut_textN 40 nb
        have hr0 : (0 : Int) ≤ (r : Int) := by omega
        have r5 : min (nb.length : Int) 40 = (r : Int) := by simpa using r1
        have hbr : b < wr.heap.size := by have := Hb.out.size; omega
        obtain ⟨fl, hown, hrep⟩ := HO.out
        have hnm : L.length + 1 ≤ maxLen := by unfold maxLen; omega
        have hn24 : (L.length + 1) * 40 ≤ 140737488355328 := by omega
        obtain ⟨k1, hk1⟩ : ∃ k1, k1 = k + 1 := ⟨_, rfl⟩
        have hwk : wrap64 ((k : Int) + 1) = (k1 : Int) := by unfold wrap64; omega
        have Hbr := Lib.hid hbr; have Hown := Lib.hid hown; have Hrep := Lib.hid hrep; have Hnm := Lib.hid hnm; have Hn24 := Lib.hid hn24; have E0 := Lib.hid e0; have E1 := Lib.hid e1; have E2 := Lib.hid e2; have Hsn := Lib.hid hsn; have Hlt := Lib.hid hlt; have H30 := Lib.hid h30; have Hk1 := Lib.hid hk1
        clear h1 r1 hc hx hbw hbr hown hrep hnm hn24 e0 e1 e2 hsn hlt h30 hL hLn hk1
        go_upto_region 5 with fail
        refine wp_region_any (by kernel_rfl) ?_
        change wpAny _ _ _ _ _ _ _ (World.drew _)
        have F0 := Lib.hid (show wr.drew.cell? ⟨b, o, sp⟩ = _ from E0.out); have F1 := Lib.hid (show wr.drew.cell? ⟨b, o + 1, none⟩ = _ from E1.out); have F2 := Lib.hid (show wr.drew.cell? ⟨b, o + 2, none⟩ = _ from E2.out)
        have HOW := Lib.hid (own_below Hown.out (show Below wr.heap.size wr wr.drew from (Below.refl _ _).drew))
        have HBd := Lib.hid (Hb.out.drew)
        have HBr := Lib.hid (show b < wr.drew.heap.size from Hbr.out)
        clear E0 E1 E2 Hown Hb Hbr HO
        generalize wr.drew = wd' at *
        have hS0 : Below wd'.heap.size wd' wd' := Below.refl _ _
        refine wpAny_of_held (S := fun W => W.cell? ⟨b, o, sp⟩ = some (.int .i64 ki) ∧ W.cell? ⟨b, o + 1, none⟩ = some (.string ⟨na.toArray⟩) ∧ W.cell? ⟨b, o + 2, none⟩ = some (.string ⟨nb.toArray⟩)) _ _ _ _ ?_
        have hS1 : (fun W : World => W.cell? ⟨b, o, sp⟩ = some (.int .i64 ki) ∧ W.cell? ⟨b, o + 1, none⟩ = some (.string ⟨na.toArray⟩) ∧ W.cell? ⟨b, o + 2, none⟩ = some (.string ⟨nb.toArray⟩)) wd' := ⟨F0.out, F1.out, F2.out⟩
        dsimp only at hS1
        refine wpAnyH_take (i := 0) (v := ?v0) rfl (by kernel_rfl) (by kernel_rfl) (by kernel_rfl) (fun _ _ _ h => h) (Or.inl ⟨by kernel_rfl, fun W hW => ?h0⟩) (by assumption) ?_
        case h0 => (go_simp; rfl)
        try simp only [Act.put, List.getElem_toArray, List.getElem_cons_zero, List.getElem_cons_succ, List.setIfInBounds_toArray, List.set_cons_zero, List.set_cons_succ]
        refine wpAnyH_take (i := 1) (v := ?v1) rfl (by kernel_rfl) (by kernel_rfl) (by kernel_rfl) (fun _ _ _ h => h) (Or.inl ⟨by kernel_rfl, fun W hW => ?h1⟩) (by assumption) ?_
        case h1 => (go_simp; rfl)
        try simp only [Act.put, List.getElem_toArray, List.getElem_cons_zero, List.getElem_cons_succ, List.setIfInBounds_toArray, List.set_cons_zero, List.set_cons_succ]
        refine wpAnyH_take (i := 2) (v := ?v2) rfl (by kernel_rfl) (by kernel_rfl) (by kernel_rfl) (fun _ _ _ h => h) (Or.inl ⟨by kernel_rfl, fun W hW => ?h2⟩) (by assumption) ?_
        case h2 => (go_simp; rfl)
        try simp only [Act.put, List.getElem_toArray, List.getElem_cons_zero, List.getElem_cons_succ, List.setIfInBounds_toArray, List.set_cons_zero, List.set_cons_succ]
        refine wpAnyH_take (i := 3) (v := ?v3) rfl (by kernel_rfl) (by kernel_rfl) (by kernel_rfl) (fun _ _ _ h => h) (Or.inl ⟨by kernel_rfl, fun W hW => ?h3⟩) (by assumption) ?_
        case h3 => (go_simp; rfl)
        try simp only [Act.put, List.getElem_toArray, List.getElem_cons_zero, List.getElem_cons_succ, List.setIfInBounds_toArray, List.set_cons_zero, List.set_cons_succ]
        refine wpAnyH_take (i := 4) (v := ?v4) rfl (by kernel_rfl) (by kernel_rfl) (by kernel_rfl) (fun _ _ _ h => h) (Or.inl ⟨by kernel_rfl, fun W hW => ?h4⟩) (by assumption) ?_
        case h4 => (go_simp; rfl)
        try simp only [Act.put, List.getElem_toArray, List.getElem_cons_zero, List.getElem_cons_succ, List.setIfInBounds_toArray, List.set_cons_zero, List.set_cons_succ]
        refine wpAnyH_take (i := 5) (v := ?v5) rfl (by kernel_rfl) (by kernel_rfl) (by kernel_rfl) (fun _ _ _ h => h) (Or.inl ⟨by kernel_rfl, fun W hW => ?h5⟩) (by assumption) ?_
        case h5 => (obtain ⟨hW0, hW1, hW2⟩ := hW; go_simp; rfl)
        try simp only [Act.put, List.getElem_toArray, List.getElem_cons_zero, List.getElem_cons_succ, List.setIfInBounds_toArray, List.set_cons_zero, List.set_cons_succ]
        refine wpAnyH_take (i := 6) (v := ?v6) rfl (by kernel_rfl) (by kernel_rfl) (by kernel_rfl) (fun _ _ _ h => h) (Or.inl ⟨by kernel_rfl, fun W hW => ?h6⟩) (by assumption) ?_
        case h6 => (go_simp; rfl)
        try simp only [Act.put, List.getElem_toArray, List.getElem_cons_zero, List.getElem_cons_succ, List.setIfInBounds_toArray, List.set_cons_zero, List.set_cons_succ]
        refine wpAnyH_take (i := 7) (v := ?v7) rfl (by kernel_rfl) (by kernel_rfl) (by kernel_rfl) (fun _ _ _ h => h) (Or.inl ⟨by kernel_rfl, fun W hW => ?h7⟩) (by assumption) ?_
        case h7 => (go_simp; rfl)
        try simp only [Act.put, List.getElem_toArray, List.getElem_cons_zero, List.getElem_cons_succ, List.setIfInBounds_toArray, List.set_cons_zero, List.set_cons_succ]
        refine wpAnyH_take (i := 8) (v := ?v8) rfl (by kernel_rfl) (by kernel_rfl) (by kernel_rfl) (fun _ _ _ h => h) (Or.inl ⟨by kernel_rfl, fun W hW => ?h8⟩) (by assumption) ?_
        case h8 => (go_simp; rfl)
        try simp only [Act.put, List.getElem_toArray, List.getElem_cons_zero, List.getElem_cons_succ, List.setIfInBounds_toArray, List.set_cons_zero, List.set_cons_succ]
        refine wpAnyH_take (i := 9) (v := ?v9) rfl (by kernel_rfl) (by kernel_rfl) (by kernel_rfl) (fun _ _ _ h => h) (Or.inl ⟨by kernel_rfl, fun W hW => ?h9⟩) (by assumption) ?_
        case h9 => (go_simp; rfl)
        try simp only [Act.put, List.getElem_toArray, List.getElem_cons_zero, List.getElem_cons_succ, List.setIfInBounds_toArray, List.set_cons_zero, List.set_cons_succ]
        refine wpAnyH_take (i := 10) (v := ?v10) rfl (by kernel_rfl) (by kernel_rfl) (by kernel_rfl) (fun _ _ _ h => h) (Or.inl ⟨by kernel_rfl, fun W hW => ?h10⟩) (by assumption) ?_
        case h10 => (obtain ⟨hW0, hW1, hW2⟩ := hW; go_simp; rfl)
        try simp only [Act.put, List.getElem_toArray, List.getElem_cons_zero, List.getElem_cons_succ, List.setIfInBounds_toArray, List.set_cons_zero, List.set_cons_succ]
        refine wpAnyH_take (i := 11) (v := ?v11) rfl (by kernel_rfl) (by kernel_rfl) (by kernel_rfl) (fun _ _ _ h => h) (Or.inl ⟨by kernel_rfl, fun W hW => ?h11⟩) (by assumption) ?_
        case h11 => (go_simp; rfl)
        try simp only [Act.put, List.getElem_toArray, List.getElem_cons_zero, List.getElem_cons_succ, List.setIfInBounds_toArray, List.set_cons_zero, List.set_cons_succ]
        refine wpAnyH_take (i := 12) (v := ?v12) rfl (by kernel_rfl) (by kernel_rfl) (by kernel_rfl) (fun _ _ _ h => h) (Or.inl ⟨by kernel_rfl, fun W hW => ?h12⟩) (by assumption) ?_
        case h12 => (go_simp; rfl)
        try simp only [Act.put, List.getElem_toArray, List.getElem_cons_zero, List.getElem_cons_succ, List.setIfInBounds_toArray, List.set_cons_zero, List.set_cons_succ]
        refine wpAnyH_take (i := 13) (v := ?v13) rfl (by kernel_rfl) (by kernel_rfl) (by kernel_rfl) (fun _ _ _ h => h) (Or.inl ⟨by kernel_rfl, fun W hW => ?h13⟩) (by assumption) ?_
        case h13 => (go_simp; rfl)
        try simp only [Act.put, List.getElem_toArray, List.getElem_cons_zero, List.getElem_cons_succ, List.setIfInBounds_toArray, List.set_cons_zero, List.set_cons_succ]
        refine wpAnyH_take (i := 14) (v := ?v14) rfl (by kernel_rfl) (by kernel_rfl) (by kernel_rfl) (fun _ _ _ h => h) (Or.inl ⟨by kernel_rfl, fun W hW => ?h14⟩) (by assumption) ?_
        case h14 => (go_simp; rfl)
        try simp only [Act.put, List.getElem_toArray, List.getElem_cons_zero, List.getElem_cons_succ, List.setIfInBounds_toArray, List.set_cons_zero, List.set_cons_succ]
        refine wpAnyH_take (i := 15) (v := ?v15) rfl (by kernel_rfl) (by kernel_rfl) (by kernel_rfl) (fun _ _ _ h => h) (Or.inl ⟨by kernel_rfl, fun W hW => ?h15⟩) (by assumption) ?_
        case h15 => (obtain ⟨hW0, hW1, hW2⟩ := hW; go_simp; rfl)
        try simp only [Act.put, List.getElem_toArray, List.getElem_cons_zero, List.getElem_cons_succ, List.setIfInBounds_toArray, List.set_cons_zero, List.set_cons_succ]
        refine wpAnyH_take (i := 16) (v := ?v16) rfl (by kernel_rfl) (by kernel_rfl) (by kernel_rfl) (fun _ _ _ h => h) (Or.inl ⟨by kernel_rfl, fun W hW => ?h16⟩) (by assumption) ?_
        case h16 => (go_simp; rfl)
        try simp only [Act.put, List.getElem_toArray, List.getElem_cons_zero, List.getElem_cons_succ, List.setIfInBounds_toArray, List.set_cons_zero, List.set_cons_succ]
        refine wpAnyH_take (i := 17) (v := .int .i64 (q : Int)) rfl (by kernel_rfl) (by kernel_rfl) (by kernel_rfl) (fun _ _ _ h => h) (Or.inl ⟨by kernel_rfl, fun W hW => by (go_simp)⟩) (by assumption) ?_
        try simp only [Act.put, List.getElem_toArray, List.getElem_cons_zero, List.getElem_cons_succ, List.setIfInBounds_toArray, List.set_cons_zero, List.set_cons_succ]
        refine wpAnyH_take (i := 18) (v := .string ⟨(na.take 40).toArray⟩) rfl (by kernel_rfl) (by kernel_rfl) (by kernel_rfl) (fun _ _ _ h => h) (Or.inl ⟨by kernel_rfl, fun W hW => by (go_simp)⟩) (by assumption) ?_
        try simp only [Act.put, List.getElem_toArray, List.getElem_cons_zero, List.getElem_cons_succ, List.setIfInBounds_toArray, List.set_cons_zero, List.set_cons_succ]
        refine wpAnyH_take (i := 19) (v := ?v19) rfl (by kernel_rfl) (by kernel_rfl) (by kernel_rfl) (fun _ _ _ h => h) (Or.inl ⟨by kernel_rfl, fun W hW => ?h19⟩) (by assumption) ?_
        case h19 => (go_simp; rfl)
        try simp only [Act.put, List.getElem_toArray, List.getElem_cons_zero, List.getElem_cons_succ, List.setIfInBounds_toArray, List.set_cons_zero, List.set_cons_succ]
        refine wpAnyH_take (i := 20) (v := ?v20) rfl (by kernel_rfl) (by kernel_rfl) (by kernel_rfl) (fun _ _ _ h => h) (Or.inl ⟨by kernel_rfl, fun W hW => ?h20⟩) (by assumption) ?_
        case h20 => (go_simp; rfl)
        try simp only [Act.put, List.getElem_toArray, List.getElem_cons_zero, List.getElem_cons_succ, List.setIfInBounds_toArray, List.set_cons_zero, List.set_cons_succ]
        refine wpAnyH_take (i := 21) (v := ?v21) rfl (by kernel_rfl) (by kernel_rfl) (by kernel_rfl) (fun _ _ _ h => h) (Or.inl ⟨by kernel_rfl, fun W hW => ?h21⟩) (by assumption) ?_
        case h21 => (go_simp; rfl)
        try simp only [Act.put, List.getElem_toArray, List.getElem_cons_zero, List.getElem_cons_succ, List.setIfInBounds_toArray, List.set_cons_zero, List.set_cons_succ]
        refine wpAnyH_take (i := 22) (v := ?v22) rfl (by kernel_rfl) (by kernel_rfl) (by kernel_rfl) (fun _ _ _ h => h) (Or.inl ⟨by kernel_rfl, fun W hW => ?h22⟩) (by assumption) ?_
        case h22 => (go_simp; rfl)
        try simp only [Act.put, List.getElem_toArray, List.getElem_cons_zero, List.getElem_cons_succ, List.setIfInBounds_toArray, List.set_cons_zero, List.set_cons_succ]
        refine wpAnyH_take (i := 23) (v := ?v23) rfl (by kernel_rfl) (by kernel_rfl) (by kernel_rfl) (fun _ _ _ h => h) (Or.inl ⟨by kernel_rfl, fun W hW => ?h23⟩) (by assumption) ?_
        case h23 => (obtain ⟨hW0, hW1, hW2⟩ := hW; go_simp; rfl)
        try simp only [Act.put, List.getElem_toArray, List.getElem_cons_zero, List.getElem_cons_succ, List.setIfInBounds_toArray, List.set_cons_zero, List.set_cons_succ]
        refine wpAnyH_take (i := 24) (v := ?v24) rfl (by kernel_rfl) (by kernel_rfl) (by kernel_rfl) (fun _ _ _ h => h) (Or.inl ⟨by kernel_rfl, fun W hW => ?h24⟩) (by assumption) ?_
        case h24 => (go_simp; rfl)
        try simp only [Act.put, List.getElem_toArray, List.getElem_cons_zero, List.getElem_cons_succ, List.setIfInBounds_toArray, List.set_cons_zero, List.set_cons_succ]
        refine wpAnyH_take (i := 25) (v := ?v25) rfl (by kernel_rfl) (by kernel_rfl) (by kernel_rfl) (fun _ _ _ h => h) (Or.inl ⟨by kernel_rfl, fun W hW => ?h25⟩) (by assumption) ?_
        case h25 => (go_simp; rfl)
        try simp only [Act.put, List.getElem_toArray, List.getElem_cons_zero, List.getElem_cons_succ, List.setIfInBounds_toArray, List.set_cons_zero, List.set_cons_succ]
        refine wpAnyH_take (i := 26) (v := ?v26) rfl (by kernel_rfl) (by kernel_rfl) (by kernel_rfl) (fun _ _ _ h => h) (Or.inl ⟨by kernel_rfl, fun W hW => ?h26⟩) (by assumption) ?_
        case h26 => (go_simp; rfl)
        try simp only [Act.put, List.getElem_toArray, List.getElem_cons_zero, List.getElem_cons_succ, List.setIfInBounds_toArray, List.set_cons_zero, List.set_cons_succ]
        refine wpAnyH_take (i := 27) (v := ?v27) rfl (by kernel_rfl) (by kernel_rfl) (by kernel_rfl) (fun _ _ _ h => h) (Or.inl ⟨by kernel_rfl, fun W hW => ?h27⟩) (by assumption) ?_
        case h27 => (go_simp; rfl)
        try simp only [Act.put, List.getElem_toArray, List.getElem_cons_zero, List.getElem_cons_succ, List.setIfInBounds_toArray, List.set_cons_zero, List.set_cons_succ]
        refine wpAnyH_take (i := 28) (v := ?v28) rfl (by kernel_rfl) (by kernel_rfl) (by kernel_rfl) (fun _ _ _ h => h) (Or.inl ⟨by kernel_rfl, fun W hW => ?h28⟩) (by assumption) ?_
        case h28 => (obtain ⟨hW0, hW1, hW2⟩ := hW; go_simp; rfl)
        try simp only [Act.put, List.getElem_toArray, List.getElem_cons_zero, List.getElem_cons_succ, List.setIfInBounds_toArray, List.set_cons_zero, List.set_cons_succ]
        refine wpAnyH_take (i := 29) (v := ?v29) rfl (by kernel_rfl) (by kernel_rfl) (by kernel_rfl) (fun _ _ _ h => h) (Or.inl ⟨by kernel_rfl, fun W hW => ?h29⟩) (by assumption) ?_
        case h29 => (go_simp; rfl)
        try simp only [Act.put, List.getElem_toArray, List.getElem_cons_zero, List.getElem_cons_succ, List.setIfInBounds_toArray, List.set_cons_zero, List.set_cons_succ]
        refine wpAnyH_take (i := 30) (v := .int .i64 (r : Int)) rfl (by kernel_rfl) (by kernel_rfl) (by kernel_rfl) (fun _ _ _ h => h) (Or.inl ⟨by kernel_rfl, fun W hW => by (go_simp)⟩) (by assumption) ?_
        try simp only [Act.put, List.getElem_toArray, List.getElem_cons_zero, List.getElem_cons_succ, List.setIfInBounds_toArray, List.set_cons_zero, List.set_cons_succ]
        refine wpAnyH_take (i := 31) (v := .string ⟨(nb.take 40).toArray⟩) rfl (by kernel_rfl) (by kernel_rfl) (by kernel_rfl) (fun _ _ _ h => h) (Or.inl ⟨by kernel_rfl, fun W hW => by (go_simp)⟩) (by assumption) ?_
        try simp only [Act.put, List.getElem_toArray, List.getElem_cons_zero, List.getElem_cons_succ, List.setIfInBounds_toArray, List.set_cons_zero, List.set_cons_succ]
        refine wpAnyH_take (i := 32) (v := ?v32) rfl (by kernel_rfl) (by kernel_rfl) (by kernel_rfl) (fun _ _ _ h => h) (Or.inl ⟨by kernel_rfl, fun W hW => ?h32⟩) (by assumption) ?_
        case h32 => (go_simp; rfl)
        try simp only [Act.put, List.getElem_toArray, List.getElem_cons_zero, List.getElem_cons_succ, List.setIfInBounds_toArray, List.set_cons_zero, List.set_cons_succ]
        refine wpAnyH_ready (rs := [33]) (by kernel_rfl) (by simp) ?_
        refine AllReadyH.cons rfl (fun K hK => ?_) AllReadyH.nil
        go_simp
        have hbn := below_new wd' (.cells #[.int .i64 ki, .string ⟨(na.take 40).toArray⟩, .string ⟨(nb.take 40).toArray⟩] 36)
        refine hK.out _ _ ⟨(hbn.cell (p := ⟨b, o, sp⟩) HBr.out).trans hS1.1, (hbn.cell (p := ⟨b, o + 1, none⟩) HBr.out).trans hS1.2.1, (hbn.cell (p := ⟨b, o + 2, none⟩) HBr.out).trans hS1.2.2⟩ (fun _ => ?_)
        clear K hK
        try simp only [Act.put, List.getElem_toArray, List.getElem_cons_zero, List.getElem_cons_succ, List.setIfInBounds_toArray, List.set_cons_zero, List.set_cons_succ]
        refine wpAnyH_ready (rs := [34]) (by kernel_rfl) (by simp) ?_
        refine AllReadyH.cons rfl (fun K hK => ?_) AllReadyH.nil
        rw [if_pos (by rfl)]
        refine op_append1 (.tmp 16) (.tmp 49) 22 rfl w.heap.size 36 i0 (.agg #[.int .i64 0, .string ⟨#[]⟩, .string ⟨#[]⟩]) 3 40 Tryz.underlying22 Hi.out Hz0.out Hz1.out Hz2.out rfl (by decide) _ _ _ HOW.out rfl [.int .i64 ki, .string ⟨(na.take 40).toArray⟩, .string ⟨(nb.take 40).toArray⟩] rfl rfl rfl (by simp [Value.oneCell']) Hnm.out Hn24.out HBd.out.size ?_
        intro v2 w2 own2 g2 at2
        obtain ⟨p2, cap2, hv2, _⟩ := own2.form (Nat.succ_pos _)
        subst hv2
        have HB9 := Lib.hid (HBd.out.grown g2 HBd.out.size (fun q e => (World.ownsRow.lt HOW.out q e).1))
        refine hK.out _ _ ⟨(HB9.out.cell (p := ⟨b, o, sp⟩) Hbw.out).trans Hw0.out, (HB9.out.cell (p := ⟨b, o + 1, none⟩) Hbw.out).trans Hw1.out, (HB9.out.cell (p := ⟨b, o + 2, none⟩) Hbw.out).trans Hw2.out⟩ (fun _ => ?_)
        clear K hK
        try simp only [Act.put, List.getElem_toArray, List.getElem_cons_zero, List.getElem_cons_succ, List.setIfInBounds_toArray, List.set_cons_zero, List.set_cons_succ]
        refine wpAnyH_take (i := 35) (v := ?v35) rfl (by kernel_rfl) (by kernel_rfl) (by kernel_rfl) (fun _ _ _ h => h) (Or.inl ⟨by kernel_rfl, fun W hW => ?h35⟩) (by assumption) ?_
        case h35 => (go_simp; rfl)
        try simp only [Act.put, List.getElem_toArray, List.getElem_cons_zero, List.getElem_cons_succ, List.setIfInBounds_toArray, List.set_cons_zero, List.set_cons_succ]
        refine wpAnyH_done (by kernel_rfl) ?_ _
        clear hS0 hS1 hbn
        go_wp2_with fail
        go_roundw
        case rel =>
          refine ⟨k1, by have := Hlt.out; have := Hk1.out; omega, by have := H30.out; have := Hk1.out; omega, congrArg (Value.int .i64) (by have := Hk1.out; omega), ?_, HB9.out⟩
          rw [Hk1.out, Hsn.out]
          exact ⟨_, by rw [List.length_append]; exact own2, RepRow.snoc (R := RRl) (x := Ru.cut1 ⟨ki, na, nb⟩) (vs := [.int .i64 ki, .string ⟨(na.take 40).toArray⟩, .string ⟨(nb.take 40).toArray⟩]) rfl Hrep.out⟩
        case measure => have := Hlt.out; simp [intOf]; omega
      · have he : k = 14 := by omega
        subst he
        have ht := Ru.cutR_take l 14 (.inl rfl)
        have Ht := Lib.hid ht
        have hlt' : (14 : Int) < (l.length : Int) := by omega
        clear ht hlt h30 hk hk30
        go_wp2_with fail
        go_ret
        exact ⟨_, rfl, Ht.out ▸ HO.out, Hb.out⟩
    · have he : k = l.length := by omega
      subst he
      have Ht := Lib.hid (Ru.cutR_take l l.length (.inr rfl))
      clear hlt hk hk30
      go_wp2_with fail
      go_ret
      exact ⟨_, rfl, Ht.out ▸ HO.out, Hb.out⟩
end Go.Proofs.YtibinlpbcoihoaaGreatDoor
