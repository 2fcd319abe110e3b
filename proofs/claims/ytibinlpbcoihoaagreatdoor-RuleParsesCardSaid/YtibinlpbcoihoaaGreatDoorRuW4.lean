/- The walk of rule.Writes. -/
import Derived.Test.YtibinlpbcoihoaaGreatDoorRuW3
set_option linter.unusedSimpArgs false
set_option linter.unusedVariables false
namespace Go.Proofs.YtibinlpbcoihoaaGreatDoor
open Go.RowKit
def pre (a : List UInt8) (E : List (List UInt8)) : List (List UInt8) := E.map (a ++ ·)
theorem pre_snoc (a : List UInt8) (E : List (List UInt8)) (j : Nat) (e : List UInt8) (h : E[j]? = some e) : pre a (E.take (j + 1)) = pre a (E.take j) ++ [a ++ e] := by
  unfold pre; rw [List.take_add_one, h]; simp
theorem own_one (w : World) (s : List UInt8) (B : Nat) (hB : B ≤ w.heap.size) : OwnL B 9 1 RStr (w.alloc (.cells #[.string ⟨s.toArray⟩] 9)) (.slice (some ⟨w.heap.size, 0, none⟩) 1 1) [s] :=
  ⟨[.string ⟨s.toArray⟩], own_built w B 9 1 1 _ hB rfl (by decide), rep_flat (R := RStr) cS (fun _ => rfl) [s]⟩
set_option maxRecDepth 100000 in
set_option maxHeartbeats 3200000 in
theorem rule_writes (x : Ru.Rl) (w : World) (ha : x.a.length ≤ 100000) (hb : x.b.length ≤ 100000) : Calls Tryz.prog 17 #[rlV x] w fun e w' => ∃ p c, e = .returned (.slice p (Ru.writes x).length c) ∧ OwnL w.heap.size 9 1 RStr w' (.slice p (Ru.writes x).length c) (Ru.writes x) ∧ Below w.heap.size w w' := by
  have Hkn := Lib.hid (rule_known x)
  obtain ⟨i0, hi, hz0, hz1, hz2⟩ := info_parts str_info
  have Hi := Lib.hid hi; have Hz0 := Lib.hid hz0; have Hz1 := Lib.hid hz1; have Hz2 := Lib.hid hz2; clear hi hz0 hz1 hz2
  obtain ⟨k, a, b⟩ := x
  unfold rlV at *
  dsimp only at *
  have Ha := Lib.hid ha; have Hb := Lib.hid hb
  clear ha hb
  by_cases hk : Ru.known k = true
  case neg =>
    have hk : Ru.known k = false := by simpa using hk
    have h4 : k ≠ 4 := by rintro rfl; revert hk; decide
    have Hr := Lib.hid (show Ru.writes ⟨k, a, b⟩ = [] by
      unfold Ru.writes Ru.ends; dsimp only; unfold Ru.known at hk; simp at hk
      rw [if_neg h4, if_neg (by omega), if_neg (by omega), if_neg (by omega)]; rfl)
    have g4 : (k == 4) = false := beq_eq_false_iff_ne.2 h4
    have Hk := Lib.hid hk
    clear h4 hk
    go_enter Tryz.func17, Tryz.ntmps17
    go_wp2_with (go_at_call 24; refine (Hkn.out _).mono ?_; rw [Hk.out]; rintro e w' ⟨rfl, hb'⟩; have Hb' := Lib.hid hb'; clear hb')
    go_ret
    rw [Hr.out]
    exact ⟨none, 0, rfl, OwnL.nil _ _ _ _ _, bseq (below_new _ _) Hb'.out⟩
  case pos =>
    rcases Ru.known_cases hk with rfl | rfl | rfl | rfl
    · have Hr := Lib.hid (show Ru.writes ⟨1, a, b⟩ = pre a Ru.endsMark from rfl)
      clear hk
      go_enter Tryz.func17, Tryz.ntmps17
      go_upto_region 3 with fail
      obtain ⟨wa, hwa⟩ : ∃ W, W = w.alloc (.cells #[.int .i64 1, .string ⟨a.toArray⟩, .string ⟨b.toArray⟩] 36) := ⟨_, rfl⟩
      have f0 : wa.cell? ⟨w.heap.size, 0, none⟩ = some (.int .i64 1) := by rw [hwa, cell_of_row _ _ _ _ _ _ (heap_alloc_new w _)]; rfl
      have f1 : wa.cell? ⟨w.heap.size, 1, none⟩ = some (.string ⟨a.toArray⟩) := by rw [hwa, cell_of_row _ _ _ _ _ _ (heap_alloc_new w _)]; rfl
      have f2 : wa.cell? ⟨w.heap.size, 2, none⟩ = some (.string ⟨b.toArray⟩) := by rw [hwa, cell_of_row _ _ _ _ _ _ (heap_alloc_new w _)]; rfl
      have hba : Below w.heap.size w wa := by rw [hwa]; exact below_new _ _
      have hlt : w.heap.size < wa.heap.size := by rw [hwa]; simp
      rw [← hwa]
      clear hwa
      go_upto_region 6 with (go_at_call 24; refine (Hkn.out _).mono ?_; rw [show Ru.known 1 = true from rfl]; rintro e w2 ⟨rfl, hb2⟩)
      have f0' := (hb2.cell (p := ⟨w.heap.size, 0, none⟩) hlt).trans f0
      have f1' := (hb2.cell (p := ⟨w.heap.size, 1, none⟩) hlt).trans f1
      have hlt' : w.heap.size < w2.heap.size := Nat.lt_of_lt_of_le hlt hb2.size
      have hba' := bseq hba hb2
      clear f0 f1 f2 hba hlt hb2
      refine wp_region_any (by kernel_rfl) ?_
      change wpAny _ _ _ _ _ _ _ (World.drew _)
      have hS0 : Below w2.heap.size w2 w2.drew := (Below.refl _ _).drew
      generalize w2.drew = wd at *
      refine wpAny_of_held (S := fun W => Below w2.heap.size w2 W) _ _ _ _ ?_
      have hS1 : Below w2.heap.size w2 wd := hS0
      have hS2 : (fun W => Below w2.heap.size w2 W) wd := hS0
      refine wpAnyH_take (i := 1) (v := ?v1) rfl (by kernel_rfl) (by kernel_rfl) (by kernel_rfl) (fun _ _ _ h => h) (Or.inl ⟨by kernel_rfl, fun W hW => ?h1⟩) (by assumption) ?_
      case h1 => (go_simp; rfl)
      refine wpAnyH_take (i := 2) (v := ?v2) rfl (by kernel_rfl) (by kernel_rfl) (by kernel_rfl) (fun _ _ _ h => h) (Or.inl ⟨by kernel_rfl, fun W hW => ?h2⟩) (by assumption) ?_
      case h2 => (have c0 := (hW.cell (p := ⟨w.heap.size, 0, none⟩) hlt').trans f0'; go_simp; rfl)
      refine wpAnyH_take (i := 6) (v := ?v3) rfl (by kernel_rfl) (by kernel_rfl) (by kernel_rfl) (fun _ _ _ h => h) (Or.inl ⟨by kernel_rfl, fun W hW => ?h3⟩) (by assumption) ?_
      case h3 => (go_simp; rfl)
      refine wpAnyH_ready (rs := [0]) (by kernel_rfl) (by simp) ?_
      refine AllReadyH.cons rfl (fun K hK => ?_) AllReadyH.nil
      try simp only [Act.put, List.getElem_toArray, List.getElem_cons_zero, List.getElem_cons_succ, List.setIfInBounds_toArray, List.set_cons_zero, List.set_cons_succ]
      go_simp
      go_wp2_with (go_at_call 20; refine (rule_tools _).mono ?_; rintro e w3 ⟨rfl, hT, hb3⟩)
      refine hK.out _ _ (hS1.trans (hb3.mono hS1.size)) (fun _ => ?_)
      clear K hK
      try simp only [Act.put, List.getElem_toArray, List.getElem_cons_zero, List.getElem_cons_succ, List.setIfInBounds_toArray, List.set_cons_zero, List.set_cons_succ]
      refine wpAnyH_take (i := 3) (v := .agg #[.string ⟨Ru.wMark.toArray⟩, .slice (some ⟨wd.heap.size + 1, 0, none⟩) 4 4, .func (.func 34) #[] #[]]) rfl (by kernel_rfl) (by kernel_rfl) (by kernel_rfl) (fun _ _ _ h => h) (Or.inl ⟨by kernel_rfl, fun W hW => by (unfold toolsV; go_simp; rfl)⟩) (by assumption) ?_
      refine wpAnyH_take (i := 4) (v := .slice (some ⟨wd.heap.size + 1, 0, none⟩) 4 4) rfl (by kernel_rfl) (by kernel_rfl) (by kernel_rfl) (fun _ _ _ h => h) (Or.inl ⟨by kernel_rfl, fun W hW => by (go_simp; rfl)⟩) (by assumption) ?_
      refine wpAnyH_take (i := 5) (v := ?v4) rfl (by kernel_rfl) (by kernel_rfl) (by kernel_rfl) (fun _ _ _ h => h) (Or.inl ⟨by kernel_rfl, fun W hW => ?h4⟩) (by assumption) ?_
      case h4 => (go_simp; rfl)
      refine wpAnyH_done (by kernel_rfl) ?_ _
      try simp only [Act.put, List.getElem_toArray, List.getElem_cons_zero, List.getElem_cons_succ, List.setIfInBounds_toArray, List.set_cons_zero, List.set_cons_succ]
      have hb23 := hS0.trans (hb3.mono hS0.size)
      have f1'' := (hb23.cell (p := ⟨w.heap.size, 1, none⟩) hlt').trans f1'
      have Hlt := Lib.hid (Nat.lt_of_lt_of_le hlt' hb23.size)
      have Hba := Lib.hid (bseq hba' hb23)
      have HE := Lib.hid (show SliceIn (fun _ => True) 1 RStr w3 (.slice (some ⟨wd.heap.size + 1, 0, none⟩) 4 4) Ru.endsMark from hT.m)
      have F1 := Lib.hid f1''
      clear hS0 hS1 hS2 hb3 f0' f1' hba' hT hb23 f1'' hlt'
      generalize wd.heap.size + 1 = ge at *
      go_wp2_with fail
      go_loopw [3, 21] (fun ov iv wr => ∃ (j : Nat) (p : Option Addr) (c : Nat), j ≤ 4 ∧ iv = .int .i64 (j : Int) ∧ ov = .slice p j c ∧ OwnL w3.heap.size 9 1 RStr wr ov (pre a (Ru.endsMark.take j)) ∧ Below w3.heap.size w3 wr) (fun _ iv _ => 4 - (intOf iv).toNat)
      case atStart => exact ⟨0, none, 0, by decide, rfl, rfl, OwnL.nil _ _ _ _ _, Below.refl _ _⟩
      case round =>
        obtain ⟨j, p, c, hj, rfl, rfl, hO, hb⟩ := hrel
        have HO := Lib.hid hO; have Hbr := Lib.hid hb
        clear hO hb
        by_cases hlt : j < 4
        · obtain ⟨e, he⟩ : ∃ e, Ru.endsMark[j]? = some e := ⟨_, List.getElem?_eq_getElem hlt⟩
          have hel : e.length = 4 := by have hm := List.mem_of_getElem? he; revert hm; exact (by decide : ∀ e ∈ Ru.endsMark, e.length = 4) e
          have ce : wr.cell? ⟨ge, j, none⟩ = some (.string ⟨e.toArray⟩) := by have := (HE.out.below' Hbr.out).cellS he; simpa using this
          have hlt' : (j : Int) < 4 := by omega
          have Hwk := Lib.hid (f2_w1 j (by omega))
          have Hsn := Lib.hid (pre_snoc a Ru.endsMark j e he)
          have c1 : wr.cell? ⟨w.heap.size, 1, none⟩ = some (.string ⟨a.toArray⟩) := (Hbr.out.cell (p := ⟨w.heap.size, 1, none⟩) Hlt.out).trans F1.out
          have s1 : ¬ 9223372036854775807 < a.length + e.length := by have := Ha.out; omega
          obtain ⟨fl, hown, hrep⟩ := HO.out
          have hlen : (pre a (Ru.endsMark.take j)).length = j := by unfold pre; rw [List.length_map, List.length_take]; exact Nat.min_eq_left (show j ≤ Ru.endsMark.length from Nat.le_of_lt hlt)
          rw [hlen] at hown
          have Hown := Lib.hid hown; have Hrep := Lib.hid hrep; have Hlt2 := Lib.hid hlt; have Hel := Lib.hid hel
          have Hm1 := Lib.hid (show j + 1 ≤ maxLen by unfold maxLen; omega)
          have Hn1 := Lib.hid (show (j + 1) * 16 ≤ 140737488355328 by omega)
          have H0W := Lib.hid Hbr.out.size
          clear hown hrep hlt hj he hlen hel
          go_wp2_with (at_builtin; go_loud (refine wpList_append1 rfl (.tmp 25) (.tmp 30) 41 rfl w3.heap.size 9 i0 (.string ⟨#[]⟩) 1 16 Tryz.underlying41 Hi.out Hz0.out Hz1.out Hz2.out rfl (by decide) _ _ _ Hown.out rfl [.string ⟨(a ++ e).toArray⟩] (by first | rfl | rw [append_data]) (by simp) rfl (by simp [Value.oneCell']) Hm1.out Hn1.out H0W.out ?_); intro v2 w9 own2 g2 at2; obtain ⟨p2, cap2, hv2, _⟩ := own2.form (Nat.succ_pos _); subst hv2)
          go_roundw
          case rel =>
            refine ⟨j + 1, some ⟨p2, 0, none⟩, cap2, by have := Hlt2.out; omega, by first | rfl | rw [Hwk.out], rfl, ?_, Hbr.out.grown g2 H0W.out (fun q e => (World.ownsRow.lt Hown.out q e).1)⟩
            rw [Hsn.out]
            refine ⟨_, ?_, RepRow.snoc (R := RStr) (x := a ++ e) (vs := [.string ⟨(a ++ e).toArray⟩]) rfl Hrep.out⟩
            rw [List.length_append, show (pre a (Ru.endsMark.take j)).length = j by unfold pre; rw [List.length_map, List.length_take]; exact Nat.min_eq_left (show j ≤ Ru.endsMark.length from Nat.le_of_lt Hlt2.out)]
            exact own2
          case measure => have := Hlt2.out; (try rw [Hwk.out]); simp [intOf]; omega
        · have he : j = 4 := by omega
          subst he
          clear hlt hj
          go_wp2_with fail
          go_ret
          rw [Hr.out]
          refine ⟨p, c, rfl, ?_, Hba.out.trans (Hbr.out.mono (Nat.le_of_lt Hlt.out))⟩
          exact HO.out.lower (Nat.le_of_lt Hlt.out)
    · have Hr := Lib.hid (show Ru.writes ⟨2, a, b⟩ = pre a Ru.endsBib from rfl)
      clear hk
      go_enter Tryz.func17, Tryz.ntmps17
      go_upto_region 3 with fail
      obtain ⟨wa, hwa⟩ : ∃ W, W = w.alloc (.cells #[.int .i64 2, .string ⟨a.toArray⟩, .string ⟨b.toArray⟩] 36) := ⟨_, rfl⟩
      have f0 : wa.cell? ⟨w.heap.size, 0, none⟩ = some (.int .i64 2) := by rw [hwa, cell_of_row _ _ _ _ _ _ (heap_alloc_new w _)]; rfl
      have f1 : wa.cell? ⟨w.heap.size, 1, none⟩ = some (.string ⟨a.toArray⟩) := by rw [hwa, cell_of_row _ _ _ _ _ _ (heap_alloc_new w _)]; rfl
      have f2 : wa.cell? ⟨w.heap.size, 2, none⟩ = some (.string ⟨b.toArray⟩) := by rw [hwa, cell_of_row _ _ _ _ _ _ (heap_alloc_new w _)]; rfl
      have hba : Below w.heap.size w wa := by rw [hwa]; exact below_new _ _
      have hlt : w.heap.size < wa.heap.size := by rw [hwa]; simp
      rw [← hwa]
      clear hwa
      go_upto_region 6 with (go_at_call 24; refine (Hkn.out _).mono ?_; rw [show Ru.known 2 = true from rfl]; rintro e w2 ⟨rfl, hb2⟩)
      have f0' := (hb2.cell (p := ⟨w.heap.size, 0, none⟩) hlt).trans f0
      have f1' := (hb2.cell (p := ⟨w.heap.size, 1, none⟩) hlt).trans f1
      have hlt' : w.heap.size < w2.heap.size := Nat.lt_of_lt_of_le hlt hb2.size
      have hba' := bseq hba hb2
      clear f0 f1 f2 hba hlt hb2
      refine wp_region_any (by kernel_rfl) ?_
      change wpAny _ _ _ _ _ _ _ (World.drew _)
      have hS0 : Below w2.heap.size w2 w2.drew := (Below.refl _ _).drew
      generalize w2.drew = wd at *
      refine wpAny_of_held (S := fun W => Below w2.heap.size w2 W) _ _ _ _ ?_
      have hS1 : Below w2.heap.size w2 wd := hS0
      have hS2 : (fun W => Below w2.heap.size w2 W) wd := hS0
      refine wpAnyH_take (i := 1) (v := ?v5) rfl (by kernel_rfl) (by kernel_rfl) (by kernel_rfl) (fun _ _ _ h => h) (Or.inl ⟨by kernel_rfl, fun W hW => ?h5⟩) (by assumption) ?_
      case h5 => (go_simp; rfl)
      refine wpAnyH_take (i := 2) (v := ?v6) rfl (by kernel_rfl) (by kernel_rfl) (by kernel_rfl) (fun _ _ _ h => h) (Or.inl ⟨by kernel_rfl, fun W hW => ?h6⟩) (by assumption) ?_
      case h6 => (have c0 := (hW.cell (p := ⟨w.heap.size, 0, none⟩) hlt').trans f0'; go_simp; rfl)
      refine wpAnyH_take (i := 6) (v := ?v7) rfl (by kernel_rfl) (by kernel_rfl) (by kernel_rfl) (fun _ _ _ h => h) (Or.inl ⟨by kernel_rfl, fun W hW => ?h7⟩) (by assumption) ?_
      case h7 => (go_simp; rfl)
      refine wpAnyH_ready (rs := [0]) (by kernel_rfl) (by simp) ?_
      refine AllReadyH.cons rfl (fun K hK => ?_) AllReadyH.nil
      try simp only [Act.put, List.getElem_toArray, List.getElem_cons_zero, List.getElem_cons_succ, List.setIfInBounds_toArray, List.set_cons_zero, List.set_cons_succ]
      go_simp
      go_wp2_with (go_at_call 20; refine (rule_tools _).mono ?_; rintro e w3 ⟨rfl, hT, hb3⟩)
      refine hK.out _ _ (hS1.trans (hb3.mono hS1.size)) (fun _ => ?_)
      clear K hK
      try simp only [Act.put, List.getElem_toArray, List.getElem_cons_zero, List.getElem_cons_succ, List.setIfInBounds_toArray, List.set_cons_zero, List.set_cons_succ]
      refine wpAnyH_take (i := 3) (v := .agg #[.string ⟨Ru.wBib.toArray⟩, .slice (some ⟨wd.heap.size + 1 + 1, 0, none⟩) 2 2, .func (.func 35) #[] #[]]) rfl (by kernel_rfl) (by kernel_rfl) (by kernel_rfl) (fun _ _ _ h => h) (Or.inl ⟨by kernel_rfl, fun W hW => by (unfold toolsV; go_simp; rfl)⟩) (by assumption) ?_
      refine wpAnyH_take (i := 4) (v := .slice (some ⟨wd.heap.size + 1 + 1, 0, none⟩) 2 2) rfl (by kernel_rfl) (by kernel_rfl) (by kernel_rfl) (fun _ _ _ h => h) (Or.inl ⟨by kernel_rfl, fun W hW => by (go_simp; rfl)⟩) (by assumption) ?_
      refine wpAnyH_take (i := 5) (v := ?v8) rfl (by kernel_rfl) (by kernel_rfl) (by kernel_rfl) (fun _ _ _ h => h) (Or.inl ⟨by kernel_rfl, fun W hW => ?h8⟩) (by assumption) ?_
      case h8 => (go_simp; rfl)
      refine wpAnyH_done (by kernel_rfl) ?_ _
      try simp only [Act.put, List.getElem_toArray, List.getElem_cons_zero, List.getElem_cons_succ, List.setIfInBounds_toArray, List.set_cons_zero, List.set_cons_succ]
      have hb23 := hS0.trans (hb3.mono hS0.size)
      have f1'' := (hb23.cell (p := ⟨w.heap.size, 1, none⟩) hlt').trans f1'
      have Hlt := Lib.hid (Nat.lt_of_lt_of_le hlt' hb23.size)
      have Hba := Lib.hid (bseq hba' hb23)
      have HE := Lib.hid (show SliceIn (fun _ => True) 1 RStr w3 (.slice (some ⟨wd.heap.size + 1 + 1, 0, none⟩) 2 2) Ru.endsBib from hT.b)
      have F1 := Lib.hid f1''
      clear hS0 hS1 hS2 hb3 f0' f1' hba' hT hb23 f1'' hlt'
      generalize wd.heap.size + 1 + 1 = ge at *
      go_wp2_with fail
      go_loopw [3, 21] (fun ov iv wr => ∃ (j : Nat) (p : Option Addr) (c : Nat), j ≤ 2 ∧ iv = .int .i64 (j : Int) ∧ ov = .slice p j c ∧ OwnL w3.heap.size 9 1 RStr wr ov (pre a (Ru.endsBib.take j)) ∧ Below w3.heap.size w3 wr) (fun _ iv _ => 2 - (intOf iv).toNat)
      case atStart => exact ⟨0, none, 0, by decide, rfl, rfl, OwnL.nil _ _ _ _ _, Below.refl _ _⟩
      case round =>
        obtain ⟨j, p, c, hj, rfl, rfl, hO, hb⟩ := hrel
        have HO := Lib.hid hO; have Hbr := Lib.hid hb
        clear hO hb
        by_cases hlt : j < 2
        · obtain ⟨e, he⟩ : ∃ e, Ru.endsBib[j]? = some e := ⟨_, List.getElem?_eq_getElem hlt⟩
          have hel : e.length = 4 := by have hm := List.mem_of_getElem? he; revert hm; exact (by decide : ∀ e ∈ Ru.endsBib, e.length = 4) e
          have ce : wr.cell? ⟨ge, j, none⟩ = some (.string ⟨e.toArray⟩) := by have := (HE.out.below' Hbr.out).cellS he; simpa using this
          have hlt' : (j : Int) < 2 := by omega
          have Hwk := Lib.hid (f2_w1 j (by omega))
          have Hsn := Lib.hid (pre_snoc a Ru.endsBib j e he)
          have c1 : wr.cell? ⟨w.heap.size, 1, none⟩ = some (.string ⟨a.toArray⟩) := (Hbr.out.cell (p := ⟨w.heap.size, 1, none⟩) Hlt.out).trans F1.out
          have s1 : ¬ 9223372036854775807 < a.length + e.length := by have := Ha.out; omega
          obtain ⟨fl, hown, hrep⟩ := HO.out
          have hlen : (pre a (Ru.endsBib.take j)).length = j := by unfold pre; rw [List.length_map, List.length_take]; exact Nat.min_eq_left (show j ≤ Ru.endsBib.length from Nat.le_of_lt hlt)
          rw [hlen] at hown
          have Hown := Lib.hid hown; have Hrep := Lib.hid hrep; have Hlt2 := Lib.hid hlt; have Hel := Lib.hid hel
          have Hm1 := Lib.hid (show j + 1 ≤ maxLen by unfold maxLen; omega)
          have Hn1 := Lib.hid (show (j + 1) * 16 ≤ 140737488355328 by omega)
          have H0W := Lib.hid Hbr.out.size
          clear hown hrep hlt hj he hlen hel
          go_wp2_with (at_builtin; go_loud (refine wpList_append1 rfl (.tmp 25) (.tmp 30) 41 rfl w3.heap.size 9 i0 (.string ⟨#[]⟩) 1 16 Tryz.underlying41 Hi.out Hz0.out Hz1.out Hz2.out rfl (by decide) _ _ _ Hown.out rfl [.string ⟨(a ++ e).toArray⟩] (by first | rfl | rw [append_data]) (by simp) rfl (by simp [Value.oneCell']) Hm1.out Hn1.out H0W.out ?_); intro v2 w9 own2 g2 at2; obtain ⟨p2, cap2, hv2, _⟩ := own2.form (Nat.succ_pos _); subst hv2)
          go_roundw
          case rel =>
            refine ⟨j + 1, some ⟨p2, 0, none⟩, cap2, by have := Hlt2.out; omega, by first | rfl | rw [Hwk.out], rfl, ?_, Hbr.out.grown g2 H0W.out (fun q e => (World.ownsRow.lt Hown.out q e).1)⟩
            rw [Hsn.out]
            refine ⟨_, ?_, RepRow.snoc (R := RStr) (x := a ++ e) (vs := [.string ⟨(a ++ e).toArray⟩]) rfl Hrep.out⟩
            rw [List.length_append, show (pre a (Ru.endsBib.take j)).length = j by unfold pre; rw [List.length_map, List.length_take]; exact Nat.min_eq_left (show j ≤ Ru.endsBib.length from Nat.le_of_lt Hlt2.out)]
            exact own2
          case measure => have := Hlt2.out; (try rw [Hwk.out]); simp [intOf]; omega
        · have he : j = 2 := by omega
          subst he
          clear hlt hj
          go_wp2_with fail
          go_ret
          rw [Hr.out]
          refine ⟨p, c, rfl, ?_, Hba.out.trans (Hbr.out.mono (Nat.le_of_lt Hlt.out))⟩
          exact HO.out.lower (Nat.le_of_lt Hlt.out)
    · have Hr := Lib.hid (show Ru.writes ⟨3, a, b⟩ = pre a Ru.endsInd from rfl)
      clear hk
      go_enter Tryz.func17, Tryz.ntmps17
      go_upto_region 3 with fail
      obtain ⟨wa, hwa⟩ : ∃ W, W = w.alloc (.cells #[.int .i64 3, .string ⟨a.toArray⟩, .string ⟨b.toArray⟩] 36) := ⟨_, rfl⟩
      have f0 : wa.cell? ⟨w.heap.size, 0, none⟩ = some (.int .i64 3) := by rw [hwa, cell_of_row _ _ _ _ _ _ (heap_alloc_new w _)]; rfl
      have f1 : wa.cell? ⟨w.heap.size, 1, none⟩ = some (.string ⟨a.toArray⟩) := by rw [hwa, cell_of_row _ _ _ _ _ _ (heap_alloc_new w _)]; rfl
      have f2 : wa.cell? ⟨w.heap.size, 2, none⟩ = some (.string ⟨b.toArray⟩) := by rw [hwa, cell_of_row _ _ _ _ _ _ (heap_alloc_new w _)]; rfl
      have hba : Below w.heap.size w wa := by rw [hwa]; exact below_new _ _
      have hlt : w.heap.size < wa.heap.size := by rw [hwa]; simp
      rw [← hwa]
      clear hwa
      go_upto_region 6 with (go_at_call 24; refine (Hkn.out _).mono ?_; rw [show Ru.known 3 = true from rfl]; rintro e w2 ⟨rfl, hb2⟩)
      have f0' := (hb2.cell (p := ⟨w.heap.size, 0, none⟩) hlt).trans f0
      have f1' := (hb2.cell (p := ⟨w.heap.size, 1, none⟩) hlt).trans f1
      have hlt' : w.heap.size < w2.heap.size := Nat.lt_of_lt_of_le hlt hb2.size
      have hba' := bseq hba hb2
      clear f0 f1 f2 hba hlt hb2
      refine wp_region_any (by kernel_rfl) ?_
      change wpAny _ _ _ _ _ _ _ (World.drew _)
      have hS0 : Below w2.heap.size w2 w2.drew := (Below.refl _ _).drew
      generalize w2.drew = wd at *
      refine wpAny_of_held (S := fun W => Below w2.heap.size w2 W) _ _ _ _ ?_
      have hS1 : Below w2.heap.size w2 wd := hS0
      have hS2 : (fun W => Below w2.heap.size w2 W) wd := hS0
      refine wpAnyH_take (i := 1) (v := ?v9) rfl (by kernel_rfl) (by kernel_rfl) (by kernel_rfl) (fun _ _ _ h => h) (Or.inl ⟨by kernel_rfl, fun W hW => ?h9⟩) (by assumption) ?_
      case h9 => (go_simp; rfl)
      refine wpAnyH_take (i := 2) (v := ?v10) rfl (by kernel_rfl) (by kernel_rfl) (by kernel_rfl) (fun _ _ _ h => h) (Or.inl ⟨by kernel_rfl, fun W hW => ?h10⟩) (by assumption) ?_
      case h10 => (have c0 := (hW.cell (p := ⟨w.heap.size, 0, none⟩) hlt').trans f0'; go_simp; rfl)
      refine wpAnyH_take (i := 6) (v := ?v11) rfl (by kernel_rfl) (by kernel_rfl) (by kernel_rfl) (fun _ _ _ h => h) (Or.inl ⟨by kernel_rfl, fun W hW => ?h11⟩) (by assumption) ?_
      case h11 => (go_simp; rfl)
      refine wpAnyH_ready (rs := [0]) (by kernel_rfl) (by simp) ?_
      refine AllReadyH.cons rfl (fun K hK => ?_) AllReadyH.nil
      try simp only [Act.put, List.getElem_toArray, List.getElem_cons_zero, List.getElem_cons_succ, List.setIfInBounds_toArray, List.set_cons_zero, List.set_cons_succ]
      go_simp
      go_wp2_with (go_at_call 20; refine (rule_tools _).mono ?_; rintro e w3 ⟨rfl, hT, hb3⟩)
      refine hK.out _ _ (hS1.trans (hb3.mono hS1.size)) (fun _ => ?_)
      clear K hK
      try simp only [Act.put, List.getElem_toArray, List.getElem_cons_zero, List.getElem_cons_succ, List.setIfInBounds_toArray, List.set_cons_zero, List.set_cons_succ]
      refine wpAnyH_take (i := 3) (v := .agg #[.string ⟨Ru.wInd.toArray⟩, .slice (some ⟨wd.heap.size + 1 + 1 + 1, 0, none⟩) 2 2, .func (.func 36) #[] #[]]) rfl (by kernel_rfl) (by kernel_rfl) (by kernel_rfl) (fun _ _ _ h => h) (Or.inl ⟨by kernel_rfl, fun W hW => by (unfold toolsV; go_simp; rfl)⟩) (by assumption) ?_
      refine wpAnyH_take (i := 4) (v := .slice (some ⟨wd.heap.size + 1 + 1 + 1, 0, none⟩) 2 2) rfl (by kernel_rfl) (by kernel_rfl) (by kernel_rfl) (fun _ _ _ h => h) (Or.inl ⟨by kernel_rfl, fun W hW => by (go_simp; rfl)⟩) (by assumption) ?_
      refine wpAnyH_take (i := 5) (v := ?v12) rfl (by kernel_rfl) (by kernel_rfl) (by kernel_rfl) (fun _ _ _ h => h) (Or.inl ⟨by kernel_rfl, fun W hW => ?h12⟩) (by assumption) ?_
      case h12 => (go_simp; rfl)
      refine wpAnyH_done (by kernel_rfl) ?_ _
      try simp only [Act.put, List.getElem_toArray, List.getElem_cons_zero, List.getElem_cons_succ, List.setIfInBounds_toArray, List.set_cons_zero, List.set_cons_succ]
      have hb23 := hS0.trans (hb3.mono hS0.size)
      have f1'' := (hb23.cell (p := ⟨w.heap.size, 1, none⟩) hlt').trans f1'
      have Hlt := Lib.hid (Nat.lt_of_lt_of_le hlt' hb23.size)
      have Hba := Lib.hid (bseq hba' hb23)
      have HE := Lib.hid (show SliceIn (fun _ => True) 1 RStr w3 (.slice (some ⟨wd.heap.size + 1 + 1 + 1, 0, none⟩) 2 2) Ru.endsInd from hT.i)
      have F1 := Lib.hid f1''
      clear hS0 hS1 hS2 hb3 f0' f1' hba' hT hb23 f1'' hlt'
      generalize wd.heap.size + 1 + 1 + 1 = ge at *
      go_wp2_with fail
      go_loopw [3, 21] (fun ov iv wr => ∃ (j : Nat) (p : Option Addr) (c : Nat), j ≤ 2 ∧ iv = .int .i64 (j : Int) ∧ ov = .slice p j c ∧ OwnL w3.heap.size 9 1 RStr wr ov (pre a (Ru.endsInd.take j)) ∧ Below w3.heap.size w3 wr) (fun _ iv _ => 2 - (intOf iv).toNat)
      case atStart => exact ⟨0, none, 0, by decide, rfl, rfl, OwnL.nil _ _ _ _ _, Below.refl _ _⟩
      case round =>
        obtain ⟨j, p, c, hj, rfl, rfl, hO, hb⟩ := hrel
        have HO := Lib.hid hO; have Hbr := Lib.hid hb
        clear hO hb
        by_cases hlt : j < 2
        · obtain ⟨e, he⟩ : ∃ e, Ru.endsInd[j]? = some e := ⟨_, List.getElem?_eq_getElem hlt⟩
          have hel : e.length = 4 := by have hm := List.mem_of_getElem? he; revert hm; exact (by decide : ∀ e ∈ Ru.endsInd, e.length = 4) e
          have ce : wr.cell? ⟨ge, j, none⟩ = some (.string ⟨e.toArray⟩) := by have := (HE.out.below' Hbr.out).cellS he; simpa using this
          have hlt' : (j : Int) < 2 := by omega
          have Hwk := Lib.hid (f2_w1 j (by omega))
          have Hsn := Lib.hid (pre_snoc a Ru.endsInd j e he)
          have c1 : wr.cell? ⟨w.heap.size, 1, none⟩ = some (.string ⟨a.toArray⟩) := (Hbr.out.cell (p := ⟨w.heap.size, 1, none⟩) Hlt.out).trans F1.out
          have s1 : ¬ 9223372036854775807 < a.length + e.length := by have := Ha.out; omega
          obtain ⟨fl, hown, hrep⟩ := HO.out
          have hlen : (pre a (Ru.endsInd.take j)).length = j := by unfold pre; rw [List.length_map, List.length_take]; exact Nat.min_eq_left (show j ≤ Ru.endsInd.length from Nat.le_of_lt hlt)
          rw [hlen] at hown
          have Hown := Lib.hid hown; have Hrep := Lib.hid hrep; have Hlt2 := Lib.hid hlt; have Hel := Lib.hid hel
          have Hm1 := Lib.hid (show j + 1 ≤ maxLen by unfold maxLen; omega)
          have Hn1 := Lib.hid (show (j + 1) * 16 ≤ 140737488355328 by omega)
          have H0W := Lib.hid Hbr.out.size
          clear hown hrep hlt hj he hlen hel
          go_wp2_with (at_builtin; go_loud (refine wpList_append1 rfl (.tmp 25) (.tmp 30) 41 rfl w3.heap.size 9 i0 (.string ⟨#[]⟩) 1 16 Tryz.underlying41 Hi.out Hz0.out Hz1.out Hz2.out rfl (by decide) _ _ _ Hown.out rfl [.string ⟨(a ++ e).toArray⟩] (by first | rfl | rw [append_data]) (by simp) rfl (by simp [Value.oneCell']) Hm1.out Hn1.out H0W.out ?_); intro v2 w9 own2 g2 at2; obtain ⟨p2, cap2, hv2, _⟩ := own2.form (Nat.succ_pos _); subst hv2)
          go_roundw
          case rel =>
            refine ⟨j + 1, some ⟨p2, 0, none⟩, cap2, by have := Hlt2.out; omega, by first | rfl | rw [Hwk.out], rfl, ?_, Hbr.out.grown g2 H0W.out (fun q e => (World.ownsRow.lt Hown.out q e).1)⟩
            rw [Hsn.out]
            refine ⟨_, ?_, RepRow.snoc (R := RStr) (x := a ++ e) (vs := [.string ⟨(a ++ e).toArray⟩]) rfl Hrep.out⟩
            rw [List.length_append, show (pre a (Ru.endsInd.take j)).length = j by unfold pre; rw [List.length_map, List.length_take]; exact Nat.min_eq_left (show j ≤ Ru.endsInd.length from Nat.le_of_lt Hlt2.out)]
            exact own2
          case measure => have := Hlt2.out; (try rw [Hwk.out]); simp [intOf]; omega
        · have he : j = 2 := by omega
          subst he
          clear hlt hj
          go_wp2_with fail
          go_ret
          rw [Hr.out]
          refine ⟨p, c, rfl, ?_, Hba.out.trans (Hbr.out.mono (Nat.le_of_lt Hlt.out))⟩
          exact HO.out.lower (Nat.le_of_lt Hlt.out)
    · have Hr := Lib.hid (show Ru.writes ⟨4, a, b⟩ = [b] from rfl)
      clear hk
      go_enter Tryz.func17, Tryz.ntmps17
      go_wp2_with fail
      go_ret
      rw [Hr.out]
      refine ⟨some ⟨w.heap.size + 1, 0, none⟩, 1, rfl, ?_, bseq (below_new _ _) (below_new _ _)⟩
      have h := own_one (w.alloc (.cells #[.int .i64 4, .string ⟨a.toArray⟩, .string ⟨b.toArray⟩] 36)) b w.heap.size (by simp)
      rwa [show (w.alloc (.cells #[.int .i64 4, .string ⟨a.toArray⟩, .string ⟨b.toArray⟩] 36)).heap.size = w.heap.size + 1 by simp] at h
end Go.Proofs.YtibinlpbcoihoaaGreatDoor
