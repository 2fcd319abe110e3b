/- index.Pages and stetref19.Pages over a slice of numbers as it is handed in. -/
import Derived.Test.YthoblbdkmlggbaaGreatDoorIxTa
set_option linter.unusedSimpArgs false
set_option linter.unusedVariables false
namespace Go.Proofs.YthoblbdkmlggbaaGreatDoor
open Go.RowKit
theorem OSl.pre {α : Type} {n : Nat} {R : α → List Value → Prop} {w : World} {p : Option Addr} {l : List α} (h : OSl n R w p l) (k : Nat) : OSl n R w p (l.take k) := by
  intro j x hj
  refine h j x ?_
  rw [List.getElem?_take] at hj
  split at hj
  · exact hj
  · cases hj
set_option maxRecDepth 100000 in
set_option maxHeartbeats 3200000 in
theorem ref19_risingO (l : List Int) (pa : Option Addr) (cap : Nat) (w : World) (hat : OSl 1 RInt w pa l) (hl : l.length ≤ 100000) :
    Calls Tryz.prog 38 #[.slice pa l.length cap] w fun e w' => ∃ va, e = .returned va ∧ OwnL w.heap.size 3 1 RInt w' va (Ix.rising [] l) ∧ Below w.heap.size w w' := by
  obtain ⟨i0, hi, hz0, hz1, hz2⟩ := info_parts int_info
  have Hi := Lib.hid hi; have Hz0 := Lib.hid hz0; have Hz1 := Lib.hid hz1; have Hz2 := Lib.hid hz2; clear hi hz0 hz1 hz2
  have Hat := Lib.hid hat; have Hl := Lib.hid hl
  clear hat hl
  have hO := Lib.hid (OwnL.made w.heap.size 3 1 RInt w (Nat.le_refl _))
  have hB := Lib.hid (below_new w (.cells #[] 3))
  go_enter Tryz.func38, Tryz.ntmps38
  go_wp2_with fail
  go_loopw [3, 4] (fun ov iv wr => ∃ (k g c : Nat), k ≤ l.length ∧ iv = .int .i64 (k : Int) ∧ ov = .slice (some ⟨g, 0, none⟩) (Ix.rising [] (l.take k)).length c ∧ OwnL w.heap.size 3 1 RInt wr ov (Ix.rising [] (l.take k)) ∧ Below w.heap.size w wr) (fun _ iv _ => l.length - (intOf iv).toNat)
  case atStart => exact ⟨0, _, _, Nat.zero_le _, rfl, rfl, hO.out, hB.out⟩
  case round =>
    clear hO hB
    obtain ⟨k, g, c, hk, rfl, rfl, hO, hb⟩ := hrel
    have HO := Lib.hid hO; have Hb := Lib.hid hb
    clear hO hb
    by_cases hlt : k < l.length
    · obtain ⟨n, hx⟩ : ∃ x, l[k]? = some x := ⟨_, List.getElem?_eq_getElem hlt⟩
      have hstep := Ix.rising_take l k n hx
      have hRs : (Ix.rising [] (l.take k)).Pairwise (· < ·) := Ix.rising_sorted _ _ List.Pairwise.nil
      have hRl : (Ix.rising [] (l.take k)).length ≤ 100000 := by have h1 := Ix.rising_length (l.take k) []; rw [List.length_take] at h1; simp at h1; have := Hl.out; omega
      obtain ⟨R, hR⟩ : ∃ R, R = Ix.rising [] (l.take k) := ⟨_, rfl⟩
      rw [← hR] at hstep hRs hRl HO ⊢
      obtain ⟨a, b, off, sp, vs, rfl, hadr, hbw, hRv, hc⟩ := Hat.out k n hx
      rw [Nat.mul_one] at hadr
      have hRv : vs = _ := hRv
      subst hRv
      have e0 : wr.cell? ⟨b, off, sp⟩ = some (.int .i64 n) := (Hb.out.cell (p := ⟨b, off, sp⟩) hbw).trans (hc 0 _ rfl)
      have hlt' : (k : Int) < (l.length : Int) := by omega
      have hkl : (k : Int) + 1 ≤ 9223372036854775807 := by have := Hl.out; omega
      have Hstep := Lib.hid hstep; have HRs := Lib.hid hRs; have HRl := Lib.hid hRl; have Hlt := Lib.hid hlt; have HSL := Lib.hid (HO.out.slice RInt.size (fun _ => True) (fun _ _ => trivial))
      clear hstep hRs hRl hR hc hx hlt hbw
      by_cases h1 : n < 1
      · have Hst := Lib.hid (show Ix.rising [] (l.take (k + 1)) = R by rw [Hstep.out, if_neg (by simp [Ix.page]; omega)])
        go_wp2_with fail
        go_roundw
        case rel => exact ⟨k + 1, g, c, by have := Hlt.out; omega, by go_num, by rw [Hst.out], by rw [Hst.out]; exact HO.out, Hb.out⟩
        case measure => have := Hlt.out; simp [intOf]; omega
      · have d1 : decide (n < 1) = false := decide_eq_false h1
        by_cases h2 : 999999 < n
        · have Hst := Lib.hid (show Ix.rising [] (l.take (k + 1)) = R by rw [Hstep.out, if_neg (by simp [Ix.page]; omega)])
          clear h1
          go_wp2_with fail
          go_roundw
          case rel => exact ⟨k + 1, g, c, by have := Hlt.out; omega, by go_num, by rw [Hst.out], by rw [Hst.out]; exact HO.out, Hb.out⟩
          case measure => have := Hlt.out; simp [intOf]; omega
        · have d2 : decide (999999 < n) = false := decide_eq_false h2
          have hpg := Lib.hid (show Ix.page n = true by simp [Ix.page]; omega)
          clear h1 h2
          cases hm : decide (n ∈ R) with
          | true =>
            have Hm := Lib.hid hm; clear hm
            have Hst := Lib.hid (show Ix.rising [] (l.take (k + 1)) = R by rw [Hstep.out, if_pos hpg.out, Ix.ins_mem n R HRs.out (of_decide_eq_true Hm.out)])
            go_wp2_with (go_at_call 66; refine (ref19_has R n _ _ _ HSL.out (by have := HRl.out; omega)).mono ?_; rw [Hm.out]; rintro e w' ⟨rfl, hw'⟩; have hw' := hw'.symm; subst hw')
            go_roundw
            case rel => exact ⟨k + 1, g, c, by have := Hlt.out; omega, by go_num, by rw [Hst.out], by rw [Hst.out]; exact HO.out, Hb.out⟩
            case measure => have := Hlt.out; simp [intOf]; omega
          | false =>
            have Hm := Lib.hid hm; clear hm
            have Hst := Lib.hid (show Ix.rising [] (l.take (k + 1)) = R.take (Ix.lessN n R) ++ [n] ++ R.drop (Ix.lessN n R) by rw [Hstep.out, if_pos hpg.out, Ix.ins_split n R HRs.out (of_decide_eq_false Hm.out)])
            go_wp2_with (go_at_call 66; refine (ref19_has R n _ _ _ HSL.out (by have := HRl.out; omega)).mono ?_; rw [Hm.out]; rintro e w' ⟨rfl, hw'⟩; have hw' := hw'.symm; subst hw')
            obtain ⟨u, rfl⟩ : ∃ u, u = wr := ⟨_, rfl⟩
            have hO2 := Lib.hid (OwnL.made u.heap.size 3 1 RInt u (Nat.le_refl _))
            have hB2 := Lib.hid (below_new u (.cells #[] 3))
            have hmle := Ix.lessN_le n R
            have hmlt := Lib.hid (Ix.lessN_lt n R)
            have hmge := Lib.hid (Ix.lessN_ge n R)
            obtain ⟨m, hm⟩ : ∃ m, m = Ix.lessN n R := ⟨_, rfl⟩
            rw [← hm] at hmle hmlt hmge Hst
            have Hmle := Lib.hid hmle
            clear hm hmle d1 d2
            go_loopw [6, 7] (fun nv jv wq => ∃ (j g2 c2 : Nat), j ≤ m ∧ jv = .int .i64 (j : Int) ∧ nv = .slice (some ⟨g2, 0, none⟩) j c2 ∧ OwnL u.heap.size 3 1 RInt wq nv (R.take j) ∧ Below u.heap.size u wq) (fun _ jv _ => R.length - (intOf jv).toNat)
            case atStart => exact ⟨0, _, _, Nat.zero_le _, rfl, rfl, hO2.out, hB2.out⟩
            case round =>
              clear hO2 hB2
              obtain ⟨j, g2, c2, hj, rfl, rfl, hO2, hb2⟩ := hrel
              have HO2 := Lib.hid hO2; have Hb2 := Lib.hid hb2
              clear hO2 hb2
              have cell_ : ∀ (q : Nat) (x : Int), R[q]? = some x → wr.cell? ⟨g, q, none⟩ = some (.int .i64 x) := by
                intro q x hq
                obtain ⟨p', c', hp', _, _, hat⟩ := HSL.out
                simp only [Value.slice.injEq] at hp'
                obtain ⟨rfl, -, rfl⟩ := hp'
                obtain ⟨b', off', vs', hbo, _, hbw', hR', hc'⟩ := hat q x hq
                simp only [Option.some.injEq, Addr.mk.injEq, and_true] at hbo
                obtain ⟨rfl, rfl⟩ := hbo
                have hR' : vs' = _ := hR'
                subst hR'
                have := (Hb2.out.cell (p := ⟨g, 0 + (q * 1 + 0), none⟩) hbw').trans (hc' 0 _ rfl)
                simpa using this
              have Cell := Lib.hid cell_; clear cell_
              have cell2_ : ∀ (q : Nat) (x : Int), R[q]? = some x → u.cell? ⟨g, q, none⟩ = some (.int .i64 x) ∧ g < u.heap.size := by
                intro q x hq
                obtain ⟨p', c', hp', _, _, hat⟩ := HSL.out
                simp only [Value.slice.injEq] at hp'
                obtain ⟨rfl, -, rfl⟩ := hp'
                obtain ⟨b', off', vs', hbo, _, hbw', hR', hc'⟩ := hat q x hq
                simp only [Option.some.injEq, Addr.mk.injEq, and_true] at hbo
                obtain ⟨rfl, rfl⟩ := hbo
                have hR' : vs' = _ := hR'
                subst hR'
                have := hc' 0 _ rfl
                exact ⟨by simpa using this, hbw'⟩
              have Cell2 := Lib.hid cell2_; clear cell2_
              by_cases hjm : j < m
              · obtain ⟨x, hx⟩ : ∃ x, R[j]? = some x := ⟨_, List.getElem?_eq_getElem (by have := Hmle.out; omega)⟩
                have e1 := Cell.out j x hx
                have hxn := hmlt.out j x hx hjm
                have hjR : (j : Int) < (R.length : Int) := by have := Hmle.out; omega
                have hjl : (j : Int) + 1 ≤ 9223372036854775807 := by have := HRl.out; omega
                obtain ⟨fl, hown, hrep⟩ := HO2.out
                rw [List.length_take, Nat.min_eq_left (by have := Hmle.out; omega)] at hown
                have Hown := Lib.hid hown; have Hrep := Lib.hid hrep
                have Hm1 := Lib.hid (show j + 1 ≤ maxLen by have := HRl.out; unfold maxLen; omega)
                have Hn1 := Lib.hid (show (j + 1) * 8 ≤ 140737488355328 by have := HRl.out; omega)
                have H0W := Lib.hid Hb2.out.size
                have Hsn := Lib.hid (show R.take (j + 1) = R.take j ++ [x] by rw [List.take_add_one, hx]; rfl)
                have Hjm := Lib.hid hjm
                clear hown hrep hx hjm
                go_wp2_with (at_builtin; go_loud (refine wpList_append1 rfl (.tmp 46) (.tmp 51) 22 rfl u.heap.size 3 i0 (.int .i64 0) 1 8 Tryz.underlying22 Hi.out Hz0.out Hz1.out Hz2.out rfl (by decide) _ _ _ Hown.out rfl [.int .i64 x] rfl (by simp) rfl (by simp [Value.oneCell']) Hm1.out Hn1.out H0W.out ?_); intro v2 w9 own2 g3 at2; obtain ⟨p2, cap2, hv2, _⟩ := own2.form (Nat.succ_pos _); subst hv2)
                go_roundw
                case rel =>
                  refine ⟨j + 1, p2, cap2, by have := Hjm.out; omega, by go_num, rfl, ?_, Hb2.out.grown g3 H0W.out (fun q e => (World.ownsRow.lt Hown.out q e).1)⟩
                  rw [Hsn.out]
                  exact ⟨_, by rw [List.length_append, List.length_take, Nat.min_eq_left (by have := Hmle.out; have := Hjm.out; omega)]; exact own2, RepRow.snoc (R := RInt) (vs := [.int .i64 x]) rfl Hrep.out⟩
                case measure => have := Hjm.out; have := Hmle.out; simp [intOf]; omega
              · have he : j = m := by omega
                subst he
                have Hcap := Lib.hid (show R.length ≤ c by
                  obtain ⟨p', c', hp', hle, _⟩ := HSL.out
                  simp only [Value.slice.injEq] at hp'
                  omega)
                by_cases hjl : j < R.length
                · obtain ⟨x, hx⟩ : ∃ x, R[j]? = some x := ⟨_, List.getElem?_eq_getElem hjl⟩
                  have e1 := Cell.out j x hx
                  have hxn : decide (x < n) = false := decide_eq_false (hmge.out x hx)
                  have hjR : (j : Int) < (R.length : Int) := by omega
                  clear hx
                  obtain ⟨fl, hown, hrep⟩ := HO2.out
                  rw [List.length_take, Nat.min_eq_left Hmle.out] at hown
                  have Hown := Lib.hid hown; have Hrep := Lib.hid hrep
                  have Hm1 := Lib.hid (show j + 1 ≤ maxLen by have := HRl.out; have := Hmle.out; unfold maxLen; omega)
                  have Hn1 := Lib.hid (show (j + 1) * 8 ≤ 140737488355328 by have := HRl.out; have := Hmle.out; omega)
                  have H0W := Lib.hid Hb2.out.size
                  clear hown hrep hjm hj hjl
                  go_upto_region 14 with (at_builtin; go_loud (refine wpList_append1 rfl (.tmp 55) (.tmp 57) 22 rfl u.heap.size 3 i0 (.int .i64 0) 1 8 Tryz.underlying22 Hi.out Hz0.out Hz1.out Hz2.out rfl (by decide) _ _ _ Hown.out rfl [.int .i64 n] rfl (by simp) rfl (by simp [Value.oneCell']) Hm1.out Hn1.out H0W.out ?_); intro v2 w9 own2 g3 at2; obtain ⟨p2, cap2, hv2, _⟩ := own2.form (Nat.succ_pos _); subst hv2)
                  clear e1 hxn
                  have Hj := Lib.hid hjR
                  clear hjR
                  have hb9 := Hb2.out.grown g3 H0W.out (fun q e => (World.ownsRow.lt Hown.out q e).1)
                  have HB9 := Lib.hid hb9
                  obtain ⟨v3, w10, hrun, own3, g4, _, _⟩ := run_append_own_at (P := Tryz.prog) w9 u.heap.size 22 22 3 i0 (.int .i64 0) 1 8 Tryz.underlying22 Hi.out Hz0.out Hz1.out Hz2.out rfl (by decide) _ _ _ own2 ⟨g, j, none⟩ (R.length - j) (c - j) ((R.drop j).map (Value.int .i64)) (by rw [List.length_map, List.length_drop, Nat.mul_one]) (fun q x hq => by
                      rw [List.getElem?_map] at hq
                      obtain ⟨z, hz, rfl⟩ := Option.map_eq_some_iff.1 hq
                      rw [List.getElem?_drop] at hz
                      have h1 := Cell2.out (j + q) z hz
                      rw [addG_cell]
                      have h2 := (HB9.out.cell (p := ⟨g, j + q, none⟩) h1.2).trans h1.1
                      cases q with
                      | zero => exact h2
                      | succ q => exact h2) (fun z hz => by obtain ⟨y, _, rfl⟩ := List.mem_map.1 hz; rfl) (by have := HRl.out; have := Hmle.out; unfold maxLen; omega) (by have := HRl.out; have := Hmle.out; omega) HB9.out.size
                  obtain ⟨p3, c3, hv3, _⟩ := own3.form (by omega)
                  subst hv3
                  have Hrun := Lib.hid hrun; have Own3 := Lib.hid own3; have HB10 := Lib.hid (hb9.grown g4 hb9.size (fun q e => (World.ownsRow.lt own2 q e).1))
                  have hcj : ¬ c = j := by have := Hcap.out; have := Hj.out; omega
                  have hjl0 : ¬ (j : Int) < 0 := by omega
                  have hjR2 : (j : Int) ≤ (R.length : Int) := by have := Hmle.out; omega
                  have hRc : (R.length : Int) ≤ (c : Int) := by have := Hcap.out; omega
                  clear hb9 hrun own3 g4 own2 g3 at2
                  go_wp2_with (at_builtin; refine wpList_append_run rfl (.tmp 59) (.tmp 62) 22 rfl rfl rfl Hrun.out ?_)
                  go_roundw
                  case rel =>
                    refine ⟨k + 1, p3, c3, by have := Hlt.out; omega, by go_num, ?_, ?_, Hb.out.trans (HB10.out.mono Hb.out.size)⟩
                    · rw [Hst.out]
                      have hh : (R.take j ++ [n] ++ R.drop j).length = j + 1 + (R.length - j) := by
                        rw [List.length_append, List.length_append, List.length_take, List.length_drop, Nat.min_eq_left Hmle.out]; rfl
                      rw [hh]
                    · rw [Hst.out]
                      have hh : (R.take j ++ [n] ++ R.drop j).length = j + 1 + (R.length - j) := by
                        rw [List.length_append, List.length_append, List.length_take, List.length_drop, Nat.min_eq_left Hmle.out]; rfl
                      have h1 := Own3.out
                      rw [rep_ints _ _ Hrep.out] at h1
                      have h2 : (R.take j).map (Value.int .i64) ++ [Value.int .i64 n] ++ (R.drop j).map (Value.int .i64) = (R.take j ++ [n] ++ R.drop j).map (Value.int .i64) := by simp
                      rw [h2, ← hh] at h1
                      exact OwnL.lower ⟨_, by rw [hh] at h1 ⊢; exact h1, ints_rep _⟩ Hb.out.size
                  case measure => have := Hlt.out; simp [intOf]; omega
                · obtain ⟨fl, hown, hrep⟩ := HO2.out
                  rw [List.length_take, Nat.min_eq_left Hmle.out] at hown
                  have Hown := Lib.hid hown; have Hrep := Lib.hid hrep
                  have Hm1 := Lib.hid (show j + 1 ≤ maxLen by have := HRl.out; have := Hmle.out; unfold maxLen; omega)
                  have Hn1 := Lib.hid (show (j + 1) * 8 ≤ 140737488355328 by have := HRl.out; have := Hmle.out; omega)
                  have H0W := Lib.hid Hb2.out.size
                  clear hown hrep hjm hj
                  go_upto_region 14 with (at_builtin; go_loud (refine wpList_append1 rfl (.tmp 55) (.tmp 57) 22 rfl u.heap.size 3 i0 (.int .i64 0) 1 8 Tryz.underlying22 Hi.out Hz0.out Hz1.out Hz2.out rfl (by decide) _ _ _ Hown.out rfl [.int .i64 n] rfl (by simp) rfl (by simp [Value.oneCell']) Hm1.out Hn1.out H0W.out ?_); intro v2 w9 own2 g3 at2; obtain ⟨p2, cap2, hv2, _⟩ := own2.form (Nat.succ_pos _); subst hv2)
                  have Hj := Lib.hid hjl
                  clear hjl
                  have hd : R.drop j = [] := List.drop_of_length_le (by have := Hj.out; omega)
                  have hb9 := Hb2.out.grown g3 H0W.out (fun q e => (World.ownsRow.lt Hown.out q e).1)
                  have HB9 := Lib.hid hb9
                  obtain ⟨v3, w10, hrun, own3, g4, _, _⟩ := run_append_own_at (P := Tryz.prog) w9 u.heap.size 22 22 3 i0 (.int .i64 0) 1 8 Tryz.underlying22 Hi.out Hz0.out Hz1.out Hz2.out rfl (by decide) _ _ _ own2 ⟨g, (if c = j then 0 else j), none⟩ (R.length - j) (c - j) ((R.drop j).map (Value.int .i64)) (by rw [List.length_map, List.length_drop, Nat.mul_one]) (fun q x hq => by rw [hd] at hq; simp at hq) (fun z hz => by obtain ⟨y, _, rfl⟩ := List.mem_map.1 hz; rfl) (by have := HRl.out; have := Hmle.out; unfold maxLen; omega) (by have := HRl.out; have := Hmle.out; omega) HB9.out.size
                  obtain ⟨p3, c3, hv3, _⟩ := own3.form (by omega)
                  subst hv3
                  have Hrun := Lib.hid hrun; have Own3 := Lib.hid own3; have HB10 := Lib.hid (hb9.grown g4 hb9.size (fun q e => (World.ownsRow.lt own2 q e).1))
                  have hjl0 : ¬ (j : Int) < 0 := by omega
                  have hjR2 : (j : Int) ≤ (R.length : Int) := by have := Hmle.out; omega
                  have hRc : (R.length : Int) ≤ (c : Int) := by have := Hcap.out; omega
                  have hjn : ¬ j < R.length := Hj.out
                  clear hb9 hrun own3 g4 own2 g3 at2 hd hjn hjl0
                  have hjl0 : ¬ (j : Int) < 0 := by omega
                  by_cases hcj : c = j
                  · rw [if_pos hcj] at Hrun
                    go_wp2_with (at_builtin; refine wpList_append_run rfl (.tmp 59) (.tmp 62) 22 rfl rfl rfl Hrun.out ?_)
                    go_roundw
                    case rel =>
                      refine ⟨k + 1, p3, c3, by have := Hlt.out; omega, by go_num, ?_, ?_, Hb.out.trans (HB10.out.mono Hb.out.size)⟩
                      · rw [Hst.out]
                        have hh : (R.take j ++ [n] ++ R.drop j).length = j + 1 + (R.length - j) := by
                          rw [List.length_append, List.length_append, List.length_take, List.length_drop, Nat.min_eq_left Hmle.out]; rfl
                        rw [hh]
                      · rw [Hst.out]
                        have hh : (R.take j ++ [n] ++ R.drop j).length = j + 1 + (R.length - j) := by
                          rw [List.length_append, List.length_append, List.length_take, List.length_drop, Nat.min_eq_left Hmle.out]; rfl
                        have h1 := Own3.out
                        rw [rep_ints _ _ Hrep.out] at h1
                        have h2 : (R.take j).map (Value.int .i64) ++ [Value.int .i64 n] ++ (R.drop j).map (Value.int .i64) = (R.take j ++ [n] ++ R.drop j).map (Value.int .i64) := by simp
                        rw [h2, ← hh] at h1
                        exact OwnL.lower ⟨_, by rw [hh] at h1 ⊢; exact h1, ints_rep _⟩ Hb.out.size
                    case measure => have := Hlt.out; simp [intOf]; omega
                  · rw [if_neg hcj] at Hrun
                    go_wp2_with (at_builtin; refine wpList_append_run rfl (.tmp 59) (.tmp 62) 22 rfl rfl rfl Hrun.out ?_)
                    go_roundw
                    case rel =>
                      refine ⟨k + 1, p3, c3, by have := Hlt.out; omega, by go_num, ?_, ?_, Hb.out.trans (HB10.out.mono Hb.out.size)⟩
                      · rw [Hst.out]
                        have hh : (R.take j ++ [n] ++ R.drop j).length = j + 1 + (R.length - j) := by
                          rw [List.length_append, List.length_append, List.length_take, List.length_drop, Nat.min_eq_left Hmle.out]; rfl
                        rw [hh]
                      · rw [Hst.out]
                        have hh : (R.take j ++ [n] ++ R.drop j).length = j + 1 + (R.length - j) := by
                          rw [List.length_append, List.length_append, List.length_take, List.length_drop, Nat.min_eq_left Hmle.out]; rfl
                        have h1 := Own3.out
                        rw [rep_ints _ _ Hrep.out] at h1
                        have h2 : (R.take j).map (Value.int .i64) ++ [Value.int .i64 n] ++ (R.drop j).map (Value.int .i64) = (R.take j ++ [n] ++ R.drop j).map (Value.int .i64) := by simp
                        rw [h2, ← hh] at h1
                        exact OwnL.lower ⟨_, by rw [hh] at h1 ⊢; exact h1, ints_rep _⟩ Hb.out.size
                    case measure => have := Hlt.out; simp [intOf]; omega
    · have he : k = l.length := by omega
      subst he
      clear hlt hk
      rw [List.take_length] at HO ⊢
      go_wp2_with fail
      go_ret
      exact ⟨_, rfl, HO.out, Hb.out⟩
set_option maxRecDepth 100000 in
set_option maxHeartbeats 3200000 in
theorem ref19_PagesO (l : List Int) (pa0 : Option Addr) (cap0 : Nat) (w : World) (hS : OSl 1 RInt w pa0 l) (hl : l.length ≤ 100000) :
    Calls Tryz.prog 14 #[.slice pa0 l.length cap0] w fun e w' => e = .returned (.string ⟨(Ix.text l).toArray⟩) ∧ Below w.heap.size w w' := by
  have HS := Lib.hid hS; have Hl := Lib.hid hl
  clear hS hl
  go_enter Tryz.func14, Tryz.ntmps14
  go_wp2_with fail
  refine (ref19_risingO l pa0 cap0 w HS.out Hl.out).mono ?_
  rintro e w1 ⟨va, rfl, hO, hb1⟩
  have hPl : (Ix.rising [] l).length ≤ 100000 := by have h1 := Ix.rising_length l []; simp at h1; have := Hl.out; omega
  have hPp := Ix.rising_page l
  obtain ⟨P, hP⟩ : ∃ P, P = Ix.rising [] l := ⟨_, rfl⟩
  have htx : Ix.text l = Ix.join (Ix.parts P) := by rw [hP]; rfl
  rw [← hP] at hPl hPp hO
  obtain ⟨pa, ca, rfl⟩ := hO.form
  have SP := Lib.hid (hO.slice RInt.size (fun _ => True) (fun _ _ => trivial))
  have HPl := Lib.hid hPl; have HPp := Lib.hid hPp; have Htx := Lib.hid htx; have B1 := Lib.hid hb1
  clear hPl hPp htx hP hO hb1
  go_wp2_with fail
  go_loopw [4, 5] (fun sv iv wr => ∃ (i : Nat) (done : List (List UInt8)), i ≤ P.length ∧ iv = .int .i64 (i : Int) ∧ sv = .string ⟨(Ix.join done).toArray⟩ ∧ done ++ Ix.parts (P.drop i) = Ix.parts P ∧ (Ix.join done).length ≤ 15 * i ∧ (∀ u ∈ done, u ≠ []) ∧ Below w1.heap.size w1 wr) (fun _ iv _ => P.length - (intOf iv).toNat)
  case atStart => exact ⟨0, [], Nat.zero_le _, rfl, rfl, rfl, by simp [Ix.join], by simp, Below.refl _ _⟩
  case round =>
    obtain ⟨i, done, hi, rfl, rfl, hd, hjl, hdne, hb⟩ := hrel
    have Hd := Lib.hid hd; have Hjl := Lib.hid hjl; have Hb := Lib.hid hb; have Hdne := Lib.hid hdne
    clear hd hjl hb hdne
    by_cases hlt : i < P.length
    · obtain ⟨u, rfl⟩ : ∃ u, u = wr := ⟨_, rfl⟩
      have cell_ : ∀ (q : Nat) (x : Int) (W : World), P[q]? = some x → Below w1.heap.size w1 W → ∃ b off, pa = some ⟨b, off, none⟩ ∧ W.cell? ⟨b, off + q, none⟩ = some (.int .i64 x) := by
        intro q x W hq hbW
        obtain ⟨p', c', hp', _, _, hat⟩ := SP.out
        simp only [Value.slice.injEq] at hp'
        obtain ⟨rfl, -, rfl⟩ := hp'
        obtain ⟨b', off', vs', rfl, _, hbw', hR', hc'⟩ := hat q x hq
        have hR' : vs' = _ := hR'
        subst hR'
        have := (hbW.cell (p := ⟨b', off' + (q * 1 + 0), none⟩) hbw').trans (hc' 0 _ rfl)
        rw [Nat.mul_one, Nat.add_zero] at this
        exact ⟨b', off', rfl, this⟩
      have Cell := Lib.hid cell_; clear cell_
      have hlt' : (i : Int) < (P.length : Int) := by omega
      have Hlt := Lib.hid hlt; clear hlt hi
      obtain ⟨b0, off0, hpa, _⟩ := Cell.out i P[i]! u (by rw [List.getElem!_eq_getElem?_getD, List.getElem?_eq_getElem Hlt.out]; rfl) Hb.out
      subst hpa
      obtain ⟨K, hK⟩ : ∃ K, K = Ix.runLen (P.drop i) := ⟨_, rfl⟩
      have hK1 : 1 ≤ K := by
        rw [hK]
        obtain ⟨h1, h2⟩ : ∃ a r, P.drop i = a :: r := ⟨_, _, List.drop_eq_getElem_cons Hlt.out⟩
        obtain ⟨h2, h3⟩ := h2
        rw [h3]; exact Ix.runLen_pos _ _
      have hKl : i + K ≤ P.length := by
        have h1 := Ix.runLen_le (P.drop i)
        rw [List.length_drop] at h1
        have := Hlt.out
        omega
      have HK := Lib.hid hK; have HK1 := Lib.hid hK1; have HKl := Lib.hid hKl
      clear hK hK1 hKl
      go_upto_block 2 with fail
      go_cut [5] from 16 to 35 (fun jv W => jv = .int .i64 (((i + K - 1 : Nat)) : Int) ∧ Below w1.heap.size w1 W)
      case first =>
        go_wp2_with fail
        go_loopw [5] (fun jv wr => ∃ j : Nat, i ≤ j ∧ j < P.length ∧ jv = .int .i64 (j : Int) ∧ Ix.Run (P.drop i) (j - i + 1) ∧ Below w1.heap.size w1 wr) (fun jv _ => P.length - (intOf jv).toNat)
        case atStart => exact ⟨i, Nat.le_refl _, Hlt.out, rfl, fun q hq => by omega, Hb.out⟩
        case round =>
          obtain ⟨j, hij, hjl, rfl, hrun, hb⟩ := hrel
          have Hrun := Lib.hid hrun; have Hbj := Lib.hid hb; have Hij := Lib.hid hij; have Hjl2 := Lib.hid hjl
          clear hrun hb
          obtain ⟨k2, hk2⟩ : ∃ k2, k2 = j + 1 := ⟨_, rfl⟩
          have hw3 : IntKind.i64.wrap ((j : Int) + 1) = (k2 : Int) := by rw [IntWalk.i64_in _ (by have := HPl.out; omega)]; omega
          have hjI : (j : Int) < (P.length : Int) := by omega
          obtain ⟨y, hy⟩ : ∃ y, P[j]? = some y := ⟨_, List.getElem?_eq_getElem hjl⟩
          obtain ⟨_, _, hpe, e1⟩ := Cell.out j y wr hy Hbj.out
          simp only [Option.some.injEq, Addr.mk.injEq, and_true] at hpe
          obtain ⟨rfl, rfl⟩ := hpe
          have hyb := HPp.out y (List.mem_of_getElem? hy)
          have hw2 : IntKind.i64.wrap (y + 1) = y + 1 := IntWalk.i64_in _ (by omega)
          have hex : ∀ (q : Nat), (P.drop i)[q]! = P[i + q]! := fun q => by
            rw [List.getElem!_eq_getElem?_getD, List.getElem!_eq_getElem?_getD, List.getElem?_drop]
          have hyg : P[j]! = y := by rw [List.getElem!_eq_getElem?_getD, hy]; rfl
          have Hk2 := Lib.hid hk2; have Hy := Lib.hid hy; have Hex := Lib.hid hex; have Hyg := Lib.hid hyg
          clear hk2 hy hex hyg hyb hij hjl
          by_cases hkl : k2 < P.length
          · obtain ⟨x, hx⟩ : ∃ x, P[k2]? = some x := ⟨_, List.getElem?_eq_getElem hkl⟩
            obtain ⟨_, _, hpe, e2⟩ := Cell.out k2 x wr hx Hbj.out
            simp only [Option.some.injEq, Addr.mk.injEq, and_true] at hpe
            obtain ⟨rfl, rfl⟩ := hpe
            have hxg : P[k2]! = x := by rw [List.getElem!_eq_getElem?_getD, hx]; rfl
            have hkI : (k2 : Int) < (P.length : Int) := by omega
            have Hxg := Lib.hid hxg; have Hkl := Lib.hid hkl
            clear hx hxg hkl
            cases hs : (x == y + 1)
            · have hne : x ≠ y + 1 := by simpa using hs
              have hKj := Lib.hid (show i + K - 1 = j by
                have h1 := Ix.runLen_of (P.drop i) (j - i + 1) (by omega) (by rw [List.length_drop]; have := Hij.out; have := Hjl2.out; omega) Hrun.out (.inr (by
                  have h2 := Hij.out
                  have h3 := Hk2.out
                  rw [Hex.out, Hex.out, show i + (j - i + 1) = k2 by omega, show i + (j - i + 1 - 1) = j by omega, Hxg.out, Hyg.out]
                  exact hne))
                have := HK.out
                have := Hij.out
                omega)
              clear hne
              go_upto_region 6 with fail
              go_quiet (fail)
              go_wp2_with fail
              go_meet
              exact ⟨by rw [hKj.out], below_drewN Hbj.out _⟩
            · have hxy := Lib.hid (eq_of_beq hs)
              go_upto_region 6 with fail
              go_quiet (fail)
              go_wp2_with fail
              go_roundw
              case rel =>
                refine ⟨k2, by have := Hk2.out; have := Hij.out; omega, Hkl.out, rfl, fun q hq => ?_, below_drewN Hbj.out _⟩
                have h2 := Hij.out
                have h3 := Hk2.out
                by_cases hqj : q + 1 < j - i + 1
                · exact Hrun.out q hqj
                · rw [Hex.out, Hex.out, show i + (q + 1) = k2 by omega, show i + q = j by omega, Hxg.out, Hyg.out]
                  exact hxy.out
              case measure => have := Hkl.out; have := Hk2.out; simp [intOf]; omega
          · have hKj := Lib.hid (show i + K - 1 = j by
              have h1 := Ix.runLen_of (P.drop i) (j - i + 1) (by omega) (by rw [List.length_drop]; have := Hij.out; have := Hjl2.out; omega) Hrun.out (.inl (by
                rw [List.length_drop]
                have := Hk2.out; have := Hij.out; have := Hjl2.out
                omega))
              have := HK.out
              have := Hij.out
              omega)
            go_upto_region 6 with fail
            go_quiet (fail)
            go_wp2_with fail
            go_meet
            exact ⟨by rw [hKj.out], below_drewN Hbj.out _⟩
      case rest =>
        obtain ⟨rfl, hbc⟩ := hcut
        have Hbc := Lib.hid hbc; clear hbc
        obtain ⟨a, ha⟩ : ∃ a, P[i]? = some a := ⟨_, List.getElem?_eq_getElem Hlt.out⟩
        obtain ⟨_, _, hpe, e1⟩ := Cell.out i a wc ha Hbc.out
        simp only [Option.some.injEq, Addr.mk.injEq, and_true] at hpe
        obtain ⟨rfl, rfl⟩ := hpe
        have Ha1 := Lib.hid (HPp.out a (List.mem_of_getElem? ha))
        have hdr : P.drop i = a :: P.drop (i + 1) := by
          obtain ⟨h1, h2⟩ := List.getElem?_eq_some_iff.1 ha
          rw [List.drop_eq_getElem_cons h1, h2]
        obtain ⟨D, hD⟩ : ∃ D, D = Ix.dig a := ⟨_, rfl⟩
        have HDl := Lib.hid (show D.length ≤ 6 by rw [hD]; exact Ix.dig_length a)
        have HD := Lib.hid hD
        have hK := HK.out; have hK1 := HK1.out; have hKl := HKl.out
        have hi2 : (i : Int) + 2 ≤ 9223372036854775807 := by have := HPl.out; have := Hlt.out; omega
        have hwi : IntKind.i64.wrap ((i : Int) + 2) = (i : Int) + 2 := IntWalk.i64_in _ (by omega)
        clear ha
        by_cases h3 : 3 ≤ K
        · obtain ⟨z, hz⟩ : ∃ z, P[i + K - 1]? = some z := ⟨_, List.getElem?_eq_getElem (by omega)⟩
          have hpr : Ix.parts (P.drop i) = (D ++ 45 :: Ix.dig z) :: Ix.parts (P.drop (i + K - 1 + 1)) := by
            rw [hdr] at hK ⊢
            rw [Ix.parts_run _ _ (by rw [← hK]; exact h3), ← hK, ← hD]
            congr 1
            · congr 3
              rw [← hdr, List.getD_eq_getElem?_getD, List.getElem?_drop, show i + (K - 1) = i + K - 1 by omega, hz]; rfl
            · rw [← hdr, List.drop_drop]; congr 2; omega
          obtain ⟨j2, hj2⟩ : ∃ j2, j2 = i + K - 1 := ⟨_, rfl⟩
          rw [← hj2] at hz hpr ⊢
          obtain ⟨E, hE⟩ : ∃ E, E = Ix.dig z := ⟨_, rfl⟩
          rw [← hE] at hpr
          have HEl := Lib.hid (show E.length ≤ 6 by rw [hE]; exact Ix.dig_length z)
          have HE := Lib.hid hE; have Hz1 := Lib.hid (HPp.out z (List.mem_of_getElem? hz)); have Hz := Lib.hid hz; have Hpr := Lib.hid hpr
          have hge : decide ((j2 : Int) < (i : Int) + 2) = false := decide_eq_false (by omega)
          have Hj2 := Lib.hid (show i + 2 ≤ j2 by omega); have Hj2l := Lib.hid (show j2 < P.length by omega)
          have hj2m : (j2 : Int) + 1 ≤ 9223372036854775807 := by have := HPl.out; omega
          clear hE hz hpr hdr hD hK hK1 hKl h3 hj2
          have hlI := hlt'
          by_cases hd0 : done = []
          · subst hd0
            have hj0 : Ix.join ([] : List (List UInt8)) = [] := rfl
            rw [hj0]
            clear hj0
            go_wp2_with fail
            refine (ref19_dig a _ Ha1.out.1 Ha1.out.2).mono ?_
            rw [← HD.out]
            rintro e wd ⟨rfl, hbd⟩
            have Hbd := Lib.hid (bseq Hbc.out hbd); clear hbd
            obtain ⟨B, hB⟩ : ∃ B, B = D := ⟨_, rfl⟩
            have HBl := Lib.hid (show B.length ≤ 3000000 by rw [hB]; have := HDl.out; omega)
            have hap5 : (⟨#[]⟩ : ByteArray) ++ ⟨D.toArray⟩ = ⟨B.toArray⟩ := by rw [hB]; exact append_data [] D
            have HBe := Lib.hid hB; clear hB
            have hq5 : ¬ 9223372036854775807 < D.length := by have := HDl.out; omega
            obtain ⟨_, _, hpe, ez⟩ := Cell.out j2 z wd Hz.out Hbd.out
            simp only [Option.some.injEq, Addr.mk.injEq, and_true] at hpe
            obtain ⟨rfl, rfl⟩ := hpe
            have hjI : (j2 : Int) < (P.length : Int) := by have := Hj2l.out; omega
            have hji : (i : Int) < (j2 : Int) := by have := Hj2.out; omega
            have hap3 : (⟨#[45]⟩ : ByteArray) ++ ⟨E.toArray⟩ = ⟨([45] ++ E).toArray⟩ := append_data [45] E
            obtain ⟨F, hF⟩ : ∃ F, F = [45] ++ E := ⟨_, rfl⟩
            rw [← hF] at hap3
            have HFl := Lib.hid (show F.length ≤ 7 by rw [hF, List.length_append]; simp; have := HEl.out; omega)
            have HF := Lib.hid hF; clear hF
            have hq3 : ¬ 9223372036854775807 < 1 + E.length := by have := HEl.out; omega
            have hq4 : ¬ 9223372036854775807 < B.length + F.length := by have := HBl.out; have := HFl.out; omega
            have hap4 : (⟨B.toArray⟩ : ByteArray) ++ ⟨F.toArray⟩ = ⟨(B ++ F).toArray⟩ := append_data B F
            go_wp2_with fail
            refine (ref19_dig z _ Hz1.out.1 Hz1.out.2).mono ?_
            rw [← HE.out]
            rintro e we ⟨rfl, hbe⟩
            have Hbe := Lib.hid (bseq Hbd.out hbe); clear hbe
            go_wp2_with fail
            go_roundw
            case rel =>
              refine ⟨j2 + 1, [] ++ [(D ++ 45 :: E)], by have := Hj2l.out; omega, by go_num, ?_, ?_, ?_, ?_, Hbe.out⟩
              · rw [HF.out, HBe.out]; rfl
              · have := Hd.out; rw [Hpr.out] at this; rw [← this, List.append_assoc]; rfl
              · show (Ix.join [(D ++ 45 :: E)]).length ≤ _; show ((D ++ 45 :: E)).length ≤ _; rw [List.length_append, List.length_cons]; have := HDl.out; have := HEl.out; have := Hj2.out; omega
              · intro u hu
                rcases List.mem_append.1 hu with hu | hu
                · simp at hu
                · simp only [List.mem_singleton] at hu; subst hu; simp
            case measure => have := Hlt.out; have := Hj2l.out; have := Hj2.out; simp [intOf]; omega
          · have Hdn := Lib.hid hd0
            have hje0 : (Ix.join done).isEmpty = false := by
              cases done with | nil => exact absurd rfl hd0 | cons u us => exact Ix.join_isEmpty u us (by have := Hdne.out; exact this u (List.mem_cons_self ..))
            obtain ⟨js, hjs⟩ : ∃ js, js = Ix.join done := ⟨_, rfl⟩
            have hjl := Hjl.out
            rw [← hjs] at hjl ⊢
            have hje : js.isEmpty = false := by rw [hjs]; exact hje0
            have hap1 : (⟨js.toArray⟩ : ByteArray) ++ ⟨#[44, 32]⟩ = ⟨(js ++ [44, 32]).toArray⟩ := append_data js [44, 32]
            have hq1 : ¬ 9223372036854775807 < js.length + 2 := by have := HPl.out; have := Hlt.out; omega
            obtain ⟨A, hA⟩ : ∃ A, A = js ++ [44, 32] := ⟨_, rfl⟩
            have hAl : A.length ≤ 2000000 := by rw [hA, List.length_append]; simp; have := HPl.out; have := Hlt.out; omega
            rw [← hA] at hap1
            have Hjs := Lib.hid hjs; have HA := Lib.hid hA; have HAl := Lib.hid hAl
            clear hjs hA hAl hjl hje0 hd0
            have hq2 : ¬ 9223372036854775807 < A.length + D.length := by have := HAl.out; have := HDl.out; omega
            have hap2 : (⟨A.toArray⟩ : ByteArray) ++ ⟨D.toArray⟩ = ⟨(A ++ D).toArray⟩ := append_data A D
            obtain ⟨B, hB⟩ : ∃ B, B = A ++ D := ⟨_, rfl⟩
            rw [← hB] at hap2
            have HBl := Lib.hid (show B.length ≤ 3000000 by rw [hB, List.length_append]; have := HAl.out; have := HDl.out; omega)
            have HBe := Lib.hid hB; clear hB
            go_wp2_with fail
            refine (ref19_dig a _ Ha1.out.1 Ha1.out.2).mono ?_
            rw [← HD.out]
            rintro e wd ⟨rfl, hbd⟩
            have Hbd := Lib.hid (bseq Hbc.out hbd); clear hbd
            obtain ⟨_, _, hpe, ez⟩ := Cell.out j2 z wd Hz.out Hbd.out
            simp only [Option.some.injEq, Addr.mk.injEq, and_true] at hpe
            obtain ⟨rfl, rfl⟩ := hpe
            have hjI : (j2 : Int) < (P.length : Int) := by have := Hj2l.out; omega
            have hji : (i : Int) < (j2 : Int) := by have := Hj2.out; omega
            have hap3 : (⟨#[45]⟩ : ByteArray) ++ ⟨E.toArray⟩ = ⟨([45] ++ E).toArray⟩ := append_data [45] E
            obtain ⟨F, hF⟩ : ∃ F, F = [45] ++ E := ⟨_, rfl⟩
            rw [← hF] at hap3
            have HFl := Lib.hid (show F.length ≤ 7 by rw [hF, List.length_append]; simp; have := HEl.out; omega)
            have HF := Lib.hid hF; clear hF
            have hq3 : ¬ 9223372036854775807 < 1 + E.length := by have := HEl.out; omega
            have hq4 : ¬ 9223372036854775807 < B.length + F.length := by have := HBl.out; have := HFl.out; omega
            have hap4 : (⟨B.toArray⟩ : ByteArray) ++ ⟨F.toArray⟩ = ⟨(B ++ F).toArray⟩ := append_data B F
            go_wp2_with fail
            refine (ref19_dig z _ Hz1.out.1 Hz1.out.2).mono ?_
            rw [← HE.out]
            rintro e we ⟨rfl, hbe⟩
            have Hbe := Lib.hid (bseq Hbd.out hbe); clear hbe
            go_wp2_with fail
            go_roundw
            case rel =>
              refine ⟨j2 + 1, done ++ [(D ++ 45 :: E)], by have := Hj2l.out; omega, by go_num, ?_, ?_, ?_, ?_, Hbe.out⟩
              · rw [Ix.join_snoc, if_neg Hdn.out, HF.out, HBe.out, HA.out, Hjs.out]; simp [List.append_assoc]
              · have := Hd.out; rw [Hpr.out] at this; rw [← this, List.append_assoc]; rfl
              · rw [Ix.join_snoc, if_neg Hdn.out, List.length_append, List.length_append, List.length_append]; have := Hjl.out; have := HDl.out; have := HEl.out; have := Hj2.out; simp only [List.length_cons, List.length_nil]; omega
              · intro u hu
                rcases List.mem_append.1 hu with hu | hu
                · exact Hdne.out u hu
                · simp only [List.mem_singleton] at hu; subst hu; simp
            case measure => have := Hlt.out; have := Hj2l.out; have := Hj2.out; simp [intOf]; omega
        · have hpr : Ix.parts (P.drop i) = D :: Ix.parts (P.drop (i + 1)) := by
            rw [hdr] at hK ⊢
            rw [Ix.parts_one _ _ (by rw [← hK]; exact h3), ← hD]
          obtain ⟨j2, hj2⟩ : ∃ j2, j2 = i + K - 1 := ⟨_, rfl⟩
          rw [← hj2]
          have Hpr := Lib.hid hpr
          have hge : (j2 : Int) < (i : Int) + 2 := by omega
          clear hpr hdr hD hK hK1 hKl h3 hj2
          by_cases hd0 : done = []
          · subst hd0
            have hj0 : Ix.join ([] : List (List UInt8)) = [] := rfl
            rw [hj0]
            clear hj0
            go_wp2_with fail
            refine (ref19_dig a _ Ha1.out.1 Ha1.out.2).mono ?_
            rw [← HD.out]
            rintro e wd ⟨rfl, hbd⟩
            have Hbd := Lib.hid (bseq Hbc.out hbd); clear hbd
            have hap5 : (⟨#[]⟩ : ByteArray) ++ ⟨D.toArray⟩ = ⟨D.toArray⟩ := append_data [] D
            have hq5 : ¬ 9223372036854775807 < D.length := by have := HDl.out; omega
            go_wp2_with fail
            go_roundw
            case rel =>
              refine ⟨i + 1, [] ++ [D], by have := Hlt.out; omega, by go_num, ?_, ?_, ?_, ?_, Hbd.out⟩
              · rfl
              · have := Hd.out; rw [Hpr.out] at this; rw [← this, List.append_assoc]; rfl
              · show (Ix.join [D]).length ≤ _; show (D).length ≤ _; have := HDl.out; omega
              · intro u hu
                rcases List.mem_append.1 hu with hu | hu
                · simp at hu
                · simp only [List.mem_singleton] at hu; subst hu; rw [HD.out]; exact Ix.dig_ne a
            case measure => have := Hlt.out; simp [intOf]; omega
          · have Hdn := Lib.hid hd0
            have hje0 : (Ix.join done).isEmpty = false := by
              cases done with | nil => exact absurd rfl hd0 | cons u us => exact Ix.join_isEmpty u us (by have := Hdne.out; exact this u (List.mem_cons_self ..))
            obtain ⟨js, hjs⟩ : ∃ js, js = Ix.join done := ⟨_, rfl⟩
            have hjl := Hjl.out
            rw [← hjs] at hjl ⊢
            have hje : js.isEmpty = false := by rw [hjs]; exact hje0
            have hap1 : (⟨js.toArray⟩ : ByteArray) ++ ⟨#[44, 32]⟩ = ⟨(js ++ [44, 32]).toArray⟩ := append_data js [44, 32]
            have hq1 : ¬ 9223372036854775807 < js.length + 2 := by have := HPl.out; have := Hlt.out; omega
            obtain ⟨A, hA⟩ : ∃ A, A = js ++ [44, 32] := ⟨_, rfl⟩
            have hAl : A.length ≤ 2000000 := by rw [hA, List.length_append]; simp; have := HPl.out; have := Hlt.out; omega
            rw [← hA] at hap1
            have Hjs := Lib.hid hjs; have HA := Lib.hid hA; have HAl := Lib.hid hAl
            clear hjs hA hAl hjl hje0 hd0
            have hq2 : ¬ 9223372036854775807 < A.length + D.length := by have := HAl.out; have := HDl.out; omega
            have hap2 : (⟨A.toArray⟩ : ByteArray) ++ ⟨D.toArray⟩ = ⟨(A ++ D).toArray⟩ := append_data A D
            obtain ⟨B, hB⟩ : ∃ B, B = A ++ D := ⟨_, rfl⟩
            rw [← hB] at hap2
            have HBl := Lib.hid (show B.length ≤ 3000000 by rw [hB, List.length_append]; have := HAl.out; have := HDl.out; omega)
            have HBe := Lib.hid hB; clear hB
            go_wp2_with fail
            refine (ref19_dig a _ Ha1.out.1 Ha1.out.2).mono ?_
            rw [← HD.out]
            rintro e wd ⟨rfl, hbd⟩
            have Hbd := Lib.hid (bseq Hbc.out hbd); clear hbd
            go_wp2_with fail
            go_roundw
            case rel =>
              refine ⟨i + 1, done ++ [D], by have := Hlt.out; omega, by go_num, ?_, ?_, ?_, ?_, Hbd.out⟩
              · rw [Ix.join_snoc, if_neg Hdn.out]; first | rw [HBe.out, HA.out, Hjs.out] | rw [HA.out, Hjs.out]
              · have := Hd.out; rw [Hpr.out] at this; rw [← this, List.append_assoc]; rfl
              · rw [Ix.join_snoc, if_neg Hdn.out, List.length_append, List.length_append]; have := Hjl.out; have := HDl.out; simp only [List.length_cons, List.length_nil]; omega
              · intro u hu
                rcases List.mem_append.1 hu with hu | hu
                · exact Hdne.out u hu
                · simp only [List.mem_singleton] at hu; subst hu; rw [HD.out]; exact Ix.dig_ne a
            case measure => have := Hlt.out; simp [intOf]; omega
    · have he : i = P.length := by omega
      subst he
      have hd := Hd.out
      rw [List.drop_length, Ix.parts_nil, List.append_nil] at hd
      subst hd
      clear hlt hi
      go_wp2_with fail
      go_ret
      exact ⟨by rw [Htx.out]; simp, B1.out.trans (Hb.out.mono B1.out.size)⟩
theorem pg_copiedO (l : List Int) (pa : Option Addr) (cap : Nat) (w : World) (hat : OSl 1 RInt w pa l) (hl : l.length ≤ 100000) :
    ∃ W1 W2 : World, (Instr.makeSlice 22 (.int .i64 (l.length : Int)) (.int .i64 (l.length : Int))).run Tryz.prog w = .ok (.slice (some ⟨w.heap.size, 0, none⟩) l.length l.length) W1 ∧
      (∀ ty, (Builtin.copy_ #[22, 22] ty #[.slice (some ⟨w.heap.size, 0, none⟩) l.length l.length, .slice pa l.length cap]).run Tryz.prog W1 = .ok (.int .i64 (l.length : Int)) W2) ∧
      Sort.Holds (Value.int .i64) W2 w.heap.size 0 l.toArray ∧ Below w.heap.size w W2 ∧ w.heap.size < W2.heap.size := by
  obtain ⟨i, hi, hz, hs, hb⟩ := info_parts int_info
  have h1 := run_make w 22 3 i (.int .i64 0) Tryz.underlying22 hi hz .i64 .i64 (l.length : Int) (l.length : Int) (by omega) (Int.le_refl _) (by rw [hb]; omega) (by omega)
  simp only [Int.toNat_natCast, hs, Nat.mul_one] at h1
  obtain ⟨W1, hW1⟩ : ∃ W, W = w.alloc (.cells (madeCells (Value.int .i64 0).cells l.length) 3) := ⟨_, rfl⟩
  rw [← hW1] at h1
  have hg : W1.heap[w.heap.size]? = some (.cells (madeCells (Value.int .i64 0).cells l.length) 3 (0, 0)) := by rw [hW1]; exact heap_alloc_new w _
  have hsz : (madeCells (Value.int .i64 0).cells l.length).size = l.length := size_madeCells _ _
  have hbw : Below w.heap.size w W1 := by rw [hW1]; exact below_new _ _
  have hlt : w.heap.size < W1.heap.size := by rw [hW1]; exact lt_alloc w _
  cases hl0 : l with
  | nil =>
    subst hl0
    refine ⟨W1, W1, h1, fun ty => ?_, fun j hj => by simp at hj, hbw, hlt⟩
    exact run_copy_none W1 22 22 ty 3 _ _ 0 0 0 cap Tryz.underlying22 (by rw [hi]; simp [hs]) rfl
  | cons x r =>
    rw [← hl0]
    obtain ⟨ad, b, off, sp, vs, rfl, _, hbl, _, _⟩ := hat 0 x (by rw [hl0]; rfl)
    have hsrc : ∀ j v, (l.map (Value.int .i64))[j]? = some v → W1.cell? (ad.add j) = some v := by
      intro j v hj
      rw [List.getElem?_map] at hj
      cases hlj : l[j]? with
      | none => rw [hlj] at hj; simp at hj
      | some y =>
        rw [hlj] at hj
        simp only [Option.map_some, Option.some.injEq] at hj
        subst hj
        obtain ⟨ad', b', off', sp', vs', hp, hadr, hb', hR, hc⟩ := hat j y hlj
        simp only [Option.some.injEq] at hp
        subst hp
        have hR : vs' = _ := hR
        subst hR
        have := hc 0 _ rfl
        rw [Nat.mul_one] at hadr
        rw [hadr]
        exact (hbw.cell (p := ⟨b', off', sp'⟩) hb').trans this
    have h4 : ∀ ty, _ := fun ty => run_copy_row (P := Tryz.prog) W1 22 22 ty 3 w.heap.size 0 l.length l.length ad l.length cap (madeCells (Value.int .i64 0).cells l.length) 3 (l.map (Value.int .i64)) Tryz.underlying22 (by rw [hi]; simp [hs]) hg (by simp) hsrc (by rw [hsz]; simp) (fun v hv => by obtain ⟨n, _, rfl⟩ := List.mem_map.1 hv; rfl)
    obtain ⟨W2, hW2⟩ : ∃ W, W = W1.setRow w.heap.size ((madeCells (Value.int .i64 0).cells l.length).toList.take 0 ++ l.map (Value.int .i64) ++ (madeCells (Value.int .i64 0).cells l.length).toList.drop (0 + (l.map (Value.int .i64)).length)).toArray := ⟨_, rfl⟩
    have hrow : ((madeCells (Value.int .i64 0).cells l.length).toList.take 0 ++ l.map (Value.int .i64) ++ (madeCells (Value.int .i64 0).cells l.length).toList.drop (0 + (l.map (Value.int .i64)).length)).toArray = (l.map (Value.int .i64)).toArray := by
      rw [List.take_zero, List.nil_append, List.drop_of_length_le (by simp [hsz]), List.append_nil]
    rw [hrow] at hW2
    have hh : W2.heap[w.heap.size]? = some (.cells (l.map (Value.int .i64)).toArray 3 (0, 0)) := by rw [hW2]; exact setRow_heap W1 _ _ _ _ _ hg
    have hb2 : Below w.heap.size W1 W2 := by
      rw [hW2]
      refine ⟨rfl, rfl, rfl, by simp [World.setRow], fun k hk => ?_⟩
      unfold World.setRow
      show (W1.heap.modify _ _)[k]? = _
      rw [Array.getElem?_modify, if_neg (by omega)]
    refine ⟨W1, W2, h1, fun ty => ?_, fun j hj => ?_, hbw.trans hb2, Nat.lt_of_lt_of_le hlt hb2.size⟩
    · have := h4 ty
      rw [hrow, ← hW2] at this
      simpa [goInt] using this
    · have hj' : j < l.length := by simpa using hj
      refine ⟨?_, ?_⟩
      · rw [cell_of_row _ _ _ _ _ _ hh]
        rw [getElem!_pos _ j (by simpa using hj')]
        simp [hj']
      · exact frozen_of_row _ _ _ _ _ hh

set_option maxRecDepth 100000 in
set_option maxHeartbeats 1600000 in
theorem ix_PagesO (l : List Int) (pa : Option Addr) (cap : Nat) (w : World) (hS : OSl 1 RInt w pa l) (hl : l.length ≤ 100000) (hL : Laid01 w) :
    Calls Tryz.prog 13 #[.slice pa l.length cap] w fun e w' => e = .returned (.string ⟨(Ix.text l).toArray⟩) ∧ Below w.heap.size w w' := by
  obtain ⟨i0, hi, hz0, hz1, hz2⟩ := info_parts str_info
  have Hi := Lib.hid hi; have Hz0 := Lib.hid hz0; have Hz1 := Lib.hid hz1; have Hz2 := Lib.hid hz2; clear hi hz0 hz1 hz2
  obtain ⟨W1, W2, hmk, hcp, hH2, hB2, hg2⟩ := pg_copiedO l pa cap w hS hl
  have hcp3 := hcp 3
  have HH2 := Lib.hid hH2; have HB2 := Lib.hid hB2; have Hg2 := Lib.hid hg2; have Hl := Lib.hid hl; have HL := Lib.hid hL
  clear hH2 hB2 hg2 hl hL hS hcp
  generalize hg : w.heap.size = g at *
  go_enter Tryz.func13, Tryz.ntmps13
  have hsp := Ix.sorted_pages l
  have Hsp := Lib.hid hsp; clear hsp
  go_wp2_with (first
    | (go_at_call 32; refine (pg_delete g l.length l _ HH2.out (by have := Hl.out; omega) (Nat.le_refl _)).mono ?_; rintro e w3 ⟨rfl, h3, b3, z3⟩; have H3 := Lib.hid h3; have B3 := Lib.hid b3; have Z3 := Lib.hid z3; clear h3 b3 z3)
    | (go_at_call 34; refine (pg_sort g l.length (l.filter Ix.page) _ H3.out (by have := Hl.out; have := List.length_filter_le Ix.page l; omega) (by have := Hg2.out; have := Z3.out; omega)).mono ?_; rintro e w4 ⟨rfl, h4, b4⟩; have H4 := Lib.hid h4; have B4 := Lib.hid b4; clear h4 b4)
    | (go_at_call 35; have hc5 := pg_compact g l.length _ _ H4.out (by have := Hl.out; have := List.length_filter_le Ix.page l; rw [List.length_mergeSort]; omega) (by have := List.length_filter_le Ix.page l; rw [List.length_mergeSort]; omega); rw [List.length_mergeSort, Hsp.out] at hc5; refine hc5.mono ?_; clear hc5; rintro e w5 ⟨rfl, h5, b5, z5⟩; have H5 := Lib.hid h5; have B5 := Lib.hid b5; have Z5 := Lib.hid z5; clear h5 b5 z5))
  have hPl : (Ix.rising [] l).length ≤ l.length := by have := Ix.rising_length l []; simpa using this
  have hsz5 : g < w5.heap.size := by have := Hg2.out; have := Z3.out; have := B4.out.size; have := Z5.out; omega
  have hBw5 : Below g w w5 := ((HB2.out.trans B3.out).trans B4.out).trans B5.out
  have hI5 := ints_of_holds H5.out hPl (by have := Hl.out; unfold maxLen; omega) hsz5
  have hPg := Ix.rising_page l
  have htx : Ix.text l = Lib.join (Ix.parts (Ix.rising [] l)) [44, 32] := Ix.join_lib _
  have hP13 := Ix.parts_len13 (Ix.rising [] l).length (Ix.rising [] l)
  have hPn := Ix.partsGo_length (Ix.rising [] l).length (Ix.rising [] l)
  have HI5 := Lib.hid hI5; have HBw5 := Lib.hid hBw5; have Hsz5 := Lib.hid hsz5; have HPl := Lib.hid hPl; have HPg := Lib.hid hPg; have Htx := Lib.hid htx; have HP13 := Lib.hid hP13; have HPn := Lib.hid hPn
  clear hI5 hBw5 hsz5 hPl hPg htx hmk hcp3 HH2 HB2 Hg2 H3 B3 Z3 H4 B4 H5 B5 Z5 hP13 hPn Hsp
  generalize hP : Ix.rising [] l = P at *
  generalize hB0 : w5.heap.size = B0 at *
  have hPln : P.length ≤ 100000 := by have := Hl.out; have := HPl.out; omega
  have HPln := Lib.hid hPln; clear hPln
  go_loopw [3, 4] (fun ov pv wr => ∃ (o c : Nat) (rest : List Int) (done : List (List UInt8)), ov = .slice (some ⟨g, o, none⟩) rest.length c ∧ SliceIn (fun b => b = g) 1 RInt wr (.slice (some ⟨g, o, none⟩) rest.length c) rest ∧ OwnL B0 9 1 RStr wr pv done ∧ done ++ Ix.parts rest = Ix.parts P ∧ rest.length + done.length ≤ P.length ∧ (∀ x ∈ rest, 1 ≤ x ∧ x ≤ 999999) ∧ Below B0 w5 wr) (fun ov _ _ => sliceN ov)
  case atStart => exact ⟨0, l.length, P, [], rfl, HI5.out, OwnL.nil _ _ _ _ _, rfl, by simp, HPg.out, Below.refl _ _⟩
  case round =>
    obtain ⟨o, c, rest, done, rfl, hI, hO, hd, hn, hpg, hb⟩ := hrel
    have hszr : B0 ≤ wr.heap.size := by have := hb.size; omega
    obtain ⟨pp, cpp, hpv⟩ := hO.form
    subst hpv
    have HI := Lib.hid hI; have HO := Lib.hid hO; have Hd := Lib.hid hd; have Hn := Lib.hid hn; have Hb := Lib.hid hb; have Hszr := Lib.hid hszr; have Hpg := Lib.hid hpg
    clear hI hO hd hn hb hszr hpg
    cases rest with
    | nil =>
      have hdone : done = Ix.parts P := by have := Hd.out; rw [Ix.parts_nil, List.append_nil] at this; exact this
      have Hdone := Lib.hid hdone; clear hdone
      have htot : Ix.tot done ≤ 2000000 := by
        have h1 := Ix.tot_13 done (by rw [Hdone.out]; exact HP13.out)
        have h2 : done.length ≤ P.length := by rw [Hdone.out]; exact HPn.out
        have := HPln.out
        omega
      have Htot := Lib.hid htot; clear htot
      go_wp2_with (go_at_call 37; refine (ix_Join [44, 32] done _ (fun _ => True) _ (HO.out.slice RStr.size _ (fun _ _ => trivial)) Htot.out (by decide)).mono ?_; rintro e w9 ⟨rfl, h9⟩; have H9 := Lib.hid h9; clear h9)
      go_ret
      refine ⟨by rw [Htx.out, Hdone.out]; rfl, ?_⟩
      exact HBw5.out.trans ((Hb.out.trans (H9.out.mono Hszr.out)).mono (by have := Hsz5.out; omega))
    | cons a r =>
      obtain ⟨rs, hrs⟩ : ∃ rs, rs = a :: r := ⟨_, rfl⟩
      rw [← hrs] at HI Hd Hn Hpg
      rw [← hrs]
      have Hrs := Lib.hid hrs; clear hrs
      have hcap : rs.length ≤ c ∧ c ≤ maxLen := by
        obtain ⟨p1, c1, hv, h1, h2, _⟩ := HI.out
        simp only [Value.slice.injEq] at hv
        obtain ⟨_, _, rfl⟩ := hv
        exact ⟨h1, h2⟩
      obtain ⟨n, hnl⟩ : ∃ n, n = rs.length := ⟨_, rfl⟩
      rw [← hnl] at hcap
      rw [← hnl]
      have hn1 : 1 ≤ n := by rw [hnl, Hrs.out]; simp
      have hnm : n ≤ 100000 := by have := Hn.out; have := HPln.out; omega
      have hnI : (0 : Int) < (n : Int) := by omega
      have hnI2 : (n : Int) ≤ 100000 := by omega
      have Hnl := Lib.hid hnl; have Hcap := Lib.hid hcap; have Hn1 := Lib.hid hn1; have Hnm1 := Lib.hid hnm
      clear hnl hcap hn1 hnm
      go_upto_block 2 with fail
      go_cut [5, 20] (fun v _ W => ∃ K : Nat, v = .int .i64 (K : Int) ∧ K = Ix.runLen rs ∧ Below wr.heap.size wr W)
      case first =>
        go_wp2_with fail
        go_loopw [5] (fun nv wk => ∃ k : Nat, 1 ≤ k ∧ k ≤ n ∧ nv = .int .i64 (k : Int) ∧ Ix.Run rs k ∧ Below wr.heap.size wr wk) (fun nv _ => n - (intOf nv).toNat)
        case atStart => exact ⟨1, Nat.le_refl _, Hn1.out, rfl, fun j hj => by omega, Below.refl _ _⟩
        case round =>
          rename_i wk
          obtain ⟨k, hk1, hkn, rfl, hrun, hbk⟩ := hrel
          have Hrun := Lib.hid hrun; have Hbk := Lib.hid hbk; have Hk1 := Lib.hid hk1; have Hkn := Lib.hid hkn
          clear hrun hbk hk1 hkn
          by_cases hlt : k < n
          · have hx := ints_at (ints_keep HI.out Hbk.out (by have := Hszr.out; have := Hsz5.out; omega)) (k := k) (by have := Hnl.out; omega)
            have hy := ints_at (ints_keep HI.out Hbk.out (by have := Hszr.out; have := Hsz5.out; omega)) (k := k - 1) (by have := Hnl.out; omega)
            obtain ⟨k0, hk0⟩ : ∃ k0, k0 = k - 1 := ⟨_, rfl⟩
            have hym : rs[k0]! ∈ rs := by rw [getElem!_pos rs k0 (by have := Hnl.out; omega)]; exact List.getElem_mem _
            have hyb := Hpg.out _ hym
            rw [← hk0] at hy
            obtain ⟨x, hxe⟩ : ∃ x, x = rs[k]! := ⟨_, rfl⟩
            obtain ⟨y, hye⟩ : ∃ y, y = rs[k0]! := ⟨_, rfl⟩
            rw [← hxe] at hx
            rw [← hye] at hy hyb
            have Hxe := Lib.hid hxe; have Hye := Lib.hid hye; have Hk0 := Lib.hid hk0
            have hltI : (k : Int) < (n : Int) := by omega
            have hk0n : (k0 : Int) < (n : Int) := by omega
            have hk00 : ¬ (k0 : Int) < 0 := by omega
            have hw1 : IntKind.i64.wrap ((k : Int) - 1) = (k0 : Int) := by rw [IntWalk.i64_in _ (by have := Hk1.out; omega)]; have := Hk1.out; omega
            have hw2 : IntKind.i64.wrap (y + 1) = y + 1 := IntWalk.i64_in _ (by omega)
            obtain ⟨k2, hk2⟩ : ∃ k2, k2 = k + 1 := ⟨_, rfl⟩
            have hw3 : IntKind.i64.wrap ((k : Int) + 1) = (k2 : Int) := by rw [IntWalk.i64_in _ (by have := Hnm1.out; omega)]; omega
            have Hk2 := Lib.hid hk2; have Hlt := Lib.hid hlt
            clear hxe hye hk0 hym hyb hlt hk2
            by_cases hxy : x = y + 1
            · have hd1 : (x == y + 1) = true := by simp [hxy]
              have Hxy := Lib.hid hxy; clear hxy
              go_upto_region 9 with fail
              go_quiet (fail)
              go_wp2_with fail
              go_roundw
              case rel =>
                refine ⟨k2, by have := Hk2.out; omega, by have := Hk2.out; have := Hlt.out; omega, rfl, fun j hj => ?_, below_drewN Hbk.out _⟩
                by_cases hjk : j + 1 < k
                · exact Hrun.out j hjk
                · have h1 := Hk2.out; have h2 := Hk0.out; have h3 := Hk1.out
                  have e1 : j + 1 = k := by omega
                  have e2 : j = k0 := by omega
                  rw [e1, e2, ← Hxe.out, ← Hye.out]; exact Hxy.out
              case measure => have := Hlt.out; have := Hk2.out; simp [intOf]; omega
            · have hd1 : (x == y + 1) = false := by simp [hxy]
              have Hxy := Lib.hid hxy; clear hxy
              go_upto_region 9 with fail
              go_quiet (fail)
              go_wp2_with fail
              go_meet
              refine ⟨k, rfl, (Ix.runLen_of rs k Hk1.out (by have := Hkn.out; have := Hnl.out; omega) Hrun.out (.inr ?_)).symm, below_drewN Hbk.out _⟩
              have h2 := Hk0.out
              rw [← h2, ← Hxe.out, ← Hye.out]; exact Hxy.out
          · have hltI : ¬ (k : Int) < (n : Int) := by omega
            have hd0 : decide ((k : Int) < (n : Int)) = false := decide_eq_false hltI
            have Hlt := Lib.hid hlt; clear hlt
            go_upto_region 9 with fail
            go_quiet (fail)
            go_wp2_with fail
            go_meet
            exact ⟨k, rfl, (Ix.runLen_of rs k Hk1.out (by have := Hkn.out; have := Hnl.out; omega) Hrun.out (.inl (by have := Hkn.out; have := Hnl.out; have := Hlt.out; omega))).symm, below_drewN Hbk.out _⟩
      case rest =>
        obtain ⟨K, rfl, hK, hbk⟩ := hcut
        have hKn : 1 ≤ K ∧ K ≤ n := by
          have h1 := Ix.runLen_pos a r
          have h2 := Ix.runLen_le rs
          have h3 := Hrs.out
          have h4 := Hnl.out
          rw [hK, h4]
          exact ⟨by rw [h3]; exact h1, h2⟩
        have hgB : g < wr.heap.size := by have := Hszr.out; have := Hsz5.out; omega
        have hIc := ints_keep HI.out hbk hgB
        have hOc := HO.out.below hbk
        obtain ⟨fl, hown, hrep⟩ := hOc
        have hbc : Below B0 w5 wc := Hb.out.trans (hbk.mono Hszr.out)
        have hszc : B0 ≤ wc.heap.size := Nat.le_trans Hszr.out hbk.size
        have hLc : Laid01 wc := HL.out.below ((hg ▸ HBw5.out).trans (hbc.mono (by have := Hsz5.out; omega)))
        have e0 := ints_at hIc (k := 0) (by have := Hnl.out; have := Hn1.out; omega)
        have ea : rs[0]! = a := by rw [Hrs.out]; rfl
        rw [ea, Nat.add_zero] at e0
        have HK := Lib.hid hK; have HKn := Lib.hid hKn; have Hown := Lib.hid hown; have Hrep := Lib.hid hrep; have Hbc := Lib.hid hbc; have Hszc := Lib.hid hszc; have HLc := Lib.hid hLc; have HIc := Lib.hid hIc; have He0 := Lib.hid e0
        have Hnm := Lib.hid (show done.length + 1 ≤ maxLen by have := Hn.out; have := HPln.out; unfold maxLen; omega)
        have Hn47 := Lib.hid (show (done.length + 1) * 16 ≤ 140737488355328 by have := Hn.out; have := HPln.out; omega)
        clear hK hKn hgB hIc hown hrep hbc hszc hLc hbk ea e0
        by_cases h3 : 3 ≤ K
        · have h3I : (3 : Int) ≤ (K : Int) := by omega
          obtain ⟨K1, hK1⟩ : ∃ K1, K1 = K - 1 := ⟨_, rfl⟩
          have eK := ints_at HIc.out (k := K1) (by have := Hnl.out; have := HKn.out; omega)
          obtain ⟨b, hbe⟩ : ∃ b, b = rs[K1]! := ⟨_, rfl⟩
          rw [← hbe] at eK
          have hwk : IntKind.i64.wrap ((K : Int) - 1) = (K1 : Int) := by rw [IntWalk.i64_in _ (by have := HKn.out; have := Hnm1.out; omega)]; omega
          have hK1n : (K1 : Int) < (n : Int) := by have := HKn.out; omega
          have hK10 : ¬ (K1 : Int) < 0 := by omega
          have hKnI : (K : Int) ≤ (n : Int) := by have := HKn.out; omega
          have hK0I : ¬ (K : Int) < 0 := by omega
          have hnc : (n : Int) ≤ (c : Int) := by have := Hcap.out; omega
          have HeK := Lib.hid eK; have Hbe := Lib.hid hbe; have HK1 := Lib.hid hK1; have H3 := Lib.hid h3
          clear eK hbe hK1 h3
          obtain ⟨D, hD⟩ : ∃ D, D = Ix.dig a := ⟨_, rfl⟩
          obtain ⟨F, hF⟩ : ∃ F, F = Ix.dig b := ⟨_, rfl⟩
          have hDl : D.length ≤ 6 := by rw [hD]; exact Ix.dig_length a
          have hFl : F.length ≤ 6 := by rw [hF]; exact Ix.dig_length b
          have hs1 : ¬ 9223372036854775807 < D.length + 1 := by omega
          have hs2 : ¬ 9223372036854775807 < (D ++ [45]).length + F.length := by rw [List.length_append]; simp; omega
          have ha1 : (⟨D.toArray⟩ : ByteArray) ++ ⟨#[45]⟩ = ⟨(D ++ [45]).toArray⟩ := append_data D [45]
          have ha2 : (⟨(D ++ [45]).toArray⟩ : ByteArray) ++ ⟨F.toArray⟩ = ⟨(D ++ [45] ++ F).toArray⟩ := append_data (D ++ [45]) F
          obtain ⟨M, hM⟩ : ∃ M, M = D ++ [45] := ⟨_, rfl⟩
          rw [← hM] at hs2 ha1 ha2
          obtain ⟨T, hT⟩ : ∃ T, T = M ++ F := ⟨_, rfl⟩
          rw [← hT] at ha2
          have HD := Lib.hid hD; have HF := Lib.hid hF; have HM := Lib.hid hM; have HT := Lib.hid hT
          clear hD hF hM hT hDl hFl
          go_upto_region 12 with fail
          refine wp_region_any (by kernel_rfl) ?_
          change wpAny _ _ _ _ _ _ _ (World.drew _)
          have E0 := Lib.hid (show wc.drew.cell? ⟨g, o, none⟩ = _ from He0.out)
          have EK := Lib.hid (show wc.drew.cell? ⟨g, o + K1, none⟩ = _ from HeK.out)
          have HB := Lib.hid Hbc.out.drew
          have HO1 := Lib.hid (own_below Hown.out (show Below wc.heap.size wc wc.drew from (Below.refl _ _).drew))
          have HL1 := Lib.hid (HLc.out.below (show Below wc.heap.size wc wc.drew from (Below.refl _ _).drew))
          have HI1 := Lib.hid (SliceIn.below' HIc.out (show Below wc.heap.size wc wc.drew from (Below.refl _ _).drew))
          have HS1 := Lib.hid (show B0 ≤ wc.drew.heap.size from Hszc.out)
          clear He0 HeK Hbc Hown HLc HIc Hszc
          generalize wc.drew = wd at *
          have hgB0 := Hsz5.out
          have hS0 := Below.refl B0 wd
          refine wpAny_of_held (S := fun W => Below B0 wd W) _ _ _ _ ?_
          refine wpAnyH_take (i := 0) (v := .slice pp done.length cpp) rfl (by kernel_rfl) (by kernel_rfl) (by kernel_rfl) (fun _ _ _ h => h) (Or.inl ⟨by kernel_rfl, fun W hW => by kernel_rfl⟩) (by assumption) ?_
          try simp only [Act.put, List.getElem_toArray, List.getElem_cons_zero, List.getElem_cons_succ, List.setIfInBounds_toArray, List.set_cons_zero, List.set_cons_succ]
          refine wpAnyH_take (i := 1) (v := .slice (some ⟨g, o, none⟩) n c) rfl (by kernel_rfl) (by kernel_rfl) (by kernel_rfl) (fun _ _ _ h => h) (Or.inl ⟨by kernel_rfl, fun W hW => by kernel_rfl⟩) (by assumption) ?_
          try simp only [Act.put, List.getElem_toArray, List.getElem_cons_zero, List.getElem_cons_succ, List.setIfInBounds_toArray, List.set_cons_zero, List.set_cons_succ]
          refine wpAnyH_take (i := 2) (v := .pointer (some ⟨g, o, none⟩)) rfl (by kernel_rfl) (by kernel_rfl) (by kernel_rfl) (fun _ _ _ h => h) (Or.inl ⟨by kernel_rfl, fun W hW => by go_simp⟩) (by assumption) ?_
          try simp only [Act.put, List.getElem_toArray, List.getElem_cons_zero, List.getElem_cons_succ, List.setIfInBounds_toArray, List.set_cons_zero, List.set_cons_succ]
          refine wpAnyH_take (i := 3) (v := .int .i64 a) rfl (by kernel_rfl) (by kernel_rfl) (by kernel_rfl) (fun _ _ _ h => h) (Or.inl ⟨by kernel_rfl, fun W hW => by (have c := (hW.cell (p := ⟨g, o, none⟩) hgB0).trans E0.out; go_simp)⟩) (by assumption) ?_
          try simp only [Act.put, List.getElem_toArray, List.getElem_cons_zero, List.getElem_cons_succ, List.setIfInBounds_toArray, List.set_cons_zero, List.set_cons_succ]
          refine wpAnyH_take (i := 6) (v := .slice (some ⟨g, o, none⟩) n c) rfl (by kernel_rfl) (by kernel_rfl) (by kernel_rfl) (fun _ _ _ h => h) (Or.inl ⟨by kernel_rfl, fun W hW => by kernel_rfl⟩) (by assumption) ?_
          try simp only [Act.put, List.getElem_toArray, List.getElem_cons_zero, List.getElem_cons_succ, List.setIfInBounds_toArray, List.set_cons_zero, List.set_cons_succ]
          refine wpAnyH_take (i := 7) (v := .int .i64 (K : Int)) rfl (by kernel_rfl) (by kernel_rfl) (by kernel_rfl) (fun _ _ _ h => h) (Or.inl ⟨by kernel_rfl, fun W hW => by kernel_rfl⟩) (by assumption) ?_
          try simp only [Act.put, List.getElem_toArray, List.getElem_cons_zero, List.getElem_cons_succ, List.setIfInBounds_toArray, List.set_cons_zero, List.set_cons_succ]
          refine wpAnyH_take (i := 8) (v := .int .i64 (K1 : Int)) rfl (by kernel_rfl) (by kernel_rfl) (by kernel_rfl) (fun _ _ _ h => h) (Or.inl ⟨by kernel_rfl, fun W hW => by go_simp⟩) (by assumption) ?_
          try simp only [Act.put, List.getElem_toArray, List.getElem_cons_zero, List.getElem_cons_succ, List.setIfInBounds_toArray, List.set_cons_zero, List.set_cons_succ]
          refine wpAnyH_take (i := 9) (v := .pointer (some ⟨g, o + K1, none⟩)) rfl (by kernel_rfl) (by kernel_rfl) (by kernel_rfl) (fun _ _ _ h => h) (Or.inl ⟨by kernel_rfl, fun W hW => by go_simp⟩) (by assumption) ?_
          try simp only [Act.put, List.getElem_toArray, List.getElem_cons_zero, List.getElem_cons_succ, List.setIfInBounds_toArray, List.set_cons_zero, List.set_cons_succ]
          refine wpAnyH_take (i := 10) (v := .int .i64 b) rfl (by kernel_rfl) (by kernel_rfl) (by kernel_rfl) (fun _ _ _ h => h) (Or.inl ⟨by kernel_rfl, fun W hW => by (have c := (hW.cell (p := ⟨g, o + K1, none⟩) hgB0).trans EK.out; go_simp)⟩) (by assumption) ?_
          try simp only [Act.put, List.getElem_toArray, List.getElem_cons_zero, List.getElem_cons_succ, List.setIfInBounds_toArray, List.set_cons_zero, List.set_cons_succ]
          refine wpAnyH_ready (rs := [4]) (by kernel_rfl) (by simp) ?_
          refine AllReadyH.cons rfl (fun K hK => ?_) AllReadyH.nil
          go_simp
          go_wp2_with (go_at_call 36; refine (ix_digits a _ HL1.out).mono ?_; rw [← HD.out]; rintro e w6 ⟨rfl, h6⟩; have H6 := Lib.hid h6; clear h6)
          refine hK.out _ _ (H6.out.mono HS1.out) (fun _ => ?_)
          clear K hK
          try simp only [Act.put, List.getElem_toArray, List.getElem_cons_zero, List.getElem_cons_succ, List.setIfInBounds_toArray, List.set_cons_zero, List.set_cons_succ]
          refine wpAnyH_take (i := 5) (v := .string ⟨M.toArray⟩) rfl (by kernel_rfl) (by kernel_rfl) (by kernel_rfl) (fun _ _ _ h => h) (Or.inl ⟨by kernel_rfl, fun W hW => by go_simp⟩) (by assumption) ?_
          try simp only [Act.put, List.getElem_toArray, List.getElem_cons_zero, List.getElem_cons_succ, List.setIfInBounds_toArray, List.set_cons_zero, List.set_cons_succ]
          refine wpAnyH_ready (rs := [11]) (by kernel_rfl) (by simp) ?_
          refine AllReadyH.cons rfl (fun K hK => ?_) AllReadyH.nil
          go_simp
          go_wp2_with (go_at_call 36; refine (ix_digits b _ (HL1.out.below H6.out)).mono ?_; rw [← HF.out]; rintro e w7 ⟨rfl, h7⟩; have H7 := Lib.hid (bseq H6.out h7); clear h7)
          refine hK.out _ _ (H7.out.mono HS1.out) (fun _ => ?_)
          clear K hK
          try simp only [Act.put, List.getElem_toArray, List.getElem_cons_zero, List.getElem_cons_succ, List.setIfInBounds_toArray, List.set_cons_zero, List.set_cons_succ]
          refine wpAnyH_take (i := 12) (v := .string ⟨T.toArray⟩) rfl (by kernel_rfl) (by kernel_rfl) (by kernel_rfl) (fun _ _ _ h => h) (Or.inl ⟨by kernel_rfl, fun W hW => by go_simp⟩) (by assumption) ?_
          try simp only [Act.put, List.getElem_toArray, List.getElem_cons_zero, List.getElem_cons_succ, List.setIfInBounds_toArray, List.set_cons_zero, List.set_cons_succ]
          have HOWN := Lib.hid (own_below HO1.out H7.out)
          have HSZ := Lib.hid (Nat.le_trans HS1.out H7.out.size)
          refine wpAnyH_ready (rs := [13]) (by kernel_rfl) (by simp) ?_
          refine AllReadyH.cons rfl (fun K hK => ?_) AllReadyH.nil
          go_simp
          refine hK.out _ _ ((H7.out.mono HS1.out).trans ((below_new _ _).mono HSZ.out)) (fun _ => ?_)
          clear K hK
          try simp only [Act.put, List.getElem_toArray, List.getElem_cons_zero, List.getElem_cons_succ, List.setIfInBounds_toArray, List.set_cons_zero, List.set_cons_succ]
          refine wpAnyH_ready (rs := [14]) (by kernel_rfl) (by simp) ?_
          refine AllReadyH.cons rfl (fun K hK => ?_) AllReadyH.nil
          rw [if_pos (by rfl)]
          refine op_append1 (.tmp 42) (.tmp 55) 25 rfl B0 9 i0 (.string ⟨#[]⟩) 1 16 Tryz.underlying25 Hi.out Hz0.out Hz1.out Hz2.out rfl (by decide) _ _ _ HOWN.out rfl [.string ⟨T.toArray⟩] rfl (by simp) rfl (by simp [Value.oneCell']) Hnm.out Hn47.out HSZ.out ?_
          intro v2 w2 own2 g2 at2
          have HB9 := Lib.hid (below_grown (H7.out.mono HS1.out) g2 HOWN.out HSZ.out (Nat.le_refl _))
          obtain ⟨p2, cap2, hv2, _⟩ := own2.form (Nat.succ_pos _)
          subst hv2
          refine hK.out _ _ HB9.out (fun _ => ?_)
          clear K hK
          try simp only [Act.put, List.getElem_toArray, List.getElem_cons_zero, List.getElem_cons_succ, List.setIfInBounds_toArray, List.set_cons_zero, List.set_cons_succ]
          refine wpAnyH_take (i := 15) (v := .slice (some ⟨p2, 0, none⟩) (done.length + 1) cap2) rfl (by kernel_rfl) (by kernel_rfl) (by kernel_rfl) (fun _ _ _ h => h) (Or.inl ⟨by kernel_rfl, fun W hW => by kernel_rfl⟩) (by assumption) ?_
          try simp only [Act.put, List.getElem_toArray, List.getElem_cons_zero, List.getElem_cons_succ, List.setIfInBounds_toArray, List.set_cons_zero, List.set_cons_succ]
          refine wpAnyH_done (by kernel_rfl) ?_ _
          go_wp2_with fail
          go_roundw
          case rel =>
            obtain ⟨o', ho', hI'⟩ := ints_suf (ints_keep HI1.out HB9.out Hsz5.out) K (by have := HKn.out; have := Hnl.out; omega)
            have hdl : (rs.drop K).length = n - K := by rw [List.length_drop, Hnl.out]
            refine ⟨o', c - K, rs.drop K, done ++ [T], ?_, hI', ⟨_, by rw [List.length_append]; exact own2, RepRow.snoc (R := RStr) (vs := [.string ⟨T.toArray⟩]) rfl Hrep.out⟩, ?_, ?_, fun x hx => Hpg.out x (List.mem_of_mem_drop hx), HB.out.trans HB9.out⟩
            · rw [hdl]; first | rw [ho'] | (rw [← ho']; rfl)
            · have h1 := Ix.parts_run a r (by rw [← Hrs.out, ← HK.out]; exact H3.out)
              rw [← Hrs.out, ← HK.out] at h1
              have h2 := Hd.out
              rw [h1] at h2
              rw [← h2, HT.out, HM.out, HD.out, HF.out, Hbe.out, HK1.out, List.append_assoc]
              congr 1
              simp
            · rw [List.length_append, hdl]
              have := Hn.out; have := HKn.out; have := Hnl.out
              simp; omega
          case measure => have := HKn.out; have := H3.out; have := Hnl.out; simp [sliceN]; omega
        · have h3I : ¬ (3 : Int) ≤ (K : Int) := by omega
          have c0 := He0.out
          have hnc : (n : Int) ≤ (c : Int) := by have := Hcap.out; omega
          have hn1I : (1 : Int) ≤ (n : Int) := by omega
          obtain ⟨D, hD⟩ : ∃ D, D = Ix.dig a := ⟨_, rfl⟩
          have HD := Lib.hid hD
          have H3 := Lib.hid h3
          clear hD h3
          go_wp2_with (first
            | (go_at_call 36; refine (ix_digits a _ HLc.out).mono ?_; rw [← HD.out]; rintro e w6 ⟨rfl, h6⟩; have H6 := Lib.hid h6; have HOWN := Lib.hid (own_below Hown.out h6); have HSZ := Lib.hid (Nat.le_trans Hszc.out h6.size); clear h6)
            | (at_builtin; go_loud (refine wpList_append1 rfl (.tmp 57) (.tmp 62) 25 rfl B0 9 i0 (.string ⟨#[]⟩) 1 16 Tryz.underlying25 Hi.out Hz0.out Hz1.out Hz2.out rfl (by decide) _ _ _ HOWN.out rfl [.string ⟨D.toArray⟩] rfl (by simp) rfl (by simp [Value.oneCell']) Hnm.out Hn47.out HSZ.out ?_); intro v2 w2 own2 g2 at2; have HB9 := Lib.hid (below_grown (H6.out.mono Hszc.out) g2 HOWN.out HSZ.out (Nat.le_refl _)); obtain ⟨p2, cap2, hv2, _⟩ := own2.form (Nat.succ_pos _); subst hv2))
          go_roundw
          case rel =>
            obtain ⟨o', ho', hI'⟩ := ints_suf (ints_keep HIc.out HB9.out Hsz5.out) 1 (by have := Hn1.out; have := Hnl.out; omega)
            have hdl : (rs.drop 1).length = n - 1 := by rw [List.length_drop, Hnl.out]
            refine ⟨o', c - 1, rs.drop 1, done ++ [D], ?_, hI', ⟨_, by rw [List.length_append]; exact own2, RepRow.snoc (R := RStr) (vs := [.string ⟨D.toArray⟩]) rfl Hrep.out⟩, ?_, ?_, fun x hx => Hpg.out x (List.mem_of_mem_drop hx), Hbc.out.trans HB9.out⟩
            · rw [hdl]; first | rw [ho'] | (rw [← ho']; rfl)
            · have h1 := Ix.parts_one a r (by rw [← Hrs.out, ← HK.out]; exact H3.out)
              rw [← Hrs.out] at h1
              have h2 := Hd.out
              rw [h1] at h2
              rw [← h2, HD.out, Hrs.out, List.append_assoc]
              rfl
            · rw [List.length_append, hdl]
              have := Hn.out; have := Hnl.out; have := Hn1.out
              simp; omega
          case measure => have := Hnl.out; have := Hn1.out; simp [sliceN]; omega
end Go.Proofs.YthoblbdkmlggbaaGreatDoor
