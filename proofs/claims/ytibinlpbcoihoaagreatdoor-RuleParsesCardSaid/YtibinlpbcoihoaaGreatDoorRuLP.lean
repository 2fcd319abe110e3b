/- The walk of the law RuleParses. -/
import Derived.Test.YtibinlpbcoihoaaGreatDoorRuLB
import Derived.OrdersHeld
set_option linter.unusedSimpArgs false
set_option linter.unusedVariables false
namespace Go.Proofs.YtibinlpbcoihoaaGreatDoor
open Go.RowKit
set_option maxRecDepth 100000 in
set_option maxHeartbeats 6400000 in
theorem lawPar_walk (s : List UInt8) (p : Option Addr) (cap : Nat) (l : List Ru.Rl) (m : Int) (w : World) (hE : OSl 3 RRl w p l) (hlm : l.length ≤ maxLen) (hm : w.cell? ⟨0, 0, none⟩ = some (.int .i64 m)) (h0 : 0 < w.heap.size) :
    Calls Tryz.prog 3 #[.string ⟨s.toArray⟩, .slice p l.length cap] w fun e w' => e = .returned (.bool true) ∧ Below w.heap.size w w' := by
  have HMx := Lib.hid (show ∀ W, Below w.heap.size w W → W.cell? ⟨0, 0, none⟩ = some (.int .i64 m) ∧ 0 < W.heap.size from fun W hW => ⟨(hW.cell (p := ⟨0, 0, none⟩) h0).trans hm, Nat.lt_of_lt_of_le h0 hW.size⟩)
  have HE := Lib.hid hE; have Hlm := Lib.hid hlm
  clear hm h0 hE hlm
  obtain ⟨q1, a1, a2, a3, a4⟩ := cut_textN 400 s
  have a1 : min (s.length : Int) 400 = (q1 : Int) := a1
  obtain ⟨s0, hs0⟩ : ∃ s0, s0 = s.take 400 := ⟨_, rfl⟩
  rw [← hs0] at a4
  have Hsl := Lib.hid (show s0.length ≤ 400 by rw [hs0, List.length_take]; omega)
  clear hs0 a2
  obtain ⟨L, hL⟩ : ∃ L, L = Ru.cutR l := ⟨_, rfl⟩
  have HL := Lib.hid hL; have HLn := Lib.hid (show L.length ≤ 14 by rw [hL]; exact Ru.cutR_len l); have HLe := Lib.hid (show ∀ x ∈ L, x.a.length ≤ 40 ∧ x.b.length ≤ 40 by rw [hL]; exact Ru.cutR_each l)
  clear hL
  obtain ⟨oA, hoA⟩ : ∃ o, o = Ru.parse s0 := ⟨_, rfl⟩
  have HoA := Lib.hid hoA
  clear hoA
  obtain ⟨A, hA⟩ : ∃ A, A = ruL oA := ⟨_, rfl⟩
  obtain ⟨eA, heA⟩ : ∃ e, e = Ru.errno oA := ⟨_, rfl⟩
  have HA := Lib.hid hA; have HeA := Lib.hid heA
  have HA1 := Lib.hid (show A.length ≤ 12 by rw [hA, HoA.out]; exact ruL_len s0)
  clear hA heA
  obtain ⟨rb, hrb⟩ : ∃ b, b = Ru.right L := ⟨_, rfl⟩
  have Hrb := Lib.hid hrb; clear hrb
  have HLx := Lib.hid (show ∀ x ∈ L, x.a.length ≤ 100000 ∧ x.b.length ≤ 100000 from fun x hx => by have := HLe.out x hx; omega)
  go_enter Tryz.func3, Tryz.ntmps3
  go_upto_region 2 with fail
  clear a1 a3 a4
  go_upto_region 3 with (go_at_call 6; go_loud (refine (law22_cut p cap l w HE.out Hlm.out).mono ?_); rintro e w1 ⟨va, rfl, hO, hb⟩; rw [← HL.out] at hO; obtain ⟨pL, cL, rfl⟩ := hO.form; have SL := Lib.hid (hO.slice RRl.size (fun _ => True) (fun _ _ => trivial)); have B1 := Lib.hid hb; clear hO hb)
  clear HE Hlm
  go_upto_region 4 with (go_at_call 7; go_loud (refine (rule_parse s0 m w1 (by have := Hsl.out; omega) (HMx.out _ B1.out).1 (HMx.out _ B1.out).2).mono ?_); intro e w2 hpp; have hg := hpp.get; rw [← HoA.out, ← HA.out, ← HeA.out] at hg; obtain ⟨p1, c1, rfl, hq, hb⟩ := hg; have S1 := Lib.hid hq; have B2 := Lib.hid (bseq B1.out hb); have T := Lib.hid (sliceBelow SL.out hb); clear SL; have SL := T; clear T; clear hpp hq hb)
  go_upto_region 5 with (go_at_call 8; go_loud (refine (ref22_parse s0 w2 (by have := Hsl.out; omega)).mono ?_); intro e w3 hpp; have hg := hpp.get; rw [← HoA.out, ← HA.out, ← HeA.out] at hg; obtain ⟨p2, c2, rfl, hq, hb⟩ := hg; have S2 := Lib.hid hq; have B3 := Lib.hid (bseq B2.out hb); have T := Lib.hid (sliceBelow SL.out hb); clear SL; have SL := T; clear T; have T := Lib.hid (sliceBelow S1.out hb); clear S1; have S1 := T; clear T; clear hpp hq hb)
  go_wp2_with first
    | (go_at_call 10; with_reducible refine (law22_refs A (.slice p1 A.length c1) _ w3 S1.out (by have := HA1.out; omega)).mono ?_; rintro e u1 ⟨x1, y1, rfl, hO1, hb1⟩; have HO1 := Lib.hid (hO1.slice RRl.size (fun _ => True) (fun _ _ => trivial)); have HU1 := Lib.hid hb1; clear hO1 hb1)
    | (go_at_call 9; refine (ref22_same A A _ _ _ _ u1 HO1.out (sliceBelow S2.out HU1.out)).mono ?_; rw [decide_eq_true (Eq.refl A)]; rintro e u2 ⟨rfl, hb2⟩; have HU2 := Lib.hid (bseq HU1.out hb2); clear hb2)
    | (go_at_call 11; refine (rule_right L _ (fun _ => True) u2 (sliceBelow SL.out HU2.out) (by have := HLn.out; omega) HLx.out).mono ?_; rw [← Hrb.out]; rintro e u3 ⟨rfl, hb3⟩; have HU3 := Lib.hid (bseq HU2.out hb3); clear hb3)
    | (go_at_call 10; with_reducible refine (law22_refs L (.slice pL L.length cL) _ u3 (sliceBelow SL.out HU3.out) (by have := HLn.out; omega)).mono ?_; rintro e u4 ⟨x4, y4, rfl, hO4, hb4⟩; have HO4 := Lib.hid (hO4.slice RRl.size (fun _ => True) (fun _ _ => trivial)); have HU4 := Lib.hid (bseq HU3.out hb4); clear hO4 hb4)
    | (go_at_call 12; refine (ref22_right L _ (fun _ => True) u4 HO4.out (by have := HLn.out; omega) HLx.out).mono ?_; rw [← Hrb.out]; rintro e u5 ⟨rfl, hb5⟩; have HU5 := Lib.hid (bseq HU4.out hb5); clear hb5)
  have B5 := Lib.hid (bseq B3.out HU5.out)
  have SL5 := Lib.hid (sliceBelow SL.out HU5.out)
  clear SL S1 S2 HO1 HU1 HU2 HU3 HU4 HU5 HO4 B1 B2 B3
  go_loopw [9] (fun iv wr => ∃ k : Nat, k ≤ L.length ∧ iv = .int .i64 (k : Int) ∧ Below u5.heap.size u5 wr) (fun iv _ => L.length - (intOf iv).toNat)
  case atStart => exact ⟨0, Nat.zero_le _, rfl, Below.refl _ _⟩
  case round =>
    obtain ⟨k, hk, rfl, hb⟩ := hrel
    by_cases hlt : k < L.length
    · obtain ⟨x, hx⟩ : ∃ x, L[k]? = some x := ⟨_, List.getElem?_eq_getElem hlt⟩
      have hxe := HLx.out x (List.mem_of_getElem? hx)
      obtain ⟨b, off, rfl⟩ := rl_some SL5.out hx
      have Hcc := Lib.hid (show ∀ W, Below wr.heap.size wr W → _ from fun W hW => rl_cells (sliceBelow (sliceBelow SL5.out hb) hW) hx)
      obtain ⟨T, hT⟩ : ∃ T, T = Ru.text x := ⟨_, rfl⟩
      obtain ⟨WL, hWL⟩ : ∃ WL, WL = Ru.writes x := ⟨_, rfl⟩
      have HtP := Lib.hid (show ∀ W, _ from fun W => rule_text x W hxe.1 hxe.2)
      have HtR := Lib.hid (show ∀ W, _ from fun W => ref22_text x W hxe.1 hxe.2)
      have HoR := Lib.hid (show ∀ W, _ from fun W => law22_one x W)
      have HwP := Lib.hid (show ∀ W, _ from fun W => rule_writes x W hxe.1 hxe.2)
      have HwR := Lib.hid (show ∀ W, _ from fun W => ref22_writes x W hxe.1 hxe.2)
      rw [← hT] at HtP HtR
      rw [← hWL] at HwP HwR
      obtain ⟨ki, na, nb⟩ := x
      unfold rlV at HtP HtR HoR HwP HwR
      dsimp only at HtP HtR HoR HwP HwR Hcc
      have hlt' : (k : Int) < (L.length : Int) := by omega
      have Hwk := Lib.hid (f2_w1 k (by have := HLn.out; omega))
      have Hb := Lib.hid hb; have Hlt := Lib.hid hlt
      clear hT hWL hb hlt hk hx hxe
      go_upto_region 10 with fail
      refine wp_region_any (by kernel_rfl) ?_
      change wpAny _ _ _ _ _ _ _ (World.drew _)
      have hS0 : Below wr.heap.size wr wr.drew := (Below.refl _ _).drew
      generalize wr.drew = wd at *
      refine wpAny_of_held (S := fun W => Below wr.heap.size wr W) _ _ _ _ ?_
      have hD1 : Below wr.heap.size wr wd := hS0
      have hS2 : (fun W => Below wr.heap.size wr W) wd := hS0
      refine wpAnyH_take (i := 0) (v := ?v1) rfl (by kernel_rfl) (by kernel_rfl) (by kernel_rfl) (fun _ _ _ h => h) (Or.inl ⟨by kernel_rfl, fun W hW => ?h1⟩) (by assumption) ?_
      case h1 => (go_simp; rfl)
      refine wpAnyH_take (i := 1) (v := ?v2) rfl (by kernel_rfl) (by kernel_rfl) (by kernel_rfl) (fun _ _ _ h => h) (Or.inl ⟨by kernel_rfl, fun W hW => ?h2⟩) (by assumption) ?_
      case h2 => (go_simp; rfl)
      refine wpAnyH_take (i := 2) (v := ?v3) rfl (by kernel_rfl) (by kernel_rfl) (by kernel_rfl) (fun _ _ _ h => h) (Or.inl ⟨by kernel_rfl, fun W hW => ?h3⟩) (by assumption) ?_
      case h3 => (go_simp; rfl)
      refine wpAnyH_take (i := 3) (v := ?v4) rfl (by kernel_rfl) (by kernel_rfl) (by kernel_rfl) (fun _ _ _ h => h) (Or.inl ⟨by kernel_rfl, fun W hW => ?h4⟩) (by assumption) ?_
      case h4 => (have cc := Hcc.out W hW; obtain ⟨c0, c1, c2⟩ := cc; go_simp; rfl)
      refine wpAnyH_take (i := 5) (v := ?v5) rfl (by kernel_rfl) (by kernel_rfl) (by kernel_rfl) (fun _ _ _ h => h) (Or.inl ⟨by kernel_rfl, fun W hW => ?h5⟩) (by assumption) ?_
      case h5 => (go_simp; rfl)
      refine wpAnyH_take (i := 6) (v := ?v6) rfl (by kernel_rfl) (by kernel_rfl) (by kernel_rfl) (fun _ _ _ h => h) (Or.inl ⟨by kernel_rfl, fun W hW => ?h6⟩) (by assumption) ?_
      case h6 => (go_simp; rfl)
      refine wpAnyH_take (i := 7) (v := ?v7) rfl (by kernel_rfl) (by kernel_rfl) (by kernel_rfl) (fun _ _ _ h => h) (Or.inl ⟨by kernel_rfl, fun W hW => ?h7⟩) (by assumption) ?_
      case h7 => (go_simp; rfl)
      refine wpAnyH_take (i := 8) (v := ?v8) rfl (by kernel_rfl) (by kernel_rfl) (by kernel_rfl) (fun _ _ _ h => h) (Or.inl ⟨by kernel_rfl, fun W hW => ?h8⟩) (by assumption) ?_
      case h8 => (have cc := Hcc.out W hW; obtain ⟨c0, c1, c2⟩ := cc; go_simp; rfl)
      refine wpAnyH_ready (rs := [4]) (by kernel_rfl) (by simp) ?_
      refine AllReadyH.cons rfl (fun K hK => ?_) AllReadyH.nil
      try simp only [Act.put, List.getElem_toArray, List.getElem_cons_zero, List.getElem_cons_succ, List.setIfInBounds_toArray, List.set_cons_zero, List.set_cons_succ]
      go_simp
      go_wp2_with (go_at_call 13; refine (HtP.out _).mono ?_; rintro e w2 ⟨rfl, hb2⟩)
      have hD2 := hD1.trans (hb2.mono hD1.size)
      refine hK.out _ _ (hD2) (fun _ => ?_)
      clear K hK
      try simp only [Act.put, List.getElem_toArray, List.getElem_cons_zero, List.getElem_cons_succ, List.setIfInBounds_toArray, List.set_cons_zero, List.set_cons_succ]
      refine wpAnyH_ready (rs := [9]) (by kernel_rfl) (by simp) ?_
      refine AllReadyH.cons rfl (fun K hK => ?_) AllReadyH.nil
      try simp only [Act.put, List.getElem_toArray, List.getElem_cons_zero, List.getElem_cons_succ, List.setIfInBounds_toArray, List.set_cons_zero, List.set_cons_succ]
      go_simp
      go_wp2_with (go_at_call 15; refine (HoR.out _).mono ?_; rintro e w3 ⟨rfl, hb3⟩)
      have hD3 := hD2.trans (hb3.mono hD2.size)
      refine hK.out _ _ (hD3) (fun _ => ?_)
      clear K hK
      try simp only [Act.put, List.getElem_toArray, List.getElem_cons_zero, List.getElem_cons_succ, List.setIfInBounds_toArray, List.set_cons_zero, List.set_cons_succ]
      refine wpAnyH_ready (rs := [10]) (by kernel_rfl) (by simp) ?_
      refine AllReadyH.cons rfl (fun K hK => ?_) AllReadyH.nil
      try simp only [Act.put, List.getElem_toArray, List.getElem_cons_zero, List.getElem_cons_succ, List.setIfInBounds_toArray, List.set_cons_zero, List.set_cons_succ]
      go_simp
      go_wp2_with (go_at_call 14; refine (HtR.out _).mono ?_; rintro e w4 ⟨rfl, hb4⟩)
      have hD4 := hD3.trans (hb4.mono hD3.size)
      refine hK.out _ _ (hD4) (fun _ => ?_)
      clear K hK
      try simp only [Act.put, List.getElem_toArray, List.getElem_cons_zero, List.getElem_cons_succ, List.setIfInBounds_toArray, List.set_cons_zero, List.set_cons_succ]
      refine wpAnyH_take (i := 11) (v := .bool false) rfl (by kernel_rfl) (by kernel_rfl) (by kernel_rfl) (fun _ _ _ h => h) (Or.inl ⟨by kernel_rfl, fun W hW => by (go_simp)⟩) (by assumption) ?_
      refine wpAnyH_take (i := 12) (v := .bool false) rfl (by kernel_rfl) (by kernel_rfl) (by kernel_rfl) (fun _ _ _ h => h) (Or.inl ⟨by kernel_rfl, fun W hW => by (go_simp)⟩) (by assumption) ?_
      refine wpAnyH_take (i := 13) (v := ?v9) rfl (by kernel_rfl) (by kernel_rfl) (by kernel_rfl) (fun _ _ _ h => h) (Or.inl ⟨by kernel_rfl, fun W hW => ?h9⟩) (by assumption) ?_
      case h9 => (go_simp; rfl)
      refine wpAnyH_take (i := 14) (v := ?v10) rfl (by kernel_rfl) (by kernel_rfl) (by kernel_rfl) (fun _ _ _ h => h) (Or.inl ⟨by kernel_rfl, fun W hW => ?h10⟩) (by assumption) ?_
      case h10 => (go_simp; rfl)
      refine wpAnyH_take (i := 15) (v := ?v11) rfl (by kernel_rfl) (by kernel_rfl) (by kernel_rfl) (fun _ _ _ h => h) (Or.inl ⟨by kernel_rfl, fun W hW => ?h11⟩) (by assumption) ?_
      case h11 => (go_simp; rfl)
      refine wpAnyH_take (i := 16) (v := ?v12) rfl (by kernel_rfl) (by kernel_rfl) (by kernel_rfl) (fun _ _ _ h => h) (Or.inl ⟨by kernel_rfl, fun W hW => ?h12⟩) (by assumption) ?_
      case h12 => (have cc := Hcc.out W hW; obtain ⟨c0, c1, c2⟩ := cc; go_simp; rfl)
      refine wpAnyH_take (i := 18) (v := ?v13) rfl (by kernel_rfl) (by kernel_rfl) (by kernel_rfl) (fun _ _ _ h => h) (Or.inl ⟨by kernel_rfl, fun W hW => ?h13⟩) (by assumption) ?_
      case h13 => (go_simp; rfl)
      refine wpAnyH_take (i := 19) (v := ?v14) rfl (by kernel_rfl) (by kernel_rfl) (by kernel_rfl) (fun _ _ _ h => h) (Or.inl ⟨by kernel_rfl, fun W hW => ?h14⟩) (by assumption) ?_
      case h14 => (go_simp; rfl)
      refine wpAnyH_take (i := 20) (v := ?v15) rfl (by kernel_rfl) (by kernel_rfl) (by kernel_rfl) (fun _ _ _ h => h) (Or.inl ⟨by kernel_rfl, fun W hW => ?h15⟩) (by assumption) ?_
      case h15 => (go_simp; rfl)
      refine wpAnyH_take (i := 21) (v := ?v16) rfl (by kernel_rfl) (by kernel_rfl) (by kernel_rfl) (fun _ _ _ h => h) (Or.inl ⟨by kernel_rfl, fun W hW => ?h16⟩) (by assumption) ?_
      case h16 => (have cc := Hcc.out W hW; obtain ⟨c0, c1, c2⟩ := cc; go_simp; rfl)
      refine wpAnyH_ready (rs := [17]) (by kernel_rfl) (by simp) ?_
      refine AllReadyH.cons rfl (fun K hK => ?_) AllReadyH.nil
      try simp only [Act.put, List.getElem_toArray, List.getElem_cons_zero, List.getElem_cons_succ, List.setIfInBounds_toArray, List.set_cons_zero, List.set_cons_succ]
      go_simp
      go_wp2_with (go_at_call 17; refine (HwP.out _).mono ?_; rintro e w5 ⟨pp, pc, rfl, hOp, hb5⟩)
      have hD5 := hD4.trans (hb5.mono hD4.size)
      have hSp := Lib.hid (hOp.slice RStr.size (fun _ => True) (fun _ _ => trivial))
      clear hOp
      refine hK.out _ _ (hD5) (fun _ => ?_)
      clear K hK
      try simp only [Act.put, List.getElem_toArray, List.getElem_cons_zero, List.getElem_cons_succ, List.setIfInBounds_toArray, List.set_cons_zero, List.set_cons_succ]
      refine wpAnyH_ready (rs := [22]) (by kernel_rfl) (by simp) ?_
      refine AllReadyH.cons rfl (fun K hK => ?_) AllReadyH.nil
      try simp only [Act.put, List.getElem_toArray, List.getElem_cons_zero, List.getElem_cons_succ, List.setIfInBounds_toArray, List.set_cons_zero, List.set_cons_succ]
      go_simp
      go_wp2_with (go_at_call 15; refine (HoR.out _).mono ?_; rintro e w6 ⟨rfl, hb6⟩)
      have hD6 := hD5.trans (hb6.mono hD5.size)
      have hSp6 := Lib.hid (sliceBelow hSp.out hb6)
      refine hK.out _ _ (hD6) (fun _ => ?_)
      clear K hK
      try simp only [Act.put, List.getElem_toArray, List.getElem_cons_zero, List.getElem_cons_succ, List.setIfInBounds_toArray, List.set_cons_zero, List.set_cons_succ]
      refine wpAnyH_ready (rs := [23]) (by kernel_rfl) (by simp) ?_
      refine AllReadyH.cons rfl (fun K hK => ?_) AllReadyH.nil
      try simp only [Act.put, List.getElem_toArray, List.getElem_cons_zero, List.getElem_cons_succ, List.setIfInBounds_toArray, List.set_cons_zero, List.set_cons_succ]
      go_simp
      go_wp2_with (go_at_call 18; refine (HwR.out _).mono ?_; rintro e w7 ⟨rp, rc, rfl, hOr, hb7⟩)
      have hD7 := hD6.trans (hb7.mono hD6.size)
      have hSp7 := Lib.hid (sliceBelow hSp6.out hb7)
      have hSr := Lib.hid (hOr.slice RStr.size (fun _ => True) (fun _ _ => trivial))
      clear hOr
      refine hK.out _ _ (hD7) (fun _ => ?_)
      clear K hK
      try simp only [Act.put, List.getElem_toArray, List.getElem_cons_zero, List.getElem_cons_succ, List.setIfInBounds_toArray, List.set_cons_zero, List.set_cons_succ]
      refine wpAnyH_ready (rs := [24]) (by kernel_rfl) (by simp) ?_
      refine AllReadyH.cons rfl (fun K hK => ?_) AllReadyH.nil
      try simp only [Act.put, List.getElem_toArray, List.getElem_cons_zero, List.getElem_cons_succ, List.setIfInBounds_toArray, List.set_cons_zero, List.set_cons_succ]
      go_simp
      go_wp2_with (go_at_call 16; refine (ref02_words WL WL _ _ _ _ _ hSp7.out hSr.out).mono ?_; rw [decide_eq_true (Eq.refl WL)]; rintro e w8 ⟨rfl, hb8⟩)
      have hD8 := hD7.trans (hb8.mono hD7.size)
      refine hK.out _ _ (hD8) (fun _ => ?_)
      clear K hK
      try simp only [Act.put, List.getElem_toArray, List.getElem_cons_zero, List.getElem_cons_succ, List.setIfInBounds_toArray, List.set_cons_zero, List.set_cons_succ]
      refine wpAnyH_take (i := 25) (v := .bool false) rfl (by kernel_rfl) (by kernel_rfl) (by kernel_rfl) (fun _ _ _ h => h) (Or.inl ⟨by kernel_rfl, fun W hW => by (go_simp)⟩) (by assumption) ?_
      refine wpAnyH_take (i := 26) (v := .bool false) rfl (by kernel_rfl) (by kernel_rfl) (by kernel_rfl) (fun _ _ _ h => h) (Or.inl ⟨by kernel_rfl, fun W hW => by (go_simp)⟩) (by assumption) ?_
      refine wpAnyH_done (by kernel_rfl) ?_ _
      try simp only [Act.put, List.getElem_toArray, List.getElem_cons_zero, List.getElem_cons_succ, List.setIfInBounds_toArray, List.set_cons_zero, List.set_cons_succ]
      have Hb8 := Lib.hid (Hb.out.trans (hD8.mono Hb.out.size))
      clear hS0 hD1 hD2 hD3 hD4 hD5 hD6 hD7 hD8 hS2 hb2 hb3 hb4 hb5 hb6 hb7 hb8 Hb
      go_wp2_with fail
      go_roundw
      case rel => exact ⟨k + 1, by have := Hlt.out; omega, by first | rfl | rw [Hwk.out], Hb8.out⟩
      case measure => have := Hlt.out; (try rw [Hwk.out]); simp [intOf]; omega
    · have he : k = L.length := by omega
      subst he
      have HB := Lib.hid (bseq B5.out hb)
      have hA12 : (A.length : Int) ≤ 12 := by have := HA1.out; omega
      clear hlt hk hb
      go_wp2_with (go_at_call 19; refine (law22_fixed m wr (HMx.out _ HB.out).1 (HMx.out _ HB.out).2).mono ?_; rintro e u6 ⟨rfl, hb6⟩; have HB6 := Lib.hid (bseq HB.out hb6); clear hb6)
      go_ret
      exact ⟨rfl, HB6.out⟩
theorem lawPar_walk2 (s : List UInt8) (p : Option Addr) (cap : Nat) (l : List Ru.Rl) (w : World) (hL : ((∃ m, w.cell? ⟨0, 0, none⟩ = some (.int .i64 m)) ∧ 0 < w.heap.size) ∧ l.length ≤ maxLen) (hE : OSl 3 RRl w p l) :
    Calls Tryz.prog 3 #[.string ⟨s.toArray⟩, .slice p l.length cap] w fun e w' => e = .returned (.bool true) ∧ Below w.heap.size w w' := by
  obtain ⟨⟨⟨m, hm⟩, h0⟩, hlm⟩ := hL
  exact lawPar_walk s p cap l m w hE hlm hm h0
end Go.Proofs.YtibinlpbcoihoaaGreatDoor
