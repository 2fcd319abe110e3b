/- The walks of stetref20.Seens and stetref20.Same, of what is the same. The walk of stetref02.Words. -/
import Derived.Test.YtibinlpbcoihoaaGreatDoorRuF6
import Derived.BigQuiet
import Derived.Test.YtibinlpbcoihoaaGreatDoorG08
import Derived.Test.YtibinlpbcoihoaaGreatDoorG06
set_option linter.unusedSimpArgs false
set_option linter.unusedVariables false
namespace Go.Proofs.YtibinlpbcoihoaaGreatDoor
open Go.RowKit
theorem fl_cells {S : Nat → Prop} {w : World} {b o n c : Nat} {l : List (List UInt8 × List UInt8)} (h : SliceIn S 2 RFl w (.slice (some ⟨b, o, none⟩) n c) l) {i : Nat} {x : List UInt8 × List UInt8} (hx : l[i]? = some x) :
    w.cell? ⟨b, o + i * 2, none⟩ = some (.string ⟨x.1.toArray⟩) ∧ w.cell? ⟨b, o + i * 2 + 1, none⟩ = some (.string ⟨x.2.toArray⟩) := by
  obtain ⟨p, c', he, _, _, hat⟩ := h
  obtain ⟨b', o', vs, hp, _, _, hR, hc⟩ := hat i x hx
  simp only [Value.slice.injEq] at he
  obtain ⟨rfl, _, _⟩ := he
  cases hp
  have hR : vs = _ := hR
  subst hR
  exact ⟨hc 0 _ rfl, hc 1 _ rfl⟩
set_option maxRecDepth 100000 in
set_option maxHeartbeats 1600000 in
theorem ref20_seens_eq (A : List Ru.Sn) (va vb : Value) (S S' : Nat → Prop) (w : World) (hA : SliceIn S 3 RSn w va A) (hB : SliceIn S' 3 RSn w vb A) :
    Calls Tryz.prog 50 #[va, vb] w fun e w' => e = .returned (.bool true) ∧ Below w.heap.size w w' := by
  have hAm := hA.bound
  obtain ⟨pa, ca, rfl⟩ : ∃ p c, va = .slice p A.length c := by obtain ⟨p, c, h, _⟩ := hA; exact ⟨p, c, h⟩
  obtain ⟨pb, cb, rfl⟩ : ∃ p c, vb = .slice p A.length c := by obtain ⟨p, c, h, _⟩ := hB; exact ⟨p, c, h⟩
  have HA := Lib.hid hA; have HB := Lib.hid hB; have HAm := Lib.hid hAm; clear hA hB hAm
  go_enter Tryz.func50, Tryz.ntmps50
  go_wp2_with fail
  go_loopw [5] (fun i wr => ∃ k : Nat, k ≤ A.length ∧ i = .int .i64 (k : Int) ∧ Below w.heap.size w wr) (fun i _ => A.length - (intOf i).toNat)
  case atStart => exact ⟨0, Nat.zero_le _, rfl, Below.refl _ _⟩
  case round =>
    obtain ⟨k, hk, rfl, hb⟩ := hrel
    by_cases hlt : k < A.length
    · obtain ⟨x, hx⟩ : ∃ x, A[k]? = some x := ⟨_, List.getElem?_eq_getElem hlt⟩
      obtain ⟨b, off, rfl⟩ := row_some HA.out hx
      obtain ⟨b2, off2, rfl⟩ := row_some HB.out hx
      obtain ⟨c0, c1, c2⟩ := sn_cells (HA.out.below hb (fun _ _ _ h => h)) hx
      obtain ⟨d0, d1, d2⟩ := sn_cells (HB.out.below hb (fun _ _ _ h => h)) hx
      have hlt' : (k : Int) < (A.length : Int) := by omega
      have Hwk := Lib.hid (f2_w1 k (by have := HAm.out; omega))
      have Hb := Lib.hid hb; have Hlt := Lib.hid hlt
      clear hx hb hlt hk
      go_wp2_with fail
      go_quiet (fail)
      go_wp2_with fail
      go_roundw
      case rel => exact ⟨k + 1, by have := Hlt.out; omega, by first | rfl | rw [Hwk.out], below_drewN Hb.out _⟩
      case measure => have := Hlt.out; (try rw [Hwk.out]); simp [intOf]; omega
    · have he : k = A.length := by omega
      subst he
      have Hb := Lib.hid hb
      clear hlt hk hb
      go_wp2_with fail
      go_ret
      exact ⟨rfl, Hb.out⟩
set_option maxRecDepth 100000 in
set_option maxHeartbeats 3200000 in
theorem ref20_same_eq (L M : List RecV) (va vb : Value) (w : World) (hA : RecsIn w va L) (hB : RecsIn w vb M) (hLM : L.map (·.1) = M.map (·.1)) :
    Calls Tryz.prog 32 #[va, vb] w fun e w' => e = .returned (.bool true) ∧ Below w.heap.size w w' := by
  have hAm := hA.row.bound
  have hlen : L.length = M.length := by have := congrArg List.length hLM; simpa using this
  obtain ⟨n, hn⟩ : ∃ n, n = L.length := ⟨_, rfl⟩
  obtain ⟨pa, ca, rfl⟩ : ∃ p c, va = .slice p n c := by obtain ⟨p, c, h, _⟩ := hA.row; rw [hn]; exact ⟨p, c, h⟩
  obtain ⟨pb, cb, rfl⟩ : ∃ p c, vb = .slice p n c := by obtain ⟨p, c, h, _⟩ := hB.row; rw [hn, hlen]; exact ⟨p, c, h⟩
  have HA := Lib.hid hA; have HB := Lib.hid hB; have HAm := Lib.hid hAm; have Hn := Lib.hid hn; have Hlen := Lib.hid hlen; have HLM := Lib.hid hLM; clear hA hB hAm hn hlen hLM
  go_enter Tryz.func32, Tryz.ntmps32
  go_wp2_with fail
  go_loopw [5] (fun i wr => ∃ k : Nat, k ≤ n ∧ i = .int .i64 (k : Int) ∧ Below w.heap.size w wr) (fun i _ => n - (intOf i).toNat)
  case atStart => exact ⟨0, Nat.zero_le _, rfl, Below.refl _ _⟩
  case round =>
    obtain ⟨k, hk, rfl, hb⟩ := hrel
    by_cases hlt : k < n
    · obtain ⟨x, hx⟩ : ∃ x, L[k]? = some x := ⟨_, List.getElem?_eq_getElem (by rw [← Hn.out]; exact hlt)⟩
      obtain ⟨y, hy⟩ : ∃ y, M[k]? = some y := ⟨_, List.getElem?_eq_getElem (by rw [← Hlen.out, ← Hn.out]; exact hlt)⟩
      have hxy : x.1 = y.1 := by
        have h := HLM.out
        have h1 : (L.map (·.1))[k]? = some x.1 := by rw [List.getElem?_map, hx]; rfl
        have h2 : (M.map (·.1))[k]? = some y.1 := by rw [List.getElem?_map, hy]; rfl
        rw [h, h2] at h1; exact (Option.some.inj h1).symm
      have hpx := HA.out.all x (List.mem_of_getElem? hx)
      have hpy := HB.out.all y (List.mem_of_getElem? hy)
      obtain ⟨b, off, rfl⟩ := row_some HA.out.row hx
      obtain ⟨b2, off2, rfl⟩ := row_some HB.out.row hy
      obtain ⟨x, xr, xw⟩ := x
      obtain ⟨y, yr, yw⟩ := y
      dsimp only at hxy
      subst hxy
      obtain ⟨pr, cr, rfl⟩ : ∃ p c, xr = .slice p x.reads.length c := by obtain ⟨p, c, h, _⟩ := hpx.r; exact ⟨p, c, h⟩
      obtain ⟨pw, cw, rfl⟩ : ∃ p c, xw = .slice p x.writes.length c := by obtain ⟨p, c, h, _⟩ := hpx.w; exact ⟨p, c, h⟩
      obtain ⟨qr, dr, rfl⟩ : ∃ p c, yr = .slice p x.reads.length c := by obtain ⟨p, c, h, _⟩ := hpy.r; exact ⟨p, c, h⟩
      obtain ⟨qw, dw, rfl⟩ : ∃ p c, yw = .slice p x.writes.length c := by obtain ⟨p, c, h, _⟩ := hpy.w; exact ⟨p, c, h⟩
      have HF := Lib.hid (show ∀ W, Below w.heap.size w W → (W.cell? ⟨b, off + k * 3, none⟩ = some (.string ⟨x.rule.toArray⟩) ∧ W.cell? ⟨b, off + k * 3 + 1, none⟩ = some (.slice pr x.reads.length cr) ∧ W.cell? ⟨b, off + k * 3 + 2, none⟩ = some (.slice pw x.writes.length cw)) ∧
        W.cell? ⟨b2, off2 + k * 3, none⟩ = some (.string ⟨x.rule.toArray⟩) ∧ W.cell? ⟨b2, off2 + k * 3 + 1, none⟩ = some (.slice qr x.reads.length dr) ∧ W.cell? ⟨b2, off2 + k * 3 + 2, none⟩ = some (.slice qw x.writes.length dw) from fun W hW =>
        ⟨rec_cells (HA.out.row.below hW (fun _ _ _ h => h)) hx, rec_cells (HB.out.row.below hW (fun _ _ _ h => h)) hy⟩)
      have hwm : x.writes.length ≤ 9223372036854775807 := hpx.w.bound
      have hlt' : (k : Int) < (n : Int) := by omega
      have Hwk := Lib.hid (f2_w1 k (by have := HAm.out; have := Hn.out; omega))
      have Hb := Lib.hid hb; have Hlt := Lib.hid hlt; have Hpx := Lib.hid hpx; have Hpy := Lib.hid hpy; have Hwm := Lib.hid hwm
      clear hx hy hb hlt hk hpx hpy hwm
      go_upto_region 6 with fail
      refine wp_region_any (by kernel_rfl) ?_
      change wpAny _ _ _ _ _ _ _ (World.drew _)
      have hS1 : Below w.heap.size w wr.drew := Hb.out.drew
      refine wpAny_of_held (S := fun W => Below w.heap.size w W) _ _ _ _ ?_
      have hS2 : (fun W => Below w.heap.size w W) wr.drew := hS1
      refine wpAnyH_take (i := 0) (v := ?v1) rfl (by kernel_rfl) (by kernel_rfl) (by kernel_rfl) (fun _ _ _ h => h) (Or.inl ⟨by kernel_rfl, fun W hW => ?h1⟩) (by assumption) ?_
      case h1 => (go_simp; rfl)
      refine wpAnyH_take (i := 1) (v := ?v2) rfl (by kernel_rfl) (by kernel_rfl) (by kernel_rfl) (fun _ _ _ h => h) (Or.inl ⟨by kernel_rfl, fun W hW => ?h2⟩) (by assumption) ?_
      case h2 => (go_simp; rfl)
      refine wpAnyH_take (i := 2) (v := ?v3) rfl (by kernel_rfl) (by kernel_rfl) (by kernel_rfl) (fun _ _ _ h => h) (Or.inl ⟨by kernel_rfl, fun W hW => ?h3⟩) (by assumption) ?_
      case h3 => (go_simp; rfl)
      refine wpAnyH_take (i := 3) (v := ?v4) rfl (by kernel_rfl) (by kernel_rfl) (by kernel_rfl) (fun _ _ _ h => h) (Or.inl ⟨by kernel_rfl, fun W hW => ?h4⟩) (by assumption) ?_
      case h4 => (go_simp; rfl)
      refine wpAnyH_take (i := 4) (v := ?v5) rfl (by kernel_rfl) (by kernel_rfl) (by kernel_rfl) (fun _ _ _ h => h) (Or.inl ⟨by kernel_rfl, fun W hW => ?h5⟩) (by assumption) ?_
      case h5 => (obtain ⟨⟨c0, c1, c2⟩, d0, d1, d2⟩ := HF.out W hW; go_simp; rfl)
      refine wpAnyH_take (i := 5) (v := ?v6) rfl (by kernel_rfl) (by kernel_rfl) (by kernel_rfl) (fun _ _ _ h => h) (Or.inl ⟨by kernel_rfl, fun W hW => ?h6⟩) (by assumption) ?_
      case h6 => (go_simp; rfl)
      refine wpAnyH_take (i := 6) (v := ?v7) rfl (by kernel_rfl) (by kernel_rfl) (by kernel_rfl) (fun _ _ _ h => h) (Or.inl ⟨by kernel_rfl, fun W hW => ?h7⟩) (by assumption) ?_
      case h7 => (go_simp; rfl)
      refine wpAnyH_take (i := 7) (v := ?v8) rfl (by kernel_rfl) (by kernel_rfl) (by kernel_rfl) (fun _ _ _ h => h) (Or.inl ⟨by kernel_rfl, fun W hW => ?h8⟩) (by assumption) ?_
      case h8 => (go_simp; rfl)
      refine wpAnyH_take (i := 8) (v := ?v9) rfl (by kernel_rfl) (by kernel_rfl) (by kernel_rfl) (fun _ _ _ h => h) (Or.inl ⟨by kernel_rfl, fun W hW => ?h9⟩) (by assumption) ?_
      case h9 => (go_simp; rfl)
      refine wpAnyH_take (i := 9) (v := ?v10) rfl (by kernel_rfl) (by kernel_rfl) (by kernel_rfl) (fun _ _ _ h => h) (Or.inl ⟨by kernel_rfl, fun W hW => ?h10⟩) (by assumption) ?_
      case h10 => (obtain ⟨⟨c0, c1, c2⟩, d0, d1, d2⟩ := HF.out W hW; go_simp; rfl)
      refine wpAnyH_take (i := 10) (v := ?v11) rfl (by kernel_rfl) (by kernel_rfl) (by kernel_rfl) (fun _ _ _ h => h) (Or.inl ⟨by kernel_rfl, fun W hW => ?h11⟩) (by assumption) ?_
      case h11 => (go_simp; rfl)
      refine wpAnyH_take (i := 11) (v := ?v12) rfl (by kernel_rfl) (by kernel_rfl) (by kernel_rfl) (fun _ _ _ h => h) (Or.inl ⟨by kernel_rfl, fun W hW => ?h12⟩) (by assumption) ?_
      case h12 => (go_simp; rfl)
      refine wpAnyH_take (i := 12) (v := ?v13) rfl (by kernel_rfl) (by kernel_rfl) (by kernel_rfl) (fun _ _ _ h => h) (Or.inl ⟨by kernel_rfl, fun W hW => ?h13⟩) (by assumption) ?_
      case h13 => (go_simp; rfl)
      refine wpAnyH_take (i := 13) (v := ?v14) rfl (by kernel_rfl) (by kernel_rfl) (by kernel_rfl) (fun _ _ _ h => h) (Or.inl ⟨by kernel_rfl, fun W hW => ?h14⟩) (by assumption) ?_
      case h14 => (go_simp; rfl)
      refine wpAnyH_take (i := 14) (v := ?v15) rfl (by kernel_rfl) (by kernel_rfl) (by kernel_rfl) (fun _ _ _ h => h) (Or.inl ⟨by kernel_rfl, fun W hW => ?h15⟩) (by assumption) ?_
      case h15 => (go_simp; rfl)
      refine wpAnyH_take (i := 15) (v := ?v16) rfl (by kernel_rfl) (by kernel_rfl) (by kernel_rfl) (fun _ _ _ h => h) (Or.inl ⟨by kernel_rfl, fun W hW => ?h16⟩) (by assumption) ?_
      case h16 => (go_simp; rfl)
      refine wpAnyH_take (i := 16) (v := ?v17) rfl (by kernel_rfl) (by kernel_rfl) (by kernel_rfl) (fun _ _ _ h => h) (Or.inl ⟨by kernel_rfl, fun W hW => ?h17⟩) (by assumption) ?_
      case h17 => (obtain ⟨⟨c0, c1, c2⟩, d0, d1, d2⟩ := HF.out W hW; go_simp; rfl)
      refine wpAnyH_take (i := 17) (v := ?v18) rfl (by kernel_rfl) (by kernel_rfl) (by kernel_rfl) (fun _ _ _ h => h) (Or.inl ⟨by kernel_rfl, fun W hW => ?h18⟩) (by assumption) ?_
      case h18 => (go_simp; rfl)
      refine wpAnyH_take (i := 18) (v := ?v19) rfl (by kernel_rfl) (by kernel_rfl) (by kernel_rfl) (fun _ _ _ h => h) (Or.inl ⟨by kernel_rfl, fun W hW => ?h19⟩) (by assumption) ?_
      case h19 => (go_simp; rfl)
      refine wpAnyH_take (i := 19) (v := ?v20) rfl (by kernel_rfl) (by kernel_rfl) (by kernel_rfl) (fun _ _ _ h => h) (Or.inl ⟨by kernel_rfl, fun W hW => ?h20⟩) (by assumption) ?_
      case h20 => (go_simp; rfl)
      refine wpAnyH_take (i := 20) (v := ?v21) rfl (by kernel_rfl) (by kernel_rfl) (by kernel_rfl) (fun _ _ _ h => h) (Or.inl ⟨by kernel_rfl, fun W hW => ?h21⟩) (by assumption) ?_
      case h21 => (go_simp; rfl)
      refine wpAnyH_take (i := 21) (v := ?v22) rfl (by kernel_rfl) (by kernel_rfl) (by kernel_rfl) (fun _ _ _ h => h) (Or.inl ⟨by kernel_rfl, fun W hW => ?h22⟩) (by assumption) ?_
      case h22 => (obtain ⟨⟨c0, c1, c2⟩, d0, d1, d2⟩ := HF.out W hW; go_simp; rfl)
      refine wpAnyH_ready (rs := [22]) (by kernel_rfl) (by simp) ?_
      refine AllReadyH.cons rfl (fun K hK => ?_) AllReadyH.nil
      try simp only [Act.put, List.getElem_toArray, List.getElem_cons_zero, List.getElem_cons_succ, List.setIfInBounds_toArray, List.set_cons_zero, List.set_cons_succ]
      go_simp
      go_wp2_with (go_at_call 50; refine (ref20_seens_eq x.reads _ _ _ _ _ (sliceBelow Hpx.out.r hS1) (sliceBelow Hpy.out.r hS1)).mono ?_; rintro e w2 ⟨rfl, hb2⟩)
      have hS3 := hS1.trans (hb2.mono hS1.size)
      refine hK.out _ _ (hS3) (fun _ => ?_)
      clear K hK
      try simp only [Act.put, List.getElem_toArray, List.getElem_cons_zero, List.getElem_cons_succ, List.setIfInBounds_toArray, List.set_cons_zero, List.set_cons_succ]
      refine wpAnyH_take (i := 23) (v := ?v23) rfl (by kernel_rfl) (by kernel_rfl) (by kernel_rfl) (fun _ _ _ h => h) (Or.inl ⟨by kernel_rfl, fun W hW => ?h23⟩) (by assumption) ?_
      case h23 => (go_simp; rfl)
      refine wpAnyH_take (i := 24) (v := ?v24) rfl (by kernel_rfl) (by kernel_rfl) (by kernel_rfl) (fun _ _ _ h => h) (Or.inl ⟨by kernel_rfl, fun W hW => ?h24⟩) (by assumption) ?_
      case h24 => (go_simp; rfl)
      refine wpAnyH_take (i := 25) (v := ?v25) rfl (by kernel_rfl) (by kernel_rfl) (by kernel_rfl) (fun _ _ _ h => h) (Or.inl ⟨by kernel_rfl, fun W hW => ?h25⟩) (by assumption) ?_
      case h25 => (go_simp; rfl)
      refine wpAnyH_take (i := 26) (v := ?v26) rfl (by kernel_rfl) (by kernel_rfl) (by kernel_rfl) (fun _ _ _ h => h) (Or.inl ⟨by kernel_rfl, fun W hW => ?h26⟩) (by assumption) ?_
      case h26 => (go_simp; rfl)
      refine wpAnyH_take (i := 27) (v := ?v27) rfl (by kernel_rfl) (by kernel_rfl) (by kernel_rfl) (fun _ _ _ h => h) (Or.inl ⟨by kernel_rfl, fun W hW => ?h27⟩) (by assumption) ?_
      case h27 => (go_simp; rfl)
      refine wpAnyH_take (i := 28) (v := ?v28) rfl (by kernel_rfl) (by kernel_rfl) (by kernel_rfl) (fun _ _ _ h => h) (Or.inl ⟨by kernel_rfl, fun W hW => ?h28⟩) (by assumption) ?_
      case h28 => (go_simp; rfl)
      refine wpAnyH_take (i := 29) (v := ?v29) rfl (by kernel_rfl) (by kernel_rfl) (by kernel_rfl) (fun _ _ _ h => h) (Or.inl ⟨by kernel_rfl, fun W hW => ?h29⟩) (by assumption) ?_
      case h29 => (go_simp; rfl)
      refine wpAnyH_take (i := 30) (v := ?v30) rfl (by kernel_rfl) (by kernel_rfl) (by kernel_rfl) (fun _ _ _ h => h) (Or.inl ⟨by kernel_rfl, fun W hW => ?h30⟩) (by assumption) ?_
      case h30 => (obtain ⟨⟨c0, c1, c2⟩, d0, d1, d2⟩ := HF.out W hW; go_simp; rfl)
      refine wpAnyH_take (i := 31) (v := ?v31) rfl (by kernel_rfl) (by kernel_rfl) (by kernel_rfl) (fun _ _ _ h => h) (Or.inl ⟨by kernel_rfl, fun W hW => ?h31⟩) (by assumption) ?_
      case h31 => (go_simp; rfl)
      refine wpAnyH_take (i := 32) (v := ?v32) rfl (by kernel_rfl) (by kernel_rfl) (by kernel_rfl) (fun _ _ _ h => h) (Or.inl ⟨by kernel_rfl, fun W hW => ?h32⟩) (by assumption) ?_
      case h32 => (go_simp; rfl)
      refine wpAnyH_take (i := 33) (v := ?v33) rfl (by kernel_rfl) (by kernel_rfl) (by kernel_rfl) (fun _ _ _ h => h) (Or.inl ⟨by kernel_rfl, fun W hW => ?h33⟩) (by assumption) ?_
      case h33 => (go_simp; rfl)
      refine wpAnyH_take (i := 34) (v := ?v34) rfl (by kernel_rfl) (by kernel_rfl) (by kernel_rfl) (fun _ _ _ h => h) (Or.inl ⟨by kernel_rfl, fun W hW => ?h34⟩) (by assumption) ?_
      case h34 => (go_simp; rfl)
      refine wpAnyH_take (i := 35) (v := ?v35) rfl (by kernel_rfl) (by kernel_rfl) (by kernel_rfl) (fun _ _ _ h => h) (Or.inl ⟨by kernel_rfl, fun W hW => ?h35⟩) (by assumption) ?_
      case h35 => (go_simp; rfl)
      refine wpAnyH_take (i := 36) (v := ?v36) rfl (by kernel_rfl) (by kernel_rfl) (by kernel_rfl) (fun _ _ _ h => h) (Or.inl ⟨by kernel_rfl, fun W hW => ?h36⟩) (by assumption) ?_
      case h36 => (obtain ⟨⟨c0, c1, c2⟩, d0, d1, d2⟩ := HF.out W hW; go_simp; rfl)
      refine wpAnyH_take (i := 37) (v := ?v37) rfl (by kernel_rfl) (by kernel_rfl) (by kernel_rfl) (fun _ _ _ h => h) (Or.inl ⟨by kernel_rfl, fun W hW => ?h37⟩) (by assumption) ?_
      case h37 => (go_simp; rfl)
      refine wpAnyH_take (i := 38) (v := ?v38) rfl (by kernel_rfl) (by kernel_rfl) (by kernel_rfl) (fun _ _ _ h => h) (Or.inl ⟨by kernel_rfl, fun W hW => ?h38⟩) (by assumption) ?_
      case h38 => (go_simp; rfl)
      refine wpAnyH_take (i := 39) (v := ?v39) rfl (by kernel_rfl) (by kernel_rfl) (by kernel_rfl) (fun _ _ _ h => h) (Or.inl ⟨by kernel_rfl, fun W hW => ?h39⟩) (by assumption) ?_
      case h39 => (go_simp; rfl)
      refine wpAnyH_done (by kernel_rfl) ?_ _
      try simp only [Act.put, List.getElem_toArray, List.getElem_cons_zero, List.getElem_cons_succ, List.setIfInBounds_toArray, List.set_cons_zero, List.set_cons_succ]
      have Hb2 := Lib.hid hS3
      clear hS1 hS2 hS3 hb2
      generalize w2 = w1 at *
      go_wp2_with fail
      go_loopw [6] (fun i wr => ∃ j : Nat, j ≤ x.writes.length ∧ i = .int .i64 (j : Int) ∧ Below w.heap.size w wr) (fun i _ => x.writes.length - (intOf i).toNat)
      case atStart => exact ⟨0, Nat.zero_le _, rfl, Hb2.out⟩
      case round =>
        clear Hb2
        obtain ⟨j, hj, rfl, hb⟩ := hrel
        obtain ⟨⟨c0, c1, c2⟩, d0, d1, d2⟩ := HF.out wr hb
        by_cases hlt : j < x.writes.length
        · obtain ⟨f, hf⟩ : ∃ f, x.writes[j]? = some f := ⟨_, List.getElem?_eq_getElem hlt⟩
          obtain ⟨bw, ow, rfl⟩ := row_some Hpx.out.w hf
          obtain ⟨bv, ov, rfl⟩ := row_some Hpy.out.w hf
          obtain ⟨f0, f1⟩ := fl_cells (sliceBelow Hpx.out.w hb) hf
          obtain ⟨h0, h1⟩ := fl_cells (sliceBelow Hpy.out.w hb) hf
          have hltj : (j : Int) < (x.writes.length : Int) := by omega
          have Hwj := Lib.hid (f2_w1 j (by have := Hwm.out; omega))
          have Hb := Lib.hid hb; have Hltj := Lib.hid hlt
          clear hf hb hlt hj
          go_wp2_with fail
          go_quiet (fail)
          go_wp2_with fail
          go_roundw
          case rel => exact ⟨j + 1, by have := Hltj.out; omega, by first | rfl | rw [Hwj.out], below_drewN Hb.out _⟩
          case measure => have := Hltj.out; (try rw [Hwj.out]); simp [intOf]; omega
        · have he : j = x.writes.length := by omega
          subst he
          have Hb := Lib.hid hb
          clear hb hlt hj
          go_wp2_with fail
          go_roundw
          case rel => exact ⟨k + 1, by have := Hlt.out; omega, by first | rfl | rw [Hwk.out], Hb.out⟩
          case measure => have := Hlt.out; (try rw [Hwk.out]); simp [intOf]; omega
    · have he : k = n := by omega
      subst he
      have Hb := Lib.hid hb
      clear hlt hk hb
      go_wp2_with fail
      go_ret
      exact ⟨rfl, Hb.out⟩
end Go.Proofs.YtibinlpbcoihoaaGreatDoor
set_option linter.unusedSimpArgs false
set_option linter.unusedVariables false
namespace Go.Proofs.YtibinlpbcoihoaaGreatDoor
open Go.RowKit
theorem take_snoc_eq {α : Type} {a b : List α} {k : Nat} {x : α} (h : a.take k = b.take k) (ha : a[k]? = some x) (hb : b[k]? = some x) : a.take (k + 1) = b.take (k + 1) := by
  rw [List.take_add_one, List.take_add_one, h, ha, hb]
set_option maxRecDepth 100000 in
set_option maxHeartbeats 1600000 in
theorem ref02_words (a b : List (List UInt8)) (va vb : Value) (S S' : Nat → Prop) (w : World) (hA : SliceIn S 1 RStr w va a) (hB : SliceIn S' 1 RStr w vb b) :
    Calls Tryz.prog 16 #[va, vb] w fun e w' => e = .returned (.bool (decide (a = b))) ∧ Below w.heap.size w w' := by
  have hla := hA.bound; have hlb := hB.bound
  obtain ⟨pa, ca, rfl, _, _, hata⟩ := hA
  obtain ⟨pb, cb, rfl, _, _, hatb⟩ := hB
  have HA := Lib.hid hata; have HB := Lib.hid hatb
  clear hata hatb
  go_enter Tryz.func16, Tryz.ntmps16
  by_cases hl : a.length = b.length
  · have hl' : ((a.length : Int) != (b.length : Int)) = false := by simp [hl]
    have Hl := Lib.hid hl
    clear hl
    go_wp2_with fail
    clear hl'
    go_loopw [5] (fun iv wr => ∃ k : Nat, k ≤ a.length ∧ iv = .int .i64 (k : Int) ∧ a.take k = b.take k ∧ Below w.heap.size w wr) (fun iv _ => a.length - (intOf iv).toNat)
    case atStart => exact ⟨0, Nat.zero_le _, rfl, rfl, Below.refl _ _⟩
    case round =>
      obtain ⟨k, hk, rfl, ht, hb⟩ := hrel
      have Ht := Lib.hid ht; have Hb := Lib.hid hb
      clear ht hb
      by_cases hlt : k < a.length
      · obtain ⟨x, hx⟩ : ∃ x, a[k]? = some x := ⟨_, List.getElem?_eq_getElem hlt⟩
        obtain ⟨y, hy⟩ : ∃ y, b[k]? = some y := ⟨_, List.getElem?_eq_getElem (by have := Hl.out; omega)⟩
        obtain ⟨b1, o1, vs1, rfl, _, hw1, hR1, hc1⟩ := HA.out k x hx
        obtain ⟨b2, o2, vs2, rfl, _, hw2, hR2, hc2⟩ := HB.out k y hy
        have hR1 : vs1 = _ := hR1
        have hR2 : vs2 = _ := hR2
        subst hR1 hR2
        have e1 : wr.cell? ⟨b1, o1 + k, none⟩ = some (.string ⟨x.toArray⟩) := by
          have := (Hb.out.cell (p := ⟨b1, o1 + (k * 1 + 0), none⟩) hw1).trans (hc1 0 _ rfl)
          rwa [Nat.mul_one, Nat.add_zero] at this
        have e2 : wr.cell? ⟨b2, o2 + k, none⟩ = some (.string ⟨y.toArray⟩) := by
          have := (Hb.out.cell (p := ⟨b2, o2 + (k * 1 + 0), none⟩) hw2).trans (hc2 0 _ rfl)
          rwa [Nat.mul_one, Nat.add_zero] at this
        have hlt' : (k : Int) < (a.length : Int) := by omega
        have hltb : (k : Int) < (b.length : Int) := by have := Hl.out; omega
        have hkl : (k : Int) + 1 ≤ 9223372036854775807 := by omega
        have Hx := Lib.hid hx; have Hy := Lib.hid hy; have Hkl := Lib.hid hkl; have Hlt := Lib.hid hlt
        clear hc1 hc2 hx hy hkl
        cases hs : (x == y)
        · have Hne := Lib.hid (show decide (a = b) = false from decide_eq_false (fun h => by
            rw [h, Hy.out] at Hx
            have := Option.some.inj Hx.out
            rw [this] at hs; simp at hs))
          go_upto_region 6 with fail
          go_quiet (fail)
          go_wp2_with fail
          go_ret
          exact ⟨ret_bool Hne.out.symm, below_drewN Hb.out _⟩
        · obtain rfl := eq_of_beq hs
          clear hs
          have Ht2 := Lib.hid (take_snoc_eq Ht.out Hx.out Hy.out)
          go_upto_region 6 with fail
          go_quiet (fail)
          have hkl := Hkl.out
          clear e1 e2 hltb
          go_wp2_with fail
          go_roundw
          case rel => exact ⟨k + 1, by omega, by go_num, Ht2.out, below_drewN Hb.out _⟩
          case measure => simp [intOf]; omega
      · have hlt' : ¬ (k : Int) < (a.length : Int) := by omega
        have Heq := Lib.hid (show decide (a = b) = true from decide_eq_true (by
          have h := Ht.out
          rwa [List.take_of_length_le (by omega), List.take_of_length_le (by have := Hl.out; omega)] at h))
        go_wp2_with fail
        go_ret
        exact ⟨ret_bool Heq.out.symm, Hb.out⟩
  · have hl' : ((a.length : Int) != (b.length : Int)) = true := by simp; omega
    have Hne := Lib.hid (show decide (a = b) = false from decide_eq_false (fun h => hl (by rw [h])))
    clear hl
    go_wp2_with fail
    go_ret
    exact ⟨ret_bool Hne.out.symm, Below.refl _ _⟩
end Go.Proofs.YtibinlpbcoihoaaGreatDoor
