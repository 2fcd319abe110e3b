/- The walks of the reference of layer 10, second part: a side's bytes, the side of bytes, the label of a key. -/
import Derived.Test.YtimmmjmmjokdbaaGreatDoorRefsA
set_option linter.unusedSimpArgs false
set_option linter.unusedVariables false
namespace Go.Proofs.YtimmmjmmjokdbaaGreatDoor
open Go.RowKit
set_option maxRecDepth 100000 in
set_option maxHeartbeats 6400000 in
theorem ref10_encode (x : Sd.Side) (v : Value) (S : Nat → Prop) (w : World) (hX : SideIn S w v x) (hsm : SideSm x) :
    Calls Tryz.prog 11 #[v] w fun e w' => e = .returned (.tuple #[.string ⟨(Sd.enc x).1.toArray⟩, .int .i64 (Sd.enc x).2]) ∧ Below w.heap.size w w' := by
  have HX := Lib.hid hX; have Hsm := Lib.hid hsm
  obtain ⟨vl, vh, vc, vb, rfl, hLb, hHd, hCt, hBb⟩ := hX
  have hsl := hsm.labs; have hsh := hsm.heads; have hsc := hsm.cites; have hsb := hsm.bibs
  have HCt := Lib.hid hCt; have HBb := Lib.hid hBb
  clear hsm
  obtain ⟨pc, cc, rfl, _, _, hcat⟩ := hCt
  obtain ⟨pb, cb, rfl, _, _, hbat⟩ := hBb
  obtain ⟨pl, cl, rfl, _, _, hlat⟩ := hLb
  obtain ⟨ph, ch, rfl, _, _, hhat⟩ := hHd
  have Hlat := Lib.hid hlat; have Hhat := Lib.hid hhat; have Hcat := Lib.hid hcat; have Hbat := Lib.hid hbat
  clear hlat hhat hcat hbat
  have henc : Sd.enc x = if Sd.right x then (Sd.encN x, 0) else ([], 5) := rfl
  have Henc := Lib.hid henc
  clear henc
  go_enter Tryz.func11, Tryz.ntmps11
  go_upto_region 1 with fail
  obtain ⟨W1, hW1⟩ : ∃ W1, W1 = w.alloc (.cells #[.slice pl x.labs.length cl, .slice ph x.heads.length ch, .slice pc x.cites.length cc, .slice pb x.bibs.length cb] 35) := ⟨_, rfl⟩
  obtain ⟨g, hg⟩ : ∃ g, g = w.heap.size := ⟨_, rfl⟩
  rw [← hW1, ← hg]
  have hF : Four g W1 #[.slice pl x.labs.length cl, .slice ph x.heads.length ch, .slice pc x.cites.length cc, .slice pb x.bibs.length cb] := by rw [hW1, hg]; exact Four.made _ _ _
  have hb : Below w.heap.size w W1 := by rw [hW1]; exact below_new w _
  have HB := Lib.hid hb; have HF := Lib.hid hF
  clear hW1 hg hb hF
  have c0 := HF.out.2 0 _ rfl; have c1 := HF.out.2 1 _ rfl; have c2 := HF.out.2 2 _ rfl; have c3 := HF.out.2 3 _ rfl
  cases hr : Sd.right x
  · rw [hr] at Henc
    have Hr := Lib.hid hr
    clear hr
    go_wp2_with (go_at_call 18; refine (ref10_right x _ _ _ (HX.out.below HB.out) Hsm.out).mono ?_; rw [Hr.out]; rintro e w5 ⟨rfl, hb⟩; replace HB := Lib.hid (HB.out.trans (hb.mono HB.out.size)); clear hb)
    go_ret2
    rw [Henc.out]
    exact ⟨rfl, HB.out⟩
  · rw [hr] at Henc
    have hss := Sd.right_small x hr
    have Hss := Lib.hid hss; have Hr := Lib.hid hr
    clear hr hss
    go_upto_region 3 with (go_at_call 18; refine (ref10_right x _ _ _ (HX.out.below HB.out) Hsm.out).mono ?_; rw [Hr.out]; rintro e w5 ⟨rfl, hb⟩; replace HB := Lib.hid (HB.out.trans (hb.mono HB.out.size)); replace HF := Lib.hid (HF.out.below hb); clear hb)
    clear c0 c1 c2 c3
    obtain ⟨w5', hw5⟩ : ∃ W, W = w5 := ⟨_, rfl⟩
    subst hw5
    go_wp2_with fail
    go_loopw [4, 5] (fun sv iv wr => ∃ k : Nat, k ≤ x.labs.length ∧ iv = .int .i64 (k : Int) ∧ sv = .string ⟨(((x.labs.take k).map Sd.encL).flatten).toArray⟩ ∧ (((x.labs.take k).map Sd.encL).flatten).length ≤ 0 + k * 6000 ∧ Below w5'.heap.size w5' wr) (fun _ iv _ => x.labs.length - (intOf iv).toNat)
    case atStart => exact ⟨0, Nat.zero_le _, rfl, by simp, by simp, Below.refl _ _⟩
    case round =>
      obtain ⟨k, hk, rfl, rfl, hal, hb⟩ := hrel
      have Hbk := Lib.hid hb; have HB0 := Lib.hid (HB.out.trans (hb.mono HB.out.size)); have HFr := Lib.hid (HF.out.below hb)
      clear hb
      have d0 := HFr.out.2 0 _ rfl
      by_cases hlt : k < x.labs.length
      · obtain ⟨y, hy⟩ : ∃ y, x.labs[k]? = some y := ⟨_, List.getElem?_eq_getElem hlt⟩
        obtain ⟨b, off, vs, rfl, _, hbw, hR, hcc⟩ := Hlat.out k y hy
        have hR : vs = _ := hR
        subst hR
        have hfs := flat_snoc Sd.encL x.labs k y hy
        obtain ⟨acc, hacc⟩ : ∃ acc, ((x.labs.take k).map Sd.encL).flatten = acc := ⟨_, rfl⟩
        have hfs2 : ((x.labs.take (k + 1)).map Sd.encL).flatten = acc ++ Sd.encL y := by rw [hfs, ← hacc]
        rw [hacc] at hal ⊢
        have Hfs := Lib.hid hfs2
        have hlt' : (k : Int) < (x.labs.length : Int) := by omega
        have hkl : (k : Int) + 1 ≤ 9223372036854775807 := by omega
        have Hkl := Lib.hid hkl; have Hlt := Lib.hid hlt; have Hal := Lib.hid hal
        have hk6 : k * 6000 ≤ 1000000 * 6000 := Nat.mul_le_mul_right _ (by omega)
        have hsy := Hss.out.lab y (List.mem_of_getElem? hy)
        have hps := Sd.labL y hsy
        have hrl := rec_len _ (by simp) hps
        obtain ⟨rc, hrc⟩ : ∃ rc, Sd.record [Sd.labW, y.key, y.num, Sd.dig y.page] = rc := ⟨_, rfl⟩
        have hrc2 : Sd.encL y = rc := hrc
        rw [hrc] at hrl
        have hadd : ¬ 9223372036854775807 < acc.length + rc.length := by omega
        have Hrc := Lib.hid hrc; have Hrc2 := Lib.hid hrc2; have Hps := Lib.hid hps; have Hrl := Lib.hid hrl; have Hadd := Lib.hid hadd
        have a0 : wr.cell? ⟨b, off + k * 3, none⟩ = some (.string ⟨y.key.toArray⟩) := (HB0.out.cell (p := ⟨b, off + k * 3, none⟩) hbw).trans (hcc 0 _ rfl)
        have a1 : wr.cell? ⟨b, off + k * 3 + 1, none⟩ = some (.string ⟨y.num.toArray⟩) := (HB0.out.cell (p := ⟨b, off + k * 3 + 1, none⟩) hbw).trans (hcc 1 _ rfl)
        have a2 : wr.cell? ⟨b, off + k * 3 + 2, none⟩ = some (.int .i64 y.page) := (HB0.out.cell (p := ⟨b, off + k * 3 + 2, none⟩) hbw).trans (hcc 2 _ rfl)
        have Hsy := Lib.hid hsy
        clear hcc hy hfs hacc hfs2 hk6 hal hps hrl hrc hrc2 hkl hadd hk hlt hsy
        go_upto_region 8 with fail
        obtain ⟨w2, hw2⟩ : ∃ W, W = wr.alloc (.cells #[.string ⟨y.key.toArray⟩, .string ⟨y.num.toArray⟩, .int .i64 y.page] 45) := ⟨_, rfl⟩
        obtain ⟨gl, hgl⟩ : ∃ gl, gl = wr.heap.size := ⟨_, rfl⟩
        rw [← hw2, ← hgl]
        have HFl := Lib.hid (show Four gl w2 #[.string ⟨y.key.toArray⟩, .string ⟨y.num.toArray⟩, .int .i64 y.page] by rw [hw2, hgl]; exact Four.made _ _ _)
        have hb7 : Below wr.heap.size wr w2 := by rw [hw2]; exact below_new _ _
        have HB2 := Lib.hid (Hbk.out.trans (hb7.mono Hbk.out.size))
        obtain ⟨pg, hpg⟩ : ∃ pg, y.page = pg := ⟨_, rfl⟩
        have Hpg := Lib.hid (show 0 ≤ pg ∧ pg ≤ 999999 by have := Hsy.out; omega)
        rw [hpg] at HFl Hrc Hps
        clear hw2 hgl hb7 a0 a1 a2 hlt' hpg d0
        refine wp_region_any (by kernel_rfl) ?_
        change wpAny _ _ _ _ _ _ _ (World.drew _)
        have hS : (fun W => Below w2.heap.size w2 W) w2.drew := (Below.refl _ _).drew
        generalize w2.drew = w8 at hS ⊢
        refine wpAny_of_held (S := fun W => Below w2.heap.size w2 W) _ _ _ _ ?_
        refine wpAnyH_take (i := 0) (v := .string ⟨acc.toArray⟩) rfl (by kernel_rfl) (by kernel_rfl) (by kernel_rfl) (fun _ _ _ h => h) (Or.inl ⟨by kernel_rfl, fun W hW => by kernel_rfl⟩) (by assumption) ?_
        try simp only [Act.put, List.getElem_toArray, List.getElem_cons_zero, List.getElem_cons_succ, List.setIfInBounds_toArray, List.set_cons_zero, List.set_cons_succ]
        refine wpAnyH_take (i := 1) (v := .pointer (some ⟨gl, 0, none⟩)) rfl (by kernel_rfl) (by kernel_rfl) (by kernel_rfl) (fun _ _ _ h => h) (Or.inl ⟨by kernel_rfl, fun W hW => by kernel_rfl⟩) (by assumption) ?_
        try simp only [Act.put, List.getElem_toArray, List.getElem_cons_zero, List.getElem_cons_succ, List.setIfInBounds_toArray, List.set_cons_zero, List.set_cons_succ]
        refine wpAnyH_take (i := 2) (v := .string ⟨y.key.toArray⟩) rfl (by kernel_rfl) (by kernel_rfl) (by kernel_rfl) (fun _ _ _ h => h) (Or.inl ⟨by kernel_rfl, fun W hW => by (obtain ⟨_, qq⟩ := Four.below HFl.out hW; have q1 := qq 0 _ rfl; go_simp)⟩) (by assumption) ?_
        try simp only [Act.put, List.getElem_toArray, List.getElem_cons_zero, List.getElem_cons_succ, List.setIfInBounds_toArray, List.set_cons_zero, List.set_cons_succ]
        refine wpAnyH_take (i := 3) (v := .pointer (some ⟨gl, 1, none⟩)) rfl (by kernel_rfl) (by kernel_rfl) (by kernel_rfl) (fun _ _ _ h => h) (Or.inl ⟨by kernel_rfl, fun W hW => by kernel_rfl⟩) (by assumption) ?_
        try simp only [Act.put, List.getElem_toArray, List.getElem_cons_zero, List.getElem_cons_succ, List.setIfInBounds_toArray, List.set_cons_zero, List.set_cons_succ]
        refine wpAnyH_take (i := 4) (v := .string ⟨y.num.toArray⟩) rfl (by kernel_rfl) (by kernel_rfl) (by kernel_rfl) (fun _ _ _ h => h) (Or.inl ⟨by kernel_rfl, fun W hW => by (obtain ⟨_, qq⟩ := Four.below HFl.out hW; have q1 := qq 1 _ rfl; go_simp)⟩) (by assumption) ?_
        try simp only [Act.put, List.getElem_toArray, List.getElem_cons_zero, List.getElem_cons_succ, List.setIfInBounds_toArray, List.set_cons_zero, List.set_cons_succ]
        refine wpAnyH_take (i := 5) (v := .pointer (some ⟨gl, 2, none⟩)) rfl (by kernel_rfl) (by kernel_rfl) (by kernel_rfl) (fun _ _ _ h => h) (Or.inl ⟨by kernel_rfl, fun W hW => by kernel_rfl⟩) (by assumption) ?_
        try simp only [Act.put, List.getElem_toArray, List.getElem_cons_zero, List.getElem_cons_succ, List.setIfInBounds_toArray, List.set_cons_zero, List.set_cons_succ]
        refine wpAnyH_take (i := 6) (v := .int .i64 pg) rfl (by kernel_rfl) (by kernel_rfl) (by kernel_rfl) (fun _ _ _ h => h) (Or.inl ⟨by kernel_rfl, fun W hW => by (obtain ⟨_, qq⟩ := Four.below HFl.out hW; have q1 := qq 2 _ rfl; go_simp)⟩) (by assumption) ?_
        try simp only [Act.put, List.getElem_toArray, List.getElem_cons_zero, List.getElem_cons_succ, List.setIfInBounds_toArray, List.set_cons_zero, List.set_cons_succ]
        refine wpAnyH_ready (rs := [7]) (by kernel_rfl) (by simp) ?_
        refine AllReadyH.cons rfl (fun K hK => ?_) AllReadyH.nil
        go_simp
        go_wp2_with (go_at_call 26; refine (ref01_dig pg _ Hpg.out).mono ?_; rintro e w9 ⟨rfl, hb9⟩; replace hS := Below.trans hS (hb9.mono (Below.size hS)); clear hb9)
        refine hK.out _ _ (hS) (fun _ => ?_)
        clear K hK
        try simp only [Act.put, List.getElem_toArray, List.getElem_cons_zero, List.getElem_cons_succ, List.setIfInBounds_toArray, List.set_cons_zero, List.set_cons_succ]
        refine wpAnyH_ready (rs := [8]) (by kernel_rfl) (by simp) ?_
        refine AllReadyH.cons rfl (fun K hK => ?_) AllReadyH.nil
        go_simp
        go_wp2_with fail
        refine hK.out _ _ (Below.alloc hS (Below.size hS) _) (fun _ => ?_)
        clear K hK
        try simp only [Act.put, List.getElem_toArray, List.getElem_cons_zero, List.getElem_cons_succ, List.setIfInBounds_toArray, List.set_cons_zero, List.set_cons_succ]
        replace hS := Below.alloc hS (Below.size hS) (.cells #[.string ⟨Sd.labW.toArray⟩, .string ⟨y.key.toArray⟩, .string ⟨y.num.toArray⟩, .string ⟨(Sd.dig pg).toArray⟩] 9)
        refine wpAnyH_ready (rs := [9]) (by kernel_rfl) (by simp) ?_
        refine AllReadyH.cons rfl (fun K hK => ?_) AllReadyH.nil
        go_simp
        go_wp2_with (go_at_call 25; refine (ref10_record [Sd.labW, y.key, y.num, Sd.dig pg] _ _ _ (strs4 _ Sd.labW y.key y.num (Sd.dig pg)) (by simp) Hps.out).mono ?_; rw [Hrc.out]; rintro e w10 ⟨rfl, hb10⟩; replace hS := Below.trans hS (hb10.mono (Below.size hS)); clear hb10)
        refine hK.out _ _ (hS) (fun _ => ?_)
        clear K hK
        try simp only [Act.put, List.getElem_toArray, List.getElem_cons_zero, List.getElem_cons_succ, List.setIfInBounds_toArray, List.set_cons_zero, List.set_cons_succ]
        have hadd := Hadd.out
        refine wpAnyH_take (i := 10) (v := .string (⟨acc.toArray⟩ ++ ⟨rc.toArray⟩)) rfl (by kernel_rfl) (by kernel_rfl) (by kernel_rfl) (fun _ _ _ h => h) (Or.inl ⟨by kernel_rfl, fun W hW => by go_simp⟩) (by assumption) ?_
        try simp only [Act.put, List.getElem_toArray, List.getElem_cons_zero, List.getElem_cons_succ, List.setIfInBounds_toArray, List.set_cons_zero, List.set_cons_succ]
        refine wpAnyH_take (i := 11) (v := .string (⟨acc.toArray⟩ ++ ⟨rc.toArray⟩)) rfl (by kernel_rfl) (by kernel_rfl) (by kernel_rfl) (fun _ _ _ h => h) (Or.inl ⟨by kernel_rfl, fun W hW => by kernel_rfl⟩) (by assumption) ?_
        try simp only [Act.put, List.getElem_toArray, List.getElem_cons_zero, List.getElem_cons_succ, List.setIfInBounds_toArray, List.set_cons_zero, List.set_cons_succ]
        refine wpAnyH_done (by kernel_rfl) ?_ _
        have HB9 := Lib.hid (HB2.out.trans (Below.mono hS HB2.out.size))
        clear hS hadd
        go_upto_region 6 with fail
        have hkl := Hkl.out
        go_wp2_with fail
        go_roundw
        case rel => exact ⟨k + 1, by have := Hlt.out; omega, by go_num, by rw [Hfs.out, Hrc2.out]; exact congrArg Value.string (append_data _ _), by rw [Hfs.out, Hrc2.out, List.length_append]; have := Hal.out; have := Hrl.out; omega, HB9.out⟩
        case measure => have := Hlt.out; simp [intOf]; omega
      · have hlt' : ¬ (k : Int) < (x.labs.length : Int) := by omega
        have htk : x.labs.take k = x.labs := List.take_of_length_le (by omega)
        rw [htk] at hal ⊢
        have hk6 : k * 6000 ≤ 1000000 * 6000 := Nat.mul_le_mul_right _ (by omega)
        obtain ⟨A0, hA0⟩ : ∃ A, (x.labs.map Sd.encL).flatten = A := ⟨_, rfl⟩
        rw [hA0] at hal ⊢
        have hAl0 : A0.length ≤ 6000000000 := by omega
        have HA0 := Lib.hid hA0
        go_upto_region 9 with fail
        obtain ⟨wm0, hwm⟩ : ∃ W, W = wr := ⟨_, rfl⟩
        subst hwm
        have HF0 := HFr
        clear hal htk hk6 hA0 hlt hk Hbk HFr d0 hlt'
        go_wp2_with fail
        go_loopw [4, 7] (fun sv iv wr => ∃ k : Nat, k ≤ x.heads.length ∧ iv = .int .i64 (k : Int) ∧ sv = .string ⟨(A0 ++ ((x.heads.take k).map Sd.encH).flatten).toArray⟩ ∧ (A0 ++ ((x.heads.take k).map Sd.encH).flatten).length ≤ 6000000000 + k * 6000 ∧ Below wm0.heap.size wm0 wr) (fun _ iv _ => x.heads.length - (intOf iv).toNat)
        case atStart => exact ⟨0, Nat.zero_le _, rfl, by simp, by simp only [List.take_zero, List.map_nil, List.flatten_nil, List.append_nil]; omega, Below.refl _ _⟩
        case round =>
          obtain ⟨k, hk, rfl, rfl, hal, hb⟩ := hrel
          have Hbk := Lib.hid hb; have HB1 := Lib.hid (HB0.out.trans (hb.mono HB0.out.size)); have HFr := Lib.hid (HF0.out.below hb)
          clear hb
          have d1 := HFr.out.2 1 _ rfl
          by_cases hlt : k < x.heads.length
          · obtain ⟨y, hy⟩ : ∃ y, x.heads[k]? = some y := ⟨_, List.getElem?_eq_getElem hlt⟩
            obtain ⟨b, off, vs, rfl, _, hbw, hR, hcc⟩ := Hhat.out k y hy
            have hR : vs = _ := hR
            subst hR
            have hfs := flat_snoc Sd.encH x.heads k y hy
            obtain ⟨acc, hacc⟩ : ∃ acc, A0 ++ ((x.heads.take k).map Sd.encH).flatten = acc := ⟨_, rfl⟩
            have hfs2 : A0 ++ ((x.heads.take (k + 1)).map Sd.encH).flatten = acc ++ Sd.encH y := by rw [hfs, ← hacc]; simp
            rw [hacc] at hal ⊢
            have Hfs := Lib.hid hfs2
            have hlt' : (k : Int) < (x.heads.length : Int) := by omega
            have hkl : (k : Int) + 1 ≤ 9223372036854775807 := by omega
            have Hkl := Lib.hid hkl; have Hlt := Lib.hid hlt; have Hal := Lib.hid hal
            have hk6 : k * 6000 ≤ 1000000 * 6000 := Nat.mul_le_mul_right _ (by omega)
            have hsy := Hss.out.head y (List.mem_of_getElem? hy)
            have hps := Sd.headL y hsy
            have hrl := rec_len _ (by simp) hps
            obtain ⟨rc, hrc⟩ : ∃ rc, Sd.record [Sd.headW, Sd.dig y.level, y.num, y.title, Sd.dig y.page] = rc := ⟨_, rfl⟩
            have hrc2 : Sd.encH y = rc := hrc
            rw [hrc] at hrl
            have hadd : ¬ 9223372036854775807 < acc.length + rc.length := by omega
            have Hrc := Lib.hid hrc; have Hrc2 := Lib.hid hrc2; have Hps := Lib.hid hps; have Hrl := Lib.hid hrl; have Hadd := Lib.hid hadd
            have a0 : wr.cell? ⟨b, off + k * 4, none⟩ = some (.int .i64 y.level) := (HB1.out.cell (p := ⟨b, off + k * 4, none⟩) hbw).trans (hcc 0 _ rfl)
            have a1 : wr.cell? ⟨b, off + k * 4 + 1, none⟩ = some (.string ⟨y.num.toArray⟩) := (HB1.out.cell (p := ⟨b, off + k * 4 + 1, none⟩) hbw).trans (hcc 1 _ rfl)
            have a2 : wr.cell? ⟨b, off + k * 4 + 2, none⟩ = some (.string ⟨y.title.toArray⟩) := (HB1.out.cell (p := ⟨b, off + k * 4 + 2, none⟩) hbw).trans (hcc 2 _ rfl)
            have a3 : wr.cell? ⟨b, off + k * 4 + 3, none⟩ = some (.int .i64 y.page) := (HB1.out.cell (p := ⟨b, off + k * 4 + 3, none⟩) hbw).trans (hcc 3 _ rfl)
            have Hsy := Lib.hid hsy
            clear hcc hy hfs hacc hfs2 hk6 hal hps hrl hrc hrc2 hkl hadd hk hlt hsy
            go_upto_region 13 with fail
            obtain ⟨w2, hw2⟩ : ∃ W, W = wr.alloc (.cells #[.int .i64 y.level, .string ⟨y.num.toArray⟩, .string ⟨y.title.toArray⟩, .int .i64 y.page] 65) := ⟨_, rfl⟩
            obtain ⟨gl, hgl⟩ : ∃ gl, gl = wr.heap.size := ⟨_, rfl⟩
            rw [← hw2, ← hgl]
            have HFl := Lib.hid (show Four gl w2 #[.int .i64 y.level, .string ⟨y.num.toArray⟩, .string ⟨y.title.toArray⟩, .int .i64 y.page] by rw [hw2, hgl]; exact Four.made _ _ _)
            have hb7 : Below wr.heap.size wr w2 := by rw [hw2]; exact below_new _ _
            have HB2 := Lib.hid (Hbk.out.trans (hb7.mono Hbk.out.size))
            obtain ⟨pg, hpg⟩ : ∃ pg, y.page = pg := ⟨_, rfl⟩
            have Hpg := Lib.hid (show 0 ≤ pg ∧ pg ≤ 999999 by have := Hsy.out; omega)
            rw [hpg] at HFl Hrc Hps
            obtain ⟨lv, hlv⟩ : ∃ lv, y.level = lv := ⟨_, rfl⟩
            have Hlv := Lib.hid (show 0 ≤ lv ∧ lv ≤ 999999 by have := Hsy.out; omega)
            rw [hlv] at HFl Hrc Hps
            clear hw2 hgl hb7 a0 a1 a2 a3 hlt' hpg hlv d1
            refine wp_region_any (by kernel_rfl) ?_
            change wpAny _ _ _ _ _ _ _ (World.drew _)
            have hS : (fun W => Below w2.heap.size w2 W) w2.drew := (Below.refl _ _).drew
            generalize w2.drew = w8 at hS ⊢
            refine wpAny_of_held (S := fun W => Below w2.heap.size w2 W) _ _ _ _ ?_
            refine wpAnyH_take (i := 0) (v := .string ⟨acc.toArray⟩) rfl (by kernel_rfl) (by kernel_rfl) (by kernel_rfl) (fun _ _ _ h => h) (Or.inl ⟨by kernel_rfl, fun W hW => by kernel_rfl⟩) (by assumption) ?_
            try simp only [Act.put, List.getElem_toArray, List.getElem_cons_zero, List.getElem_cons_succ, List.setIfInBounds_toArray, List.set_cons_zero, List.set_cons_succ]
            refine wpAnyH_take (i := 1) (v := .pointer (some ⟨gl, 0, none⟩)) rfl (by kernel_rfl) (by kernel_rfl) (by kernel_rfl) (fun _ _ _ h => h) (Or.inl ⟨by kernel_rfl, fun W hW => by kernel_rfl⟩) (by assumption) ?_
            try simp only [Act.put, List.getElem_toArray, List.getElem_cons_zero, List.getElem_cons_succ, List.setIfInBounds_toArray, List.set_cons_zero, List.set_cons_succ]
            refine wpAnyH_take (i := 2) (v := .int .i64 lv) rfl (by kernel_rfl) (by kernel_rfl) (by kernel_rfl) (fun _ _ _ h => h) (Or.inl ⟨by kernel_rfl, fun W hW => by (obtain ⟨_, qq⟩ := Four.below HFl.out hW; have q1 := qq 0 _ rfl; go_simp)⟩) (by assumption) ?_
            try simp only [Act.put, List.getElem_toArray, List.getElem_cons_zero, List.getElem_cons_succ, List.setIfInBounds_toArray, List.set_cons_zero, List.set_cons_succ]
            refine wpAnyH_take (i := 4) (v := .pointer (some ⟨gl, 1, none⟩)) rfl (by kernel_rfl) (by kernel_rfl) (by kernel_rfl) (fun _ _ _ h => h) (Or.inl ⟨by kernel_rfl, fun W hW => by kernel_rfl⟩) (by assumption) ?_
            try simp only [Act.put, List.getElem_toArray, List.getElem_cons_zero, List.getElem_cons_succ, List.setIfInBounds_toArray, List.set_cons_zero, List.set_cons_succ]
            refine wpAnyH_take (i := 5) (v := .string ⟨y.num.toArray⟩) rfl (by kernel_rfl) (by kernel_rfl) (by kernel_rfl) (fun _ _ _ h => h) (Or.inl ⟨by kernel_rfl, fun W hW => by (obtain ⟨_, qq⟩ := Four.below HFl.out hW; have q1 := qq 1 _ rfl; go_simp)⟩) (by assumption) ?_
            try simp only [Act.put, List.getElem_toArray, List.getElem_cons_zero, List.getElem_cons_succ, List.setIfInBounds_toArray, List.set_cons_zero, List.set_cons_succ]
            refine wpAnyH_take (i := 6) (v := .pointer (some ⟨gl, 2, none⟩)) rfl (by kernel_rfl) (by kernel_rfl) (by kernel_rfl) (fun _ _ _ h => h) (Or.inl ⟨by kernel_rfl, fun W hW => by kernel_rfl⟩) (by assumption) ?_
            try simp only [Act.put, List.getElem_toArray, List.getElem_cons_zero, List.getElem_cons_succ, List.setIfInBounds_toArray, List.set_cons_zero, List.set_cons_succ]
            refine wpAnyH_take (i := 7) (v := .string ⟨y.title.toArray⟩) rfl (by kernel_rfl) (by kernel_rfl) (by kernel_rfl) (fun _ _ _ h => h) (Or.inl ⟨by kernel_rfl, fun W hW => by (obtain ⟨_, qq⟩ := Four.below HFl.out hW; have q1 := qq 2 _ rfl; go_simp)⟩) (by assumption) ?_
            try simp only [Act.put, List.getElem_toArray, List.getElem_cons_zero, List.getElem_cons_succ, List.setIfInBounds_toArray, List.set_cons_zero, List.set_cons_succ]
            refine wpAnyH_take (i := 8) (v := .pointer (some ⟨gl, 3, none⟩)) rfl (by kernel_rfl) (by kernel_rfl) (by kernel_rfl) (fun _ _ _ h => h) (Or.inl ⟨by kernel_rfl, fun W hW => by kernel_rfl⟩) (by assumption) ?_
            try simp only [Act.put, List.getElem_toArray, List.getElem_cons_zero, List.getElem_cons_succ, List.setIfInBounds_toArray, List.set_cons_zero, List.set_cons_succ]
            refine wpAnyH_take (i := 9) (v := .int .i64 pg) rfl (by kernel_rfl) (by kernel_rfl) (by kernel_rfl) (fun _ _ _ h => h) (Or.inl ⟨by kernel_rfl, fun W hW => by (obtain ⟨_, qq⟩ := Four.below HFl.out hW; have q1 := qq 3 _ rfl; go_simp)⟩) (by assumption) ?_
            try simp only [Act.put, List.getElem_toArray, List.getElem_cons_zero, List.getElem_cons_succ, List.setIfInBounds_toArray, List.set_cons_zero, List.set_cons_succ]
            refine wpAnyH_ready (rs := [3]) (by kernel_rfl) (by simp) ?_
            refine AllReadyH.cons rfl (fun K hK => ?_) AllReadyH.nil
            go_simp
            go_wp2_with (go_at_call 26; refine (ref01_dig lv _ Hlv.out).mono ?_; rintro e w9 ⟨rfl, hb9⟩; replace hS := Below.trans hS (hb9.mono (Below.size hS)); clear hb9)
            refine hK.out _ _ (hS) (fun _ => ?_)
            clear K hK
            try simp only [Act.put, List.getElem_toArray, List.getElem_cons_zero, List.getElem_cons_succ, List.setIfInBounds_toArray, List.set_cons_zero, List.set_cons_succ]
            refine wpAnyH_ready (rs := [10]) (by kernel_rfl) (by simp) ?_
            refine AllReadyH.cons rfl (fun K hK => ?_) AllReadyH.nil
            go_simp
            go_wp2_with (go_at_call 26; refine (ref01_dig pg _ Hpg.out).mono ?_; rintro e w9 ⟨rfl, hb9⟩; replace hS := Below.trans hS (hb9.mono (Below.size hS)); clear hb9)
            refine hK.out _ _ (hS) (fun _ => ?_)
            clear K hK
            try simp only [Act.put, List.getElem_toArray, List.getElem_cons_zero, List.getElem_cons_succ, List.setIfInBounds_toArray, List.set_cons_zero, List.set_cons_succ]
            refine wpAnyH_ready (rs := [11]) (by kernel_rfl) (by simp) ?_
            refine AllReadyH.cons rfl (fun K hK => ?_) AllReadyH.nil
            go_simp
            go_wp2_with fail
            refine hK.out _ _ (Below.alloc hS (Below.size hS) _) (fun _ => ?_)
            clear K hK
            try simp only [Act.put, List.getElem_toArray, List.getElem_cons_zero, List.getElem_cons_succ, List.setIfInBounds_toArray, List.set_cons_zero, List.set_cons_succ]
            replace hS := Below.alloc hS (Below.size hS) (.cells #[.string ⟨Sd.headW.toArray⟩, .string ⟨(Sd.dig lv).toArray⟩, .string ⟨y.num.toArray⟩, .string ⟨y.title.toArray⟩, .string ⟨(Sd.dig pg).toArray⟩] 9)
            refine wpAnyH_ready (rs := [12]) (by kernel_rfl) (by simp) ?_
            refine AllReadyH.cons rfl (fun K hK => ?_) AllReadyH.nil
            go_simp
            go_wp2_with (go_at_call 25; refine (ref10_record [Sd.headW, Sd.dig lv, y.num, y.title, Sd.dig pg] _ _ _ (strs5 _ Sd.headW (Sd.dig lv) y.num y.title (Sd.dig pg)) (by simp) Hps.out).mono ?_; rw [Hrc.out]; rintro e w10 ⟨rfl, hb10⟩; replace hS := Below.trans hS (hb10.mono (Below.size hS)); clear hb10)
            refine hK.out _ _ (hS) (fun _ => ?_)
            clear K hK
            try simp only [Act.put, List.getElem_toArray, List.getElem_cons_zero, List.getElem_cons_succ, List.setIfInBounds_toArray, List.set_cons_zero, List.set_cons_succ]
            have hadd := Hadd.out
            refine wpAnyH_take (i := 13) (v := .string (⟨acc.toArray⟩ ++ ⟨rc.toArray⟩)) rfl (by kernel_rfl) (by kernel_rfl) (by kernel_rfl) (fun _ _ _ h => h) (Or.inl ⟨by kernel_rfl, fun W hW => by go_simp⟩) (by assumption) ?_
            try simp only [Act.put, List.getElem_toArray, List.getElem_cons_zero, List.getElem_cons_succ, List.setIfInBounds_toArray, List.set_cons_zero, List.set_cons_succ]
            refine wpAnyH_take (i := 14) (v := .string (⟨acc.toArray⟩ ++ ⟨rc.toArray⟩)) rfl (by kernel_rfl) (by kernel_rfl) (by kernel_rfl) (fun _ _ _ h => h) (Or.inl ⟨by kernel_rfl, fun W hW => by kernel_rfl⟩) (by assumption) ?_
            try simp only [Act.put, List.getElem_toArray, List.getElem_cons_zero, List.getElem_cons_succ, List.setIfInBounds_toArray, List.set_cons_zero, List.set_cons_succ]
            refine wpAnyH_done (by kernel_rfl) ?_ _
            have HB9 := Lib.hid (HB2.out.trans (Below.mono hS HB2.out.size))
            clear hS hadd
            go_upto_region 11 with fail
            have hkl := Hkl.out
            go_wp2_with fail
            go_roundw
            case rel => exact ⟨k + 1, by have := Hlt.out; omega, by go_num, by rw [Hfs.out, Hrc2.out]; exact congrArg Value.string (append_data _ _), by rw [Hfs.out, Hrc2.out, List.length_append]; have := Hal.out; have := Hrl.out; omega, HB9.out⟩
            case measure => have := Hlt.out; simp [intOf]; omega
          · have hlt' : ¬ (k : Int) < (x.heads.length : Int) := by omega
            have htk : x.heads.take k = x.heads := List.take_of_length_le (by omega)
            rw [htk] at hal ⊢
            have hk6 : k * 6000 ≤ 1000000 * 6000 := Nat.mul_le_mul_right _ (by omega)
            obtain ⟨A1, hA1⟩ : ∃ A, A0 ++ (x.heads.map Sd.encH).flatten = A := ⟨_, rfl⟩
            rw [hA1] at hal ⊢
            have hAl1 : A1.length ≤ 12000000000 := by omega
            have HA1 := Lib.hid hA1
            go_upto_region 14 with fail
            obtain ⟨wm1, hwm⟩ : ∃ W, W = wr := ⟨_, rfl⟩
            subst hwm
            have HF1 := HFr
            clear hal htk hk6 hA1 hlt hk Hbk HFr d1 hlt'
            go_wp2_with fail
            go_loopw [4, 9] (fun sv iv wr => ∃ k : Nat, k ≤ x.cites.length ∧ iv = .int .i64 (k : Int) ∧ sv = .string ⟨(A1 ++ ((x.cites.take k).map Sd.encC).flatten).toArray⟩ ∧ (A1 ++ ((x.cites.take k).map Sd.encC).flatten).length ≤ 12000000000 + k * 6000 ∧ Below wm1.heap.size wm1 wr) (fun _ iv _ => x.cites.length - (intOf iv).toNat)
            case atStart => exact ⟨0, Nat.zero_le _, rfl, by simp, by simp only [List.take_zero, List.map_nil, List.flatten_nil, List.append_nil]; omega, Below.refl _ _⟩
            case round =>
              obtain ⟨k, hk, rfl, rfl, hal, hb⟩ := hrel
              have Hbk := Lib.hid hb; have HB2 := Lib.hid (HB1.out.trans (hb.mono HB1.out.size)); have HFr := Lib.hid (HF1.out.below hb)
              clear hb
              have d2 := HFr.out.2 2 _ rfl
              by_cases hlt : k < x.cites.length
              · obtain ⟨y, hy⟩ : ∃ y, x.cites[k]? = some y := ⟨_, List.getElem?_eq_getElem hlt⟩
                obtain ⟨b, off, vs, rfl, _, hbw, hR, hcc⟩ := Hcat.out k y hy
                have hR : vs = _ := hR
                subst hR
                have hfs := flat_snoc Sd.encC x.cites k y hy
                obtain ⟨acc, hacc⟩ : ∃ acc, A1 ++ ((x.cites.take k).map Sd.encC).flatten = acc := ⟨_, rfl⟩
                have hfs2 : A1 ++ ((x.cites.take (k + 1)).map Sd.encC).flatten = acc ++ Sd.encC y := by rw [hfs, ← hacc]; simp
                rw [hacc] at hal ⊢
                have Hfs := Lib.hid hfs2
                have hlt' : (k : Int) < (x.cites.length : Int) := by omega
                have hkl : (k : Int) + 1 ≤ 9223372036854775807 := by omega
                have Hkl := Lib.hid hkl; have Hlt := Lib.hid hlt; have Hal := Lib.hid hal
                have hk6 : k * 6000 ≤ 1000000 * 6000 := Nat.mul_le_mul_right _ (by omega)
                have hps := Sd.citeL Sd.citeW y (by decide) (Hss.out.cite y (List.mem_of_getElem? hy))
                have hrl := rec_len _ (by simp) hps
                obtain ⟨rc, hrc⟩ : ∃ rc, Sd.record [Sd.citeW, y] = rc := ⟨_, rfl⟩
                have hrc2 : Sd.encC y = rc := hrc
                rw [hrc] at hrl
                have hadd : ¬ 9223372036854775807 < acc.length + rc.length := by omega
                have Hrc := Lib.hid hrc; have Hrc2 := Lib.hid hrc2; have Hps := Lib.hid hps; have Hrl := Lib.hid hrl; have Hadd := Lib.hid hadd
                have a0 : wr.cell? ⟨b, off + k, none⟩ = some (.string ⟨y.toArray⟩) := by
                  have := (HB2.out.cell (p := ⟨b, off + (k * 1 + 0), none⟩) hbw).trans (hcc 0 _ rfl)
                  rwa [Nat.mul_one, Nat.add_zero] at this
                clear hcc hy hfs hacc hfs2 hk6 hal hps hrl hrc hrc2 hkl hk hlt
                go_upto_region 16 with (go_at_call 25; refine (ref10_record [Sd.citeW, y] _ _ _ (strs2 wr Sd.citeW y) (by simp) Hps.out).mono ?_; rw [Hrc.out]; rintro e w9 ⟨rfl, hb9⟩; have HB9 := Lib.hid (Hbk.out.trans (((below_new wr _).trans (hb9.mono (Nat.le_of_lt (lt_alloc wr _)))).mono Hbk.out.size)); clear hb9)
                clear a0 hlt' hadd d2
                have hkl := Hkl.out
                go_wp2_with fail
                go_roundw
                case rel => exact ⟨k + 1, by have := Hlt.out; omega, by go_num, by rw [Hfs.out, Hrc2.out]; exact congrArg Value.string (append_data _ _), by rw [Hfs.out, Hrc2.out, List.length_append]; have := Hal.out; have := Hrl.out; omega, HB9.out⟩
                case measure => have := Hlt.out; simp [intOf]; omega
              · have hlt' : ¬ (k : Int) < (x.cites.length : Int) := by omega
                have htk : x.cites.take k = x.cites := List.take_of_length_le (by omega)
                rw [htk] at hal ⊢
                have hk6 : k * 6000 ≤ 1000000 * 6000 := Nat.mul_le_mul_right _ (by omega)
                obtain ⟨A2, hA2⟩ : ∃ A, A1 ++ (x.cites.map Sd.encC).flatten = A := ⟨_, rfl⟩
                rw [hA2] at hal ⊢
                have hAl2 : A2.length ≤ 18000000000 := by omega
                have HA2 := Lib.hid hA2
                go_upto_region 18 with fail
                obtain ⟨wm2, hwm⟩ : ∃ W, W = wr := ⟨_, rfl⟩
                subst hwm
                have HF2 := HFr
                clear hal htk hk6 hA2 hlt hk Hbk HFr d2 hlt'
                go_wp2_with fail
                go_loopw [4, 10] (fun sv iv wr => ∃ k : Nat, k ≤ x.bibs.length ∧ iv = .int .i64 (k : Int) ∧ sv = .string ⟨(A2 ++ ((x.bibs.take k).map Sd.encB).flatten).toArray⟩ ∧ (A2 ++ ((x.bibs.take k).map Sd.encB).flatten).length ≤ 18000000000 + k * 6000 ∧ Below wm2.heap.size wm2 wr) (fun _ iv _ => x.bibs.length - (intOf iv).toNat)
                case atStart => exact ⟨0, Nat.zero_le _, rfl, by simp, by simp only [List.take_zero, List.map_nil, List.flatten_nil, List.append_nil]; omega, Below.refl _ _⟩
                case round =>
                  obtain ⟨k, hk, rfl, rfl, hal, hb⟩ := hrel
                  have Hbk := Lib.hid hb; have HB3 := Lib.hid (HB2.out.trans (hb.mono HB2.out.size)); have HFr := Lib.hid (HF2.out.below hb)
                  clear hb
                  have d3 := HFr.out.2 3 _ rfl
                  by_cases hlt : k < x.bibs.length
                  · obtain ⟨y, hy⟩ : ∃ y, x.bibs[k]? = some y := ⟨_, List.getElem?_eq_getElem hlt⟩
                    obtain ⟨b, off, vs, rfl, _, hbw, hR, hcc⟩ := Hbat.out k y hy
                    have hR : vs = _ := hR
                    subst hR
                    have hfs := flat_snoc Sd.encB x.bibs k y hy
                    obtain ⟨acc, hacc⟩ : ∃ acc, A2 ++ ((x.bibs.take k).map Sd.encB).flatten = acc := ⟨_, rfl⟩
                    have hfs2 : A2 ++ ((x.bibs.take (k + 1)).map Sd.encB).flatten = acc ++ Sd.encB y := by rw [hfs, ← hacc]; simp
                    rw [hacc] at hal ⊢
                    have Hfs := Lib.hid hfs2
                    have hlt' : (k : Int) < (x.bibs.length : Int) := by omega
                    have hkl : (k : Int) + 1 ≤ 9223372036854775807 := by omega
                    have Hkl := Lib.hid hkl; have Hlt := Lib.hid hlt; have Hal := Lib.hid hal
                    have hk6 : k * 6000 ≤ 1000000 * 6000 := Nat.mul_le_mul_right _ (by omega)
                    have hps := Sd.citeL Sd.bibW y (by decide) (Hss.out.bib y (List.mem_of_getElem? hy))
                    have hrl := rec_len _ (by simp) hps
                    obtain ⟨rc, hrc⟩ : ∃ rc, Sd.record [Sd.bibW, y] = rc := ⟨_, rfl⟩
                    have hrc2 : Sd.encB y = rc := hrc
                    rw [hrc] at hrl
                    have hadd : ¬ 9223372036854775807 < acc.length + rc.length := by omega
                    have Hrc := Lib.hid hrc; have Hrc2 := Lib.hid hrc2; have Hps := Lib.hid hps; have Hrl := Lib.hid hrl; have Hadd := Lib.hid hadd
                    have a0 : wr.cell? ⟨b, off + k, none⟩ = some (.string ⟨y.toArray⟩) := by
                      have := (HB3.out.cell (p := ⟨b, off + (k * 1 + 0), none⟩) hbw).trans (hcc 0 _ rfl)
                      rwa [Nat.mul_one, Nat.add_zero] at this
                    clear hcc hy hfs hacc hfs2 hk6 hal hps hrl hrc hrc2 hkl hk hlt
                    go_upto_region 20 with (go_at_call 25; refine (ref10_record [Sd.bibW, y] _ _ _ (strs2 wr Sd.bibW y) (by simp) Hps.out).mono ?_; rw [Hrc.out]; rintro e w9 ⟨rfl, hb9⟩; have HB9 := Lib.hid (Hbk.out.trans (((below_new wr _).trans (hb9.mono (Nat.le_of_lt (lt_alloc wr _)))).mono Hbk.out.size)); clear hb9)
                    clear a0 hlt' hadd d3
                    have hkl := Hkl.out
                    go_wp2_with fail
                    go_roundw
                    case rel => exact ⟨k + 1, by have := Hlt.out; omega, by go_num, by rw [Hfs.out, Hrc2.out]; exact congrArg Value.string (append_data _ _), by rw [Hfs.out, Hrc2.out, List.length_append]; have := Hal.out; have := Hrl.out; omega, HB9.out⟩
                    case measure => have := Hlt.out; simp [intOf]; omega
                  · have hlt' : ¬ (k : Int) < (x.bibs.length : Int) := by omega
                    have htk : x.bibs.take k = x.bibs := List.take_of_length_le (by omega)
                    rw [htk] at hal ⊢
                    have hk6 : k * 6000 ≤ 1000000 * 6000 := Nat.mul_le_mul_right _ (by omega)
                    go_wp2_with fail
                    go_ret2
                    rw [Henc.out]
                    refine ⟨?_, HB3.out⟩
                    have h : Sd.encN x = A2 ++ (x.bibs.map Sd.encB).flatten := by unfold Sd.encN; rw [HA0.out, HA1.out, HA2.out]
                    simp only [if_true]
                    rw [h]
                    rfl
/-- a side under way: a block of the call's own, whose four slices are the call's own too, from B on -/
structure SXr (g B : Nat) (W : World) (x : Sd.Side) (vl vh vc vb : Value) : Prop where
  c0 : W.cell? ⟨g, 0, none⟩ = some vl
  f0 : W.frozen? ⟨g, 0, none⟩ = false
  c1 : W.cell? ⟨g, 1, none⟩ = some vh
  f1 : W.frozen? ⟨g, 1, none⟩ = false
  c2 : W.cell? ⟨g, 2, none⟩ = some vc
  f2 : W.frozen? ⟨g, 2, none⟩ = false
  c3 : W.cell? ⟨g, 3, none⟩ = some vb
  f3 : W.frozen? ⟨g, 3, none⟩ = false
  lt : g < B
  sz : B ≤ W.heap.size
  l : OwnL B 45 3 RLab W vl x.labs
  h : OwnL B 65 4 RHd W vh x.heads
  c : OwnL B 9 1 RStr W vc x.cites
  b : OwnL B 9 1 RStr W vb x.bibs
  d01 : Dis vl vh
  d02 : Dis vl vc
  d03 : Dis vl vb
  d12 : Dis vh vc
  d13 : Dis vh vb
  d23 : Dis vc vb
theorem SXr.below {g B : Nat} {W W' : World} {x : Sd.Side} {vl vh vc vb : Value} (h : SXr g B W x vl vh vc vb) (hb : Below W.heap.size W W') : SXr g B W' x vl vh vc vb := by
  have hg : g < W.heap.size := Nat.lt_of_lt_of_le h.lt h.sz
  exact ⟨(hb.cell (p := ⟨g, 0, none⟩) hg).trans h.c0, (frozen_below hb hg).trans h.f0, (hb.cell (p := ⟨g, 1, none⟩) hg).trans h.c1, (frozen_below hb hg).trans h.f1, (hb.cell (p := ⟨g, 2, none⟩) hg).trans h.c2, (frozen_below hb hg).trans h.f2, (hb.cell (p := ⟨g, 3, none⟩) hg).trans h.c3, (frozen_below hb hg).trans h.f3,
    h.lt, Nat.le_trans h.sz hb.size, h.l.below hb, h.h.below hb, h.c.below hb, h.b.below hb, h.d01, h.d02, h.d03, h.d12, h.d13, h.d23⟩
theorem SXr.drew {g B : Nat} {W : World} {x : Sd.Side} {vl vh vc vb : Value} (h : SXr g B W x vl vh vc vb) : SXr g B W.drew x vl vh vc vb := h.below ((Below.refl _ _).drew)
theorem SXr.put0 {g B : Nat} {W w2 : World} {x : Sd.Side} {vl vh vc vb v2 : Value} {fl vs : List Value} {y : Sd.Lab} (h : SXr g B W x vl vh vc vb) (hrep : RepRow RLab x.labs fl) (hy : RLab y vs) (own2 : w2.ownsRow B 45 3 v2 (x.labs.length + 1) (fl ++ vs)) (hg : W.grownBy w2 vl.ownBlock)
    (at2 : v2.ownBlock = vl.ownBlock ∨ ∃ j, v2.ownBlock = some j ∧ W.heap.size ≤ j) : SXr g B (w2.setCell ⟨g, 0, none⟩ v2) { x with labs := x.labs ++ [y] } v2 vh vc vb ∧ Kept g B W (w2.setCell ⟨g, 0, none⟩ v2) := by
  have hgW : g < W.heap.size := Nat.lt_of_lt_of_le h.lt h.sz
  have hne : vl.ownBlock ≠ some g := fun e => by have := (h.l.ge g e).1; have := h.lt; omega
  have q0 := (grown_cell hg hgW hne 0).trans h.c0
  have r0 := (grown_frozen hg hgW hne 0).trans h.f0
  have q1 := (grown_cell hg hgW hne 1).trans h.c1
  have r1 := (grown_frozen hg hgW hne 1).trans h.f1
  have q2 := (grown_cell hg hgW hne 2).trans h.c2
  have r2 := (grown_frozen hg hgW hne 2).trans h.f2
  have q3 := (grown_cell hg hgW hne 3).trans h.c3
  have r3 := (grown_frozen hg hgW hne 3).trans h.f3
  have hz2 : B ≤ w2.heap.size := Nat.le_trans h.sz hg.size
  have hset : w2.grownBy (w2.setCell ⟨g, 0, none⟩ v2) (some g) := grown_set w2 g 0 v2
  have hlt := h.lt
  have o1 : OwnL B 65 4 RHd (w2.setCell ⟨g, 0, none⟩ v2) vh x.heads := (h.h.grown hg (fun k hk e => h.d01.symm k hk e)).grown hset (fun k hk e => by have := (h.h.ge k hk).1; have := Option.some.inj e; omega)
  have o2 : OwnL B 9 1 RStr (w2.setCell ⟨g, 0, none⟩ v2) vc x.cites := (h.c.grown hg (fun k hk e => h.d02.symm k hk e)).grown hset (fun k hk e => by have := (h.c.ge k hk).1; have := Option.some.inj e; omega)
  have o3 : OwnL B 9 1 RStr (w2.setCell ⟨g, 0, none⟩ v2) vb x.bibs := (h.b.grown hg (fun k hk e => h.d03.symm k hk e)).grown hset (fun k hk e => by have := (h.b.ge k hk).1; have := Option.some.inj e; omega)
  have o0 : OwnL B 45 3 RLab (w2.setCell ⟨g, 0, none⟩ v2) v2 (x.labs ++ [y]) := OwnL.grown (OwnL.more hrep hy own2) hset (fun k hk e => by have := (own2.lt k hk).1; have := Option.some.inj e; omega)
  have x1 : Dis v2 vh := own_one at2 (fun k hk => (h.h.ge k hk).2) h.d01
  have x2 : Dis v2 vc := own_one at2 (fun k hk => (h.c.ge k hk).2) h.d02
  have x3 : Dis v2 vb := own_one at2 (fun k hk => (h.b.ge k hk).2) h.d03
  refine ⟨⟨World.cell?_setCell_same _ _ _ q0, (World.frozen?_setCell _ _ _ _).trans r0, (World.cell?_setCell_other _ _ _ _ (fun e => by injection e with _ e; omega)).trans q1, (World.frozen?_setCell _ _ _ _).trans r1, (World.cell?_setCell_other _ _ _ _ (fun e => by injection e with _ e; omega)).trans q2, (World.frozen?_setCell _ _ _ _).trans r2, (World.cell?_setCell_other _ _ _ _ (fun e => by injection e with _ e; omega)).trans q3, (World.frozen?_setCell _ _ _ _).trans r3, h.lt, by simpa [World.setCell] using hz2, o0, o1, o2, o3, x1, x2, x3, h.d12, h.d13, h.d23⟩, ?_⟩
  refine ⟨((Below.refl g W).grown hg (Nat.le_of_lt hgW) (fun k hk => by have := (h.l.ge k hk).1; omega)).setCell (p := ⟨g, 0, none⟩) (Nat.le_refl _) v2, fun k hk hkg => ?_⟩
  rw [Below.heap_setCell _ _ _ _ hkg]
  exact hg.block k (Nat.lt_of_lt_of_le hk h.sz) (fun e => by have := (h.l.ge k e.symm).1; omega)
theorem SXr.put1 {g B : Nat} {W w2 : World} {x : Sd.Side} {vl vh vc vb v2 : Value} {fl vs : List Value} {y : Sd.Hd} (h : SXr g B W x vl vh vc vb) (hrep : RepRow RHd x.heads fl) (hy : RHd y vs) (own2 : w2.ownsRow B 65 4 v2 (x.heads.length + 1) (fl ++ vs)) (hg : W.grownBy w2 vh.ownBlock)
    (at2 : v2.ownBlock = vh.ownBlock ∨ ∃ j, v2.ownBlock = some j ∧ W.heap.size ≤ j) : SXr g B (w2.setCell ⟨g, 1, none⟩ v2) { x with heads := x.heads ++ [y] } vl v2 vc vb ∧ Kept g B W (w2.setCell ⟨g, 1, none⟩ v2) := by
  have hgW : g < W.heap.size := Nat.lt_of_lt_of_le h.lt h.sz
  have hne : vh.ownBlock ≠ some g := fun e => by have := (h.h.ge g e).1; have := h.lt; omega
  have q0 := (grown_cell hg hgW hne 0).trans h.c0
  have r0 := (grown_frozen hg hgW hne 0).trans h.f0
  have q1 := (grown_cell hg hgW hne 1).trans h.c1
  have r1 := (grown_frozen hg hgW hne 1).trans h.f1
  have q2 := (grown_cell hg hgW hne 2).trans h.c2
  have r2 := (grown_frozen hg hgW hne 2).trans h.f2
  have q3 := (grown_cell hg hgW hne 3).trans h.c3
  have r3 := (grown_frozen hg hgW hne 3).trans h.f3
  have hz2 : B ≤ w2.heap.size := Nat.le_trans h.sz hg.size
  have hset : w2.grownBy (w2.setCell ⟨g, 1, none⟩ v2) (some g) := grown_set w2 g 1 v2
  have hlt := h.lt
  have o0 : OwnL B 45 3 RLab (w2.setCell ⟨g, 1, none⟩ v2) vl x.labs := (h.l.grown hg (fun k hk e => h.d01 k hk e)).grown hset (fun k hk e => by have := (h.l.ge k hk).1; have := Option.some.inj e; omega)
  have o2 : OwnL B 9 1 RStr (w2.setCell ⟨g, 1, none⟩ v2) vc x.cites := (h.c.grown hg (fun k hk e => h.d12.symm k hk e)).grown hset (fun k hk e => by have := (h.c.ge k hk).1; have := Option.some.inj e; omega)
  have o3 : OwnL B 9 1 RStr (w2.setCell ⟨g, 1, none⟩ v2) vb x.bibs := (h.b.grown hg (fun k hk e => h.d13.symm k hk e)).grown hset (fun k hk e => by have := (h.b.ge k hk).1; have := Option.some.inj e; omega)
  have o1 : OwnL B 65 4 RHd (w2.setCell ⟨g, 1, none⟩ v2) v2 (x.heads ++ [y]) := OwnL.grown (OwnL.more hrep hy own2) hset (fun k hk e => by have := (own2.lt k hk).1; have := Option.some.inj e; omega)
  have x0 : Dis v2 vl := own_one at2 (fun k hk => (h.l.ge k hk).2) h.d01.symm
  have x2 : Dis v2 vc := own_one at2 (fun k hk => (h.c.ge k hk).2) h.d12
  have x3 : Dis v2 vb := own_one at2 (fun k hk => (h.b.ge k hk).2) h.d13
  refine ⟨⟨(World.cell?_setCell_other _ _ _ _ (fun e => by injection e with _ e; omega)).trans q0, (World.frozen?_setCell _ _ _ _).trans r0, World.cell?_setCell_same _ _ _ q1, (World.frozen?_setCell _ _ _ _).trans r1, (World.cell?_setCell_other _ _ _ _ (fun e => by injection e with _ e; omega)).trans q2, (World.frozen?_setCell _ _ _ _).trans r2, (World.cell?_setCell_other _ _ _ _ (fun e => by injection e with _ e; omega)).trans q3, (World.frozen?_setCell _ _ _ _).trans r3, h.lt, by simpa [World.setCell] using hz2, o0, o1, o2, o3, x0.symm, h.d02, h.d03, x2, x3, h.d23⟩, ?_⟩
  refine ⟨((Below.refl g W).grown hg (Nat.le_of_lt hgW) (fun k hk => by have := (h.h.ge k hk).1; omega)).setCell (p := ⟨g, 1, none⟩) (Nat.le_refl _) v2, fun k hk hkg => ?_⟩
  rw [Below.heap_setCell _ _ _ _ hkg]
  exact hg.block k (Nat.lt_of_lt_of_le hk h.sz) (fun e => by have := (h.h.ge k e.symm).1; omega)
theorem SXr.put2 {g B : Nat} {W w2 : World} {x : Sd.Side} {vl vh vc vb v2 : Value} {fl vs : List Value} {y : List UInt8} (h : SXr g B W x vl vh vc vb) (hrep : RepRow RStr x.cites fl) (hy : RStr y vs) (own2 : w2.ownsRow B 9 1 v2 (x.cites.length + 1) (fl ++ vs)) (hg : W.grownBy w2 vc.ownBlock)
    (at2 : v2.ownBlock = vc.ownBlock ∨ ∃ j, v2.ownBlock = some j ∧ W.heap.size ≤ j) : SXr g B (w2.setCell ⟨g, 2, none⟩ v2) { x with cites := x.cites ++ [y] } vl vh v2 vb ∧ Kept g B W (w2.setCell ⟨g, 2, none⟩ v2) := by
  have hgW : g < W.heap.size := Nat.lt_of_lt_of_le h.lt h.sz
  have hne : vc.ownBlock ≠ some g := fun e => by have := (h.c.ge g e).1; have := h.lt; omega
  have q0 := (grown_cell hg hgW hne 0).trans h.c0
  have r0 := (grown_frozen hg hgW hne 0).trans h.f0
  have q1 := (grown_cell hg hgW hne 1).trans h.c1
  have r1 := (grown_frozen hg hgW hne 1).trans h.f1
  have q2 := (grown_cell hg hgW hne 2).trans h.c2
  have r2 := (grown_frozen hg hgW hne 2).trans h.f2
  have q3 := (grown_cell hg hgW hne 3).trans h.c3
  have r3 := (grown_frozen hg hgW hne 3).trans h.f3
  have hz2 : B ≤ w2.heap.size := Nat.le_trans h.sz hg.size
  have hset : w2.grownBy (w2.setCell ⟨g, 2, none⟩ v2) (some g) := grown_set w2 g 2 v2
  have hlt := h.lt
  have o0 : OwnL B 45 3 RLab (w2.setCell ⟨g, 2, none⟩ v2) vl x.labs := (h.l.grown hg (fun k hk e => h.d02 k hk e)).grown hset (fun k hk e => by have := (h.l.ge k hk).1; have := Option.some.inj e; omega)
  have o1 : OwnL B 65 4 RHd (w2.setCell ⟨g, 2, none⟩ v2) vh x.heads := (h.h.grown hg (fun k hk e => h.d12 k hk e)).grown hset (fun k hk e => by have := (h.h.ge k hk).1; have := Option.some.inj e; omega)
  have o3 : OwnL B 9 1 RStr (w2.setCell ⟨g, 2, none⟩ v2) vb x.bibs := (h.b.grown hg (fun k hk e => h.d23.symm k hk e)).grown hset (fun k hk e => by have := (h.b.ge k hk).1; have := Option.some.inj e; omega)
  have o2 : OwnL B 9 1 RStr (w2.setCell ⟨g, 2, none⟩ v2) v2 (x.cites ++ [y]) := OwnL.grown (OwnL.more hrep hy own2) hset (fun k hk e => by have := (own2.lt k hk).1; have := Option.some.inj e; omega)
  have x0 : Dis v2 vl := own_one at2 (fun k hk => (h.l.ge k hk).2) h.d02.symm
  have x1 : Dis v2 vh := own_one at2 (fun k hk => (h.h.ge k hk).2) h.d12.symm
  have x3 : Dis v2 vb := own_one at2 (fun k hk => (h.b.ge k hk).2) h.d23
  refine ⟨⟨(World.cell?_setCell_other _ _ _ _ (fun e => by injection e with _ e; omega)).trans q0, (World.frozen?_setCell _ _ _ _).trans r0, (World.cell?_setCell_other _ _ _ _ (fun e => by injection e with _ e; omega)).trans q1, (World.frozen?_setCell _ _ _ _).trans r1, World.cell?_setCell_same _ _ _ q2, (World.frozen?_setCell _ _ _ _).trans r2, (World.cell?_setCell_other _ _ _ _ (fun e => by injection e with _ e; omega)).trans q3, (World.frozen?_setCell _ _ _ _).trans r3, h.lt, by simpa [World.setCell] using hz2, o0, o1, o2, o3, h.d01, x0.symm, h.d03, x1.symm, h.d13, x3⟩, ?_⟩
  refine ⟨((Below.refl g W).grown hg (Nat.le_of_lt hgW) (fun k hk => by have := (h.c.ge k hk).1; omega)).setCell (p := ⟨g, 2, none⟩) (Nat.le_refl _) v2, fun k hk hkg => ?_⟩
  rw [Below.heap_setCell _ _ _ _ hkg]
  exact hg.block k (Nat.lt_of_lt_of_le hk h.sz) (fun e => by have := (h.c.ge k e.symm).1; omega)
theorem SXr.put3 {g B : Nat} {W w2 : World} {x : Sd.Side} {vl vh vc vb v2 : Value} {fl vs : List Value} {y : List UInt8} (h : SXr g B W x vl vh vc vb) (hrep : RepRow RStr x.bibs fl) (hy : RStr y vs) (own2 : w2.ownsRow B 9 1 v2 (x.bibs.length + 1) (fl ++ vs)) (hg : W.grownBy w2 vb.ownBlock)
    (at2 : v2.ownBlock = vb.ownBlock ∨ ∃ j, v2.ownBlock = some j ∧ W.heap.size ≤ j) : SXr g B (w2.setCell ⟨g, 3, none⟩ v2) { x with bibs := x.bibs ++ [y] } vl vh vc v2 ∧ Kept g B W (w2.setCell ⟨g, 3, none⟩ v2) := by
  have hgW : g < W.heap.size := Nat.lt_of_lt_of_le h.lt h.sz
  have hne : vb.ownBlock ≠ some g := fun e => by have := (h.b.ge g e).1; have := h.lt; omega
  have q0 := (grown_cell hg hgW hne 0).trans h.c0
  have r0 := (grown_frozen hg hgW hne 0).trans h.f0
  have q1 := (grown_cell hg hgW hne 1).trans h.c1
  have r1 := (grown_frozen hg hgW hne 1).trans h.f1
  have q2 := (grown_cell hg hgW hne 2).trans h.c2
  have r2 := (grown_frozen hg hgW hne 2).trans h.f2
  have q3 := (grown_cell hg hgW hne 3).trans h.c3
  have r3 := (grown_frozen hg hgW hne 3).trans h.f3
  have hz2 : B ≤ w2.heap.size := Nat.le_trans h.sz hg.size
  have hset : w2.grownBy (w2.setCell ⟨g, 3, none⟩ v2) (some g) := grown_set w2 g 3 v2
  have hlt := h.lt
  have o0 : OwnL B 45 3 RLab (w2.setCell ⟨g, 3, none⟩ v2) vl x.labs := (h.l.grown hg (fun k hk e => h.d03 k hk e)).grown hset (fun k hk e => by have := (h.l.ge k hk).1; have := Option.some.inj e; omega)
  have o1 : OwnL B 65 4 RHd (w2.setCell ⟨g, 3, none⟩ v2) vh x.heads := (h.h.grown hg (fun k hk e => h.d13 k hk e)).grown hset (fun k hk e => by have := (h.h.ge k hk).1; have := Option.some.inj e; omega)
  have o2 : OwnL B 9 1 RStr (w2.setCell ⟨g, 3, none⟩ v2) vc x.cites := (h.c.grown hg (fun k hk e => h.d23 k hk e)).grown hset (fun k hk e => by have := (h.c.ge k hk).1; have := Option.some.inj e; omega)
  have o3 : OwnL B 9 1 RStr (w2.setCell ⟨g, 3, none⟩ v2) v2 (x.bibs ++ [y]) := OwnL.grown (OwnL.more hrep hy own2) hset (fun k hk e => by have := (own2.lt k hk).1; have := Option.some.inj e; omega)
  have x0 : Dis v2 vl := own_one at2 (fun k hk => (h.l.ge k hk).2) h.d03.symm
  have x1 : Dis v2 vh := own_one at2 (fun k hk => (h.h.ge k hk).2) h.d13.symm
  have x2 : Dis v2 vc := own_one at2 (fun k hk => (h.c.ge k hk).2) h.d23.symm
  refine ⟨⟨(World.cell?_setCell_other _ _ _ _ (fun e => by injection e with _ e; omega)).trans q0, (World.frozen?_setCell _ _ _ _).trans r0, (World.cell?_setCell_other _ _ _ _ (fun e => by injection e with _ e; omega)).trans q1, (World.frozen?_setCell _ _ _ _).trans r1, (World.cell?_setCell_other _ _ _ _ (fun e => by injection e with _ e; omega)).trans q2, (World.frozen?_setCell _ _ _ _).trans r2, World.cell?_setCell_same _ _ _ q3, (World.frozen?_setCell _ _ _ _).trans r3, h.lt, by simpa [World.setCell] using hz2, o0, o1, o2, o3, h.d01, h.d02, x0.symm, h.d12, x1.symm, x2.symm⟩, ?_⟩
  refine ⟨((Below.refl g W).grown hg (Nat.le_of_lt hgW) (fun k hk => by have := (h.b.ge k hk).1; omega)).setCell (p := ⟨g, 3, none⟩) (Nat.le_refl _) v2, fun k hk hkg => ?_⟩
  rw [Below.heap_setCell _ _ _ _ hkg]
  exact hg.block k (Nat.lt_of_lt_of_le hk h.sz) (fun e => by have := (h.b.ge k e.symm).1; omega)
theorem load_sideR (g : Nat) (a b c d : Value) (w : World) (h0 : w.cell? ⟨g, 0, none⟩ = some a) (h1 : w.cell? ⟨g, 1, none⟩ = some b) (h2 : w.cell? ⟨g, 2, none⟩ = some c) (h3 : w.cell? ⟨g, 3, none⟩ = some d) :
    (loadVar 35 ⟨g, 0, none⟩).run Tryz.prog w = .ok (.agg #[a, b, c, d]) w := by
  go_simp
theorem fold_snoc (ts : List (List UInt8)) (k : Nat) (t : List UInt8) (h : ts[k]? = some t) : (ts.take (k + 1)).foldl Sd.stepR Sd.none_ = Sd.stepR ((ts.take k).foldl Sd.stepR Sd.none_) t := by
  rw [List.take_add_one, h]; simp
theorem Grow.up {n N : Nat} {x : Sd.Side} (h : Grow n N x) : Grow (n + 1) N x := ⟨Nat.le_succ_of_le h.labs, Nat.le_succ_of_le h.heads, Nat.le_succ_of_le h.cites, Nat.le_succ_of_le h.bibs, h.lab, h.head, h.cite, h.bib⟩
set_option maxRecDepth 100000 in
set_option maxHeartbeats 6400000 in
theorem ref10_decode (s : List UInt8) (w : World) (hs : s.length ≤ 1000000) :
    Calls Tryz.prog 14 #[.string ⟨s.toArray⟩] w (DecPost s w) := by
  obtain ⟨ts, hts0⟩ : ∃ ts, (Sd.all s).getD [] = ts := ⟨_, rfl⟩
  have hdec : Sd.dec s = if Sd.right (ts.foldl Sd.stepR Sd.none_) && Sd.encN (ts.foldl Sd.stepR Sd.none_) == s then some (ts.foldl Sd.stepR Sd.none_) else none := by
    rw [← Sd.decR_eq, ← hts0]; rfl
  have Hdec := Lib.hid hdec; have Hts0 := Lib.hid hts0; have Hs := Lib.hid hs
  clear hdec hts0 hs
  obtain ⟨il, hil, hl0, hl1, hl2⟩ := info_parts rlab_info
  have Hil := Lib.hid hil; have Hl0 := Lib.hid hl0; have Hl1 := Lib.hid hl1; have Hl2 := Lib.hid hl2; clear hil hl0 hl1 hl2
  obtain ⟨ih, hih, hh0, hh1, hh2⟩ := info_parts rhd_info
  have Hih := Lib.hid hih; have Hh0 := Lib.hid hh0; have Hh1 := Lib.hid hh1; have Hh2 := Lib.hid hh2; clear hih hh0 hh1 hh2
  obtain ⟨is, his, hs0, hs1, hs2⟩ := info_parts str_info
  have His := Lib.hid his; have Hs0 := Lib.hid hs0; have Hs1 := Lib.hid hs1; have Hs2 := Lib.hid hs2; clear his hs0 hs1 hs2
  go_enter Tryz.func14, Tryz.ntmps14
  go_upto_region 1 with fail
  obtain ⟨W1, hW1⟩ : ∃ W1, W1 = w.alloc (.cells #[.slice none 0 0, .slice none 0 0, .slice none 0 0, .slice none 0 0] 35) := ⟨_, rfl⟩
  obtain ⟨g0, hg0⟩ : ∃ g, g = w.heap.size := ⟨_, rfl⟩
  rw [← hW1, ← hg0]
  have HF0 := Lib.hid (show Four g0 W1 #[.slice none 0 0, .slice none 0 0, .slice none 0 0, .slice none 0 0] by rw [hW1, hg0]; exact Four.made _ _ _)
  have HZ0 := Lib.hid (show ∀ i : Nat, W1.frozen? ⟨g0, i, none⟩ = false by intro i; rw [hW1, hg0]; simp)
  have HB1 := Lib.hid (show Below w.heap.size w W1 by rw [hW1]; exact below_new w _)
  have HG0 := Lib.hid hg0
  clear hW1 hg0
  go_upto_region 2 with (go_at_call 29; refine (ref03_all s _ Hs.out).mono ?_; rintro e w2 ⟨hb, vt, er, hT, htm, htl, rfl⟩; rw [Hts0.out] at hT htm htl; have HB2 := Lib.hid hb; have HT := Lib.hid hT; have Htm := Lib.hid htm; have Htl := Lib.hid htl; clear hb hT htm htl)
  have hTl : ∀ j, vt.ownBlock = some j → j < w2.heap.size := fun j hj => (HT.out.ge j hj).2
  have hTs := HT.out.slice RStr.size (fun j => True) (fun _ _ => trivial)
  obtain ⟨pt, ct, rfl⟩ := HT.out.form
  have HTs := Lib.hid hTs; have HTl := Lib.hid hTl
  clear hTs hTl HT
  go_upto_region 3 with fail
  obtain ⟨W3, hW3⟩ : ∃ W3, W3 = w2.alloc (.cells #[.slice none 0 0, .slice none 0 0, .slice none 0 0, .slice none 0 0] 35) := ⟨_, rfl⟩
  obtain ⟨g, hg⟩ : ∃ g, g = w2.heap.size := ⟨_, rfl⟩
  rw [← hW3, ← hg]
  have hb23 : Below w2.heap.size w2 W3 := by rw [hW3]; exact below_new w2 _
  have hF3 : Four g W3 #[.slice none 0 0, .slice none 0 0, .slice none 0 0, .slice none 0 0] := by rw [hW3, hg]; exact Four.made _ _ _
  have hZ3 : ∀ i : Nat, W3.frozen? ⟨g, i, none⟩ = false := by intro i; rw [hW3, hg]; simp
  have hSX : SXr g W3.heap.size W3 Sd.none_ (.slice none 0 0) (.slice none 0 0) (.slice none 0 0) (.slice none 0 0) := by
    have hd : Dis (.slice none 0 0) (.slice none 0 0) := fun j hj => by cases hj
    exact ⟨hF3.2 0 _ rfl, hZ3 0, hF3.2 1 _ rfl, hZ3 1, hF3.2 2 _ rfl, hZ3 2, hF3.2 3 _ rfl, hZ3 3, hF3.1, Nat.le_refl _, OwnL.nil _ _ _ _ _, OwnL.nil _ _ _ _ _, OwnL.nil _ _ _ _ _, OwnL.nil _ _ _ _ _, hd, hd, hd, hd, hd, hd⟩
  have HSX0 := Lib.hid hSX
  have HTs3 := Lib.hid (HTs.out.below' hb23)
  have HTg := Lib.hid (show ∀ j, (Value.slice pt ts.length ct).ownBlock = some j → j < g by rw [hg]; exact HTl.out)
  have Hg1 := Lib.hid (show W1.heap.size ≤ g by rw [hg]; exact HB2.out.size)
  have HB13 := Lib.hid (show Below W1.heap.size W1 W3 from HB2.out.trans (hb23.mono HB2.out.size))
  have Hgw := Lib.hid hF3.1
  clear hW3 hg hb23 hF3 hZ3 hSX HTs HTl
  go_wp2_with fail
  go_loopw [7] (fun iv wr => ∃ (k : Nat) (x : Sd.Side) (vl vh vc vb : Value), k ≤ ts.length ∧ iv = .int .i64 (k : Int) ∧ x = (ts.take k).foldl Sd.stepR Sd.none_ ∧ SXr g W3.heap.size wr x vl vh vc vb ∧ Kept g W3.heap.size W3 wr ∧ Grow k s.length x) (fun iv _ => ts.length - (intOf iv).toNat)
  case atStart => exact ⟨0, Sd.none_, _, _, _, _, Nat.zero_le _, rfl, rfl, HSX0.out, ⟨Below.refl _ _, fun _ _ _ => rfl⟩, ⟨by simp [Sd.none_], by simp [Sd.none_], by simp [Sd.none_], by simp [Sd.none_], by simp [Sd.none_], by simp [Sd.none_], by simp [Sd.none_], by simp [Sd.none_]⟩⟩
  case round =>
    clear HSX0
    obtain ⟨k, x, vl, vh, vc, vb, hk, rfl, hx, hSX, hKp, hGr⟩ := hrel
    have Hx := Lib.hid hx; have HSX := Lib.hid hSX; have HKp := Lib.hid hKp; have HGr := Lib.hid hGr
    have HB := Lib.hid (HB13.out.trans (hKp.1.mono Hg1.out))
    clear hx hSX hKp hGr
    by_cases hlt : k < ts.length
    · obtain ⟨t, ht⟩ : ∃ t, ts[k]? = some t := ⟨_, List.getElem?_eq_getElem hlt⟩
      obtain ⟨p', cap', hv', _, _, hat⟩ := HTs3.out
      obtain ⟨b, off, vs, hpb, _, hbw, hR, hcc⟩ := hat k t ht
      have hR : vs = _ := hR
      subst hR
      injection hv' with hv' _ hcap'
      subst hv'
      subst hcap'
      subst hpb
      have hbg : b < g := HTg.out b rfl
      have a0 : wr.cell? ⟨b, off + k, none⟩ = some (.string ⟨t.toArray⟩) := by
        have := (HKp.out.1.cell (p := ⟨b, off + (k * 1 + 0), none⟩) hbg).trans (hcc 0 _ rfl)
        rwa [Nat.mul_one, Nat.add_zero] at this
      have hlt' : (k : Int) < (ts.length : Int) := by omega
      obtain ⟨k1, hk1⟩ : ∃ k1, k1 = k + 1 := ⟨_, rfl⟩
      have hwk : IntKind.i64.wrap ((k : Int) + 1) = (k1 : Int) := by have := Htl.out; have := Hs.out; rw [IntWalk.i64_in _ (by omega)]; omega
      have Hfs := Lib.hid (fold_snoc ts k t ht)
      have htsz := Htm.out t (List.mem_of_getElem? ht)
      have Htsz := Lib.hid htsz; have Hlt := Lib.hid hlt; have Hk1 := Lib.hid hk1; have Hwk := Lib.hid hwk
      have Ht6 := Lib.hid (show t.length ≤ 1000000 by have := Hs.out; omega)
      clear hat hcc ht htsz hbw hk1 hwk hlt hk
      obtain ⟨ps, hps⟩ : ∃ ps, (Sd.all t).getD [] = ps := ⟨_, rfl⟩
      have Hsr := Lib.hid (show Sd.stepR x t = Sd.stepP x ps by unfold Sd.stepR; rw [hps])
      have Hps0 := Lib.hid hps
      clear hps
      go_upto_region 7 with (go_at_call 29; refine (ref03_all t _ Ht6.out).mono ?_; rintro e w6 ⟨hb, vp, er, hP, hpm, hpl, rfl⟩; rw [Hps0.out] at hP hpm hpl; have Hb6 := Lib.hid hb; have HP := Lib.hid hP; have Hpm := Lib.hid hpm; have Hpl := Lib.hid hpl; clear hb hP hpm hpl)
      have HPs := Lib.hid (HP.out.slice RStr.size (fun j => True) (fun _ _ => trivial))
      obtain ⟨pp, cp, rfl⟩ := HP.out.form
      have Hpm6 := Lib.hid (show ∀ u ∈ ps, u.length ≤ 1000000 from fun u hu => Nat.le_trans (Hpm.out u hu) Ht6.out)
      have Hpt := Lib.hid (fun i => Nat.le_trans (part_len ps i _ Hpm.out) Htsz.out)
      have HKp6 := Lib.hid (HKp.out.trans (Kept.below Hb6.out (Nat.le_of_lt Hgw.out) HSX.out.sz))
      have HSX6 := Lib.hid (HSX.out.below Hb6.out)
      obtain ⟨p0, hp0⟩ : ∃ p0, Sd.part ps 0 = p0 := ⟨_, rfl⟩
      have Hp0 := Lib.hid hp0
      clear hp0 a0 hlt' HP
      go_upto_region 8 with (go_at_call 30; refine (ref10_part ps _ 0 _ _ HPs.out).mono ?_; rw [Hp0.out]; rintro e w7 ⟨rfl, rfl⟩)
      have hst : Sd.stepP x ps = if p0 = Sd.labW then { x with labs := x.labs ++ [⟨Sd.part ps 1, Sd.part ps 2, Sd.numAt ps 3⟩] } else if p0 = Sd.headW then { x with heads := x.heads ++ [⟨Sd.numAt ps 1, Sd.part ps 2, Sd.part ps 3, Sd.numAt ps 4⟩] } else if p0 = Sd.citeW then { x with cites := x.cites ++ [Sd.part ps 1] } else if p0 = Sd.bibW then { x with bibs := x.bibs ++ [Sd.part ps 1] } else x := by
        unfold Sd.stepP; rw [Hp0.out]
      have Hst := Lib.hid hst
      clear hst
      by_cases hw0 : p0 = Sd.labW
      · obtain ⟨a, ha⟩ : ∃ a, Sd.part ps 1 = a := ⟨_, rfl⟩
        have Ha := Lib.hid ha
        obtain ⟨c, hc⟩ : ∃ c, Sd.part ps 2 = c := ⟨_, rfl⟩
        have Hc := Lib.hid hc
        obtain ⟨d, hd⟩ : ∃ d, Sd.numAt ps 3 = d := ⟨_, rfl⟩
        have Hd := Lib.hid hd
        have Hstx := Lib.hid (show Sd.stepP x ps = { x with labs := x.labs ++ [⟨a, c, d⟩] } by rw [Hst.out, if_pos hw0]; simp only [Ha.out, Hc.out, Hd.out])
        have Hna := Lib.hid (show a.length ≤ s.length by rw [← Ha.out]; exact Hpt.out 1)
        have Hnc := Lib.hid (show c.length ≤ s.length by rw [← Hc.out]; exact Hpt.out 2)
        clear ha hc hd
        obtain ⟨pv, capv, hfv⟩ := HSX6.out.l.form
        subst hfv
        have hgl := HGr.out.labs
        have Hxl := Lib.hid (show x.labs.length ≤ 1000000 by have := Htl.out; have := Hs.out; have := Hlt.out; omega)
        clear hgl
        have Hhw := Lib.hid hw0
        have g0' : p0 = [108, 97, 98, 101, 108] := hw0
        go_upto_region 9 with fail
        clear g0'
        clear hw0
        refine wp_region_any (by kernel_rfl) ?_
        change wpAny _ _ _ _ _ _ _ (World.drew _)
        have hB : Below w6.heap.size w6 w6.drew := (Below.refl _ _).drew
        have hcg : w6.drew.cell? ⟨g, 0, none⟩ = some (.slice pv x.labs.length capv) := HSX6.out.c0
        have hgw6 : g < w6.heap.size := Nat.lt_of_lt_of_le HSX6.out.lt HSX6.out.sz
        have hTr : True := trivial
        generalize w6.drew = w8 at hB hcg ⊢
        refine wpAny_of_held (S := fun W => True) _ _ _ _ ?_
        refine wpAnyH_take (i := 0) (v := .pointer (some ⟨g, 0, none⟩)) rfl (by kernel_rfl) (by kernel_rfl) (by kernel_rfl) (fun _ _ _ h => h) (Or.inl ⟨by kernel_rfl, fun W hW => by go_simp⟩) (by assumption) ?_
        try simp only [Act.put, List.getElem_toArray, List.getElem_cons_zero, List.getElem_cons_succ, List.setIfInBounds_toArray, List.set_cons_zero, List.set_cons_succ]
        refine wpAnyH_take (i := 2) (v := .slice pp ps.length cp) rfl (by kernel_rfl) (by kernel_rfl) (by kernel_rfl) (fun _ _ _ h => h) (Or.inl ⟨by kernel_rfl, fun W hW => by kernel_rfl⟩) (by assumption) ?_
        try simp only [Act.put, List.getElem_toArray, List.getElem_cons_zero, List.getElem_cons_succ, List.setIfInBounds_toArray, List.set_cons_zero, List.set_cons_succ]
        refine wpAnyH_take (i := 4) (v := .slice pp ps.length cp) rfl (by kernel_rfl) (by kernel_rfl) (by kernel_rfl) (fun _ _ _ h => h) (Or.inl ⟨by kernel_rfl, fun W hW => by kernel_rfl⟩) (by assumption) ?_
        try simp only [Act.put, List.getElem_toArray, List.getElem_cons_zero, List.getElem_cons_succ, List.setIfInBounds_toArray, List.set_cons_zero, List.set_cons_succ]
        refine wpAnyH_take (i := 6) (v := .slice pp ps.length cp) rfl (by kernel_rfl) (by kernel_rfl) (by kernel_rfl) (fun _ _ _ h => h) (Or.inl ⟨by kernel_rfl, fun W hW => by kernel_rfl⟩) (by assumption) ?_
        try simp only [Act.put, List.getElem_toArray, List.getElem_cons_zero, List.getElem_cons_succ, List.setIfInBounds_toArray, List.set_cons_zero, List.set_cons_succ]
        refine wpAnyH_ready (rs := [1, 3]) (by kernel_rfl) (by simp) ?_
        refine AllReadyH.cons rfl (fun K hK => ?_) (AllReadyH.cons rfl (fun K hK => ?_) AllReadyH.nil)
        · go_simp
          refine hK.out _ _ hTr (fun _ => ?_)
          clear K hK
          try simp only [Act.put, List.getElem_toArray, List.getElem_cons_zero, List.getElem_cons_succ, List.setIfInBounds_toArray, List.set_cons_zero, List.set_cons_succ]
          refine wpAnyH_ready (rs := [3]) (by kernel_rfl) (by simp) ?_
          refine AllReadyH.cons rfl (fun K hK => ?_) AllReadyH.nil
          go_simp
          go_wp2_with (go_at_call 30; refine (ref10_part ps _ 1 _ _ (HPs.out.below' hB)).mono ?_; rw [Ha.out]; rintro e9 w9 ⟨rfl, rfl⟩)
          refine hK.out _ _ hTr (fun _ => ?_)
          clear K hK
          try simp only [Act.put, List.getElem_toArray, List.getElem_cons_zero, List.getElem_cons_succ, List.setIfInBounds_toArray, List.set_cons_zero, List.set_cons_succ]
          refine wpAnyH_ready (rs := [5]) (by kernel_rfl) (by simp) ?_
          refine AllReadyH.cons rfl (fun K hK => ?_) AllReadyH.nil
          go_simp
          go_wp2_with (go_at_call 30; refine (ref10_part ps _ 2 _ _ (HPs.out.below' hB)).mono ?_; rw [Hc.out]; rintro e9 w9 ⟨rfl, rfl⟩)
          refine hK.out _ _ hTr (fun _ => ?_)
          clear K hK
          try simp only [Act.put, List.getElem_toArray, List.getElem_cons_zero, List.getElem_cons_succ, List.setIfInBounds_toArray, List.set_cons_zero, List.set_cons_succ]
          refine wpAnyH_ready (rs := [7]) (by kernel_rfl) (by simp) ?_
          refine AllReadyH.cons rfl (fun K hK => ?_) AllReadyH.nil
          go_simp
          go_wp2_with (go_at_call 31; refine (ref10_number ps _ 3 _ _ (HPs.out.below' hB) Hpm6.out).mono ?_; rw [Hd.out]; rintro e9 w9 ⟨rfl, hb9⟩; replace hcg := (hb9.cell (p := ⟨g, 0, none⟩) (Nat.lt_of_lt_of_le hgw6 hB.size)).trans hcg; replace hB := hB.trans (hb9.mono hB.size); clear hb9)
          refine hK.out _ _ hTr (fun _ => ?_)
          clear K hK
          try simp only [Act.put, List.getElem_toArray, List.getElem_cons_zero, List.getElem_cons_succ, List.setIfInBounds_toArray, List.set_cons_zero, List.set_cons_succ]
          refine wpAnyH_take (i := 8) (v := .agg #[.string ⟨a.toArray⟩, .string ⟨c.toArray⟩, .int .i64 d]) rfl (by kernel_rfl) (by kernel_rfl) (by kernel_rfl) (fun _ _ _ h => h) (Or.inl ⟨by kernel_rfl, fun W hW => by kernel_rfl⟩) (by assumption) ?_
          try simp only [Act.put, List.getElem_toArray, List.getElem_cons_zero, List.getElem_cons_succ, List.setIfInBounds_toArray, List.set_cons_zero, List.set_cons_succ]
          refine wpAnyH_ready (rs := [9]) (by kernel_rfl) (by simp) ?_
          refine AllReadyH.cons rfl (fun K hK => ?_) AllReadyH.nil
          go_simp
          have HX9 := Lib.hid (HSX6.out.below hB); have hB9 := Lib.hid hB
          obtain ⟨fl, hown, hrep⟩ := HX9.out.l
          have Hown := Lib.hid hown; have Hrep := Lib.hid hrep; clear hown hrep
          have hn := below_new w9 (.cells #[.string ⟨a.toArray⟩, .string ⟨c.toArray⟩, .int .i64 d] 45)
          replace hcg := (hn.cell (p := ⟨g, 0, none⟩) (Nat.lt_of_lt_of_le hgw6 hB.size)).trans hcg
          replace hB := hB.trans (hn.mono hB.size)
          clear hn
          refine hK.out _ _ hTr (fun _ => ?_)
          clear K hK
          try simp only [Act.put, List.getElem_toArray, List.getElem_cons_zero, List.getElem_cons_succ, List.setIfInBounds_toArray, List.set_cons_zero, List.set_cons_succ]
          refine wpAnyH_ready (rs := [10]) (by kernel_rfl) (by simp) ?_
          refine AllReadyH.cons rfl (fun K hK => ?_) AllReadyH.nil
          rw [if_pos (by kernel_rfl)]
          refine wp_append1 (.tmp 37) (.tmp 45) 32 rfl W3.heap.size 45 il (.agg #[.string ⟨#[]⟩, .string ⟨#[]⟩, .int .i64 0]) 3 40 Tryz.underlying32 Hil.out Hl0.out Hl1.out Hl2.out (by rfl) (by decide) _ _ fl Hown.out rfl [.string ⟨a.toArray⟩, .string ⟨c.toArray⟩, .int .i64 d] rfl rfl rfl (by simp [Value.oneCell']) (by have := Hxl.out; unfold maxLen; omega) (by have := Hxl.out; omega) HX9.out.sz ?_
          intro v2 w12 own2 g2 at2
          obtain ⟨p2, cap2, rfl, _, _⟩ := own2.form (Nat.succ_pos _)
          have hput := SXr.put0 (y := ⟨a, c, d⟩) HX9.out Hrep.out rfl own2 g2 (at2.imp (fun h => h) (fun h => ⟨_, h, Nat.le_succ _⟩))
          have hne9 : Value.ownBlock (.slice pv x.labs.length capv) ≠ some g := fun e => by have := (Hown.out.lt g e).1; have := HX9.out.lt; omega
          have hg9 := Nat.lt_of_lt_of_le HX9.out.lt HX9.out.sz
          have hcg2 := (grown_cell g2 hg9 hne9 0).trans HX9.out.c0
          have hfg2 := (grown_frozen g2 hg9 hne9 0).trans HX9.out.f0
          have Hput := Lib.hid hput
          clear hput own2 at2 hne9 hg9
          refine hK.out _ _ hTr (fun _ => ?_)
          clear K hK
          try simp only [Act.put, List.getElem_toArray, List.getElem_cons_zero, List.getElem_cons_succ, List.setIfInBounds_toArray, List.set_cons_zero, List.set_cons_succ]
          refine wpAnyH_take (i := 11) (v := .pointer (some ⟨g, 0, none⟩)) rfl (by kernel_rfl) (by kernel_rfl) (by kernel_rfl) (fun _ _ _ h => h) (Or.inl ⟨by kernel_rfl, fun W hW => by go_simp⟩) (by assumption) ?_
          try simp only [Act.put, List.getElem_toArray, List.getElem_cons_zero, List.getElem_cons_succ, List.setIfInBounds_toArray, List.set_cons_zero, List.set_cons_succ]
          refine wpAnyH_ready (rs := [12]) (by kernel_rfl) (by simp) ?_
          refine AllReadyH.cons rfl (fun K hK => ?_) AllReadyH.nil
          go_simp
          refine hK.out _ _ hTr (fun _ => ?_)
          clear K hK
          try simp only [Act.put, List.getElem_toArray, List.getElem_cons_zero, List.getElem_cons_succ, List.setIfInBounds_toArray, List.set_cons_zero, List.set_cons_succ]
          refine wpAnyH_done (by kernel_rfl) ?_ _
          clear hcg2 hfg2 hcg hB hgw6 hTr
          have HKx := Lib.hid (HKp6.out.trans ((Kept.below hB9.out (Nat.le_of_lt Hgw.out) HSX6.out.sz).trans Hput.out.2))
          go_upto_region 5 with fail
          have hwk := Hwk.out
          go_wp2_with fail
          go_roundw
          case rel => exact ⟨k1, _, _, _, _, _, by have := Hlt.out; have := Hk1.out; omega, rfl, by rw [Hk1.out, Hfs.out, ← Hx.out, Hsr.out, Hstx.out], Hput.out.1, HKx.out, by rw [Hk1.out]; exact HGr.out.labs1 _ Hna.out Hnc.out⟩
          case measure => have := Hlt.out; have := Hk1.out; simp [intOf]; omega
        · go_simp
          go_wp2_with (go_at_call 30; refine (ref10_part ps _ 1 _ _ (HPs.out.below' hB)).mono ?_; rw [Ha.out]; rintro e9 w9 ⟨rfl, rfl⟩)
          refine hK.out _ _ hTr (fun _ => ?_)
          clear K hK
          try simp only [Act.put, List.getElem_toArray, List.getElem_cons_zero, List.getElem_cons_succ, List.setIfInBounds_toArray, List.set_cons_zero, List.set_cons_succ]
          refine wpAnyH_ready (rs := [1, 5]) (by kernel_rfl) (by simp) ?_
          refine AllReadyH.cons rfl (fun K hK => ?_) (AllReadyH.cons rfl (fun K hK => ?_) AllReadyH.nil)
          · go_simp
            refine hK.out _ _ hTr (fun _ => ?_)
            clear K hK
            try simp only [Act.put, List.getElem_toArray, List.getElem_cons_zero, List.getElem_cons_succ, List.setIfInBounds_toArray, List.set_cons_zero, List.set_cons_succ]
            refine wpAnyH_ready (rs := [5]) (by kernel_rfl) (by simp) ?_
            refine AllReadyH.cons rfl (fun K hK => ?_) AllReadyH.nil
            go_simp
            go_wp2_with (go_at_call 30; refine (ref10_part ps _ 2 _ _ (HPs.out.below' hB)).mono ?_; rw [Hc.out]; rintro e9 w9 ⟨rfl, rfl⟩)
            refine hK.out _ _ hTr (fun _ => ?_)
            clear K hK
            try simp only [Act.put, List.getElem_toArray, List.getElem_cons_zero, List.getElem_cons_succ, List.setIfInBounds_toArray, List.set_cons_zero, List.set_cons_succ]
            refine wpAnyH_ready (rs := [7]) (by kernel_rfl) (by simp) ?_
            refine AllReadyH.cons rfl (fun K hK => ?_) AllReadyH.nil
            go_simp
            go_wp2_with (go_at_call 31; refine (ref10_number ps _ 3 _ _ (HPs.out.below' hB) Hpm6.out).mono ?_; rw [Hd.out]; rintro e9 w9 ⟨rfl, hb9⟩; replace hcg := (hb9.cell (p := ⟨g, 0, none⟩) (Nat.lt_of_lt_of_le hgw6 hB.size)).trans hcg; replace hB := hB.trans (hb9.mono hB.size); clear hb9)
            refine hK.out _ _ hTr (fun _ => ?_)
            clear K hK
            try simp only [Act.put, List.getElem_toArray, List.getElem_cons_zero, List.getElem_cons_succ, List.setIfInBounds_toArray, List.set_cons_zero, List.set_cons_succ]
            refine wpAnyH_take (i := 8) (v := .agg #[.string ⟨a.toArray⟩, .string ⟨c.toArray⟩, .int .i64 d]) rfl (by kernel_rfl) (by kernel_rfl) (by kernel_rfl) (fun _ _ _ h => h) (Or.inl ⟨by kernel_rfl, fun W hW => by kernel_rfl⟩) (by assumption) ?_
            try simp only [Act.put, List.getElem_toArray, List.getElem_cons_zero, List.getElem_cons_succ, List.setIfInBounds_toArray, List.set_cons_zero, List.set_cons_succ]
            refine wpAnyH_ready (rs := [9]) (by kernel_rfl) (by simp) ?_
            refine AllReadyH.cons rfl (fun K hK => ?_) AllReadyH.nil
            go_simp
            have HX9 := Lib.hid (HSX6.out.below hB); have hB9 := Lib.hid hB
            obtain ⟨fl, hown, hrep⟩ := HX9.out.l
            have Hown := Lib.hid hown; have Hrep := Lib.hid hrep; clear hown hrep
            have hn := below_new w9 (.cells #[.string ⟨a.toArray⟩, .string ⟨c.toArray⟩, .int .i64 d] 45)
            replace hcg := (hn.cell (p := ⟨g, 0, none⟩) (Nat.lt_of_lt_of_le hgw6 hB.size)).trans hcg
            replace hB := hB.trans (hn.mono hB.size)
            clear hn
            refine hK.out _ _ hTr (fun _ => ?_)
            clear K hK
            try simp only [Act.put, List.getElem_toArray, List.getElem_cons_zero, List.getElem_cons_succ, List.setIfInBounds_toArray, List.set_cons_zero, List.set_cons_succ]
            refine wpAnyH_ready (rs := [10]) (by kernel_rfl) (by simp) ?_
            refine AllReadyH.cons rfl (fun K hK => ?_) AllReadyH.nil
            rw [if_pos (by kernel_rfl)]
            refine wp_append1 (.tmp 37) (.tmp 45) 32 rfl W3.heap.size 45 il (.agg #[.string ⟨#[]⟩, .string ⟨#[]⟩, .int .i64 0]) 3 40 Tryz.underlying32 Hil.out Hl0.out Hl1.out Hl2.out (by rfl) (by decide) _ _ fl Hown.out rfl [.string ⟨a.toArray⟩, .string ⟨c.toArray⟩, .int .i64 d] rfl rfl rfl (by simp [Value.oneCell']) (by have := Hxl.out; unfold maxLen; omega) (by have := Hxl.out; omega) HX9.out.sz ?_
            intro v2 w12 own2 g2 at2
            obtain ⟨p2, cap2, rfl, _, _⟩ := own2.form (Nat.succ_pos _)
            have hput := SXr.put0 (y := ⟨a, c, d⟩) HX9.out Hrep.out rfl own2 g2 (at2.imp (fun h => h) (fun h => ⟨_, h, Nat.le_succ _⟩))
            have hne9 : Value.ownBlock (.slice pv x.labs.length capv) ≠ some g := fun e => by have := (Hown.out.lt g e).1; have := HX9.out.lt; omega
            have hg9 := Nat.lt_of_lt_of_le HX9.out.lt HX9.out.sz
            have hcg2 := (grown_cell g2 hg9 hne9 0).trans HX9.out.c0
            have hfg2 := (grown_frozen g2 hg9 hne9 0).trans HX9.out.f0
            have Hput := Lib.hid hput
            clear hput own2 at2 hne9 hg9
            refine hK.out _ _ hTr (fun _ => ?_)
            clear K hK
            try simp only [Act.put, List.getElem_toArray, List.getElem_cons_zero, List.getElem_cons_succ, List.setIfInBounds_toArray, List.set_cons_zero, List.set_cons_succ]
            refine wpAnyH_take (i := 11) (v := .pointer (some ⟨g, 0, none⟩)) rfl (by kernel_rfl) (by kernel_rfl) (by kernel_rfl) (fun _ _ _ h => h) (Or.inl ⟨by kernel_rfl, fun W hW => by go_simp⟩) (by assumption) ?_
            try simp only [Act.put, List.getElem_toArray, List.getElem_cons_zero, List.getElem_cons_succ, List.setIfInBounds_toArray, List.set_cons_zero, List.set_cons_succ]
            refine wpAnyH_ready (rs := [12]) (by kernel_rfl) (by simp) ?_
            refine AllReadyH.cons rfl (fun K hK => ?_) AllReadyH.nil
            go_simp
            refine hK.out _ _ hTr (fun _ => ?_)
            clear K hK
            try simp only [Act.put, List.getElem_toArray, List.getElem_cons_zero, List.getElem_cons_succ, List.setIfInBounds_toArray, List.set_cons_zero, List.set_cons_succ]
            refine wpAnyH_done (by kernel_rfl) ?_ _
            clear hcg2 hfg2 hcg hB hgw6 hTr
            have HKx := Lib.hid (HKp6.out.trans ((Kept.below hB9.out (Nat.le_of_lt Hgw.out) HSX6.out.sz).trans Hput.out.2))
            go_upto_region 5 with fail
            have hwk := Hwk.out
            go_wp2_with fail
            go_roundw
            case rel => exact ⟨k1, _, _, _, _, _, by have := Hlt.out; have := Hk1.out; omega, rfl, by rw [Hk1.out, Hfs.out, ← Hx.out, Hsr.out, Hstx.out], Hput.out.1, HKx.out, by rw [Hk1.out]; exact HGr.out.labs1 _ Hna.out Hnc.out⟩
            case measure => have := Hlt.out; have := Hk1.out; simp [intOf]; omega
          · go_simp
            go_wp2_with (go_at_call 30; refine (ref10_part ps _ 2 _ _ (HPs.out.below' hB)).mono ?_; rw [Hc.out]; rintro e9 w9 ⟨rfl, rfl⟩)
            refine hK.out _ _ hTr (fun _ => ?_)
            clear K hK
            try simp only [Act.put, List.getElem_toArray, List.getElem_cons_zero, List.getElem_cons_succ, List.setIfInBounds_toArray, List.set_cons_zero, List.set_cons_succ]
            refine wpAnyH_ready (rs := [1, 7]) (by kernel_rfl) (by simp) ?_
            refine AllReadyH.cons rfl (fun K hK => ?_) (AllReadyH.cons rfl (fun K hK => ?_) AllReadyH.nil)
            · go_simp
              refine hK.out _ _ hTr (fun _ => ?_)
              clear K hK
              try simp only [Act.put, List.getElem_toArray, List.getElem_cons_zero, List.getElem_cons_succ, List.setIfInBounds_toArray, List.set_cons_zero, List.set_cons_succ]
              refine wpAnyH_ready (rs := [7]) (by kernel_rfl) (by simp) ?_
              refine AllReadyH.cons rfl (fun K hK => ?_) AllReadyH.nil
              go_simp
              go_wp2_with (go_at_call 31; refine (ref10_number ps _ 3 _ _ (HPs.out.below' hB) Hpm6.out).mono ?_; rw [Hd.out]; rintro e9 w9 ⟨rfl, hb9⟩; replace hcg := (hb9.cell (p := ⟨g, 0, none⟩) (Nat.lt_of_lt_of_le hgw6 hB.size)).trans hcg; replace hB := hB.trans (hb9.mono hB.size); clear hb9)
              refine hK.out _ _ hTr (fun _ => ?_)
              clear K hK
              try simp only [Act.put, List.getElem_toArray, List.getElem_cons_zero, List.getElem_cons_succ, List.setIfInBounds_toArray, List.set_cons_zero, List.set_cons_succ]
              refine wpAnyH_take (i := 8) (v := .agg #[.string ⟨a.toArray⟩, .string ⟨c.toArray⟩, .int .i64 d]) rfl (by kernel_rfl) (by kernel_rfl) (by kernel_rfl) (fun _ _ _ h => h) (Or.inl ⟨by kernel_rfl, fun W hW => by kernel_rfl⟩) (by assumption) ?_
              try simp only [Act.put, List.getElem_toArray, List.getElem_cons_zero, List.getElem_cons_succ, List.setIfInBounds_toArray, List.set_cons_zero, List.set_cons_succ]
              refine wpAnyH_ready (rs := [9]) (by kernel_rfl) (by simp) ?_
              refine AllReadyH.cons rfl (fun K hK => ?_) AllReadyH.nil
              go_simp
              have HX9 := Lib.hid (HSX6.out.below hB); have hB9 := Lib.hid hB
              obtain ⟨fl, hown, hrep⟩ := HX9.out.l
              have Hown := Lib.hid hown; have Hrep := Lib.hid hrep; clear hown hrep
              have hn := below_new w9 (.cells #[.string ⟨a.toArray⟩, .string ⟨c.toArray⟩, .int .i64 d] 45)
              replace hcg := (hn.cell (p := ⟨g, 0, none⟩) (Nat.lt_of_lt_of_le hgw6 hB.size)).trans hcg
              replace hB := hB.trans (hn.mono hB.size)
              clear hn
              refine hK.out _ _ hTr (fun _ => ?_)
              clear K hK
              try simp only [Act.put, List.getElem_toArray, List.getElem_cons_zero, List.getElem_cons_succ, List.setIfInBounds_toArray, List.set_cons_zero, List.set_cons_succ]
              refine wpAnyH_ready (rs := [10]) (by kernel_rfl) (by simp) ?_
              refine AllReadyH.cons rfl (fun K hK => ?_) AllReadyH.nil
              rw [if_pos (by kernel_rfl)]
              refine wp_append1 (.tmp 37) (.tmp 45) 32 rfl W3.heap.size 45 il (.agg #[.string ⟨#[]⟩, .string ⟨#[]⟩, .int .i64 0]) 3 40 Tryz.underlying32 Hil.out Hl0.out Hl1.out Hl2.out (by rfl) (by decide) _ _ fl Hown.out rfl [.string ⟨a.toArray⟩, .string ⟨c.toArray⟩, .int .i64 d] rfl rfl rfl (by simp [Value.oneCell']) (by have := Hxl.out; unfold maxLen; omega) (by have := Hxl.out; omega) HX9.out.sz ?_
              intro v2 w12 own2 g2 at2
              obtain ⟨p2, cap2, rfl, _, _⟩ := own2.form (Nat.succ_pos _)
              have hput := SXr.put0 (y := ⟨a, c, d⟩) HX9.out Hrep.out rfl own2 g2 (at2.imp (fun h => h) (fun h => ⟨_, h, Nat.le_succ _⟩))
              have hne9 : Value.ownBlock (.slice pv x.labs.length capv) ≠ some g := fun e => by have := (Hown.out.lt g e).1; have := HX9.out.lt; omega
              have hg9 := Nat.lt_of_lt_of_le HX9.out.lt HX9.out.sz
              have hcg2 := (grown_cell g2 hg9 hne9 0).trans HX9.out.c0
              have hfg2 := (grown_frozen g2 hg9 hne9 0).trans HX9.out.f0
              have Hput := Lib.hid hput
              clear hput own2 at2 hne9 hg9
              refine hK.out _ _ hTr (fun _ => ?_)
              clear K hK
              try simp only [Act.put, List.getElem_toArray, List.getElem_cons_zero, List.getElem_cons_succ, List.setIfInBounds_toArray, List.set_cons_zero, List.set_cons_succ]
              refine wpAnyH_take (i := 11) (v := .pointer (some ⟨g, 0, none⟩)) rfl (by kernel_rfl) (by kernel_rfl) (by kernel_rfl) (fun _ _ _ h => h) (Or.inl ⟨by kernel_rfl, fun W hW => by go_simp⟩) (by assumption) ?_
              try simp only [Act.put, List.getElem_toArray, List.getElem_cons_zero, List.getElem_cons_succ, List.setIfInBounds_toArray, List.set_cons_zero, List.set_cons_succ]
              refine wpAnyH_ready (rs := [12]) (by kernel_rfl) (by simp) ?_
              refine AllReadyH.cons rfl (fun K hK => ?_) AllReadyH.nil
              go_simp
              refine hK.out _ _ hTr (fun _ => ?_)
              clear K hK
              try simp only [Act.put, List.getElem_toArray, List.getElem_cons_zero, List.getElem_cons_succ, List.setIfInBounds_toArray, List.set_cons_zero, List.set_cons_succ]
              refine wpAnyH_done (by kernel_rfl) ?_ _
              clear hcg2 hfg2 hcg hB hgw6 hTr
              have HKx := Lib.hid (HKp6.out.trans ((Kept.below hB9.out (Nat.le_of_lt Hgw.out) HSX6.out.sz).trans Hput.out.2))
              go_upto_region 5 with fail
              have hwk := Hwk.out
              go_wp2_with fail
              go_roundw
              case rel => exact ⟨k1, _, _, _, _, _, by have := Hlt.out; have := Hk1.out; omega, rfl, by rw [Hk1.out, Hfs.out, ← Hx.out, Hsr.out, Hstx.out], Hput.out.1, HKx.out, by rw [Hk1.out]; exact HGr.out.labs1 _ Hna.out Hnc.out⟩
              case measure => have := Hlt.out; have := Hk1.out; simp [intOf]; omega
            · go_simp
              go_wp2_with (go_at_call 31; refine (ref10_number ps _ 3 _ _ (HPs.out.below' hB) Hpm6.out).mono ?_; rw [Hd.out]; rintro e9 w9 ⟨rfl, hb9⟩; replace hcg := (hb9.cell (p := ⟨g, 0, none⟩) (Nat.lt_of_lt_of_le hgw6 hB.size)).trans hcg; replace hB := hB.trans (hb9.mono hB.size); clear hb9)
              refine hK.out _ _ hTr (fun _ => ?_)
              clear K hK
              try simp only [Act.put, List.getElem_toArray, List.getElem_cons_zero, List.getElem_cons_succ, List.setIfInBounds_toArray, List.set_cons_zero, List.set_cons_succ]
              refine wpAnyH_take (i := 8) (v := .agg #[.string ⟨a.toArray⟩, .string ⟨c.toArray⟩, .int .i64 d]) rfl (by kernel_rfl) (by kernel_rfl) (by kernel_rfl) (fun _ _ _ h => h) (Or.inl ⟨by kernel_rfl, fun W hW => by kernel_rfl⟩) (by assumption) ?_
              try simp only [Act.put, List.getElem_toArray, List.getElem_cons_zero, List.getElem_cons_succ, List.setIfInBounds_toArray, List.set_cons_zero, List.set_cons_succ]
              refine wpAnyH_ready (rs := [1, 9]) (by kernel_rfl) (by simp) ?_
              refine AllReadyH.cons rfl (fun K hK => ?_) (AllReadyH.cons rfl (fun K hK => ?_) AllReadyH.nil)
              · go_simp
                refine hK.out _ _ hTr (fun _ => ?_)
                clear K hK
                try simp only [Act.put, List.getElem_toArray, List.getElem_cons_zero, List.getElem_cons_succ, List.setIfInBounds_toArray, List.set_cons_zero, List.set_cons_succ]
                refine wpAnyH_ready (rs := [9]) (by kernel_rfl) (by simp) ?_
                refine AllReadyH.cons rfl (fun K hK => ?_) AllReadyH.nil
                go_simp
                have HX9 := Lib.hid (HSX6.out.below hB); have hB9 := Lib.hid hB
                obtain ⟨fl, hown, hrep⟩ := HX9.out.l
                have Hown := Lib.hid hown; have Hrep := Lib.hid hrep; clear hown hrep
                have hn := below_new w9 (.cells #[.string ⟨a.toArray⟩, .string ⟨c.toArray⟩, .int .i64 d] 45)
                replace hcg := (hn.cell (p := ⟨g, 0, none⟩) (Nat.lt_of_lt_of_le hgw6 hB.size)).trans hcg
                replace hB := hB.trans (hn.mono hB.size)
                clear hn
                refine hK.out _ _ hTr (fun _ => ?_)
                clear K hK
                try simp only [Act.put, List.getElem_toArray, List.getElem_cons_zero, List.getElem_cons_succ, List.setIfInBounds_toArray, List.set_cons_zero, List.set_cons_succ]
                refine wpAnyH_ready (rs := [10]) (by kernel_rfl) (by simp) ?_
                refine AllReadyH.cons rfl (fun K hK => ?_) AllReadyH.nil
                rw [if_pos (by kernel_rfl)]
                refine wp_append1 (.tmp 37) (.tmp 45) 32 rfl W3.heap.size 45 il (.agg #[.string ⟨#[]⟩, .string ⟨#[]⟩, .int .i64 0]) 3 40 Tryz.underlying32 Hil.out Hl0.out Hl1.out Hl2.out (by rfl) (by decide) _ _ fl Hown.out rfl [.string ⟨a.toArray⟩, .string ⟨c.toArray⟩, .int .i64 d] rfl rfl rfl (by simp [Value.oneCell']) (by have := Hxl.out; unfold maxLen; omega) (by have := Hxl.out; omega) HX9.out.sz ?_
                intro v2 w12 own2 g2 at2
                obtain ⟨p2, cap2, rfl, _, _⟩ := own2.form (Nat.succ_pos _)
                have hput := SXr.put0 (y := ⟨a, c, d⟩) HX9.out Hrep.out rfl own2 g2 (at2.imp (fun h => h) (fun h => ⟨_, h, Nat.le_succ _⟩))
                have hne9 : Value.ownBlock (.slice pv x.labs.length capv) ≠ some g := fun e => by have := (Hown.out.lt g e).1; have := HX9.out.lt; omega
                have hg9 := Nat.lt_of_lt_of_le HX9.out.lt HX9.out.sz
                have hcg2 := (grown_cell g2 hg9 hne9 0).trans HX9.out.c0
                have hfg2 := (grown_frozen g2 hg9 hne9 0).trans HX9.out.f0
                have Hput := Lib.hid hput
                clear hput own2 at2 hne9 hg9
                refine hK.out _ _ hTr (fun _ => ?_)
                clear K hK
                try simp only [Act.put, List.getElem_toArray, List.getElem_cons_zero, List.getElem_cons_succ, List.setIfInBounds_toArray, List.set_cons_zero, List.set_cons_succ]
                refine wpAnyH_take (i := 11) (v := .pointer (some ⟨g, 0, none⟩)) rfl (by kernel_rfl) (by kernel_rfl) (by kernel_rfl) (fun _ _ _ h => h) (Or.inl ⟨by kernel_rfl, fun W hW => by go_simp⟩) (by assumption) ?_
                try simp only [Act.put, List.getElem_toArray, List.getElem_cons_zero, List.getElem_cons_succ, List.setIfInBounds_toArray, List.set_cons_zero, List.set_cons_succ]
                refine wpAnyH_ready (rs := [12]) (by kernel_rfl) (by simp) ?_
                refine AllReadyH.cons rfl (fun K hK => ?_) AllReadyH.nil
                go_simp
                refine hK.out _ _ hTr (fun _ => ?_)
                clear K hK
                try simp only [Act.put, List.getElem_toArray, List.getElem_cons_zero, List.getElem_cons_succ, List.setIfInBounds_toArray, List.set_cons_zero, List.set_cons_succ]
                refine wpAnyH_done (by kernel_rfl) ?_ _
                clear hcg2 hfg2 hcg hB hgw6 hTr
                have HKx := Lib.hid (HKp6.out.trans ((Kept.below hB9.out (Nat.le_of_lt Hgw.out) HSX6.out.sz).trans Hput.out.2))
                go_upto_region 5 with fail
                have hwk := Hwk.out
                go_wp2_with fail
                go_roundw
                case rel => exact ⟨k1, _, _, _, _, _, by have := Hlt.out; have := Hk1.out; omega, rfl, by rw [Hk1.out, Hfs.out, ← Hx.out, Hsr.out, Hstx.out], Hput.out.1, HKx.out, by rw [Hk1.out]; exact HGr.out.labs1 _ Hna.out Hnc.out⟩
                case measure => have := Hlt.out; have := Hk1.out; simp [intOf]; omega
              · go_simp
                have HX9 := Lib.hid (HSX6.out.below hB); have hB9 := Lib.hid hB
                obtain ⟨fl, hown, hrep⟩ := HX9.out.l
                have Hown := Lib.hid hown; have Hrep := Lib.hid hrep; clear hown hrep
                have hn := below_new w9 (.cells #[.string ⟨a.toArray⟩, .string ⟨c.toArray⟩, .int .i64 d] 45)
                replace hcg := (hn.cell (p := ⟨g, 0, none⟩) (Nat.lt_of_lt_of_le hgw6 hB.size)).trans hcg
                replace hB := hB.trans (hn.mono hB.size)
                clear hn
                refine hK.out _ _ hTr (fun _ => ?_)
                clear K hK
                try simp only [Act.put, List.getElem_toArray, List.getElem_cons_zero, List.getElem_cons_succ, List.setIfInBounds_toArray, List.set_cons_zero, List.set_cons_succ]
                refine wpAnyH_ready (rs := [1]) (by kernel_rfl) (by simp) ?_
                refine AllReadyH.cons rfl (fun K hK => ?_) AllReadyH.nil
                go_simp
                refine hK.out _ _ hTr (fun _ => ?_)
                clear K hK
                try simp only [Act.put, List.getElem_toArray, List.getElem_cons_zero, List.getElem_cons_succ, List.setIfInBounds_toArray, List.set_cons_zero, List.set_cons_succ]
                refine wpAnyH_ready (rs := [10]) (by kernel_rfl) (by simp) ?_
                refine AllReadyH.cons rfl (fun K hK => ?_) AllReadyH.nil
                rw [if_pos (by kernel_rfl)]
                refine wp_append1 (.tmp 37) (.tmp 45) 32 rfl W3.heap.size 45 il (.agg #[.string ⟨#[]⟩, .string ⟨#[]⟩, .int .i64 0]) 3 40 Tryz.underlying32 Hil.out Hl0.out Hl1.out Hl2.out (by rfl) (by decide) _ _ fl Hown.out rfl [.string ⟨a.toArray⟩, .string ⟨c.toArray⟩, .int .i64 d] rfl rfl rfl (by simp [Value.oneCell']) (by have := Hxl.out; unfold maxLen; omega) (by have := Hxl.out; omega) HX9.out.sz ?_
                intro v2 w12 own2 g2 at2
                obtain ⟨p2, cap2, rfl, _, _⟩ := own2.form (Nat.succ_pos _)
                have hput := SXr.put0 (y := ⟨a, c, d⟩) HX9.out Hrep.out rfl own2 g2 (at2.imp (fun h => h) (fun h => ⟨_, h, Nat.le_succ _⟩))
                have hne9 : Value.ownBlock (.slice pv x.labs.length capv) ≠ some g := fun e => by have := (Hown.out.lt g e).1; have := HX9.out.lt; omega
                have hg9 := Nat.lt_of_lt_of_le HX9.out.lt HX9.out.sz
                have hcg2 := (grown_cell g2 hg9 hne9 0).trans HX9.out.c0
                have hfg2 := (grown_frozen g2 hg9 hne9 0).trans HX9.out.f0
                have Hput := Lib.hid hput
                clear hput own2 at2 hne9 hg9
                refine hK.out _ _ hTr (fun _ => ?_)
                clear K hK
                try simp only [Act.put, List.getElem_toArray, List.getElem_cons_zero, List.getElem_cons_succ, List.setIfInBounds_toArray, List.set_cons_zero, List.set_cons_succ]
                refine wpAnyH_take (i := 11) (v := .pointer (some ⟨g, 0, none⟩)) rfl (by kernel_rfl) (by kernel_rfl) (by kernel_rfl) (fun _ _ _ h => h) (Or.inl ⟨by kernel_rfl, fun W hW => by go_simp⟩) (by assumption) ?_
                try simp only [Act.put, List.getElem_toArray, List.getElem_cons_zero, List.getElem_cons_succ, List.setIfInBounds_toArray, List.set_cons_zero, List.set_cons_succ]
                refine wpAnyH_ready (rs := [12]) (by kernel_rfl) (by simp) ?_
                refine AllReadyH.cons rfl (fun K hK => ?_) AllReadyH.nil
                go_simp
                refine hK.out _ _ hTr (fun _ => ?_)
                clear K hK
                try simp only [Act.put, List.getElem_toArray, List.getElem_cons_zero, List.getElem_cons_succ, List.setIfInBounds_toArray, List.set_cons_zero, List.set_cons_succ]
                refine wpAnyH_done (by kernel_rfl) ?_ _
                clear hcg2 hfg2 hcg hB hgw6 hTr
                have HKx := Lib.hid (HKp6.out.trans ((Kept.below hB9.out (Nat.le_of_lt Hgw.out) HSX6.out.sz).trans Hput.out.2))
                go_upto_region 5 with fail
                have hwk := Hwk.out
                go_wp2_with fail
                go_roundw
                case rel => exact ⟨k1, _, _, _, _, _, by have := Hlt.out; have := Hk1.out; omega, rfl, by rw [Hk1.out, Hfs.out, ← Hx.out, Hsr.out, Hstx.out], Hput.out.1, HKx.out, by rw [Hk1.out]; exact HGr.out.labs1 _ Hna.out Hnc.out⟩
                case measure => have := Hlt.out; have := Hk1.out; simp [intOf]; omega
      · by_cases hw1 : p0 = Sd.headW
        · obtain ⟨a, ha⟩ : ∃ a, Sd.numAt ps 1 = a := ⟨_, rfl⟩
          have Ha := Lib.hid ha
          obtain ⟨c, hc⟩ : ∃ c, Sd.part ps 2 = c := ⟨_, rfl⟩
          have Hc := Lib.hid hc
          obtain ⟨d, hd⟩ : ∃ d, Sd.part ps 3 = d := ⟨_, rfl⟩
          have Hd := Lib.hid hd
          obtain ⟨e, he⟩ : ∃ e, Sd.numAt ps 4 = e := ⟨_, rfl⟩
          have He := Lib.hid he
          have Hstx := Lib.hid (show Sd.stepP x ps = { x with heads := x.heads ++ [⟨a, c, d, e⟩] } by rw [Hst.out, if_neg hw0, if_pos hw1]; simp only [Ha.out, Hc.out, Hd.out, He.out])
          have Hnc := Lib.hid (show c.length ≤ s.length by rw [← Hc.out]; exact Hpt.out 2)
          have Hnd := Lib.hid (show d.length ≤ s.length by rw [← Hd.out]; exact Hpt.out 3)
          clear ha hc hd he
          obtain ⟨pv, capv, hfv⟩ := HSX6.out.h.form
          subst hfv
          have hgl := HGr.out.heads
          have Hxl := Lib.hid (show x.heads.length ≤ 1000000 by have := Htl.out; have := Hs.out; have := Hlt.out; omega)
          clear hgl
          have Hhw := Lib.hid hw1
          have g0' : ¬ p0 = [108, 97, 98, 101, 108] := hw0; have g1' : p0 = [104, 101, 97, 100] := hw1
          go_upto_region 11 with fail
          clear g0' g1'
          clear hw0 hw1
          refine wp_region_any (by kernel_rfl) ?_
          change wpAny _ _ _ _ _ _ _ (World.drew _)
          have hB : Below w6.heap.size w6 w6.drew := (Below.refl _ _).drew
          have hcg : w6.drew.cell? ⟨g, 1, none⟩ = some (.slice pv x.heads.length capv) := HSX6.out.c1
          have hgw6 : g < w6.heap.size := Nat.lt_of_lt_of_le HSX6.out.lt HSX6.out.sz
          have hTr : True := trivial
          generalize w6.drew = w8 at hB hcg ⊢
          refine wpAny_of_held (S := fun W => True) _ _ _ _ ?_
          refine wpAnyH_take (i := 0) (v := .pointer (some ⟨g, 1, none⟩)) rfl (by kernel_rfl) (by kernel_rfl) (by kernel_rfl) (fun _ _ _ h => h) (Or.inl ⟨by kernel_rfl, fun W hW => by go_simp⟩) (by assumption) ?_
          try simp only [Act.put, List.getElem_toArray, List.getElem_cons_zero, List.getElem_cons_succ, List.setIfInBounds_toArray, List.set_cons_zero, List.set_cons_succ]
          refine wpAnyH_take (i := 2) (v := .slice pp ps.length cp) rfl (by kernel_rfl) (by kernel_rfl) (by kernel_rfl) (fun _ _ _ h => h) (Or.inl ⟨by kernel_rfl, fun W hW => by kernel_rfl⟩) (by assumption) ?_
          try simp only [Act.put, List.getElem_toArray, List.getElem_cons_zero, List.getElem_cons_succ, List.setIfInBounds_toArray, List.set_cons_zero, List.set_cons_succ]
          refine wpAnyH_take (i := 4) (v := .slice pp ps.length cp) rfl (by kernel_rfl) (by kernel_rfl) (by kernel_rfl) (fun _ _ _ h => h) (Or.inl ⟨by kernel_rfl, fun W hW => by kernel_rfl⟩) (by assumption) ?_
          try simp only [Act.put, List.getElem_toArray, List.getElem_cons_zero, List.getElem_cons_succ, List.setIfInBounds_toArray, List.set_cons_zero, List.set_cons_succ]
          refine wpAnyH_take (i := 6) (v := .slice pp ps.length cp) rfl (by kernel_rfl) (by kernel_rfl) (by kernel_rfl) (fun _ _ _ h => h) (Or.inl ⟨by kernel_rfl, fun W hW => by kernel_rfl⟩) (by assumption) ?_
          try simp only [Act.put, List.getElem_toArray, List.getElem_cons_zero, List.getElem_cons_succ, List.setIfInBounds_toArray, List.set_cons_zero, List.set_cons_succ]
          refine wpAnyH_take (i := 8) (v := .slice pp ps.length cp) rfl (by kernel_rfl) (by kernel_rfl) (by kernel_rfl) (fun _ _ _ h => h) (Or.inl ⟨by kernel_rfl, fun W hW => by kernel_rfl⟩) (by assumption) ?_
          try simp only [Act.put, List.getElem_toArray, List.getElem_cons_zero, List.getElem_cons_succ, List.setIfInBounds_toArray, List.set_cons_zero, List.set_cons_succ]
          refine wpAnyH_ready (rs := [1, 3]) (by kernel_rfl) (by simp) ?_
          refine AllReadyH.cons rfl (fun K hK => ?_) (AllReadyH.cons rfl (fun K hK => ?_) AllReadyH.nil)
          · go_simp
            refine hK.out _ _ hTr (fun _ => ?_)
            clear K hK
            try simp only [Act.put, List.getElem_toArray, List.getElem_cons_zero, List.getElem_cons_succ, List.setIfInBounds_toArray, List.set_cons_zero, List.set_cons_succ]
            refine wpAnyH_ready (rs := [3]) (by kernel_rfl) (by simp) ?_
            refine AllReadyH.cons rfl (fun K hK => ?_) AllReadyH.nil
            go_simp
            go_wp2_with (go_at_call 31; refine (ref10_number ps _ 1 _ _ (HPs.out.below' hB) Hpm6.out).mono ?_; rw [Ha.out]; rintro e9 w9 ⟨rfl, hb9⟩; replace hcg := (hb9.cell (p := ⟨g, 1, none⟩) (Nat.lt_of_lt_of_le hgw6 hB.size)).trans hcg; replace hB := hB.trans (hb9.mono hB.size); clear hb9)
            refine hK.out _ _ hTr (fun _ => ?_)
            clear K hK
            try simp only [Act.put, List.getElem_toArray, List.getElem_cons_zero, List.getElem_cons_succ, List.setIfInBounds_toArray, List.set_cons_zero, List.set_cons_succ]
            refine wpAnyH_ready (rs := [5]) (by kernel_rfl) (by simp) ?_
            refine AllReadyH.cons rfl (fun K hK => ?_) AllReadyH.nil
            go_simp
            go_wp2_with (go_at_call 30; refine (ref10_part ps _ 2 _ _ (HPs.out.below' hB)).mono ?_; rw [Hc.out]; rintro e9 w9 ⟨rfl, rfl⟩)
            refine hK.out _ _ hTr (fun _ => ?_)
            clear K hK
            try simp only [Act.put, List.getElem_toArray, List.getElem_cons_zero, List.getElem_cons_succ, List.setIfInBounds_toArray, List.set_cons_zero, List.set_cons_succ]
            refine wpAnyH_ready (rs := [7]) (by kernel_rfl) (by simp) ?_
            refine AllReadyH.cons rfl (fun K hK => ?_) AllReadyH.nil
            go_simp
            go_wp2_with (go_at_call 30; refine (ref10_part ps _ 3 _ _ (HPs.out.below' hB)).mono ?_; rw [Hd.out]; rintro e9 w9 ⟨rfl, rfl⟩)
            refine hK.out _ _ hTr (fun _ => ?_)
            clear K hK
            try simp only [Act.put, List.getElem_toArray, List.getElem_cons_zero, List.getElem_cons_succ, List.setIfInBounds_toArray, List.set_cons_zero, List.set_cons_succ]
            refine wpAnyH_ready (rs := [9]) (by kernel_rfl) (by simp) ?_
            refine AllReadyH.cons rfl (fun K hK => ?_) AllReadyH.nil
            go_simp
            go_wp2_with (go_at_call 31; refine (ref10_number ps _ 4 _ _ (HPs.out.below' hB) Hpm6.out).mono ?_; rw [He.out]; rintro e9 w10 ⟨rfl, hb9⟩; replace hcg := (hb9.cell (p := ⟨g, 1, none⟩) (Nat.lt_of_lt_of_le hgw6 hB.size)).trans hcg; replace hB := hB.trans (hb9.mono hB.size); clear hb9)
            refine hK.out _ _ hTr (fun _ => ?_)
            clear K hK
            try simp only [Act.put, List.getElem_toArray, List.getElem_cons_zero, List.getElem_cons_succ, List.setIfInBounds_toArray, List.set_cons_zero, List.set_cons_succ]
            refine wpAnyH_take (i := 10) (v := .agg #[.int .i64 a, .string ⟨c.toArray⟩, .string ⟨d.toArray⟩, .int .i64 e]) rfl (by kernel_rfl) (by kernel_rfl) (by kernel_rfl) (fun _ _ _ h => h) (Or.inl ⟨by kernel_rfl, fun W hW => by kernel_rfl⟩) (by assumption) ?_
            try simp only [Act.put, List.getElem_toArray, List.getElem_cons_zero, List.getElem_cons_succ, List.setIfInBounds_toArray, List.set_cons_zero, List.set_cons_succ]
            refine wpAnyH_ready (rs := [11]) (by kernel_rfl) (by simp) ?_
            refine AllReadyH.cons rfl (fun K hK => ?_) AllReadyH.nil
            go_simp
            have HX9 := Lib.hid (HSX6.out.below hB); have hB9 := Lib.hid hB
            obtain ⟨fl, hown, hrep⟩ := HX9.out.h
            have Hown := Lib.hid hown; have Hrep := Lib.hid hrep; clear hown hrep
            have hn := below_new w10 (.cells #[.int .i64 a, .string ⟨c.toArray⟩, .string ⟨d.toArray⟩, .int .i64 e] 65)
            replace hcg := (hn.cell (p := ⟨g, 1, none⟩) (Nat.lt_of_lt_of_le hgw6 hB.size)).trans hcg
            replace hB := hB.trans (hn.mono hB.size)
            clear hn
            refine hK.out _ _ hTr (fun _ => ?_)
            clear K hK
            try simp only [Act.put, List.getElem_toArray, List.getElem_cons_zero, List.getElem_cons_succ, List.setIfInBounds_toArray, List.set_cons_zero, List.set_cons_succ]
            refine wpAnyH_ready (rs := [12]) (by kernel_rfl) (by simp) ?_
            refine AllReadyH.cons rfl (fun K hK => ?_) AllReadyH.nil
            rw [if_pos (by kernel_rfl)]
            refine wp_append1 (.tmp 51) (.tmp 61) 33 rfl W3.heap.size 65 ih (.agg #[.int .i64 0, .string ⟨#[]⟩, .string ⟨#[]⟩, .int .i64 0]) 4 48 Tryz.underlying33 Hih.out Hh0.out Hh1.out Hh2.out (by rfl) (by decide) _ _ fl Hown.out rfl [.int .i64 a, .string ⟨c.toArray⟩, .string ⟨d.toArray⟩, .int .i64 e] rfl rfl rfl (by simp [Value.oneCell']) (by have := Hxl.out; unfold maxLen; omega) (by have := Hxl.out; omega) HX9.out.sz ?_
            intro v2 w12 own2 g2 at2
            obtain ⟨p2, cap2, rfl, _, _⟩ := own2.form (Nat.succ_pos _)
            have hput := SXr.put1 (y := ⟨a, c, d, e⟩) HX9.out Hrep.out rfl own2 g2 (at2.imp (fun h => h) (fun h => ⟨_, h, Nat.le_succ _⟩))
            have hne9 : Value.ownBlock (.slice pv x.heads.length capv) ≠ some g := fun e => by have := (Hown.out.lt g e).1; have := HX9.out.lt; omega
            have hg9 := Nat.lt_of_lt_of_le HX9.out.lt HX9.out.sz
            have hcg2 := (grown_cell g2 hg9 hne9 1).trans HX9.out.c1
            have hfg2 := (grown_frozen g2 hg9 hne9 1).trans HX9.out.f1
            have Hput := Lib.hid hput
            clear hput own2 at2 hne9 hg9
            refine hK.out _ _ hTr (fun _ => ?_)
            clear K hK
            try simp only [Act.put, List.getElem_toArray, List.getElem_cons_zero, List.getElem_cons_succ, List.setIfInBounds_toArray, List.set_cons_zero, List.set_cons_succ]
            refine wpAnyH_take (i := 13) (v := .pointer (some ⟨g, 1, none⟩)) rfl (by kernel_rfl) (by kernel_rfl) (by kernel_rfl) (fun _ _ _ h => h) (Or.inl ⟨by kernel_rfl, fun W hW => by go_simp⟩) (by assumption) ?_
            try simp only [Act.put, List.getElem_toArray, List.getElem_cons_zero, List.getElem_cons_succ, List.setIfInBounds_toArray, List.set_cons_zero, List.set_cons_succ]
            refine wpAnyH_ready (rs := [14]) (by kernel_rfl) (by simp) ?_
            refine AllReadyH.cons rfl (fun K hK => ?_) AllReadyH.nil
            go_simp
            refine hK.out _ _ hTr (fun _ => ?_)
            clear K hK
            try simp only [Act.put, List.getElem_toArray, List.getElem_cons_zero, List.getElem_cons_succ, List.setIfInBounds_toArray, List.set_cons_zero, List.set_cons_succ]
            refine wpAnyH_done (by kernel_rfl) ?_ _
            clear hcg2 hfg2 hcg hB hgw6 hTr
            have HKx := Lib.hid (HKp6.out.trans ((Kept.below hB9.out (Nat.le_of_lt Hgw.out) HSX6.out.sz).trans Hput.out.2))
            go_upto_region 5 with fail
            have hwk := Hwk.out
            go_wp2_with fail
            go_roundw
            case rel => exact ⟨k1, _, _, _, _, _, by have := Hlt.out; have := Hk1.out; omega, rfl, by rw [Hk1.out, Hfs.out, ← Hx.out, Hsr.out, Hstx.out], Hput.out.1, HKx.out, by rw [Hk1.out]; exact HGr.out.heads1 _ Hnc.out Hnd.out⟩
            case measure => have := Hlt.out; have := Hk1.out; simp [intOf]; omega
          · go_simp
            go_wp2_with (go_at_call 31; refine (ref10_number ps _ 1 _ _ (HPs.out.below' hB) Hpm6.out).mono ?_; rw [Ha.out]; rintro e9 w9 ⟨rfl, hb9⟩; replace hcg := (hb9.cell (p := ⟨g, 1, none⟩) (Nat.lt_of_lt_of_le hgw6 hB.size)).trans hcg; replace hB := hB.trans (hb9.mono hB.size); clear hb9)
            refine hK.out _ _ hTr (fun _ => ?_)
            clear K hK
            try simp only [Act.put, List.getElem_toArray, List.getElem_cons_zero, List.getElem_cons_succ, List.setIfInBounds_toArray, List.set_cons_zero, List.set_cons_succ]
            refine wpAnyH_ready (rs := [1, 5]) (by kernel_rfl) (by simp) ?_
            refine AllReadyH.cons rfl (fun K hK => ?_) (AllReadyH.cons rfl (fun K hK => ?_) AllReadyH.nil)
            · go_simp
              refine hK.out _ _ hTr (fun _ => ?_)
              clear K hK
              try simp only [Act.put, List.getElem_toArray, List.getElem_cons_zero, List.getElem_cons_succ, List.setIfInBounds_toArray, List.set_cons_zero, List.set_cons_succ]
              refine wpAnyH_ready (rs := [5]) (by kernel_rfl) (by simp) ?_
              refine AllReadyH.cons rfl (fun K hK => ?_) AllReadyH.nil
              go_simp
              go_wp2_with (go_at_call 30; refine (ref10_part ps _ 2 _ _ (HPs.out.below' hB)).mono ?_; rw [Hc.out]; rintro e9 w9 ⟨rfl, rfl⟩)
              refine hK.out _ _ hTr (fun _ => ?_)
              clear K hK
              try simp only [Act.put, List.getElem_toArray, List.getElem_cons_zero, List.getElem_cons_succ, List.setIfInBounds_toArray, List.set_cons_zero, List.set_cons_succ]
              refine wpAnyH_ready (rs := [7]) (by kernel_rfl) (by simp) ?_
              refine AllReadyH.cons rfl (fun K hK => ?_) AllReadyH.nil
              go_simp
              go_wp2_with (go_at_call 30; refine (ref10_part ps _ 3 _ _ (HPs.out.below' hB)).mono ?_; rw [Hd.out]; rintro e9 w9 ⟨rfl, rfl⟩)
              refine hK.out _ _ hTr (fun _ => ?_)
              clear K hK
              try simp only [Act.put, List.getElem_toArray, List.getElem_cons_zero, List.getElem_cons_succ, List.setIfInBounds_toArray, List.set_cons_zero, List.set_cons_succ]
              refine wpAnyH_ready (rs := [9]) (by kernel_rfl) (by simp) ?_
              refine AllReadyH.cons rfl (fun K hK => ?_) AllReadyH.nil
              go_simp
              go_wp2_with (go_at_call 31; refine (ref10_number ps _ 4 _ _ (HPs.out.below' hB) Hpm6.out).mono ?_; rw [He.out]; rintro e9 w10 ⟨rfl, hb9⟩; replace hcg := (hb9.cell (p := ⟨g, 1, none⟩) (Nat.lt_of_lt_of_le hgw6 hB.size)).trans hcg; replace hB := hB.trans (hb9.mono hB.size); clear hb9)
              refine hK.out _ _ hTr (fun _ => ?_)
              clear K hK
              try simp only [Act.put, List.getElem_toArray, List.getElem_cons_zero, List.getElem_cons_succ, List.setIfInBounds_toArray, List.set_cons_zero, List.set_cons_succ]
              refine wpAnyH_take (i := 10) (v := .agg #[.int .i64 a, .string ⟨c.toArray⟩, .string ⟨d.toArray⟩, .int .i64 e]) rfl (by kernel_rfl) (by kernel_rfl) (by kernel_rfl) (fun _ _ _ h => h) (Or.inl ⟨by kernel_rfl, fun W hW => by kernel_rfl⟩) (by assumption) ?_
              try simp only [Act.put, List.getElem_toArray, List.getElem_cons_zero, List.getElem_cons_succ, List.setIfInBounds_toArray, List.set_cons_zero, List.set_cons_succ]
              refine wpAnyH_ready (rs := [11]) (by kernel_rfl) (by simp) ?_
              refine AllReadyH.cons rfl (fun K hK => ?_) AllReadyH.nil
              go_simp
              have HX9 := Lib.hid (HSX6.out.below hB); have hB9 := Lib.hid hB
              obtain ⟨fl, hown, hrep⟩ := HX9.out.h
              have Hown := Lib.hid hown; have Hrep := Lib.hid hrep; clear hown hrep
              have hn := below_new w10 (.cells #[.int .i64 a, .string ⟨c.toArray⟩, .string ⟨d.toArray⟩, .int .i64 e] 65)
              replace hcg := (hn.cell (p := ⟨g, 1, none⟩) (Nat.lt_of_lt_of_le hgw6 hB.size)).trans hcg
              replace hB := hB.trans (hn.mono hB.size)
              clear hn
              refine hK.out _ _ hTr (fun _ => ?_)
              clear K hK
              try simp only [Act.put, List.getElem_toArray, List.getElem_cons_zero, List.getElem_cons_succ, List.setIfInBounds_toArray, List.set_cons_zero, List.set_cons_succ]
              refine wpAnyH_ready (rs := [12]) (by kernel_rfl) (by simp) ?_
              refine AllReadyH.cons rfl (fun K hK => ?_) AllReadyH.nil
              rw [if_pos (by kernel_rfl)]
              refine wp_append1 (.tmp 51) (.tmp 61) 33 rfl W3.heap.size 65 ih (.agg #[.int .i64 0, .string ⟨#[]⟩, .string ⟨#[]⟩, .int .i64 0]) 4 48 Tryz.underlying33 Hih.out Hh0.out Hh1.out Hh2.out (by rfl) (by decide) _ _ fl Hown.out rfl [.int .i64 a, .string ⟨c.toArray⟩, .string ⟨d.toArray⟩, .int .i64 e] rfl rfl rfl (by simp [Value.oneCell']) (by have := Hxl.out; unfold maxLen; omega) (by have := Hxl.out; omega) HX9.out.sz ?_
              intro v2 w12 own2 g2 at2
              obtain ⟨p2, cap2, rfl, _, _⟩ := own2.form (Nat.succ_pos _)
              have hput := SXr.put1 (y := ⟨a, c, d, e⟩) HX9.out Hrep.out rfl own2 g2 (at2.imp (fun h => h) (fun h => ⟨_, h, Nat.le_succ _⟩))
              have hne9 : Value.ownBlock (.slice pv x.heads.length capv) ≠ some g := fun e => by have := (Hown.out.lt g e).1; have := HX9.out.lt; omega
              have hg9 := Nat.lt_of_lt_of_le HX9.out.lt HX9.out.sz
              have hcg2 := (grown_cell g2 hg9 hne9 1).trans HX9.out.c1
              have hfg2 := (grown_frozen g2 hg9 hne9 1).trans HX9.out.f1
              have Hput := Lib.hid hput
              clear hput own2 at2 hne9 hg9
              refine hK.out _ _ hTr (fun _ => ?_)
              clear K hK
              try simp only [Act.put, List.getElem_toArray, List.getElem_cons_zero, List.getElem_cons_succ, List.setIfInBounds_toArray, List.set_cons_zero, List.set_cons_succ]
              refine wpAnyH_take (i := 13) (v := .pointer (some ⟨g, 1, none⟩)) rfl (by kernel_rfl) (by kernel_rfl) (by kernel_rfl) (fun _ _ _ h => h) (Or.inl ⟨by kernel_rfl, fun W hW => by go_simp⟩) (by assumption) ?_
              try simp only [Act.put, List.getElem_toArray, List.getElem_cons_zero, List.getElem_cons_succ, List.setIfInBounds_toArray, List.set_cons_zero, List.set_cons_succ]
              refine wpAnyH_ready (rs := [14]) (by kernel_rfl) (by simp) ?_
              refine AllReadyH.cons rfl (fun K hK => ?_) AllReadyH.nil
              go_simp
              refine hK.out _ _ hTr (fun _ => ?_)
              clear K hK
              try simp only [Act.put, List.getElem_toArray, List.getElem_cons_zero, List.getElem_cons_succ, List.setIfInBounds_toArray, List.set_cons_zero, List.set_cons_succ]
              refine wpAnyH_done (by kernel_rfl) ?_ _
              clear hcg2 hfg2 hcg hB hgw6 hTr
              have HKx := Lib.hid (HKp6.out.trans ((Kept.below hB9.out (Nat.le_of_lt Hgw.out) HSX6.out.sz).trans Hput.out.2))
              go_upto_region 5 with fail
              have hwk := Hwk.out
              go_wp2_with fail
              go_roundw
              case rel => exact ⟨k1, _, _, _, _, _, by have := Hlt.out; have := Hk1.out; omega, rfl, by rw [Hk1.out, Hfs.out, ← Hx.out, Hsr.out, Hstx.out], Hput.out.1, HKx.out, by rw [Hk1.out]; exact HGr.out.heads1 _ Hnc.out Hnd.out⟩
              case measure => have := Hlt.out; have := Hk1.out; simp [intOf]; omega
            · go_simp
              go_wp2_with (go_at_call 30; refine (ref10_part ps _ 2 _ _ (HPs.out.below' hB)).mono ?_; rw [Hc.out]; rintro e9 w9 ⟨rfl, rfl⟩)
              refine hK.out _ _ hTr (fun _ => ?_)
              clear K hK
              try simp only [Act.put, List.getElem_toArray, List.getElem_cons_zero, List.getElem_cons_succ, List.setIfInBounds_toArray, List.set_cons_zero, List.set_cons_succ]
              refine wpAnyH_ready (rs := [1, 7]) (by kernel_rfl) (by simp) ?_
              refine AllReadyH.cons rfl (fun K hK => ?_) (AllReadyH.cons rfl (fun K hK => ?_) AllReadyH.nil)
              · go_simp
                refine hK.out _ _ hTr (fun _ => ?_)
                clear K hK
                try simp only [Act.put, List.getElem_toArray, List.getElem_cons_zero, List.getElem_cons_succ, List.setIfInBounds_toArray, List.set_cons_zero, List.set_cons_succ]
                refine wpAnyH_ready (rs := [7]) (by kernel_rfl) (by simp) ?_
                refine AllReadyH.cons rfl (fun K hK => ?_) AllReadyH.nil
                go_simp
                go_wp2_with (go_at_call 30; refine (ref10_part ps _ 3 _ _ (HPs.out.below' hB)).mono ?_; rw [Hd.out]; rintro e9 w9 ⟨rfl, rfl⟩)
                refine hK.out _ _ hTr (fun _ => ?_)
                clear K hK
                try simp only [Act.put, List.getElem_toArray, List.getElem_cons_zero, List.getElem_cons_succ, List.setIfInBounds_toArray, List.set_cons_zero, List.set_cons_succ]
                refine wpAnyH_ready (rs := [9]) (by kernel_rfl) (by simp) ?_
                refine AllReadyH.cons rfl (fun K hK => ?_) AllReadyH.nil
                go_simp
                go_wp2_with (go_at_call 31; refine (ref10_number ps _ 4 _ _ (HPs.out.below' hB) Hpm6.out).mono ?_; rw [He.out]; rintro e9 w10 ⟨rfl, hb9⟩; replace hcg := (hb9.cell (p := ⟨g, 1, none⟩) (Nat.lt_of_lt_of_le hgw6 hB.size)).trans hcg; replace hB := hB.trans (hb9.mono hB.size); clear hb9)
                refine hK.out _ _ hTr (fun _ => ?_)
                clear K hK
                try simp only [Act.put, List.getElem_toArray, List.getElem_cons_zero, List.getElem_cons_succ, List.setIfInBounds_toArray, List.set_cons_zero, List.set_cons_succ]
                refine wpAnyH_take (i := 10) (v := .agg #[.int .i64 a, .string ⟨c.toArray⟩, .string ⟨d.toArray⟩, .int .i64 e]) rfl (by kernel_rfl) (by kernel_rfl) (by kernel_rfl) (fun _ _ _ h => h) (Or.inl ⟨by kernel_rfl, fun W hW => by kernel_rfl⟩) (by assumption) ?_
                try simp only [Act.put, List.getElem_toArray, List.getElem_cons_zero, List.getElem_cons_succ, List.setIfInBounds_toArray, List.set_cons_zero, List.set_cons_succ]
                refine wpAnyH_ready (rs := [11]) (by kernel_rfl) (by simp) ?_
                refine AllReadyH.cons rfl (fun K hK => ?_) AllReadyH.nil
                go_simp
                have HX9 := Lib.hid (HSX6.out.below hB); have hB9 := Lib.hid hB
                obtain ⟨fl, hown, hrep⟩ := HX9.out.h
                have Hown := Lib.hid hown; have Hrep := Lib.hid hrep; clear hown hrep
                have hn := below_new w10 (.cells #[.int .i64 a, .string ⟨c.toArray⟩, .string ⟨d.toArray⟩, .int .i64 e] 65)
                replace hcg := (hn.cell (p := ⟨g, 1, none⟩) (Nat.lt_of_lt_of_le hgw6 hB.size)).trans hcg
                replace hB := hB.trans (hn.mono hB.size)
                clear hn
                refine hK.out _ _ hTr (fun _ => ?_)
                clear K hK
                try simp only [Act.put, List.getElem_toArray, List.getElem_cons_zero, List.getElem_cons_succ, List.setIfInBounds_toArray, List.set_cons_zero, List.set_cons_succ]
                refine wpAnyH_ready (rs := [12]) (by kernel_rfl) (by simp) ?_
                refine AllReadyH.cons rfl (fun K hK => ?_) AllReadyH.nil
                rw [if_pos (by kernel_rfl)]
                refine wp_append1 (.tmp 51) (.tmp 61) 33 rfl W3.heap.size 65 ih (.agg #[.int .i64 0, .string ⟨#[]⟩, .string ⟨#[]⟩, .int .i64 0]) 4 48 Tryz.underlying33 Hih.out Hh0.out Hh1.out Hh2.out (by rfl) (by decide) _ _ fl Hown.out rfl [.int .i64 a, .string ⟨c.toArray⟩, .string ⟨d.toArray⟩, .int .i64 e] rfl rfl rfl (by simp [Value.oneCell']) (by have := Hxl.out; unfold maxLen; omega) (by have := Hxl.out; omega) HX9.out.sz ?_
                intro v2 w12 own2 g2 at2
                obtain ⟨p2, cap2, rfl, _, _⟩ := own2.form (Nat.succ_pos _)
                have hput := SXr.put1 (y := ⟨a, c, d, e⟩) HX9.out Hrep.out rfl own2 g2 (at2.imp (fun h => h) (fun h => ⟨_, h, Nat.le_succ _⟩))
                have hne9 : Value.ownBlock (.slice pv x.heads.length capv) ≠ some g := fun e => by have := (Hown.out.lt g e).1; have := HX9.out.lt; omega
                have hg9 := Nat.lt_of_lt_of_le HX9.out.lt HX9.out.sz
                have hcg2 := (grown_cell g2 hg9 hne9 1).trans HX9.out.c1
                have hfg2 := (grown_frozen g2 hg9 hne9 1).trans HX9.out.f1
                have Hput := Lib.hid hput
                clear hput own2 at2 hne9 hg9
                refine hK.out _ _ hTr (fun _ => ?_)
                clear K hK
                try simp only [Act.put, List.getElem_toArray, List.getElem_cons_zero, List.getElem_cons_succ, List.setIfInBounds_toArray, List.set_cons_zero, List.set_cons_succ]
                refine wpAnyH_take (i := 13) (v := .pointer (some ⟨g, 1, none⟩)) rfl (by kernel_rfl) (by kernel_rfl) (by kernel_rfl) (fun _ _ _ h => h) (Or.inl ⟨by kernel_rfl, fun W hW => by go_simp⟩) (by assumption) ?_
                try simp only [Act.put, List.getElem_toArray, List.getElem_cons_zero, List.getElem_cons_succ, List.setIfInBounds_toArray, List.set_cons_zero, List.set_cons_succ]
                refine wpAnyH_ready (rs := [14]) (by kernel_rfl) (by simp) ?_
                refine AllReadyH.cons rfl (fun K hK => ?_) AllReadyH.nil
                go_simp
                refine hK.out _ _ hTr (fun _ => ?_)
                clear K hK
                try simp only [Act.put, List.getElem_toArray, List.getElem_cons_zero, List.getElem_cons_succ, List.setIfInBounds_toArray, List.set_cons_zero, List.set_cons_succ]
                refine wpAnyH_done (by kernel_rfl) ?_ _
                clear hcg2 hfg2 hcg hB hgw6 hTr
                have HKx := Lib.hid (HKp6.out.trans ((Kept.below hB9.out (Nat.le_of_lt Hgw.out) HSX6.out.sz).trans Hput.out.2))
                go_upto_region 5 with fail
                have hwk := Hwk.out
                go_wp2_with fail
                go_roundw
                case rel => exact ⟨k1, _, _, _, _, _, by have := Hlt.out; have := Hk1.out; omega, rfl, by rw [Hk1.out, Hfs.out, ← Hx.out, Hsr.out, Hstx.out], Hput.out.1, HKx.out, by rw [Hk1.out]; exact HGr.out.heads1 _ Hnc.out Hnd.out⟩
                case measure => have := Hlt.out; have := Hk1.out; simp [intOf]; omega
              · go_simp
                go_wp2_with (go_at_call 30; refine (ref10_part ps _ 3 _ _ (HPs.out.below' hB)).mono ?_; rw [Hd.out]; rintro e9 w9 ⟨rfl, rfl⟩)
                refine hK.out _ _ hTr (fun _ => ?_)
                clear K hK
                try simp only [Act.put, List.getElem_toArray, List.getElem_cons_zero, List.getElem_cons_succ, List.setIfInBounds_toArray, List.set_cons_zero, List.set_cons_succ]
                refine wpAnyH_ready (rs := [1, 9]) (by kernel_rfl) (by simp) ?_
                refine AllReadyH.cons rfl (fun K hK => ?_) (AllReadyH.cons rfl (fun K hK => ?_) AllReadyH.nil)
                · go_simp
                  refine hK.out _ _ hTr (fun _ => ?_)
                  clear K hK
                  try simp only [Act.put, List.getElem_toArray, List.getElem_cons_zero, List.getElem_cons_succ, List.setIfInBounds_toArray, List.set_cons_zero, List.set_cons_succ]
                  refine wpAnyH_ready (rs := [9]) (by kernel_rfl) (by simp) ?_
                  refine AllReadyH.cons rfl (fun K hK => ?_) AllReadyH.nil
                  go_simp
                  go_wp2_with (go_at_call 31; refine (ref10_number ps _ 4 _ _ (HPs.out.below' hB) Hpm6.out).mono ?_; rw [He.out]; rintro e9 w10 ⟨rfl, hb9⟩; replace hcg := (hb9.cell (p := ⟨g, 1, none⟩) (Nat.lt_of_lt_of_le hgw6 hB.size)).trans hcg; replace hB := hB.trans (hb9.mono hB.size); clear hb9)
                  refine hK.out _ _ hTr (fun _ => ?_)
                  clear K hK
                  try simp only [Act.put, List.getElem_toArray, List.getElem_cons_zero, List.getElem_cons_succ, List.setIfInBounds_toArray, List.set_cons_zero, List.set_cons_succ]
                  refine wpAnyH_take (i := 10) (v := .agg #[.int .i64 a, .string ⟨c.toArray⟩, .string ⟨d.toArray⟩, .int .i64 e]) rfl (by kernel_rfl) (by kernel_rfl) (by kernel_rfl) (fun _ _ _ h => h) (Or.inl ⟨by kernel_rfl, fun W hW => by kernel_rfl⟩) (by assumption) ?_
                  try simp only [Act.put, List.getElem_toArray, List.getElem_cons_zero, List.getElem_cons_succ, List.setIfInBounds_toArray, List.set_cons_zero, List.set_cons_succ]
                  refine wpAnyH_ready (rs := [11]) (by kernel_rfl) (by simp) ?_
                  refine AllReadyH.cons rfl (fun K hK => ?_) AllReadyH.nil
                  go_simp
                  have HX9 := Lib.hid (HSX6.out.below hB); have hB9 := Lib.hid hB
                  obtain ⟨fl, hown, hrep⟩ := HX9.out.h
                  have Hown := Lib.hid hown; have Hrep := Lib.hid hrep; clear hown hrep
                  have hn := below_new w10 (.cells #[.int .i64 a, .string ⟨c.toArray⟩, .string ⟨d.toArray⟩, .int .i64 e] 65)
                  replace hcg := (hn.cell (p := ⟨g, 1, none⟩) (Nat.lt_of_lt_of_le hgw6 hB.size)).trans hcg
                  replace hB := hB.trans (hn.mono hB.size)
                  clear hn
                  refine hK.out _ _ hTr (fun _ => ?_)
                  clear K hK
                  try simp only [Act.put, List.getElem_toArray, List.getElem_cons_zero, List.getElem_cons_succ, List.setIfInBounds_toArray, List.set_cons_zero, List.set_cons_succ]
                  refine wpAnyH_ready (rs := [12]) (by kernel_rfl) (by simp) ?_
                  refine AllReadyH.cons rfl (fun K hK => ?_) AllReadyH.nil
                  rw [if_pos (by kernel_rfl)]
                  refine wp_append1 (.tmp 51) (.tmp 61) 33 rfl W3.heap.size 65 ih (.agg #[.int .i64 0, .string ⟨#[]⟩, .string ⟨#[]⟩, .int .i64 0]) 4 48 Tryz.underlying33 Hih.out Hh0.out Hh1.out Hh2.out (by rfl) (by decide) _ _ fl Hown.out rfl [.int .i64 a, .string ⟨c.toArray⟩, .string ⟨d.toArray⟩, .int .i64 e] rfl rfl rfl (by simp [Value.oneCell']) (by have := Hxl.out; unfold maxLen; omega) (by have := Hxl.out; omega) HX9.out.sz ?_
                  intro v2 w12 own2 g2 at2
                  obtain ⟨p2, cap2, rfl, _, _⟩ := own2.form (Nat.succ_pos _)
                  have hput := SXr.put1 (y := ⟨a, c, d, e⟩) HX9.out Hrep.out rfl own2 g2 (at2.imp (fun h => h) (fun h => ⟨_, h, Nat.le_succ _⟩))
                  have hne9 : Value.ownBlock (.slice pv x.heads.length capv) ≠ some g := fun e => by have := (Hown.out.lt g e).1; have := HX9.out.lt; omega
                  have hg9 := Nat.lt_of_lt_of_le HX9.out.lt HX9.out.sz
                  have hcg2 := (grown_cell g2 hg9 hne9 1).trans HX9.out.c1
                  have hfg2 := (grown_frozen g2 hg9 hne9 1).trans HX9.out.f1
                  have Hput := Lib.hid hput
                  clear hput own2 at2 hne9 hg9
                  refine hK.out _ _ hTr (fun _ => ?_)
                  clear K hK
                  try simp only [Act.put, List.getElem_toArray, List.getElem_cons_zero, List.getElem_cons_succ, List.setIfInBounds_toArray, List.set_cons_zero, List.set_cons_succ]
                  refine wpAnyH_take (i := 13) (v := .pointer (some ⟨g, 1, none⟩)) rfl (by kernel_rfl) (by kernel_rfl) (by kernel_rfl) (fun _ _ _ h => h) (Or.inl ⟨by kernel_rfl, fun W hW => by go_simp⟩) (by assumption) ?_
                  try simp only [Act.put, List.getElem_toArray, List.getElem_cons_zero, List.getElem_cons_succ, List.setIfInBounds_toArray, List.set_cons_zero, List.set_cons_succ]
                  refine wpAnyH_ready (rs := [14]) (by kernel_rfl) (by simp) ?_
                  refine AllReadyH.cons rfl (fun K hK => ?_) AllReadyH.nil
                  go_simp
                  refine hK.out _ _ hTr (fun _ => ?_)
                  clear K hK
                  try simp only [Act.put, List.getElem_toArray, List.getElem_cons_zero, List.getElem_cons_succ, List.setIfInBounds_toArray, List.set_cons_zero, List.set_cons_succ]
                  refine wpAnyH_done (by kernel_rfl) ?_ _
                  clear hcg2 hfg2 hcg hB hgw6 hTr
                  have HKx := Lib.hid (HKp6.out.trans ((Kept.below hB9.out (Nat.le_of_lt Hgw.out) HSX6.out.sz).trans Hput.out.2))
                  go_upto_region 5 with fail
                  have hwk := Hwk.out
                  go_wp2_with fail
                  go_roundw
                  case rel => exact ⟨k1, _, _, _, _, _, by have := Hlt.out; have := Hk1.out; omega, rfl, by rw [Hk1.out, Hfs.out, ← Hx.out, Hsr.out, Hstx.out], Hput.out.1, HKx.out, by rw [Hk1.out]; exact HGr.out.heads1 _ Hnc.out Hnd.out⟩
                  case measure => have := Hlt.out; have := Hk1.out; simp [intOf]; omega
                · go_simp
                  go_wp2_with (go_at_call 31; refine (ref10_number ps _ 4 _ _ (HPs.out.below' hB) Hpm6.out).mono ?_; rw [He.out]; rintro e9 w10 ⟨rfl, hb9⟩; replace hcg := (hb9.cell (p := ⟨g, 1, none⟩) (Nat.lt_of_lt_of_le hgw6 hB.size)).trans hcg; replace hB := hB.trans (hb9.mono hB.size); clear hb9)
                  refine hK.out _ _ hTr (fun _ => ?_)
                  clear K hK
                  try simp only [Act.put, List.getElem_toArray, List.getElem_cons_zero, List.getElem_cons_succ, List.setIfInBounds_toArray, List.set_cons_zero, List.set_cons_succ]
                  refine wpAnyH_take (i := 10) (v := .agg #[.int .i64 a, .string ⟨c.toArray⟩, .string ⟨d.toArray⟩, .int .i64 e]) rfl (by kernel_rfl) (by kernel_rfl) (by kernel_rfl) (fun _ _ _ h => h) (Or.inl ⟨by kernel_rfl, fun W hW => by kernel_rfl⟩) (by assumption) ?_
                  try simp only [Act.put, List.getElem_toArray, List.getElem_cons_zero, List.getElem_cons_succ, List.setIfInBounds_toArray, List.set_cons_zero, List.set_cons_succ]
                  refine wpAnyH_ready (rs := [1, 11]) (by kernel_rfl) (by simp) ?_
                  refine AllReadyH.cons rfl (fun K hK => ?_) (AllReadyH.cons rfl (fun K hK => ?_) AllReadyH.nil)
                  · go_simp
                    refine hK.out _ _ hTr (fun _ => ?_)
                    clear K hK
                    try simp only [Act.put, List.getElem_toArray, List.getElem_cons_zero, List.getElem_cons_succ, List.setIfInBounds_toArray, List.set_cons_zero, List.set_cons_succ]
                    refine wpAnyH_ready (rs := [11]) (by kernel_rfl) (by simp) ?_
                    refine AllReadyH.cons rfl (fun K hK => ?_) AllReadyH.nil
                    go_simp
                    have HX9 := Lib.hid (HSX6.out.below hB); have hB9 := Lib.hid hB
                    obtain ⟨fl, hown, hrep⟩ := HX9.out.h
                    have Hown := Lib.hid hown; have Hrep := Lib.hid hrep; clear hown hrep
                    have hn := below_new w10 (.cells #[.int .i64 a, .string ⟨c.toArray⟩, .string ⟨d.toArray⟩, .int .i64 e] 65)
                    replace hcg := (hn.cell (p := ⟨g, 1, none⟩) (Nat.lt_of_lt_of_le hgw6 hB.size)).trans hcg
                    replace hB := hB.trans (hn.mono hB.size)
                    clear hn
                    refine hK.out _ _ hTr (fun _ => ?_)
                    clear K hK
                    try simp only [Act.put, List.getElem_toArray, List.getElem_cons_zero, List.getElem_cons_succ, List.setIfInBounds_toArray, List.set_cons_zero, List.set_cons_succ]
                    refine wpAnyH_ready (rs := [12]) (by kernel_rfl) (by simp) ?_
                    refine AllReadyH.cons rfl (fun K hK => ?_) AllReadyH.nil
                    rw [if_pos (by kernel_rfl)]
                    refine wp_append1 (.tmp 51) (.tmp 61) 33 rfl W3.heap.size 65 ih (.agg #[.int .i64 0, .string ⟨#[]⟩, .string ⟨#[]⟩, .int .i64 0]) 4 48 Tryz.underlying33 Hih.out Hh0.out Hh1.out Hh2.out (by rfl) (by decide) _ _ fl Hown.out rfl [.int .i64 a, .string ⟨c.toArray⟩, .string ⟨d.toArray⟩, .int .i64 e] rfl rfl rfl (by simp [Value.oneCell']) (by have := Hxl.out; unfold maxLen; omega) (by have := Hxl.out; omega) HX9.out.sz ?_
                    intro v2 w12 own2 g2 at2
                    obtain ⟨p2, cap2, rfl, _, _⟩ := own2.form (Nat.succ_pos _)
                    have hput := SXr.put1 (y := ⟨a, c, d, e⟩) HX9.out Hrep.out rfl own2 g2 (at2.imp (fun h => h) (fun h => ⟨_, h, Nat.le_succ _⟩))
                    have hne9 : Value.ownBlock (.slice pv x.heads.length capv) ≠ some g := fun e => by have := (Hown.out.lt g e).1; have := HX9.out.lt; omega
                    have hg9 := Nat.lt_of_lt_of_le HX9.out.lt HX9.out.sz
                    have hcg2 := (grown_cell g2 hg9 hne9 1).trans HX9.out.c1
                    have hfg2 := (grown_frozen g2 hg9 hne9 1).trans HX9.out.f1
                    have Hput := Lib.hid hput
                    clear hput own2 at2 hne9 hg9
                    refine hK.out _ _ hTr (fun _ => ?_)
                    clear K hK
                    try simp only [Act.put, List.getElem_toArray, List.getElem_cons_zero, List.getElem_cons_succ, List.setIfInBounds_toArray, List.set_cons_zero, List.set_cons_succ]
                    refine wpAnyH_take (i := 13) (v := .pointer (some ⟨g, 1, none⟩)) rfl (by kernel_rfl) (by kernel_rfl) (by kernel_rfl) (fun _ _ _ h => h) (Or.inl ⟨by kernel_rfl, fun W hW => by go_simp⟩) (by assumption) ?_
                    try simp only [Act.put, List.getElem_toArray, List.getElem_cons_zero, List.getElem_cons_succ, List.setIfInBounds_toArray, List.set_cons_zero, List.set_cons_succ]
                    refine wpAnyH_ready (rs := [14]) (by kernel_rfl) (by simp) ?_
                    refine AllReadyH.cons rfl (fun K hK => ?_) AllReadyH.nil
                    go_simp
                    refine hK.out _ _ hTr (fun _ => ?_)
                    clear K hK
                    try simp only [Act.put, List.getElem_toArray, List.getElem_cons_zero, List.getElem_cons_succ, List.setIfInBounds_toArray, List.set_cons_zero, List.set_cons_succ]
                    refine wpAnyH_done (by kernel_rfl) ?_ _
                    clear hcg2 hfg2 hcg hB hgw6 hTr
                    have HKx := Lib.hid (HKp6.out.trans ((Kept.below hB9.out (Nat.le_of_lt Hgw.out) HSX6.out.sz).trans Hput.out.2))
                    go_upto_region 5 with fail
                    have hwk := Hwk.out
                    go_wp2_with fail
                    go_roundw
                    case rel => exact ⟨k1, _, _, _, _, _, by have := Hlt.out; have := Hk1.out; omega, rfl, by rw [Hk1.out, Hfs.out, ← Hx.out, Hsr.out, Hstx.out], Hput.out.1, HKx.out, by rw [Hk1.out]; exact HGr.out.heads1 _ Hnc.out Hnd.out⟩
                    case measure => have := Hlt.out; have := Hk1.out; simp [intOf]; omega
                  · go_simp
                    have HX9 := Lib.hid (HSX6.out.below hB); have hB9 := Lib.hid hB
                    obtain ⟨fl, hown, hrep⟩ := HX9.out.h
                    have Hown := Lib.hid hown; have Hrep := Lib.hid hrep; clear hown hrep
                    have hn := below_new w10 (.cells #[.int .i64 a, .string ⟨c.toArray⟩, .string ⟨d.toArray⟩, .int .i64 e] 65)
                    replace hcg := (hn.cell (p := ⟨g, 1, none⟩) (Nat.lt_of_lt_of_le hgw6 hB.size)).trans hcg
                    replace hB := hB.trans (hn.mono hB.size)
                    clear hn
                    refine hK.out _ _ hTr (fun _ => ?_)
                    clear K hK
                    try simp only [Act.put, List.getElem_toArray, List.getElem_cons_zero, List.getElem_cons_succ, List.setIfInBounds_toArray, List.set_cons_zero, List.set_cons_succ]
                    refine wpAnyH_ready (rs := [1]) (by kernel_rfl) (by simp) ?_
                    refine AllReadyH.cons rfl (fun K hK => ?_) AllReadyH.nil
                    go_simp
                    refine hK.out _ _ hTr (fun _ => ?_)
                    clear K hK
                    try simp only [Act.put, List.getElem_toArray, List.getElem_cons_zero, List.getElem_cons_succ, List.setIfInBounds_toArray, List.set_cons_zero, List.set_cons_succ]
                    refine wpAnyH_ready (rs := [12]) (by kernel_rfl) (by simp) ?_
                    refine AllReadyH.cons rfl (fun K hK => ?_) AllReadyH.nil
                    rw [if_pos (by kernel_rfl)]
                    refine wp_append1 (.tmp 51) (.tmp 61) 33 rfl W3.heap.size 65 ih (.agg #[.int .i64 0, .string ⟨#[]⟩, .string ⟨#[]⟩, .int .i64 0]) 4 48 Tryz.underlying33 Hih.out Hh0.out Hh1.out Hh2.out (by rfl) (by decide) _ _ fl Hown.out rfl [.int .i64 a, .string ⟨c.toArray⟩, .string ⟨d.toArray⟩, .int .i64 e] rfl rfl rfl (by simp [Value.oneCell']) (by have := Hxl.out; unfold maxLen; omega) (by have := Hxl.out; omega) HX9.out.sz ?_
                    intro v2 w12 own2 g2 at2
                    obtain ⟨p2, cap2, rfl, _, _⟩ := own2.form (Nat.succ_pos _)
                    have hput := SXr.put1 (y := ⟨a, c, d, e⟩) HX9.out Hrep.out rfl own2 g2 (at2.imp (fun h => h) (fun h => ⟨_, h, Nat.le_succ _⟩))
                    have hne9 : Value.ownBlock (.slice pv x.heads.length capv) ≠ some g := fun e => by have := (Hown.out.lt g e).1; have := HX9.out.lt; omega
                    have hg9 := Nat.lt_of_lt_of_le HX9.out.lt HX9.out.sz
                    have hcg2 := (grown_cell g2 hg9 hne9 1).trans HX9.out.c1
                    have hfg2 := (grown_frozen g2 hg9 hne9 1).trans HX9.out.f1
                    have Hput := Lib.hid hput
                    clear hput own2 at2 hne9 hg9
                    refine hK.out _ _ hTr (fun _ => ?_)
                    clear K hK
                    try simp only [Act.put, List.getElem_toArray, List.getElem_cons_zero, List.getElem_cons_succ, List.setIfInBounds_toArray, List.set_cons_zero, List.set_cons_succ]
                    refine wpAnyH_take (i := 13) (v := .pointer (some ⟨g, 1, none⟩)) rfl (by kernel_rfl) (by kernel_rfl) (by kernel_rfl) (fun _ _ _ h => h) (Or.inl ⟨by kernel_rfl, fun W hW => by go_simp⟩) (by assumption) ?_
                    try simp only [Act.put, List.getElem_toArray, List.getElem_cons_zero, List.getElem_cons_succ, List.setIfInBounds_toArray, List.set_cons_zero, List.set_cons_succ]
                    refine wpAnyH_ready (rs := [14]) (by kernel_rfl) (by simp) ?_
                    refine AllReadyH.cons rfl (fun K hK => ?_) AllReadyH.nil
                    go_simp
                    refine hK.out _ _ hTr (fun _ => ?_)
                    clear K hK
                    try simp only [Act.put, List.getElem_toArray, List.getElem_cons_zero, List.getElem_cons_succ, List.setIfInBounds_toArray, List.set_cons_zero, List.set_cons_succ]
                    refine wpAnyH_done (by kernel_rfl) ?_ _
                    clear hcg2 hfg2 hcg hB hgw6 hTr
                    have HKx := Lib.hid (HKp6.out.trans ((Kept.below hB9.out (Nat.le_of_lt Hgw.out) HSX6.out.sz).trans Hput.out.2))
                    go_upto_region 5 with fail
                    have hwk := Hwk.out
                    go_wp2_with fail
                    go_roundw
                    case rel => exact ⟨k1, _, _, _, _, _, by have := Hlt.out; have := Hk1.out; omega, rfl, by rw [Hk1.out, Hfs.out, ← Hx.out, Hsr.out, Hstx.out], Hput.out.1, HKx.out, by rw [Hk1.out]; exact HGr.out.heads1 _ Hnc.out Hnd.out⟩
                    case measure => have := Hlt.out; have := Hk1.out; simp [intOf]; omega
        · by_cases hw2 : p0 = Sd.citeW
          · obtain ⟨a, ha⟩ : ∃ a, Sd.part ps 1 = a := ⟨_, rfl⟩
            have Ha := Lib.hid ha
            have Hstx := Lib.hid (show Sd.stepP x ps = { x with cites := x.cites ++ [a] } by rw [Hst.out, if_neg hw0, if_neg hw1, if_pos hw2]; simp only [Ha.out])
            have Hna := Lib.hid (show a.length ≤ s.length by rw [← Ha.out]; exact Hpt.out 1)
            clear ha
            obtain ⟨pv, capv, hfv⟩ := HSX6.out.c.form
            subst hfv
            have hgl := HGr.out.cites
            have Hxl := Lib.hid (show x.cites.length ≤ 1000000 by have := Htl.out; have := Hs.out; have := Hlt.out; omega)
            clear hgl
            have Hhw := Lib.hid hw2
            have g0' : ¬ p0 = [108, 97, 98, 101, 108] := hw0; have g1' : ¬ p0 = [104, 101, 97, 100] := hw1; have g2' : p0 = [99, 105, 116, 101] := hw2
            go_upto_region 13 with fail
            clear g0' g1' g2'
            clear hw0 hw1 hw2
            refine wp_region_any (by kernel_rfl) ?_
            change wpAny _ _ _ _ _ _ _ (World.drew _)
            have hB : Below w6.heap.size w6 w6.drew := (Below.refl _ _).drew
            have hcg : w6.drew.cell? ⟨g, 2, none⟩ = some (.slice pv x.cites.length capv) := HSX6.out.c2
            have hgw6 : g < w6.heap.size := Nat.lt_of_lt_of_le HSX6.out.lt HSX6.out.sz
            have hTr : True := trivial
            generalize w6.drew = w8 at hB hcg ⊢
            refine wpAny_of_held (S := fun W => True) _ _ _ _ ?_
            refine wpAnyH_take (i := 0) (v := .pointer (some ⟨g, 2, none⟩)) rfl (by kernel_rfl) (by kernel_rfl) (by kernel_rfl) (fun _ _ _ h => h) (Or.inl ⟨by kernel_rfl, fun W hW => by go_simp⟩) (by assumption) ?_
            try simp only [Act.put, List.getElem_toArray, List.getElem_cons_zero, List.getElem_cons_succ, List.setIfInBounds_toArray, List.set_cons_zero, List.set_cons_succ]
            refine wpAnyH_take (i := 2) (v := .slice pp ps.length cp) rfl (by kernel_rfl) (by kernel_rfl) (by kernel_rfl) (fun _ _ _ h => h) (Or.inl ⟨by kernel_rfl, fun W hW => by kernel_rfl⟩) (by assumption) ?_
            try simp only [Act.put, List.getElem_toArray, List.getElem_cons_zero, List.getElem_cons_succ, List.setIfInBounds_toArray, List.set_cons_zero, List.set_cons_succ]
            refine wpAnyH_ready (rs := [1, 3]) (by kernel_rfl) (by simp) ?_
            refine AllReadyH.cons rfl (fun K hK => ?_) (AllReadyH.cons rfl (fun K hK => ?_) AllReadyH.nil)
            · go_simp
              refine hK.out _ _ hTr (fun _ => ?_)
              clear K hK
              try simp only [Act.put, List.getElem_toArray, List.getElem_cons_zero, List.getElem_cons_succ, List.setIfInBounds_toArray, List.set_cons_zero, List.set_cons_succ]
              refine wpAnyH_ready (rs := [3]) (by kernel_rfl) (by simp) ?_
              refine AllReadyH.cons rfl (fun K hK => ?_) AllReadyH.nil
              go_simp
              go_wp2_with (go_at_call 30; refine (ref10_part ps _ 1 _ _ (HPs.out.below' hB)).mono ?_; rw [Ha.out]; rintro e9 w9 ⟨rfl, rfl⟩)
              refine hK.out _ _ hTr (fun _ => ?_)
              clear K hK
              try simp only [Act.put, List.getElem_toArray, List.getElem_cons_zero, List.getElem_cons_succ, List.setIfInBounds_toArray, List.set_cons_zero, List.set_cons_succ]
              refine wpAnyH_ready (rs := [4]) (by kernel_rfl) (by simp) ?_
              refine AllReadyH.cons rfl (fun K hK => ?_) AllReadyH.nil
              go_simp
              have HX9 := Lib.hid (HSX6.out.below hB); have hB9 := Lib.hid hB
              obtain ⟨fl, hown, hrep⟩ := HX9.out.c
              have Hown := Lib.hid hown; have Hrep := Lib.hid hrep; clear hown hrep
              have hn := below_new w8 (.cells #[.string ⟨a.toArray⟩] 9)
              replace hcg := (hn.cell (p := ⟨g, 2, none⟩) (Nat.lt_of_lt_of_le hgw6 hB.size)).trans hcg
              replace hB := hB.trans (hn.mono hB.size)
              clear hn
              refine hK.out _ _ hTr (fun _ => ?_)
              clear K hK
              try simp only [Act.put, List.getElem_toArray, List.getElem_cons_zero, List.getElem_cons_succ, List.setIfInBounds_toArray, List.set_cons_zero, List.set_cons_succ]
              refine wpAnyH_ready (rs := [5]) (by kernel_rfl) (by simp) ?_
              refine AllReadyH.cons rfl (fun K hK => ?_) AllReadyH.nil
              rw [if_pos (by kernel_rfl)]
              refine wp_append1 (.tmp 67) (.tmp 70) 24 rfl W3.heap.size 9 is (.string ⟨#[]⟩) 1 16 Tryz.underlying24 His.out Hs0.out Hs1.out Hs2.out (by rfl) (by decide) _ _ fl Hown.out rfl [.string ⟨a.toArray⟩] rfl rfl rfl (by simp [Value.oneCell']) (by have := Hxl.out; unfold maxLen; omega) (by have := Hxl.out; omega) HX9.out.sz ?_
              intro v2 w12 own2 g2 at2
              obtain ⟨p2, cap2, rfl, _, _⟩ := own2.form (Nat.succ_pos _)
              have hput := SXr.put2 (y := a) HX9.out Hrep.out rfl own2 g2 (at2.imp (fun h => h) (fun h => ⟨_, h, Nat.le_succ _⟩))
              have hne9 : Value.ownBlock (.slice pv x.cites.length capv) ≠ some g := fun e => by have := (Hown.out.lt g e).1; have := HX9.out.lt; omega
              have hg9 := Nat.lt_of_lt_of_le HX9.out.lt HX9.out.sz
              have hcg2 := (grown_cell g2 hg9 hne9 2).trans HX9.out.c2
              have hfg2 := (grown_frozen g2 hg9 hne9 2).trans HX9.out.f2
              have Hput := Lib.hid hput
              clear hput own2 at2 hne9 hg9
              refine hK.out _ _ hTr (fun _ => ?_)
              clear K hK
              try simp only [Act.put, List.getElem_toArray, List.getElem_cons_zero, List.getElem_cons_succ, List.setIfInBounds_toArray, List.set_cons_zero, List.set_cons_succ]
              refine wpAnyH_take (i := 6) (v := .pointer (some ⟨g, 2, none⟩)) rfl (by kernel_rfl) (by kernel_rfl) (by kernel_rfl) (fun _ _ _ h => h) (Or.inl ⟨by kernel_rfl, fun W hW => by go_simp⟩) (by assumption) ?_
              try simp only [Act.put, List.getElem_toArray, List.getElem_cons_zero, List.getElem_cons_succ, List.setIfInBounds_toArray, List.set_cons_zero, List.set_cons_succ]
              refine wpAnyH_ready (rs := [7]) (by kernel_rfl) (by simp) ?_
              refine AllReadyH.cons rfl (fun K hK => ?_) AllReadyH.nil
              go_simp
              refine hK.out _ _ hTr (fun _ => ?_)
              clear K hK
              try simp only [Act.put, List.getElem_toArray, List.getElem_cons_zero, List.getElem_cons_succ, List.setIfInBounds_toArray, List.set_cons_zero, List.set_cons_succ]
              refine wpAnyH_done (by kernel_rfl) ?_ _
              clear hcg2 hfg2 hcg hB hgw6 hTr
              have HKx := Lib.hid (HKp6.out.trans ((Kept.below hB9.out (Nat.le_of_lt Hgw.out) HSX6.out.sz).trans Hput.out.2))
              go_upto_region 5 with fail
              have hwk := Hwk.out
              go_wp2_with fail
              go_roundw
              case rel => exact ⟨k1, _, _, _, _, _, by have := Hlt.out; have := Hk1.out; omega, rfl, by rw [Hk1.out, Hfs.out, ← Hx.out, Hsr.out, Hstx.out], Hput.out.1, HKx.out, by rw [Hk1.out]; exact HGr.out.cites1 _ Hna.out⟩
              case measure => have := Hlt.out; have := Hk1.out; simp [intOf]; omega
            · go_simp
              go_wp2_with (go_at_call 30; refine (ref10_part ps _ 1 _ _ (HPs.out.below' hB)).mono ?_; rw [Ha.out]; rintro e9 w9 ⟨rfl, rfl⟩)
              refine hK.out _ _ hTr (fun _ => ?_)
              clear K hK
              try simp only [Act.put, List.getElem_toArray, List.getElem_cons_zero, List.getElem_cons_succ, List.setIfInBounds_toArray, List.set_cons_zero, List.set_cons_succ]
              refine wpAnyH_ready (rs := [1, 4]) (by kernel_rfl) (by simp) ?_
              refine AllReadyH.cons rfl (fun K hK => ?_) (AllReadyH.cons rfl (fun K hK => ?_) AllReadyH.nil)
              · go_simp
                refine hK.out _ _ hTr (fun _ => ?_)
                clear K hK
                try simp only [Act.put, List.getElem_toArray, List.getElem_cons_zero, List.getElem_cons_succ, List.setIfInBounds_toArray, List.set_cons_zero, List.set_cons_succ]
                refine wpAnyH_ready (rs := [4]) (by kernel_rfl) (by simp) ?_
                refine AllReadyH.cons rfl (fun K hK => ?_) AllReadyH.nil
                go_simp
                have HX9 := Lib.hid (HSX6.out.below hB); have hB9 := Lib.hid hB
                obtain ⟨fl, hown, hrep⟩ := HX9.out.c
                have Hown := Lib.hid hown; have Hrep := Lib.hid hrep; clear hown hrep
                have hn := below_new w8 (.cells #[.string ⟨a.toArray⟩] 9)
                replace hcg := (hn.cell (p := ⟨g, 2, none⟩) (Nat.lt_of_lt_of_le hgw6 hB.size)).trans hcg
                replace hB := hB.trans (hn.mono hB.size)
                clear hn
                refine hK.out _ _ hTr (fun _ => ?_)
                clear K hK
                try simp only [Act.put, List.getElem_toArray, List.getElem_cons_zero, List.getElem_cons_succ, List.setIfInBounds_toArray, List.set_cons_zero, List.set_cons_succ]
                refine wpAnyH_ready (rs := [5]) (by kernel_rfl) (by simp) ?_
                refine AllReadyH.cons rfl (fun K hK => ?_) AllReadyH.nil
                rw [if_pos (by kernel_rfl)]
                refine wp_append1 (.tmp 67) (.tmp 70) 24 rfl W3.heap.size 9 is (.string ⟨#[]⟩) 1 16 Tryz.underlying24 His.out Hs0.out Hs1.out Hs2.out (by rfl) (by decide) _ _ fl Hown.out rfl [.string ⟨a.toArray⟩] rfl rfl rfl (by simp [Value.oneCell']) (by have := Hxl.out; unfold maxLen; omega) (by have := Hxl.out; omega) HX9.out.sz ?_
                intro v2 w12 own2 g2 at2
                obtain ⟨p2, cap2, rfl, _, _⟩ := own2.form (Nat.succ_pos _)
                have hput := SXr.put2 (y := a) HX9.out Hrep.out rfl own2 g2 (at2.imp (fun h => h) (fun h => ⟨_, h, Nat.le_succ _⟩))
                have hne9 : Value.ownBlock (.slice pv x.cites.length capv) ≠ some g := fun e => by have := (Hown.out.lt g e).1; have := HX9.out.lt; omega
                have hg9 := Nat.lt_of_lt_of_le HX9.out.lt HX9.out.sz
                have hcg2 := (grown_cell g2 hg9 hne9 2).trans HX9.out.c2
                have hfg2 := (grown_frozen g2 hg9 hne9 2).trans HX9.out.f2
                have Hput := Lib.hid hput
                clear hput own2 at2 hne9 hg9
                refine hK.out _ _ hTr (fun _ => ?_)
                clear K hK
                try simp only [Act.put, List.getElem_toArray, List.getElem_cons_zero, List.getElem_cons_succ, List.setIfInBounds_toArray, List.set_cons_zero, List.set_cons_succ]
                refine wpAnyH_take (i := 6) (v := .pointer (some ⟨g, 2, none⟩)) rfl (by kernel_rfl) (by kernel_rfl) (by kernel_rfl) (fun _ _ _ h => h) (Or.inl ⟨by kernel_rfl, fun W hW => by go_simp⟩) (by assumption) ?_
                try simp only [Act.put, List.getElem_toArray, List.getElem_cons_zero, List.getElem_cons_succ, List.setIfInBounds_toArray, List.set_cons_zero, List.set_cons_succ]
                refine wpAnyH_ready (rs := [7]) (by kernel_rfl) (by simp) ?_
                refine AllReadyH.cons rfl (fun K hK => ?_) AllReadyH.nil
                go_simp
                refine hK.out _ _ hTr (fun _ => ?_)
                clear K hK
                try simp only [Act.put, List.getElem_toArray, List.getElem_cons_zero, List.getElem_cons_succ, List.setIfInBounds_toArray, List.set_cons_zero, List.set_cons_succ]
                refine wpAnyH_done (by kernel_rfl) ?_ _
                clear hcg2 hfg2 hcg hB hgw6 hTr
                have HKx := Lib.hid (HKp6.out.trans ((Kept.below hB9.out (Nat.le_of_lt Hgw.out) HSX6.out.sz).trans Hput.out.2))
                go_upto_region 5 with fail
                have hwk := Hwk.out
                go_wp2_with fail
                go_roundw
                case rel => exact ⟨k1, _, _, _, _, _, by have := Hlt.out; have := Hk1.out; omega, rfl, by rw [Hk1.out, Hfs.out, ← Hx.out, Hsr.out, Hstx.out], Hput.out.1, HKx.out, by rw [Hk1.out]; exact HGr.out.cites1 _ Hna.out⟩
                case measure => have := Hlt.out; have := Hk1.out; simp [intOf]; omega
              · go_simp
                have HX9 := Lib.hid (HSX6.out.below hB); have hB9 := Lib.hid hB
                obtain ⟨fl, hown, hrep⟩ := HX9.out.c
                have Hown := Lib.hid hown; have Hrep := Lib.hid hrep; clear hown hrep
                have hn := below_new w8 (.cells #[.string ⟨a.toArray⟩] 9)
                replace hcg := (hn.cell (p := ⟨g, 2, none⟩) (Nat.lt_of_lt_of_le hgw6 hB.size)).trans hcg
                replace hB := hB.trans (hn.mono hB.size)
                clear hn
                refine hK.out _ _ hTr (fun _ => ?_)
                clear K hK
                try simp only [Act.put, List.getElem_toArray, List.getElem_cons_zero, List.getElem_cons_succ, List.setIfInBounds_toArray, List.set_cons_zero, List.set_cons_succ]
                refine wpAnyH_ready (rs := [1]) (by kernel_rfl) (by simp) ?_
                refine AllReadyH.cons rfl (fun K hK => ?_) AllReadyH.nil
                go_simp
                refine hK.out _ _ hTr (fun _ => ?_)
                clear K hK
                try simp only [Act.put, List.getElem_toArray, List.getElem_cons_zero, List.getElem_cons_succ, List.setIfInBounds_toArray, List.set_cons_zero, List.set_cons_succ]
                refine wpAnyH_ready (rs := [5]) (by kernel_rfl) (by simp) ?_
                refine AllReadyH.cons rfl (fun K hK => ?_) AllReadyH.nil
                rw [if_pos (by kernel_rfl)]
                refine wp_append1 (.tmp 67) (.tmp 70) 24 rfl W3.heap.size 9 is (.string ⟨#[]⟩) 1 16 Tryz.underlying24 His.out Hs0.out Hs1.out Hs2.out (by rfl) (by decide) _ _ fl Hown.out rfl [.string ⟨a.toArray⟩] rfl rfl rfl (by simp [Value.oneCell']) (by have := Hxl.out; unfold maxLen; omega) (by have := Hxl.out; omega) HX9.out.sz ?_
                intro v2 w12 own2 g2 at2
                obtain ⟨p2, cap2, rfl, _, _⟩ := own2.form (Nat.succ_pos _)
                have hput := SXr.put2 (y := a) HX9.out Hrep.out rfl own2 g2 (at2.imp (fun h => h) (fun h => ⟨_, h, Nat.le_succ _⟩))
                have hne9 : Value.ownBlock (.slice pv x.cites.length capv) ≠ some g := fun e => by have := (Hown.out.lt g e).1; have := HX9.out.lt; omega
                have hg9 := Nat.lt_of_lt_of_le HX9.out.lt HX9.out.sz
                have hcg2 := (grown_cell g2 hg9 hne9 2).trans HX9.out.c2
                have hfg2 := (grown_frozen g2 hg9 hne9 2).trans HX9.out.f2
                have Hput := Lib.hid hput
                clear hput own2 at2 hne9 hg9
                refine hK.out _ _ hTr (fun _ => ?_)
                clear K hK
                try simp only [Act.put, List.getElem_toArray, List.getElem_cons_zero, List.getElem_cons_succ, List.setIfInBounds_toArray, List.set_cons_zero, List.set_cons_succ]
                refine wpAnyH_take (i := 6) (v := .pointer (some ⟨g, 2, none⟩)) rfl (by kernel_rfl) (by kernel_rfl) (by kernel_rfl) (fun _ _ _ h => h) (Or.inl ⟨by kernel_rfl, fun W hW => by go_simp⟩) (by assumption) ?_
                try simp only [Act.put, List.getElem_toArray, List.getElem_cons_zero, List.getElem_cons_succ, List.setIfInBounds_toArray, List.set_cons_zero, List.set_cons_succ]
                refine wpAnyH_ready (rs := [7]) (by kernel_rfl) (by simp) ?_
                refine AllReadyH.cons rfl (fun K hK => ?_) AllReadyH.nil
                go_simp
                refine hK.out _ _ hTr (fun _ => ?_)
                clear K hK
                try simp only [Act.put, List.getElem_toArray, List.getElem_cons_zero, List.getElem_cons_succ, List.setIfInBounds_toArray, List.set_cons_zero, List.set_cons_succ]
                refine wpAnyH_done (by kernel_rfl) ?_ _
                clear hcg2 hfg2 hcg hB hgw6 hTr
                have HKx := Lib.hid (HKp6.out.trans ((Kept.below hB9.out (Nat.le_of_lt Hgw.out) HSX6.out.sz).trans Hput.out.2))
                go_upto_region 5 with fail
                have hwk := Hwk.out
                go_wp2_with fail
                go_roundw
                case rel => exact ⟨k1, _, _, _, _, _, by have := Hlt.out; have := Hk1.out; omega, rfl, by rw [Hk1.out, Hfs.out, ← Hx.out, Hsr.out, Hstx.out], Hput.out.1, HKx.out, by rw [Hk1.out]; exact HGr.out.cites1 _ Hna.out⟩
                case measure => have := Hlt.out; have := Hk1.out; simp [intOf]; omega
          · by_cases hw3 : p0 = Sd.bibW
            · obtain ⟨a, ha⟩ : ∃ a, Sd.part ps 1 = a := ⟨_, rfl⟩
              have Ha := Lib.hid ha
              have Hstx := Lib.hid (show Sd.stepP x ps = { x with bibs := x.bibs ++ [a] } by rw [Hst.out, if_neg hw0, if_neg hw1, if_neg hw2, if_pos hw3]; simp only [Ha.out])
              have Hna := Lib.hid (show a.length ≤ s.length by rw [← Ha.out]; exact Hpt.out 1)
              clear ha
              obtain ⟨pv, capv, hfv⟩ := HSX6.out.b.form
              subst hfv
              have hgl := HGr.out.bibs
              have Hxl := Lib.hid (show x.bibs.length ≤ 1000000 by have := Htl.out; have := Hs.out; have := Hlt.out; omega)
              clear hgl
              have Hhw := Lib.hid hw3
              have g0' : ¬ p0 = [108, 97, 98, 101, 108] := hw0; have g1' : ¬ p0 = [104, 101, 97, 100] := hw1; have g2' : ¬ p0 = [99, 105, 116, 101] := hw2; have g3' : p0 = [98, 105, 98] := hw3
              go_upto_region 15 with fail
              clear g0' g1' g2' g3'
              clear hw0 hw1 hw2 hw3
              refine wp_region_any (by kernel_rfl) ?_
              change wpAny _ _ _ _ _ _ _ (World.drew _)
              have hB : Below w6.heap.size w6 w6.drew := (Below.refl _ _).drew
              have hcg : w6.drew.cell? ⟨g, 3, none⟩ = some (.slice pv x.bibs.length capv) := HSX6.out.c3
              have hgw6 : g < w6.heap.size := Nat.lt_of_lt_of_le HSX6.out.lt HSX6.out.sz
              have hTr : True := trivial
              generalize w6.drew = w8 at hB hcg ⊢
              refine wpAny_of_held (S := fun W => True) _ _ _ _ ?_
              refine wpAnyH_take (i := 0) (v := .pointer (some ⟨g, 3, none⟩)) rfl (by kernel_rfl) (by kernel_rfl) (by kernel_rfl) (fun _ _ _ h => h) (Or.inl ⟨by kernel_rfl, fun W hW => by go_simp⟩) (by assumption) ?_
              try simp only [Act.put, List.getElem_toArray, List.getElem_cons_zero, List.getElem_cons_succ, List.setIfInBounds_toArray, List.set_cons_zero, List.set_cons_succ]
              refine wpAnyH_take (i := 2) (v := .slice pp ps.length cp) rfl (by kernel_rfl) (by kernel_rfl) (by kernel_rfl) (fun _ _ _ h => h) (Or.inl ⟨by kernel_rfl, fun W hW => by kernel_rfl⟩) (by assumption) ?_
              try simp only [Act.put, List.getElem_toArray, List.getElem_cons_zero, List.getElem_cons_succ, List.setIfInBounds_toArray, List.set_cons_zero, List.set_cons_succ]
              refine wpAnyH_ready (rs := [1, 3]) (by kernel_rfl) (by simp) ?_
              refine AllReadyH.cons rfl (fun K hK => ?_) (AllReadyH.cons rfl (fun K hK => ?_) AllReadyH.nil)
              · go_simp
                refine hK.out _ _ hTr (fun _ => ?_)
                clear K hK
                try simp only [Act.put, List.getElem_toArray, List.getElem_cons_zero, List.getElem_cons_succ, List.setIfInBounds_toArray, List.set_cons_zero, List.set_cons_succ]
                refine wpAnyH_ready (rs := [3]) (by kernel_rfl) (by simp) ?_
                refine AllReadyH.cons rfl (fun K hK => ?_) AllReadyH.nil
                go_simp
                go_wp2_with (go_at_call 30; refine (ref10_part ps _ 1 _ _ (HPs.out.below' hB)).mono ?_; rw [Ha.out]; rintro e9 w9 ⟨rfl, rfl⟩)
                refine hK.out _ _ hTr (fun _ => ?_)
                clear K hK
                try simp only [Act.put, List.getElem_toArray, List.getElem_cons_zero, List.getElem_cons_succ, List.setIfInBounds_toArray, List.set_cons_zero, List.set_cons_succ]
                refine wpAnyH_ready (rs := [4]) (by kernel_rfl) (by simp) ?_
                refine AllReadyH.cons rfl (fun K hK => ?_) AllReadyH.nil
                go_simp
                have HX9 := Lib.hid (HSX6.out.below hB); have hB9 := Lib.hid hB
                obtain ⟨fl, hown, hrep⟩ := HX9.out.b
                have Hown := Lib.hid hown; have Hrep := Lib.hid hrep; clear hown hrep
                have hn := below_new w8 (.cells #[.string ⟨a.toArray⟩] 9)
                replace hcg := (hn.cell (p := ⟨g, 3, none⟩) (Nat.lt_of_lt_of_le hgw6 hB.size)).trans hcg
                replace hB := hB.trans (hn.mono hB.size)
                clear hn
                refine hK.out _ _ hTr (fun _ => ?_)
                clear K hK
                try simp only [Act.put, List.getElem_toArray, List.getElem_cons_zero, List.getElem_cons_succ, List.setIfInBounds_toArray, List.set_cons_zero, List.set_cons_succ]
                refine wpAnyH_ready (rs := [5]) (by kernel_rfl) (by simp) ?_
                refine AllReadyH.cons rfl (fun K hK => ?_) AllReadyH.nil
                rw [if_pos (by kernel_rfl)]
                refine wp_append1 (.tmp 76) (.tmp 79) 24 rfl W3.heap.size 9 is (.string ⟨#[]⟩) 1 16 Tryz.underlying24 His.out Hs0.out Hs1.out Hs2.out (by rfl) (by decide) _ _ fl Hown.out rfl [.string ⟨a.toArray⟩] rfl rfl rfl (by simp [Value.oneCell']) (by have := Hxl.out; unfold maxLen; omega) (by have := Hxl.out; omega) HX9.out.sz ?_
                intro v2 w12 own2 g2 at2
                obtain ⟨p2, cap2, rfl, _, _⟩ := own2.form (Nat.succ_pos _)
                have hput := SXr.put3 (y := a) HX9.out Hrep.out rfl own2 g2 (at2.imp (fun h => h) (fun h => ⟨_, h, Nat.le_succ _⟩))
                have hne9 : Value.ownBlock (.slice pv x.bibs.length capv) ≠ some g := fun e => by have := (Hown.out.lt g e).1; have := HX9.out.lt; omega
                have hg9 := Nat.lt_of_lt_of_le HX9.out.lt HX9.out.sz
                have hcg2 := (grown_cell g2 hg9 hne9 3).trans HX9.out.c3
                have hfg2 := (grown_frozen g2 hg9 hne9 3).trans HX9.out.f3
                have Hput := Lib.hid hput
                clear hput own2 at2 hne9 hg9
                refine hK.out _ _ hTr (fun _ => ?_)
                clear K hK
                try simp only [Act.put, List.getElem_toArray, List.getElem_cons_zero, List.getElem_cons_succ, List.setIfInBounds_toArray, List.set_cons_zero, List.set_cons_succ]
                refine wpAnyH_take (i := 6) (v := .pointer (some ⟨g, 3, none⟩)) rfl (by kernel_rfl) (by kernel_rfl) (by kernel_rfl) (fun _ _ _ h => h) (Or.inl ⟨by kernel_rfl, fun W hW => by go_simp⟩) (by assumption) ?_
                try simp only [Act.put, List.getElem_toArray, List.getElem_cons_zero, List.getElem_cons_succ, List.setIfInBounds_toArray, List.set_cons_zero, List.set_cons_succ]
                refine wpAnyH_ready (rs := [7]) (by kernel_rfl) (by simp) ?_
                refine AllReadyH.cons rfl (fun K hK => ?_) AllReadyH.nil
                go_simp
                refine hK.out _ _ hTr (fun _ => ?_)
                clear K hK
                try simp only [Act.put, List.getElem_toArray, List.getElem_cons_zero, List.getElem_cons_succ, List.setIfInBounds_toArray, List.set_cons_zero, List.set_cons_succ]
                refine wpAnyH_done (by kernel_rfl) ?_ _
                clear hcg2 hfg2 hcg hB hgw6 hTr
                have HKx := Lib.hid (HKp6.out.trans ((Kept.below hB9.out (Nat.le_of_lt Hgw.out) HSX6.out.sz).trans Hput.out.2))
                go_upto_region 5 with fail
                have hwk := Hwk.out
                go_wp2_with fail
                go_roundw
                case rel => exact ⟨k1, _, _, _, _, _, by have := Hlt.out; have := Hk1.out; omega, rfl, by rw [Hk1.out, Hfs.out, ← Hx.out, Hsr.out, Hstx.out], Hput.out.1, HKx.out, by rw [Hk1.out]; exact HGr.out.bibs1 _ Hna.out⟩
                case measure => have := Hlt.out; have := Hk1.out; simp [intOf]; omega
              · go_simp
                go_wp2_with (go_at_call 30; refine (ref10_part ps _ 1 _ _ (HPs.out.below' hB)).mono ?_; rw [Ha.out]; rintro e9 w9 ⟨rfl, rfl⟩)
                refine hK.out _ _ hTr (fun _ => ?_)
                clear K hK
                try simp only [Act.put, List.getElem_toArray, List.getElem_cons_zero, List.getElem_cons_succ, List.setIfInBounds_toArray, List.set_cons_zero, List.set_cons_succ]
                refine wpAnyH_ready (rs := [1, 4]) (by kernel_rfl) (by simp) ?_
                refine AllReadyH.cons rfl (fun K hK => ?_) (AllReadyH.cons rfl (fun K hK => ?_) AllReadyH.nil)
                · go_simp
                  refine hK.out _ _ hTr (fun _ => ?_)
                  clear K hK
                  try simp only [Act.put, List.getElem_toArray, List.getElem_cons_zero, List.getElem_cons_succ, List.setIfInBounds_toArray, List.set_cons_zero, List.set_cons_succ]
                  refine wpAnyH_ready (rs := [4]) (by kernel_rfl) (by simp) ?_
                  refine AllReadyH.cons rfl (fun K hK => ?_) AllReadyH.nil
                  go_simp
                  have HX9 := Lib.hid (HSX6.out.below hB); have hB9 := Lib.hid hB
                  obtain ⟨fl, hown, hrep⟩ := HX9.out.b
                  have Hown := Lib.hid hown; have Hrep := Lib.hid hrep; clear hown hrep
                  have hn := below_new w8 (.cells #[.string ⟨a.toArray⟩] 9)
                  replace hcg := (hn.cell (p := ⟨g, 3, none⟩) (Nat.lt_of_lt_of_le hgw6 hB.size)).trans hcg
                  replace hB := hB.trans (hn.mono hB.size)
                  clear hn
                  refine hK.out _ _ hTr (fun _ => ?_)
                  clear K hK
                  try simp only [Act.put, List.getElem_toArray, List.getElem_cons_zero, List.getElem_cons_succ, List.setIfInBounds_toArray, List.set_cons_zero, List.set_cons_succ]
                  refine wpAnyH_ready (rs := [5]) (by kernel_rfl) (by simp) ?_
                  refine AllReadyH.cons rfl (fun K hK => ?_) AllReadyH.nil
                  rw [if_pos (by kernel_rfl)]
                  refine wp_append1 (.tmp 76) (.tmp 79) 24 rfl W3.heap.size 9 is (.string ⟨#[]⟩) 1 16 Tryz.underlying24 His.out Hs0.out Hs1.out Hs2.out (by rfl) (by decide) _ _ fl Hown.out rfl [.string ⟨a.toArray⟩] rfl rfl rfl (by simp [Value.oneCell']) (by have := Hxl.out; unfold maxLen; omega) (by have := Hxl.out; omega) HX9.out.sz ?_
                  intro v2 w12 own2 g2 at2
                  obtain ⟨p2, cap2, rfl, _, _⟩ := own2.form (Nat.succ_pos _)
                  have hput := SXr.put3 (y := a) HX9.out Hrep.out rfl own2 g2 (at2.imp (fun h => h) (fun h => ⟨_, h, Nat.le_succ _⟩))
                  have hne9 : Value.ownBlock (.slice pv x.bibs.length capv) ≠ some g := fun e => by have := (Hown.out.lt g e).1; have := HX9.out.lt; omega
                  have hg9 := Nat.lt_of_lt_of_le HX9.out.lt HX9.out.sz
                  have hcg2 := (grown_cell g2 hg9 hne9 3).trans HX9.out.c3
                  have hfg2 := (grown_frozen g2 hg9 hne9 3).trans HX9.out.f3
                  have Hput := Lib.hid hput
                  clear hput own2 at2 hne9 hg9
                  refine hK.out _ _ hTr (fun _ => ?_)
                  clear K hK
                  try simp only [Act.put, List.getElem_toArray, List.getElem_cons_zero, List.getElem_cons_succ, List.setIfInBounds_toArray, List.set_cons_zero, List.set_cons_succ]
                  refine wpAnyH_take (i := 6) (v := .pointer (some ⟨g, 3, none⟩)) rfl (by kernel_rfl) (by kernel_rfl) (by kernel_rfl) (fun _ _ _ h => h) (Or.inl ⟨by kernel_rfl, fun W hW => by go_simp⟩) (by assumption) ?_
                  try simp only [Act.put, List.getElem_toArray, List.getElem_cons_zero, List.getElem_cons_succ, List.setIfInBounds_toArray, List.set_cons_zero, List.set_cons_succ]
                  refine wpAnyH_ready (rs := [7]) (by kernel_rfl) (by simp) ?_
                  refine AllReadyH.cons rfl (fun K hK => ?_) AllReadyH.nil
                  go_simp
                  refine hK.out _ _ hTr (fun _ => ?_)
                  clear K hK
                  try simp only [Act.put, List.getElem_toArray, List.getElem_cons_zero, List.getElem_cons_succ, List.setIfInBounds_toArray, List.set_cons_zero, List.set_cons_succ]
                  refine wpAnyH_done (by kernel_rfl) ?_ _
                  clear hcg2 hfg2 hcg hB hgw6 hTr
                  have HKx := Lib.hid (HKp6.out.trans ((Kept.below hB9.out (Nat.le_of_lt Hgw.out) HSX6.out.sz).trans Hput.out.2))
                  go_upto_region 5 with fail
                  have hwk := Hwk.out
                  go_wp2_with fail
                  go_roundw
                  case rel => exact ⟨k1, _, _, _, _, _, by have := Hlt.out; have := Hk1.out; omega, rfl, by rw [Hk1.out, Hfs.out, ← Hx.out, Hsr.out, Hstx.out], Hput.out.1, HKx.out, by rw [Hk1.out]; exact HGr.out.bibs1 _ Hna.out⟩
                  case measure => have := Hlt.out; have := Hk1.out; simp [intOf]; omega
                · go_simp
                  have HX9 := Lib.hid (HSX6.out.below hB); have hB9 := Lib.hid hB
                  obtain ⟨fl, hown, hrep⟩ := HX9.out.b
                  have Hown := Lib.hid hown; have Hrep := Lib.hid hrep; clear hown hrep
                  have hn := below_new w8 (.cells #[.string ⟨a.toArray⟩] 9)
                  replace hcg := (hn.cell (p := ⟨g, 3, none⟩) (Nat.lt_of_lt_of_le hgw6 hB.size)).trans hcg
                  replace hB := hB.trans (hn.mono hB.size)
                  clear hn
                  refine hK.out _ _ hTr (fun _ => ?_)
                  clear K hK
                  try simp only [Act.put, List.getElem_toArray, List.getElem_cons_zero, List.getElem_cons_succ, List.setIfInBounds_toArray, List.set_cons_zero, List.set_cons_succ]
                  refine wpAnyH_ready (rs := [1]) (by kernel_rfl) (by simp) ?_
                  refine AllReadyH.cons rfl (fun K hK => ?_) AllReadyH.nil
                  go_simp
                  refine hK.out _ _ hTr (fun _ => ?_)
                  clear K hK
                  try simp only [Act.put, List.getElem_toArray, List.getElem_cons_zero, List.getElem_cons_succ, List.setIfInBounds_toArray, List.set_cons_zero, List.set_cons_succ]
                  refine wpAnyH_ready (rs := [5]) (by kernel_rfl) (by simp) ?_
                  refine AllReadyH.cons rfl (fun K hK => ?_) AllReadyH.nil
                  rw [if_pos (by kernel_rfl)]
                  refine wp_append1 (.tmp 76) (.tmp 79) 24 rfl W3.heap.size 9 is (.string ⟨#[]⟩) 1 16 Tryz.underlying24 His.out Hs0.out Hs1.out Hs2.out (by rfl) (by decide) _ _ fl Hown.out rfl [.string ⟨a.toArray⟩] rfl rfl rfl (by simp [Value.oneCell']) (by have := Hxl.out; unfold maxLen; omega) (by have := Hxl.out; omega) HX9.out.sz ?_
                  intro v2 w12 own2 g2 at2
                  obtain ⟨p2, cap2, rfl, _, _⟩ := own2.form (Nat.succ_pos _)
                  have hput := SXr.put3 (y := a) HX9.out Hrep.out rfl own2 g2 (at2.imp (fun h => h) (fun h => ⟨_, h, Nat.le_succ _⟩))
                  have hne9 : Value.ownBlock (.slice pv x.bibs.length capv) ≠ some g := fun e => by have := (Hown.out.lt g e).1; have := HX9.out.lt; omega
                  have hg9 := Nat.lt_of_lt_of_le HX9.out.lt HX9.out.sz
                  have hcg2 := (grown_cell g2 hg9 hne9 3).trans HX9.out.c3
                  have hfg2 := (grown_frozen g2 hg9 hne9 3).trans HX9.out.f3
                  have Hput := Lib.hid hput
                  clear hput own2 at2 hne9 hg9
                  refine hK.out _ _ hTr (fun _ => ?_)
                  clear K hK
                  try simp only [Act.put, List.getElem_toArray, List.getElem_cons_zero, List.getElem_cons_succ, List.setIfInBounds_toArray, List.set_cons_zero, List.set_cons_succ]
                  refine wpAnyH_take (i := 6) (v := .pointer (some ⟨g, 3, none⟩)) rfl (by kernel_rfl) (by kernel_rfl) (by kernel_rfl) (fun _ _ _ h => h) (Or.inl ⟨by kernel_rfl, fun W hW => by go_simp⟩) (by assumption) ?_
                  try simp only [Act.put, List.getElem_toArray, List.getElem_cons_zero, List.getElem_cons_succ, List.setIfInBounds_toArray, List.set_cons_zero, List.set_cons_succ]
                  refine wpAnyH_ready (rs := [7]) (by kernel_rfl) (by simp) ?_
                  refine AllReadyH.cons rfl (fun K hK => ?_) AllReadyH.nil
                  go_simp
                  refine hK.out _ _ hTr (fun _ => ?_)
                  clear K hK
                  try simp only [Act.put, List.getElem_toArray, List.getElem_cons_zero, List.getElem_cons_succ, List.setIfInBounds_toArray, List.set_cons_zero, List.set_cons_succ]
                  refine wpAnyH_done (by kernel_rfl) ?_ _
                  clear hcg2 hfg2 hcg hB hgw6 hTr
                  have HKx := Lib.hid (HKp6.out.trans ((Kept.below hB9.out (Nat.le_of_lt Hgw.out) HSX6.out.sz).trans Hput.out.2))
                  go_upto_region 5 with fail
                  have hwk := Hwk.out
                  go_wp2_with fail
                  go_roundw
                  case rel => exact ⟨k1, _, _, _, _, _, by have := Hlt.out; have := Hk1.out; omega, rfl, by rw [Hk1.out, Hfs.out, ← Hx.out, Hsr.out, Hstx.out], Hput.out.1, HKx.out, by rw [Hk1.out]; exact HGr.out.bibs1 _ Hna.out⟩
                  case measure => have := Hlt.out; have := Hk1.out; simp [intOf]; omega
            · have Hstx := Lib.hid (show Sd.stepP x ps = x by rw [Hst.out, if_neg hw0, if_neg hw1, if_neg hw2, if_neg hw3])
              have hwk := Hwk.out
              have g0' : ¬ p0 = [108, 97, 98, 101, 108] := hw0; have g1' : ¬ p0 = [104, 101, 97, 100] := hw1; have g2' : ¬ p0 = [99, 105, 116, 101] := hw2; have g3' : ¬ p0 = [98, 105, 98] := hw3
              have b0' : (p0 == [108, 97, 98, 101, 108]) = false := beq_eq_false_iff_ne.2 g0'; have b1' : (p0 == [104, 101, 97, 100]) = false := beq_eq_false_iff_ne.2 g1'; have b2' : (p0 == [99, 105, 116, 101]) = false := beq_eq_false_iff_ne.2 g2'; have b3' : (p0 == [98, 105, 98]) = false := beq_eq_false_iff_ne.2 g3'
              clear hw0 hw1 hw2 hw3
              go_wp2_with fail
              go_roundw
              case rel => exact ⟨k1, _, _, _, _, _, by have := Hlt.out; have := Hk1.out; omega, rfl, by rw [Hk1.out, Hfs.out, ← Hx.out, Hsr.out, Hstx.out], HSX6.out, HKp6.out, by rw [Hk1.out]; exact HGr.out.up⟩
              case measure => have := Hlt.out; have := Hk1.out; simp [intOf]; omega
    · have hlt' : ¬ (k : Int) < (ts.length : Int) := by omega
      have htk : ts.take k = ts := List.take_of_length_le (by omega)
      have hx := Hx.out
      rw [htk] at hx
      obtain ⟨ql, kl, hvl⟩ := HSX.out.l.form
      obtain ⟨qh, kh, hvh⟩ := HSX.out.h.form
      obtain ⟨qc, kc, hvc⟩ := HSX.out.c.form
      obtain ⟨qb, kb, hvb⟩ := HSX.out.b.form
      subst hvl hvh hvc hvb
      have Hdec3 := Lib.hid (show Sd.dec s = if Sd.right x && Sd.encN x == s then some x else none by rw [hx]; exact Hdec.out)
      have c0 := HSX.out.c0; have c1 := HSX.out.c1; have c2 := HSX.out.c2; have c3 := HSX.out.c3
      have hsi : SideIn (fun _ => True) wr (.agg #[.slice ql x.labs.length kl, .slice qh x.heads.length kh, .slice qc x.cites.length kc, .slice qb x.bibs.length kb]) x := ⟨_, _, _, _, rfl, HSX.out.l.slice RLab.size _ (fun _ _ => trivial), HSX.out.h.slice RHd.size _ (fun _ _ => trivial), HSX.out.c.slice RStr.size _ (fun _ _ => trivial), HSX.out.b.slice RStr.size _ (fun _ _ => trivial)⟩
      have hsm : SideSm x := HGr.out.sm (by have := Htl.out; have := Hs.out; omega) Hs.out
      have Hsi := Lib.hid hsi; have Hsm := Lib.hid hsm; have Hkl := Lib.hid (show k ≤ s.length by have := Htl.out; omega)
      have henc : Sd.enc x = if Sd.right x then (Sd.encN x, 0) else ([], 5) := rfl
      clear hsi hsm htk hx hlt hk
      cases hr : Sd.right x
      · rw [hr] at henc
        have Henc := Lib.hid (henc.trans (by simp) : Sd.enc x = ([], 5))
        have Hr := Lib.hid (show Sd.dec s = none by rw [Hdec3.out, hr]; rfl)
        clear henc hr
        go_upto_region 18 with (go_at_call 11; refine (ref10_encode x _ _ _ Hsi.out Hsm.out).mono ?_; rw [Henc.out]; rintro e w6 ⟨rfl, hb⟩; have HBx := Lib.hid (HB.out.trans (hb.mono HB.out.size)); clear hb)
        clear c0 c1 c2 c3 hlt'
        have d0 := (HF0.out.below HBx.out).2 0 _ rfl; have d1 := (HF0.out.below HBx.out).2 1 _ rfl; have d2 := (HF0.out.below HBx.out).2 2 _ rfl; have d3 := (HF0.out.below HBx.out).2 3 _ rfl
        have f0 := (frozen_below (i := 0) HBx.out HF0.out.1).trans (HZ0.out 0); have f1 := (frozen_below (i := 1) HBx.out HF0.out.1).trans (HZ0.out 1); have f2 := (frozen_below (i := 2) HBx.out HF0.out.1).trans (HZ0.out 2); have f3 := (frozen_below (i := 3) HBx.out HF0.out.1).trans (HZ0.out 3)
        go_wp2_with fail
        obtain ⟨z0, z1, z2, z3⟩ := set4 g0 _ (.slice none 0 0) (.slice none 0 0) (.slice none 0 0) (.slice none 0 0) d0 d1 d2 d3
        refine ret_cell rfl rfl (load_sideR _ _ _ _ _ _ z0 z1 z2 z3) rfl ⟨set4_below (HB1.out.trans (HBx.out.mono HB1.out.size)) (show w.heap.size ≤ g0 by rw [HG0.out]; exact Nat.le_refl _) _ _ _ _, ?_⟩
        rw [Hr.out]
        rfl
      · rw [hr] at henc
        obtain ⟨en, hen⟩ : ∃ en, Sd.encN x = en := ⟨_, rfl⟩
        have Henc := Lib.hid (henc.trans (by simp [hen]) : Sd.enc x = (en, 0))
        have Hdec4 := Lib.hid (show Sd.dec s = if en == s then some x else none by rw [Hdec3.out, hr, hen]; simp)
        clear henc hr hen
        cases hes : (en == s)
        · have Hr := Lib.hid (show Sd.dec s = none by rw [Hdec4.out, hes]; rfl)
          have hne : en ≠ s := fun h => by rw [h] at hes; simp at hes
          go_upto_region 18 with (go_at_call 11; refine (ref10_encode x _ _ _ Hsi.out Hsm.out).mono ?_; rw [Henc.out]; rintro e w6 ⟨rfl, hb⟩; have HBx := Lib.hid (HB.out.trans (hb.mono HB.out.size)); clear hb)
          clear c0 c1 c2 c3 hlt' hes hne
          have d0 := (HF0.out.below HBx.out).2 0 _ rfl; have d1 := (HF0.out.below HBx.out).2 1 _ rfl; have d2 := (HF0.out.below HBx.out).2 2 _ rfl; have d3 := (HF0.out.below HBx.out).2 3 _ rfl
          have f0 := (frozen_below (i := 0) HBx.out HF0.out.1).trans (HZ0.out 0); have f1 := (frozen_below (i := 1) HBx.out HF0.out.1).trans (HZ0.out 1); have f2 := (frozen_below (i := 2) HBx.out HF0.out.1).trans (HZ0.out 2); have f3 := (frozen_below (i := 3) HBx.out HF0.out.1).trans (HZ0.out 3)
          go_wp2_with fail
          obtain ⟨z0, z1, z2, z3⟩ := set4 g0 _ (.slice none 0 0) (.slice none 0 0) (.slice none 0 0) (.slice none 0 0) d0 d1 d2 d3
          refine ret_cell rfl rfl (load_sideR _ _ _ _ _ _ z0 z1 z2 z3) rfl ⟨set4_below (HB1.out.trans (HBx.out.mono HB1.out.size)) (show w.heap.size ≤ g0 by rw [HG0.out]; exact Nat.le_refl _) _ _ _ _, ?_⟩
          rw [Hr.out]
          rfl
        · have hes2 := eq_of_beq hes
          have Hr := Lib.hid (show Sd.dec s = some x by rw [Hdec4.out, hes]; rfl)
          subst hes2
          go_upto_region 19 with (go_at_call 11; refine (ref10_encode x _ _ _ Hsi.out Hsm.out).mono ?_; rw [Henc.out]; rintro e w6 ⟨rfl, hb⟩; have HBx := Lib.hid (HB.out.trans (hb.mono HB.out.size)); have HSX6 := Lib.hid (HSX.out.below hb); clear hb)
          have c0 := HSX6.out.c0; have c1 := HSX6.out.c1; have c2 := HSX6.out.c2; have c3 := HSX6.out.c3
          have d0 := (HF0.out.below HBx.out).2 0 _ rfl; have d1 := (HF0.out.below HBx.out).2 1 _ rfl; have d2 := (HF0.out.below HBx.out).2 2 _ rfl; have d3 := (HF0.out.below HBx.out).2 3 _ rfl
          have f0 := (frozen_below (i := 0) HBx.out HF0.out.1).trans (HZ0.out 0); have f1 := (frozen_below (i := 1) HBx.out HF0.out.1).trans (HZ0.out 1); have f2 := (frozen_below (i := 2) HBx.out HF0.out.1).trans (HZ0.out 2); have f3 := (frozen_below (i := 3) HBx.out HF0.out.1).trans (HZ0.out 3)
          clear hlt' hes
          go_wp2_with fail
          obtain ⟨z0, z1, z2, z3⟩ := set4 g0 _ (.slice ql x.labs.length kl) (.slice qh x.heads.length kh) (.slice qc x.cites.length kc) (.slice qb x.bibs.length kb) d0 d1 d2 d3
          refine ret_cell rfl rfl (load_sideR _ _ _ _ _ _ z0 z1 z2 z3) rfl ?_
          have hbz := set4_below (HB1.out.trans (HBx.out.mono HB1.out.size)) (show w.heap.size ≤ g0 by rw [HG0.out]; exact Nat.le_refl _) (.slice ql x.labs.length kl) (.slice qh x.heads.length kh) (.slice qc x.cites.length kc) (.slice qb x.bibs.length kb)
          refine ⟨hbz, ?_⟩
          rw [Hr.out]
          refine ⟨_, ?_, ?_, rfl⟩
          · have hwB : g0 < W3.heap.size := by have h1 := HF0.out.1; have h2 := Hg1.out; have h3 := Hgw.out; omega
            exact ⟨_, _, _, _, rfl, (HSX6.out.l.set4 _ _ _ _ hwB).slice RLab.size _ (fun _ _ => trivial), (HSX6.out.h.set4 _ _ _ _ hwB).slice RHd.size _ (fun _ _ => trivial), (HSX6.out.c.set4 _ _ _ _ hwB).slice RStr.size _ (fun _ _ => trivial), (HSX6.out.b.set4 _ _ _ _ hwB).slice RStr.size _ (fun _ _ => trivial)⟩
          · have hg0 := HGr.out
            have hkl := Hkl.out
            exact ⟨by have := hg0.labs; omega, by have := hg0.heads; omega, by have := hg0.cites; omega, by have := hg0.bibs; omega, hg0.lab, hg0.head, hg0.cite, hg0.bib⟩
theorem load_labR (g : Nat) (a b c : Value) (w : World) (h0 : w.cell? ⟨g, 0, none⟩ = some a) (h1 : w.cell? ⟨g, 1, none⟩ = some b) (h2 : w.cell? ⟨g, 2, none⟩ = some c) :
    (loadVar 45 ⟨g, 0, none⟩).run Tryz.prog w = .ok (.agg #[a, b, c]) w := by
  go_simp
set_option maxRecDepth 100000 in
set_option maxHeartbeats 3200000 in
theorem ref10_find (x : Sd.Side) (v : Value) (key : List UInt8) (S : Nat → Prop) (w : World) (hX : SideIn S w v x) (hsm : x.labs.length ≤ 1000000) :
    Calls Tryz.prog 16 #[v, .string ⟨key.toArray⟩] w fun e w' => e = .returned (labV (Sd.find x.labs key)) ∧ Below w.heap.size w w' := by
  obtain ⟨vl, vh, vc, vb, rfl, hLb, hHd, hCt, hBb⟩ := hX
  obtain ⟨pl, cl, rfl, hll, hlm, hlat⟩ := hLb
  have Hlat := Lib.hid hlat; have Hsm := Lib.hid hsm
  clear hHd hCt hBb hll hlm hlat hsm
  go_enter Tryz.func16, Tryz.ntmps16
  go_upto_region 1 with fail
  obtain ⟨W1, hW1⟩ : ∃ W1, W1 = w.alloc (.cells #[.slice pl x.labs.length cl, vh, vc, vb] 35) := ⟨_, rfl⟩
  have hs1 : W1.heap.size = w.heap.size + 1 := by rw [hW1]; simp
  obtain ⟨W2, hW2⟩ : ∃ W2, W2 = W1.alloc (.cells #[.string ⟨#[]⟩, .string ⟨#[]⟩, .int .i64 0] 45) := ⟨_, rfl⟩
  have hb1 : Below w.heap.size w W1 := by rw [hW1]; exact below_new w _
  have hb2 : Below w.heap.size w W2 := by rw [hW2]; exact hb1.alloc hb1.size _
  have hs2 : W2.heap.size = w.heap.size + 2 := by rw [hW2]; simp [hs1]
  have hx1 : Four (w.heap.size + 1) W2 #[.string ⟨#[]⟩, .string ⟨#[]⟩, .int .i64 0] := by rw [← hs1, hW2]; exact Four.made _ _ _
  have hf1 : ∀ i : Nat, W2.frozen? ⟨w.heap.size + 1, i, none⟩ = false := by
    intro i
    rw [← hs1, hW2]
    simp
  have ht2 : W2.cell? ⟨w.heap.size, 0, none⟩ = some (.slice pl x.labs.length cl) := by
    rw [hW2, World.cell?_alloc_lt _ _ ⟨w.heap.size, 0, none⟩ (by rw [hs1]; show w.heap.size < _; omega), hW1, cell_of_row _ _ _ _ _ _ (heap_alloc_new w _)]; rfl
  first
    | rw [← hW1, ← hW2]
    | (rw [← hW1, hs1] at *; rw [← hW2])
  obtain ⟨g, hg⟩ : ∃ g, g = w.heap.size := ⟨_, rfl⟩
  have Hs2 := Lib.hid (show g < W2.heap.size by rw [hg, hs2]; omega)
  rw [← hg] at hx1 hf1 ht2 ⊢
  have Hx1 := Lib.hid hx1; have Hf1 := Lib.hid hf1; have Hb2 := Lib.hid hb2; have Ht2 := Lib.hid ht2; have Hg := Lib.hid hg
  clear hx1 hf1 hb1 hb2 hW1 hW2 hs1 hs2 ht2 hg
  go_wp2_with fail
  go_loopw [6] (fun iv wr => ∃ k : Nat, k ≤ x.labs.length ∧ iv = .int .i64 (k : Int) ∧ Sd.find (x.labs.take k) key = none ∧ Below W2.heap.size W2 wr) (fun iv _ => x.labs.length - (intOf iv).toNat)
  case atStart => exact ⟨0, Nat.zero_le _, rfl, rfl, Below.refl _ _⟩
  case round =>
    obtain ⟨k, hk, rfl, hno, hb⟩ := hrel
    have Hno := Lib.hid hno; have Hbk := Lib.hid hb
    have HB := Lib.hid (Hb2.out.trans (hb.mono Hb2.out.size))
    have HC := Lib.hid (Hx1.out.below hb)
    have HZ := Lib.hid (fun i : Nat => (frozen_below (i := i) hb Hx1.out.1).trans (Hf1.out i))
    have cx := (hb.cell (p := ⟨g, 0, none⟩) Hs2.out).trans Ht2.out
    have hge : w.heap.size ≤ g + 1 := by rw [Hg.out]; omega
    have Hge := Lib.hid hge
    clear hno hb hge
    by_cases hlt : k < x.labs.length
    · obtain ⟨y, hy⟩ : ∃ y, x.labs[k]? = some y := ⟨_, List.getElem?_eq_getElem hlt⟩
      obtain ⟨b, off, vs, rfl, _, hbw, hR, hcc⟩ := Hlat.out k y hy
      have hR : vs = _ := hR
      subst hR
      have a0 : wr.cell? ⟨b, off + k * 3, none⟩ = some (.string ⟨y.key.toArray⟩) := (HB.out.cell (p := ⟨b, off + k * 3, none⟩) hbw).trans (hcc 0 _ rfl)
      have a1 : wr.cell? ⟨b, off + k * 3 + 1, none⟩ = some (.string ⟨y.num.toArray⟩) := (HB.out.cell (p := ⟨b, off + k * 3 + 1, none⟩) hbw).trans (hcc 1 _ rfl)
      have a2 : wr.cell? ⟨b, off + k * 3 + 2, none⟩ = some (.int .i64 y.page) := (HB.out.cell (p := ⟨b, off + k * 3 + 2, none⟩) hbw).trans (hcc 2 _ rfl)
      have hlt' : (k : Int) < (x.labs.length : Int) := by omega
      obtain ⟨k1, hk1⟩ : ∃ k1, k1 = k + 1 := ⟨_, rfl⟩
      have hwk : IntKind.i64.wrap ((k : Int) + 1) = (k1 : Int) := by have := Hsm.out; rw [IntWalk.i64_in _ (by omega)]; omega
      have Hk1 := Lib.hid hk1; have Hlt := Lib.hid hlt
      have Hy := Lib.hid hy
      clear hcc hy hk1 hlt hk
      by_cases hpk : y.key = key
      · have hp : (y.key == key) = true := by rw [hpk]; simp
        have Hr := Lib.hid (find_hit _ k y key Hy.out Hno.out hp)
        clear hpk
        have d0 := HC.out.2 0 _ rfl; have d1 := HC.out.2 1 _ rfl; have d2 := HC.out.2 2 _ rfl
        have f0 := HZ.out 0; have f1 := HZ.out 1; have f2 := HZ.out 2
        go_wp2_with fail
        obtain ⟨z0, z1, z2⟩ := set3 (g + 1) wr (.string ⟨y.key.toArray⟩) (.string ⟨y.num.toArray⟩) (.int .i64 y.page) d0 d1 d2
        refine ret_cell rfl rfl (load_labR _ _ _ _ _ z0 z1 z2) rfl ⟨?_, set3_below HB.out Hge.out _ _ _⟩
        rw [Hr.out]
        rfl
      · have hp : (y.key == key) = false := beq_eq_false_iff_ne.2 hpk
        have Hp := Lib.hid hp
        clear a1 a2
        go_wp2_with fail
        go_roundw
        case rel => exact ⟨k1, by have := Hlt.out; have := Hk1.out; omega, rfl, by rw [Hk1.out]; exact find_miss _ k y key Hy.out Hno.out Hp.out, Hbk.out⟩
        case measure => have := Hlt.out; have := Hk1.out; simp [intOf]; omega
    · have hlt' : ¬ (k : Int) < (x.labs.length : Int) := by omega
      have hr : Sd.find x.labs key = none := by have h := Hno.out; rwa [List.take_of_length_le (by omega)] at h
      have Hr := Lib.hid hr
      have d0 := HC.out.2 0 _ rfl; have d1 := HC.out.2 1 _ rfl; have d2 := HC.out.2 2 _ rfl
      have f0 := HZ.out 0; have f1 := HZ.out 1; have f2 := HZ.out 2
      clear hr hlt hk
      go_wp2_with fail
      obtain ⟨z0, z1, z2⟩ := set3 (g + 1) wr (.string ⟨#[]⟩) (.string ⟨#[]⟩) (.int .i64 0) d0 d1 d2
      refine ret_cell rfl rfl (load_labR _ _ _ _ _ z0 z1 z2) rfl ⟨?_, set3_below HB.out Hge.out _ _ _⟩
      rw [Hr.out]
      rfl
end Go.Proofs.YtimmmjmmjokdbaaGreatDoor
