/- The walks of package side (layer 10), sixth part: a side's bytes. -/
import Derived.Test.YtimmmjmmjokdbaaGreatDoorSidW5
import Derived.Test.YtimmmjmmjokdbaaGreatDoorSidF
set_option linter.unusedSimpArgs false
set_option linter.unusedVariables false
namespace Go.Proofs.YtimmmjmmjokdbaaGreatDoor
open Go.RowKit
theorem flat_snoc {α : Type} (f : α → List UInt8) (l : List α) (k : Nat) (x : α) (h : l[k]? = some x) : ((l.take (k + 1)).map f).flatten = ((l.take k).map f).flatten ++ f x := by
  rw [List.take_add_one, h]; simp
theorem rec_len (ps : List (List UInt8)) (hl : ps.length ≤ 5) (h : ∀ t ∈ ps, t.length ≤ 1000) : (Sd.record ps).length ≤ 6000 := by
  have h1 := Sd.puts_le ps 1000 (by omega) h
  have h2 : ps.length * (1000 + 8) ≤ 5 * 1008 := Nat.mul_le_mul_right _ hl
  have h3 := Sd.put_le (Sd.puts ps) (by omega)
  have h4 : Sd.record ps = Sd.put (Sd.puts ps) := rfl
  rw [h4]; omega
theorem strsN (w : World) (fl : List Value) (ps : List (List UInt8)) (hr : RepRow RStr ps fl) (hl : ps.length ≤ 1000) : SliceIn (fun _ => True) 1 RStr (w.alloc (.cells fl.toArray 9)) (.slice (some ⟨w.heap.size, 0, none⟩) ps.length ps.length) ps :=
  built1 w 9 RStr 1 ps fl hr RStr.size (by unfold maxLen; omega)
theorem strs2 (w : World) (a b : List UInt8) : SliceIn (fun _ => True) 1 RStr (w.alloc (.cells #[.string ⟨a.toArray⟩, .string ⟨b.toArray⟩] 9)) (.slice (some ⟨w.heap.size, 0, none⟩) 2 2) [a, b] :=
  strsN w [.string ⟨a.toArray⟩, .string ⟨b.toArray⟩] [a, b] ⟨_, _, rfl, rfl, [.string ⟨b.toArray⟩], [], rfl, rfl, rfl⟩ (by simp)
theorem strs4 (w : World) (a b c d : List UInt8) : SliceIn (fun _ => True) 1 RStr (w.alloc (.cells #[.string ⟨a.toArray⟩, .string ⟨b.toArray⟩, .string ⟨c.toArray⟩, .string ⟨d.toArray⟩] 9)) (.slice (some ⟨w.heap.size, 0, none⟩) 4 4) [a, b, c, d] :=
  strsN w [.string ⟨a.toArray⟩, .string ⟨b.toArray⟩, .string ⟨c.toArray⟩, .string ⟨d.toArray⟩] [a, b, c, d] ⟨[_], _, rfl, rfl, [_], _, rfl, rfl, [_], _, rfl, rfl, [_], _, rfl, rfl, rfl⟩ (by simp)
theorem strs5 (w : World) (a b c d e : List UInt8) : SliceIn (fun _ => True) 1 RStr (w.alloc (.cells #[.string ⟨a.toArray⟩, .string ⟨b.toArray⟩, .string ⟨c.toArray⟩, .string ⟨d.toArray⟩, .string ⟨e.toArray⟩] 9)) (.slice (some ⟨w.heap.size, 0, none⟩) 5 5) [a, b, c, d, e] :=
  strsN w [.string ⟨a.toArray⟩, .string ⟨b.toArray⟩, .string ⟨c.toArray⟩, .string ⟨d.toArray⟩, .string ⟨e.toArray⟩] [a, b, c, d, e] ⟨[_], _, rfl, rfl, [_], _, rfl, rfl, [_], _, rfl, rfl, [_], _, rfl, rfl, [_], _, rfl, rfl, rfl⟩ (by simp)
set_option maxRecDepth 100000 in
set_option maxHeartbeats 6400000 in
theorem side_encode (x : Sd.Side) (v : Value) (S : Nat → Prop) (w : World) (hL : Laid10 w) (hX : SideIn S w v x) (hsm : SideSm x) :
    Calls Tryz.prog 10 #[v] w fun e w' => e = .returned (.tuple #[.string ⟨(Sd.enc x).1.toArray⟩, .int .i64 (Sd.enc x).2]) ∧ Below w.heap.size w w' := by
  have HX := Lib.hid hX; have Hsm := Lib.hid hsm; have HL := Lib.hid hL
  obtain ⟨vl, vh, vc, vb, rfl, hLb, hHd, hCt, hBb⟩ := hX
  have hsl := hsm.labs; have hsh := hsm.heads; have hsc := hsm.cites; have hsb := hsm.bibs
  clear hsm hL
  obtain ⟨pc, cc, rfl, hc1, hc2, hcat⟩ := hCt
  obtain ⟨pb, cb, rfl, hb1, hb2, hbat⟩ := hBb
  obtain ⟨pl, cl, rfl, hll, hlm, hlat⟩ := hLb
  obtain ⟨ph, ch, rfl, hhl, hhm, hhat⟩ := hHd
  have Hlat := Lib.hid hlat; have Hhat := Lib.hid hhat; have Hcat := Lib.hid hcat; have Hbat := Lib.hid hbat
  clear hlat hhat hll hlm hhl hhm hc1 hc2 hcat hb1 hb2 hbat
  have henc : Sd.enc x = if Sd.right x then (Sd.encN x, 0) else ([], 5) := rfl
  have Henc := Lib.hid henc
  clear henc
  go_enter Tryz.func10, Tryz.ntmps10
  go_upto_region 1 with fail
  have he6 : ∀ (i : Nat) (u : Value), #[Value.slice pl x.labs.length cl, .slice ph x.heads.length ch, .slice pc x.cites.length cc, .slice pb x.bibs.length cb][i]? = some u → (w.alloc (.cells #[.slice pl x.labs.length cl, .slice ph x.heads.length ch, .slice pc x.cites.length cc, .slice pb x.bibs.length cb] 26)).cell? ⟨w.heap.size, i, none⟩ = some u := by
    intro i u hu
    rw [cell_of_row _ _ _ _ _ _ (heap_alloc_new w _)]
    exact hu
  have hb4 := below_new w (.cells #[.slice pl x.labs.length cl, .slice ph x.heads.length ch, .slice pc x.cites.length cc, .slice pb x.bibs.length cb] 26)
  have hz4 := lt_alloc w (.cells #[.slice pl x.labs.length cl, .slice ph x.heads.length ch, .slice pc x.cites.length cc, .slice pb x.bibs.length cb] 26)
  generalize w.alloc (.cells #[.slice pl x.labs.length cl, .slice ph x.heads.length ch, .slice pc x.cites.length cc, .slice pb x.bibs.length cb] 26) = w4 at he6 hb4 hz4 ⊢
  have e60 := he6 0 _ rfl; have e61 := he6 1 _ rfl; have e62 := he6 2 _ rfl; have e63 := he6 3 _ rfl
  have Hb4 := Lib.hid hb4
  clear he6 hb4
  cases hr : Sd.right x
  · rw [hr] at Henc
    have Hr := Lib.hid hr
    clear hr
    go_wp2_with (go_at_call 17; refine (side_right x _ S _ (HX.out.below Hb4.out) Hsm.out).mono ?_; rw [Hr.out]; rintro e w5 ⟨rfl, hb⟩; have Hb5 := Lib.hid (Hb4.out.trans (hb.mono Hb4.out.size)); clear hb)
    go_ret2
    rw [Henc.out]
    exact ⟨rfl, Hb5.out⟩
  · rw [hr] at Henc
    have hss := Sd.right_small x hr
    have Hss := Lib.hid hss; have Hr := Lib.hid hr
    clear hr hss
    go_upto_region 4 with (go_at_call 17; refine (side_right x _ S _ (HX.out.below Hb4.out) Hsm.out).mono ?_; rw [Hr.out]; rintro e w5 ⟨rfl, hb⟩; have Hb5 := Lib.hid (Hb4.out.trans (hb.mono Hb4.out.size)); have e60 := (hb.cell (p := ⟨w.heap.size, 0, none⟩) hz4).trans e60; have e61 := (hb.cell (p := ⟨w.heap.size, 1, none⟩) hz4).trans e61; have e62 := (hb.cell (p := ⟨w.heap.size, 2, none⟩) hz4).trans e62; have e63 := (hb.cell (p := ⟨w.heap.size, 3, none⟩) hz4).trans e63; have hz5 := Nat.lt_of_lt_of_le hz4 hb.size; clear hb)
    have E61 := Lib.hid e61; have E62 := Lib.hid e62; have E63 := Lib.hid e63
    clear e61 e62 e63 hz4
    go_wp2_with fail
    go_loopw [4, 19] (fun sv iv wr => ∃ k : Nat, k ≤ x.labs.length ∧ iv = .int .i64 (k : Int) ∧ sv = .string ⟨(((x.labs.take k).map Sd.encL).flatten).toArray⟩ ∧ (((x.labs.take k).map Sd.encL).flatten).length ≤ 0 + k * 6000 ∧ Below w5.heap.size w5 wr) (fun _ iv _ => x.labs.length - (intOf iv).toNat)
    case atStart => exact ⟨0, Nat.zero_le _, rfl, by simp, by simp, Below.refl _ _⟩
    case round =>
      obtain ⟨k, hk, rfl, rfl, hal, hb⟩ := hrel
      have Hbk := Lib.hid hb; have HB := Lib.hid (Hb5.out.trans (hb.mono Hb5.out.size))
      clear hb
      by_cases hlt : k < x.labs.length
      · obtain ⟨y, hy⟩ : ∃ y, x.labs[k]? = some y := ⟨_, List.getElem?_eq_getElem hlt⟩
        obtain ⟨b, off, vs, rfl, _, hbw, hR, hcc⟩ := Hlat.out k y hy
        have hR : vs = _ := hR
        subst hR
        have hfs := flat_snoc Sd.encL x.labs k y hy
        obtain ⟨acc, hacc⟩ : ∃ acc, ((x.labs.take k).map Sd.encL).flatten = acc := ⟨_, rfl⟩
        have hfs2 : ((x.labs.take (k + 1)).map Sd.encL).flatten = acc ++ Sd.encL y := by rw [hfs, ← hacc]
        rw [hacc] at hal ⊢
        have Hfs := Lib.hid hfs2
        have hlt' : (k : Int) < (x.labs.length : Int) := by omega
        have hkl : (k : Int) + 1 ≤ 9223372036854775807 := by omega
        have Hkl := Lib.hid hkl; have Hlt := Lib.hid hlt; have Hal := Lib.hid hal
        have hk6 : k * 6000 ≤ 1000000 * 6000 := Nat.mul_le_mul_right _ (by omega)
        have hsy := Hss.out.lab y (List.mem_of_getElem? hy)
        have hps := Sd.labL y hsy
        have hrl := rec_len _ (by simp) hps
        obtain ⟨rc, hrc⟩ : ∃ rc, Sd.record [Sd.labW, y.key, y.num, Sd.dig y.page] = rc := ⟨_, rfl⟩
        have hrc2 : Sd.encL y = rc := hrc
        rw [hrc] at hrl
        have hadd : ¬ 9223372036854775807 < acc.length + rc.length := by omega
        have Hrc := Lib.hid hrc; have Hrc2 := Lib.hid hrc2; have Hps := Lib.hid hps; have Hrl := Lib.hid hrl; have Hadd := Lib.hid hadd
        have a0 : wr.cell? ⟨b, off + k * 3, none⟩ = some (.string ⟨y.key.toArray⟩) := (HB.out.cell (p := ⟨b, off + k * 3, none⟩) hbw).trans (hcc 0 _ rfl)
        have a1 : wr.cell? ⟨b, off + k * 3 + 1, none⟩ = some (.string ⟨y.num.toArray⟩) := (HB.out.cell (p := ⟨b, off + k * 3 + 1, none⟩) hbw).trans (hcc 1 _ rfl)
        have a2 : wr.cell? ⟨b, off + k * 3 + 2, none⟩ = some (.int .i64 y.page) := (HB.out.cell (p := ⟨b, off + k * 3 + 2, none⟩) hbw).trans (hcc 2 _ rfl)
        clear hcc hy hfs hacc hfs2 hk6 hal hps hrl hrc hrc2 hkl hadd
        go_upto_region 7 with fail
        have he6 : ∀ (i : Nat) (u : Value), #[Value.string ⟨y.key.toArray⟩, .string ⟨y.num.toArray⟩, .int .i64 y.page][i]? = some u → (wr.alloc (.cells #[.string ⟨y.key.toArray⟩, .string ⟨y.num.toArray⟩, .int .i64 y.page] 42)).cell? ⟨wr.heap.size, i, none⟩ = some u := by
          intro i u hu
          rw [cell_of_row _ _ _ _ _ _ (heap_alloc_new wr _)]
          exact hu
        have hb7 := below_new wr (.cells #[.string ⟨y.key.toArray⟩, .string ⟨y.num.toArray⟩, .int .i64 y.page] 42)
        have hz7 := lt_alloc wr (.cells #[.string ⟨y.key.toArray⟩, .string ⟨y.num.toArray⟩, .int .i64 y.page] 42)
        generalize wr.alloc (.cells #[.string ⟨y.key.toArray⟩, .string ⟨y.num.toArray⟩, .int .i64 y.page] 42) = w2 at he6 hb7 hz7 ⊢
        obtain ⟨gl, hgl⟩ : ∃ gl, gl = wr.heap.size := ⟨_, rfl⟩
        rw [← hgl] at he6 hz7 ⊢
        have c0 := he6 0 _ rfl
        have c1 := he6 1 _ rfl
        have c2 := he6 2 _ rfl
        have HB2 := Lib.hid (Hbk.out.trans (hb7.mono Hbk.out.size))
        have HL2 := Lib.hid (HL.out.below (HB.out.trans (hb7.mono HB.out.size)))
        obtain ⟨pg, hpg⟩ : ∃ pg, y.page = pg := ⟨_, rfl⟩
        rw [hpg] at c2 Hrc Hps
        clear he6 hb7 hgl a0 a1 a2 hlt' hpg
        refine wp_region_any (by kernel_rfl) ?_
        change wpAny _ _ _ _ _ _ _ (World.drew _)
        have hS : (fun W => Below w2.heap.size w2 W) w2.drew := (Below.refl _ _).drew
        generalize w2.drew = w8 at hS ⊢
        refine wpAny_of_held (S := fun W => Below w2.heap.size w2 W) _ _ _ _ ?_
        refine wpAnyH_take (i := 0) (v := .string ⟨acc.toArray⟩) rfl (by kernel_rfl) (by kernel_rfl) (by kernel_rfl) (fun _ _ _ h => h) (Or.inl ⟨by kernel_rfl, fun W hW => by kernel_rfl⟩) (by assumption) ?_
        try simp only [Act.put, List.getElem_toArray, List.getElem_cons_zero, List.getElem_cons_succ, List.setIfInBounds_toArray, List.set_cons_zero, List.set_cons_succ]
        refine wpAnyH_take (i := 1) (v := .pointer (some ⟨gl, 0, none⟩)) rfl (by kernel_rfl) (by kernel_rfl) (by kernel_rfl) (fun _ _ _ h => h) (Or.inl ⟨by kernel_rfl, fun W hW => by kernel_rfl⟩) (by assumption) ?_
        try simp only [Act.put, List.getElem_toArray, List.getElem_cons_zero, List.getElem_cons_succ, List.setIfInBounds_toArray, List.set_cons_zero, List.set_cons_succ]
        refine wpAnyH_take (i := 2) (v := .string ⟨y.key.toArray⟩) rfl (by kernel_rfl) (by kernel_rfl) (by kernel_rfl) (fun _ _ _ h => h) (Or.inl ⟨by kernel_rfl, fun W hW => by have q1 := (Below.cell hW (p := ⟨gl, 0, none⟩) hz7).trans c0; go_simp⟩) (by assumption) ?_
        try simp only [Act.put, List.getElem_toArray, List.getElem_cons_zero, List.getElem_cons_succ, List.setIfInBounds_toArray, List.set_cons_zero, List.set_cons_succ]
        refine wpAnyH_take (i := 3) (v := .pointer (some ⟨gl, 1, none⟩)) rfl (by kernel_rfl) (by kernel_rfl) (by kernel_rfl) (fun _ _ _ h => h) (Or.inl ⟨by kernel_rfl, fun W hW => by kernel_rfl⟩) (by assumption) ?_
        try simp only [Act.put, List.getElem_toArray, List.getElem_cons_zero, List.getElem_cons_succ, List.setIfInBounds_toArray, List.set_cons_zero, List.set_cons_succ]
        refine wpAnyH_take (i := 4) (v := .string ⟨y.num.toArray⟩) rfl (by kernel_rfl) (by kernel_rfl) (by kernel_rfl) (fun _ _ _ h => h) (Or.inl ⟨by kernel_rfl, fun W hW => by have q1 := (Below.cell hW (p := ⟨gl, 1, none⟩) hz7).trans c1; go_simp⟩) (by assumption) ?_
        try simp only [Act.put, List.getElem_toArray, List.getElem_cons_zero, List.getElem_cons_succ, List.setIfInBounds_toArray, List.set_cons_zero, List.set_cons_succ]
        refine wpAnyH_take (i := 5) (v := .pointer (some ⟨gl, 2, none⟩)) rfl (by kernel_rfl) (by kernel_rfl) (by kernel_rfl) (fun _ _ _ h => h) (Or.inl ⟨by kernel_rfl, fun W hW => by kernel_rfl⟩) (by assumption) ?_
        try simp only [Act.put, List.getElem_toArray, List.getElem_cons_zero, List.getElem_cons_succ, List.setIfInBounds_toArray, List.set_cons_zero, List.set_cons_succ]
        refine wpAnyH_take (i := 6) (v := .int .i64 pg) rfl (by kernel_rfl) (by kernel_rfl) (by kernel_rfl) (fun _ _ _ h => h) (Or.inl ⟨by kernel_rfl, fun W hW => by have q1 := (Below.cell hW (p := ⟨gl, 2, none⟩) hz7).trans c2; go_simp⟩) (by assumption) ?_
        try simp only [Act.put, List.getElem_toArray, List.getElem_cons_zero, List.getElem_cons_succ, List.setIfInBounds_toArray, List.set_cons_zero, List.set_cons_succ]
        refine wpAnyH_ready (rs := [7]) (by kernel_rfl) (by simp) ?_
        refine AllReadyH.cons rfl (fun K hK => ?_) AllReadyH.nil
        go_simp
        go_wp2_with (go_at_call 24; refine (side_digits pg _ (HL2.out.below hS)).mono ?_; rintro e w9 ⟨rfl, hb9⟩; replace hS := Below.trans hS (hb9.mono (Below.size hS)); clear hb9)
        refine hK.out _ _ (hS) (fun _ => ?_)
        clear K hK
        try simp only [Act.put, List.getElem_toArray, List.getElem_cons_zero, List.getElem_cons_succ, List.setIfInBounds_toArray, List.set_cons_zero, List.set_cons_succ]
        refine wpAnyH_ready (rs := [8]) (by kernel_rfl) (by simp) ?_
        refine AllReadyH.cons rfl (fun K hK => ?_) AllReadyH.nil
        go_simp
        go_wp2_with fail
        refine hK.out _ _ (Below.alloc hS (Below.size hS) _) (fun _ => ?_)
        clear K hK
        try simp only [Act.put, List.getElem_toArray, List.getElem_cons_zero, List.getElem_cons_succ, List.setIfInBounds_toArray, List.set_cons_zero, List.set_cons_succ]
        replace hS := Below.alloc hS (Below.size hS) (.cells #[.string ⟨Sd.labW.toArray⟩, .string ⟨y.key.toArray⟩, .string ⟨y.num.toArray⟩, .string ⟨(Sd.dig pg).toArray⟩] 9)
        refine wpAnyH_ready (rs := [9]) (by kernel_rfl) (by simp) ?_
        refine AllReadyH.cons rfl (fun K hK => ?_) AllReadyH.nil
        go_simp
        go_wp2_with (go_at_call 23; refine (side_record [Sd.labW, y.key, y.num, Sd.dig pg] _ _ _ (HL2.out.below hS) (strs4 _ Sd.labW y.key y.num (Sd.dig pg)) (by simp) Hps.out).mono ?_; rw [Hrc.out]; rintro e w10 ⟨rfl, hb10⟩; replace hS := Below.trans hS (hb10.mono (Below.size hS)); clear hb10)
        refine hK.out _ _ (hS) (fun _ => ?_)
        clear K hK
        try simp only [Act.put, List.getElem_toArray, List.getElem_cons_zero, List.getElem_cons_succ, List.setIfInBounds_toArray, List.set_cons_zero, List.set_cons_succ]
        have hadd := Hadd.out
        refine wpAnyH_take (i := 10) (v := .string (⟨acc.toArray⟩ ++ ⟨rc.toArray⟩)) rfl (by kernel_rfl) (by kernel_rfl) (by kernel_rfl) (fun _ _ _ h => h) (Or.inl ⟨by kernel_rfl, fun W hW => by go_simp⟩) (by assumption) ?_
        try simp only [Act.put, List.getElem_toArray, List.getElem_cons_zero, List.getElem_cons_succ, List.setIfInBounds_toArray, List.set_cons_zero, List.set_cons_succ]
        refine wpAnyH_take (i := 11) (v := .string (⟨acc.toArray⟩ ++ ⟨rc.toArray⟩)) rfl (by kernel_rfl) (by kernel_rfl) (by kernel_rfl) (fun _ _ _ h => h) (Or.inl ⟨by kernel_rfl, fun W hW => by kernel_rfl⟩) (by assumption) ?_
        try simp only [Act.put, List.getElem_toArray, List.getElem_cons_zero, List.getElem_cons_succ, List.setIfInBounds_toArray, List.set_cons_zero, List.set_cons_succ]
        refine wpAnyH_done (by kernel_rfl) ?_ _
        have HB9 := Lib.hid (HB2.out.trans (Below.mono hS HB2.out.size))
        clear hS c0 c1 c2 hz7 hadd
        go_upto_region 8 with fail
        have hkl := Hkl.out
        go_wp2_with fail
        go_roundw
        case rel => exact ⟨k + 1, by have := Hlt.out; omega, by go_num, by rw [Hfs.out, Hrc2.out]; exact congrArg Value.string (append_data _ _), by rw [Hfs.out, Hrc2.out, List.length_append]; have := Hal.out; have := Hrl.out; omega, HB9.out⟩
        case measure => have := Hlt.out; simp [intOf]; omega
      · have hlt' : ¬ (k : Int) < (x.labs.length : Int) := by omega
        have htk : x.labs.take k = x.labs := List.take_of_length_le (by omega)
        rw [htk] at hal ⊢
        have hk6 : k * 6000 ≤ 1000000 * 6000 := Nat.mul_le_mul_right _ (by omega)
        obtain ⟨A0, hA0⟩ : ∃ A, (x.labs.map Sd.encL).flatten = A := ⟨_, rfl⟩
        rw [hA0] at hal ⊢
        have hAl0 : A0.length ≤ 6000000000 := by omega
        have HA0 := Lib.hid hA0
        obtain ⟨wm0, hwm⟩ : ∃ W, W = wr := ⟨_, rfl⟩
        subst hwm
        have HBwm0 := Lib.hid HB.out
        have e61 := (Hbk.out.cell (p := ⟨w.heap.size, 1, none⟩) hz5).trans E61.out
        replace E62 := Lib.hid ((Hbk.out.cell (p := ⟨w.heap.size, 2, none⟩) hz5).trans E62.out)
        replace E63 := Lib.hid ((Hbk.out.cell (p := ⟨w.heap.size, 3, none⟩) hz5).trans E63.out)
        have hz6 : w.heap.size < wm0.heap.size := Nat.lt_of_lt_of_le hz5 Hbk.out.size
        clear hal htk hk6 hA0 hlt hk HB Hbk
        go_wp2_with fail
        go_loopw [4, 38] (fun sv iv wr => ∃ k : Nat, k ≤ x.heads.length ∧ iv = .int .i64 (k : Int) ∧ sv = .string ⟨(A0 ++ ((x.heads.take k).map Sd.encH).flatten).toArray⟩ ∧ (A0 ++ ((x.heads.take k).map Sd.encH).flatten).length ≤ 6000000000 + k * 6000 ∧ Below wm0.heap.size wm0 wr) (fun _ iv _ => x.heads.length - (intOf iv).toNat)
        case atStart => exact ⟨0, Nat.zero_le _, rfl, by simp, by simp only [List.take_zero, List.map_nil, List.flatten_nil, List.append_nil]; omega, Below.refl _ _⟩
        case round =>
          obtain ⟨k, hk, rfl, rfl, hal, hb⟩ := hrel
          have Hbk := Lib.hid hb; have HB := Lib.hid (HBwm0.out.trans (hb.mono HBwm0.out.size))
          clear hb
          by_cases hlt : k < x.heads.length
          · obtain ⟨y, hy⟩ : ∃ y, x.heads[k]? = some y := ⟨_, List.getElem?_eq_getElem hlt⟩
            obtain ⟨b, off, vs, rfl, _, hbw, hR, hcc⟩ := Hhat.out k y hy
            have hR : vs = _ := hR
            subst hR
            have hfs := flat_snoc Sd.encH x.heads k y hy
            obtain ⟨acc, hacc⟩ : ∃ acc, A0 ++ ((x.heads.take k).map Sd.encH).flatten = acc := ⟨_, rfl⟩
            have hfs2 : A0 ++ ((x.heads.take (k + 1)).map Sd.encH).flatten = acc ++ Sd.encH y := by rw [hfs, ← hacc]; simp
            rw [hacc] at hal ⊢
            have Hfs := Lib.hid hfs2
            have hlt' : (k : Int) < (x.heads.length : Int) := by omega
            have hkl : (k : Int) + 1 ≤ 9223372036854775807 := by omega
            have Hkl := Lib.hid hkl; have Hlt := Lib.hid hlt; have Hal := Lib.hid hal
            have hk6 : k * 6000 ≤ 1000000 * 6000 := Nat.mul_le_mul_right _ (by omega)
            have hsy := Hss.out.head y (List.mem_of_getElem? hy)
            have hps := Sd.headL y hsy
            have hrl := rec_len _ (by simp) hps
            obtain ⟨rc, hrc⟩ : ∃ rc, Sd.record [Sd.headW, Sd.dig y.level, y.num, y.title, Sd.dig y.page] = rc := ⟨_, rfl⟩
            have hrc2 : Sd.encH y = rc := hrc
            rw [hrc] at hrl
            have hadd : ¬ 9223372036854775807 < acc.length + rc.length := by omega
            have Hrc := Lib.hid hrc; have Hrc2 := Lib.hid hrc2; have Hps := Lib.hid hps; have Hrl := Lib.hid hrl; have Hadd := Lib.hid hadd
            have a0 : wr.cell? ⟨b, off + k * 4, none⟩ = some (.int .i64 y.level) := (HB.out.cell (p := ⟨b, off + k * 4, none⟩) hbw).trans (hcc 0 _ rfl)
            have a1 : wr.cell? ⟨b, off + k * 4 + 1, none⟩ = some (.string ⟨y.num.toArray⟩) := (HB.out.cell (p := ⟨b, off + k * 4 + 1, none⟩) hbw).trans (hcc 1 _ rfl)
            have a2 : wr.cell? ⟨b, off + k * 4 + 2, none⟩ = some (.string ⟨y.title.toArray⟩) := (HB.out.cell (p := ⟨b, off + k * 4 + 2, none⟩) hbw).trans (hcc 2 _ rfl)
            have a3 : wr.cell? ⟨b, off + k * 4 + 3, none⟩ = some (.int .i64 y.page) := (HB.out.cell (p := ⟨b, off + k * 4 + 3, none⟩) hbw).trans (hcc 3 _ rfl)
            clear hcc hy hfs hacc hfs2 hk6 hal hps hrl hrc hrc2 hkl hadd
            go_upto_region 12 with fail
            have he6 : ∀ (i : Nat) (u : Value), #[Value.int .i64 y.level, .string ⟨y.num.toArray⟩, .string ⟨y.title.toArray⟩, .int .i64 y.page][i]? = some u → (wr.alloc (.cells #[.int .i64 y.level, .string ⟨y.num.toArray⟩, .string ⟨y.title.toArray⟩, .int .i64 y.page] 56)).cell? ⟨wr.heap.size, i, none⟩ = some u := by
              intro i u hu
              rw [cell_of_row _ _ _ _ _ _ (heap_alloc_new wr _)]
              exact hu
            have hb7 := below_new wr (.cells #[.int .i64 y.level, .string ⟨y.num.toArray⟩, .string ⟨y.title.toArray⟩, .int .i64 y.page] 56)
            have hz7 := lt_alloc wr (.cells #[.int .i64 y.level, .string ⟨y.num.toArray⟩, .string ⟨y.title.toArray⟩, .int .i64 y.page] 56)
            generalize wr.alloc (.cells #[.int .i64 y.level, .string ⟨y.num.toArray⟩, .string ⟨y.title.toArray⟩, .int .i64 y.page] 56) = w2 at he6 hb7 hz7 ⊢
            obtain ⟨gl, hgl⟩ : ∃ gl, gl = wr.heap.size := ⟨_, rfl⟩
            rw [← hgl] at he6 hz7 ⊢
            have c0 := he6 0 _ rfl
            have c1 := he6 1 _ rfl
            have c2 := he6 2 _ rfl
            have c3 := he6 3 _ rfl
            have HB2 := Lib.hid (Hbk.out.trans (hb7.mono Hbk.out.size))
            have HL2 := Lib.hid (HL.out.below (HB.out.trans (hb7.mono HB.out.size)))
            obtain ⟨pg, hpg⟩ : ∃ pg, y.page = pg := ⟨_, rfl⟩
            obtain ⟨lv, hlv⟩ : ∃ lv, y.level = lv := ⟨_, rfl⟩
            rw [hpg] at c3 Hrc Hps
            rw [hlv] at c0 Hrc Hps
            clear he6 hb7 hgl a0 a1 a2 a3 hlt' hpg hlv
            refine wp_region_any (by kernel_rfl) ?_
            change wpAny _ _ _ _ _ _ _ (World.drew _)
            have hS : (fun W => Below w2.heap.size w2 W) w2.drew := (Below.refl _ _).drew
            generalize w2.drew = w8 at hS ⊢
            refine wpAny_of_held (S := fun W => Below w2.heap.size w2 W) _ _ _ _ ?_
            refine wpAnyH_take (i := 0) (v := .string ⟨acc.toArray⟩) rfl (by kernel_rfl) (by kernel_rfl) (by kernel_rfl) (fun _ _ _ h => h) (Or.inl ⟨by kernel_rfl, fun W hW => by kernel_rfl⟩) (by assumption) ?_
            try simp only [Act.put, List.getElem_toArray, List.getElem_cons_zero, List.getElem_cons_succ, List.setIfInBounds_toArray, List.set_cons_zero, List.set_cons_succ]
            refine wpAnyH_take (i := 1) (v := .pointer (some ⟨gl, 0, none⟩)) rfl (by kernel_rfl) (by kernel_rfl) (by kernel_rfl) (fun _ _ _ h => h) (Or.inl ⟨by kernel_rfl, fun W hW => by kernel_rfl⟩) (by assumption) ?_
            try simp only [Act.put, List.getElem_toArray, List.getElem_cons_zero, List.getElem_cons_succ, List.setIfInBounds_toArray, List.set_cons_zero, List.set_cons_succ]
            refine wpAnyH_take (i := 2) (v := .int .i64 lv) rfl (by kernel_rfl) (by kernel_rfl) (by kernel_rfl) (fun _ _ _ h => h) (Or.inl ⟨by kernel_rfl, fun W hW => by have q1 := (Below.cell hW (p := ⟨gl, 0, none⟩) hz7).trans c0; go_simp⟩) (by assumption) ?_
            try simp only [Act.put, List.getElem_toArray, List.getElem_cons_zero, List.getElem_cons_succ, List.setIfInBounds_toArray, List.set_cons_zero, List.set_cons_succ]
            refine wpAnyH_take (i := 4) (v := .pointer (some ⟨gl, 1, none⟩)) rfl (by kernel_rfl) (by kernel_rfl) (by kernel_rfl) (fun _ _ _ h => h) (Or.inl ⟨by kernel_rfl, fun W hW => by kernel_rfl⟩) (by assumption) ?_
            try simp only [Act.put, List.getElem_toArray, List.getElem_cons_zero, List.getElem_cons_succ, List.setIfInBounds_toArray, List.set_cons_zero, List.set_cons_succ]
            refine wpAnyH_take (i := 5) (v := .string ⟨y.num.toArray⟩) rfl (by kernel_rfl) (by kernel_rfl) (by kernel_rfl) (fun _ _ _ h => h) (Or.inl ⟨by kernel_rfl, fun W hW => by have q1 := (Below.cell hW (p := ⟨gl, 1, none⟩) hz7).trans c1; go_simp⟩) (by assumption) ?_
            try simp only [Act.put, List.getElem_toArray, List.getElem_cons_zero, List.getElem_cons_succ, List.setIfInBounds_toArray, List.set_cons_zero, List.set_cons_succ]
            refine wpAnyH_take (i := 6) (v := .pointer (some ⟨gl, 2, none⟩)) rfl (by kernel_rfl) (by kernel_rfl) (by kernel_rfl) (fun _ _ _ h => h) (Or.inl ⟨by kernel_rfl, fun W hW => by kernel_rfl⟩) (by assumption) ?_
            try simp only [Act.put, List.getElem_toArray, List.getElem_cons_zero, List.getElem_cons_succ, List.setIfInBounds_toArray, List.set_cons_zero, List.set_cons_succ]
            refine wpAnyH_take (i := 7) (v := .string ⟨y.title.toArray⟩) rfl (by kernel_rfl) (by kernel_rfl) (by kernel_rfl) (fun _ _ _ h => h) (Or.inl ⟨by kernel_rfl, fun W hW => by have q1 := (Below.cell hW (p := ⟨gl, 2, none⟩) hz7).trans c2; go_simp⟩) (by assumption) ?_
            try simp only [Act.put, List.getElem_toArray, List.getElem_cons_zero, List.getElem_cons_succ, List.setIfInBounds_toArray, List.set_cons_zero, List.set_cons_succ]
            refine wpAnyH_take (i := 8) (v := .pointer (some ⟨gl, 3, none⟩)) rfl (by kernel_rfl) (by kernel_rfl) (by kernel_rfl) (fun _ _ _ h => h) (Or.inl ⟨by kernel_rfl, fun W hW => by kernel_rfl⟩) (by assumption) ?_
            try simp only [Act.put, List.getElem_toArray, List.getElem_cons_zero, List.getElem_cons_succ, List.setIfInBounds_toArray, List.set_cons_zero, List.set_cons_succ]
            refine wpAnyH_take (i := 9) (v := .int .i64 pg) rfl (by kernel_rfl) (by kernel_rfl) (by kernel_rfl) (fun _ _ _ h => h) (Or.inl ⟨by kernel_rfl, fun W hW => by have q1 := (Below.cell hW (p := ⟨gl, 3, none⟩) hz7).trans c3; go_simp⟩) (by assumption) ?_
            try simp only [Act.put, List.getElem_toArray, List.getElem_cons_zero, List.getElem_cons_succ, List.setIfInBounds_toArray, List.set_cons_zero, List.set_cons_succ]
            refine wpAnyH_ready (rs := [3]) (by kernel_rfl) (by simp) ?_
            refine AllReadyH.cons rfl (fun K hK => ?_) AllReadyH.nil
            go_simp
            go_wp2_with (go_at_call 24; refine (side_digits lv _ (HL2.out.below hS)).mono ?_; rintro e w9 ⟨rfl, hb9⟩; replace hS := Below.trans hS (hb9.mono (Below.size hS)); clear hb9)
            refine hK.out _ _ (hS) (fun _ => ?_)
            clear K hK
            try simp only [Act.put, List.getElem_toArray, List.getElem_cons_zero, List.getElem_cons_succ, List.setIfInBounds_toArray, List.set_cons_zero, List.set_cons_succ]
            refine wpAnyH_ready (rs := [10]) (by kernel_rfl) (by simp) ?_
            refine AllReadyH.cons rfl (fun K hK => ?_) AllReadyH.nil
            go_simp
            go_wp2_with (go_at_call 24; refine (side_digits pg _ (HL2.out.below hS)).mono ?_; rintro e w9 ⟨rfl, hb9⟩; replace hS := Below.trans hS (hb9.mono (Below.size hS)); clear hb9)
            refine hK.out _ _ (hS) (fun _ => ?_)
            clear K hK
            try simp only [Act.put, List.getElem_toArray, List.getElem_cons_zero, List.getElem_cons_succ, List.setIfInBounds_toArray, List.set_cons_zero, List.set_cons_succ]
            refine wpAnyH_ready (rs := [11]) (by kernel_rfl) (by simp) ?_
            refine AllReadyH.cons rfl (fun K hK => ?_) AllReadyH.nil
            go_simp
            go_wp2_with fail
            refine hK.out _ _ (Below.alloc hS (Below.size hS) _) (fun _ => ?_)
            clear K hK
            try simp only [Act.put, List.getElem_toArray, List.getElem_cons_zero, List.getElem_cons_succ, List.setIfInBounds_toArray, List.set_cons_zero, List.set_cons_succ]
            replace hS := Below.alloc hS (Below.size hS) (.cells #[.string ⟨Sd.headW.toArray⟩, .string ⟨(Sd.dig lv).toArray⟩, .string ⟨y.num.toArray⟩, .string ⟨y.title.toArray⟩, .string ⟨(Sd.dig pg).toArray⟩] 9)
            refine wpAnyH_ready (rs := [12]) (by kernel_rfl) (by simp) ?_
            refine AllReadyH.cons rfl (fun K hK => ?_) AllReadyH.nil
            go_simp
            go_wp2_with (go_at_call 23; refine (side_record [Sd.headW, Sd.dig lv, y.num, y.title, Sd.dig pg] _ _ _ (HL2.out.below hS) (strs5 _ Sd.headW (Sd.dig lv) y.num y.title (Sd.dig pg)) (by simp) Hps.out).mono ?_; rw [Hrc.out]; rintro e w10 ⟨rfl, hb10⟩; replace hS := Below.trans hS (hb10.mono (Below.size hS)); clear hb10)
            refine hK.out _ _ (hS) (fun _ => ?_)
            clear K hK
            try simp only [Act.put, List.getElem_toArray, List.getElem_cons_zero, List.getElem_cons_succ, List.setIfInBounds_toArray, List.set_cons_zero, List.set_cons_succ]
            have hadd := Hadd.out
            refine wpAnyH_take (i := 13) (v := .string (⟨acc.toArray⟩ ++ ⟨rc.toArray⟩)) rfl (by kernel_rfl) (by kernel_rfl) (by kernel_rfl) (fun _ _ _ h => h) (Or.inl ⟨by kernel_rfl, fun W hW => by go_simp⟩) (by assumption) ?_
            try simp only [Act.put, List.getElem_toArray, List.getElem_cons_zero, List.getElem_cons_succ, List.setIfInBounds_toArray, List.set_cons_zero, List.set_cons_succ]
            refine wpAnyH_take (i := 14) (v := .string (⟨acc.toArray⟩ ++ ⟨rc.toArray⟩)) rfl (by kernel_rfl) (by kernel_rfl) (by kernel_rfl) (fun _ _ _ h => h) (Or.inl ⟨by kernel_rfl, fun W hW => by kernel_rfl⟩) (by assumption) ?_
            try simp only [Act.put, List.getElem_toArray, List.getElem_cons_zero, List.getElem_cons_succ, List.setIfInBounds_toArray, List.set_cons_zero, List.set_cons_succ]
            refine wpAnyH_done (by kernel_rfl) ?_ _
            have HB9 := Lib.hid (HB2.out.trans (Below.mono hS HB2.out.size))
            clear hS c0 c1 c2 c3 hz7 hadd
            go_upto_region 13 with fail
            have hkl := Hkl.out
            go_wp2_with fail
            go_roundw
            case rel => exact ⟨k + 1, by have := Hlt.out; omega, by go_num, by rw [Hfs.out, Hrc2.out]; exact congrArg Value.string (append_data _ _), by rw [Hfs.out, Hrc2.out, List.length_append]; have := Hal.out; have := Hrl.out; omega, HB9.out⟩
            case measure => have := Hlt.out; simp [intOf]; omega
          · have hlt' : ¬ (k : Int) < (x.heads.length : Int) := by omega
            have htk : x.heads.take k = x.heads := List.take_of_length_le (by omega)
            rw [htk] at hal ⊢
            have hk6 : k * 6000 ≤ 1000000 * 6000 := Nat.mul_le_mul_right _ (by omega)
            obtain ⟨A1, hA1⟩ : ∃ A, A0 ++ (x.heads.map Sd.encH).flatten = A := ⟨_, rfl⟩
            rw [hA1] at hal ⊢
            have hAl1 : A1.length ≤ 12000000000 := by omega
            have HA1 := Lib.hid hA1
            obtain ⟨wm1, hwm⟩ : ∃ W, W = wr := ⟨_, rfl⟩
            subst hwm
            have HBwm1 := Lib.hid HB.out
            have e62 := (Hbk.out.cell (p := ⟨w.heap.size, 2, none⟩) hz6).trans E62.out
            replace E63 := Lib.hid ((Hbk.out.cell (p := ⟨w.heap.size, 3, none⟩) hz6).trans E63.out)
            have hz7a : w.heap.size < wm1.heap.size := Nat.lt_of_lt_of_le hz6 Hbk.out.size
            clear hal htk hk6 hA1 hlt hk HB Hbk
            go_wp2_with fail
            go_loopw [4, 60] (fun sv iv wr => ∃ k : Nat, k ≤ x.cites.length ∧ iv = .int .i64 (k : Int) ∧ sv = .string ⟨(A1 ++ ((x.cites.take k).map Sd.encC).flatten).toArray⟩ ∧ (A1 ++ ((x.cites.take k).map Sd.encC).flatten).length ≤ 12000000000 + k * 6000 ∧ Below wm1.heap.size wm1 wr) (fun _ iv _ => x.cites.length - (intOf iv).toNat)
            case atStart => exact ⟨0, Nat.zero_le _, rfl, by simp, by simp only [List.take_zero, List.map_nil, List.flatten_nil, List.append_nil]; omega, Below.refl _ _⟩
            case round =>
              obtain ⟨k, hk, rfl, rfl, hal, hb⟩ := hrel
              have Hbk := Lib.hid hb; have HB := Lib.hid (HBwm1.out.trans (hb.mono HBwm1.out.size))
              clear hb
              by_cases hlt : k < x.cites.length
              · obtain ⟨y, hy⟩ : ∃ y, x.cites[k]? = some y := ⟨_, List.getElem?_eq_getElem hlt⟩
                obtain ⟨b, off, vs, rfl, _, hbw, hR, hcc⟩ := Hcat.out k y hy
                have hR : vs = _ := hR
                subst hR
                have hfs := flat_snoc Sd.encC x.cites k y hy
                obtain ⟨acc, hacc⟩ : ∃ acc, A1 ++ ((x.cites.take k).map Sd.encC).flatten = acc := ⟨_, rfl⟩
                have hfs2 : A1 ++ ((x.cites.take (k + 1)).map Sd.encC).flatten = acc ++ Sd.encC y := by rw [hfs, ← hacc]; simp
                rw [hacc] at hal ⊢
                have Hfs := Lib.hid hfs2
                have hlt' : (k : Int) < (x.cites.length : Int) := by omega
                have hkl : (k : Int) + 1 ≤ 9223372036854775807 := by omega
                have Hkl := Lib.hid hkl; have Hlt := Lib.hid hlt; have Hal := Lib.hid hal
                have hk6 : k * 6000 ≤ 1000000 * 6000 := Nat.mul_le_mul_right _ (by omega)
                have hps := Sd.citeL Sd.citeW y (by decide) (Hss.out.cite y (List.mem_of_getElem? hy))
                have hrl := rec_len _ (by simp) hps
                obtain ⟨rc, hrc⟩ : ∃ rc, Sd.record [Sd.citeW, y] = rc := ⟨_, rfl⟩
                have hrc2 : Sd.encC y = rc := hrc
                rw [hrc] at hrl
                have hadd : ¬ 9223372036854775807 < acc.length + rc.length := by omega
                have Hrc := Lib.hid hrc; have Hrc2 := Lib.hid hrc2; have Hps := Lib.hid hps; have Hrl := Lib.hid hrl; have Hadd := Lib.hid hadd
                have a0 : wr.cell? ⟨b, off + k, none⟩ = some (.string ⟨y.toArray⟩) := by
                  have := (HB.out.cell (p := ⟨b, off + (k * 1 + 0), none⟩) hbw).trans (hcc 0 _ rfl)
                  rwa [Nat.mul_one, Nat.add_zero] at this
                clear hcc hy hfs hacc hfs2 hk6 hal hps hrl hrc hrc2 hkl hadd
                go_upto_region 17 with fail
                have hadd := Hadd.out
                clear a0 hlt'
                go_upto_region 18 with (go_at_call 23; refine (side_record [Sd.citeW, y] _ _ _ (HL.out.below ((HB.out.trans ((below_new wr _).mono HB.out.size)))) (strs2 wr Sd.citeW y) (by simp) Hps.out).mono ?_; rw [Hrc.out]; rintro e w9 ⟨rfl, hb9⟩; have HB9 := Lib.hid (Hbk.out.trans (((below_new wr _).trans (hb9.mono (Nat.le_of_lt (lt_alloc wr _)))).mono Hbk.out.size)); clear hb9)
                have hkl := Hkl.out
                clear hadd
                go_wp2_with fail
                go_roundw
                case rel => exact ⟨k + 1, by have := Hlt.out; omega, by go_num, by rw [Hfs.out, Hrc2.out]; exact congrArg Value.string (append_data _ _), by rw [Hfs.out, Hrc2.out, List.length_append]; have := Hal.out; have := Hrl.out; omega, HB9.out⟩
                case measure => have := Hlt.out; simp [intOf]; omega
              · have hlt' : ¬ (k : Int) < (x.cites.length : Int) := by omega
                have htk : x.cites.take k = x.cites := List.take_of_length_le (by omega)
                rw [htk] at hal ⊢
                have hk6 : k * 6000 ≤ 1000000 * 6000 := Nat.mul_le_mul_right _ (by omega)
                obtain ⟨A2, hA2⟩ : ∃ A, A1 ++ (x.cites.map Sd.encC).flatten = A := ⟨_, rfl⟩
                rw [hA2] at hal ⊢
                have hAl2 : A2.length ≤ 18000000000 := by omega
                have HA2 := Lib.hid hA2
                obtain ⟨wm2, hwm⟩ : ∃ W, W = wr := ⟨_, rfl⟩
                subst hwm
                have HBwm2 := Lib.hid HB.out
                have e63 := (Hbk.out.cell (p := ⟨w.heap.size, 3, none⟩) hz7a).trans E63.out
                have hz8 : w.heap.size < wm2.heap.size := Nat.lt_of_lt_of_le hz7a Hbk.out.size
                clear hal htk hk6 hA2 hlt hk HB Hbk
                go_wp2_with fail
                go_loopw [4, 73] (fun sv iv wr => ∃ k : Nat, k ≤ x.bibs.length ∧ iv = .int .i64 (k : Int) ∧ sv = .string ⟨(A2 ++ ((x.bibs.take k).map Sd.encB).flatten).toArray⟩ ∧ (A2 ++ ((x.bibs.take k).map Sd.encB).flatten).length ≤ 18000000000 + k * 6000 ∧ Below wm2.heap.size wm2 wr) (fun _ iv _ => x.bibs.length - (intOf iv).toNat)
                case atStart => exact ⟨0, Nat.zero_le _, rfl, by simp, by simp only [List.take_zero, List.map_nil, List.flatten_nil, List.append_nil]; omega, Below.refl _ _⟩
                case round =>
                  obtain ⟨k, hk, rfl, rfl, hal, hb⟩ := hrel
                  have Hbk := Lib.hid hb; have HB := Lib.hid (HBwm2.out.trans (hb.mono HBwm2.out.size))
                  clear hb
                  by_cases hlt : k < x.bibs.length
                  · obtain ⟨y, hy⟩ : ∃ y, x.bibs[k]? = some y := ⟨_, List.getElem?_eq_getElem hlt⟩
                    obtain ⟨b, off, vs, rfl, _, hbw, hR, hcc⟩ := Hbat.out k y hy
                    have hR : vs = _ := hR
                    subst hR
                    have hfs := flat_snoc Sd.encB x.bibs k y hy
                    obtain ⟨acc, hacc⟩ : ∃ acc, A2 ++ ((x.bibs.take k).map Sd.encB).flatten = acc := ⟨_, rfl⟩
                    have hfs2 : A2 ++ ((x.bibs.take (k + 1)).map Sd.encB).flatten = acc ++ Sd.encB y := by rw [hfs, ← hacc]; simp
                    rw [hacc] at hal ⊢
                    have Hfs := Lib.hid hfs2
                    have hlt' : (k : Int) < (x.bibs.length : Int) := by omega
                    have hkl : (k : Int) + 1 ≤ 9223372036854775807 := by omega
                    have Hkl := Lib.hid hkl; have Hlt := Lib.hid hlt; have Hal := Lib.hid hal
                    have hk6 : k * 6000 ≤ 1000000 * 6000 := Nat.mul_le_mul_right _ (by omega)
                    have hps := Sd.citeL Sd.bibW y (by decide) (Hss.out.bib y (List.mem_of_getElem? hy))
                    have hrl := rec_len _ (by simp) hps
                    obtain ⟨rc, hrc⟩ : ∃ rc, Sd.record [Sd.bibW, y] = rc := ⟨_, rfl⟩
                    have hrc2 : Sd.encB y = rc := hrc
                    rw [hrc] at hrl
                    have hadd : ¬ 9223372036854775807 < acc.length + rc.length := by omega
                    have Hrc := Lib.hid hrc; have Hrc2 := Lib.hid hrc2; have Hps := Lib.hid hps; have Hrl := Lib.hid hrl; have Hadd := Lib.hid hadd
                    have a0 : wr.cell? ⟨b, off + k, none⟩ = some (.string ⟨y.toArray⟩) := by
                      have := (HB.out.cell (p := ⟨b, off + (k * 1 + 0), none⟩) hbw).trans (hcc 0 _ rfl)
                      rwa [Nat.mul_one, Nat.add_zero] at this
                    clear hcc hy hfs hacc hfs2 hk6 hal hps hrl hrc hrc2 hkl hadd
                    go_upto_region 22 with fail
                    have hadd := Hadd.out
                    clear a0 hlt'
                    go_upto_region 23 with (go_at_call 23; refine (side_record [Sd.bibW, y] _ _ _ (HL.out.below ((HB.out.trans ((below_new wr _).mono HB.out.size)))) (strs2 wr Sd.bibW y) (by simp) Hps.out).mono ?_; rw [Hrc.out]; rintro e w9 ⟨rfl, hb9⟩; have HB9 := Lib.hid (Hbk.out.trans (((below_new wr _).trans (hb9.mono (Nat.le_of_lt (lt_alloc wr _)))).mono Hbk.out.size)); clear hb9)
                    have hkl := Hkl.out
                    clear hadd
                    go_wp2_with fail
                    go_roundw
                    case rel => exact ⟨k + 1, by have := Hlt.out; omega, by go_num, by rw [Hfs.out, Hrc2.out]; exact congrArg Value.string (append_data _ _), by rw [Hfs.out, Hrc2.out, List.length_append]; have := Hal.out; have := Hrl.out; omega, HB9.out⟩
                    case measure => have := Hlt.out; simp [intOf]; omega
                  · have hlt' : ¬ (k : Int) < (x.bibs.length : Int) := by omega
                    have htk : x.bibs.take k = x.bibs := List.take_of_length_le (by omega)
                    rw [htk] at hal ⊢
                    have hk6 : k * 6000 ≤ 1000000 * 6000 := Nat.mul_le_mul_right _ (by omega)
                    go_wp2_with fail
                    go_ret2
                    rw [Henc.out]
                    refine ⟨?_, HB.out⟩
                    have h : Sd.encN x = A2 ++ (x.bibs.map Sd.encB).flatten := by unfold Sd.encN; rw [HA0.out, HA1.out, HA2.out]
                    simp only [if_true]
                    rw [h]
                    rfl
end Go.Proofs.YtimmmjmmjokdbaaGreatDoor
