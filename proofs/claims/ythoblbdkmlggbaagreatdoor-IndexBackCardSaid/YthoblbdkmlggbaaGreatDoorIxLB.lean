/- The law IndexBack: its walk. -/
import Derived.Test.YthoblbdkmlggbaaGreatDoorIxBP
import Derived.Test.YthoblbdkmlggbaaGreatDoorIxK
import Derived.Laws.IdiomStrings
set_option linter.unusedSimpArgs false
set_option linter.unusedVariables false
namespace Go.Proofs.YthoblbdkmlggbaaGreatDoor
open Go.RowKit
namespace Ix
/-- the first k mended -/
def mend (L : List En) (k : Nat) : List En := (L.take k).map fix9 ++ L.drop k
theorem mend_len (L : List En) (k : Nat) : (mend L k).length = L.length := by unfold mend; rw [List.length_append, List.length_map, List.length_take, List.length_drop]; omega
theorem mend_zero (L : List En) : mend L 0 = L := by unfold mend; simp
theorem mend_all (L : List En) : mend L L.length = L.map fix9 := by unfold mend; simp
theorem mend_get (L : List En) (k : Nat) (x : En) (h : L[k]? = some x) : (mend L k)[k]? = some x := by
  have hk := (List.getElem?_eq_some_iff.1 h).1
  unfold mend
  rw [List.getElem?_append_right (by rw [List.length_map, List.length_take]; omega), List.length_map, List.length_take, Nat.min_eq_left (by omega), Nat.sub_self, List.getElem?_drop, Nat.add_zero, h]
theorem mend_succ (L : List En) (k : Nat) (x : En) (h : L[k]? = some x) : mend L (k + 1) = (mend L k).set k (fix9 x) := by
  have hk := (List.getElem?_eq_some_iff.1 h).1
  have hd : L.drop k = x :: L.drop (k + 1) := by
    obtain ⟨h1, h2⟩ := List.getElem?_eq_some_iff.1 h
    rw [List.drop_eq_getElem_cons h1, h2]
  unfold mend
  rw [take_snoc L k x h, List.map_append, hd, List.set_append_right _ _ (by rw [List.length_map, List.length_take]; omega), List.length_map, List.length_take, Nat.min_eq_left (by omega), Nat.sub_self]
  simp
theorem flat_set : ∀ (l : List En) (k : Nat) (x : En) (v : Int), l[k]? = some x → (l.flatMap cE).set (2 * k + 1) (.int .i64 v) = (l.set k (x.1, v)).flatMap cE
  | [], k, x, v, h => by simp at h
  | y :: r, 0, x, v, h => by
    simp at h
    subst h
    rfl
  | y :: r, k + 1, x, v, h => by
    have h1 := flat_set r k x v (by simpa using h)
    rw [List.flatMap_cons, List.set_cons_succ, List.flatMap_cons, ← h1]
    rw [List.set_append_right _ _ (by show 2 ≤ 2 * (k + 1) + 1; omega)]
    congr 1
theorem flat_self : ∀ (l : List En) (k : Nat) (x : En), l[k]? = some x → l.set k x = l
  | [], k, x, h => by simp
  | y :: r, 0, x, h => by simp at h; subst h; rfl
  | y :: r, k + 1, x, h => by rw [List.set_cons_succ, flat_self r k x (by simpa using h)]
def bad9 (n : Int) : Bool := decide (n < 0) || decide (9 < n)
theorem fix9_bad (x : En) (h : bad9 x.2 = true) : fix9 x = (x.1, 3) := by
  unfold bad9 at h
  unfold fix9
  rw [if_pos (by simpa using h)]
theorem fix9_good (x : En) (h : bad9 x.2 = false) : fix9 x = x := by
  unfold bad9 at h
  unfold fix9
  rw [if_neg (by simp at h; omega)]
end Ix
theorem u8w (m : Nat) (h : m ≤ 9) : IntKind.u8.wrap (48 + (m : Int)) = 48 + (m : Int) := IntWalk.u8_in _ (by omega)
theorem i64w (m : Nat) (h : m ≤ 9) : IntKind.i64.wrap (48 + (m : Int)) = 48 + (m : Int) := IntWalk.i64_in _ (by omega)
theorem dig_conv (W : World) (g m : Nat) (hm : m ≤ 9) (h : W.cell? ⟨g, 0, none⟩ = some (.int .u8 (48 + (m : Int)))) :
    (convert 40 9 (.slice (some ⟨g, 0, none⟩) 1 1)).run Tryz.prog W = .ok (.string ⟨[UInt8.ofNat (48 + m)].toArray⟩) W := by
  refine run_convert_bytes_back W 40 9 5 ⟨g, 0, none⟩ 1 [UInt8.ofNat (48 + m)] Tryz.underlying40 Tryz.underlying5 Tryz.underlying9 (fun j hj => ?_)
  simp at hj
  subst hj
  rw [Addr.add_lit, h]
  have h1 : (UInt8.ofNat (48 + m)).toNat = 48 + m := by rw [UInt8.toNat_ofNat']; omega
  show _ = some (Value.int .u8 ((UInt8.ofNat (48 + m)).toNat : Int))
  rw [h1]
  rfl
theorem backS_next (L : List Ix.En) (k : Nat) (x : Ix.En) (h : L[k]? = some x) : Ix.backS ((L.take (k + 1)).map Ix.fix9) = Ix.backS ((L.take k).map Ix.fix9) ++ Sd.put (Ix.recW (Ix.fix9 x)) := by
  rw [Ix.take_snoc L k x h, List.map_append]
  unfold Ix.backS
  rw [List.flatMap_append]
  simp
theorem rep_ens : ∀ (l : List Ix.En) (fl : List Value), RepRow REn l fl → fl = l.flatMap cE
  | [], fl, h => h
  | x :: r, fl, h => by
    obtain ⟨vs, rest, rfl, hx, hr⟩ := h
    have hx : vs = _ := hx
    rw [List.flatMap_cons, rep_ens r rest hr, hx]
    rfl
theorem own_ens {w : World} {base : Nat} {v : Value} {l : List Ix.En} (h : w.ownsRow base 38 2 v l.length (l.flatMap cE)) : OwnL base 38 2 REn w v l := ⟨_, h, rep_flat (R := REn) cE (fun _ => rfl) l⟩
theorem Ix.putsOut_puts (ts : List (List UInt8)) : Ix.putsOut ts = Sd.puts ts := by unfold Ix.putsOut Sd.puts; rw [List.flatMap_def]
theorem get_one1 (s : List UInt8) : Ix.get [(Ix.nmX, s)] ([109] ++ Ix.idx) = some s := by
  have h : ([109] ++ Ix.idx : List UInt8) = Ix.nmX := rfl
  rw [h]
  exact Ix.get_of (l := [(Ix.nmX, s)]) (by unfold Ix.Sorted; exact List.pairwise_singleton _ _) (x := (Ix.nmX, s)) (by simp)
theorem job_m : Ix.jobOk [109] = true := by kernel_rfl
theorem run_back (M : List Ix.En) (hl : M.length ≤ 30) (hM : ∀ x ∈ M, x.1.length ≤ 60 ∧ 0 ≤ x.2 ∧ x.2 ≤ 9) : ∃ lt, Ix.run [(Ix.nmX, Ix.backS M)] [109] = some [([109] ++ Ix.ilg, lt), ([109] ++ Ix.ind, Ix.putsOut (Ix.lines M))] := by
  unfold Ix.run
  rw [if_pos job_m, get_one1]
  unfold Ix.filesOf
  refine ⟨_, congrArg some (congrArg (List.cons _) (congrArg (fun t => [([109] ++ Ix.ind, t)]) ?_))⟩
  unfold Ix.outOf
  rw [Option.getD_some, Ix.entries_back M hM, Option.getD_some]
  exact List.take_of_length_le (Ix.out_short M hl (fun x hx => (hM x hx).1) (fun x hx => (hM x hx).2.2))
theorem run_spoilt (M : List Ix.En) (hM : ∀ x ∈ M, x.1.length ≤ 60) : Ix.run [(Ix.nmX, Ix.backS M ++ [120])] [109] = some Ix.gB := by
  unfold Ix.run
  rw [if_pos job_m, get_one1, Option.getD_some]
  unfold Ix.filesOf Ix.notes2 Ix.notes1 Ix.outOf
  rw [Ix.entries_bad M hM 120]
  kernel_rfl
set_option maxRecDepth 100000 in
set_option maxHeartbeats 6400000 in
theorem lawIxBck_walk (p : Option Addr) (cap : Nat) (l : List Ix.En) (w : World) (hH : Laid10 w ∧ l.length ≤ maxLen) (hE : OSl 2 IEn w p l) :
    Calls Tryz.prog 7 #[.slice p l.length cap] w fun e w' => e = .returned (.bool true) ∧ Below w.heap.size w w' := by
  have HL := Lib.hid hH.1
  have Hc := Lib.hid (law19_cut p cap l w hE hH.2)
  clear hH hE
  go_enter Tryz.func7, Tryz.ntmps7
  go_wp2_with fail
  refine Hc.out.mono ?_
  rintro e w1 ⟨va, rfl, hO, hb1⟩
  obtain ⟨L, hL⟩ : ∃ L, L = Ix.cutE l := ⟨_, rfl⟩
  have hLn : L.length ≤ 30 := by rw [hL]; exact Ix.cutE_len l
  have hLw : ∀ x ∈ L, x.1.length ≤ 60 := by rw [hL]; exact Ix.cutE_word l
  rw [← hL] at hO
  obtain ⟨pa, ca, rfl⟩ := hO.form
  obtain ⟨fl, hown, hrep⟩ := hO
  rw [rep_ens L fl hrep] at hown
  have R0 := Lib.hid (show w1.ownsRow w.heap.size 38 2 (.slice pa L.length ca) L.length ((Ix.mend L 0).flatMap cE) by rw [Ix.mend_zero]; exact hown)
  have HLn := Lib.hid hLn; have HLw := Lib.hid hLw; have B1 := Lib.hid hb1
  clear hLn hLw hb1 hown hrep hL Hc
  go_wp2_with fail
  go_loopw [3, 4] (fun sv iv wr => ∃ k : Nat, k ≤ L.length ∧ iv = .int .i64 (k : Int) ∧ sv = .string ⟨(Ix.backS ((L.take k).map Ix.fix9)).toArray⟩ ∧ wr.ownsRow w.heap.size 38 2 (.slice pa L.length ca) L.length ((Ix.mend L k).flatMap cE) ∧ Below w.heap.size w wr) (fun _ iv _ => L.length - (intOf iv).toNat)
  case atStart => exact ⟨0, Nat.zero_le _, rfl, rfl, R0.out, B1.out⟩
  case round =>
    clear R0 B1
    obtain ⟨k, hk, rfl, rfl, hR, hb⟩ := hrel
    have HR := Lib.hid hR; have Hb := Lib.hid hb
    clear hR hb
    by_cases hlt : k < L.length
    · obtain ⟨x, hx⟩ : ∃ x, L[k]? = some x := ⟨_, List.getElem?_eq_getElem hlt⟩
      obtain ⟨g, cap', hform, hg1, hg2⟩ := HR.out.form (by omega)
      simp only [Value.slice.injEq] at hform
      obtain ⟨rfl, hq, rfl⟩ := hform
      clear hq
      have hO := own_ens (l := Ix.mend L k) (by rw [Ix.mend_len]; exact HR.out)
      have hsl := hO.slice REn.size (fun _ => True) (fun _ _ => trivial)
      obtain ⟨p', c', hp', _, _, hat⟩ := hsl
      simp only [Value.slice.injEq] at hp'
      obtain ⟨rfl, hq, rfl⟩ := hp'
      clear hq
      obtain ⟨b, off, vs, hbo, _, hbw, hR2, hc⟩ := hat k x (Ix.mend_get L k x hx)
      simp only [Option.some.injEq, Addr.mk.injEq, and_true] at hbo
      obtain ⟨rfl, rfl⟩ := hbo
      have hR2 : vs = _ := hR2
      subst hR2
      obtain ⟨xw, xp⟩ := x
      have e0 : wr.cell? ⟨g, k * 2, none⟩ = some (.string ⟨xw.toArray⟩) := by have := hc 0 _ rfl; simpa using this
      have e1 : wr.cell? ⟨g, k * 2 + 1, none⟩ = some (.int .i64 xp) := by have := hc 1 _ rfl; simpa using this
      have hfz := HR.out.frozenAt (k * 2 + 1)
      have hlt' : (k : Int) < (L.length : Int) := by omega
      obtain ⟨S, hS⟩ : ∃ S, S = Ix.backS ((L.take k).map Ix.fix9) := ⟨_, rfl⟩
      rw [← hS]
      have Hx := Lib.hid hx; have HS := Lib.hid hS; have Hlt := Lib.hid hlt; have Hg1 := Lib.hid hg1; have Hg2 := Lib.hid hg2
      clear hx hS hlt hat hc hO hbw hg1 hg2
      go_upto_region 6 with fail
      go_cut [36] from 23 to 36 (fun v W => v = .bool (Ix.bad9 xp) ∧ W = wr)
      case first =>
        by_cases hneg : xp < 0
        · have hbd := Lib.hid (show Ix.bad9 xp = true by unfold Ix.bad9; simp [hneg])
          go_wp2_with fail
          go_meet
          exact ⟨by rw [hbd.out], rfl⟩
        · have hd : decide (xp < 0) = false := decide_eq_false hneg
          by_cases h9 : 9 < xp
          · have hbd := Lib.hid (show Ix.bad9 xp = true by unfold Ix.bad9; simp [h9])
            clear hneg
            go_wp2_with fail
            go_meet
            exact ⟨by rw [hbd.out], rfl⟩
          · have hd9 : decide (9 < xp) = false := decide_eq_false h9
            have hbd := Lib.hid (show Ix.bad9 xp = false by unfold Ix.bad9; simp; omega)
            clear hneg h9
            go_wp2_with fail
            go_meet
            exact ⟨by rw [hbd.out], rfl⟩
      case rest =>
        obtain ⟨rfl, hw⟩ := hcut
        have hw := hw.symm
        subst hw
        go_upto_if 36 with fail
        go_cut [36, 37] from 38 to 40 (fun _ _ W => W.ownsRow w.heap.size 38 2 (.slice (some ⟨g, 0, none⟩) L.length ca) L.length ((Ix.mend L (k + 1)).flatMap cE) ∧ Below w.heap.size w W)
        case first =>
          cases hbd : Ix.bad9 xp with
          | true =>
            have Hbd := Lib.hid hbd; clear hbd
            go_wp2_with fail
            go_meet
            refine ⟨?_, Hb.out.setCell (p := ⟨g, k * 2 + 1, none⟩) Hg1.out _⟩
            have h1 := HR.out.stored (k * 2 + 1) (.int .i64 3)
            rw [Ix.mend_succ L k (xw, xp) Hx.out, Ix.fix9_bad (xw, xp) Hbd.out, ← Ix.flat_set (Ix.mend L k) k (xw, xp) 3 (Ix.mend_get L k _ Hx.out), Nat.mul_comm 2 k]
            exact h1.1
          | false =>
            have Hbd := Lib.hid hbd; clear hbd
            go_wp2_with fail
            go_meet
            refine ⟨?_, Hb.out⟩
            rw [Ix.mend_succ L k (xw, xp) Hx.out, Ix.fix9_good (xw, xp) Hbd.out, Ix.flat_self (Ix.mend L k) k (xw, xp) (Ix.mend_get L k _ Hx.out)]
            exact HR.out
        case rest =>
          obtain ⟨hRc, hbc⟩ := hcut
          clear hfz e0 e1
          obtain ⟨y, hy⟩ : ∃ y, y = Ix.fix9 (xw, xp) := ⟨_, rfl⟩
          have hy9 := Ix.fix9_ok (xw, xp)
          rw [← hy] at hy9
          obtain ⟨yw, yp⟩ := y
          simp only at hy9
          obtain ⟨hy0, hy9, rfl⟩ := hy9
          obtain ⟨m, rfl⟩ : ∃ m : Nat, yp = (m : Int) := ⟨yp.toNat, by omega⟩
          have hget : (Ix.mend L (k + 1))[k]? = some (yw, (m : Int)) := by
            rw [Ix.mend_succ L k _ Hx.out, List.getElem?_set_self (by rw [Ix.mend_len]; exact Hlt.out), hy]
          have hsl := (own_ens (l := Ix.mend L (k + 1)) (by rw [Ix.mend_len]; exact hRc)).slice REn.size (fun _ => True) (fun _ _ => trivial)
          obtain ⟨p', c', hp', _, _, hat⟩ := hsl
          simp only [Value.slice.injEq] at hp'
          obtain ⟨rfl, hq, rfl⟩ := hp'
          clear hq
          obtain ⟨b, off, vs, hbo, _, hbw, hR2, hc⟩ := hat k _ hget
          simp only [Option.some.injEq, Addr.mk.injEq, and_true] at hbo
          obtain ⟨rfl, rfl⟩ := hbo
          have hR2 : vs = _ := hR2
          subst hR2
          have e0 : wc.cell? ⟨g, k * 2, none⟩ = some (.string ⟨yw.toArray⟩) := by have := hc 0 _ rfl; simpa using this
          have e1 : wc.cell? ⟨g, k * 2 + 1, none⟩ = some (.int .i64 (m : Int)) := by have := hc 1 _ rfl; simpa using this
          have hm9 : m ≤ 9 := by omega
          have hyl := HLw.out _ (List.mem_of_getElem? Hx.out)
          simp only at hyl
          have hw1 : IntKind.i64.wrap (48 + (m : Int)) = 48 + (m : Int) := i64w m hm9
          have hw2 : IntKind.u8.wrap (48 + (m : Int)) = 48 + (m : Int) := u8w m hm9
          have Hy := Lib.hid hy; have Hm9 := Lib.hid hm9; have Hyl := Lib.hid hyl; have HRc := Lib.hid hRc; have Hbc := Lib.hid hbc; have E0 := Lib.hid e0; have E1 := Lib.hid e1; have Hgc := Lib.hid hbw
          clear hy hy0 hy9 hm9 hyl hRc hbc e0 e1 hbw hc hat hget HR Hb
          have Hlen := Lib.hid (show S.length ≤ 2550 by
            rw [HS.out]
            have h1 := Ix.backS_len ((L.take k).map Ix.fix9) (fun z hz => by
              obtain ⟨z', hz', rfl⟩ := List.mem_map.1 hz
              rw [(Ix.fix9_ok z').2.2]
              exact HLw.out z' (List.mem_of_mem_take hz'))
            have h2 : ((L.take k).map Ix.fix9).length ≤ 30 := by rw [List.length_map, List.length_take]; have := HLn.out; omega
            have h3 : 85 * ((L.take k).map Ix.fix9).length ≤ 2550 := by omega
            exact Nat.le_trans h1 h3)
          obtain ⟨dg, hdg⟩ : ∃ d, d = [UInt8.ofNat (48 + m)] := ⟨_, rfl⟩
          obtain ⟨pw, hpw⟩ : ∃ d, d = Sd.put yw := ⟨_, rfl⟩
          obtain ⟨pd, hpd⟩ : ∃ d, d = Sd.put dg := ⟨_, rfl⟩
          obtain ⟨rc, hrc⟩ : ∃ d, d = pw ++ pd := ⟨_, rfl⟩
          obtain ⟨pr, hpr⟩ : ∃ d, d = Sd.put rc := ⟨_, rfl⟩
          obtain ⟨T, hT⟩ : ∃ d, d = S ++ pr := ⟨_, rfl⟩
          have l1 : pw.length ≤ 68 := by rw [hpw]; have := Sd.put_le yw (by have := Hyl.out; omega); have := Hyl.out; omega
          have l2 : pd.length ≤ 9 := by rw [hpd]; have h1 := Sd.put_le dg (by rw [hdg]; simp); have h2 : dg.length = 1 := by rw [hdg]; rfl
                                        omega
          have l3 : rc.length ≤ 77 := by rw [hrc, List.length_append]; omega
          have l4 : pr.length ≤ 85 := by rw [hpr]; have := Sd.put_le rc (by omega); omega
          have hq1 : ¬ 9223372036854775807 < pw.length + pd.length := by omega
          have hq2 : ¬ 9223372036854775807 < S.length + pr.length := by have := Hlen.out; omega
          have hap1 : (⟨pw.toArray⟩ : ByteArray) ++ ⟨pd.toArray⟩ = ⟨rc.toArray⟩ := by rw [hrc]; exact append_data pw pd
          have hap2 : (⟨S.toArray⟩ : ByteArray) ++ ⟨pr.toArray⟩ = ⟨T.toArray⟩ := by rw [hT]; exact append_data S pr
          have Hdg := Lib.hid hdg; have Hpw := Lib.hid hpw; have Hpd := Lib.hid hpd; have Hrc := Lib.hid hrc; have Hpr := Lib.hid hpr; have HT := Lib.hid hT; have L3 := Lib.hid l3; have L2 := Lib.hid l2
          clear hdg hpw hpd hrc hpr hT l1 l2 l3 l4
          go_upto_region 8 with fail
          refine wp_region_any (by kernel_rfl) ?_
          change wpAny _ _ _ _ _ _ _ (World.drew _)
          have F0 := Lib.hid (show wc.drew.cell? ⟨g, k * 2, none⟩ = _ from E0.out); have F1 := Lib.hid (show wc.drew.cell? ⟨g, k * 2 + 1, none⟩ = _ from E1.out)
          have Hgd := Lib.hid (show g < wc.drew.heap.size from Hgc.out)
          have HBd := Lib.hid Hbc.out.drew
          have HRd := Lib.hid (own_below9 HRc.out (show Below wc.heap.size wc wc.drew from (Below.refl _ _).drew))
          have HLd := Lib.hid (HL.out.below HBd.out)
          clear E0 E1 Hgc Hbc HRc
          generalize wc.drew = wd at *
          have hS0 : Below wd.heap.size wd wd := Below.refl _ _
          have HB_wd := Lib.hid hS0
          refine wpAny_of_held (S := fun W => Below wd.heap.size wd W) _ _ _ _ ?_
          refine wpAnyH_take (i := 0) (v := .string ⟨S.toArray⟩) rfl (by kernel_rfl) (by kernel_rfl) (by kernel_rfl) (fun _ _ _ h => h) (Or.inl ⟨by kernel_rfl, fun W hW => by kernel_rfl⟩) (by assumption) ?_
          try simp only [Act.put, List.getElem_toArray, List.getElem_cons_zero, List.getElem_cons_succ, List.setIfInBounds_toArray, List.set_cons_zero, List.set_cons_succ]
          refine wpAnyH_take (i := 1) (v := .slice (some ⟨g, 0, none⟩) L.length ca) rfl (by kernel_rfl) (by kernel_rfl) (by kernel_rfl) (fun _ _ _ h => h) (Or.inl ⟨by kernel_rfl, fun W hW => by kernel_rfl⟩) (by assumption) ?_
          try simp only [Act.put, List.getElem_toArray, List.getElem_cons_zero, List.getElem_cons_succ, List.setIfInBounds_toArray, List.set_cons_zero, List.set_cons_succ]
          refine wpAnyH_take (i := 2) (v := .int .i64 (k : Int)) rfl (by kernel_rfl) (by kernel_rfl) (by kernel_rfl) (fun _ _ _ h => h) (Or.inl ⟨by kernel_rfl, fun W hW => by kernel_rfl⟩) (by assumption) ?_
          try simp only [Act.put, List.getElem_toArray, List.getElem_cons_zero, List.getElem_cons_succ, List.setIfInBounds_toArray, List.set_cons_zero, List.set_cons_succ]
          refine wpAnyH_take (i := 3) (v := .pointer (some ⟨g, k * 2, none⟩)) rfl (by kernel_rfl) (by kernel_rfl) (by kernel_rfl) (fun _ _ _ h => h) (Or.inl ⟨by kernel_rfl, fun W hW => by go_simp⟩) (by assumption) ?_
          try simp only [Act.put, List.getElem_toArray, List.getElem_cons_zero, List.getElem_cons_succ, List.setIfInBounds_toArray, List.set_cons_zero, List.set_cons_succ]
          refine wpAnyH_take (i := 4) (v := .pointer (some ⟨g, k * 2, none⟩)) rfl (by kernel_rfl) (by kernel_rfl) (by kernel_rfl) (fun _ _ _ h => h) (Or.inl ⟨by kernel_rfl, fun W hW => by go_simp⟩) (by assumption) ?_
          try simp only [Act.put, List.getElem_toArray, List.getElem_cons_zero, List.getElem_cons_succ, List.setIfInBounds_toArray, List.set_cons_zero, List.set_cons_succ]
          refine wpAnyH_take (i := 5) (v := .string ⟨yw.toArray⟩) rfl (by kernel_rfl) (by kernel_rfl) (by kernel_rfl) (fun _ _ _ h => h) (Or.inl ⟨by kernel_rfl, fun W hW => by (have c := (hW.cell (p := ⟨g, k * 2, none⟩) Hgd.out).trans F0.out; go_simp)⟩) (by assumption) ?_
          try simp only [Act.put, List.getElem_toArray, List.getElem_cons_zero, List.getElem_cons_succ, List.setIfInBounds_toArray, List.set_cons_zero, List.set_cons_succ]
          refine wpAnyH_take (i := 7) (v := .slice (some ⟨g, 0, none⟩) L.length ca) rfl (by kernel_rfl) (by kernel_rfl) (by kernel_rfl) (fun _ _ _ h => h) (Or.inl ⟨by kernel_rfl, fun W hW => by kernel_rfl⟩) (by assumption) ?_
          try simp only [Act.put, List.getElem_toArray, List.getElem_cons_zero, List.getElem_cons_succ, List.setIfInBounds_toArray, List.set_cons_zero, List.set_cons_succ]
          refine wpAnyH_take (i := 8) (v := .int .i64 (k : Int)) rfl (by kernel_rfl) (by kernel_rfl) (by kernel_rfl) (fun _ _ _ h => h) (Or.inl ⟨by kernel_rfl, fun W hW => by kernel_rfl⟩) (by assumption) ?_
          try simp only [Act.put, List.getElem_toArray, List.getElem_cons_zero, List.getElem_cons_succ, List.setIfInBounds_toArray, List.set_cons_zero, List.set_cons_succ]
          refine wpAnyH_take (i := 9) (v := .pointer (some ⟨g, k * 2, none⟩)) rfl (by kernel_rfl) (by kernel_rfl) (by kernel_rfl) (fun _ _ _ h => h) (Or.inl ⟨by kernel_rfl, fun W hW => by go_simp⟩) (by assumption) ?_
          try simp only [Act.put, List.getElem_toArray, List.getElem_cons_zero, List.getElem_cons_succ, List.setIfInBounds_toArray, List.set_cons_zero, List.set_cons_succ]
          refine wpAnyH_take (i := 10) (v := .pointer (some ⟨g, k * 2 + 1, none⟩)) rfl (by kernel_rfl) (by kernel_rfl) (by kernel_rfl) (fun _ _ _ h => h) (Or.inl ⟨by kernel_rfl, fun W hW => by go_simp⟩) (by assumption) ?_
          try simp only [Act.put, List.getElem_toArray, List.getElem_cons_zero, List.getElem_cons_succ, List.setIfInBounds_toArray, List.set_cons_zero, List.set_cons_succ]
          refine wpAnyH_take (i := 11) (v := .int .i64 (m : Int)) rfl (by kernel_rfl) (by kernel_rfl) (by kernel_rfl) (fun _ _ _ h => h) (Or.inl ⟨by kernel_rfl, fun W hW => by (have c := (hW.cell (p := ⟨g, k * 2 + 1, none⟩) Hgd.out).trans F1.out; go_simp)⟩) (by assumption) ?_
          try simp only [Act.put, List.getElem_toArray, List.getElem_cons_zero, List.getElem_cons_succ, List.setIfInBounds_toArray, List.set_cons_zero, List.set_cons_succ]
          refine wpAnyH_take (i := 12) (v := .int .i64 (48 + (m : Int))) rfl (by kernel_rfl) (by kernel_rfl) (by kernel_rfl) (fun _ _ _ h => h) (Or.inl ⟨by kernel_rfl, fun W hW => by go_simp⟩) (by assumption) ?_
          try simp only [Act.put, List.getElem_toArray, List.getElem_cons_zero, List.getElem_cons_succ, List.setIfInBounds_toArray, List.set_cons_zero, List.set_cons_succ]
          refine wpAnyH_take (i := 13) (v := .int .u8 (48 + (m : Int))) rfl (by kernel_rfl) (by kernel_rfl) (by kernel_rfl) (fun _ _ _ h => h) (Or.inl ⟨by kernel_rfl, fun W hW => by go_simp⟩) (by assumption) ?_
          try simp only [Act.put, List.getElem_toArray, List.getElem_cons_zero, List.getElem_cons_succ, List.setIfInBounds_toArray, List.set_cons_zero, List.set_cons_succ]
          refine wpAnyH_ready (rs := [6, 14]) (by kernel_rfl) (by simp) ?_
          refine AllReadyH.cons rfl (fun K hK => ?_) (AllReadyH.cons rfl (fun K hK => ?_) AllReadyH.nil)
          · go_simp
            go_wp2_with (go_at_call 19; refine (wire_put yw _ (HLd.out.below HB_wd.out).cnt (by have := Hyl.out; omega)).mono ?_; rw [← Hpw.out]; rintro e wq1 ⟨rfl, hq⟩; have HB_wq1 := Lib.hid (bseq HB_wd.out hq); clear hq)
            refine hK.out _ _ HB_wq1.out (fun _ => ?_)
            clear K hK
            try simp only [Act.put, List.getElem_toArray, List.getElem_cons_zero, List.getElem_cons_succ, List.setIfInBounds_toArray, List.set_cons_zero, List.set_cons_succ]
            refine wpAnyH_ready (rs := [14]) (by kernel_rfl) (by simp) ?_
            refine AllReadyH.cons rfl (fun K hK => ?_) AllReadyH.nil
            · go_simp
              obtain ⟨wq2, hwq2⟩ : ∃ W, W = wq1.alloc (.cells #[.int .u8 (48 + (m : Int))] 5) := ⟨_, rfl⟩
              obtain ⟨g_wq2, hgwq2⟩ : ∃ g, g = wq1.heap.size := ⟨_, rfl⟩
              rw [← hwq2]
              try rw [← hgwq2]
              have hbq : Below wq1.heap.size wq1 wq2 := by rw [hwq2]; exact below_new _ _
              have HB_wq2 := Lib.hid (bseq HB_wq1.out hbq)
              have C_wq2 := Lib.hid (show wq2.cell? ⟨g_wq2, 0, none⟩ = some (.int .u8 (48 + (m : Int))) by rw [hwq2, hgwq2, cell_of_row _ _ 0 _ _ _ (heap_alloc_new _ _)]; rfl)
              have L_wq2 := Lib.hid (show g_wq2 < wq2.heap.size by rw [hwq2, hgwq2]; exact lt_alloc _ _)
              clear hbq hgwq2 hwq2
              refine hK.out _ _ HB_wq2.out (fun _ => ?_)
              clear K hK
              try simp only [Act.put, List.getElem_toArray, List.getElem_cons_zero, List.getElem_cons_succ, List.setIfInBounds_toArray, List.set_cons_zero, List.set_cons_succ]
              refine wpAnyH_ready (rs := [15]) (by kernel_rfl) (by simp) ?_
              refine AllReadyH.cons rfl (fun K hK => ?_) AllReadyH.nil
              · have cc := dig_conv wq2 g_wq2 m Hm9.out C_wq2.out
                rw [← Hdg.out] at cc
                go_simp
                clear cc
                refine hK.out _ _ HB_wq2.out (fun _ => ?_)
                clear K hK
                try simp only [Act.put, List.getElem_toArray, List.getElem_cons_zero, List.getElem_cons_succ, List.setIfInBounds_toArray, List.set_cons_zero, List.set_cons_succ]
                refine wpAnyH_ready (rs := [16]) (by kernel_rfl) (by simp) ?_
                refine AllReadyH.cons rfl (fun K hK => ?_) AllReadyH.nil
                · go_simp
                  go_wp2_with (go_at_call 19; refine (wire_put dg _ (HLd.out.below HB_wq2.out).cnt (by rw [Hdg.out]; simp)).mono ?_; rw [← Hpd.out]; rintro e wq4 ⟨rfl, hq⟩; have HB_wq4 := Lib.hid (bseq HB_wq2.out hq); clear hq)
                  refine hK.out _ _ HB_wq4.out (fun _ => ?_)
                  clear K hK
                  try simp only [Act.put, List.getElem_toArray, List.getElem_cons_zero, List.getElem_cons_succ, List.setIfInBounds_toArray, List.set_cons_zero, List.set_cons_succ]
                  refine wpAnyH_take (i := 17) (v := .string ⟨rc.toArray⟩) rfl (by kernel_rfl) (by kernel_rfl) (by kernel_rfl) (fun _ _ _ h => h) (Or.inl ⟨by kernel_rfl, fun W hW => by go_simp⟩) (by assumption) ?_
                  try simp only [Act.put, List.getElem_toArray, List.getElem_cons_zero, List.getElem_cons_succ, List.setIfInBounds_toArray, List.set_cons_zero, List.set_cons_succ]
                  refine wpAnyH_ready (rs := [18]) (by kernel_rfl) (by simp) ?_
                  refine AllReadyH.cons rfl (fun K hK => ?_) AllReadyH.nil
                  go_simp
                  go_wp2_with (go_at_call 19; refine (wire_put rc _ (HLd.out.below HB_wq4.out).cnt (by have := L3.out; omega)).mono ?_; rw [← Hpr.out]; rintro e wq5 ⟨rfl, hq⟩; have HB_wq5 := Lib.hid (bseq HB_wq4.out hq); clear hq)
                  refine hK.out _ _ (HB_wq5.out) (fun _ => ?_)
                  clear K hK
                  try simp only [Act.put, List.getElem_toArray, List.getElem_cons_zero, List.getElem_cons_succ, List.setIfInBounds_toArray, List.set_cons_zero, List.set_cons_succ]
                  refine wpAnyH_take (i := 19) (v := .string ⟨T.toArray⟩) rfl (by kernel_rfl) (by kernel_rfl) (by kernel_rfl) (fun _ _ _ h => h) (Or.inl ⟨by kernel_rfl, fun W hW => by go_simp⟩) (by assumption) ?_
                  try simp only [Act.put, List.getElem_toArray, List.getElem_cons_zero, List.getElem_cons_succ, List.setIfInBounds_toArray, List.set_cons_zero, List.set_cons_succ]
                  refine wpAnyH_take (i := 20) (v := .string ⟨T.toArray⟩) rfl (by kernel_rfl) (by kernel_rfl) (by kernel_rfl) (fun _ _ _ h => h) (Or.inl ⟨by kernel_rfl, fun W hW => by kernel_rfl⟩) (by assumption) ?_
                  try simp only [Act.put, List.getElem_toArray, List.getElem_cons_zero, List.getElem_cons_succ, List.setIfInBounds_toArray, List.set_cons_zero, List.set_cons_succ]
                  refine wpAnyH_done (by kernel_rfl) ?_ _
                  have hkl : (k : Int) + 1 ≤ 9223372036854775807 := by have := Hlt.out; have := HLn.out; omega
                  go_wp2_with fail
                  go_roundw
                  case rel =>
                    refine ⟨k + 1, by have := Hlt.out; omega, by go_num, ?_, own_below9 HRd.out HB_wq5.out, bseq HBd.out HB_wq5.out⟩
                    rw [backS_next L k _ Hx.out, ← HS.out, ← Hy.out, HT.out, Hpr.out, Hrc.out, Hpw.out, Hpd.out, Hdg.out]
                    rfl
                  case measure => have := Hlt.out; simp [intOf]; omega
          · go_simp
            obtain ⟨wq6, hwq6⟩ : ∃ W, W = wd.alloc (.cells #[.int .u8 (48 + (m : Int))] 5) := ⟨_, rfl⟩
            obtain ⟨g_wq6, hgwq6⟩ : ∃ g, g = wd.heap.size := ⟨_, rfl⟩
            rw [← hwq6]
            try rw [← hgwq6]
            have hbq : Below wd.heap.size wd wq6 := by rw [hwq6]; exact below_new _ _
            have HB_wq6 := Lib.hid (bseq HB_wd.out hbq)
            have C_wq6 := Lib.hid (show wq6.cell? ⟨g_wq6, 0, none⟩ = some (.int .u8 (48 + (m : Int))) by rw [hwq6, hgwq6, cell_of_row _ _ 0 _ _ _ (heap_alloc_new _ _)]; rfl)
            have L_wq6 := Lib.hid (show g_wq6 < wq6.heap.size by rw [hwq6, hgwq6]; exact lt_alloc _ _)
            clear hbq hgwq6 hwq6
            refine hK.out _ _ HB_wq6.out (fun _ => ?_)
            clear K hK
            try simp only [Act.put, List.getElem_toArray, List.getElem_cons_zero, List.getElem_cons_succ, List.setIfInBounds_toArray, List.set_cons_zero, List.set_cons_succ]
            refine wpAnyH_ready (rs := [6, 15]) (by kernel_rfl) (by simp) ?_
            refine AllReadyH.cons rfl (fun K hK => ?_) (AllReadyH.cons rfl (fun K hK => ?_) AllReadyH.nil)
            · go_simp
              go_wp2_with (go_at_call 19; refine (wire_put yw _ (HLd.out.below HB_wq6.out).cnt (by have := Hyl.out; omega)).mono ?_; rw [← Hpw.out]; rintro e wq7 ⟨rfl, hq⟩; have HB_wq7 := Lib.hid (bseq HB_wq6.out hq); have C_wq7 := Lib.hid ((hq.cell (p := ⟨g_wq6, 0, none⟩) L_wq6.out).trans C_wq6.out); have L_wq7 := Lib.hid (Nat.lt_of_lt_of_le L_wq6.out hq.size); clear hq)
              refine hK.out _ _ HB_wq7.out (fun _ => ?_)
              clear K hK
              try simp only [Act.put, List.getElem_toArray, List.getElem_cons_zero, List.getElem_cons_succ, List.setIfInBounds_toArray, List.set_cons_zero, List.set_cons_succ]
              refine wpAnyH_ready (rs := [15]) (by kernel_rfl) (by simp) ?_
              refine AllReadyH.cons rfl (fun K hK => ?_) AllReadyH.nil
              · have cc := dig_conv wq7 g_wq6 m Hm9.out C_wq7.out
                rw [← Hdg.out] at cc
                go_simp
                clear cc
                refine hK.out _ _ HB_wq7.out (fun _ => ?_)
                clear K hK
                try simp only [Act.put, List.getElem_toArray, List.getElem_cons_zero, List.getElem_cons_succ, List.setIfInBounds_toArray, List.set_cons_zero, List.set_cons_succ]
                refine wpAnyH_ready (rs := [16]) (by kernel_rfl) (by simp) ?_
                refine AllReadyH.cons rfl (fun K hK => ?_) AllReadyH.nil
                · go_simp
                  go_wp2_with (go_at_call 19; refine (wire_put dg _ (HLd.out.below HB_wq7.out).cnt (by rw [Hdg.out]; simp)).mono ?_; rw [← Hpd.out]; rintro e wq9 ⟨rfl, hq⟩; have HB_wq9 := Lib.hid (bseq HB_wq7.out hq); clear hq)
                  refine hK.out _ _ HB_wq9.out (fun _ => ?_)
                  clear K hK
                  try simp only [Act.put, List.getElem_toArray, List.getElem_cons_zero, List.getElem_cons_succ, List.setIfInBounds_toArray, List.set_cons_zero, List.set_cons_succ]
                  refine wpAnyH_take (i := 17) (v := .string ⟨rc.toArray⟩) rfl (by kernel_rfl) (by kernel_rfl) (by kernel_rfl) (fun _ _ _ h => h) (Or.inl ⟨by kernel_rfl, fun W hW => by go_simp⟩) (by assumption) ?_
                  try simp only [Act.put, List.getElem_toArray, List.getElem_cons_zero, List.getElem_cons_succ, List.setIfInBounds_toArray, List.set_cons_zero, List.set_cons_succ]
                  refine wpAnyH_ready (rs := [18]) (by kernel_rfl) (by simp) ?_
                  refine AllReadyH.cons rfl (fun K hK => ?_) AllReadyH.nil
                  go_simp
                  go_wp2_with (go_at_call 19; refine (wire_put rc _ (HLd.out.below HB_wq9.out).cnt (by have := L3.out; omega)).mono ?_; rw [← Hpr.out]; rintro e wq10 ⟨rfl, hq⟩; have HB_wq10 := Lib.hid (bseq HB_wq9.out hq); clear hq)
                  refine hK.out _ _ (HB_wq10.out) (fun _ => ?_)
                  clear K hK
                  try simp only [Act.put, List.getElem_toArray, List.getElem_cons_zero, List.getElem_cons_succ, List.setIfInBounds_toArray, List.set_cons_zero, List.set_cons_succ]
                  refine wpAnyH_take (i := 19) (v := .string ⟨T.toArray⟩) rfl (by kernel_rfl) (by kernel_rfl) (by kernel_rfl) (fun _ _ _ h => h) (Or.inl ⟨by kernel_rfl, fun W hW => by go_simp⟩) (by assumption) ?_
                  try simp only [Act.put, List.getElem_toArray, List.getElem_cons_zero, List.getElem_cons_succ, List.setIfInBounds_toArray, List.set_cons_zero, List.set_cons_succ]
                  refine wpAnyH_take (i := 20) (v := .string ⟨T.toArray⟩) rfl (by kernel_rfl) (by kernel_rfl) (by kernel_rfl) (fun _ _ _ h => h) (Or.inl ⟨by kernel_rfl, fun W hW => by kernel_rfl⟩) (by assumption) ?_
                  try simp only [Act.put, List.getElem_toArray, List.getElem_cons_zero, List.getElem_cons_succ, List.setIfInBounds_toArray, List.set_cons_zero, List.set_cons_succ]
                  refine wpAnyH_done (by kernel_rfl) ?_ _
                  have hkl : (k : Int) + 1 ≤ 9223372036854775807 := by have := Hlt.out; have := HLn.out; omega
                  go_wp2_with fail
                  go_roundw
                  case rel =>
                    refine ⟨k + 1, by have := Hlt.out; omega, by go_num, ?_, own_below9 HRd.out HB_wq10.out, bseq HBd.out HB_wq10.out⟩
                    rw [backS_next L k _ Hx.out, ← HS.out, ← Hy.out, HT.out, Hpr.out, Hrc.out, Hpw.out, Hpd.out, Hdg.out]
                    rfl
                  case measure => have := Hlt.out; simp [intOf]; omega
            · have cc := dig_conv wq6 g_wq6 m Hm9.out C_wq6.out
              rw [← Hdg.out] at cc
              go_simp
              clear cc
              refine hK.out _ _ HB_wq6.out (fun _ => ?_)
              clear K hK
              try simp only [Act.put, List.getElem_toArray, List.getElem_cons_zero, List.getElem_cons_succ, List.setIfInBounds_toArray, List.set_cons_zero, List.set_cons_succ]
              refine wpAnyH_ready (rs := [6]) (by kernel_rfl) (by simp) ?_
              refine AllReadyH.cons rfl (fun K hK => ?_) AllReadyH.nil
              · go_simp
                go_wp2_with (go_at_call 19; refine (wire_put yw _ (HLd.out.below HB_wq6.out).cnt (by have := Hyl.out; omega)).mono ?_; rw [← Hpw.out]; rintro e wq12 ⟨rfl, hq⟩; have HB_wq12 := Lib.hid (bseq HB_wq6.out hq); clear hq)
                refine hK.out _ _ HB_wq12.out (fun _ => ?_)
                clear K hK
                try simp only [Act.put, List.getElem_toArray, List.getElem_cons_zero, List.getElem_cons_succ, List.setIfInBounds_toArray, List.set_cons_zero, List.set_cons_succ]
                refine wpAnyH_ready (rs := [16]) (by kernel_rfl) (by simp) ?_
                refine AllReadyH.cons rfl (fun K hK => ?_) AllReadyH.nil
                · go_simp
                  go_wp2_with (go_at_call 19; refine (wire_put dg _ (HLd.out.below HB_wq12.out).cnt (by rw [Hdg.out]; simp)).mono ?_; rw [← Hpd.out]; rintro e wq13 ⟨rfl, hq⟩; have HB_wq13 := Lib.hid (bseq HB_wq12.out hq); clear hq)
                  refine hK.out _ _ HB_wq13.out (fun _ => ?_)
                  clear K hK
                  try simp only [Act.put, List.getElem_toArray, List.getElem_cons_zero, List.getElem_cons_succ, List.setIfInBounds_toArray, List.set_cons_zero, List.set_cons_succ]
                  refine wpAnyH_take (i := 17) (v := .string ⟨rc.toArray⟩) rfl (by kernel_rfl) (by kernel_rfl) (by kernel_rfl) (fun _ _ _ h => h) (Or.inl ⟨by kernel_rfl, fun W hW => by go_simp⟩) (by assumption) ?_
                  try simp only [Act.put, List.getElem_toArray, List.getElem_cons_zero, List.getElem_cons_succ, List.setIfInBounds_toArray, List.set_cons_zero, List.set_cons_succ]
                  refine wpAnyH_ready (rs := [18]) (by kernel_rfl) (by simp) ?_
                  refine AllReadyH.cons rfl (fun K hK => ?_) AllReadyH.nil
                  go_simp
                  go_wp2_with (go_at_call 19; refine (wire_put rc _ (HLd.out.below HB_wq13.out).cnt (by have := L3.out; omega)).mono ?_; rw [← Hpr.out]; rintro e wq14 ⟨rfl, hq⟩; have HB_wq14 := Lib.hid (bseq HB_wq13.out hq); clear hq)
                  refine hK.out _ _ (HB_wq14.out) (fun _ => ?_)
                  clear K hK
                  try simp only [Act.put, List.getElem_toArray, List.getElem_cons_zero, List.getElem_cons_succ, List.setIfInBounds_toArray, List.set_cons_zero, List.set_cons_succ]
                  refine wpAnyH_take (i := 19) (v := .string ⟨T.toArray⟩) rfl (by kernel_rfl) (by kernel_rfl) (by kernel_rfl) (fun _ _ _ h => h) (Or.inl ⟨by kernel_rfl, fun W hW => by go_simp⟩) (by assumption) ?_
                  try simp only [Act.put, List.getElem_toArray, List.getElem_cons_zero, List.getElem_cons_succ, List.setIfInBounds_toArray, List.set_cons_zero, List.set_cons_succ]
                  refine wpAnyH_take (i := 20) (v := .string ⟨T.toArray⟩) rfl (by kernel_rfl) (by kernel_rfl) (by kernel_rfl) (fun _ _ _ h => h) (Or.inl ⟨by kernel_rfl, fun W hW => by kernel_rfl⟩) (by assumption) ?_
                  try simp only [Act.put, List.getElem_toArray, List.getElem_cons_zero, List.getElem_cons_succ, List.setIfInBounds_toArray, List.set_cons_zero, List.set_cons_succ]
                  refine wpAnyH_done (by kernel_rfl) ?_ _
                  have hkl : (k : Int) + 1 ≤ 9223372036854775807 := by have := Hlt.out; have := HLn.out; omega
                  go_wp2_with fail
                  go_roundw
                  case rel =>
                    refine ⟨k + 1, by have := Hlt.out; omega, by go_num, ?_, own_below9 HRd.out HB_wq14.out, bseq HBd.out HB_wq14.out⟩
                    rw [backS_next L k _ Hx.out, ← HS.out, ← Hy.out, HT.out, Hpr.out, Hrc.out, Hpw.out, Hpd.out, Hdg.out]
                    rfl
                  case measure => have := Hlt.out; simp [intOf]; omega
    · have he : k = L.length := by omega
      subst he
      have hrow := HR.out
      rw [Ix.mend_all] at hrow
      obtain ⟨M, hM⟩ : ∃ M, M = L.map Ix.fix9 := ⟨_, rfl⟩
      have hMl : M.length = L.length := by rw [hM, List.length_map]
      have hMw : ∀ x ∈ M, x.1.length ≤ 60 ∧ 0 ≤ x.2 ∧ x.2 ≤ 9 := by
        rw [hM]
        intro x hx
        obtain ⟨y, hy, rfl⟩ := List.mem_map.1 hx
        have h1 := Ix.fix9_ok y
        exact ⟨by rw [h1.2.2]; exact HLw.out y hy, h1.1, h1.2.1⟩
      rw [List.take_length, ← hM]
      rw [← hM] at hrow
      obtain ⟨S, hS⟩ : ∃ S, S = Ix.backS M := ⟨_, rfl⟩
      have hSl : S.length ≤ 2550 := by
        rw [hS]
        have h1 := Ix.backS_len M (fun z hz => (hMw z hz).1)
        have h2 := HLn.out
        have h3 : 85 * M.length ≤ 2550 := by omega
        exact Nat.le_trans h1 h3
      rw [← hS]
      obtain ⟨lt, hrun1⟩ : ∃ lt, Ix.run [(Ix.nmX, S)] [109] = some [([109] ++ Ix.ilg, lt), ([109] ++ Ix.ind, Ix.putsOut (Ix.lines M))] := by rw [hS]; exact run_back M (by have := HLn.out; omega) hMw
      have hrun2 : Ix.run [(Ix.nmX, S ++ [120])] [109] = some Ix.gB := by rw [hS]; exact run_spoilt M (fun x hx => (hMw x hx).1)
      have hO := own_ens (l := M) (by rw [hMl]; exact hrow)
      have SM := Lib.hid (hO.slice REn.size (fun _ => True) (fun _ _ => trivial))
      have HMl := Lib.hid hMl; have HMw := Lib.hid hMw; have HSl := Lib.hid hSl; have Hrun1 := Lib.hid hrun1; have Hrun2 := Lib.hid hrun2
      have HB := Lib.hid Hb.out
      have hq1 : ¬ 9223372036854775807 < S.length + 1 := by omega
      have hap : (⟨S.toArray⟩ : ByteArray) ++ ⟨#[120]⟩ = ⟨(S ++ [120]).toArray⟩ := append_data S [120]
      clear hrow hM hMl hMw hS hSl hrun1 hrun2 hO HR Hb hk hlt
      go_wp2_with fail
      have ha := below_new wr (.cells (([(Ix.nmX, S)] : List (List UInt8 × List UInt8)).flatMap cF).toArray 53)
      refine (ix_Run [(Ix.nmX, S)] [109] _ _ (wr.alloc (.cells (([(Ix.nmX, S)] : List (List UInt8 × List UInt8)).flatMap cF).toArray 53)) (inF [(Ix.nmX, S)] wr (by show 1 ≤ maxLen; decide)) (by unfold Ix.Sorted; exact List.pairwise_singleton _ _) (by show 1 ≤ 1000000; decide) (fun x hx => by simp at hx; rw [hx]; have := HSl.out; show S.length ≤ 10000; omega) (by decide) (HL.out.below (bseq HB.out ha))).mono ?_
      unfold RunPost
      rw [Hrun1.out]
      rintro e w2 ⟨hb, va1, vr1, rfl, hF, hR⟩
      have F1 := Lib.hid (hF.slice RFl.size (fun _ => True) (fun _ _ => trivial))
      obtain ⟨p1, c1, rfl⟩ := hF.form
      have SM' := Lib.hid (SliceIn.below2 SM.out (bseq ha hb)); clear SM; have SM := SM'; clear SM'
      have B2 := Lib.hid (bseq HB.out (bseq ha hb))
      clear hF hR hb ha
      go_wp2_with fail
      have ha := below_new w2 (.cells (([(Ix.nmX, S ++ [120])] : List (List UInt8 × List UInt8)).flatMap cF).toArray 53)
      refine (ix_Run [(Ix.nmX, S ++ [120])] [109] _ _ (w2.alloc (.cells (([(Ix.nmX, S ++ [120])] : List (List UInt8 × List UInt8)).flatMap cF).toArray 53)) (inF [(Ix.nmX, S ++ [120])] w2 (by show 1 ≤ maxLen; decide)) (by unfold Ix.Sorted; exact List.pairwise_singleton _ _) (by show 1 ≤ 1000000; decide) (fun x hx => by simp at hx; rw [hx]; have := HSl.out; show (S ++ [120]).length ≤ 10000; rw [List.length_append]; show S.length + 1 ≤ 10000; omega) (by decide) (HL.out.below (bseq B2.out ha))).mono ?_
      unfold RunPost
      rw [Hrun2.out]
      rintro e w3 ⟨hb, va2, vr2, rfl, hF, hR⟩
      have F2 := Lib.hid (hF.slice RFl.size (fun _ => True) (fun _ _ => trivial))
      obtain ⟨p2, c2, rfl⟩ := hF.form
      have SM' := Lib.hid (SliceIn.below2 SM.out (bseq ha hb)); clear SM; have SM := SM'; clear SM'
      have F1' := Lib.hid (SliceIn.below2 F1.out (bseq ha hb)); clear F1; have F1 := F1'; clear F1'
      have B3 := Lib.hid (bseq B2.out (bseq ha hb))
      clear hF hR hb ha
      rw [show Ix.gB.length = 2 from rfl]
      go_wp2_with fail
      refine (ix_Lines M _ _ w3 SM.out (by have := HLn.out; have := HMl.out; omega) (fun x hx => by have := (HMw.out x hx).1; omega) (HL.out.below B3.out).cnt).mono ?_
      rintro e w4 ⟨vl, vn, rfl, hLi, hNo, hb⟩
      have SW := Lib.hid (hLi.slice RStr.size (fun _ => True) (fun _ _ => trivial))
      have F1' := Lib.hid (SliceIn.below2 F1.out hb); clear F1; have F1 := F1'; clear F1'
      have F2' := Lib.hid (SliceIn.below2 F2.out hb); clear F2; have F2 := F2'; clear F2'
      have B4 := Lib.hid (bseq B3.out hb)
      clear hLi hNo hb
      obtain ⟨q1, k1, hq1', _, _, hat1⟩ := F1.out
      simp only [Value.slice.injEq] at hq1'
      obtain ⟨rfl, -, rfl⟩ := hq1'
      obtain ⟨b1, o1, vs1, rfl, _, hw1, hR1, hc1⟩ := hat1 1 _ rfl
      have hR1 : vs1 = _ := hR1
      subst hR1
      obtain ⟨q2, k2, hq2', _, _, hat2⟩ := F2.out
      simp only [Value.slice.injEq] at hq2'
      obtain ⟨rfl, -, rfl⟩ := hq2'
      obtain ⟨b2, o2, vs2, rfl, _, hw2, hR2, hc2⟩ := hat2 1 _ rfl
      have hR2 : vs2 = _ := hR2
      subst hR2
      obtain ⟨b3, o3, vs3, hb3, _, hw3, hR3, hc3⟩ := hat2 0 _ rfl
      simp only [Option.some.injEq, Addr.mk.injEq, and_true] at hb3
      obtain ⟨rfl, rfl⟩ := hb3
      have hR3 : vs3 = _ := hR3
      subst hR3
      have d1 : w4.cell? ⟨b1, o1 + 3, none⟩ = some (.string ⟨(Ix.putsOut (Ix.lines M)).toArray⟩) := hc1 1 _ rfl
      have d2 : w4.cell? ⟨b2, o2 + 3, none⟩ = some (.string ⟨#[]⟩) := hc2 1 _ rfl
      have d3 : w4.cell? ⟨b2, o2 + 1, none⟩ = some (.string ⟨#[53, 32, 109, 46, 105, 100, 120, 10]⟩) := by have := hc3 1 _ rfl; simpa using this
      obtain ⟨O, hO⟩ : ∃ O, O = Ix.putsOut (Ix.lines M) := ⟨_, rfl⟩
      have hOl : O.length ≤ 4000 := by rw [hO]; exact Ix.out_short M (by have := HLn.out; have := HMl.out; omega) (fun x hx => (HMw.out x hx).1) (fun x hx => (HMw.out x hx).2.2)
      have hall : Sd.all O = some (Ix.lines M) := by
        rw [hO, Ix.putsOut_puts]
        exact Sd.all_puts _ (fun t ht => by have := Ix.line_length M (by have := HLn.out; have := HMl.out; omega) (fun x hx => by have := (HMw.out x hx).1; omega) t ht; omega)
      rw [← hO] at d1
      have HOl := Lib.hid hOl; have Hall := Lib.hid hall
      clear hO hOl hall hc1 hc2 hc3 hat1 hat2 hq1 hap hw1 hw2 hw3 SM
      go_upto_if 112 with fail
      go_upto_region 14 with fail
      go_wp2_with fail
      refine (wire_all O w4 (HL.out.below B4.out) (by have := HOl.out; omega)).mono ?_
      unfold AllPost
      rw [Hall.out]
      rintro e w5 ⟨hb, vg, hG, _, _, rfl⟩
      have SG := Lib.hid (hG.slice RStr.size (fun _ => True) (fun _ _ => trivial))
      have SW' := Lib.hid (SliceIn.below2 SW.out hb); clear SW; have SW := SW'; clear SW'
      have B5 := Lib.hid (bseq B4.out hb)
      clear hG hb
      go_wp2_with fail
      refine (ref02_words (Ix.lines M) (Ix.lines M) vg vl _ _ w5 SG.out SW.out).mono ?_
      rw [decide_eq_true (Eq.refl (Ix.lines M))]
      rintro e w6 ⟨rfl, hb6⟩
      have B6 := Lib.hid (bseq B5.out hb6); clear hb6
      go_wp2_with fail
      refine (law19_fixed w6 (HL.out.below B6.out)).mono ?_
      rintro e w7 ⟨rfl, hb7⟩
      have B7 := Lib.hid (bseq B6.out hb7); clear hb7
      go_wp2_with fail
      go_ret
      exact ⟨rfl, B7.out⟩
end Go.Proofs.YthoblbdkmlggbaaGreatDoor
