/- The walks of stetref16.blank and stetref16.Words. -/
import Derived.Test.YtibinlpbcoihoaaGreatDoorRuR5
set_option linter.unusedSimpArgs false
set_option linter.unusedVariables false
namespace Go.Proofs.YtibinlpbcoihoaaGreatDoor
open Go.RowKit
theorem u8_ne (c : UInt8) (n : Nat) (hn : n < 256) (h : (c == n.toUInt8) = false) : ((c.toNat : Int) == (n : Int)) = false := by
  rw [beq_eq_false_iff_ne] at h ⊢
  intro e
  have e : c.toNat = n := by omega
  exact h (UInt8.toNat_inj.1 (by rw [e]; simp; omega))
theorem u8_eq (c : UInt8) (n : Nat) (hn : n < 256) (h : (c == n.toUInt8) = true) : (c.toNat : Int) = (n : Int) := by
  rw [eq_of_beq h]; simp; omega
theorem ref16_blank (c : UInt8) (w : World) : Calls Tryz.prog 42 #[.int .u8 (c.toNat : Int)] w fun e w' => e = .returned (.bool (Lb.blank c)) ∧ w' = w := by
  have Hb := Lib.hid (show Lb.blank c = (c == 32 || c == 9 || c == 10) from rfl)
  cases h1 : (c == 32) with
  | true =>
    rw [h1] at Hb
    have g1 : (c.toNat : Int) = 32 := u8_eq c 32 (by decide) h1
    clear h1
    go_enter Tryz.func42, Tryz.ntmps42
    go_wp2_with fail
    go_ret
    exact ⟨ret_bool (by rw [Hb.out]; rfl), rfl⟩
  | false =>
    rw [h1] at Hb
    have g1 : ((c.toNat : Int) == 32) = false := u8_ne c 32 (by decide) h1
    clear h1
    cases h2 : (c == 9) with
    | true =>
      rw [h2] at Hb
      have g2 : (c.toNat : Int) = 9 := u8_eq c 9 (by decide) h2
      clear h2
      go_enter Tryz.func42, Tryz.ntmps42
      go_wp2_with fail
      go_ret
      exact ⟨ret_bool (by rw [Hb.out]; rfl), rfl⟩
    | false =>
      rw [h2] at Hb
      have g2 : ((c.toNat : Int) == 9) = false := u8_ne c 9 (by decide) h2
      clear h2
      cases h3 : (c == 10) with
      | true =>
        rw [h3] at Hb
        have g3 : (c.toNat : Int) = 10 := u8_eq c 10 (by decide) h3
        clear h3
        go_enter Tryz.func42, Tryz.ntmps42
        go_wp2_with fail
        go_ret
        exact ⟨ret_bool (by rw [Hb.out]; rfl), rfl⟩
      | false =>
        rw [h3] at Hb
        have g3 : ((c.toNat : Int) == 10) = false := u8_ne c 10 (by decide) h3
        clear h3
        go_enter Tryz.func42, Tryz.ntmps42
        go_wp2_with fail
        go_ret
        exact ⟨ret_bool (by rw [Hb.out]; rfl), rfl⟩
set_option maxRecDepth 100000 in
set_option maxHeartbeats 1600000 in
theorem ref16_words (s : List UInt8) (w : World) (hs : s.length ≤ 100000) :
    Calls Tryz.prog 26 #[.string ⟨s.toArray⟩] w fun e w' => ∃ g c : Nat, e = .returned (.slice (some ⟨g, 0, none⟩) (Lb.words s).length c) ∧ OwnL w.heap.size 9 1 RStr w' (.slice (some ⟨g, 0, none⟩) (Lb.words s).length c) (Lb.words s) ∧ Below w.heap.size w w' := by
  obtain ⟨i0, hi, hz0, hz1, hz2⟩ := info_parts str_info
  have Hi := Lib.hid hi; have Hz0 := Lib.hid hz0; have Hz1 := Lib.hid hz1; have Hz2 := Lib.hid hz2; clear hi hz0 hz1 hz2
  have Hs := Lib.hid hs; clear hs
  have hO := Lib.hid (OwnL.made w.heap.size 9 1 RStr w (Nat.le_refl _))
  have hB := Lib.hid (below_new w (.cells #[] 9))
  go_enter Tryz.func26, Tryz.ntmps26
  go_wp2_with fail
  go_loopw [3, 4] (fun ov iv wr => ∃ (i g c : Nat) (L : List (List UInt8)), i ≤ s.length ∧ L = Lb.words (s.take i) ∧ iv = .int .i64 (i : Int) ∧ ov = .slice (some ⟨g, 0, none⟩) L.length c ∧ OwnL w.heap.size 9 1 RStr wr ov L ∧ Below w.heap.size w wr) (fun _ iv _ => s.length - (intOf iv).toNat)
  case atStart => exact ⟨0, w.heap.size, 0, [], Nat.zero_le _, rfl, rfl, rfl, hO.out, hB.out⟩
  case round =>
    clear hO hB
    obtain ⟨i, g, c, L, hk, hL, rfl, rfl, hO, hb⟩ := hrel
    by_cases hlt : i < s.length
    · obtain ⟨d, hd⟩ : ∃ d, s[i]? = some d := ⟨_, List.getElem?_eq_getElem hlt⟩
      have hst := Ru.words_step s i d hd
      rw [← hL] at hst
      obtain ⟨hs0', hs1, hs2, hll⟩ := hst
      have hlt' : (i : Int) < (s.length : Int) := by omega
      have hby := byte_at s i d hd
      have hex := ext_one s i d hd
      have hwk := f2_w1 i (by have := Hs.out; omega)
      have hLl : L.length ≤ 200000 := by have := Hs.out; omega
      have Hwk := Lib.hid hwk; have Hb := Lib.hid hb; have Hlt := Lib.hid hlt; have HO := Lib.hid hO; have Hex := Lib.hid hex; have HLl := Lib.hid hLl
      have H0W := Lib.hid hb.size
      have Hbk := Lib.hid (ref16_blank d)
      obtain ⟨i1, hi1⟩ : ∃ i1, i1 = i + 1 := ⟨_, rfl⟩
      have Hi1 := Lib.hid hi1
      rw [← hi1] at hs0' hs1 hs2
      clear hwk hb hlt hO hex hd hk hll hLl hi1
      cases hbl : Lb.blank d with
      | true =>
        have Hst := Lib.hid (hs0' hbl)
        have Hlen1 := Lib.hid (show i1 ≤ s.length from by rw [Hi1.out]; exact Hlt.out)
        have Hbl := Lib.hid hbl
        have HL := Lib.hid hL
        clear hs0' hs1 hs2 hbl hL
        have Hwk3 := Lib.hid (show wrap64 ((i : Int) + 1) = (i1 : Int) by rw [Hwk.out, Hi1.out])
        go_wp2_with (go_at_call 42; refine (Hbk.out _).mono ?_; rw [Hbl.out]; rintro e w' ⟨rfl, hw'⟩; have hw' := hw'.symm; subst hw')
        go_roundw
        case rel => exact ⟨i1, g, c, L, Hlen1.out, by rw [Hst.out], by first | rfl | rw [Hwk3.out], rfl, HO.out, Hb.out⟩
        case measure => have := Hlt.out; have := Hi1.out; (try rw [Hwk3.out]); simp [intOf]; omega
      | false =>
        have Hbl := Lib.hid hbl
        have Hs1 := Lib.hid (hs1 hbl); have Hs2 := Lib.hid (hs2 hbl)
        clear hs0' hs1 hs2 hbl hL
        rcases Nat.eq_zero_or_pos i with hz | hz
        · have Hst := Lib.hid (Hs1.out (by rw [hz]; rfl))
          have hz0 : ((i : Int) == 0) = true := by rw [beq_iff_eq]; omega
          clear Hs1 Hs2 hz
          obtain ⟨fl, hown, hrep⟩ := HO.out
          have Hown := Lib.hid hown; have Hrep := Lib.hid hrep
          have Hm1 := Lib.hid (show L.length + 1 ≤ maxLen by have := HLl.out; unfold maxLen; omega)
          have Hn1 := Lib.hid (show (L.length + 1) * 16 ≤ 140737488355328 by have := HLl.out; omega)
          clear hown hrep
          go_upto_region 8 with first | (go_at_call 42; refine (Hbk.out _).mono ?_; rw [Hbl.out]; rintro e w' ⟨rfl, hw'⟩; have hw' := hw'.symm; subst hw') | (at_builtin; go_loud (refine wpList_append1 rfl (.tmp 25) (.tmp 26) 41 rfl w.heap.size 9 i0 (.string ⟨#[]⟩) 1 16 Tryz.underlying41 Hi.out Hz0.out Hz1.out Hz2.out rfl (by decide) _ _ _ Hown.out rfl [.string ⟨#[]⟩] rfl (by simp) rfl (by simp [Value.oneCell']) Hm1.out Hn1.out H0W.out ?_); intro v2 w9 own2 g2 at2; obtain ⟨p2, cap2, hv2, _⟩ := own2.form (Nat.succ_pos _); subst hv2)
          have HO2 := Lib.hid (show OwnL w.heap.size 9 1 RStr w9 (.slice (some ⟨p2, 0, none⟩) (L.length + 1) cap2) (L ++ [[]]) from ⟨_, by rw [List.length_append]; exact own2, RepRow.snoc (R := RStr) (x := []) (vs := [.string ⟨#[]⟩]) rfl Hrep.out⟩)
          have Hb2 := Lib.hid (Hb.out.grown g2 H0W.out (fun q e => (World.ownsRow.lt Hown.out q e).1))
          have H2 := Lib.hid Hst.out
          clear own2 g2 at2 HO Hb
          have HO := HO2; have Hb := Hb2
          obtain ⟨n, hn0⟩ : ∃ n, n = L.length + 1 := ⟨_, rfl⟩
          obtain ⟨m, hma0⟩ : ∃ m, m = L.length := ⟨_, rfl⟩
          obtain ⟨x, hx0⟩ : ∃ x : List UInt8, x = [] := ⟨_, rfl⟩
          obtain ⟨a, haL⟩ : ∃ a, a = L := ⟨_, rfl⟩
          obtain ⟨gg, hgg⟩ : ∃ gg, gg = p2 := ⟨_, rfl⟩
          obtain ⟨cc, hcc⟩ : ∃ cc, cc = cap2 := ⟨_, rfl⟩
          rw [← hn0] at HO ⊢
          rw [← hgg, ← hcc] at HO ⊢
          have hxl : x.length ≤ i := by rw [hx0]; simp
          have hnn : n = (a ++ [x]).length := by rw [haL]; simp [hn0]
          have hx : (a ++ [x])[m]? = some x := by rw [haL, hma0]; simp
          have HO := Lib.hid (show OwnL w.heap.size 9 1 RStr w9 (.slice (some ⟨gg, 0, none⟩) n cc) (a ++ [x]) by have := HO.out; rw [haL, hx0]; exact this)
          have H2 := Lib.hid (show Lb.words (s.take i1) = a ++ [x ++ [d]] by rw [H2.out, haL, hx0]; rfl)
          have hn : n = m + 1 := by rw [hn0, hma0]
          have hma : m = a.length := by rw [hma0, haL]
          have HLl := Lib.hid (show n ≤ 200001 by rw [hn0]; have := HLl.out; omega)
          clear HO2 Hb2 hx0 haL hgg hcc hn0 hma0
          have cx := HO.out.cellS hnn hx
          have hfr := HO.out.frozS hnn m
          have hmn : (m : Int) < (n : Int) := by omega
          have hsi : (i1 : Int) ≤ (s.length : Int) := by have := Hlt.out; have := Hi1.out; omega
          have hs0 : (i : Int) ≤ (i1 : Int) := by have := Hi1.out; omega
          have s1 : ¬ 9223372036854775807 < x.length + 1 := by have := Hs.out; have := Hlt.out; omega
          have hnl : n ≤ 1000000 := by have := HLl.out; have := Hm1.out; omega
          have hil : i ≤ 1000000 := by have := Hlt.out; have := Hs.out; omega
          have hex := Hex.out
          have hwk := Hwk.out
          have Hwk2 := Lib.hid (i64_add1 i hil)
          have Hw0 := Lib.hid (i64_sub1 n m hn hnl)
          have Hw1 := Lib.hid (w64_sub1 n m hn hnl)
          have hwk2 := Hwk2.out; have hw0 := Hw0.out; have hw1 := Hw1.out
          rw [← Hi1.out] at hex hwk hwk2
          have Hlen1 := Lib.hid (show i1 ≤ s.length from by rw [Hi1.out]; exact Hlt.out)
          clear hnl hil
          have Hset := Lib.hid (show OwnL w.heap.size 9 1 RStr (w9.setCell ⟨gg, m, none⟩ (.string ⟨(x ++ [d]).toArray⟩)) (.slice (some ⟨gg, 0, none⟩) n cc) (a ++ [x ++ [d]]) by
            have := HO.out.putS hnn m (x ++ [d])
            rwa [show (a ++ [x]).set m (x ++ [d]) = a ++ [x ++ [d]] by rw [hma, set_last]] at this)
          have Hbn := Lib.hid (HO.out.bndS)
          have Hln := Lib.hid (show n = (a ++ [x ++ [d]]).length by rw [hnn]; simp)
          clear hn hnn hma hxl hx
          refine wp_region_any (by kernel_rfl) ?_
          change wpAny _ _ _ _ _ _ _ (World.drew _)
          skip
          refine wpAny_of_held (S := fun _ => True) _ _ _ _ ?_
          have hS1 : (fun _ : World => True) (w9).drew := trivial
          have cx' : (w9).drew.cell? ⟨gg, m, none⟩ = some (.string ⟨x.toArray⟩) := cx
          have hfr' : (w9).drew.frozen? ⟨gg, m, none⟩ = false := hfr
          refine wpAnyH_take (i := 0) (v := ?v1) rfl (by kernel_rfl) (by kernel_rfl) (by kernel_rfl) (fun _ _ _ h => h) (Or.inl ⟨by kernel_rfl, fun W hW => ?h1⟩) (by assumption) ?_
          case h1 => (go_simp; rfl)
          refine wpAnyH_take (i := 1) (v := ?v2) rfl (by kernel_rfl) (by kernel_rfl) (by kernel_rfl) (fun _ _ _ h => h) (Or.inl ⟨by kernel_rfl, fun W hW => ?h2⟩) (by assumption) ?_
          case h2 => (go_simp; rfl)
          refine wpAnyH_take (i := 2) (v := ?v3) rfl (by kernel_rfl) (by kernel_rfl) (by kernel_rfl) (fun _ _ _ h => h) (Or.inl ⟨by kernel_rfl, fun W hW => ?h3⟩) (by assumption) ?_
          case h3 => (go_simp; rfl)
          refine wpAnyH_take (i := 3) (v := ?v4) rfl (by kernel_rfl) (by kernel_rfl) (by kernel_rfl) (fun _ _ _ h => h) (Or.inl ⟨by kernel_rfl, fun W hW => ?h4⟩) (by assumption) ?_
          case h4 => (go_simp; rfl)
          refine wpAnyH_take (i := 4) (v := ?v5) rfl (by kernel_rfl) (by kernel_rfl) (by kernel_rfl) (fun _ _ _ h => h) (Or.inl ⟨by kernel_rfl, fun W hW => ?h5⟩) (by assumption) ?_
          case h5 => (go_simp; rfl)
          refine wpAnyH_take (i := 5) (v := ?v6) rfl (by kernel_rfl) (by kernel_rfl) (by kernel_rfl) (fun _ _ _ h => h) (Or.inl ⟨by kernel_rfl, fun W hW => ?h6⟩) (by assumption) ?_
          case h6 => (go_simp; rfl)
          refine wpAnyH_take (i := 6) (v := ?v7) rfl (by kernel_rfl) (by kernel_rfl) (by kernel_rfl) (fun _ _ _ h => h) (Or.inl ⟨by kernel_rfl, fun W hW => ?h7⟩) (by assumption) ?_
          case h7 => (go_simp; rfl)
          refine wpAnyH_take (i := 7) (v := ?v8) rfl (by kernel_rfl) (by kernel_rfl) (by kernel_rfl) (fun _ _ _ h => h) (Or.inl ⟨by kernel_rfl, fun W hW => ?h8⟩) (by assumption) ?_
          case h8 => (go_simp; rfl)
          refine wpAnyH_take (i := 8) (v := ?v9) rfl (by kernel_rfl) (by kernel_rfl) (by kernel_rfl) (fun _ _ _ h => h) (Or.inl ⟨by kernel_rfl, fun W hW => ?h9⟩) (by assumption) ?_
          case h9 => (go_simp; rfl)
          refine wpAnyH_take (i := 10) (v := ?v10) rfl (by kernel_rfl) (by kernel_rfl) (by kernel_rfl) (fun _ _ _ h => h) (Or.inl ⟨by kernel_rfl, fun W hW => ?h10⟩) (by assumption) ?_
          case h10 => (go_simp; rfl)
          refine wpAnyH_take (i := 11) (v := ?v11) rfl (by kernel_rfl) (by kernel_rfl) (by kernel_rfl) (fun _ _ _ h => h) (Or.inl ⟨by kernel_rfl, fun W hW => ?h11⟩) (by assumption) ?_
          case h11 => (go_simp; rfl)
          refine wpAnyH_take (i := 12) (v := ?v12) rfl (by kernel_rfl) (by kernel_rfl) (by kernel_rfl) (fun _ _ _ h => h) (Or.inl ⟨by kernel_rfl, fun W hW => ?h12⟩) (by assumption) ?_
          case h12 => (go_simp; rfl)
          refine wpAnyH_take (i := 13) (v := ?v13) rfl (by kernel_rfl) (by kernel_rfl) (by kernel_rfl) (fun _ _ _ h => h) (Or.inl ⟨by kernel_rfl, fun W hW => ?h13⟩) (by assumption) ?_
          case h13 => (go_simp; rfl)
          refine wpAnyH_take (i := 14) (v := ?v14) rfl (by kernel_rfl) (by kernel_rfl) (by kernel_rfl) (fun _ _ _ h => h) (Or.inl ⟨by kernel_rfl, fun W hW => ?h14⟩) (by assumption) ?_
          case h14 => (go_simp; rfl)
          refine wpAnyH_ready (rs := [9]) (by kernel_rfl) (by simp) ?_
          refine AllReadyH.cons rfl (fun K hK => ?_) AllReadyH.nil
          try simp only [Act.put, List.getElem_toArray, List.getElem_cons_zero, List.getElem_cons_succ, List.setIfInBounds_toArray, List.set_cons_zero, List.set_cons_succ]
          go_simp
          refine hK.out _ _ (trivial) (fun _ => ?_)
          clear K hK
          try simp only [Act.put, List.getElem_toArray, List.getElem_cons_zero, List.getElem_cons_succ, List.setIfInBounds_toArray, List.set_cons_zero, List.set_cons_succ]
          refine wpAnyH_take (i := 15) (v := ?v15) rfl (by kernel_rfl) (by kernel_rfl) (by kernel_rfl) (fun _ _ _ h => h) (Or.inl ⟨by kernel_rfl, fun W hW => ?h15⟩) (by assumption) ?_
          case h15 => (go_simp; rw [append_data])
          refine wpAnyH_take (i := 16) (v := ?v16) rfl (by kernel_rfl) (by kernel_rfl) (by kernel_rfl) (fun _ _ _ h => h) (Or.inl ⟨by kernel_rfl, fun W hW => ?h16⟩) (by assumption) ?_
          case h16 => (go_simp; rfl)
          refine wpAnyH_ready (rs := [17]) (by kernel_rfl) (by simp) ?_
          refine AllReadyH.cons rfl (fun K hK => ?_) AllReadyH.nil
          try simp only [Act.put, List.getElem_toArray, List.getElem_cons_zero, List.getElem_cons_succ, List.setIfInBounds_toArray, List.set_cons_zero, List.set_cons_succ]
          go_simp
          refine hK.out _ _ (trivial) (fun _ => ?_)
          clear K hK
          try simp only [Act.put, List.getElem_toArray, List.getElem_cons_zero, List.getElem_cons_succ, List.setIfInBounds_toArray, List.set_cons_zero, List.set_cons_succ]
          refine wpAnyH_done (by kernel_rfl) ?_ _
          try simp only [Act.put, List.getElem_toArray, List.getElem_cons_zero, List.getElem_cons_succ, List.setIfInBounds_toArray, List.set_cons_zero, List.set_cons_succ]
          clear hlt' hex hwk hwk2 hsi hs0 hw0 hw1 hmn cx hfr cx' hfr' hS1 s1 hby
          have Hwk3 := Lib.hid (show wrap64 ((i : Int) + 1) = (i1 : Int) by rw [Hwk.out, Hi1.out])
          have Hsd := Lib.hid (Hset.out.below (Below.refl (w9.setCell ⟨gg, m, none⟩ (.string ⟨(x ++ [d]).toArray⟩)).heap.size (w9.setCell ⟨gg, m, none⟩ (.string ⟨(x ++ [d]).toArray⟩))).drew)
          have Hbd := Lib.hid (Hb.out.setCell (p := ⟨gg, m, none⟩) Hbn.out.1 (.string ⟨(x ++ [d]).toArray⟩)).drew
          generalize (w9.setCell ⟨gg, m, none⟩ (.string ⟨(x ++ [d]).toArray⟩)).drew = wx at *
          clear Hset
          go_wp2_with fail
          go_roundw
          case rel => exact ⟨i1, gg, cc, a ++ [x ++ [d]], Hlen1.out, H2.out.symm, by first | rfl | rw [Hwk3.out], by rw [← Hln.out], Hsd.out, Hbd.out⟩
          case measure => have := Hlt.out; have := Hi1.out; (try rw [Hwk3.out]); simp [intOf]; omega
        · obtain ⟨i0', hii⟩ : ∃ i0', i = i0' + 1 := ⟨i - 1, by omega⟩
          obtain ⟨e, he⟩ : ∃ e, s[i0']? = some e := ⟨_, List.getElem?_eq_getElem (by have := Hlt.out; omega)⟩
          have hbye := byte_at s i0' e he
          have hle : Ru.lastE Lb.blank [] (s.take i) = Lb.blank e := by unfold Ru.lastE; rw [hii, Ru.take_last s i0' e he]
          have Hle := Lib.hid hle
          have hz0 : ((i : Int) == 0) = false := by rw [beq_eq_false_iff_ne]; omega
          have hle0 : (i0' : Int) < (s.length : Int) := by have := Hlt.out; omega
          have hil2 : i ≤ 1000000 := by have := Hlt.out; have := Hs.out; omega
          have Hw5 := Lib.hid (i64_sub1 i i0' hii hil2)
          have Hw6 := Lib.hid (w64_sub1 i i0' hii hil2)
          have hw5 := Hw5.out; have hw6 := Hw6.out
          have Hbe := Lib.hid (ref16_blank e)
          clear hle he hii hz hil2
          cases hble : Lb.blank e with
          | true =>
            have Hble := Lib.hid hble
            have Hst := Lib.hid (Hs1.out (by rw [Hle.out]; exact hble))
            clear Hs1 Hs2 hble
            obtain ⟨fl, hown, hrep⟩ := HO.out
            have Hown := Lib.hid hown; have Hrep := Lib.hid hrep
            have Hm1 := Lib.hid (show L.length + 1 ≤ maxLen by have := HLl.out; unfold maxLen; omega)
            have Hn1 := Lib.hid (show (L.length + 1) * 16 ≤ 140737488355328 by have := HLl.out; omega)
            clear hown hrep
            go_upto_region 8 with first | (go_at_call 42; first | ((with_reducible refine (Hbk.out _).mono ?_); rw [Hbl.out]; rintro e w' ⟨rfl, hw'⟩; have hw' := hw'.symm; subst hw') | ((with_reducible refine (Hbe.out _).mono ?_); rw [Hble.out]; rintro e w' ⟨rfl, hw'⟩; have hw' := hw'.symm; subst hw')) | (at_builtin; go_loud (refine wpList_append1 rfl (.tmp 25) (.tmp 26) 41 rfl w.heap.size 9 i0 (.string ⟨#[]⟩) 1 16 Tryz.underlying41 Hi.out Hz0.out Hz1.out Hz2.out rfl (by decide) _ _ _ Hown.out rfl [.string ⟨#[]⟩] rfl (by simp) rfl (by simp [Value.oneCell']) Hm1.out Hn1.out H0W.out ?_); intro v2 w9 own2 g2 at2; obtain ⟨p2, cap2, hv2, _⟩ := own2.form (Nat.succ_pos _); subst hv2)
            have HO2 := Lib.hid (show OwnL w.heap.size 9 1 RStr w9 (.slice (some ⟨p2, 0, none⟩) (L.length + 1) cap2) (L ++ [[]]) from ⟨_, by rw [List.length_append]; exact own2, RepRow.snoc (R := RStr) (x := []) (vs := [.string ⟨#[]⟩]) rfl Hrep.out⟩)
            have Hb2 := Lib.hid (Hb.out.grown g2 H0W.out (fun q e => (World.ownsRow.lt Hown.out q e).1))
            have H2 := Lib.hid Hst.out
            clear own2 g2 at2 HO Hb
            have HO := HO2; have Hb := Hb2
            obtain ⟨n, hn0⟩ : ∃ n, n = L.length + 1 := ⟨_, rfl⟩
            obtain ⟨m, hma0⟩ : ∃ m, m = L.length := ⟨_, rfl⟩
            obtain ⟨x, hx0⟩ : ∃ x : List UInt8, x = [] := ⟨_, rfl⟩
            obtain ⟨a, haL⟩ : ∃ a, a = L := ⟨_, rfl⟩
            obtain ⟨gg, hgg⟩ : ∃ gg, gg = p2 := ⟨_, rfl⟩
            obtain ⟨cc, hcc⟩ : ∃ cc, cc = cap2 := ⟨_, rfl⟩
            rw [← hn0] at HO ⊢
            rw [← hgg, ← hcc] at HO ⊢
            have hxl : x.length ≤ i := by rw [hx0]; simp
            have hnn : n = (a ++ [x]).length := by rw [haL]; simp [hn0]
            have hx : (a ++ [x])[m]? = some x := by rw [haL, hma0]; simp
            have HO := Lib.hid (show OwnL w.heap.size 9 1 RStr w9 (.slice (some ⟨gg, 0, none⟩) n cc) (a ++ [x]) by have := HO.out; rw [haL, hx0]; exact this)
            have H2 := Lib.hid (show Lb.words (s.take i1) = a ++ [x ++ [d]] by rw [H2.out, haL, hx0]; rfl)
            have hn : n = m + 1 := by rw [hn0, hma0]
            have hma : m = a.length := by rw [hma0, haL]
            have HLl := Lib.hid (show n ≤ 200001 by rw [hn0]; have := HLl.out; omega)
            clear HO2 Hb2 hx0 haL hgg hcc hn0 hma0
            have cx := HO.out.cellS hnn hx
            have hfr := HO.out.frozS hnn m
            have hmn : (m : Int) < (n : Int) := by omega
            have hsi : (i1 : Int) ≤ (s.length : Int) := by have := Hlt.out; have := Hi1.out; omega
            have hs0 : (i : Int) ≤ (i1 : Int) := by have := Hi1.out; omega
            have s1 : ¬ 9223372036854775807 < x.length + 1 := by have := Hs.out; have := Hlt.out; omega
            have hnl : n ≤ 1000000 := by have := HLl.out; have := Hm1.out; omega
            have hil : i ≤ 1000000 := by have := Hlt.out; have := Hs.out; omega
            have hex := Hex.out
            have hwk := Hwk.out
            have Hwk2 := Lib.hid (i64_add1 i hil)
            have Hw0 := Lib.hid (i64_sub1 n m hn hnl)
            have Hw1 := Lib.hid (w64_sub1 n m hn hnl)
            have hwk2 := Hwk2.out; have hw0 := Hw0.out; have hw1 := Hw1.out
            rw [← Hi1.out] at hex hwk hwk2
            have Hlen1 := Lib.hid (show i1 ≤ s.length from by rw [Hi1.out]; exact Hlt.out)
            clear hnl hil
            have Hset := Lib.hid (show OwnL w.heap.size 9 1 RStr (w9.setCell ⟨gg, m, none⟩ (.string ⟨(x ++ [d]).toArray⟩)) (.slice (some ⟨gg, 0, none⟩) n cc) (a ++ [x ++ [d]]) by
              have := HO.out.putS hnn m (x ++ [d])
              rwa [show (a ++ [x]).set m (x ++ [d]) = a ++ [x ++ [d]] by rw [hma, set_last]] at this)
            have Hbn := Lib.hid (HO.out.bndS)
            have Hln := Lib.hid (show n = (a ++ [x ++ [d]]).length by rw [hnn]; simp)
            clear hn hnn hma hxl hx
            refine wp_region_any (by kernel_rfl) ?_
            change wpAny _ _ _ _ _ _ _ (World.drew _)
            skip
            refine wpAny_of_held (S := fun _ => True) _ _ _ _ ?_
            have hS1 : (fun _ : World => True) (w9).drew := trivial
            have cx' : (w9).drew.cell? ⟨gg, m, none⟩ = some (.string ⟨x.toArray⟩) := cx
            have hfr' : (w9).drew.frozen? ⟨gg, m, none⟩ = false := hfr
            refine wpAnyH_take (i := 0) (v := ?v17) rfl (by kernel_rfl) (by kernel_rfl) (by kernel_rfl) (fun _ _ _ h => h) (Or.inl ⟨by kernel_rfl, fun W hW => ?h17⟩) (by assumption) ?_
            case h17 => (go_simp; rfl)
            refine wpAnyH_take (i := 1) (v := ?v18) rfl (by kernel_rfl) (by kernel_rfl) (by kernel_rfl) (fun _ _ _ h => h) (Or.inl ⟨by kernel_rfl, fun W hW => ?h18⟩) (by assumption) ?_
            case h18 => (go_simp; rfl)
            refine wpAnyH_take (i := 2) (v := ?v19) rfl (by kernel_rfl) (by kernel_rfl) (by kernel_rfl) (fun _ _ _ h => h) (Or.inl ⟨by kernel_rfl, fun W hW => ?h19⟩) (by assumption) ?_
            case h19 => (go_simp; rfl)
            refine wpAnyH_take (i := 3) (v := ?v20) rfl (by kernel_rfl) (by kernel_rfl) (by kernel_rfl) (fun _ _ _ h => h) (Or.inl ⟨by kernel_rfl, fun W hW => ?h20⟩) (by assumption) ?_
            case h20 => (go_simp; rfl)
            refine wpAnyH_take (i := 4) (v := ?v21) rfl (by kernel_rfl) (by kernel_rfl) (by kernel_rfl) (fun _ _ _ h => h) (Or.inl ⟨by kernel_rfl, fun W hW => ?h21⟩) (by assumption) ?_
            case h21 => (go_simp; rfl)
            refine wpAnyH_take (i := 5) (v := ?v22) rfl (by kernel_rfl) (by kernel_rfl) (by kernel_rfl) (fun _ _ _ h => h) (Or.inl ⟨by kernel_rfl, fun W hW => ?h22⟩) (by assumption) ?_
            case h22 => (go_simp; rfl)
            refine wpAnyH_take (i := 6) (v := ?v23) rfl (by kernel_rfl) (by kernel_rfl) (by kernel_rfl) (fun _ _ _ h => h) (Or.inl ⟨by kernel_rfl, fun W hW => ?h23⟩) (by assumption) ?_
            case h23 => (go_simp; rfl)
            refine wpAnyH_take (i := 7) (v := ?v24) rfl (by kernel_rfl) (by kernel_rfl) (by kernel_rfl) (fun _ _ _ h => h) (Or.inl ⟨by kernel_rfl, fun W hW => ?h24⟩) (by assumption) ?_
            case h24 => (go_simp; rfl)
            refine wpAnyH_take (i := 8) (v := ?v25) rfl (by kernel_rfl) (by kernel_rfl) (by kernel_rfl) (fun _ _ _ h => h) (Or.inl ⟨by kernel_rfl, fun W hW => ?h25⟩) (by assumption) ?_
            case h25 => (go_simp; rfl)
            refine wpAnyH_take (i := 10) (v := ?v26) rfl (by kernel_rfl) (by kernel_rfl) (by kernel_rfl) (fun _ _ _ h => h) (Or.inl ⟨by kernel_rfl, fun W hW => ?h26⟩) (by assumption) ?_
            case h26 => (go_simp; rfl)
            refine wpAnyH_take (i := 11) (v := ?v27) rfl (by kernel_rfl) (by kernel_rfl) (by kernel_rfl) (fun _ _ _ h => h) (Or.inl ⟨by kernel_rfl, fun W hW => ?h27⟩) (by assumption) ?_
            case h27 => (go_simp; rfl)
            refine wpAnyH_take (i := 12) (v := ?v28) rfl (by kernel_rfl) (by kernel_rfl) (by kernel_rfl) (fun _ _ _ h => h) (Or.inl ⟨by kernel_rfl, fun W hW => ?h28⟩) (by assumption) ?_
            case h28 => (go_simp; rfl)
            refine wpAnyH_take (i := 13) (v := ?v29) rfl (by kernel_rfl) (by kernel_rfl) (by kernel_rfl) (fun _ _ _ h => h) (Or.inl ⟨by kernel_rfl, fun W hW => ?h29⟩) (by assumption) ?_
            case h29 => (go_simp; rfl)
            refine wpAnyH_take (i := 14) (v := ?v30) rfl (by kernel_rfl) (by kernel_rfl) (by kernel_rfl) (fun _ _ _ h => h) (Or.inl ⟨by kernel_rfl, fun W hW => ?h30⟩) (by assumption) ?_
            case h30 => (go_simp; rfl)
            refine wpAnyH_ready (rs := [9]) (by kernel_rfl) (by simp) ?_
            refine AllReadyH.cons rfl (fun K hK => ?_) AllReadyH.nil
            try simp only [Act.put, List.getElem_toArray, List.getElem_cons_zero, List.getElem_cons_succ, List.setIfInBounds_toArray, List.set_cons_zero, List.set_cons_succ]
            go_simp
            refine hK.out _ _ (trivial) (fun _ => ?_)
            clear K hK
            try simp only [Act.put, List.getElem_toArray, List.getElem_cons_zero, List.getElem_cons_succ, List.setIfInBounds_toArray, List.set_cons_zero, List.set_cons_succ]
            refine wpAnyH_take (i := 15) (v := ?v31) rfl (by kernel_rfl) (by kernel_rfl) (by kernel_rfl) (fun _ _ _ h => h) (Or.inl ⟨by kernel_rfl, fun W hW => ?h31⟩) (by assumption) ?_
            case h31 => (go_simp; rw [append_data])
            refine wpAnyH_take (i := 16) (v := ?v32) rfl (by kernel_rfl) (by kernel_rfl) (by kernel_rfl) (fun _ _ _ h => h) (Or.inl ⟨by kernel_rfl, fun W hW => ?h32⟩) (by assumption) ?_
            case h32 => (go_simp; rfl)
            refine wpAnyH_ready (rs := [17]) (by kernel_rfl) (by simp) ?_
            refine AllReadyH.cons rfl (fun K hK => ?_) AllReadyH.nil
            try simp only [Act.put, List.getElem_toArray, List.getElem_cons_zero, List.getElem_cons_succ, List.setIfInBounds_toArray, List.set_cons_zero, List.set_cons_succ]
            go_simp
            refine hK.out _ _ (trivial) (fun _ => ?_)
            clear K hK
            try simp only [Act.put, List.getElem_toArray, List.getElem_cons_zero, List.getElem_cons_succ, List.setIfInBounds_toArray, List.set_cons_zero, List.set_cons_succ]
            refine wpAnyH_done (by kernel_rfl) ?_ _
            try simp only [Act.put, List.getElem_toArray, List.getElem_cons_zero, List.getElem_cons_succ, List.setIfInBounds_toArray, List.set_cons_zero, List.set_cons_succ]
            clear hlt' hex hwk hwk2 hsi hs0 hw0 hw1 hmn cx hfr cx' hfr' hS1 s1 hby
            have Hwk3 := Lib.hid (show wrap64 ((i : Int) + 1) = (i1 : Int) by rw [Hwk.out, Hi1.out])
            have Hsd := Lib.hid (Hset.out.below (Below.refl (w9.setCell ⟨gg, m, none⟩ (.string ⟨(x ++ [d]).toArray⟩)).heap.size (w9.setCell ⟨gg, m, none⟩ (.string ⟨(x ++ [d]).toArray⟩))).drew)
            have Hbd := Lib.hid (Hb.out.setCell (p := ⟨gg, m, none⟩) Hbn.out.1 (.string ⟨(x ++ [d]).toArray⟩)).drew
            generalize (w9.setCell ⟨gg, m, none⟩ (.string ⟨(x ++ [d]).toArray⟩)).drew = wx at *
            clear Hset
            go_wp2_with fail
            go_roundw
            case rel => exact ⟨i1, gg, cc, a ++ [x ++ [d]], Hlen1.out, H2.out.symm, by first | rfl | rw [Hwk3.out], by rw [← Hln.out], Hsd.out, Hbd.out⟩
            case measure => have := Hlt.out; have := Hi1.out; (try rw [Hwk3.out]); simp [intOf]; omega
          | false =>
            have Hble := Lib.hid hble
            clear hble
            go_upto_region 8 with (go_at_call 42; first | ((with_reducible refine (Hbk.out _).mono ?_); rw [Hbl.out]; rintro e w' ⟨rfl, hw'⟩; have hw' := hw'.symm; subst hw') | ((with_reducible refine (Hbe.out _).mono ?_); rw [Hble.out]; rintro e w' ⟨rfl, hw'⟩; have hw' := hw'.symm; subst hw'))
            obtain ⟨a, x, h1, h2, hxl⟩ := Hs2.out (by rw [Hle.out]; exact Hble.out)
            have H2 := Lib.hid h2
            clear Hs1 Hs2 h2
            obtain ⟨n, hn0⟩ : ∃ n, n = L.length := ⟨_, rfl⟩
            obtain ⟨m, hma⟩ : ∃ m, m = a.length := ⟨_, rfl⟩
            obtain ⟨gg, hgg⟩ : ∃ gg, gg = g := ⟨_, rfl⟩
            obtain ⟨cc, hcc⟩ : ∃ cc, cc = c := ⟨_, rfl⟩
            have hLa : L.length = a.length + 1 := by rw [h1]; simp
            have HO := Lib.hid (show OwnL w.heap.size 9 1 RStr wr (.slice (some ⟨gg, 0, none⟩) n cc) (a ++ [x]) by have := HO.out; rw [hgg, hcc, hn0, ← h1]; exact this)
            rw [← hn0, ← hgg, ← hcc]
            have hnn : n = (a ++ [x]).length := by rw [hn0, h1]
            have hx : (a ++ [x])[m]? = some x := by rw [hma]; simp
            have HLl := Lib.hid (show n ≤ 200000 by rw [hn0]; exact HLl.out)
            have hn : n = m + 1 := by rw [hn0, hma, hLa]
            clear hn0 h1 hLa hgg hcc hw5 hw6 hbye hz0 hle0
            have cx := HO.out.cellS hnn hx
            have hfr := HO.out.frozS hnn m
            have hmn : (m : Int) < (n : Int) := by omega
            have hsi : (i1 : Int) ≤ (s.length : Int) := by have := Hlt.out; have := Hi1.out; omega
            have hs0 : (i : Int) ≤ (i1 : Int) := by have := Hi1.out; omega
            have s1 : ¬ 9223372036854775807 < x.length + 1 := by have := Hs.out; have := Hlt.out; omega
            have hnl : n ≤ 1000000 := by have := HLl.out; omega
            have hil : i ≤ 1000000 := by have := Hlt.out; have := Hs.out; omega
            have hex := Hex.out
            have hwk := Hwk.out
            have Hwk2 := Lib.hid (i64_add1 i hil)
            have Hw0 := Lib.hid (i64_sub1 n m hn hnl)
            have Hw1 := Lib.hid (w64_sub1 n m hn hnl)
            have hwk2 := Hwk2.out; have hw0 := Hw0.out; have hw1 := Hw1.out
            rw [← Hi1.out] at hex hwk hwk2
            have Hlen1 := Lib.hid (show i1 ≤ s.length from by rw [Hi1.out]; exact Hlt.out)
            clear hnl hil
            have Hset := Lib.hid (show OwnL w.heap.size 9 1 RStr (wr.setCell ⟨gg, m, none⟩ (.string ⟨(x ++ [d]).toArray⟩)) (.slice (some ⟨gg, 0, none⟩) n cc) (a ++ [x ++ [d]]) by
              have := HO.out.putS hnn m (x ++ [d])
              rwa [show (a ++ [x]).set m (x ++ [d]) = a ++ [x ++ [d]] by rw [hma, set_last]] at this)
            have Hbn := Lib.hid (HO.out.bndS)
            have Hln := Lib.hid (show n = (a ++ [x ++ [d]]).length by rw [hnn]; simp)
            clear hn hnn hma hxl hx
            refine wp_region_any (by kernel_rfl) ?_
            change wpAny _ _ _ _ _ _ _ (World.drew _)
            skip
            refine wpAny_of_held (S := fun _ => True) _ _ _ _ ?_
            have hS1 : (fun _ : World => True) (wr).drew := trivial
            have cx' : (wr).drew.cell? ⟨gg, m, none⟩ = some (.string ⟨x.toArray⟩) := cx
            have hfr' : (wr).drew.frozen? ⟨gg, m, none⟩ = false := hfr
            refine wpAnyH_take (i := 0) (v := ?v33) rfl (by kernel_rfl) (by kernel_rfl) (by kernel_rfl) (fun _ _ _ h => h) (Or.inl ⟨by kernel_rfl, fun W hW => ?h33⟩) (by assumption) ?_
            case h33 => (go_simp; rfl)
            refine wpAnyH_take (i := 1) (v := ?v34) rfl (by kernel_rfl) (by kernel_rfl) (by kernel_rfl) (fun _ _ _ h => h) (Or.inl ⟨by kernel_rfl, fun W hW => ?h34⟩) (by assumption) ?_
            case h34 => (go_simp; rfl)
            refine wpAnyH_take (i := 2) (v := ?v35) rfl (by kernel_rfl) (by kernel_rfl) (by kernel_rfl) (fun _ _ _ h => h) (Or.inl ⟨by kernel_rfl, fun W hW => ?h35⟩) (by assumption) ?_
            case h35 => (go_simp; rfl)
            refine wpAnyH_take (i := 3) (v := ?v36) rfl (by kernel_rfl) (by kernel_rfl) (by kernel_rfl) (fun _ _ _ h => h) (Or.inl ⟨by kernel_rfl, fun W hW => ?h36⟩) (by assumption) ?_
            case h36 => (go_simp; rfl)
            refine wpAnyH_take (i := 4) (v := ?v37) rfl (by kernel_rfl) (by kernel_rfl) (by kernel_rfl) (fun _ _ _ h => h) (Or.inl ⟨by kernel_rfl, fun W hW => ?h37⟩) (by assumption) ?_
            case h37 => (go_simp; rfl)
            refine wpAnyH_take (i := 5) (v := ?v38) rfl (by kernel_rfl) (by kernel_rfl) (by kernel_rfl) (fun _ _ _ h => h) (Or.inl ⟨by kernel_rfl, fun W hW => ?h38⟩) (by assumption) ?_
            case h38 => (go_simp; rfl)
            refine wpAnyH_take (i := 6) (v := ?v39) rfl (by kernel_rfl) (by kernel_rfl) (by kernel_rfl) (fun _ _ _ h => h) (Or.inl ⟨by kernel_rfl, fun W hW => ?h39⟩) (by assumption) ?_
            case h39 => (go_simp; rfl)
            refine wpAnyH_take (i := 7) (v := ?v40) rfl (by kernel_rfl) (by kernel_rfl) (by kernel_rfl) (fun _ _ _ h => h) (Or.inl ⟨by kernel_rfl, fun W hW => ?h40⟩) (by assumption) ?_
            case h40 => (go_simp; rfl)
            refine wpAnyH_take (i := 8) (v := ?v41) rfl (by kernel_rfl) (by kernel_rfl) (by kernel_rfl) (fun _ _ _ h => h) (Or.inl ⟨by kernel_rfl, fun W hW => ?h41⟩) (by assumption) ?_
            case h41 => (go_simp; rfl)
            refine wpAnyH_take (i := 10) (v := ?v42) rfl (by kernel_rfl) (by kernel_rfl) (by kernel_rfl) (fun _ _ _ h => h) (Or.inl ⟨by kernel_rfl, fun W hW => ?h42⟩) (by assumption) ?_
            case h42 => (go_simp; rfl)
            refine wpAnyH_take (i := 11) (v := ?v43) rfl (by kernel_rfl) (by kernel_rfl) (by kernel_rfl) (fun _ _ _ h => h) (Or.inl ⟨by kernel_rfl, fun W hW => ?h43⟩) (by assumption) ?_
            case h43 => (go_simp; rfl)
            refine wpAnyH_take (i := 12) (v := ?v44) rfl (by kernel_rfl) (by kernel_rfl) (by kernel_rfl) (fun _ _ _ h => h) (Or.inl ⟨by kernel_rfl, fun W hW => ?h44⟩) (by assumption) ?_
            case h44 => (go_simp; rfl)
            refine wpAnyH_take (i := 13) (v := ?v45) rfl (by kernel_rfl) (by kernel_rfl) (by kernel_rfl) (fun _ _ _ h => h) (Or.inl ⟨by kernel_rfl, fun W hW => ?h45⟩) (by assumption) ?_
            case h45 => (go_simp; rfl)
            refine wpAnyH_take (i := 14) (v := ?v46) rfl (by kernel_rfl) (by kernel_rfl) (by kernel_rfl) (fun _ _ _ h => h) (Or.inl ⟨by kernel_rfl, fun W hW => ?h46⟩) (by assumption) ?_
            case h46 => (go_simp; rfl)
            refine wpAnyH_ready (rs := [9]) (by kernel_rfl) (by simp) ?_
            refine AllReadyH.cons rfl (fun K hK => ?_) AllReadyH.nil
            try simp only [Act.put, List.getElem_toArray, List.getElem_cons_zero, List.getElem_cons_succ, List.setIfInBounds_toArray, List.set_cons_zero, List.set_cons_succ]
            go_simp
            refine hK.out _ _ (trivial) (fun _ => ?_)
            clear K hK
            try simp only [Act.put, List.getElem_toArray, List.getElem_cons_zero, List.getElem_cons_succ, List.setIfInBounds_toArray, List.set_cons_zero, List.set_cons_succ]
            refine wpAnyH_take (i := 15) (v := ?v47) rfl (by kernel_rfl) (by kernel_rfl) (by kernel_rfl) (fun _ _ _ h => h) (Or.inl ⟨by kernel_rfl, fun W hW => ?h47⟩) (by assumption) ?_
            case h47 => (go_simp; rw [append_data])
            refine wpAnyH_take (i := 16) (v := ?v48) rfl (by kernel_rfl) (by kernel_rfl) (by kernel_rfl) (fun _ _ _ h => h) (Or.inl ⟨by kernel_rfl, fun W hW => ?h48⟩) (by assumption) ?_
            case h48 => (go_simp; rfl)
            refine wpAnyH_ready (rs := [17]) (by kernel_rfl) (by simp) ?_
            refine AllReadyH.cons rfl (fun K hK => ?_) AllReadyH.nil
            try simp only [Act.put, List.getElem_toArray, List.getElem_cons_zero, List.getElem_cons_succ, List.setIfInBounds_toArray, List.set_cons_zero, List.set_cons_succ]
            go_simp
            refine hK.out _ _ (trivial) (fun _ => ?_)
            clear K hK
            try simp only [Act.put, List.getElem_toArray, List.getElem_cons_zero, List.getElem_cons_succ, List.setIfInBounds_toArray, List.set_cons_zero, List.set_cons_succ]
            refine wpAnyH_done (by kernel_rfl) ?_ _
            try simp only [Act.put, List.getElem_toArray, List.getElem_cons_zero, List.getElem_cons_succ, List.setIfInBounds_toArray, List.set_cons_zero, List.set_cons_succ]
            clear hlt' hex hwk hwk2 hsi hs0 hw0 hw1 hmn cx hfr cx' hfr' hS1 s1 hby
            have Hwk3 := Lib.hid (show wrap64 ((i : Int) + 1) = (i1 : Int) by rw [Hwk.out, Hi1.out])
            have Hsd := Lib.hid (Hset.out.below (Below.refl (wr.setCell ⟨gg, m, none⟩ (.string ⟨(x ++ [d]).toArray⟩)).heap.size (wr.setCell ⟨gg, m, none⟩ (.string ⟨(x ++ [d]).toArray⟩))).drew)
            have Hbd := Lib.hid (Hb.out.setCell (p := ⟨gg, m, none⟩) Hbn.out.1 (.string ⟨(x ++ [d]).toArray⟩)).drew
            generalize (wr.setCell ⟨gg, m, none⟩ (.string ⟨(x ++ [d]).toArray⟩)).drew = wx at *
            clear Hset
            go_wp2_with fail
            go_roundw
            case rel => exact ⟨i1, gg, cc, a ++ [x ++ [d]], Hlen1.out, H2.out.symm, by first | rfl | rw [Hwk3.out], by rw [← Hln.out], Hsd.out, Hbd.out⟩
            case measure => have := Hlt.out; have := Hi1.out; (try rw [Hwk3.out]); simp [intOf]; omega
    · have he : i = s.length := by omega
      subst he
      rw [List.take_length] at hL
      have HO := Lib.hid hO; have Hb := Lib.hid hb; have HL := Lib.hid hL
      clear hlt hk hL hO hb
      go_wp2_with fail
      go_ret
      rw [← HL.out]
      exact ⟨g, c, rfl, HO.out, Hb.out⟩
end Go.Proofs.YtibinlpbcoihoaaGreatDoor
