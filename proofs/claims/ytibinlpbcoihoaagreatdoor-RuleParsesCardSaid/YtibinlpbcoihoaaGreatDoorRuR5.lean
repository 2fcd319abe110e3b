/- The walks of stetref22.lines and stetref16.Words. -/
import Derived.Test.YtibinlpbcoihoaaGreatDoorG14
import Derived.OrdersHeld
set_option linter.unusedSimpArgs false
set_option linter.unusedVariables false
namespace Go.Proofs.YtibinlpbcoihoaaGreatDoor
open Go.RowKit
theorem ext_one (s : List UInt8) (i : Nat) (c : UInt8) (h : s[i]? = some c) : (⟨s.toArray⟩ : ByteArray).extract i (i + 1) = ⟨[c].toArray⟩ := by
  rw [extract_any]
  obtain ⟨h1, h2⟩ := List.getElem?_eq_some_iff.1 h
  rw [show i + 1 - i = 1 by omega, List.drop_eq_getElem_cons h1, h2]; rfl
theorem i64_add1 (i : Nat) (h : i ≤ 1000000) : IntKind.i64.wrap ((i : Int) + 1) = ((i + 1 : Nat) : Int) := by rw [IntWalk.i64_in _ (by omega)]; omega
theorem i64_sub1 (n m : Nat) (h : n = m + 1) (h2 : n ≤ 1000000) : IntKind.i64.wrap ((n : Int) - 1) = (m : Int) := by rw [IntWalk.i64_in _ (by omega)]; omega
theorem w64_sub1 (n m : Nat) (h : n = m + 1) (h2 : n ≤ 1000000) : wrap64 ((n : Int) - 1) = (m : Int) := by unfold wrap64; omega
theorem set_last {α : Type} (a : List α) (x y : α) : (a ++ [x]).set a.length y = a ++ [y] := by simp
set_option maxRecDepth 100000 in
set_option maxHeartbeats 3200000 in
theorem ref22_lines (s : List UInt8) (w : World) (hs : s.length ≤ 100000) :
    Calls Tryz.prog 25 #[.string ⟨s.toArray⟩] w fun e w' => ∃ g c : Nat, e = .returned (.slice (some ⟨g, 0, none⟩) (Ru.lines s).length c) ∧ OwnL w.heap.size 9 1 RStr w' (.slice (some ⟨g, 0, none⟩) (Ru.lines s).length c) (Ru.lines s) ∧ Below w.heap.size w w' := by
  obtain ⟨i0, hi, hz0, hz1, hz2⟩ := info_parts str_info
  have Hi := Lib.hid hi; have Hz0 := Lib.hid hz0; have Hz1 := Lib.hid hz1; have Hz2 := Lib.hid hz2; clear hi hz0 hz1 hz2
  have Hs := Lib.hid hs; clear hs
  have hO := Lib.hid (own_one w [] w.heap.size (Nat.le_refl _))
  have hB := Lib.hid (below_new w (.cells #[.string ⟨([] : List UInt8).toArray⟩] 9))
  go_enter Tryz.func25, Tryz.ntmps25
  go_wp2_with fail
  go_loopw [3, 4] (fun ov iv wr => ∃ (i g c : Nat) (L : List (List UInt8)), i ≤ s.length ∧ L = Ru.lines (s.take i) ∧ iv = .int .i64 (i : Int) ∧ ov = .slice (some ⟨g, 0, none⟩) L.length c ∧ OwnL w.heap.size 9 1 RStr wr ov L ∧ Below w.heap.size w wr) (fun _ iv _ => s.length - (intOf iv).toNat)
  case atStart => exact ⟨0, w.heap.size, 1, [[]], Nat.zero_le _, rfl, rfl, rfl, hO.out, hB.out⟩
  case round =>
    clear hO hB
    obtain ⟨i, g, c, L, hk, hL, rfl, rfl, hO, hb⟩ := hrel
    by_cases hlt : i < s.length
    · obtain ⟨d, hd⟩ : ∃ d, s[i]? = some d := ⟨_, List.getElem?_eq_getElem hlt⟩
      have hst := Ru.lines_step s i d hd
      rw [← hL] at hst
      obtain ⟨hs1, hs2, hll⟩ := hst
      have hlt' : (i : Int) < (s.length : Int) := by omega
      have hby := byte_at s i d hd
      have hex := ext_one s i d hd
      have hwk := f2_w1 i (by have := Hs.out; omega)
      have hLl : L.length ≤ 200000 := by have := Hs.out; omega
      have Hwk := Lib.hid hwk; have Hb := Lib.hid hb; have Hlt := Lib.hid hlt; have HO := Lib.hid hO; have Hex := Lib.hid hex; have HLl := Lib.hid hLl
      have H0W := Lib.hid hb.size
      clear hwk hb hlt hO hex hd hk hll hLl
      cases h10 : (d == 10) with
      | true =>
        have Hst := Lib.hid (hs1 h10)
        have hd10 : (d.toNat : Int) = 10 := by rw [eq_of_beq h10]; rfl
        clear hs1 hs2 h10 hL
        obtain ⟨fl, hown, hrep⟩ := HO.out
        have Hown := Lib.hid hown; have Hrep := Lib.hid hrep
        have Hm1 := Lib.hid (show L.length + 1 ≤ maxLen by have := HLl.out; unfold maxLen; omega)
        have Hn1 := Lib.hid (show (L.length + 1) * 16 ≤ 140737488355328 by have := HLl.out; omega)
        clear hown hrep
        go_wp2_with (at_builtin; go_loud (refine wpList_append1 rfl (.tmp 16) (.tmp 17) 41 rfl w.heap.size 9 i0 (.string ⟨#[]⟩) 1 16 Tryz.underlying41 Hi.out Hz0.out Hz1.out Hz2.out rfl (by decide) _ _ _ Hown.out rfl [.string ⟨#[]⟩] rfl (by simp) rfl (by simp [Value.oneCell']) Hm1.out Hn1.out H0W.out ?_); intro v2 w9 own2 g2 at2; obtain ⟨p2, cap2, hv2, _⟩ := own2.form (Nat.succ_pos _); subst hv2)
        go_roundw
        case rel =>
          refine ⟨i + 1, p2, cap2, L ++ [[]], by have := Hlt.out; omega, Hst.out.symm, by first | rfl | rw [Hwk.out], by rw [List.length_append]; rfl, ?_, Hb.out.grown g2 H0W.out (fun q e => (World.ownsRow.lt Hown.out q e).1)⟩
          refine ⟨_, ?_, RepRow.snoc (R := RStr) (x := []) (vs := [.string ⟨#[]⟩]) rfl Hrep.out⟩
          rw [List.length_append]; exact own2
        case measure => have := Hlt.out; (try rw [Hwk.out]); simp [intOf]; omega
      | false =>
        obtain ⟨a, x, h1, h2, hxl⟩ := hs2 h10
        have hd10 : ((d.toNat : Int) == 10) = false := by
          rw [beq_eq_false_iff_ne]; intro e
          rw [beq_eq_false_iff_ne] at h10; exact h10 (UInt8.toNat_inj.1 (show d.toNat = 10 by omega))
        have hn : L.length = a.length + 1 := by rw [h1]; simp
        have hx : L[a.length]? = some x := by rw [h1]; simp
        clear hs1 hs2 h10 hL
        obtain ⟨n, hnn⟩ : ∃ n, n = L.length := ⟨_, rfl⟩
        obtain ⟨m, hm⟩ : ∃ m, m = a.length := ⟨_, rfl⟩
        rw [← hnn, ← hm] at hn
        rw [← hm] at hx
        have cx := HO.out.cellS rfl hx
        rw [← hnn] at HO ⊢
        have hfr := HO.out.frozS hnn m
        obtain ⟨i1, hi1⟩ : ∃ i1, i1 = i + 1 := ⟨_, rfl⟩
        have hmn : (m : Int) < (n : Int) := by omega
        have hsi : (i1 : Int) ≤ (s.length : Int) := by have := Hlt.out; omega
        have hs0 : (i : Int) ≤ (i1 : Int) := by omega
        have s1 : ¬ 9223372036854775807 < x.length + 1 := by have := Hs.out; have := Hlt.out; omega
        have hnl : n ≤ 1000000 := by have := HLl.out; omega
        have hil : i ≤ 1000000 := by have := Hlt.out; have := Hs.out; omega
        have hex := Hex.out
        have hwk := Hwk.out
        have Hwk2 := Lib.hid (i64_add1 i hil)
        have Hw0 := Lib.hid (i64_sub1 n m hn hnl)
        have Hw1 := Lib.hid (w64_sub1 n m hn hnl)
        have hwk2 := Hwk2.out; have hw0 := Hw0.out; have hw1 := Hw1.out
        rw [← hi1] at hex hwk hwk2 h2
        have Hi1 := Lib.hid hi1
        have Hlen1 := Lib.hid (show i1 ≤ s.length from by rw [hi1]; exact Hlt.out)
        clear hnl hil
        have Hset := Lib.hid (show OwnL w.heap.size 9 1 RStr (wr.setCell ⟨g, m, none⟩ (.string ⟨(x ++ [d]).toArray⟩)) (.slice (some ⟨g, 0, none⟩) n c) (a ++ [x ++ [d]]) by
          have := HO.out.putS hnn m (x ++ [d])
          rwa [show L.set m (x ++ [d]) = a ++ [x ++ [d]] by rw [h1, hm, set_last]] at this)
        have Hbn := Lib.hid (HO.out.bndS)
        have Hln := Lib.hid (show n = (a ++ [x ++ [d]]).length by rw [List.length_append, ← hm]; exact hn)
        have H2 := Lib.hid h2
        clear hn hm hnn h1 h2 hxl hi1
        go_upto_region 7 with fail
        refine wp_region_any (by kernel_rfl) ?_
        change wpAny _ _ _ _ _ _ _ (World.drew _)
        skip
        refine wpAny_of_held (S := fun _ => True) _ _ _ _ ?_
        have hS1 : (fun _ : World => True) wr.drew := trivial
        have cx' : wr.drew.cell? ⟨g, m, none⟩ = some (.string ⟨x.toArray⟩) := cx
        have hfr' : wr.drew.frozen? ⟨g, m, none⟩ = false := hfr
        refine wpAnyH_take (i := 0) (v := ?v1) rfl (by kernel_rfl) (by kernel_rfl) (by kernel_rfl) (fun _ _ _ h => h) (Or.inl ⟨by kernel_rfl, fun W hW => ?h1⟩) (by assumption) ?_
        case h1 => (go_simp; rfl)
        refine wpAnyH_take (i := 1) (v := ?v2) rfl (by kernel_rfl) (by kernel_rfl) (by kernel_rfl) (fun _ _ _ h => h) (Or.inl ⟨by kernel_rfl, fun W hW => ?h2⟩) (by assumption) ?_
        case h2 => (go_simp; rfl)
        refine wpAnyH_take (i := 2) (v := ?v3) rfl (by kernel_rfl) (by kernel_rfl) (by kernel_rfl) (fun _ _ _ h => h) (Or.inl ⟨by kernel_rfl, fun W hW => ?h3⟩) (by assumption) ?_
        case h3 => (go_simp; rfl)
        refine wpAnyH_take (i := 3) (v := ?v4) rfl (by kernel_rfl) (by kernel_rfl) (by kernel_rfl) (fun _ _ _ h => h) (Or.inl ⟨by kernel_rfl, fun W hW => ?h4⟩) (by assumption) ?_
        case h4 => (go_simp; rfl)
        refine wpAnyH_take (i := 4) (v := ?v5) rfl (by kernel_rfl) (by kernel_rfl) (by kernel_rfl) (fun _ _ _ h => h) (Or.inl ⟨by kernel_rfl, fun W hW => ?h5⟩) (by assumption) ?_
        case h5 => (go_simp; rfl)
        refine wpAnyH_take (i := 5) (v := ?v6) rfl (by kernel_rfl) (by kernel_rfl) (by kernel_rfl) (fun _ _ _ h => h) (Or.inl ⟨by kernel_rfl, fun W hW => ?h6⟩) (by assumption) ?_
        case h6 => (go_simp; rfl)
        refine wpAnyH_take (i := 6) (v := ?v7) rfl (by kernel_rfl) (by kernel_rfl) (by kernel_rfl) (fun _ _ _ h => h) (Or.inl ⟨by kernel_rfl, fun W hW => ?h7⟩) (by assumption) ?_
        case h7 => (go_simp; rfl)
        refine wpAnyH_take (i := 7) (v := ?v8) rfl (by kernel_rfl) (by kernel_rfl) (by kernel_rfl) (fun _ _ _ h => h) (Or.inl ⟨by kernel_rfl, fun W hW => ?h8⟩) (by assumption) ?_
        case h8 => (go_simp; rfl)
        refine wpAnyH_take (i := 8) (v := ?v9) rfl (by kernel_rfl) (by kernel_rfl) (by kernel_rfl) (fun _ _ _ h => h) (Or.inl ⟨by kernel_rfl, fun W hW => ?h9⟩) (by assumption) ?_
        case h9 => (go_simp; rfl)
        refine wpAnyH_take (i := 10) (v := ?v10) rfl (by kernel_rfl) (by kernel_rfl) (by kernel_rfl) (fun _ _ _ h => h) (Or.inl ⟨by kernel_rfl, fun W hW => ?h10⟩) (by assumption) ?_
        case h10 => (go_simp; rfl)
        refine wpAnyH_take (i := 11) (v := ?v11) rfl (by kernel_rfl) (by kernel_rfl) (by kernel_rfl) (fun _ _ _ h => h) (Or.inl ⟨by kernel_rfl, fun W hW => ?h11⟩) (by assumption) ?_
        case h11 => (go_simp; rfl)
        refine wpAnyH_take (i := 12) (v := ?v12) rfl (by kernel_rfl) (by kernel_rfl) (by kernel_rfl) (fun _ _ _ h => h) (Or.inl ⟨by kernel_rfl, fun W hW => ?h12⟩) (by assumption) ?_
        case h12 => (go_simp; rfl)
        refine wpAnyH_take (i := 13) (v := ?v13) rfl (by kernel_rfl) (by kernel_rfl) (by kernel_rfl) (fun _ _ _ h => h) (Or.inl ⟨by kernel_rfl, fun W hW => ?h13⟩) (by assumption) ?_
        case h13 => (go_simp; rfl)
        refine wpAnyH_take (i := 14) (v := ?v14) rfl (by kernel_rfl) (by kernel_rfl) (by kernel_rfl) (fun _ _ _ h => h) (Or.inl ⟨by kernel_rfl, fun W hW => ?h14⟩) (by assumption) ?_
        case h14 => (go_simp; rfl)
        refine wpAnyH_ready (rs := [9]) (by kernel_rfl) (by simp) ?_
        refine AllReadyH.cons rfl (fun K hK => ?_) AllReadyH.nil
        try simp only [Act.put, List.getElem_toArray, List.getElem_cons_zero, List.getElem_cons_succ, List.setIfInBounds_toArray, List.set_cons_zero, List.set_cons_succ]
        go_simp
        refine hK.out _ _ (trivial) (fun _ => ?_)
        clear K hK
        try simp only [Act.put, List.getElem_toArray, List.getElem_cons_zero, List.getElem_cons_succ, List.setIfInBounds_toArray, List.set_cons_zero, List.set_cons_succ]
        refine wpAnyH_take (i := 15) (v := ?v15) rfl (by kernel_rfl) (by kernel_rfl) (by kernel_rfl) (fun _ _ _ h => h) (Or.inl ⟨by kernel_rfl, fun W hW => ?h15⟩) (by assumption) ?_
        case h15 => (go_simp; rw [append_data])
        refine wpAnyH_take (i := 16) (v := ?v16) rfl (by kernel_rfl) (by kernel_rfl) (by kernel_rfl) (fun _ _ _ h => h) (Or.inl ⟨by kernel_rfl, fun W hW => ?h16⟩) (by assumption) ?_
        case h16 => (go_simp; rfl)
        refine wpAnyH_ready (rs := [17]) (by kernel_rfl) (by simp) ?_
        refine AllReadyH.cons rfl (fun K hK => ?_) AllReadyH.nil
        try simp only [Act.put, List.getElem_toArray, List.getElem_cons_zero, List.getElem_cons_succ, List.setIfInBounds_toArray, List.set_cons_zero, List.set_cons_succ]
        go_simp
        refine hK.out _ _ (trivial) (fun _ => ?_)
        clear K hK
        try simp only [Act.put, List.getElem_toArray, List.getElem_cons_zero, List.getElem_cons_succ, List.setIfInBounds_toArray, List.set_cons_zero, List.set_cons_succ]
        refine wpAnyH_done (by kernel_rfl) ?_ _
        try simp only [Act.put, List.getElem_toArray, List.getElem_cons_zero, List.getElem_cons_succ, List.setIfInBounds_toArray, List.set_cons_zero, List.set_cons_succ]
        clear hlt' hex hwk hwk2 hsi hs0 hw0 hw1 hmn cx hfr cx' hfr' hS1 s1 hx hby hd10
        have Hwk3 := Lib.hid (show wrap64 ((i : Int) + 1) = (i1 : Int) by rw [Hwk.out, Hi1.out])
        have Hsd := Lib.hid (Hset.out.below (Below.refl (wr.setCell ⟨g, m, none⟩ (.string ⟨(x ++ [d]).toArray⟩)).heap.size (wr.setCell ⟨g, m, none⟩ (.string ⟨(x ++ [d]).toArray⟩))).drew)
        have Hbd := Lib.hid (Hb.out.setCell (p := ⟨g, m, none⟩) Hbn.out.1 (.string ⟨(x ++ [d]).toArray⟩)).drew
        generalize (wr.setCell ⟨g, m, none⟩ (.string ⟨(x ++ [d]).toArray⟩)).drew = wx at *
        clear Hset
        go_wp2_with fail
        go_roundw
        case rel => exact ⟨i1, g, c, a ++ [x ++ [d]], Hlen1.out, H2.out.symm, by first | rfl | rw [Hwk3.out], by rw [← Hln.out], Hsd.out, Hbd.out⟩
        case measure => have := Hlt.out; have := Hi1.out; (try rw [Hwk3.out]); simp [intOf]; omega
    · have he : i = s.length := by omega
      subst he
      rw [List.take_length] at hL
      have HO := Lib.hid hO; have Hb := Lib.hid hb; have HL := Lib.hid hL
      clear hlt hk hL hO hb
      go_wp2_with fail
      go_ret
      rw [← HL.out]
      exact ⟨g, c, rfl, HO.out, Hb.out⟩
end Go.Proofs.YtibinlpbcoihoaaGreatDoor
