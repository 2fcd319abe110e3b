/- SideSpoilt: the law's walk. -/
import Derived.Test.YtimmmjmmjokdbaaGreatDoorSidLw2
import Derived.Test.YtimmmjmmjokdbaaGreatDoorR3W
set_option linter.unusedSimpArgs false
set_option linter.unusedVariables false
namespace Go.Proofs.YtimmmjmmjokdbaaGreatDoor.lawSideSpoilt
open Go.RowKit
set_option maxRecDepth 100000 in
set_option maxHeartbeats 6400000 in
theorem walk (x0 : Sd.Side) (v : Value) (c : UInt8) (w : World) (hL : Laid10 w) (hX : OSide w v x0) :
    Calls Tryz.prog 7 #[v, .int .u8 (c.toNat : Int)] w fun e w' => e = .returned (.bool true) ∧ Below w.heap.size w w' := by
  have HL := Lib.hid hL
  obtain ⟨pl, cl, ph, ch, pc, cc, pb, cb, rfl, _⟩ := hX.ex
  have HXO := Lib.hid hX
  clear hL hX
  go_enter Tryz.func7, Tryz.ntmps7
  go_upto_region 1 with fail
  obtain ⟨W1, hW1⟩ : ∃ W1, W1 = w.alloc (.cells #[.slice pl x0.labs.length cl, .slice ph x0.heads.length ch, .slice pc x0.cites.length cc, .slice pb x0.bibs.length cb] 26) := ⟨_, rfl⟩
  obtain ⟨g, hg⟩ : ∃ g, g = w.heap.size := ⟨_, rfl⟩
  rw [← hW1, ← hg]
  have hF : Four g W1 #[.slice pl x0.labs.length cl, .slice ph x0.heads.length ch, .slice pc x0.cites.length cc, .slice pb x0.bibs.length cb] := by rw [hW1, hg]; exact Four.made _ _ _
  have hZ : ∀ i : Nat, W1.frozen? ⟨g, i, none⟩ = false := by intro i; rw [hW1, hg]; simp
  have hb : Below w.heap.size w W1 := by rw [hW1]; exact below_new w _
  have c0 := hF.2 0 _ rfl; have c1 := hF.2 1 _ rfl; have c2 := hF.2 2 _ rfl; have c3 := hF.2 3 _ rfl
  replace HXO := Lib.hid (HXO.out.below hb)
  have HB := Lib.hid hb; have HF := Lib.hid hF; have HZ := Lib.hid hZ; have HG := Lib.hid hg
  obtain ⟨X, hXe⟩ : ∃ X, X = cutS 12 x0 := ⟨_, rfl⟩
  have Hsm := Lib.hid (show SideSm X by rw [hXe]; exact cutS_sm _ _ (by decide))
  have HXe := Lib.hid hXe
  clear hW1 hg hb hF hZ hXe
  go_upto_region 2 with (go_at_call 9; refine (law10_cut x0 _ 12 _ HXO.out (by decide)).mono ?_; rw [← HXe.out]; rintro e w2 ⟨⟨v2, rfl, hX2⟩, hb⟩; have HX2 := Lib.hid hX2; have hgl := HF.out.1; have d0 := (hb.cell (p := ⟨g, 0, none⟩) hgl).trans c0; have d1 := (hb.cell (p := ⟨g, 1, none⟩) hgl).trans c1; have d2 := (hb.cell (p := ⟨g, 2, none⟩) hgl).trans c2; have d3 := (hb.cell (p := ⟨g, 3, none⟩) hgl).trans c3; have f0 := (frozen_below (i := 0) hb hgl).trans (HZ.out 0); have f1 := (frozen_below (i := 1) hb hgl).trans (HZ.out 1); have f2 := (frozen_below (i := 2) hb hgl).trans (HZ.out 2); have f3 := (frozen_below (i := 3) hb hgl).trans (HZ.out 3); obtain ⟨vl, vh, vc, vb, rfl, ⟨ql, kl, rfl, _⟩, ⟨qh, kh, rfl, _⟩, ⟨qc, kc, rfl, _⟩, ⟨qb, kb, rfl, _⟩⟩ := hX2; have HB2 := Lib.hid hb; clear c0 c1 c2 c3 hb)
  obtain ⟨W3, hW3⟩ : ∃ W3, W3 = (((w2.setCell ⟨g, 0, none⟩ (.slice ql X.labs.length kl)).setCell ⟨g, 1, none⟩ (.slice qh X.heads.length kh)).setCell ⟨g, 2, none⟩ (.slice qc X.cites.length kc)).setCell ⟨g, 3, none⟩ (.slice qb X.bibs.length kb) := ⟨_, rfl⟩
  rw [← hW3]
  have HX := Lib.hid (show SideIn (fun _ => True) W3 (.agg #[.slice ql X.labs.length kl, .slice qh X.heads.length kh, .slice qc X.cites.length kc, .slice qb X.bibs.length kb]) X by rw [hW3]; exact HX2.out.set4 g (fun j hj e => by have := HF.out.1; omega) _ _ _ _)
  have hF3 : Four g W3 #[.slice ql X.labs.length kl, .slice qh X.heads.length kh, .slice qc X.cites.length kc, .slice qb X.bibs.length kb] := by rw [hW3]; exact four_set _ _ _ _ (HF.out.below HB2.out)
  replace HB := Lib.hid (show Below w.heap.size w W3 by rw [hW3]; exact four_below (HB.out.trans (HB2.out.mono HB.out.size)) (by rw [HG.out]; exact Nat.le_refl _) _ _ _ _)
  replace HF := Lib.hid hF3
  clear hW3 hF3 HX2 HB2 hgl d0 d1 d2 d3 f0 f1 f2 f3 HXO HZ
  obtain ⟨s, er, he⟩ : ∃ s c, Sd.enc X = (s, c) := ⟨_, _, rfl⟩
  have He := Lib.hid he
  have hor := Sd.right_enc X
  rw [he] at hor
  have Hor := Lib.hid hor
  clear he hor
  have c0 := HF.out.2 0 _ rfl; have c1 := HF.out.2 1 _ rfl; have c2 := HF.out.2 2 _ rfl; have c3 := HF.out.2 3 _ rfl
  go_upto_region 3 with (go_at_call 10; refine (side_encode _ _ _ _ (HL.out.below HB.out) HX.out Hsm.out).mono ?_; rw [He.out]; rintro e w4 ⟨rfl, hb⟩; replace HB := Lib.hid (HB.out.trans (hb.mono HB.out.size)); clear hb)
  clear c0 c1 c2 c3
  have hcase : ((er = 0 ∧ Sd.right X = true ∧ s = Sd.encN X ∧ s.length ≤ 107184) ∨ (er = 5 ∧ s = [])) := by
    rcases Hor.out with ⟨s', h1, h2, h3, h4⟩ | ⟨h1, h2⟩
    · obtain ⟨rfl, rfl⟩ := Prod.mk.inj h1
      exact .inl ⟨rfl, h2, h3, h4⟩
    · obtain ⟨rfl, rfl⟩ := Prod.mk.inj h1
      exact .inr ⟨rfl, rfl⟩
  clear He Hor HX HF Hsm HXe
  rcases hcase with ⟨rfl, hr, hse, hl⟩ | ⟨rfl, rfl⟩
  · by_cases hnil : s = []
    · subst hnil
      clear hr hse hl
      go_wp2_with (go_at_call 20; refine (law10_fixed _ (HL.out.below HB.out)).mono ?_; rintro e wf ⟨rfl, hb⟩; replace HB := Lib.hid (HB.out.trans (hb.mono HB.out.size)); clear hb)
      go_ret
      exact ⟨rfl, HB.out⟩
    · have D1 := Lib.hid (show Sd.dec s.dropLast = none by rw [hse]; exact Sd.dec_less X hr (by rw [← hse]; exact hnil))
      have D2 := Lib.hid (show Sd.dec (s ++ [c]) = none by rw [hse]; exact Sd.dec_more X hr c)
      have D3 := Lib.hid (show Sd.dec (s ++ Sd.put (Sd.put Sd.noneW)) = none by rw [hse]; exact Sd.dec_none X hr)
      obtain ⟨q, hq⟩ : ∃ q, s.length = q + 1 := ⟨s.length - 1, by have := List.length_pos_iff.2 hnil; omega⟩
      have hse2 : s.isEmpty = false := by cases s with | nil => exact absurd rfl hnil | cons a b => rfl
      have hw1 : IntKind.i64.wrap ((s.length : Int) - 1) = (q : Int) := by rw [IntWalk.i64_in _ (by omega)]; omega
      have hql : (q : Int) ≤ (s.length : Int) := by omega
      have hex : (⟨s.toArray⟩ : ByteArray).extract 0 q = ⟨s.dropLast.toArray⟩ := by rw [extract_any, List.dropLast_eq_take, hq]; simp
      have hp1 := Sd.put_le Sd.noneW (by decide)
      have hn4 : Sd.noneW.length = 4 := rfl
      have hp2 := Sd.put_le (Sd.put Sd.noneW) (by omega)
      obtain ⟨p1, hp1e⟩ : ∃ p1, Sd.put Sd.noneW = p1 := ⟨_, rfl⟩
      obtain ⟨p2, hp2e⟩ : ∃ p2, Sd.put p1 = p2 := ⟨_, rfl⟩
      rw [hp1e] at hp1 D3 hp2
      rw [hp2e] at hp2 D3
      have ha1 : ¬ 9223372036854775807 < s.length + 1 := by omega
      have ha2 : ¬ 9223372036854775807 < s.length + p2.length := by omega
      have hap1 : (⟨s.toArray⟩ : ByteArray) ++ ⟨#[c]⟩ = ⟨(s ++ [c]).toArray⟩ := append_data s [c]
      have hap2 : (⟨s.toArray⟩ : ByteArray) ++ ⟨p2.toArray⟩ = ⟨(s ++ p2).toArray⟩ := append_data s p2
      have L1 := Lib.hid (show s.dropLast.length ≤ 1000000 by rw [List.length_dropLast]; omega)
      have L2 := Lib.hid (show (s ++ [c]).length ≤ 1000000 by rw [List.length_append, List.length_singleton]; omega)
      have L3 := Lib.hid (show (s ++ p2).length ≤ 1000000 by rw [List.length_append]; omega)
      have L4 := Lib.hid (show p1.length ≤ 999999 by omega)
      have Hp1 := Lib.hid hp1e; have Hp2 := Lib.hid hp2e
      have hcv := fun (W : World) (x : Int) => run_conv_one (P := Tryz.prog) 54 9 5 Tryz.underlying54 Tryz.underlying5 Tryz.underlying9 W x
      have hcc : UInt8.ofNat c.toNat = c := by simp
      clear hr hse hl hq hp1 hp2 hn4 hp1e hp2e hnil
      go_upto_region 6 with (go_at_call 13; refine (side_decode s.dropLast _ (HL.out.below HB.out) L1.out).mono ?_; rintro e w6 ⟨hb, hm⟩; rw [D1.out] at hm; obtain rfl := hm; replace HB := Lib.hid (HB.out.trans (hb.mono HB.out.size)); clear hb)
      obtain ⟨w7, hwx⟩ : ∃ W, W = w6.alloc (.cells #[.slice none 0 0, .slice none 0 0, .slice none 0 0, .slice none 0 0] 26) := ⟨_, rfl⟩
      obtain ⟨g6, hgx⟩ : ∃ g, g = w6.heap.size := ⟨_, rfl⟩
      rw [← hwx, ← hgx]
      have hb : Below w6.heap.size w6 w7 := by rw [hwx]; exact below_new _ _
      replace HB := Lib.hid (HB.out.trans (hb.mono HB.out.size))
      clear hb hwx hgx
      clear hex hw1 hql
      go_upto_region 7 with (go_at_call 13; refine (side_decode (s ++ [c]) _ (HL.out.below (HB.out.alloc HB.out.size _)) L2.out).mono ?_; rintro e w8 ⟨hb, hm⟩; rw [D2.out] at hm; obtain rfl := hm; replace HB := Lib.hid (HB.out.alloc HB.out.size (.cells #[.int .u8 (c.toNat : Int)] 5)); replace HB := Lib.hid (HB.out.trans (hb.mono HB.out.size)); clear hb)
      obtain ⟨w9, hwx⟩ : ∃ W, W = w8.alloc (.cells #[.slice none 0 0, .slice none 0 0, .slice none 0 0, .slice none 0 0] 26) := ⟨_, rfl⟩
      obtain ⟨g8, hgx⟩ : ∃ g, g = w8.heap.size := ⟨_, rfl⟩
      rw [← hwx, ← hgx]
      have hb : Below w8.heap.size w8 w9 := by rw [hwx]; exact below_new _ _
      replace HB := Lib.hid (HB.out.trans (hb.mono HB.out.size))
      clear hb hwx hgx
      clear hap1 hcv ha1 hcc
      go_upto_region 8 with (first
        | (go_at_call 21; (with_reducible refine (ref03_put p1 _ L4.out).mono ?_); rw [Hp2.out]; rintro e w10 ⟨rfl, hb⟩; replace HB := Lib.hid (HB.out.trans (hb.mono HB.out.size)); clear hb)
        | (go_at_call 21; refine (ref03_put Sd.noneW _ (by decide)).mono ?_; rw [Hp1.out]; rintro e w9a ⟨rfl, hb⟩; replace HB := Lib.hid (HB.out.trans (hb.mono HB.out.size)); clear hb)
        | (go_at_call 13; refine (side_decode (s ++ p2) _ (HL.out.below HB.out) L3.out).mono ?_; rintro e w11 ⟨hb, hm⟩; rw [D3.out] at hm; obtain rfl := hm; replace HB := Lib.hid (HB.out.trans (hb.mono HB.out.size)); clear hb))
      obtain ⟨w12, hwx⟩ : ∃ W, W = w11.alloc (.cells #[.slice none 0 0, .slice none 0 0, .slice none 0 0, .slice none 0 0] 26) := ⟨_, rfl⟩
      obtain ⟨g11, hgx⟩ : ∃ g, g = w11.heap.size := ⟨_, rfl⟩
      rw [← hwx, ← hgx]
      have hb : Below w11.heap.size w11 w12 := by rw [hwx]; exact below_new _ _
      replace HB := Lib.hid (HB.out.trans (hb.mono HB.out.size))
      clear hb hwx hgx
      clear ha2 hap2
      go_wp2_with (go_at_call 20; refine (law10_fixed _ (HL.out.below HB.out)).mono ?_; rintro e wf ⟨rfl, hb⟩; replace HB := Lib.hid (HB.out.trans (hb.mono HB.out.size)); clear hb)
      go_ret
      exact ⟨rfl, HB.out⟩
  · go_wp2_with (go_at_call 20; refine (law10_fixed _ (HL.out.below HB.out)).mono ?_; rintro e wf ⟨rfl, hb⟩; replace HB := Lib.hid (HB.out.trans (hb.mono HB.out.size)); clear hb)
    go_ret
    exact ⟨rfl, HB.out⟩
end Go.Proofs.YtimmmjmmjokdbaaGreatDoor.lawSideSpoilt
