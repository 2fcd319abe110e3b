/- EntryTwo: the law's walk. -/
import Derived.Test.YtddgdfcgjjdlcaaDoorTwoW
set_option linter.unusedSimpArgs false
set_option linter.unusedVariables false
namespace Go.Proofs.YtddgdfcgjjdlcaaDoor
open Go.RowKit
theorem SliceIn.ltS {α : Type} {S : Nat → Prop} {size : Nat} {R : α → List Value → Prop} {w : World} {v : Value} {xs : List α} (h : SliceIn S size R w v xs) : SliceIn (fun j => j < w.heap.size) size R w v xs := by
  obtain ⟨p, cap, hv, h1, h2, h3⟩ := h
  refine ⟨p, cap, hv, h1, h2, fun i x hi => ?_⟩
  obtain ⟨b, off, vs, hp, hS, hlt, hr, hc⟩ := h3 i x hi
  exact ⟨b, off, vs, hp, hlt, hlt, hr, hc⟩
theorem wpList_start {ops : Array Oper} {rest : List Oper} {o : Oper} {a : Act} {w : World} {Q : Exit → Act → World → Prop} (hgd : o.guard = none) (s x : Operand)
    (ho : o.op = .call { callee := .builtin .append, args := #[s, x], argTypes := #[22, 22] }) (p : Option Addr) (cap B : Nat) (c : List Ent.Ent) (hO : Outs B 36 w (.slice p c.length cap) c) (hc : c.length ≤ 1000)
    (hs : a.eval s = .slice (some ⟨w.heap.size, 0, none⟩) 0 0) (hx : a.eval x = .slice p c.length cap)
    (h : ∀ v' w', Want w.heap.size 36 w' v' c → Below w.heap.size w w' → wpList Tryd.prog ops Q rest (a.put o.dst v') w') : wpList Tryd.prog ops Q (o :: rest) a (w.alloc (.cells #[] 36)) := by
  refine wpList_plain hgd fun _ hK => ?_
  obtain ⟨v', w', hr, h2, h3⟩ := want_start w.heap.size 36 o.type w p cap B c hO rfl hc
  unfold Oper.wp execOp
  simp only [ho, resolve, invoke, builtin, Sem.run_bind, Sem.run_pure, Result.andThen_ok, List.map_toArray, List.map_cons, List.map_nil, hs, hx, hr]
  exact hK _ _ (h v' w' h2 h3)
end Go.Proofs.YtddgdfcgjjdlcaaDoor
namespace Go.Proofs.YtddgdfcgjjdlcaaDoor.lawTwo
open Go.RowKit
theorem parse2 (c : List Ent.Ent) (t : List UInt8) (w : World) (hc : CutOk c) (hl : t.length ≤ 200) :
    Calls Tryd.prog 17 #[.string (⟨(Ent.showN c).toArray⟩ ++ ⟨t.toArray⟩)] w fun e w' => ParsePost w (Ent.parse (Ent.showN c ++ t)) e w' := by
  rw [append_data (Ent.showN c) t]
  have := hc.show_
  exact entry_parse _ w (by simp only [List.length_append]; omega)
theorem filter_len (a : List Ent.Ent) (f : Ent.Ent → Bool) (k : Nat) : ((a.take k).filter f).length ≤ k := Nat.le_trans (List.length_filter_le _ _) (by rw [List.length_take]; omega)
set_option maxRecDepth 100000 in
set_option maxHeartbeats 3200000 in
theorem walk (p : Option Addr) (cap : Nat) (l : List Ent.Ent) (s : List UInt8) (w : World) (h : l.length ≤ maxLen ∧ s.length ≤ maxLen) (hE : OEnt w p l) :
    Calls Tryd.prog 6 #[.slice p l.length cap, .string ⟨s.toArray⟩] w fun e w' => e = .returned (.bool true) ∧ Below w.heap.size w w' := by
  obtain ⟨hl, hs⟩ := h
  have hsm : s.length ≤ 9223372036854775807 := by unfold maxLen at hs; omega
  obtain ⟨q, hq⟩ : ∃ q : Nat, min (s.length : Int) 200 = (q : Int) := ⟨min s.length 200, by omega⟩
  have hq1 : (q : Int) ≤ (s.length : Int) := by omega
  have hq2 : q ≤ 200 := by omega
  have hex : (⟨s.toArray⟩ : ByteArray).extract 0 q = ⟨(s.take q).toArray⟩ := by rw [extract_any]; simp
  have HE := Lib.hid hE; clear hE
  go_enter Tryd.func6, Tryd.ntmps6
  go_upto_region 2 with (go_at_call 8; refine (law_cutO l p cap _ HE.out hl).mono ?_; rintro e w1 ⟨p1, c, cap1, hc, rfl, hO, hb⟩; have HC := Lib.hid hc; have HO := Lib.hid hO; have HB := Lib.hid hb; clear hc hO hb)
  have hcl : c.length ≤ 1000000000 := by have := HC.out.len; omega
  have hcs : (Ent.showN c).length ≤ 1000000000 := by have := HC.out.show_; omega
  have hcf : ∀ x ∈ c, x.fields.length ≤ 1000000000 := fun x hx => by have := HC.out.flds x hx; omega
  have Hcf := Lib.hid hcf; clear hcf hl
  cases hr : Ent.right c
  · have hsh : Ent.shown c = ([], 5) := by unfold Ent.shown; rw [hr]; rfl
    have Hsh := Lib.hid hsh; have Hr := Lib.hid hr; clear hsh hr
    go_wp2_with (first
      | (go_at_call 9; refine (entry_show c (.slice p1 c.length cap1) _ _ HO.out.ents HC.out.ok hcl hcs).mono ?_; rw [Hsh.out]; rintro e w2 ⟨rfl, hb⟩; replace HO := Lib.hid (HO.out.below hb); replace HB := Lib.hid (HB.out.trans (hb.mono HB.out.size)); clear hb)
      | (go_at_call 16; refine (law_fixed _).mono ?_; rintro e w3 ⟨rfl, hb⟩; replace HO := Lib.hid (HO.out.below hb); replace HB := Lib.hid (HB.out.trans (hb.mono HB.out.size)); clear hb))
    go_ret
    exact ⟨rfl, HB.out⟩
  · have hsh : Ent.shown c = (Ent.showN c, 0) := by unfold Ent.shown; rw [hr]; rfl
    obtain ⟨t, ht⟩ : ∃ t, s.take q = t := ⟨_, rfl⟩
    have htl : t.length ≤ 200 := by rw [← ht, List.length_take]; omega
    rw [ht] at hex
    clear ht
    have hlaw := Ent.law_two c t hr
    have hsa := Ent.parse_short t
    have hsb := Ent.parse_short (Ent.showN c ++ t)
    obtain ⟨o1, ho1⟩ : ∃ o, Ent.parse t = o := ⟨_, rfl⟩
    obtain ⟨o2, ho2⟩ : ∃ o, Ent.parse (Ent.showN c ++ t) = o := ⟨_, rfl⟩
    rw [ho1] at hlaw hsa
    rw [ho2] at hlaw hsb
    have Ho1 := Lib.hid ho1; have Ho2 := Lib.hid ho2; clear ho1 ho2
    obtain ⟨a, n1⟩ := o1
    obtain ⟨b0, m1⟩ := o2
    dsimp only at hlaw hsa hsb
    obtain ⟨hl1, hl2⟩ := hlaw
    have hal : a.length ≤ 200 := by have := hsa.1; omega
    have hb0 : b0.length ≤ 1000000 := by have h1 := hsb.1; have h2 := HC.out.show_; rw [List.length_append] at h1; omega
    have hbf : ∀ x ∈ b0, x.fields.length ≤ 1000000000 := fun x hx => by have h1 := (hsb.2 x hx).1; have h2 := HC.out.show_; rw [List.length_append] at h1; omega
    have hb0' : b0.length ≤ 1000000000 := by omega
    have Hsh := Lib.hid hsh; have Hr := Lib.hid hr; have Hl1 := Lib.hid hl1; have Hl2 := Lib.hid hl2; have Hbf := Lib.hid hbf; clear hsh hr hl1 hl2 hsa hsb hbf
    go_upto_region 7 with (first
      | (go_at_call 9; refine (entry_show c (.slice p1 c.length cap1) _ _ HO.out.ents HC.out.ok hcl hcs).mono ?_; rw [Hsh.out]; rintro e w2 ⟨rfl, hb⟩; replace HO := Lib.hid (HO.out.below hb); replace HB := Lib.hid (HB.out.trans (hb.mono HB.out.size)); clear hb)
      | (go_at_call 17; refine (entry_parse t _ (by omega)).mono ?_; rw [Ho1.out]; rintro e w3 ⟨va, vn, rfl, hA, hN, hb⟩; have HA := Lib.hid hA.wide; replace HO := Lib.hid (HO.out.below hb); replace HB := Lib.hid (HB.out.trans (hb.mono HB.out.size)); obtain ⟨pa, ca, rfl, _⟩ := hA; obtain ⟨pn, cn, rfl, _⟩ := hN; clear hb))
    go_upto_region 8 with (go_at_call 17; refine (parse2 c t _ HC.out htl).mono ?_; rw [Ho2.out]; rintro e w4 ⟨vb, vm, rfl, hA2, hN2, hb⟩; have HM := Lib.hid hA2.wide; replace HO := Lib.hid (HO.out.below hb); replace HB := Lib.hid (HB.out.trans (hb.mono HB.out.size)); replace HA := Lib.hid (HA.out.below hb); obtain ⟨pm, cm, rfl, _⟩ := hN2; clear hA2 hb)
    clear hex hq hq1 hsm
    have hc1000 : c.length ≤ 1000 := by have := HC.out.len; omega
    go_wp2_with (at_builtin; go_loud (refine wpList_start rfl (.tmp 41) (.tmp 42) rfl p1 cap1 _ c HO.out hc1000 rfl rfl ?_); intro v6 w6 hW hb6; have HW := Lib.hid hW; have Hb6 := Lib.hid hb6; clear hW hb6)
    have hz4 := HB.out.size
    go_loopw [11, 12, 13] (fun vw mv iv wr => ∃ k : Nat, k ≤ a.length ∧ iv = .int .i64 (k : Int) ∧ Want w4.heap.size 36 wr vw (c ++ (a.take k).filter (fun x => !Ent.has c x.key)) ∧ mv = .int .i64 (((a.take k).filter (fun x => Ent.has c x.key)).length : Int) ∧ Below w4.heap.size w4 wr) (fun _ _ iv _ => a.length - (intOf iv).toNat)
    case atStart => exact ⟨0, Nat.zero_le _, rfl, by rw [List.take_zero, List.filter_nil, List.append_nil]; exact HW.out, rfl, Hb6.out⟩
    case round =>
      clear HW Hb6
      obtain ⟨k, hk, rfl, hW, rfl, hb⟩ := hrel
      have HW := Lib.hid hW; have Hb := Lib.hid hb
      have hzr := hb.size
      have hfl := filter_len a (fun x => Ent.has c x.key) k
      have hfl2 := filter_len a (fun x => !Ent.has c x.key) k
      clear hW hb
      by_cases hlt : k < a.length
      · obtain ⟨x, hx⟩ : ∃ x, a[k]? = some x := ⟨_, List.getElem?_eq_getElem hlt⟩
        obtain ⟨pa', ca', hva, _, _, hat⟩ := HA.out
        obtain ⟨b, off, vs, hpb, _, hbw, hR, hcc⟩ := hat k x hx
        injection hva with hva _ hcap
        subst hva
        subst hpb
        subst hcap
        obtain ⟨vf, rfl, hF⟩ := hR
        obtain ⟨pf, cf, rfl, hF2⟩ := hF
        have hFs : SliceIn (fun j => j < w4.heap.size) 2 RFld w4 (.slice pf x.fields.length cf) x.fields := SliceIn.ltS (S := fun _ => True) ⟨pf, cf, rfl, hF2⟩
        have e0 : wr.cell? ⟨b, off + k * 3, none⟩ = some (.string ⟨x.kind.toArray⟩) := (Hb.out.cell (p := ⟨b, off + k * 3, none⟩) hbw).trans (hcc 0 _ rfl)
        have e1 : wr.cell? ⟨b, off + k * 3 + 1, none⟩ = some (.string ⟨x.key.toArray⟩) := (Hb.out.cell (p := ⟨b, off + k * 3 + 1, none⟩) hbw).trans (hcc 1 _ rfl)
        have e2 : wr.cell? ⟨b, off + k * 3 + 2, none⟩ = some (.slice pf x.fields.length cf) := (Hb.out.cell (p := ⟨b, off + k * 3 + 2, none⟩) hbw).trans (hcc 2 _ rfl)
        have hlt' : (k : Int) < (a.length : Int) := by omega
        have hkl : (k : Int) + 1 ≤ 9223372036854775807 := by omega
        have hO2 := HO.out.below Hb.out
        have HO2 := Lib.hid hO2; have HFs := Lib.hid hFs; have Hx := Lib.hid hx; have E0 := Lib.hid e0; have E2 := Lib.hid e2
        obtain ⟨ks, hks⟩ : ∃ ks, ((a.take k).filter (fun x => Ent.has c x.key)).length = ks := ⟨_, rfl⟩
        rw [hks] at hfl ⊢
        have hm1 : (ks : Int) + 1 ≤ 9223372036854775807 := by omega
        have Hks := Lib.hid hks
        clear hat hcc hx hF2 hFs hO2 e0 e2 hks
        cases hh : Ent.has c x.key
        · have Hh := Lib.hid hh; clear hh
          go_upto_region 12 with fail
          refine wp_region_any (by kernel_rfl) ?_
          change wpAny _ _ _ _ _ _ _ (World.drew _)
          have hS : (fun W : World => W.cell? ⟨b, off + k * 3 + 1, none⟩ = some (.string ⟨x.key.toArray⟩)) wr.drew := e1
          dsimp only at hS
          have hb7 : Below wr.heap.size wr wr.drew := (Below.refl _ _).drew
          have HO7 := Lib.hid (HO2.out.below hb7)
          have hlt7 : b < wr.drew.heap.size := Nat.lt_of_lt_of_le hbw hzr
          refine wpAny_of_held (S := fun W => W.cell? ⟨b, off + k * 3 + 1, none⟩ = some (.string ⟨x.key.toArray⟩)) _ _ _ _ ?_
          refine wpAnyH_take (i := 0) (v := .slice p1 c.length cap1) rfl (by kernel_rfl) (by kernel_rfl) (by kernel_rfl) (fun _ _ _ h => h) (Or.inl ⟨by kernel_rfl, fun W hW => by kernel_rfl⟩) (by assumption) ?_
          try simp only [Act.put, List.getElem_toArray, List.getElem_cons_zero, List.getElem_cons_succ, List.setIfInBounds_toArray, List.set_cons_zero, List.set_cons_succ]
          refine wpAnyH_take (i := 2) (v := .slice (some ⟨b, off, none⟩) a.length ca) rfl (by kernel_rfl) (by kernel_rfl) (by kernel_rfl) (fun _ _ _ h => h) (Or.inl ⟨by kernel_rfl, fun W hW => by kernel_rfl⟩) (by assumption) ?_
          try simp only [Act.put, List.getElem_toArray, List.getElem_cons_zero, List.getElem_cons_succ, List.setIfInBounds_toArray, List.set_cons_zero, List.set_cons_succ]
          refine wpAnyH_take (i := 3) (v := .int .i64 (k : Int)) rfl (by kernel_rfl) (by kernel_rfl) (by kernel_rfl) (fun _ _ _ h => h) (Or.inl ⟨by kernel_rfl, fun W hW => by kernel_rfl⟩) (by assumption) ?_
          try simp only [Act.put, List.getElem_toArray, List.getElem_cons_zero, List.getElem_cons_succ, List.setIfInBounds_toArray, List.set_cons_zero, List.set_cons_succ]
          refine wpAnyH_take (i := 4) (v := .pointer (some ⟨b, off + k * 3, none⟩)) rfl (by kernel_rfl) (by kernel_rfl) (by kernel_rfl) (fun _ _ _ h => h) (Or.inl ⟨by kernel_rfl, fun W hW => by go_simp⟩) (by assumption) ?_
          try simp only [Act.put, List.getElem_toArray, List.getElem_cons_zero, List.getElem_cons_succ, List.setIfInBounds_toArray, List.set_cons_zero, List.set_cons_succ]
          refine wpAnyH_take (i := 5) (v := .pointer (some ⟨b, off + k * 3 + 1, none⟩)) rfl (by kernel_rfl) (by kernel_rfl) (by kernel_rfl) (fun _ _ _ h => h) (Or.inl ⟨by kernel_rfl, fun W hW => by go_simp⟩) (by assumption) ?_
          try simp only [Act.put, List.getElem_toArray, List.getElem_cons_zero, List.getElem_cons_succ, List.setIfInBounds_toArray, List.set_cons_zero, List.set_cons_succ]
          refine wpAnyH_take (i := 6) (v := .string ⟨x.key.toArray⟩) rfl (by kernel_rfl) (by kernel_rfl) (by kernel_rfl) (fun _ _ _ h => h) (Or.inl ⟨by kernel_rfl, fun W hW => by go_simp⟩) (by assumption) ?_
          try simp only [Act.put, List.getElem_toArray, List.getElem_cons_zero, List.getElem_cons_succ, List.setIfInBounds_toArray, List.set_cons_zero, List.set_cons_succ]
          refine wpAnyH_ready (rs := [1]) (by kernel_rfl) (by simp) ?_
          refine AllReadyH.cons rfl (fun K hK => ?_) AllReadyH.nil
          go_simp
          go_wp2_with (go_at_call 11; refine (law_refs c (.slice p1 c.length cap1) _ _ HO7.out.ents hcl Hcf.out).mono ?_; rintro e w8 ⟨vr8, rfl, hO8, hb8⟩; have HR8 := Lib.hid hO8.ents; have Hb8 := Lib.hid (hb7.trans (hb8.mono hb7.size)); clear hO8)
          refine hK.out _ _ ((hb8.cell (p := ⟨b, off + k * 3 + 1, none⟩) hlt7).trans hS) (fun _ => ?_)
          clear K hK
          try simp only [Act.put, List.getElem_toArray, List.getElem_cons_zero, List.getElem_cons_succ, List.setIfInBounds_toArray, List.set_cons_zero, List.set_cons_succ]
          refine wpAnyH_ready (rs := [7]) (by kernel_rfl) (by simp) ?_
          refine AllReadyH.cons rfl (fun K hK => ?_) AllReadyH.nil
          go_simp
          go_wp2_with (go_at_call 19; refine (ref15_has c vr8 x.key _ _ HR8.out).mono ?_; rw [Hh.out]; rintro e w9 ⟨rfl, hb9⟩; have Hb9 := Lib.hid (Hb8.out.trans (hb9.mono Hb8.out.size)))
          refine hK.out _ _ ((Hb9.out.cell (p := ⟨b, off + k * 3 + 1, none⟩) (Nat.lt_of_lt_of_le hbw hzr)).trans e1) (fun _ => ?_)
          clear K hK
          try simp only [Act.put, List.getElem_toArray, List.getElem_cons_zero, List.getElem_cons_succ, List.setIfInBounds_toArray, List.set_cons_zero, List.set_cons_succ]
          refine wpAnyH_done (by kernel_rfl) ?_ _
          clear hS hb7 hb8 hb9 hlt7
          have e0 := (Hb9.out.cell (p := ⟨b, off + k * 3, none⟩) (Nat.lt_of_lt_of_le hbw hzr)).trans E0.out
          have e1 := (Hb9.out.cell (p := ⟨b, off + k * 3 + 1, none⟩) (Nat.lt_of_lt_of_le hbw hzr)).trans e1
          have e2 := (Hb9.out.cell (p := ⟨b, off + k * 3 + 2, none⟩) (Nat.lt_of_lt_of_le hbw hzr)).trans E2.out
          have hW9 := HW.out.below Hb9.out
          have hbb := Hb.out.trans (Hb9.out.mono hzr)
          have Hbb := Lib.hid hbb
          obtain ⟨fl, hown, hrep⟩ := hW9
          obtain ⟨i0, hi, hz0, hz1, hz2⟩ := info_parts eent_info
          have hN : ∀ j, u11.ownBlock = some j → w4.heap.size ≤ j := fun j hj => (hown.lt j hj).1
          have hbase : w4.heap.size ≤ w9.heap.size := hbb.size
          have hsl := HFs.out.moved (S' := fun j => j < w4.heap.size) (w' := w9) (fun j hj _ => ⟨hj, hbb.block j hj⟩) hbase (fun _ _ _ h => h)
          have hlen2 : (c ++ (a.take k).filter (fun x => !Ent.has c x.key)).length ≤ 10000 := by rw [List.length_append]; omega
          have hcat : c ++ (a.take (k + 1)).filter (fun x => !Ent.has c x.key) = (c ++ (a.take k).filter (fun x => !Ent.has c x.key)) ++ [x] := by
            rw [List.take_add_one, Hx.out, List.filter_append, List.append_assoc]; simp [Hh.out]
          have hcat2 : ((a.take (k + 1)).filter (fun x => Ent.has c x.key)).length = ks := by
            rw [List.take_add_one, Hx.out, List.filter_append, List.length_append, Hks.out]; simp [Hh.out]
          have Hown := Lib.hid hown; have Hrep := Lib.hid hrep; have Hsl := Lib.hid hsl; have Hi := Lib.hid hi; have Hz0 := Lib.hid hz0; have Hz1 := Lib.hid hz1; have Hz2 := Lib.hid hz2; have HNN := Lib.hid hN
          have Hcat := Lib.hid hcat; have Hcat2 := Lib.hid hcat2
          clear hown hrep hsl hi hz0 hz1 hz2 hN hbb hcat hcat2
          obtain ⟨cw, hcw⟩ : ∃ cw, c ++ (a.take k).filter (fun x => !Ent.has c x.key) = cw := ⟨_, rfl⟩
          rw [hcw] at Hown Hrep hlen2 Hcat
          clear hcw
          go_wp2_with (at_builtin; go_loud (refine wpList_append1 rfl (.tmp 60) (.tmp 65) 22 rfl w4.heap.size 36 i0 (.agg #[.string ⟨#[]⟩, .string ⟨#[]⟩, .slice none 0 0]) 3 56 Tryd.underlying22 Hi.out Hz0.out Hz1.out Hz2.out (by rfl) (by decide) _ _ _ Hown.out rfl [.string ⟨x.kind.toArray⟩, .string ⟨x.key.toArray⟩, .slice pf x.fields.length cf] rfl rfl rfl (by simp [Value.oneCell']) (by unfold maxLen; omega) (by omega) hbase ?_); intro v2 w2' own2 g2 at2)
          go_roundw
          case rel =>
            refine ⟨k + 1, by omega, by go_num, ?_, by rw [Hcat2.out], ?_⟩
            · rw [Hcat.out]
              exact Want.more hbase Hrep.out Hsl.out HNN.out own2 g2
            · exact Hbb.out.grown g2 hbase (fun q e => (Hown.out.lt q e).1)
          case measure => simp [intOf]; omega
        · have Hh := Lib.hid hh; clear hh
          go_upto_region 12 with fail
          refine wp_region_any (by kernel_rfl) ?_
          change wpAny _ _ _ _ _ _ _ (World.drew _)
          have hS : (fun W : World => W.cell? ⟨b, off + k * 3 + 1, none⟩ = some (.string ⟨x.key.toArray⟩)) wr.drew := e1
          dsimp only at hS
          have hb7 : Below wr.heap.size wr wr.drew := (Below.refl _ _).drew
          have HO7 := Lib.hid (HO2.out.below hb7)
          have hlt7 : b < wr.drew.heap.size := Nat.lt_of_lt_of_le hbw hzr
          refine wpAny_of_held (S := fun W => W.cell? ⟨b, off + k * 3 + 1, none⟩ = some (.string ⟨x.key.toArray⟩)) _ _ _ _ ?_
          refine wpAnyH_take (i := 0) (v := .slice p1 c.length cap1) rfl (by kernel_rfl) (by kernel_rfl) (by kernel_rfl) (fun _ _ _ h => h) (Or.inl ⟨by kernel_rfl, fun W hW => by kernel_rfl⟩) (by assumption) ?_
          try simp only [Act.put, List.getElem_toArray, List.getElem_cons_zero, List.getElem_cons_succ, List.setIfInBounds_toArray, List.set_cons_zero, List.set_cons_succ]
          refine wpAnyH_take (i := 2) (v := .slice (some ⟨b, off, none⟩) a.length ca) rfl (by kernel_rfl) (by kernel_rfl) (by kernel_rfl) (fun _ _ _ h => h) (Or.inl ⟨by kernel_rfl, fun W hW => by kernel_rfl⟩) (by assumption) ?_
          try simp only [Act.put, List.getElem_toArray, List.getElem_cons_zero, List.getElem_cons_succ, List.setIfInBounds_toArray, List.set_cons_zero, List.set_cons_succ]
          refine wpAnyH_take (i := 3) (v := .int .i64 (k : Int)) rfl (by kernel_rfl) (by kernel_rfl) (by kernel_rfl) (fun _ _ _ h => h) (Or.inl ⟨by kernel_rfl, fun W hW => by kernel_rfl⟩) (by assumption) ?_
          try simp only [Act.put, List.getElem_toArray, List.getElem_cons_zero, List.getElem_cons_succ, List.setIfInBounds_toArray, List.set_cons_zero, List.set_cons_succ]
          refine wpAnyH_take (i := 4) (v := .pointer (some ⟨b, off + k * 3, none⟩)) rfl (by kernel_rfl) (by kernel_rfl) (by kernel_rfl) (fun _ _ _ h => h) (Or.inl ⟨by kernel_rfl, fun W hW => by go_simp⟩) (by assumption) ?_
          try simp only [Act.put, List.getElem_toArray, List.getElem_cons_zero, List.getElem_cons_succ, List.setIfInBounds_toArray, List.set_cons_zero, List.set_cons_succ]
          refine wpAnyH_take (i := 5) (v := .pointer (some ⟨b, off + k * 3 + 1, none⟩)) rfl (by kernel_rfl) (by kernel_rfl) (by kernel_rfl) (fun _ _ _ h => h) (Or.inl ⟨by kernel_rfl, fun W hW => by go_simp⟩) (by assumption) ?_
          try simp only [Act.put, List.getElem_toArray, List.getElem_cons_zero, List.getElem_cons_succ, List.setIfInBounds_toArray, List.set_cons_zero, List.set_cons_succ]
          refine wpAnyH_take (i := 6) (v := .string ⟨x.key.toArray⟩) rfl (by kernel_rfl) (by kernel_rfl) (by kernel_rfl) (fun _ _ _ h => h) (Or.inl ⟨by kernel_rfl, fun W hW => by go_simp⟩) (by assumption) ?_
          try simp only [Act.put, List.getElem_toArray, List.getElem_cons_zero, List.getElem_cons_succ, List.setIfInBounds_toArray, List.set_cons_zero, List.set_cons_succ]
          refine wpAnyH_ready (rs := [1]) (by kernel_rfl) (by simp) ?_
          refine AllReadyH.cons rfl (fun K hK => ?_) AllReadyH.nil
          go_simp
          go_wp2_with (go_at_call 11; refine (law_refs c (.slice p1 c.length cap1) _ _ HO7.out.ents hcl Hcf.out).mono ?_; rintro e w8 ⟨vr8, rfl, hO8, hb8⟩; have HR8 := Lib.hid hO8.ents; have Hb8 := Lib.hid (hb7.trans (hb8.mono hb7.size)); clear hO8)
          refine hK.out _ _ ((hb8.cell (p := ⟨b, off + k * 3 + 1, none⟩) hlt7).trans hS) (fun _ => ?_)
          clear K hK
          try simp only [Act.put, List.getElem_toArray, List.getElem_cons_zero, List.getElem_cons_succ, List.setIfInBounds_toArray, List.set_cons_zero, List.set_cons_succ]
          refine wpAnyH_ready (rs := [7]) (by kernel_rfl) (by simp) ?_
          refine AllReadyH.cons rfl (fun K hK => ?_) AllReadyH.nil
          go_simp
          go_wp2_with (go_at_call 19; refine (ref15_has c vr8 x.key _ _ HR8.out).mono ?_; rw [Hh.out]; rintro e w9 ⟨rfl, hb9⟩; have Hb9 := Lib.hid (Hb8.out.trans (hb9.mono Hb8.out.size)))
          refine hK.out _ _ ((Hb9.out.cell (p := ⟨b, off + k * 3 + 1, none⟩) (Nat.lt_of_lt_of_le hbw hzr)).trans e1) (fun _ => ?_)
          clear K hK
          try simp only [Act.put, List.getElem_toArray, List.getElem_cons_zero, List.getElem_cons_succ, List.setIfInBounds_toArray, List.set_cons_zero, List.set_cons_succ]
          refine wpAnyH_done (by kernel_rfl) ?_ _
          clear hS hb7 hb8 hb9 hlt7
          have hW9 := HW.out.below Hb9.out
          have hbb := Hb.out.trans (Hb9.out.mono hzr)
          have hcat : (a.take (k + 1)).filter (fun x => !Ent.has c x.key) = (a.take k).filter (fun x => !Ent.has c x.key) := by
            rw [List.take_add_one, Hx.out, List.filter_append]; simp [Hh.out]
          have hcat2 : ((a.take (k + 1)).filter (fun x => Ent.has c x.key)).length = ks + 1 := by
            rw [List.take_add_one, Hx.out, List.filter_append, List.length_append, Hks.out]; simp [Hh.out]
          have HW9 := Lib.hid hW9; have Hbb := Lib.hid hbb; have Hcat := Lib.hid hcat; have Hcat2 := Lib.hid hcat2
          clear hW9 hbb hcat hcat2
          go_wp2_with fail
          go_roundw
          case rel =>
            refine ⟨k + 1, by omega, by go_num, ?_, by rw [Hcat2.out]; go_num, Hbb.out⟩
            rw [Hcat.out]; exact HW9.out
          case measure => simp [intOf]; omega
      · have hlt' : ¬ (k : Int) < (a.length : Int) := by omega
        have htk : a.take k = a := List.take_of_length_le (by omega)
        rw [htk] at HW hfl hfl2 ⊢
        have hlb := Hl1.out
        rw [← hlb] at HW
        obtain ⟨ks, hks⟩ : ∃ ks, (a.filter (fun x => Ent.has c x.key)).length = ks := ⟨_, rfl⟩
        have hmn : m1.length = n1.length + ks := by rw [← hks]; exact Hl2.out
        rw [hks] at hfl ⊢
        have HWe := Lib.hid HW.out.ents
        replace HM := Lib.hid (HM.out.below Hb.out)
        replace HB := Lib.hid (HB.out.trans (Hb.out.mono HB.out.size))
        have hge : (n1.length : Int) ≤ (m1.length : Int) := by omega
        clear HW htk hlb hks hlt hk hzr
        by_cases h0 : ks = 0
        · have hg : ¬ (0 : Int) < (ks : Int) := by omega
          have heq : ((m1.length : Int) == (n1.length : Int)) = true := by simp; omega
          clear hmn hfl h0
          go_wp2_with (first
            | (go_at_call 11; with_reducible refine (law_refs b0 vb _ _ HM.out hb0' Hbf.out).mono ?_; rintro e w10 ⟨vr, rfl, hO3, hb⟩; have HR := Lib.hid hO3.ents; replace HWe := Lib.hid (HWe.out.below hb); replace HB := Lib.hid (HB.out.trans (hb.mono HB.out.size)); clear hO3 hb)
            | (go_at_call 11; with_reducible refine (law_refs b0 u11 _ _ HWe.out hb0' Hbf.out).mono ?_; rintro e w11 ⟨vr2, rfl, hO3, hb⟩; have HR2 := Lib.hid hO3.ents; replace HR := Lib.hid (HR.out.below hb); replace HB := Lib.hid (HB.out.trans (hb.mono HB.out.size)); clear hO3 hb)
            | (go_at_call 18; refine (ref15_same b0 b0 vr vr2 _ _ _ HR.out HR2.out).mono ?_; rintro e w12 ⟨rfl, hb⟩; replace HB := Lib.hid (HB.out.trans (hb.mono HB.out.size)); rw [decide_eq_true (rfl : b0 = b0)]; clear hb)
            | (go_at_call 16; refine (law_fixed _).mono ?_; rintro e w13 ⟨rfl, hb⟩; replace HB := Lib.hid (HB.out.trans (hb.mono HB.out.size)); clear hb))
          go_ret
          exact ⟨rfl, HB.out⟩
        · have hg : (0 : Int) < (ks : Int) := by omega
          clear hmn hfl h0
          go_wp2_with (first
            | (go_at_call 11; with_reducible refine (law_refs b0 vb _ _ HM.out hb0' Hbf.out).mono ?_; rintro e w10 ⟨vr, rfl, hO3, hb⟩; have HR := Lib.hid hO3.ents; replace HWe := Lib.hid (HWe.out.below hb); replace HB := Lib.hid (HB.out.trans (hb.mono HB.out.size)); clear hO3 hb)
            | (go_at_call 11; with_reducible refine (law_refs b0 u11 _ _ HWe.out hb0' Hbf.out).mono ?_; rintro e w11 ⟨vr2, rfl, hO3, hb⟩; have HR2 := Lib.hid hO3.ents; replace HR := Lib.hid (HR.out.below hb); replace HB := Lib.hid (HB.out.trans (hb.mono HB.out.size)); clear hO3 hb)
            | (go_at_call 18; refine (ref15_same b0 b0 vr vr2 _ _ _ HR.out HR2.out).mono ?_; rintro e w12 ⟨rfl, hb⟩; replace HB := Lib.hid (HB.out.trans (hb.mono HB.out.size)); rw [decide_eq_true (rfl : b0 = b0)]; clear hb)
            | (go_at_call 16; refine (law_fixed _).mono ?_; rintro e w13 ⟨rfl, hb⟩; replace HB := Lib.hid (HB.out.trans (hb.mono HB.out.size)); clear hb))
          go_ret
          exact ⟨rfl, HB.out⟩
end Go.Proofs.YtddgdfcgjjdlcaaDoor.lawTwo
