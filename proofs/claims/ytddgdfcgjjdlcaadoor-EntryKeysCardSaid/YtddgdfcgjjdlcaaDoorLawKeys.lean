/- EntryKeys: the law's walk. -/
import Derived.Test.YtddgdfcgjjdlcaaDoorFixW
import Derived.Test.YtddgdfcgjjdlcaaDoorKeysP
namespace Go.Proofs.YtddgdfcgjjdlcaaDoor
open Go.RowKit
theorem kfield_info : (Tryd.prog.info? 48).map (fun i => (i.zero, i.size, i.bytes)) = some (some (.agg #[.string ⟨#[]⟩, .string ⟨#[]⟩]), 2, 32) := by kernel_rfl
theorem RepRow.set {α : Type} {R : α → List Value → Prop} {size : Nat} (hsz : ∀ x vs, R x vs → vs.length = size) : ∀ {xs : List α} {fl : List Value}, RepRow R xs fl → ∀ {i : Nat} {x : α} {vs fl' : List Value}, i < xs.length → R x vs →
    fl' = fl.take (i * size) ++ vs ++ fl.drop ((i + 1) * size) → RepRow R (xs.set i x) fl'
  | [], _, _, _, _, _, _, h, _, _ => by simp at h
  | y :: ys, fl, hr, 0, x, vs, fl', _, hx, he => by
    obtain ⟨us, rest, rfl, h1, h2⟩ := hr
    have hl := hsz _ _ h1
    refine ⟨vs, rest, ?_, hx, h2⟩
    rw [he, Nat.zero_mul, List.take_zero, List.nil_append, Nat.zero_add, Nat.one_mul, ← hl, List.drop_left]
  | y :: ys, fl, hr, i + 1, x, vs, fl', hi, hx, he => by
    obtain ⟨us, rest, rfl, h1, h2⟩ := hr
    have hl := hsz _ _ h1
    refine ⟨us, rest.take (i * size) ++ vs ++ rest.drop ((i + 1) * size), ?_, h1, RepRow.set hsz h2 (by simpa using hi) hx rfl⟩
    have e1 : (i + 1) * size = us.length + i * size := by rw [hl, Nat.succ_mul]; omega
    have e2 : (i + 1 + 1) * size = us.length + (i + 1) * size := by rw [hl, Nat.succ_mul (i + 1)]; omega
    have t1 : (us ++ rest).take (us.length + i * size) = us ++ rest.take (i * size) := by rw [List.take_append, Nat.add_sub_cancel_left, List.take_of_length_le (by omega)]
    have t2 : (us ++ rest).drop (us.length + (i + 1) * size) = rest.drop ((i + 1) * size) := by rw [← List.drop_drop, List.drop_left]
    have t3 : (us ++ rest).take ((i + 1) * size) = us ++ rest.take (i * size) := by rw [e1]; exact t1
    rw [he, e2, t2, t3, List.append_assoc, List.append_assoc, List.append_assoc]
theorem Outs.form {B : Nat} {t : TypeId} {W : World} {vo : Value} {l : List Ent.Ent} (h : Outs B t W vo l) : ∃ p cap, vo = .slice p l.length cap := by
  obtain ⟨fl, h1, _⟩ := h
  rcases h1.2 with ⟨h, h0⟩ | ⟨g, cap, cur, h, _⟩
  · exact ⟨none, 0, by rw [h, h0]⟩
  · exact ⟨_, _, h⟩
theorem SliceIn.at {α : Type} {S : Nat → Prop} {size : Nat} {R : α → List Value → Prop} {w : World} {p : Option Addr} {n cap : Nat} {xs : List α} (h : SliceIn S size R w (.slice p n cap) xs) {i : Nat} {x : α} (hx : xs[i]? = some x) :
    ∃ b off vs, p = some ⟨b, off, none⟩ ∧ S b ∧ b < w.heap.size ∧ R x vs ∧ ∀ j u, vs[j]? = some u → w.cell? ⟨b, off + (i * size + j), none⟩ = some u := by
  obtain ⟨q, c, hv, _, _, h3⟩ := h
  injection hv with hv _ _
  subst hv
  exact h3 i x hx
/-- one of the entries -/
theorem Outs.at {B : Nat} {t : TypeId} {W : World} {p : Option Addr} {n cap : Nat} {l : List Ent.Ent} (h : Outs B t W (.slice p n cap) l) {k : Nat} {x : Ent.Ent} (hx : l[k]? = some x) :
    ∃ b pf cf, p = some ⟨b, 0, none⟩ ∧ B ≤ b ∧ b < W.heap.size ∧ W.cell? ⟨b, k * 3, none⟩ = some (.string ⟨x.kind.toArray⟩) ∧ W.cell? ⟨b, k * 3 + 1, none⟩ = some (.string ⟨x.key.toArray⟩) ∧ W.cell? ⟨b, k * 3 + 2, none⟩ = some (.slice pf x.fields.length cf) ∧
      (∀ i, W.frozen? ⟨b, i, none⟩ = false) ∧ SliceIn (fun j => B ≤ j ∧ b ≠ j) 2 RFld W (.slice pf x.fields.length cf) x.fields := by
  obtain ⟨fl, h1, h2⟩ := h
  obtain ⟨vs, hR, hvs⟩ := h2.get REnt.size hx
  have hk := (List.getElem?_eq_some_iff.1 hx).1
  obtain ⟨vf, rfl, hF⟩ := hR
  rcases h1.2 with ⟨_, h0⟩ | ⟨g, c, cur, hv, hB, hg, hle, hm, hcs, htake⟩
  · omega
  · injection hv with hv hn hc
    subst hv; subst hc; subst hn
    have hcell : ∀ j u, [Value.string ⟨x.kind.toArray⟩, .string ⟨x.key.toArray⟩, vf][j]? = some u → W.cell? ⟨g, k * 3 + j, none⟩ = some u := fun j u hj => by
      have h4 := hvs j u hj
      have h5 := (List.getElem?_eq_some_iff.1 h4).1
      rw [h1.1] at h5
      rw [World.ownsRow.cellAt h1 _ h5]
      exact h4
    have hF1 := hF
    obtain ⟨pf, cf, rfl, _⟩ := hF
    refine ⟨g, pf, cf, rfl, hB, (h1.lt g rfl).2, hcell 0 _ rfl, hcell 1 _ rfl, hcell 2 _ rfl, fun i => World.ownsRow.frozenAt h1 i, ?_⟩
    exact hF1.kept (S' := fun j => B ≤ j ∧ g ≠ j) (fun j hj => ⟨hj.1, fun e => hj.2 (by rw [e]; rfl)⟩) (Nat.le_refl _) (fun _ _ _ => rfl) (fun _ _ _ h => h)
/-- one of the entries is written anew -/
theorem Outs.put {B : Nat} {t : TypeId} {W : World} {b n cap : Nat} {l : List Ent.Ent} (h : Outs B t W (.slice (some ⟨b, 0, none⟩) n cap) l) (hn : n = l.length) {k : Nat} (hk : k < l.length) (x : Ent.Ent) (vf : Value) (hx : SliceIn (fun j => B ≤ j ∧ b ≠ j) 2 RFld W vf x.fields) :
    Outs B t (((W.setCell ⟨b, k * 3, none⟩ (.string ⟨x.kind.toArray⟩)).setCell ⟨b, k * 3 + 1, none⟩ (.string ⟨x.key.toArray⟩)).setCell ⟨b, k * 3 + 2, none⟩ vf) (.slice (some ⟨b, 0, none⟩) n cap) (l.set k x) := by
  subst hn
  obtain ⟨fl, h1, h2⟩ := h
  have s1 := World.ownsRow.stored h1 (k * 3) (.string ⟨x.kind.toArray⟩)
  have s2 := World.ownsRow.stored s1.1 (k * 3 + 1) (.string ⟨x.key.toArray⟩)
  have s3 := World.ownsRow.stored s2.1 (k * 3 + 2) vf
  have hg := grown_trans (grown_trans s1.2 s2.2) s3.2
  have hsep : ∀ j, (B ≤ j ∧ (Value.slice (some ⟨b, 0, none⟩) l.length cap).ownBlock ≠ some j) → j < W.heap.size → (B ≤ j ∧ (Value.slice (some ⟨b, 0, none⟩) l.length cap).ownBlock ≠ some j) ∧ _ := fun j hj hlt => ⟨hj, hg.block j hlt (fun e => hj.2 e.symm)⟩
  refine ⟨_, by rw [List.length_set]; exact s3.1, RepRow.set (x := x) (vs := [.string ⟨x.kind.toArray⟩, .string ⟨x.key.toArray⟩, vf]) REnt.size (h2.imp (fun y us _ hy => REnt.moved hy hsep hg.size)) hk ⟨vf, rfl, ?_⟩ ?_⟩
  · exact hx.moved (fun j hj hlt => ⟨⟨hj.1, fun e => hj.2 (by injection e)⟩, hg.block j hlt (fun e => hj.2 (by injection e with e; exact e.symm))⟩) hg.size (fun _ _ _ h => h)
  · have hl := h1.1
    have hlt : k * 3 + 2 < fl.length := by omega
    apply List.ext_getElem?
    intro i
    have hl3 : (k + 1) * 3 = k * 3 + 3 := by omega
    rw [hl3]
    by_cases hi : i < k * 3
    · rw [List.getElem?_set_ne (by omega), List.getElem?_set_ne (by omega), List.getElem?_set_ne (by omega), List.append_assoc, List.getElem?_append_left (by rw [List.length_take]; omega), List.getElem?_take, if_pos hi]
    · rw [List.append_assoc, List.getElem?_append_right (by rw [List.length_take]; omega), List.length_take, show min (k * 3) fl.length = k * 3 by omega]
      by_cases hi2 : i < k * 3 + 3
      · rw [List.getElem?_append_left (by show i - k * 3 < 3; omega)]
        obtain rfl | rfl | rfl : i = k * 3 ∨ i = k * 3 + 1 ∨ i = k * 3 + 2 := by omega
        · rw [List.getElem?_set_ne (by omega), List.getElem?_set_ne (by omega), List.getElem?_set_self (by omega), Nat.sub_self]; rfl
        · rw [List.getElem?_set_ne (by omega), List.getElem?_set_self (by rw [List.length_set]; omega), Nat.add_sub_cancel_left]; rfl
        · rw [List.getElem?_set_self (by rw [List.length_set, List.length_set]; omega), Nat.add_sub_cancel_left]; rfl
      · rw [List.getElem?_set_ne (by omega), List.getElem?_set_ne (by omega), List.getElem?_set_ne (by omega), List.getElem?_append_right (by show 3 ≤ i - k * 3; omega), List.getElem?_drop]
        congr 1
        show i = k * 3 + 3 + (i - k * 3 - 3)
        omega
end Go.Proofs.YtddgdfcgjjdlcaaDoor
namespace Go.Proofs.YtddgdfcgjjdlcaaDoor.lawKeys
open Go.RowKit
set_option maxRecDepth 100000 in
set_option maxHeartbeats 3200000 in
theorem walk (s : List UInt8) (w : World) (hs : s.length ≤ maxLen) : Calls Tryd.prog 5 #[.string ⟨s.toArray⟩] w fun e w' => e = .returned (.bool true) ∧ Below w.heap.size w w' := by
  have hsm : s.length ≤ 9223372036854775807 := by unfold maxLen at hs; omega
  obtain ⟨q, hq⟩ : ∃ q : Nat, min (s.length : Int) 400 = (q : Int) := ⟨min s.length 400, by omega⟩
  have hq1 : (q : Int) ≤ (s.length : Int) := by omega
  have hq2 : q ≤ 400 := by omega
  have hex : (⟨s.toArray⟩ : ByteArray).extract 0 q = ⟨(s.take q).toArray⟩ := by rw [extract_any]; simp
  obtain ⟨hgood, hgs⟩ := Ent.parse_good (s.take q)
  obtain ⟨o, ho⟩ : ∃ o, Ent.parse (s.take q) = o := ⟨_, rfl⟩
  rw [ho] at hgood hgs
  have Hgood := Lib.hid hgood; have Hgs := Lib.hid hgs; have Ho := Lib.hid ho; clear hgood hgs ho
  have hslen : (s.take q).length ≤ 400 := by rw [List.length_take]; omega
  have hol := Ent.parse_short (s.take q)
  rw [Ho.out] at hol
  have Hol := Lib.hid hol; clear hol
  go_enter Tryd.func5, Tryd.ntmps5
  go_upto_region 4 with (go_at_call 17; refine (entry_parse_own _ _ (by omega)).mono ?_; rw [Ho.out]; rintro e w1 ⟨vo, vn, B, rfl, hB, hO, _, hb⟩; have HO := Lib.hid hO; have Hb := Lib.hid hb; obtain ⟨p, cap, rfl⟩ := Outs.form hO; clear hO hb)
  clear hq hex hq1 hsm
  obtain ⟨l, hl⟩ : ∃ l, o.1 = l := ⟨_, rfl⟩
  rw [hl] at HO Hgood Hgs Hol
  rw [hl]
  clear hl Ho
  have hl4 : l.length ≤ 1000000 := by have := Hol.out.1; omega
  go_loopw [5] (fun i wr => ∃ k : Nat, k ≤ l.length ∧ i = .int .i64 (k : Int) ∧ Outs B 36 wr (.slice p l.length cap) ((l.take k).map Ent.strip ++ l.drop k) ∧ Below w.heap.size w wr) (fun i _ => l.length - (intOf i).toNat)
  case atStart => exact ⟨0, Nat.zero_le _, rfl, HO.out, Hb.out⟩
  case round =>
    clear HO Hb
    obtain ⟨k, hk, rfl, hO, hb⟩ := hrel
    have HO := Lib.hid hO; have Hb := Lib.hid hb
    by_cases hlt : k < l.length
    · obtain ⟨x, hx⟩ : ∃ x, l[k]? = some x := ⟨_, List.getElem?_eq_getElem hlt⟩
      have hcur : ((l.take k).map Ent.strip ++ l.drop k)[k]? = some x := by
        rw [List.getElem?_append_right (by rw [List.length_map, List.length_take]; omega), List.length_map, List.length_take, show min k l.length = k by omega, Nat.sub_self, List.getElem?_drop]
        exact hx
      obtain ⟨b, pf, cf, rfl, hBb, hbw, e0, e1, e2, hfz, hF⟩ := hO.at hcur
      have hset : ((l.take k).map Ent.strip ++ l.drop k).set k (Ent.strip x) = (l.take (k + 1)).map Ent.strip ++ l.drop (k + 1) := by
        obtain ⟨hk', e⟩ := List.getElem?_eq_some_iff.1 hx
        rw [List.set_append_right _ _ (by rw [List.length_map, List.length_take]; omega), List.length_map, List.length_take, show min k l.length = k by omega, Nat.sub_self, List.take_add_one, hx, List.drop_eq_getElem_cons hk', e]
        simp
      have hlt' : (k : Int) < (l.length : Int) := by omega
      have hkl : (k : Int) + 1 ≤ 9223372036854775807 := by omega
      have htx : ∀ f ∈ x.fields, f.text.length ≤ 1000 := (Hgs.out x (List.mem_of_getElem? hx)).texts
      have hxf : x.fields.length ≤ 1000000 := by have := (Hol.out.2 x (List.mem_of_getElem? hx)).1; omega
      have HF := Lib.hid hF; have Hfz := Lib.hid hfz; have Htx := Lib.hid htx; have Hset := Lib.hid hset
      have f0 := hfz (k * 3); have f1 := hfz (k * 3 + 1); have f2 := hfz (k * 3 + 2)
      have F0 := Lib.hid f0; have F1 := Lib.hid f1; have F2 := Lib.hid f2
      clear hO hb hx hcur hF hfz htx hset f0 f1 f2
      go_wp2_with fail
      go_region_held3 (fun W => W.cell? ⟨b, k * 3, none⟩ = some (.string ⟨x.kind.toArray⟩) ∧ W.cell? ⟨b, k * 3 + 1, none⟩ = some (.string ⟨x.key.toArray⟩))
        (first | exact hS | go_keep)
        ((fail))
      have HC := Lib.hid ((Cop.new wr 36 48 x.kind x.key).below (Below.refl _ _).drew)
      have HB1 := Lib.hid ((below_new wr (.cells #[.string ⟨x.kind.toArray⟩, .string ⟨x.key.toArray⟩, .slice none 0 0] 36)).drew)
      generalize (wr.alloc (.cells #[.string ⟨x.kind.toArray⟩, .string ⟨x.key.toArray⟩, .slice none 0 0] 36)).drew = w1 at HC HB1 ⊢
      obtain ⟨wo, hwo⟩ : ∃ wo, wo = wr := ⟨_, rfl⟩
      subst hwo
      have E2 := Lib.hid e2; have E0 := Lib.hid e0; have E1 := Lib.hid e1
      clear e0 e1 e2
      go_wp2_with fail
      go_loopw [7] (fun jv wr => ∃ (j : Nat) (vf : Value), j ≤ x.fields.length ∧ jv = .int .i64 (j : Int) ∧ Cop wo.heap.size 48 x.kind x.key ((x.fields.take j).map Ent.stripF) vf wr ∧ Below wo.heap.size wo wr) (fun jv _ => x.fields.length - (intOf jv).toNat)
      case atStart => exact ⟨0, _, Nat.zero_le _, rfl, HC.out, HB1.out⟩
      case round =>
        clear HC HB1
        obtain ⟨j, vf, hj, rfl, hC, hbj⟩ := hrel
        have HC := Lib.hid hC; have Hbj := Lib.hid hbj
        have hbx := Hb.out.trans (hbj.mono Hb.out.size)
        have Hbx := Lib.hid hbx
        have e2 := (hbj.cell (p := ⟨b, k * 3 + 2, none⟩) hbw).trans E2.out
        have c2 := hC.cv
        have c2f := hC.free
        clear hC hbj hbx
        by_cases hjl : j < x.fields.length
        · obtain ⟨f1, hf1⟩ : ∃ f1, x.fields[j]? = some f1 := ⟨_, List.getElem?_eq_getElem hjl⟩
          obtain ⟨b3, off3, vs3, rfl, hb3s, hbw3, hR3, hc3⟩ := HF.out.at hf1
          have hR3 : vs3 = _ := hR3
          subst hR3
          have A1 := Lib.hid (hc3 1 _ rfl)
          have a0 : wr.cell? ⟨b3, off3 + j * 2, none⟩ = some (.string ⟨f1.name.toArray⟩) := (Hbj.out.cell (p := ⟨b3, off3 + j * 2, none⟩) hbw3).trans (hc3 0 _ rfl)
          have a1 : wr.cell? ⟨b3, off3 + j * 2 + 1, none⟩ = some (.string ⟨f1.text.toArray⟩) := (Hbj.out.cell (p := ⟨b3, off3 + j * 2 + 1, none⟩) hbw3).trans (hc3 1 _ rfl)
          have hj1 : (j : Int) < (x.fields.length : Int) := by omega
          have hjk : (j : Int) + 1 ≤ 9223372036854775807 := by omega
          have htk : (x.fields.take (j + 1)).map Ent.stripF = (x.fields.take j).map Ent.stripF ++ [Ent.stripF f1] := by rw [List.take_add_one, hf1]; simp
          have htx1 : ¬ (1000 : Int) < (f1.text.length : Int) := by have := Htx.out f1 (List.mem_of_getElem? hf1); omega
          have Htk := Lib.hid htk
          clear hc3 hf1 htk
          go_upto_region 10 with fail
          obtain ⟨fl, hown, hrep⟩ := HC.out.row
          obtain ⟨i0, hi, hz0, hz1, hz2⟩ := info_parts kfield_info
          have htl : ((x.fields.take j).map Ent.stripF).length = j := by rw [List.length_map, List.length_take]; omega
          rw [htl] at hown
          have hbo : b < wo.heap.size := hbw
          have hbo3 : b3 < wo.heap.size := hbw3
          have hgx : wo.heap.size < wr.heap.size := HC.out.lt
          have Hown := Lib.hid hown; have Hrep := Lib.hid hrep; have Hi := Lib.hid hi; have Hz0 := Lib.hid hz0; have Hz1 := Lib.hid hz1; have Hz2 := Lib.hid hz2
          clear hown hrep hi hz0 hz1 hz2
          refine wp_region_any (by kernel_rfl) ?_
          change wpAny _ _ _ _ _ _ _ (World.drew _)
          have hS : (fun W : World => W.cell? ⟨b, k * 3 + 2, none⟩ = some (.slice (some ⟨b3, off3, none⟩) x.fields.length cf) ∧ W.cell? ⟨b3, off3 + j * 2, none⟩ = some (.string ⟨f1.name.toArray⟩)) wr.drew := ⟨e2, a0⟩
          dsimp only at hS
          have hb7 : Below wr.heap.size wr wr.drew := (Below.refl _ _).drew
          have Hown7 := Lib.hid (own_below Hown.out hb7); have HC7 := Lib.hid (HC.out.below hb7); have Hb7 := Lib.hid (Hbj.out.drew)
          have c7 : wr.drew.cell? ⟨wo.heap.size, 2, none⟩ = some vf := c2
          have hgx7 : wo.heap.size < wr.drew.heap.size := hgx
          have hlt1 : b < wr.drew.heap.size := Nat.lt_trans hbo hgx7
          have hlt3 : b3 < wr.drew.heap.size := Nat.lt_trans hbo3 hgx7
          generalize wr.drew = w7 at hS Hown7 HC7 Hb7 c7 hgx7 hlt1 hlt3 ⊢
          clear hb7 Hown HC e2 a1
          refine wpAny_of_held (S := fun W => W.cell? ⟨b, k * 3 + 2, none⟩ = some (.slice (some ⟨b3, off3, none⟩) x.fields.length cf) ∧ W.cell? ⟨b3, off3 + j * 2, none⟩ = some (.string ⟨f1.name.toArray⟩)) _ _ _ _ ?_
          refine wpAnyH_take (i := 0) (v := .pointer (some ⟨wo.heap.size, 2, none⟩)) rfl (by kernel_rfl) (by kernel_rfl) (by kernel_rfl) (fun _ _ _ h => h) (Or.inl ⟨by kernel_rfl, fun W hW => by go_simp⟩) (by assumption) ?_
          try simp only [Act.put, List.getElem_toArray, List.getElem_cons_zero, List.getElem_cons_succ, List.setIfInBounds_toArray, List.set_cons_zero, List.set_cons_succ]
          refine wpAnyH_take (i := 2) (v := .slice (some ⟨b, 0, none⟩) l.length cap) rfl (by kernel_rfl) (by kernel_rfl) (by kernel_rfl) (fun _ _ _ h => h) (Or.inl ⟨by kernel_rfl, fun W hW => by kernel_rfl⟩) (by assumption) ?_
          try simp only [Act.put, List.getElem_toArray, List.getElem_cons_zero, List.getElem_cons_succ, List.setIfInBounds_toArray, List.set_cons_zero, List.set_cons_succ]
          refine wpAnyH_take (i := 3) (v := .int .i64 (k : Int)) rfl (by kernel_rfl) (by kernel_rfl) (by kernel_rfl) (fun _ _ _ h => h) (Or.inl ⟨by kernel_rfl, fun W hW => by kernel_rfl⟩) (by assumption) ?_
          try simp only [Act.put, List.getElem_toArray, List.getElem_cons_zero, List.getElem_cons_succ, List.setIfInBounds_toArray, List.set_cons_zero, List.set_cons_succ]
          refine wpAnyH_take (i := 4) (v := .pointer (some ⟨b, k * 3, none⟩)) rfl (by kernel_rfl) (by kernel_rfl) (by kernel_rfl) (fun _ _ _ h => h) (Or.inl ⟨by kernel_rfl, fun W hW => by go_simp⟩) (by assumption) ?_
          try simp only [Act.put, List.getElem_toArray, List.getElem_cons_zero, List.getElem_cons_succ, List.setIfInBounds_toArray, List.set_cons_zero, List.set_cons_succ]
          refine wpAnyH_take (i := 5) (v := .pointer (some ⟨b, k * 3 + 2, none⟩)) rfl (by kernel_rfl) (by kernel_rfl) (by kernel_rfl) (fun _ _ _ h => h) (Or.inl ⟨by kernel_rfl, fun W hW => by go_simp⟩) (by assumption) ?_
          try simp only [Act.put, List.getElem_toArray, List.getElem_cons_zero, List.getElem_cons_succ, List.setIfInBounds_toArray, List.set_cons_zero, List.set_cons_succ]
          refine wpAnyH_take (i := 6) (v := .slice (some ⟨b3, off3, none⟩) x.fields.length cf) rfl (by kernel_rfl) (by kernel_rfl) (by kernel_rfl) (fun _ _ _ h => h) (Or.inl ⟨by kernel_rfl, fun W hW => by obtain ⟨hW0, hW1⟩ := hW; go_simp⟩) (by assumption) ?_
          try simp only [Act.put, List.getElem_toArray, List.getElem_cons_zero, List.getElem_cons_succ, List.setIfInBounds_toArray, List.set_cons_zero, List.set_cons_succ]
          refine wpAnyH_take (i := 7) (v := .int .i64 (j : Int)) rfl (by kernel_rfl) (by kernel_rfl) (by kernel_rfl) (fun _ _ _ h => h) (Or.inl ⟨by kernel_rfl, fun W hW => by kernel_rfl⟩) (by assumption) ?_
          try simp only [Act.put, List.getElem_toArray, List.getElem_cons_zero, List.getElem_cons_succ, List.setIfInBounds_toArray, List.set_cons_zero, List.set_cons_succ]
          refine wpAnyH_take (i := 8) (v := .pointer (some ⟨b3, off3 + j * 2, none⟩)) rfl (by kernel_rfl) (by kernel_rfl) (by kernel_rfl) (fun _ _ _ h => h) (Or.inl ⟨by kernel_rfl, fun W hW => by go_simp⟩) (by assumption) ?_
          try simp only [Act.put, List.getElem_toArray, List.getElem_cons_zero, List.getElem_cons_succ, List.setIfInBounds_toArray, List.set_cons_zero, List.set_cons_succ]
          refine wpAnyH_take (i := 9) (v := .pointer (some ⟨b3, off3 + j * 2, none⟩)) rfl (by kernel_rfl) (by kernel_rfl) (by kernel_rfl) (fun _ _ _ h => h) (Or.inl ⟨by kernel_rfl, fun W hW => by go_simp⟩) (by assumption) ?_
          try simp only [Act.put, List.getElem_toArray, List.getElem_cons_zero, List.getElem_cons_succ, List.setIfInBounds_toArray, List.set_cons_zero, List.set_cons_succ]
          refine wpAnyH_take (i := 10) (v := .string ⟨f1.name.toArray⟩) rfl (by kernel_rfl) (by kernel_rfl) (by kernel_rfl) (fun _ _ _ h => h) (Or.inl ⟨by kernel_rfl, fun W hW => by obtain ⟨hW0, hW1⟩ := hW; go_simp⟩) (by assumption) ?_
          try simp only [Act.put, List.getElem_toArray, List.getElem_cons_zero, List.getElem_cons_succ, List.setIfInBounds_toArray, List.set_cons_zero, List.set_cons_succ]
          refine wpAnyH_take (i := 11) (v := .agg #[.string ⟨f1.name.toArray⟩, .string ⟨#[]⟩]) rfl (by kernel_rfl) (by kernel_rfl) (by kernel_rfl) (fun _ _ _ h => h) (Or.inl ⟨by kernel_rfl, fun W hW => by kernel_rfl⟩) (by assumption) ?_
          try simp only [Act.put, List.getElem_toArray, List.getElem_cons_zero, List.getElem_cons_succ, List.setIfInBounds_toArray, List.set_cons_zero, List.set_cons_succ]
          have Hown8 := Hown7; have HC8 := HC7; have Hb8 := Hb7
          have hbase8 : wo.heap.size + 1 ≤ w7.heap.size := hgx7
          have hb9 := below_new w7 (.cells #[.string ⟨f1.name.toArray⟩, .string ⟨#[]⟩] 48)
          have hS9 := And.intro ((hb9.cell (p := ⟨b, k * 3 + 2, none⟩) hlt1).trans hS.1) ((hb9.cell (p := ⟨b3, off3 + j * 2, none⟩) hlt3).trans hS.2)
          have c9 := (hb9.cell (p := ⟨wo.heap.size, 2, none⟩) hgx7).trans c7
          refine wpAnyH_ready (rs := [1, 12]) (by kernel_rfl) (by simp) ?_
          refine AllReadyH.cons rfl (fun K hK => ?_) (AllReadyH.cons rfl (fun K hK => ?_) AllReadyH.nil)
          · go_simp
            refine hK.out _ _ hS (fun _ => ?_)
            clear K hK
            try simp only [Act.put, List.getElem_toArray, List.getElem_cons_zero, List.getElem_cons_succ, List.setIfInBounds_toArray, List.set_cons_zero, List.set_cons_succ]
            refine wpAnyH_ready (rs := [12]) (by kernel_rfl) (by simp) ?_
            refine AllReadyH.cons rfl (fun K hK => ?_) AllReadyH.nil
            go_simp
            refine hK.out _ _ hS9 (fun _ => ?_)
            clear K hK
            try simp only [Act.put, List.getElem_toArray, List.getElem_cons_zero, List.getElem_cons_succ, List.setIfInBounds_toArray, List.set_cons_zero, List.set_cons_succ]
            refine wpAnyH_ready (rs := [13]) (by kernel_rfl) (by simp) ?_
            refine AllReadyH.cons rfl (fun K hK => ?_) AllReadyH.nil
            rw [if_pos (by kernel_rfl)]
            refine wp_append1 (.tmp 46) (.tmp 57) 34 rfl (wo.heap.size + 1) 48 i0 (.agg #[.string ⟨#[]⟩, .string ⟨#[]⟩]) 2 32 Tryd.underlying34 Hi.out Hz0.out Hz1.out Hz2.out (by rfl) (by decide) vf j fl Hown8.out rfl [.string ⟨f1.name.toArray⟩, .string ⟨#[]⟩] rfl rfl rfl (by simp [Value.oneCell']) (by unfold maxLen; omega) (by omega) hbase8 ?_
            intro v2 w2 own2 g2 at2
            obtain ⟨p2, cap2, rfl, hp2, hq2⟩ := own2.form (Nat.succ_pos _)
            have hC2 := HC8.out.more (f := Ent.stripF f1) Hrep.out (by rw [htl]; exact own2) g2
            rw [← Htk.out] at hC2
            have hne2 : ∀ q : Nat, q < wo.heap.size → vf.ownBlock ≠ some q := fun q hq e => by have := (Hown8.out.lt q e).1; omega
            have hS2 := And.intro ((grown_cell g2 hlt1 (hne2 b hbo) (k * 3 + 2)).trans hS.1) ((grown_cell g2 hlt3 (hne2 b3 hbo3) (off3 + j * 2)).trans hS.2)
            have c2' := (grown_cell g2 HC8.out.lt (fun e => by have := (Hown8.out.lt _ e).1; omega) 2).trans HC8.out.cv
            have c2f' := (grown_frozen g2 HC8.out.lt (fun e => by have := (Hown8.out.lt _ e).1; omega) 2).trans HC8.out.free
            have hb2 : Below wo.heap.size wo w2 := Hb8.out.grown g2 (by have := Hb8.out.size; omega) (fun q e => by have := (Hown8.out.lt q e).1; omega)
            refine hK.out _ _ hS2 (fun _ => ?_)
            clear K hK
            try simp only [Act.put, List.getElem_toArray, List.getElem_cons_zero, List.getElem_cons_succ, List.setIfInBounds_toArray, List.set_cons_zero, List.set_cons_succ]
            refine wpAnyH_take (i := 14) (v := .pointer (some ⟨wo.heap.size, 2, none⟩)) rfl (by kernel_rfl) (by kernel_rfl) (by kernel_rfl) (fun _ _ _ h => h) (Or.inl ⟨by kernel_rfl, fun W hW => by go_simp⟩) (by assumption) ?_
            try simp only [Act.put, List.getElem_toArray, List.getElem_cons_zero, List.getElem_cons_succ, List.setIfInBounds_toArray, List.set_cons_zero, List.set_cons_succ]
            refine wpAnyH_ready (rs := [15]) (by kernel_rfl) (by simp) ?_
            refine AllReadyH.cons rfl (fun K hK => ?_) AllReadyH.nil
            go_simp
            refine hK.out _ _ ⟨(World.cell?_setCell_other _ _ _ _ (fun e => by injection e with e; omega)).trans hS2.1, (World.cell?_setCell_other _ _ _ _ (fun e => by injection e with e; omega)).trans hS2.2⟩ (fun _ => ?_)
            clear K hK
            try simp only [Act.put, List.getElem_toArray, List.getElem_cons_zero, List.getElem_cons_succ, List.setIfInBounds_toArray, List.set_cons_zero, List.set_cons_succ]
            refine wpAnyH_done (by kernel_rfl) ?_ _
            have HC2 := Lib.hid hC2; have Hb2 := Lib.hid (hb2.setCell (p := ⟨wo.heap.size, 2, none⟩) (Nat.le_refl _) (.slice (some ⟨p2, 0, none⟩) (j + 1) cap2))
            have hbx2 : Below wo.heap.size wo _ := Hb2.out
            generalize w2.setCell ⟨wo.heap.size, 2, none⟩ (.slice (some ⟨p2, 0, none⟩) (j + 1) cap2) = w9 at HC2 Hb2 hbx2 ⊢
            have e2 := (hbx2.cell (p := ⟨b, k * 3 + 2, none⟩) hbo).trans E2.out
            have a1 := (hbx2.cell (p := ⟨b3, off3 + j * 2 + 1, none⟩) hbo3).trans A1.out
            clear hC2 hb2 hS2 hS c2 c2f c2' c2f' a0 own2 g2 at2 hne2 hbx2 hlt1 hlt3 hbo hbo3
            go_wp2_with fail
            go_roundw
            case rel => exact ⟨j + 1, _, by omega, by go_num, HC2.out, Hb2.out⟩
            case measure => simp [intOf]; omega
          · go_simp
            refine hK.out _ _ hS9 (fun _ => ?_)
            clear K hK
            try simp only [Act.put, List.getElem_toArray, List.getElem_cons_zero, List.getElem_cons_succ, List.setIfInBounds_toArray, List.set_cons_zero, List.set_cons_succ]
            refine wpAnyH_ready (rs := [1]) (by kernel_rfl) (by simp) ?_
            refine AllReadyH.cons rfl (fun K hK => ?_) AllReadyH.nil
            go_simp
            refine hK.out _ _ hS9 (fun _ => ?_)
            clear K hK
            try simp only [Act.put, List.getElem_toArray, List.getElem_cons_zero, List.getElem_cons_succ, List.setIfInBounds_toArray, List.set_cons_zero, List.set_cons_succ]
            refine wpAnyH_ready (rs := [13]) (by kernel_rfl) (by simp) ?_
            refine AllReadyH.cons rfl (fun K hK => ?_) AllReadyH.nil
            rw [if_pos (by kernel_rfl)]
            refine wp_append1 (.tmp 46) (.tmp 57) 34 rfl (wo.heap.size + 1) 48 i0 (.agg #[.string ⟨#[]⟩, .string ⟨#[]⟩]) 2 32 Tryd.underlying34 Hi.out Hz0.out Hz1.out Hz2.out (by rfl) (by decide) vf j fl Hown8.out rfl [.string ⟨f1.name.toArray⟩, .string ⟨#[]⟩] rfl rfl rfl (by simp [Value.oneCell']) (by unfold maxLen; omega) (by omega) hbase8 ?_
            intro v2 w2 own2 g2 at2
            obtain ⟨p2, cap2, rfl, hp2, hq2⟩ := own2.form (Nat.succ_pos _)
            have hC2 := HC8.out.more (f := Ent.stripF f1) Hrep.out (by rw [htl]; exact own2) g2
            rw [← Htk.out] at hC2
            have hne2 : ∀ q : Nat, q < wo.heap.size → vf.ownBlock ≠ some q := fun q hq e => by have := (Hown8.out.lt q e).1; omega
            have hS2 := And.intro ((grown_cell g2 hlt1 (hne2 b hbo) (k * 3 + 2)).trans hS.1) ((grown_cell g2 hlt3 (hne2 b3 hbo3) (off3 + j * 2)).trans hS.2)
            have c2' := (grown_cell g2 HC8.out.lt (fun e => by have := (Hown8.out.lt _ e).1; omega) 2).trans HC8.out.cv
            have c2f' := (grown_frozen g2 HC8.out.lt (fun e => by have := (Hown8.out.lt _ e).1; omega) 2).trans HC8.out.free
            have hb2 : Below wo.heap.size wo w2 := Hb8.out.grown g2 (by have := Hb8.out.size; omega) (fun q e => by have := (Hown8.out.lt q e).1; omega)
            refine hK.out _ _ hS2 (fun _ => ?_)
            clear K hK
            try simp only [Act.put, List.getElem_toArray, List.getElem_cons_zero, List.getElem_cons_succ, List.setIfInBounds_toArray, List.set_cons_zero, List.set_cons_succ]
            refine wpAnyH_take (i := 14) (v := .pointer (some ⟨wo.heap.size, 2, none⟩)) rfl (by kernel_rfl) (by kernel_rfl) (by kernel_rfl) (fun _ _ _ h => h) (Or.inl ⟨by kernel_rfl, fun W hW => by go_simp⟩) (by assumption) ?_
            try simp only [Act.put, List.getElem_toArray, List.getElem_cons_zero, List.getElem_cons_succ, List.setIfInBounds_toArray, List.set_cons_zero, List.set_cons_succ]
            refine wpAnyH_ready (rs := [15]) (by kernel_rfl) (by simp) ?_
            refine AllReadyH.cons rfl (fun K hK => ?_) AllReadyH.nil
            go_simp
            refine hK.out _ _ ⟨(World.cell?_setCell_other _ _ _ _ (fun e => by injection e with e; omega)).trans hS2.1, (World.cell?_setCell_other _ _ _ _ (fun e => by injection e with e; omega)).trans hS2.2⟩ (fun _ => ?_)
            clear K hK
            try simp only [Act.put, List.getElem_toArray, List.getElem_cons_zero, List.getElem_cons_succ, List.setIfInBounds_toArray, List.set_cons_zero, List.set_cons_succ]
            refine wpAnyH_done (by kernel_rfl) ?_ _
            have HC2 := Lib.hid hC2; have Hb2 := Lib.hid (hb2.setCell (p := ⟨wo.heap.size, 2, none⟩) (Nat.le_refl _) (.slice (some ⟨p2, 0, none⟩) (j + 1) cap2))
            have hbx2 : Below wo.heap.size wo _ := Hb2.out
            generalize w2.setCell ⟨wo.heap.size, 2, none⟩ (.slice (some ⟨p2, 0, none⟩) (j + 1) cap2) = w9 at HC2 Hb2 hbx2 ⊢
            have e2 := (hbx2.cell (p := ⟨b, k * 3 + 2, none⟩) hbo).trans E2.out
            have a1 := (hbx2.cell (p := ⟨b3, off3 + j * 2 + 1, none⟩) hbo3).trans A1.out
            clear hC2 hb2 hS2 hS c2 c2f c2' c2f' a0 own2 g2 at2 hne2 hbx2 hlt1 hlt3 hbo hbo3
            go_wp2_with fail
            go_roundw
            case rel => exact ⟨j + 1, _, by omega, by go_num, HC2.out, Hb2.out⟩
            case measure => simp [intOf]; omega
        · have htk : x.fields.take j = x.fields := List.take_of_length_le (by omega)
          rw [htk] at HC
          have hj1 : ¬ (j : Int) < (x.fields.length : Int) := by omega
          obtain ⟨pv, nv, cv, rfl⟩ := HC.out.form
          obtain ⟨flf, hrow, hrf⟩ := HC.out.row
          have hsl : SliceIn (fun q => B ≤ q ∧ b ≠ q) 2 RFld wr (.slice pv nv cv) (Ent.strip x).fields :=
            SliceIn.own hrow hrf RFld.size rfl (fun q hq => ⟨by have := (hrow.lt q hq).1; omega, fun e => by have := (hrow.lt q hq).1; omega⟩)
          have hO2 := HO.out.below Hbj.out
          have hput := hO2.put (k := k) (by simp; omega) (by simp; omega) (Ent.strip x) _ hsl
          rw [Hset.out] at hput
          have c0 := HC.out.ck; have c1 := HC.out.cy
          have e0 := (Hbj.out.cell (p := ⟨b, k * 3, none⟩) hbw).trans E0.out
          have e1 := (Hbj.out.cell (p := ⟨b, k * 3 + 1, none⟩) hbw).trans E1.out
          have f0 := (Hbj.out.frozen (p := ⟨b, k * 3, none⟩) hbw).trans F0.out
          have f1 := (Hbj.out.frozen (p := ⟨b, k * 3 + 1, none⟩) hbw).trans F1.out
          have f2 := (Hbj.out.frozen (p := ⟨b, k * 3 + 2, none⟩) hbw).trans F2.out
          have Hput := Lib.hid hput
          clear hput hO2 hsl hrow hrf htk
          go_wp2_with fail
          go_roundw
          case rel =>
            refine ⟨k + 1, by omega, by go_num, Hput.out, ?_⟩
            exact ((Hbx.out.setCell (Nat.le_trans hB hBb) _).setCell (Nat.le_trans hB hBb) _).setCell (Nat.le_trans hB hBb) _
          case measure => simp [intOf]; omega
    · have hO' := hO
      rw [List.take_of_length_le (by omega), List.drop_of_length_le (by omega), List.append_nil] at hO'
      have HO1 := Lib.hid hO'
      have hlt' : ¬ (k : Int) < (l.length : Int) := by omega
      have hok : ∀ x ∈ l.map Ent.strip, EntOk x := by
        intro x hx
        obtain ⟨y, hy, rfl⟩ := List.mem_map.1 hx
        have h2 := Hol.out.2 y hy
        refine ⟨by have := h2.2.1; show y.kind.length ≤ _; omega, by have := h2.2.2.1; show y.key.length ≤ _; omega, fun f hf => ?_⟩
        obtain ⟨g, hg, rfl⟩ := List.mem_map.1 hf
        refine ⟨by have := h2.2.2.2 g hg; show g.name.length ≤ _; omega, by show ([] : List UInt8).length ≤ _; simp, textok_ascii [] (by simp) rfl⟩
      have Hok := Lib.hid hok
      clear hO hb hO' hok
      go_wp2_with (first
        | (go_at_call 12; refine (entry_right (l.map Ent.strip) (.slice p l.length cap) _ _ HO1.out.ents Hok.out (by rw [List.length_map]; omega)).mono ?_; rw [Hgood.out]; rintro e w2 ⟨rfl, hb2⟩; replace Hb := Lib.hid (Hb.out.trans (hb2.mono Hb.out.size)); clear hb2)
        | (go_at_call 16; refine (law_fixed _).mono ?_; rintro e w3 ⟨rfl, hb2⟩; replace Hb := Lib.hid (Hb.out.trans (hb2.mono Hb.out.size)); clear hb2))
      go_ret
      exact ⟨rfl, Hb.out⟩
end Go.Proofs.YtddgdfcgjjdlcaaDoor.lawKeys
