/- LabelOrder: the law's walk: for every list of entries the call returns true. -/
import Derived.Test.YtanbcokkfbidbaaGreatDoorLbWe
import Derived.Test.YtanbcokkfbidbaaGreatDoorLbWf
import Derived.Test.YtanbcokkfbidbaaGreatDoorHasW
set_option linter.unusedSimpArgs false
set_option linter.unusedVariables false
namespace Go.Proofs.YtanbcokkfbidbaaGreatDoor
open Go.RowKit
/-- is a key there twice, among the entries from place j on? -/
def twiceB (l : List Ent.Ent) : Nat → Nat → Bool
  | 0, _ => false
  | n + 1, j => (if j ≤ n then (match l[n]? with | some x => Ent.has (l.take n) x.key | none => false) else false) || twiceB l n j
theorem twiceB_step (l : List Ent.Ent) (x : Ent.Ent) (j : Nat) (hx : l[j]? = some x) : ∀ n, j < n → twiceB l n j = (Ent.has (l.take j) x.key || twiceB l n (j + 1))
  | 0, h => by omega
  | n + 1, h => by
    unfold twiceB
    by_cases hj : j = n
    · subst hj
      rw [if_pos (Nat.le_refl _), hx, if_neg (by omega)]
      have h0 : ∀ m, m ≤ j → twiceB l m j = false ∧ twiceB l m (j + 1) = false := fun m => by
        induction m with
        | zero => intro _; exact ⟨rfl, rfl⟩
        | succ m ih =>
          intro hm
          unfold twiceB
          rw [if_neg (by omega), if_neg (by omega), (ih (by omega)).1, (ih (by omega)).2]
          exact ⟨rfl, rfl⟩
      rw [(h0 j (Nat.le_refl _)).1, (h0 j (Nat.le_refl _)).2]
      simp
    · rw [twiceB_step l x j hx n (by omega), if_pos (by omega), if_pos (by omega)]
      cases Ent.has (l.take j) x.key <;> simp
theorem twiceB_end (l : List Ent.Ent) : ∀ n j, n ≤ j → twiceB l n j = false
  | 0, _, _ => rfl
  | n + 1, j, h => by unfold twiceB; rw [if_neg (by omega), twiceB_end l n j (by omega)]; rfl
theorem twice_nodup (l : List Ent.Ent) : ∀ n, n ≤ l.length → twiceB l n 0 = false → ((l.take n).map (·.key)).Nodup
  | 0, _, _ => by simp
  | n + 1, hn, h => by
    unfold twiceB at h
    rw [if_pos (Nat.zero_le _)] at h
    obtain ⟨x, hx⟩ : ∃ x, l[n]? = some x := ⟨_, List.getElem?_eq_getElem (by omega)⟩
    rw [hx] at h
    simp only [Bool.or_eq_false_iff] at h
    rw [List.take_add_one, hx, List.map_append, List.nodup_append]
    refine ⟨twice_nodup l n (by omega) h.2, by simp, fun a ha b hb e => ?_⟩
    simp at hb
    obtain ⟨y, hy, rfl⟩ := List.mem_map.1 ha
    have := h.1
    unfold Ent.has at this
    rw [List.any_eq_false] at this
    exact this y hy (by rw [e, hb]; simp)
theorem cntE_perm (l m : List Ent.Ent) (h : l.Perm m) (x : Ent.Ent) : cntE l x = cntE m x := h.countP_eq _
theorem cut_ok8 (l : List Ent.Ent) : ∀ x ∈ Ent.cutL l 8, Lb.EntS x := fun x hx => by
  obtain ⟨y, _, rfl⟩ := List.mem_map.1 hx
  refine ⟨?_, ?_, fun f hf => ?_, fun f hf => ?_, ?_⟩
  · show (y.kind.take 80).length ≤ 400; rw [List.length_take]; omega
  · show (y.key.take 80).length ≤ 400; rw [List.length_take]; omega
  · obtain ⟨g, _, rfl⟩ := List.mem_map.1 hf; show (g.name.take 80).length ≤ 400; rw [List.length_take]; omega
  · obtain ⟨g, _, rfl⟩ := List.mem_map.1 hf; show (g.text.take 80).length ≤ 400; rw [List.length_take]; omega
  · show ((y.fields.take 6).map Ent.cutF).length ≤ 10; rw [List.length_map, List.length_take]; omega
theorem cut_len8 (l : List Ent.Ent) : (Ent.cutL l 8).length ≤ 8 := by unfold Ent.cutL; rw [List.length_map, List.length_take]; omega
/-- entries put together by the call, their fields as they lie elsewhere -/
structure Trow (N : Nat) (vo : Value) (es : List (Ent.Ent × Value)) (W : World) : Prop where
  r : W.ownsRow N 27 3 vo es.length (ecells es)
  f : ∀ p ∈ es, SliceIn (fun j => j < N) 2 RFld W p.2 p.1.fields
theorem Trow.below {N : Nat} {vo : Value} {es : List (Ent.Ent × Value)} {W W' : World} (h : Trow N vo es W) (hb : Below W.heap.size W W') : Trow N vo es W' :=
  ⟨own_below h.r hb, fun p hp => SliceIn.below' (h.f p hp) hb⟩
theorem ecells_snoc (l : List (Ent.Ent × Value)) (p : Ent.Ent × Value) : ecells (l ++ [p]) = ecells l ++ [.string ⟨p.1.kind.toArray⟩, .string ⟨p.1.key.toArray⟩, p.2] := by simp [ecells]
theorem Trow.app {N : Nat} {vo vo' vf : Value} {es : List (Ent.Ent × Value)} {W W' : World} {x : Ent.Ent} (h : Trow N vo es W) (hF : SliceIn (fun j => j < N) 2 RFld W vf x.fields) (hN : N ≤ W.heap.size)
    (hown : W'.ownsRow N 27 3 vo' (es.length + 1) (ecells es ++ [.string ⟨x.kind.toArray⟩, .string ⟨x.key.toArray⟩, vf])) (hg : W.grownBy W' vo.ownBlock) : Trow N vo' (es ++ [(x, vf)]) W' := by
  have hk : ∀ j, j < N → W'.heap[j]? = W.heap[j]? := fun j hj => hg.block j (Nat.lt_of_lt_of_le hj hN) (fun e => by have := (h.r.lt j e.symm).1; omega)
  refine ⟨by rw [List.length_append, ecells_snoc]; exact hown, fun p hp => ?_⟩
  rcases List.mem_append.1 hp with hp | hp
  · exact SliceIn.kept (h.f p hp) (fun _ h => h) hg.size (fun j hj _ => hk j hj) (fun _ _ _ h => h)
  · simp only [List.mem_singleton] at hp; subst hp
    exact SliceIn.kept hF (fun _ h => h) hg.size (fun j hj _ => hk j hj) (fun _ _ _ h => h)
theorem Trow.keepN {N : Nat} {vo : Value} {es : List (Ent.Ent × Value)} {W W' : World} (h : Trow N vo es W) (hg : W.grownBy W' vo.ownBlock) (hN : N ≤ W.heap.size) : ∀ j, j < N → W'.heap[j]? = W.heap[j]? := fun j hj => hg.block j (Nat.lt_of_lt_of_le hj hN) (fun e => by have := (h.r.lt j e.symm).1; omega)
theorem ents_lt {N : Nat} {W W' : World} {v : Value} {l : List Ent.Ent} (h : Ents (fun j => j < N) W v l) (hz : W.heap.size ≤ W'.heap.size) (hk : ∀ j, j < N → W'.heap[j]? = W.heap[j]?) : Ents (fun j => j < N) W' v l := Ents.kept h (fun _ h => h) hz (fun j hj _ => hk j hj)
theorem ents_low {N : Nat} {W W' : World} {v : Value} {l : List Ent.Ent} (h : Ents (fun j => j < N) W v l) (hb : Below W.heap.size W W') (hN : N ≤ W.heap.size) : Ents (fun j => j < N) W' v l := ents_lt h hb.size (fun j hj => hb.block j (Nat.lt_of_lt_of_le hj hN))
theorem belowN {N : Nat} {w W W' : World} {v : Value} (h : Below w.heap.size w W) (hg : W.grownBy W' v.ownBlock) (hwN : w.heap.size ≤ N) (hq : ∀ q, v.ownBlock = some q → N ≤ q) : Below w.heap.size w W' :=
  h.grown hg h.size (fun q e => Nat.le_trans hwN (hq q e))
theorem rep_ec (W : World) (S : Nat → Prop) : ∀ l : List (Ent.Ent × Value), (∀ p ∈ l, SliceIn S 2 RFld W p.2 p.1.fields) → RepRow (REnt S W) (l.map (·.1)) (ecells l)
  | [], _ => rfl
  | p :: l, h => ⟨_, _, rfl, ⟨p.2, rfl, h p (by simp)⟩, rep_ec W S l (fun q hq => h q (by simp [hq]))⟩
theorem Trow.ents {N : Nat} {vo : Value} {es : List (Ent.Ent × Value)} {W : World} (h : Trow N vo es W) : Ents (fun _ => True) W vo (es.map (·.1)) :=
  SliceIn.own h.r (rep_ec W _ es fun p hp => (h.f p hp).kept (fun _ _ => trivial) (Nat.le_refl _) (fun _ _ _ => rfl) (fun _ _ _ h => h)) (fun x vs hx => REnt.size x vs hx) (by simp) (fun _ _ => trivial)
set_option maxRecDepth 100000 in
set_option maxHeartbeats 1000000 in
theorem lawLOrd_walk (p : Option Addr) (cap0 : Nat) (l : List Ent.Ent) (w : World) (hH : Laid01 w ∧ (∃ m, w.cell? ⟨0, 0, none⟩ = some (.int .i64 m)) ∧ 0 < w.heap.size ∧ l.length ≤ maxLen) (hE : OEnt w p l) :
    Calls Tryz.prog 3 #[.slice p l.length cap0] w fun e w' => e = .returned (.bool true) ∧ Below w.heap.size w w' := by
  obtain ⟨hL, ⟨m, hm⟩, h0, hlm⟩ := hH
  obtain ⟨i0, hi, hz0, hz1, hz2⟩ := info_parts eent_info
  have Hi := Lib.hid hi; have Hz0 := Lib.hid hz0; have Hz1 := Lib.hid hz1; have Hz2 := Lib.hid hz2; clear hi hz0 hz1 hz2
  have hok := cut_ok8 l
  have hlen := cut_len8 l
  have hcut := law_cut l p cap0 8 w hE hlm (by decide)
  obtain ⟨L, hLL⟩ : ∃ L, Ent.cutL l 8 = L := ⟨_, rfl⟩
  rw [hLL] at hok hlen hcut
  have hob : ∀ x ∈ L, Lb.EntB x := fun x hx => (hok x hx).b
  have hoo : ∀ x ∈ Lb.order L, Lb.EntB x := fun x hx => hob x ((Lb.order_perm L).mem_iff.1 hx)
  have hol : (Lb.order L).length = L.length := (Lb.order_perm L).length_eq
  have hLB : ∀ W, Below w.heap.size w W → Laid01 W ∧ W.cell? ⟨0, 0, none⟩ = some (.int .i64 m) ∧ 0 < W.heap.size := fun W hW => ⟨hL.below hW, keptM hm h0 hW⟩
  have HLB := Lib.hid hLB; have Hcut := Lib.hid hcut; have HLb := Lib.hid hob; have HLe := Lib.hid hlen; have HOb := Lib.hid hoo; have HOe := Lib.hid hol
  clear hL hm h0 hlm hok hcut hLL hob hoo hol hLB hE hlen
  go_enter Tryz.func3, Tryz.ntmps3
  go_upto_region 2 with (go_at_call 6; refine Hcut.out.mono ?_; rintro e w1 ⟨vo, rfl, hO, hb1⟩; have HL1 := Lib.hid hO.entsT; have HO1 := Lib.hid hO; have Hb1 := Lib.hid hb1; clear hO hb1)
  go_upto_region 3 with (go_at_call 7; refine (lb_Order L vo m _ _ HL1.out (by have := HLe.out; omega) HLb.out (HLB.out _ Hb1.out).2.1 (HLB.out _ Hb1.out).2.2).mono ?_; rintro e w2 ⟨⟨va, rfl, hA⟩, hb2⟩; have HL2 := Lib.hid (Ents.below HL1.out hb2); have HA2 := Lib.hid hA; have Hb2 := Lib.hid (Hb1.out.trans (hb2.mono Hb1.out.size)); clear hA hb2)
  go_upto_region 4 with (go_at_call 7; refine (lb_Order (Lb.order L) va m _ _ HA2.out (by have := HLe.out; have := HOe.out; omega) HOb.out (HLB.out _ Hb2.out).2.1 (HLB.out _ Hb2.out).2.2).mono ?_; rw [Lb.order_again]; rintro e w3 ⟨⟨vb, rfl, hB⟩, hb3⟩; have HL3 := Lib.hid (Ents.below HL2.out hb3); have HA3 := Lib.hid (Ents.below HA2.out hb3); have HB3 := Lib.hid hB; have Hb3 := Lib.hid (Hb2.out.trans (hb3.mono Hb2.out.size)); clear hB hb3 HL1 HO1 HL2 HA2)
  obtain ⟨N, hN⟩ : ∃ N, w3.heap.size = N := ⟨_, rfl⟩
  have HwN := Lib.hid (show w.heap.size ≤ N by rw [← hN]; exact Hb3.out.size)
  obtain ⟨pL, cL, hv⟩ : ∃ p c, vo = .slice p L.length c := by obtain ⟨p, c, hv, _⟩ := HL3.out; exact ⟨p, c, hv⟩
  subst hv
  obtain ⟨pA, cA, hv⟩ : ∃ p c, va = .slice p L.length c := by obtain ⟨p, c, hv, _⟩ := HA3.out; exact ⟨p, c, by rw [hv, HOe.out]⟩
  subst hv
  have hb4 := below_new w3 (.cells #[] 27)
  have HL4 := Lib.hid (show Ents (fun j => j < N) (w3.alloc (.cells #[] 27)) _ L from Ents.below (Ents.kept HL3.out.strong (fun j hj => by rw [← hN]; exact hj.2) (Nat.le_refl _) (fun _ _ _ => rfl)) hb4)
  have HA4 := Lib.hid (show Ents (fun j => j < N) (w3.alloc (.cells #[] 27)) _ (Lb.order L) from Ents.below (Ents.kept HA3.out.strong (fun j hj => by rw [← hN]; exact hj.2) (Nat.le_refl _) (fun _ _ _ => rfl)) hb4)
  have HB4 := Lib.hid (show Ents (fun j => j < N) (w3.alloc (.cells #[] 27)) vb (Lb.order L) from Ents.below (Ents.kept HB3.out.strong (fun j hj => by rw [← hN]; exact hj.2) (Nat.le_refl _) (fun _ _ _ => rfl)) hb4)
  have Hb4 := Lib.hid (Hb3.out.trans (hb4.mono Hb3.out.size))
  have HT4 := Lib.hid (show Trow N (.slice (some ⟨N, 0, none⟩) 0 0) [] (w3.alloc (.cells #[] 27)) from ⟨by rw [← hN]; exact own_built w3 w3.heap.size 27 3 0 [] (Nat.le_refl _) rfl (by unfold maxLen; omega), fun p hp => by cases hp⟩)
  have HN4 := Lib.hid (show N ≤ (w3.alloc (.cells #[] 27)).heap.size by rw [← hN]; exact hb4.size)
  have hws : IntKind.i64.wrap ((L.length : Int) - 1) = (L.length : Int) - 1 := by rw [IntWalk.i64_in _ (by have := HLe.out; omega)]
  clear hb4 HL3 HA3 HB3 Hb3
  go_wp2_with fail
  clear hws
  go_loopw [5, 6, 7] (fun v5 tv iv wr => ∃ (j : Nat) (es : List (Ent.Ent × Value)), j ≤ L.length ∧ iv = .int .i64 ((j : Int) - 1) ∧ es.map (·.1) = (L.drop j).reverse ∧ tv = .bool (twiceB L L.length j) ∧ Trow N v5 es wr ∧ Ents (fun j => j < N) wr (.slice pL L.length cL) L ∧ Ents (fun j => j < N) wr (.slice pA L.length cA) (Lb.order L) ∧ Ents (fun j => j < N) wr vb (Lb.order L) ∧ Below w.heap.size w wr ∧ N ≤ wr.heap.size) (fun _ _ iv _ => (intOf iv + 1).toNat)
  case atStart => exact ⟨L.length, [], Nat.le_refl _, rfl, by simp, by rw [twiceB_end L _ _ (Nat.le_refl _)], by first | exact HT4.out | (have h := HT4.out; rw [← hN] at h ⊢; exact h), HL4.out, HA4.out, HB4.out, Hb4.out, HN4.out⟩
  case round =>
    clear HL4 HA4 HB4 Hb4 HT4 HN4
    obtain ⟨j, es, hj, rfl, hes, rfl, hT, hL, hA, hB, hb, hNr⟩ := hrel
    have HT := Lib.hid hT; have HL := Lib.hid hL; have HA := Lib.hid hA; have HB := Lib.hid hB; have Hb := Lib.hid hb; have HN := Lib.hid hNr
    have hel : es.length ≤ 8 := by rw [← List.length_map (f := (·.1)), hes, List.length_reverse, List.length_drop]; have := HLe.out; omega
    have Hes := Lib.hid hel; have Hesm := Lib.hid hes
    clear hT hL hA hB hb hNr hel hes
    cases j with
    | succ i =>
      have hie : ((i + 1 : Nat) : Int) - 1 = (i : Int) := by omega
      rw [hie]
      obtain ⟨x, hx⟩ : ∃ x, L[i]? = some x := ⟨_, List.getElem?_eq_getElem (by omega)⟩
      obtain ⟨b, off, px, nx, cx, hq, hbw, e0, e1, e2, hF⟩ : ∃ b off px nx cx, pL = some ⟨b, off, none⟩ ∧ b < wr.heap.size ∧ wr.cell? ⟨b, off + i * 3, none⟩ = some (.string ⟨x.kind.toArray⟩) ∧ wr.cell? ⟨b, off + i * 3 + 1, none⟩ = some (.string ⟨x.key.toArray⟩) ∧ wr.cell? ⟨b, off + i * 3 + 2, none⟩ = some (.slice px nx cx) ∧ SliceIn (fun j => j < N) 2 RFld wr (.slice px nx cx) x.fields := by
        obtain ⟨pa, ca, hv, _, _, hat⟩ := HL.out
        obtain ⟨b, off, vs, rfl, _, hbw, hR, hc⟩ := hat i x hx
        obtain ⟨vf, rfl, hF⟩ := hR
        obtain ⟨p1, n1, c1, hv1⟩ := SliceIn.shape hF
        subst hv1
        simp only [Value.slice.injEq] at hv
        exact ⟨b, off, p1, n1, c1, hv.1, hbw, hc 0 _ rfl, hc 1 _ rfl, hc 2 _ rfl, hF⟩
      subst hq
      have hil : (i : Int) < (L.length : Int) := by omega
      have hi0 : (0 : Int) ≤ (i : Int) := by omega
      have hLcap : (i : Int) ≤ (cL : Int) := by obtain ⟨_, _, hv, hlc, _⟩ := HL.out; simp only [Value.slice.injEq] at hv; rw [← hv.2.2] at hlc; omega
      have hwm : IntKind.i64.wrap ((i : Int) - 1) = (i : Int) - 1 := by rw [IntWalk.i64_in _ (by have := HLe.out; omega)]
      obtain ⟨tb, htb⟩ : ∃ tb, twiceB L L.length (i + 1) = tb := ⟨_, rfl⟩
      have htst := twiceB_step L x i hx L.length (by omega)
      rw [htb] at htst ⊢
      have hdr : (L.drop i).reverse = (L.drop (i + 1)).reverse ++ [x] := by
        obtain ⟨h1, h2⟩ := List.getElem?_eq_some_iff.1 hx
        rw [List.drop_eq_getElem_cons h1, h2, List.reverse_cons]
      have HFx := Lib.hid hF; have Htst := Lib.hid htst; have Hdr := Lib.hid hdr; have Hil := Lib.hid (show i < L.length by omega)
      clear hF htst hdr htb hj
      go_upto_region 9 with (at_builtin; go_loud (refine wpList_append1 rfl (.tmp 23) (.tmp 28) 22 rfl N 27 i0 (.agg #[.string ⟨#[]⟩, .string ⟨#[]⟩, .slice none 0 0]) 3 56 Tryz.underlying22 Hi.out Hz0.out Hz1.out Hz2.out (by rfl) (by decide) _ _ _ HT.out.r rfl [.string ⟨x.kind.toArray⟩, .string ⟨x.key.toArray⟩, .slice px nx cx] rfl (by simp) rfl (by simp [Value.oneCell']) (by have := Hes.out; unfold maxLen; omega) (by have := Hes.out; omega) HN.out ?_); intro v2 w9 own2 g2 at2; have hk9 := HT.out.keepN g2 HN.out; have HT9 := Lib.hid (HT.out.app HFx.out HN.out own2 g2); have HL9 := Lib.hid (ents_lt HL.out g2.size hk9); have HA9 := Lib.hid (ents_lt HA.out g2.size hk9); have HB9 := Lib.hid (ents_lt HB.out g2.size hk9); have HN9 := Lib.hid (Nat.le_trans HN.out g2.size); have Hb9 := Lib.hid (belowN Hb.out g2 HwN.out (fun q e => (HT.out.r.lt q e).1)); clear own2 g2 at2 hk9)
      clear e0 e1 e2
      have Hxk := Lib.hid (show b < w9.heap.size ∧ w9.cell? ⟨b, off + i * 3 + 1, none⟩ = some (.string ⟨x.key.toArray⟩) by
        obtain ⟨pa, ca, hv, _, _, hat⟩ := HL9.out
        obtain ⟨b', off', vs, hq, _, hbw, hR, hc⟩ := hat i x hx
        obtain ⟨vf, rfl, hF⟩ := hR
        simp only [Value.slice.injEq] at hv
        rw [hq] at hv
        simp only [Option.some.injEq, Addr.mk.injEq, and_true] at hv
        obtain ⟨⟨rfl, rfl⟩, _⟩ := hv
        exact ⟨hbw, hc 1 _ rfl⟩)
      clear hx hbw HT HL HA HB Hb HN HFx
      refine wp_region_any (by kernel_rfl) ?_
      change wpAny _ _ _ _ _ _ _ (World.drew _)
      have HTd := Lib.hid (HT9.out.below (Below.refl _ _).drew); have HLd := Lib.hid (Ents.below HL9.out (Below.refl _ _).drew); have HAd := Lib.hid (Ents.below HA9.out (Below.refl _ _).drew); have HBd := Lib.hid (Ents.below HB9.out (Below.refl _ _).drew); have Hbd := Lib.hid Hb9.out.drew; have HNd := Lib.hid (show N ≤ w9.drew.heap.size from HN9.out)
      have Hxc := Lib.hid (show b < w9.drew.heap.size ∧ w9.drew.cell? ⟨b, off + i * 3 + 1, none⟩ = some (.string ⟨x.key.toArray⟩) from Hxk.out)
      clear HT9 HL9 HA9 HB9 Hb9 HN9 Hxk
      generalize w9.drew = wd at *
      have hS0 := Below.refl wd.heap.size wd
      cases tb
      · obtain ⟨tn, htw⟩ : ∃ tn, Ent.has (L.take i) x.key = tn := ⟨_, rfl⟩
        have Htw := Lib.hid htw
        have HPre := Lib.hid (show Ents (fun j => j < N) wd (.slice (some ⟨b, off, none⟩) i cL) (L.take i) from SliceIn.pre HLd.out i (by have := Hil.out; omega))
        have HPl := Lib.hid (show (L.take i).length ≤ 1000000000 by rw [List.length_take]; have := HLe.out; omega)
        have HPf := Lib.hid (show ∀ y ∈ L.take i, y.fields.length ≤ 1000000000 from fun y hy => by have := (HLb.out y (List.mem_of_mem_take hy)).many; omega)
        have hts := Htst.out
        rw [htw, Bool.or_false] at hts
        have Hts := Lib.hid hts
        clear htw hts
        refine wpAny_of_held (S := fun W => Below wd.heap.size wd W) _ _ _ _ ?_
        refine wpAnyH_take (i := 0) (v := .bool false) rfl (by kernel_rfl) (by kernel_rfl) (by kernel_rfl) (fun _ _ _ h => h) (Or.inl ⟨by kernel_rfl, fun W hW => by kernel_rfl⟩) (by assumption) ?_
        try simp only [Act.put, List.getElem_toArray, List.getElem_cons_zero, List.getElem_cons_succ, List.setIfInBounds_toArray, List.set_cons_zero, List.set_cons_succ]
        refine wpAnyH_take (i := 1) (v := .bool false) rfl (by kernel_rfl) (by kernel_rfl) (by kernel_rfl) (fun _ _ _ h => h) (Or.inl ⟨by kernel_rfl, fun W hW => by kernel_rfl⟩) (by assumption) ?_
        try simp only [Act.put, List.getElem_toArray, List.getElem_cons_zero, List.getElem_cons_succ, List.setIfInBounds_toArray, List.set_cons_zero, List.set_cons_succ]
        refine wpAnyH_take (i := 2) (v := .slice (some ⟨b, off, none⟩) L.length cL) rfl (by kernel_rfl) (by kernel_rfl) (by kernel_rfl) (fun _ _ _ h => h) (Or.inl ⟨by kernel_rfl, fun W hW => by kernel_rfl⟩) (by assumption) ?_
        try simp only [Act.put, List.getElem_toArray, List.getElem_cons_zero, List.getElem_cons_succ, List.setIfInBounds_toArray, List.set_cons_zero, List.set_cons_succ]
        refine wpAnyH_take (i := 3) (v := .int .i64 (i : Int)) rfl (by kernel_rfl) (by kernel_rfl) (by kernel_rfl) (fun _ _ _ h => h) (Or.inl ⟨by kernel_rfl, fun W hW => by kernel_rfl⟩) (by assumption) ?_
        try simp only [Act.put, List.getElem_toArray, List.getElem_cons_zero, List.getElem_cons_succ, List.setIfInBounds_toArray, List.set_cons_zero, List.set_cons_succ]
        refine wpAnyH_take (i := 4) (v := .slice (some ⟨b, off, none⟩) i cL) rfl (by kernel_rfl) (by kernel_rfl) (by kernel_rfl) (fun _ _ _ h => h) (Or.inl ⟨by kernel_rfl, fun W hW => by go_simp⟩) (by assumption) ?_
        try simp only [Act.put, List.getElem_toArray, List.getElem_cons_zero, List.getElem_cons_succ, List.setIfInBounds_toArray, List.set_cons_zero, List.set_cons_succ]
        refine wpAnyH_take (i := 6) (v := .slice (some ⟨b, off, none⟩) L.length cL) rfl (by kernel_rfl) (by kernel_rfl) (by kernel_rfl) (fun _ _ _ h => h) (Or.inl ⟨by kernel_rfl, fun W hW => by kernel_rfl⟩) (by assumption) ?_
        try simp only [Act.put, List.getElem_toArray, List.getElem_cons_zero, List.getElem_cons_succ, List.setIfInBounds_toArray, List.set_cons_zero, List.set_cons_succ]
        refine wpAnyH_take (i := 7) (v := .int .i64 (i : Int)) rfl (by kernel_rfl) (by kernel_rfl) (by kernel_rfl) (fun _ _ _ h => h) (Or.inl ⟨by kernel_rfl, fun W hW => by kernel_rfl⟩) (by assumption) ?_
        try simp only [Act.put, List.getElem_toArray, List.getElem_cons_zero, List.getElem_cons_succ, List.setIfInBounds_toArray, List.set_cons_zero, List.set_cons_succ]
        refine wpAnyH_take (i := 8) (v := .pointer (some ⟨b, off + i * 3, none⟩)) rfl (by kernel_rfl) (by kernel_rfl) (by kernel_rfl) (fun _ _ _ h => h) (Or.inl ⟨by kernel_rfl, fun W hW => by go_simp⟩) (by assumption) ?_
        try simp only [Act.put, List.getElem_toArray, List.getElem_cons_zero, List.getElem_cons_succ, List.setIfInBounds_toArray, List.set_cons_zero, List.set_cons_succ]
        refine wpAnyH_take (i := 9) (v := .pointer (some ⟨b, off + i * 3 + 1, none⟩)) rfl (by kernel_rfl) (by kernel_rfl) (by kernel_rfl) (fun _ _ _ h => h) (Or.inl ⟨by kernel_rfl, fun W hW => by go_simp⟩) (by assumption) ?_
        try simp only [Act.put, List.getElem_toArray, List.getElem_cons_zero, List.getElem_cons_succ, List.setIfInBounds_toArray, List.set_cons_zero, List.set_cons_succ]
        refine wpAnyH_take (i := 10) (v := .string ⟨x.key.toArray⟩) rfl (by kernel_rfl) (by kernel_rfl) (by kernel_rfl) (fun _ _ _ h => h) (Or.inl ⟨by kernel_rfl, fun W hW => by (have d1 := Below.cell hW (p := ⟨b, off + i * 3 + 1, none⟩) Hxc.out.1; rw [Hxc.out.2] at d1; go_simp)⟩) (by assumption) ?_
        try simp only [Act.put, List.getElem_toArray, List.getElem_cons_zero, List.getElem_cons_succ, List.setIfInBounds_toArray, List.set_cons_zero, List.set_cons_succ]
        refine wpAnyH_ready (rs := [5]) (by kernel_rfl) (by simp) ?_
        refine AllReadyH.cons rfl (fun K hK => ?_) AllReadyH.nil
        go_simp
        go_wp2_with (go_at_call 9; refine (law_refs (L.take i) _ _ _ HPre.out HPl.out HPf.out).mono ?_; rintro e w5 ⟨vr, rfl, hO, hb5⟩; have Hb5 := Lib.hid hb5; have HR5 := Lib.hid hO.entsT; clear hb5 hO)
        refine hK.out _ _ (Hb5.out) (fun _ => ?_)
        clear K hK
        try simp only [Act.put, List.getElem_toArray, List.getElem_cons_zero, List.getElem_cons_succ, List.setIfInBounds_toArray, List.set_cons_zero, List.set_cons_succ]
        refine wpAnyH_ready (rs := [11]) (by kernel_rfl) (by simp) ?_
        refine AllReadyH.cons rfl (fun K hK => ?_) AllReadyH.nil
        go_simp
        go_wp2_with (go_at_call 8; refine (ref15_has (L.take i) _ x.key _ _ HR5.out).mono ?_; rw [Htw.out]; rintro e w6 ⟨rfl, hb6⟩; have Hb6 := Lib.hid (bseq Hb5.out hb6); clear hb6)
        refine hK.out _ _ (Hb6.out) (fun _ => ?_)
        clear K hK
        try simp only [Act.put, List.getElem_toArray, List.getElem_cons_zero, List.getElem_cons_succ, List.setIfInBounds_toArray, List.set_cons_zero, List.set_cons_succ]
        refine wpAnyH_take (i := 12) (v := .bool tn) rfl (by kernel_rfl) (by kernel_rfl) (by kernel_rfl) (fun _ _ _ h => h) (Or.inl ⟨by kernel_rfl, fun W hW => by kernel_rfl⟩) (by assumption) ?_
        try simp only [Act.put, List.getElem_toArray, List.getElem_cons_zero, List.getElem_cons_succ, List.setIfInBounds_toArray, List.set_cons_zero, List.set_cons_succ]
        refine wpAnyH_take (i := 13) (v := .bool tn) rfl (by kernel_rfl) (by kernel_rfl) (by kernel_rfl) (fun _ _ _ h => h) (Or.inl ⟨by kernel_rfl, fun W hW => by kernel_rfl⟩) (by assumption) ?_
        try simp only [Act.put, List.getElem_toArray, List.getElem_cons_zero, List.getElem_cons_succ, List.setIfInBounds_toArray, List.set_cons_zero, List.set_cons_succ]
        refine wpAnyH_done (by kernel_rfl) ?_ _
        go_wp2_with fail
        go_roundw
        case rel => exact ⟨i, es ++ [(x, .slice px nx cx)], by have := Hil.out; omega, rfl, by rw [List.map_append, Hesm.out, Hdr.out]; rfl, by rw [Hts.out], HTd.out.below Hb6.out, ents_low HLd.out Hb6.out HNd.out, ents_low HAd.out Hb6.out HNd.out, ents_low HBd.out Hb6.out HNd.out, Hbd.out.trans (Hb6.out.mono Hbd.out.size), Nat.le_trans HNd.out Hb6.out.size⟩
        case measure => simp [intOf]
      · have hts := Htst.out
        rw [Bool.or_true] at hts
        have Hts := Lib.hid hts
        clear hts
        refine wpAny_of_held (S := fun W => Below wd.heap.size wd W) _ _ _ _ ?_
        refine wpAnyH_take (i := 0) (v := .bool true) rfl (by kernel_rfl) (by kernel_rfl) (by kernel_rfl) (fun _ _ _ h => h) (Or.inl ⟨by kernel_rfl, fun W hW => by kernel_rfl⟩) (by assumption) ?_
        try simp only [Act.put, List.getElem_toArray, List.getElem_cons_zero, List.getElem_cons_succ, List.setIfInBounds_toArray, List.set_cons_zero, List.set_cons_succ]
        refine wpAnyH_take (i := 1) (v := .bool true) rfl (by kernel_rfl) (by kernel_rfl) (by kernel_rfl) (fun _ _ _ h => h) (Or.inl ⟨by kernel_rfl, fun W hW => by kernel_rfl⟩) (by assumption) ?_
        try simp only [Act.put, List.getElem_toArray, List.getElem_cons_zero, List.getElem_cons_succ, List.setIfInBounds_toArray, List.set_cons_zero, List.set_cons_succ]
        refine wpAnyH_take (i := 2) (v := undef) rfl (by kernel_rfl) (by kernel_rfl) (by kernel_rfl) (fun _ _ _ h => h) (Or.inr ⟨by kernel_rfl, rfl⟩) (by assumption) ?_
        try simp only [Act.put, List.getElem_toArray, List.getElem_cons_zero, List.getElem_cons_succ, List.setIfInBounds_toArray, List.set_cons_zero, List.set_cons_succ]
        refine wpAnyH_take (i := 3) (v := undef) rfl (by kernel_rfl) (by kernel_rfl) (by kernel_rfl) (fun _ _ _ h => h) (Or.inr ⟨by kernel_rfl, rfl⟩) (by assumption) ?_
        try simp only [Act.put, List.getElem_toArray, List.getElem_cons_zero, List.getElem_cons_succ, List.setIfInBounds_toArray, List.set_cons_zero, List.set_cons_succ]
        refine wpAnyH_take (i := 4) (v := undef) rfl (by kernel_rfl) (by kernel_rfl) (by kernel_rfl) (fun _ _ _ h => h) (Or.inr ⟨by kernel_rfl, rfl⟩) (by assumption) ?_
        try simp only [Act.put, List.getElem_toArray, List.getElem_cons_zero, List.getElem_cons_succ, List.setIfInBounds_toArray, List.set_cons_zero, List.set_cons_succ]
        refine wpAnyH_take (i := 5) (v := undef) rfl (by kernel_rfl) (by kernel_rfl) (by kernel_rfl) (fun _ _ _ h => h) (Or.inr ⟨by kernel_rfl, rfl⟩) (by assumption) ?_
        try simp only [Act.put, List.getElem_toArray, List.getElem_cons_zero, List.getElem_cons_succ, List.setIfInBounds_toArray, List.set_cons_zero, List.set_cons_succ]
        refine wpAnyH_take (i := 6) (v := undef) rfl (by kernel_rfl) (by kernel_rfl) (by kernel_rfl) (fun _ _ _ h => h) (Or.inr ⟨by kernel_rfl, rfl⟩) (by assumption) ?_
        try simp only [Act.put, List.getElem_toArray, List.getElem_cons_zero, List.getElem_cons_succ, List.setIfInBounds_toArray, List.set_cons_zero, List.set_cons_succ]
        refine wpAnyH_take (i := 7) (v := undef) rfl (by kernel_rfl) (by kernel_rfl) (by kernel_rfl) (fun _ _ _ h => h) (Or.inr ⟨by kernel_rfl, rfl⟩) (by assumption) ?_
        try simp only [Act.put, List.getElem_toArray, List.getElem_cons_zero, List.getElem_cons_succ, List.setIfInBounds_toArray, List.set_cons_zero, List.set_cons_succ]
        refine wpAnyH_take (i := 8) (v := undef) rfl (by kernel_rfl) (by kernel_rfl) (by kernel_rfl) (fun _ _ _ h => h) (Or.inr ⟨by kernel_rfl, rfl⟩) (by assumption) ?_
        try simp only [Act.put, List.getElem_toArray, List.getElem_cons_zero, List.getElem_cons_succ, List.setIfInBounds_toArray, List.set_cons_zero, List.set_cons_succ]
        refine wpAnyH_take (i := 9) (v := undef) rfl (by kernel_rfl) (by kernel_rfl) (by kernel_rfl) (fun _ _ _ h => h) (Or.inr ⟨by kernel_rfl, rfl⟩) (by assumption) ?_
        try simp only [Act.put, List.getElem_toArray, List.getElem_cons_zero, List.getElem_cons_succ, List.setIfInBounds_toArray, List.set_cons_zero, List.set_cons_succ]
        refine wpAnyH_take (i := 10) (v := undef) rfl (by kernel_rfl) (by kernel_rfl) (by kernel_rfl) (fun _ _ _ h => h) (Or.inr ⟨by kernel_rfl, rfl⟩) (by assumption) ?_
        try simp only [Act.put, List.getElem_toArray, List.getElem_cons_zero, List.getElem_cons_succ, List.setIfInBounds_toArray, List.set_cons_zero, List.set_cons_succ]
        refine wpAnyH_take (i := 11) (v := undef) rfl (by kernel_rfl) (by kernel_rfl) (by kernel_rfl) (fun _ _ _ h => h) (Or.inr ⟨by kernel_rfl, rfl⟩) (by assumption) ?_
        try simp only [Act.put, List.getElem_toArray, List.getElem_cons_zero, List.getElem_cons_succ, List.setIfInBounds_toArray, List.set_cons_zero, List.set_cons_succ]
        refine wpAnyH_take (i := 12) (v := .bool true) rfl (by kernel_rfl) (by kernel_rfl) (by kernel_rfl) (fun _ _ _ h => h) (Or.inl ⟨by kernel_rfl, fun W hW => by kernel_rfl⟩) (by assumption) ?_
        try simp only [Act.put, List.getElem_toArray, List.getElem_cons_zero, List.getElem_cons_succ, List.setIfInBounds_toArray, List.set_cons_zero, List.set_cons_succ]
        refine wpAnyH_take (i := 13) (v := .bool true) rfl (by kernel_rfl) (by kernel_rfl) (by kernel_rfl) (fun _ _ _ h => h) (Or.inl ⟨by kernel_rfl, fun W hW => by kernel_rfl⟩) (by assumption) ?_
        try simp only [Act.put, List.getElem_toArray, List.getElem_cons_zero, List.getElem_cons_succ, List.setIfInBounds_toArray, List.set_cons_zero, List.set_cons_succ]
        refine wpAnyH_done (by kernel_rfl) ?_ _
        go_wp2_with fail
        go_roundw
        case rel => exact ⟨i, es ++ [(x, .slice px nx cx)], by have := Hil.out; omega, rfl, by rw [List.map_append, Hesm.out, Hdr.out]; rfl, by rw [Hts.out], HTd.out, HLd.out, HAd.out, HBd.out, Hbd.out, HNd.out⟩
        case measure => simp [intOf]
    | zero =>
      have hm1 : ((0 : Nat) : Int) - 1 = -1 := by omega
      rw [hm1]
      rw [List.drop_zero] at Hesm
      obtain ⟨tb, htb⟩ : ∃ tb, twiceB L L.length 0 = tb := ⟨_, rfl⟩
      rw [htb]
      have Htb := Lib.hid htb
      clear htb hj hm1
      go_wp2_with fail
      have Hdec := Lib.hid (show decide (Lb.order L = Lb.order L) = true from decide_eq_true rfl)
      go_loopw [8] (fun iv wr => ∃ (k : Nat), k ≤ L.length ∧ iv = .int .i64 (k : Int) ∧ Trow N u5 es wr ∧ Ents (fun j => j < N) wr (.slice pL L.length cL) L ∧ Ents (fun j => j < N) wr (.slice pA L.length cA) (Lb.order L) ∧ Ents (fun j => j < N) wr vb (Lb.order L) ∧ Below w.heap.size w wr ∧ N ≤ wr.heap.size) (fun iv _ => L.length - (intOf iv).toNat)
      case atStart => exact ⟨0, Nat.zero_le _, rfl, HT.out, HL.out, HA.out, HB.out, Hb.out, HN.out⟩
      case round =>
        clear HT HL HA HB Hb HN
        obtain ⟨k, hk, rfl, hT, hL, hA, hB, hb, hNr⟩ := hrel
        have HT := Lib.hid hT; have HL := Lib.hid hL; have HA := Lib.hid hA; have HB := Lib.hid hB; have Hb := Lib.hid hb; have HN := Lib.hid hNr
        clear hT hL hA hB hb hNr
        by_cases hlt : k < L.length
        · obtain ⟨x, hx⟩ : ∃ x, L[k]? = some x := ⟨_, List.getElem?_eq_getElem hlt⟩
          obtain ⟨b, off, px, nx, cx, hq, hbw, e0, e1, e2, hF⟩ : ∃ b off px nx cx, pL = some ⟨b, off, none⟩ ∧ b < wr.heap.size ∧ wr.cell? ⟨b, off + k * 3, none⟩ = some (.string ⟨x.kind.toArray⟩) ∧ wr.cell? ⟨b, off + k * 3 + 1, none⟩ = some (.string ⟨x.key.toArray⟩) ∧ wr.cell? ⟨b, off + k * 3 + 2, none⟩ = some (.slice px nx cx) ∧ SliceIn (fun j => j < N) 2 RFld wr (.slice px nx cx) x.fields := by
            obtain ⟨pa, ca, hv, _, _, hat⟩ := HL.out
            obtain ⟨b, off, vs, rfl, _, hbw, hR, hc⟩ := hat k x hx
            obtain ⟨vf, rfl, hF⟩ := hR
            obtain ⟨p1, n1, c1, hv1⟩ := SliceIn.shape hF
            subst hv1
            simp only [Value.slice.injEq] at hv
            exact ⟨b, off, p1, n1, c1, hv.1, hbw, hc 0 _ rfl, hc 1 _ rfl, hc 2 _ rfl, hF⟩
          subst hq
          have hlt' : (k : Int) < (L.length : Int) := by omega
          obtain ⟨k1, hk1⟩ : ∃ k1, k1 = k + 1 := ⟨_, rfl⟩
          have hwk : IntKind.i64.wrap ((k : Int) + 1) = (k1 : Int) := by rw [IntWalk.i64_in _ (by have := HLe.out; omega)]; omega
          have Hcn := Lib.hid (cntE_perm (Lb.order L) L (Lb.order_perm L) x)
          have HxB := Lib.hid (HLb.out x (List.mem_of_getElem? hx))
          have HLl := Lib.hid (show L.length ≤ 1000 by have := HLe.out; omega); have HOl := Lib.hid (show (Lb.order L).length ≤ 1000 by have := HLe.out; have := HOe.out; omega)
          have Hxr := Lib.hid (And.intro hbw (And.intro e0 (And.intro e1 e2))); have HFr := Lib.hid hF; have Hlt := Lib.hid hlt; have Hk1 := Lib.hid hk1
          clear hbw e0 e1 e2 hF hlt hk1 hx hk
          go_upto_region 13 with fail
          refine wp_region_any (by kernel_rfl) ?_
          change wpAny _ _ _ _ _ _ _ (World.drew _)
          have HTd := Lib.hid (HT.out.below (Below.refl _ _).drew); have HLd := Lib.hid (Ents.below HL.out (Below.refl _ _).drew); have HAd := Lib.hid (Ents.below HA.out (Below.refl _ _).drew); have HBd := Lib.hid (Ents.below HB.out (Below.refl _ _).drew); have Hbd := Lib.hid Hb.out.drew; have HNd := Lib.hid (show N ≤ wr.drew.heap.size from HN.out); have HFd := Lib.hid (SliceIn.below' HFr.out (Below.refl _ _).drew)
          have Hxc := Lib.hid (show b < wr.drew.heap.size ∧ wr.drew.cell? ⟨b, off + k * 3, none⟩ = some (.string ⟨x.kind.toArray⟩) ∧ wr.drew.cell? ⟨b, off + k * 3 + 1, none⟩ = some (.string ⟨x.key.toArray⟩) ∧ wr.drew.cell? ⟨b, off + k * 3 + 2, none⟩ = some (.slice px nx cx) from Hxr.out)
          clear HT HL HA HB Hb HN HFr Hxr
          generalize wr.drew = wd at *
          have hS0 := Below.refl wd.heap.size wd
          refine wpAny_of_held (S := fun W => Below wd.heap.size wd W) _ _ _ _ ?_
          refine wpAnyH_take (i := 0) (v := .slice (some ⟨b, off, none⟩) L.length cL) rfl (by kernel_rfl) (by kernel_rfl) (by kernel_rfl) (fun _ _ _ h => h) (Or.inl ⟨by kernel_rfl, fun W hW => by kernel_rfl⟩) (by assumption) ?_
          try simp only [Act.put, List.getElem_toArray, List.getElem_cons_zero, List.getElem_cons_succ, List.setIfInBounds_toArray, List.set_cons_zero, List.set_cons_succ]
          refine wpAnyH_take (i := 1) (v := .slice (some ⟨b, off, none⟩) L.length cL) rfl (by kernel_rfl) (by kernel_rfl) (by kernel_rfl) (fun _ _ _ h => h) (Or.inl ⟨by kernel_rfl, fun W hW => by kernel_rfl⟩) (by assumption) ?_
          try simp only [Act.put, List.getElem_toArray, List.getElem_cons_zero, List.getElem_cons_succ, List.setIfInBounds_toArray, List.set_cons_zero, List.set_cons_succ]
          refine wpAnyH_take (i := 2) (v := .int .i64 (k : Int)) rfl (by kernel_rfl) (by kernel_rfl) (by kernel_rfl) (fun _ _ _ h => h) (Or.inl ⟨by kernel_rfl, fun W hW => by kernel_rfl⟩) (by assumption) ?_
          try simp only [Act.put, List.getElem_toArray, List.getElem_cons_zero, List.getElem_cons_succ, List.setIfInBounds_toArray, List.set_cons_zero, List.set_cons_succ]
          refine wpAnyH_take (i := 3) (v := .pointer (some ⟨b, off + k * 3, none⟩)) rfl (by kernel_rfl) (by kernel_rfl) (by kernel_rfl) (fun _ _ _ h => h) (Or.inl ⟨by kernel_rfl, fun W hW => by go_simp⟩) (by assumption) ?_
          try simp only [Act.put, List.getElem_toArray, List.getElem_cons_zero, List.getElem_cons_succ, List.setIfInBounds_toArray, List.set_cons_zero, List.set_cons_succ]
          refine wpAnyH_take (i := 4) (v := .agg #[.string ⟨x.kind.toArray⟩, .string ⟨x.key.toArray⟩, .slice px nx cx]) rfl (by kernel_rfl) (by kernel_rfl) (by kernel_rfl) (fun _ _ _ h => h) (Or.inl ⟨by kernel_rfl, fun W hW => by (have d0 := Below.cell hW (p := ⟨b, off + k * 3, none⟩) Hxc.out.1; have d1 := Below.cell hW (p := ⟨b, off + k * 3 + 1, none⟩) Hxc.out.1; have d2 := Below.cell hW (p := ⟨b, off + k * 3 + 2, none⟩) Hxc.out.1; rw [Hxc.out.2.1] at d0; rw [Hxc.out.2.2.1] at d1; rw [Hxc.out.2.2.2] at d2; go_simp)⟩) (by assumption) ?_
          try simp only [Act.put, List.getElem_toArray, List.getElem_cons_zero, List.getElem_cons_succ, List.setIfInBounds_toArray, List.set_cons_zero, List.set_cons_succ]
          refine wpAnyH_take (i := 6) (v := .slice pA L.length cA) rfl (by kernel_rfl) (by kernel_rfl) (by kernel_rfl) (fun _ _ _ h => h) (Or.inl ⟨by kernel_rfl, fun W hW => by kernel_rfl⟩) (by assumption) ?_
          try simp only [Act.put, List.getElem_toArray, List.getElem_cons_zero, List.getElem_cons_succ, List.setIfInBounds_toArray, List.set_cons_zero, List.set_cons_succ]
          refine wpAnyH_take (i := 7) (v := .slice (some ⟨b, off, none⟩) L.length cL) rfl (by kernel_rfl) (by kernel_rfl) (by kernel_rfl) (fun _ _ _ h => h) (Or.inl ⟨by kernel_rfl, fun W hW => by kernel_rfl⟩) (by assumption) ?_
          try simp only [Act.put, List.getElem_toArray, List.getElem_cons_zero, List.getElem_cons_succ, List.setIfInBounds_toArray, List.set_cons_zero, List.set_cons_succ]
          refine wpAnyH_take (i := 8) (v := .int .i64 (k : Int)) rfl (by kernel_rfl) (by kernel_rfl) (by kernel_rfl) (fun _ _ _ h => h) (Or.inl ⟨by kernel_rfl, fun W hW => by kernel_rfl⟩) (by assumption) ?_
          try simp only [Act.put, List.getElem_toArray, List.getElem_cons_zero, List.getElem_cons_succ, List.setIfInBounds_toArray, List.set_cons_zero, List.set_cons_succ]
          refine wpAnyH_take (i := 9) (v := .pointer (some ⟨b, off + k * 3, none⟩)) rfl (by kernel_rfl) (by kernel_rfl) (by kernel_rfl) (fun _ _ _ h => h) (Or.inl ⟨by kernel_rfl, fun W hW => by go_simp⟩) (by assumption) ?_
          try simp only [Act.put, List.getElem_toArray, List.getElem_cons_zero, List.getElem_cons_succ, List.setIfInBounds_toArray, List.set_cons_zero, List.set_cons_succ]
          refine wpAnyH_take (i := 10) (v := .agg #[.string ⟨x.kind.toArray⟩, .string ⟨x.key.toArray⟩, .slice px nx cx]) rfl (by kernel_rfl) (by kernel_rfl) (by kernel_rfl) (fun _ _ _ h => h) (Or.inl ⟨by kernel_rfl, fun W hW => by (have d0 := Below.cell hW (p := ⟨b, off + k * 3, none⟩) Hxc.out.1; have d1 := Below.cell hW (p := ⟨b, off + k * 3 + 1, none⟩) Hxc.out.1; have d2 := Below.cell hW (p := ⟨b, off + k * 3 + 2, none⟩) Hxc.out.1; rw [Hxc.out.2.1] at d0; rw [Hxc.out.2.2.1] at d1; rw [Hxc.out.2.2.2] at d2; go_simp)⟩) (by assumption) ?_
          try simp only [Act.put, List.getElem_toArray, List.getElem_cons_zero, List.getElem_cons_succ, List.setIfInBounds_toArray, List.set_cons_zero, List.set_cons_succ]
          refine wpAnyH_ready (rs := [5]) (by kernel_rfl) (by simp) ?_
          refine AllReadyH.cons rfl (fun K hK => ?_) AllReadyH.nil
          go_simp
          go_wp2_with (go_at_call 10; refine (law_many L _ _ x _ _ _ HLd.out HFd.out HLl.out HLb.out HxB.out).mono ?_; rintro e w5 ⟨rfl, hb5⟩; have Hb5 := Lib.hid hb5; clear hb5)
          refine hK.out _ _ (Hb5.out) (fun _ => ?_)
          clear K hK
          try simp only [Act.put, List.getElem_toArray, List.getElem_cons_zero, List.getElem_cons_succ, List.setIfInBounds_toArray, List.set_cons_zero, List.set_cons_succ]
          refine wpAnyH_ready (rs := [11]) (by kernel_rfl) (by simp) ?_
          refine AllReadyH.cons rfl (fun K hK => ?_) AllReadyH.nil
          go_simp
          go_wp2_with (go_at_call 10; refine (law_many (Lb.order L) _ _ x _ _ _ (Ents.below HAd.out Hb5.out) (SliceIn.below' HFd.out Hb5.out) HOl.out HOb.out HxB.out).mono ?_; rw [Hcn.out]; rintro e w6 ⟨rfl, hb6⟩; have Hb6 := Lib.hid (bseq Hb5.out hb6); clear hb6)
          refine hK.out _ _ (Hb6.out) (fun _ => ?_)
          clear K hK
          try simp only [Act.put, List.getElem_toArray, List.getElem_cons_zero, List.getElem_cons_succ, List.setIfInBounds_toArray, List.set_cons_zero, List.set_cons_succ]
          refine wpAnyH_take (i := 12) (v := .bool false) rfl (by kernel_rfl) (by kernel_rfl) (by kernel_rfl) (fun _ _ _ h => h) (Or.inl ⟨by kernel_rfl, fun W hW => by go_simp⟩) (by assumption) ?_
          try simp only [Act.put, List.getElem_toArray, List.getElem_cons_zero, List.getElem_cons_succ, List.setIfInBounds_toArray, List.set_cons_zero, List.set_cons_succ]
          refine wpAnyH_done (by kernel_rfl) ?_ _
          go_wp2_with fail
          go_roundw
          case rel => exact ⟨k1, by have := Hlt.out; have := Hk1.out; omega, rfl, HTd.out.below Hb6.out, ents_low HLd.out Hb6.out HNd.out, ents_low HAd.out Hb6.out HNd.out, ents_low HBd.out Hb6.out HNd.out, Hbd.out.trans (Hb6.out.mono Hbd.out.size), Nat.le_trans HNd.out Hb6.out.size⟩
          case measure => have := Hlt.out; have := Hk1.out; simp [intOf]; omega
        · have hlt' : ¬ (k : Int) < (L.length : Int) := by omega
          clear hlt hk
          cases tb
          · have hnd := twice_nodup L L.length (Nat.le_refl _) Htb.out
            rw [List.take_length] at hnd
            have Hrev := Lib.hid (Lb.order_of_perm L L.reverse (List.reverse_perm L).symm hnd)
            have HRB := Lib.hid (show ∀ y ∈ L.reverse, Lb.EntB y from fun y hy => HLb.out y (List.mem_reverse.1 hy))
            clear hnd
            go_wp2_with (first
              | (go_at_call 9; with_reducible refine (law_refs (Lb.order L) (.slice pA L.length cA) _ _ HA.out (by have := HLe.out; have := HOe.out; omega) (fun y hy => Nat.le_trans (HOb.out y hy).many (by decide))).mono ?_; rintro e wn ⟨vra, rfl, hO, hb⟩; replace HA := Lib.hid (ents_low HA.out hb HN.out); replace HB := Lib.hid (ents_low HB.out hb HN.out); replace HT := Lib.hid (HT.out.below hb); replace HN := Lib.hid (Nat.le_trans HN.out hb.size); replace Hb := Lib.hid (Hb.out.trans (hb.mono Hb.out.size)); have HRa := Lib.hid hO.entsT; clear hO hb)
              | (go_at_call 9; with_reducible refine (law_refs (Lb.order L) vb _ _ HB.out (by have := HLe.out; have := HOe.out; omega) (fun y hy => Nat.le_trans (HOb.out y hy).many (by decide))).mono ?_; rintro e wn ⟨vrb, rfl, hO, hb⟩; replace HA := Lib.hid (ents_low HA.out hb HN.out); replace HB := Lib.hid (ents_low HB.out hb HN.out); replace HT := Lib.hid (HT.out.below hb); replace HN := Lib.hid (Nat.le_trans HN.out hb.size); replace Hb := Lib.hid (Hb.out.trans (hb.mono Hb.out.size)); replace HRa := Lib.hid (Ents.below HRa.out hb); have HRb := Lib.hid hO.entsT; clear hO hb)
              | (go_at_call 11; with_reducible refine (ref15_same (Lb.order L) (Lb.order L) vra vrb _ _ _ HRa.out HRb.out).mono ?_; rw [decide_eq_true (Eq.refl (Lb.order L))]; rintro e wn ⟨rfl, hb⟩; replace HA := Lib.hid (ents_low HA.out hb HN.out); replace HB := Lib.hid (ents_low HB.out hb HN.out); replace HT := Lib.hid (HT.out.below hb); replace HN := Lib.hid (Nat.le_trans HN.out hb.size); replace Hb := Lib.hid (Hb.out.trans (hb.mono Hb.out.size)); clear hb)
              | (go_at_call 7; refine (lb_Order L.reverse u5 m _ _ (by have h := HT.out.ents; rwa [Hesm.out] at h) (by rw [List.length_reverse]; have := HLe.out; omega) HRB.out (HLB.out _ Hb.out).2.1 (HLB.out _ Hb.out).2.2).mono ?_; rw [← Hrev.out]; rintro e wn ⟨⟨vt, rfl, hV⟩, hb⟩; replace HA := Lib.hid (ents_low HA.out hb HN.out); replace HB := Lib.hid (ents_low HB.out hb HN.out); replace HT := Lib.hid (HT.out.below hb); replace HN := Lib.hid (Nat.le_trans HN.out hb.size); replace Hb := Lib.hid (Hb.out.trans (hb.mono Hb.out.size)); replace HRa := Lib.hid (Ents.below HRa.out hb); have HV := Lib.hid hV; clear hV hb)
              | (go_at_call 9; with_reducible refine (law_refs (Lb.order L) vt _ _ HV.out (by have := HLe.out; have := HOe.out; omega) (fun y hy => Nat.le_trans (HOb.out y hy).many (by decide))).mono ?_; rintro e wn ⟨vrt, rfl, hO, hb⟩; replace HA := Lib.hid (ents_low HA.out hb HN.out); replace HB := Lib.hid (ents_low HB.out hb HN.out); replace HT := Lib.hid (HT.out.below hb); replace HN := Lib.hid (Nat.le_trans HN.out hb.size); replace Hb := Lib.hid (Hb.out.trans (hb.mono Hb.out.size)); replace HRa := Lib.hid (Ents.below HRa.out hb); have HRt := Lib.hid hO.entsT; clear hO hb)
              | (go_at_call 11; with_reducible refine (ref15_same (Lb.order L) (Lb.order L) vra vrt _ _ _ HRa.out HRt.out).mono ?_; rw [decide_eq_true (Eq.refl (Lb.order L))]; rintro e wn ⟨rfl, hb⟩; replace HA := Lib.hid (ents_low HA.out hb HN.out); replace HB := Lib.hid (ents_low HB.out hb HN.out); replace HT := Lib.hid (HT.out.below hb); replace HN := Lib.hid (Nat.le_trans HN.out hb.size); replace Hb := Lib.hid (Hb.out.trans (hb.mono Hb.out.size)); clear hb)
              | (go_at_call 12; refine (law17_fixed m _ (HLB.out _ Hb.out).1 (HLB.out _ Hb.out).2.1 (HLB.out _ Hb.out).2.2).mono ?_; rintro e wn ⟨rfl, hb⟩; replace HA := Lib.hid (ents_low HA.out hb HN.out); replace HB := Lib.hid (ents_low HB.out hb HN.out); replace HT := Lib.hid (HT.out.below hb); replace HN := Lib.hid (Nat.le_trans HN.out hb.size); replace Hb := Lib.hid (Hb.out.trans (hb.mono Hb.out.size)); clear hb))
            go_ret
            exact ⟨rfl, Hb.out⟩
          · go_wp2_with (first
              | (go_at_call 9; with_reducible refine (law_refs (Lb.order L) (.slice pA L.length cA) _ _ HA.out (by have := HLe.out; have := HOe.out; omega) (fun y hy => Nat.le_trans (HOb.out y hy).many (by decide))).mono ?_; rintro e wn ⟨vra, rfl, hO, hb⟩; replace HA := Lib.hid (ents_low HA.out hb HN.out); replace HB := Lib.hid (ents_low HB.out hb HN.out); replace HT := Lib.hid (HT.out.below hb); replace HN := Lib.hid (Nat.le_trans HN.out hb.size); replace Hb := Lib.hid (Hb.out.trans (hb.mono Hb.out.size)); have HRa := Lib.hid hO.entsT; clear hO hb)
              | (go_at_call 9; with_reducible refine (law_refs (Lb.order L) vb _ _ HB.out (by have := HLe.out; have := HOe.out; omega) (fun y hy => Nat.le_trans (HOb.out y hy).many (by decide))).mono ?_; rintro e wn ⟨vrb, rfl, hO, hb⟩; replace HA := Lib.hid (ents_low HA.out hb HN.out); replace HB := Lib.hid (ents_low HB.out hb HN.out); replace HT := Lib.hid (HT.out.below hb); replace HN := Lib.hid (Nat.le_trans HN.out hb.size); replace Hb := Lib.hid (Hb.out.trans (hb.mono Hb.out.size)); replace HRa := Lib.hid (Ents.below HRa.out hb); have HRb := Lib.hid hO.entsT; clear hO hb)
              | (go_at_call 11; with_reducible refine (ref15_same (Lb.order L) (Lb.order L) vra vrb _ _ _ HRa.out HRb.out).mono ?_; rw [decide_eq_true (Eq.refl (Lb.order L))]; rintro e wn ⟨rfl, hb⟩; replace HA := Lib.hid (ents_low HA.out hb HN.out); replace HB := Lib.hid (ents_low HB.out hb HN.out); replace HT := Lib.hid (HT.out.below hb); replace HN := Lib.hid (Nat.le_trans HN.out hb.size); replace Hb := Lib.hid (Hb.out.trans (hb.mono Hb.out.size)); clear hb)
              | (go_at_call 12; refine (law17_fixed m _ (HLB.out _ Hb.out).1 (HLB.out _ Hb.out).2.1 (HLB.out _ Hb.out).2.2).mono ?_; rintro e wn ⟨rfl, hb⟩; replace HA := Lib.hid (ents_low HA.out hb HN.out); replace HB := Lib.hid (ents_low HB.out hb HN.out); replace HT := Lib.hid (HT.out.below hb); replace HN := Lib.hid (Nat.le_trans HN.out hb.size); replace Hb := Lib.hid (Hb.out.trans (hb.mono Hb.out.size)); clear hb))
            go_ret
            exact ⟨rfl, Hb.out⟩
end Go.Proofs.YtanbcokkfbidbaaGreatDoor
