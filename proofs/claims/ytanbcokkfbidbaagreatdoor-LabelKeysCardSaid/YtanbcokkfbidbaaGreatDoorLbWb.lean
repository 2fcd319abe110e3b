/- The walk of label.Pick. -/
import Derived.Test.YtanbcokkfbidbaaGreatDoorLbWa
import Derived.Test.YtanbcokkfbidbaaGreatDoorPD
import Derived.Test.YtanbcokkfbidbaaGreatDoorPB
set_option linter.unusedSimpArgs false
set_option linter.unusedVariables false
namespace Go.Proofs.YtanbcokkfbidbaaGreatDoor
open Go.RowKit
theorem whole_err (l : List Ent.Ent) : ∀ (n : Nat) (key : List UInt8) (seen : List (List UInt8)) (fs : List Ent.Fld) (e : Int), Lb.wholeN l n key seen fs = (none, e) → e = 14 ∨ e = 15
  | 0, _, _, _, e, h => by simp [Lb.wholeN] at h; omega
  | n + 1, key, seen, fs, e, h => by
    rw [Lb.wholeN] at h
    split at h
    · simp at h; omega
    · next x hx =>
      dsimp only at h
      split at h
      · simp at h
      · split at h
        · simp at h; omega
        · exact whole_err l n _ _ _ e h
theorem whole_found (l : List Ent.Ent) (n : Nat) (key : List UInt8) (fs : List Ent.Fld) (e : Int) (h : Lb.wholeN l (n + 1) key [] [] = (some fs, e)) : ∃ x, Lb.findE l key = some x := by
  rw [Lb.wholeN] at h
  split at h
  · simp at h
  · next x hx => exact ⟨x, hx⟩
theorem wholeE_some (l : List Ent.Ent) (key : List UInt8) (fs : List Ent.Fld) (h : Lb.wholeN l (l.length + 1) key [] [] = (some fs, 0)) : Lb.wholeE l key = (some ⟨((Lb.findE l key).getD entZ).kind, ((Lb.findE l key).getD entZ).key, fs⟩, 0) := by
  obtain ⟨x, hx⟩ := whole_found l _ key fs 0 h
  unfold Lb.wholeE
  rw [h, hx]; rfl
theorem wholeE_none (l : List Ent.Ent) (key : List UInt8) (e : Int) (h : Lb.wholeN l (l.length + 1) key [] [] = (none, e)) : Lb.wholeE l key = (none, e) := by
  unfold Lb.wholeE
  rw [h]
theorem Wans.noInv {B : Nat} {w W : World} {x : Ent.Ent} {R : Option (List Ent.Fld) × Int} {vr : Value} {n e : Int} (h : Wans B w x R vr n W) (hR : R = (none, e)) : vr = .agg #[.string ⟨#[]⟩, .string ⟨#[]⟩, .slice none 0 0] ∧ n = e ∧ Below B w W := by
  cases h with
  | ok fs vf h1 h2 h3 => rw [h1] at hR; cases hR
  | no n h1 h2 => rw [h1] at hR; cases hR; exact ⟨rfl, rfl, h2⟩
theorem Wans.okInv {B : Nat} {w W : World} {x : Ent.Ent} {R : Option (List Ent.Fld) × Int} {vr : Value} {n e : Int} {fs : List Ent.Fld} (h : Wans B w x R vr n W) (hR : R = (some fs, e)) : ∃ vf, vr = .agg #[.string ⟨x.kind.toArray⟩, .string ⟨x.key.toArray⟩, vf] ∧ n = 0 ∧ e = 0 ∧ SliceIn (fun j => B ≤ j) 2 RFld W vf fs ∧ Below B w W := by
  cases h with
  | ok fs' vf h1 h2 h3 => rw [h1] at hR; cases hR; exact ⟨vf, rfl, rfl, rfl, h2, h3⟩
  | no n h1 h2 => rw [h1] at hR; cases hR
/-- what Pick holds -/
structure Pst (B : Nat) (w : World) (seen : List (List UInt8)) (out : List Ent.Ent) (ns : List (Int × List UInt8)) (vo vn : Value) (W : World) : Prop where
  m : IMap W B seen.length (seenN seen)
  o : ∃ fl, W.ownsRow (B + 1) 27 3 vo out.length fl ∧ RepRow (REnt (fun j => B + 1 ≤ j ∧ vo.ownBlock ≠ some j ∧ vn.ownBlock ≠ some j) W) out fl
  n : OwnL (B + 1) 69 2 RNote W vn ns
  ap : ∀ q, vo.ownBlock = some q → vn.ownBlock ≠ some q
  b : Below B w W
section
variable {B : Nat} {w W W' : World} {seen : List (List UInt8)} {out : List Ent.Ent} {ns : List (Int × List UInt8)} {vo vn : Value}
theorem Pst.sz (h : Pst B w seen out ns vo vn W) : B + 1 ≤ W.heap.size := h.m.lt
theorem Pst.below (h : Pst B w seen out ns vo vn W) (hb : Below W.heap.size W W') : Pst B w seen out ns vo vn W' := by
  obtain ⟨fl, h1, h2⟩ := h.o
  exact ⟨h.m.below hb, ⟨fl, own_below h1 hb, h2.imp fun x vs _ hx => REnt.moved hx (fun j hj hlt => ⟨hj, hb.block j hlt⟩) hb.size⟩, h.n.below hb, h.ap, h.b.trans (hb.mono (by have := h.sz; omega))⟩
theorem Pst.mapped (h : Pst B w seen out ns vo vn W) (key : List UInt8) (hm : IMap W' B (seen.length + 1) (fun t => if t = key then seenN seen key + 1 else seenN seen t)) (ht : W.grownBy W' (some B)) : Pst B w (seen ++ [key]) out ns vo vn W' := by
  have ht : Turn B W W' := ht
  obtain ⟨fl, h1, h2⟩ := h.o
  refine ⟨?_, ⟨fl, h1.kept ht (by
    cases hb : vo.ownBlock with
    | none => exact .inl rfl
    | some g => exact .inr (fun e => by have := (h1.lt g hb).1; injection e with e; omega)), h2.imp fun x vs _ hx => REnt.moved hx (fun j hj hlt => ⟨hj, ht.block j hlt (fun e => by have := hj.1; injection e with e; omega)⟩) ht.size⟩, h.n.turn ht (by omega), h.ap, Turn.belowOf h.b ht (Nat.le_refl _) (by have := h.sz; omega)⟩
  rw [List.length_append, List.length_singleton]
  refine hm.cong fun s => ?_
  unfold seenN
  rw [List.count_append, List.count_singleton]
  by_cases hs : s = key
  · subst hs; simp
  · rw [if_neg hs]
    have : (key == s) = false := by rw [beq_eq_false_iff_ne]; exact fun e => hs e.symm
    rw [this]; simp
theorem Pst.note (h : Pst B w seen out ns vo vn W) {fl : List Value} {x : Int × List UInt8} {vn' : Value} (hold : W.ownsRow (B + 1) 69 2 vn ns.length fl) (hrep : RepRow RNote ns fl)
    (hown : W'.ownsRow (B + 1) 69 2 vn' (ns.length + 1) (fl ++ [.int .i64 x.1, .string ⟨x.2.toArray⟩])) (hg : W.grownBy W' vn.ownBlock) (hat : vn'.ownBlock = vn.ownBlock ∨ vn'.ownBlock = some (W.heap.size + 1)) : Pst B w seen out (ns ++ [x]) vo vn' W' := by
  obtain ⟨fo, h1, h2⟩ := h.o
  have hlo : ∀ q, q < B + 1 → some q ≠ vn.ownBlock := fun q hq e => by have := (hold.lt q e.symm).1; omega
  refine ⟨h.m.kept (hg.block B h.m.lt (hlo _ (by omega))), ⟨fo, h1.kept hg (by
    cases hb : vo.ownBlock with
    | none => exact .inl rfl
    | some g => exact .inr (fun e => h.ap g hb e.symm)), h2.imp fun y vs _ hy => REnt.moved hy (fun j hj hlt => ⟨⟨hj.1, hj.2.1, fun e => ?_⟩, hg.block j hlt (fun e => hj.2.2 e.symm)⟩) hg.size⟩, OwnL.more hrep rfl hown, fun q hq e => ?_, ?_⟩
  · rcases hat with ha | ha
    · rw [ha] at e; exact hj.2.2 e
    · rw [ha] at e; injection e with e; omega
  · rcases hat with ha | ha
    · rw [ha] at e; exact h.ap q hq e
    · rw [ha] at e; have := (h1.lt q hq).2; injection e with e; omega
  · exact h.b.trans ⟨hg.os, hg.tape, hg.output, hg.size, fun k hk => hg.block k (by have := h.sz; omega) (hlo _ (by omega))⟩
theorem Pst.entry (h : Pst B w seen out ns vo vn W) {fl : List Value} {x : Ent.Ent} {vo' vf : Value} (hold : W.ownsRow (B + 1) 27 3 vo out.length fl) (hrep : RepRow (REnt (fun j => B + 1 ≤ j ∧ vo.ownBlock ≠ some j ∧ vn.ownBlock ≠ some j) W) out fl)
    (hF : SliceIn (fun j => B + 1 ≤ j ∧ vo.ownBlock ≠ some j ∧ vn.ownBlock ≠ some j) 2 RFld W vf x.fields)
    (hown : W'.ownsRow (B + 1) 27 3 vo' (out.length + 1) (fl ++ [.string ⟨x.kind.toArray⟩, .string ⟨x.key.toArray⟩, vf])) (hg : W.grownBy W' vo.ownBlock) (hat : vo'.ownBlock = vo.ownBlock ∨ vo'.ownBlock = some (W.heap.size + 1)) : Pst B w seen (out ++ [x]) ns vo' vn W' := by
  have hlo : ∀ q, q < B + 1 → some q ≠ vo.ownBlock := fun q hq e => by have := (hold.lt q e.symm).1; omega
  have hmv : ∀ j, (B + 1 ≤ j ∧ vo.ownBlock ≠ some j ∧ vn.ownBlock ≠ some j) → j < W.heap.size → (B + 1 ≤ j ∧ vo'.ownBlock ≠ some j ∧ vn.ownBlock ≠ some j) ∧ W'.heap[j]? = W.heap[j]? := fun j hj hlt => by
    refine ⟨⟨hj.1, fun e => ?_, hj.2.2⟩, hg.block j hlt (fun e => hj.2.1 e.symm)⟩
    rcases hat with ha | ha
    · rw [ha] at e; exact hj.2.1 e
    · rw [ha] at e; injection e with e; omega
  obtain ⟨fn, n1, n2⟩ := h.n
  refine ⟨h.m.kept (hg.block B h.m.lt (hlo _ (by omega))), ⟨_, by rw [List.length_append]; exact hown, RepRow.snoc (x := x) ⟨vf, rfl, hF.moved hmv hg.size (fun _ _ _ h => h)⟩ (hrep.imp fun y vs _ hy => REnt.moved hy hmv hg.size)⟩, ⟨fn, n1.kept hg (by
    cases hb : vn.ownBlock with
    | none => exact .inl rfl
    | some g => exact .inr (fun e => h.ap g e.symm hb)), n2⟩, fun q hq e => ?_, ?_⟩
  · rcases hat with ha | ha
    · rw [ha] at hq; exact h.ap q hq e
    · rw [ha] at hq; have := (n1.lt q e).2; injection hq with hq; omega
  · exact h.b.trans ⟨hg.os, hg.tape, hg.output, hg.size, fun k hk => hg.block k (by have := h.sz; omega) (hlo _ (by omega))⟩
theorem Pst.outs (h : Pst B w seen out ns vo vn W) : Ents (fun j => B ≤ j) W vo out := by
  obtain ⟨fl, h1, h2⟩ := h.o
  exact SliceIn.own h1 (h2.imp fun x vs _ hx => REnt.moved hx (fun j hj hlt => ⟨show B ≤ j by omega, rfl⟩) (Nat.le_refl _)) (fun x vs hx => REnt.size x vs hx) rfl (fun b hb => by have := (h1.lt b hb).1; omega)
theorem Pst.nots (h : Pst B w seen out ns vo vn W) : SliceIn (fun j => B ≤ j) 2 RNote W vn ns := h.n.slice RNote.size _ (fun b hb => by omega)
end
set_option maxRecDepth 100000 in
set_option maxHeartbeats 3200000 in
theorem lb_Pick (l : List Ent.Ent) (v : Value) (ks : List (List UInt8)) (vk : Value) (S : Nat → Prop) (w : World) (hE : Ents (fun j => j < w.heap.size) w v l) (hK : SliceIn S 1 RStr w vk ks) (hl : l.length ≤ 1000) (hok : ∀ x ∈ l, Lb.EntB x) (hkl : ks.length ≤ 1000) (hks : ∀ k ∈ ks, k.length ≤ maxLen) :
    Calls Tryz.prog 29 #[v, vk] w fun e w' => (∃ vo vn, e = .returned (.tuple #[vo, vn]) ∧ Ents (fun j => w.heap.size ≤ j) w' vo (Lb.pick l ks).1 ∧ SliceIn (fun j => w.heap.size ≤ j) 2 RNote w' vn (Lb.pick l ks).2) ∧ Below w.heap.size w w' := by
  obtain ⟨i0, hi, hz0, hz1, hz2⟩ := info_parts eent_info
  have Hi := Lib.hid hi; have Hz0 := Lib.hid hz0; have Hz1 := Lib.hid hz1; have Hz2 := Lib.hid hz2; clear hi hz0 hz1 hz2
  obtain ⟨i1, hi, hz0, hz1, hz2⟩ := info_parts note_info
  have Hj := Lib.hid hi; have Hy0 := Lib.hid hz0; have Hy1 := Lib.hid hz1; have Hy2 := Lib.hid hz2; clear hi hz0 hz1 hz2
  have hmm := @run_makeMap Tryz.prog
  obtain ⟨pk, ck, hvk, hkc⟩ : ∃ p c, vk = .slice p ks.length c ∧ True := by obtain ⟨p, c, hv, _⟩ := hK; exact ⟨p, c, hv, trivial⟩
  subst hvk
  have hP0 : Pst w.heap.size w [] [] [] (.slice none 0 0) (.slice none 0 0) (w.alloc (.map #[] 0)) :=
    ⟨(IMap.made w).cong fun s => by simp [seenN], ⟨[], ⟨by simp, .inl ⟨rfl, rfl⟩⟩, rfl⟩, OwnL.nil _ _ _ _ _, fun q hq => by simp [Value.ownBlock] at hq, below_new w _⟩
  have hb0 := below_new w (.map #[] 0)
  obtain ⟨B, hB⟩ : ∃ B, w.heap.size = B := ⟨_, rfl⟩
  have hEB : ∀ W, Below B w W → Ents (fun j => j < W.heap.size) W v l ∧ SliceIn (fun _ => True) 1 RStr W (.slice pk ks.length ck) ks := fun W hW => by
    rw [← hB] at hW
    exact ⟨Ents.kept hE (fun j hj => Nat.lt_of_lt_of_le hj hW.size) hW.size (fun b hb _ => hW.block b hb), SliceIn.moved hK (fun j _ hlt => ⟨trivial, hW.block j hlt⟩) hW.size (fun _ _ _ h => h)⟩
  rw [hB] at hP0 ⊢
  have HEB := Lib.hid hEB; have Hl := Lib.hid hl; have Hok := Lib.hid hok; have Hkl := Lib.hid hkl; have Hks := Lib.hid hks; have HP0 := Lib.hid hP0
  clear hE hK hEB hl hok hkl hks hP0 hb0 hkc
  go_enter Tryz.func29, Tryz.ntmps29
  go_wp2_with fail
  go_loopw [6, 7, 16] (fun vo vn iv wr => ∃ (k : Nat) (seen : List (List UInt8)) (out : List Ent.Ent) (ns : List (Int × List UInt8)), k ≤ ks.length ∧ seen = ks.take k ∧ iv = .int .i64 (k : Int) ∧ Pst B w seen out ns vo vn wr ∧ out.length ≤ k ∧ ns.length ≤ k ∧ Lb.pick l ks = (out ++ (Lb.pickN l seen (ks.drop k)).1, ns ++ (Lb.pickN l seen (ks.drop k)).2)) (fun _ _ iv _ => ks.length - (intOf iv).toNat)
  case atStart => exact ⟨0, [], [], [], Nat.zero_le _, rfl, rfl, HP0.out, Nat.zero_le _, Nat.zero_le _, rfl⟩
  case round =>
    clear HP0
    obtain ⟨k, seen, out, ns, hk, hseen, rfl, hP, hol, hnl, hR⟩ := hrel
    have HP := Lib.hid hP; have HR := Lib.hid hR; have Hseen := Lib.hid hseen; have Hol := Lib.hid hol; have Hnl := Lib.hid hnl
    clear hP hR hseen hol hnl
    by_cases hlt : k < ks.length
    · obtain ⟨y, hy⟩ : ∃ y, ks[k]? = some y := ⟨_, List.getElem?_eq_getElem hlt⟩
      obtain ⟨b, off, hq, e0⟩ : ∃ b off, pk = some ⟨b, off, none⟩ ∧ wr.cell? ⟨b, off + k, none⟩ = some (.string ⟨y.toArray⟩) := by
        obtain ⟨pa, ca, hv, _, _, hat⟩ := (HEB.out _ HP.out.b).2
        obtain ⟨b, off, vs, rfl, _, _, hR, hc⟩ := hat k y hy
        have hR : vs = _ := hR
        subst hR
        simp only [Value.slice.injEq] at hv
        have h0 := hc 0 _ rfl
        rw [Nat.mul_one, Nat.add_zero] at h0
        exact ⟨b, off, hv.1, h0⟩
      subst hq
      have hlt' : (k : Int) < (ks.length : Int) := by omega
      obtain ⟨k1, hk1⟩ : ∃ k1, k1 = k + 1 := ⟨_, rfl⟩
      have hwk : IntKind.i64.wrap ((k : Int) + 1) = (k1 : Int) := by rw [IntWalk.i64_in _ (by have := Hkl.out; omega)]; omega
      have hdr : ks.drop k = y :: ks.drop k1 := by
        obtain ⟨h1, h2⟩ := List.getElem?_eq_some_iff.1 hy
        rw [List.drop_eq_getElem_cons h1, h2, hk1]
      have hst := HR.out
      rw [hdr, Lb.pickN] at hst
      have hsn : seen ++ [y] = ks.take k1 := by rw [Hseen.out, hk1, List.take_add_one, hy]; rfl
      have hsl : seen.length ≤ 1000 := by rw [Hseen.out, List.length_take]; have := Hkl.out; omega
      have hcb : -9223372036854775808 ≤ seenN seen y + 1 ∧ seenN seen y + 1 ≤ 9223372036854775807 := by unfold seenN; have := List.count_le_length (a := y) (l := seen); omega
      have hwc : IntKind.i64.wrap (seenN seen y + 1) = seenN seen y + 1 := IntWalk.i64_in _ hcb
      have hone : seenN (seen ++ [y]) y = seenN seen y + 1 := by unfold seenN; rw [List.count_append]; simp
      have hsm : seen.length < maxLen := by unfold maxLen; omega
      have Hcb := Lib.hid hcb; have Hsm := Lib.hid hsm; have Hst := Lib.hid hst; have Hsn := Lib.hid hsn; have Hk1 := Lib.hid hk1; have Hlt := Lib.hid hlt; have Hyl := Lib.hid (Hks.out y (List.mem_of_getElem? hy)); have Hone := Lib.hid hone
      clear hcb hsm hst hsn hk1 hlt hsl hdr hy hk hone
      cases hcs : seen.contains y with
      | true =>
        have hgt : (1 : Int) < seenN (seen ++ [y]) y := by
          rw [Hone.out]; unfold seenN
          have : 0 < seen.count y := List.count_pos_iff.2 (List.contains_iff_mem.1 hcs)
          omega
        have hs := Hst.out
        rw [if_pos hcs] at hs
        have Hs := Lib.hid hs
        clear hs hcs
        go_wp2_with (first
            | (at_lookup; go_loud (refine wpList_imap_look rfl (.tmp 20) (.tmp 21) rfl B seen.length (seenN seen) rfl HP.out.m y rfl Hyl.out ?_))
            | (at_mapUpdate; go_loud (refine wpList_imap_store rfl (.tmp 20) (.tmp 21) (.tmp 23) rfl B seen.length (seenN seen) rfl HP.out.m y rfl Hyl.out Hsm.out (seenN seen y + 1) rfl Hcb.out ?_); intro w6 hm6 hg6; have HP6 := Lib.hid (HP.out.mapped y hm6 hg6); have HT6 := Lib.hid hg6; clear hm6 hg6)
            | (at_lookup; go_loud (refine wpList_imap_look rfl (.tmp 24) (.tmp 25) rfl B (seen ++ [y]).length (seenN (seen ++ [y])) rfl HP6.out.m y rfl Hyl.out ?_)))
        go_roundw
        case rel => exact ⟨k1, seen ++ [y], out, ns, by have := Hlt.out; have := Hk1.out; omega, Hsn.out, rfl, HP6.out, by have := Hol.out; have := Hk1.out; omega, by have := Hnl.out; have := Hk1.out; omega, Hs.out⟩
        case measure => have := Hlt.out; have := Hk1.out; simp [intOf]; omega
      | false =>
        have hgt : ¬ (1 : Int) < seenN (seen ++ [y]) y := by
          rw [Hone.out]; unfold seenN
          have : seen.count y = 0 := List.count_eq_zero.2 (fun h => by have := List.contains_iff_mem.2 h; rw [hcs] at this; cases this)
          omega
        have hs := Hst.out
        rw [if_neg (by rw [hcs]; exact Bool.false_ne_true)] at hs
        have Hs := Lib.hid hs
        clear hs hcs
        go_upto_region 9 with (first
            | (at_lookup; go_loud (refine wpList_imap_look rfl (.tmp 20) (.tmp 21) rfl B seen.length (seenN seen) rfl HP.out.m y rfl Hyl.out ?_))
            | (at_mapUpdate; go_loud (refine wpList_imap_store rfl (.tmp 20) (.tmp 21) (.tmp 23) rfl B seen.length (seenN seen) rfl HP.out.m y rfl Hyl.out Hsm.out (seenN seen y + 1) rfl Hcb.out ?_); intro w6 hm6 hg6; have HP6 := Lib.hid (HP.out.mapped y hm6 hg6); have HT6 := Lib.hid hg6; clear hm6 hg6)
            | (at_lookup; go_loud (refine wpList_imap_look rfl (.tmp 24) (.tmp 25) rfl B (seen ++ [y]).length (seenN (seen ++ [y])) rfl HP6.out.m y rfl Hyl.out ?_)))
        clear e0 hwc hgt
        obtain ⟨ro, re, hre⟩ : ∃ ro re, Lb.wholeN l (l.length + 1) y [] [] = (ro, re) := ⟨_, _, rfl⟩
        cases ro with
        | none =>
          have hwe := wholeE_none l y re hre
          have hne := whole_err l _ _ _ _ _ hre
          have hs := Hs.out
          rw [hwe] at hs
          dsimp only at hs
          have hre0 : ¬ re = 0 := by omega
          have Hre := Lib.hid hre; have Hs2 := Lib.hid hs
          clear hwe hs hre hne Hs
          go_upto_region 11 with (go_at_call 26; refine (lb_Whole l v y _ (HEB.out _ HP6.out.b).1 Hl.out Hok.out Hyl.out).mono ?_; rintro e w7 ⟨vr, n7, rfl, hA⟩; obtain ⟨rfl, hn7, hb7⟩ := hA.noInv Hre.out; have hn7 := hn7.symm; subst hn7; have HP7 := Lib.hid (HP6.out.below hb7); clear hA hb7)
          obtain ⟨w8, hw8⟩ : ∃ W, W = w7.alloc (.cells #[.string ⟨#[]⟩, .string ⟨#[]⟩, .slice none 0 0] 27) := ⟨_, rfl⟩
          rw [← hw8]
          have HP8 := Lib.hid (HP7.out.below (show Below w7.heap.size w7 w8 by rw [hw8]; exact below_new _ _))
          obtain ⟨fl, hown, hrep⟩ := HP8.out.n
          have hnn := Hnl.out
          have hnlen : ns.length ≤ 2000 := by have := Hlt.out; have := Hkl.out; omega
          have Hown := Lib.hid hown; have Hrep := Lib.hid hrep; have Hnlen := Lib.hid hnlen; have HSZ := Lib.hid HP8.out.sz
          clear hown hrep hnlen hnn hw8 HP7
          go_wp2_with (at_builtin; go_loud (refine wpList_append1 rfl (.tmp 36) (.tmp 40) 38 rfl (B + 1) 69 i1 (.agg #[.int .i64 0, .string ⟨#[]⟩]) 2 24 Tryz.underlying38 Hj.out Hy0.out Hy1.out Hy2.out (by rfl) (by decide) _ _ _ Hown.out rfl [.int .i64 re, .string ⟨y.toArray⟩] rfl (by simp) rfl (by simp [Value.oneCell']) (by have := Hnlen.out; unfold maxLen; omega) (by have := Hnlen.out; omega) HSZ.out ?_); intro v2 w2 own2 g2 at2; have HP9 := Lib.hid (HP8.out.note (x := (re, y)) Hown.out Hrep.out own2 g2 at2))
          go_roundw
          case rel => exact ⟨k1, seen ++ [y], out, ns ++ [(re, y)], by have := Hlt.out; have := Hk1.out; omega, Hsn.out, rfl, HP9.out, by have := Hol.out; have := Hk1.out; omega, by have := Hnl.out; have := Hk1.out; rw [List.length_append, List.length_singleton]; omega, by rw [Hs2.out]; simp⟩
          case measure => have := Hlt.out; have := Hk1.out; simp [intOf]; omega
        | some fs =>
          obtain ⟨x, hx⟩ : ∃ x, (Lb.findE l y).getD entZ = x := ⟨_, rfl⟩
          have Hre := Lib.hid hre; have Hx := Lib.hid hx
          clear hre hx
          go_upto_region 10 with (go_at_call 26; refine (lb_Whole l v y _ (HEB.out _ HP6.out.b).1 Hl.out Hok.out Hyl.out).mono ?_; rw [Hx.out]; rintro e w7 ⟨vr, n7, rfl, hA⟩; obtain ⟨vf, rfl, rfl, hre0, hF, hb7⟩ := hA.okInv Hre.out; obtain ⟨pf, nf, cf, hvf⟩ := SliceIn.shape hF; subst hvf; have HP7 := Lib.hid (HP6.out.below hb7); have HF7 := Lib.hid hF; have Hb7 := Lib.hid hb7; have Hre0 := Lib.hid hre0; clear hA hb7 hF hre0)
          have hwe := wholeE_some l y fs (by rw [Hre.out, Hre0.out])
          have hs := Hs.out
          rw [hwe, Hx.out] at hs
          dsimp only at hs
          have Hs2 := Lib.hid hs
          clear hwe hs Hs
          obtain ⟨w8, hw8⟩ : ∃ W, W = w7.alloc (.cells #[.string ⟨x.kind.toArray⟩, .string ⟨x.key.toArray⟩, .slice pf nf cf] 27) := ⟨_, rfl⟩
          obtain ⟨gx, hgx⟩ : ∃ g, w7.heap.size = g := ⟨_, rfl⟩
          rw [← hw8]
          try rw [hgx]
          have hb8 : Below w7.heap.size w7 w8 := by rw [hw8]; exact below_new _ _
          have HP8 := Lib.hid (HP7.out.below hb8)
          have hEx : E3 w8 gx (.string ⟨x.kind.toArray⟩) (.string ⟨x.key.toArray⟩) (.slice pf nf cf) := by rw [hw8, ← hgx]; exact E3.new _ _ _ _ _
          obtain ⟨fn, n1, _⟩ := HP6.out.n
          obtain ⟨fo, o1, _⟩ := HP6.out.o
          have HF8 := Lib.hid ((SliceIn.below' HF7.out hb8).kept (S' := fun j => B + 1 ≤ j ∧ u6.ownBlock ≠ some j ∧ u7.ownBlock ≠ some j) (fun j hj => ⟨Nat.le_trans HP6.out.sz hj, fun e => by have := (o1.lt j e).2; have := hj; omega, fun e => by have := (n1.lt j e).2; have := hj; omega⟩) (Nat.le_refl _) (fun _ _ _ => rfl) (fun _ _ _ h => h))
          clear n1 o1
          obtain ⟨fl, hown, hrep⟩ := HP8.out.o
          have holen : out.length ≤ 2000 := by have := Hol.out; have := Hlt.out; have := Hkl.out; omega
          have Hown := Lib.hid hown; have Hrep := Lib.hid hrep; have Holen := Lib.hid holen; have HSZ := Lib.hid HP8.out.sz
          have c0 := hEx.c0; have c1 := hEx.c1; have c2 := hEx.c2
          clear hown hrep holen hw8 hgx HP7 HF7 hb8 hEx
          go_wp2_with (at_builtin; go_loud (refine wpList_append1 rfl (.tmp 42) (.tmp 44) 22 rfl (B + 1) 27 i0 (.agg #[.string ⟨#[]⟩, .string ⟨#[]⟩, .slice none 0 0]) 3 56 Tryz.underlying22 Hi.out Hz0.out Hz1.out Hz2.out (by rfl) (by decide) _ _ _ Hown.out rfl [.string ⟨x.kind.toArray⟩, .string ⟨x.key.toArray⟩, .slice pf nf cf] rfl (by simp) rfl (by simp [Value.oneCell']) (by have := Holen.out; unfold maxLen; omega) (by have := Holen.out; omega) HSZ.out ?_); intro v2 w2 own2 g2 at2; have HP9 := Lib.hid (HP8.out.entry (x := ⟨x.kind, x.key, fs⟩) Hown.out Hrep.out HF8.out own2 g2 at2))
          go_roundw
          case rel => exact ⟨k1, seen ++ [y], out ++ [⟨x.kind, x.key, fs⟩], ns, by have := Hlt.out; have := Hk1.out; omega, Hsn.out, rfl, HP9.out, by have := Hol.out; have := Hk1.out; rw [List.length_append, List.length_singleton]; omega, by have := Hnl.out; have := Hk1.out; omega, by rw [Hs2.out]; simp⟩
          case measure => have := Hlt.out; have := Hk1.out; simp [intOf]; omega
    · have hlt' : ¬ (k : Int) < (ks.length : Int) := by omega
      have hfin : Lb.pick l ks = (out, ns) := by
        have := HR.out
        rw [List.drop_of_length_le (by omega)] at this
        rw [this]; simp [Lb.pickN]
      have Hfin := Lib.hid hfin
      clear hlt hk hfin
      go_wp2_with fail
      go_ret2
      refine ⟨⟨_, _, rfl, ?_, ?_⟩, HP.out.b⟩
      · rw [Hfin.out]; exact HP.out.outs
      · rw [Hfin.out]; exact HP.out.nots
end Go.Proofs.YtanbcokkfbidbaaGreatDoor
