/- The walk of stetlaw20.Refs. The walks of package bib, first part: a run in memory; read, note. -/
import Derived.Test.YtibinlpbcoihoaaGreatDoorRuF1
import Derived.Test.YtibinlpbcoihoaaGreatDoorG05
import Derived.Test.YtibinlpbcoihoaaGreatDoorG09
import Derived.Test.YtibinlpbcoihoaaGreatDoorG06
import Derived.Test.YtibinlpbcoihoaaGreatDoorChecked
import Derived.Test.YtibinlpbcoihoaaGreatDoorShelf
import Derived.WalkKit
import Derived.LaidEql
import Derived.Stop.Asserts
import Derived.RowKitTokens
set_option linter.unusedSimpArgs false
set_option linter.unusedVariables false
namespace Go.Proofs.YtibinlpbcoihoaaGreatDoor
open Go.RowKit
/-- what a record's parts lie in, but for blocks that are not meant -/
structure PartsS (S : Nat → Prop) (w : World) (p : RecV) : Prop where
  r : SliceIn S 3 RSn w p.2.1 p.1.reads
  w : SliceIn S 2 RFl w p.2.2 p.1.writes
theorem PartsS.below {S : Nat → Prop} {w w' : World} {p : RecV} (h : PartsS S w p) (hb : Below w.heap.size w w') : PartsS S w' p := ⟨h.r.below' hb, h.w.below' hb⟩
theorem PartsS.any {S : Nat → Prop} {w : World} {p : RecV} (h : PartsS S w p) : PartsIn w p := ⟨h.r.any, h.w.any⟩
theorem PartsIn.outer {w : World} {p : RecV} (h : PartsIn w p) : PartsS (fun j => j < w.heap.size) w p :=
  ⟨h.r.strong.kept (fun _ h => h.2) (Nat.le_refl _) (fun _ _ _ => rfl) (fun _ _ _ h => h), h.w.strong.kept (fun _ h => h.2) (Nat.le_refl _) (fun _ _ _ => rfl) (fun _ _ _ h => h)⟩
theorem SliceIn.grownS {α : Type} {S S' : Nat → Prop} {n : Nat} {R : α → List Value → Prop} {w w' : World} {v : Value} {l : List α} {row : Option Nat} (h : SliceIn S n R w v l) (hg : w.grownBy w' row) (hr : ∀ j, S j → row ≠ some j) (hS : ∀ j, S j → j < w.heap.size → S' j) : SliceIn S' n R w' v l :=
  h.strong.kept (fun j hj => hS j hj.1 hj.2) hg.size (fun b hb hl => hg.block b hl (Ne.symm (hr b hb.1))) (fun _ _ _ h => h)
theorem PartsS.grown {S S' : Nat → Prop} {w w' : World} {p : RecV} {row : Option Nat} (h : PartsS S w p) (hg : w.grownBy w' row) (hr : ∀ j, S j → row ≠ some j) (hS : ∀ j, S j → j < w.heap.size → S' j) : PartsS S' w' p := ⟨h.r.grownS hg hr hS, h.w.grownS hg hr hS⟩
theorem PartsS.mono {S S' : Nat → Prop} {w : World} {p : RecV} (h : PartsS S w p) (hS : ∀ j, S j → S' j) : PartsS S' w p :=
  ⟨h.r.kept hS (Nat.le_refl _) (fun _ _ _ => rfl) (fun _ _ _ h => h), h.w.kept hS (Nat.le_refl _) (fun _ _ _ => rfl) (fun _ _ _ h => h)⟩
/-- a row of records -/
structure RecsIn (w : World) (v : Value) (L : List RecV) : Prop where
  row : SliceIn (fun _ => True) 3 RRec w v L
  all : ∀ p ∈ L, PartsIn w p
theorem RecsIn.below {w w' : World} {v : Value} {L : List RecV} (h : RecsIn w v L) (hb : Below w.heap.size w w') : RecsIn w' v L := ⟨sliceBelow h.row hb, fun p hp => (h.all p hp).below hb⟩
set_option maxRecDepth 100000 in
set_option maxHeartbeats 3200000 in
theorem law20_refs (L : List RecV) (v : Value) (w : World) (hR : RecsIn w v L) (hl : L.length ≤ 10000) (hn : ∀ p ∈ L, p.1.reads.length ≤ 100000) :
    Calls Tryz.prog 33 #[v] w fun e w' => ∃ (g c : Nat) (A : List RecV), e = .returned (.slice (some ⟨g, 0, none⟩) A.length c) ∧ A.map (·.1) = L.map (·.1) ∧ RecsIn w' (.slice (some ⟨g, 0, none⟩) A.length c) A ∧ Below w.heap.size w w' := by
  obtain ⟨i0, hi, hz0, hz1, hz2⟩ := info_parts rec_infoR
  have Hi := Lib.hid hi; have Hz0 := Lib.hid hz0; have Hz1 := Lib.hid hz1; have Hz2 := Lib.hid hz2; clear hi hz0 hz1 hz2
  obtain ⟨pa, cap, rfl⟩ : ∃ p c, v = .slice p L.length c := by obtain ⟨p, c, h, _⟩ := hR.row; exact ⟨p, c, h⟩
  have HR := Lib.hid hR; have Hl := Lib.hid hl; have Hn := Lib.hid hn
  clear hR hl hn
  have hO := Lib.hid (OwnL.made w.heap.size 75 3 RRec w (Nat.le_refl _))
  have hB := Lib.hid (below_new w (.cells #[] 75))
  go_enter Tryz.func33, Tryz.ntmps33
  go_wp2_with fail
  go_loopw [3, 4] (fun ov iv wr => ∃ (k g c : Nat) (A : List RecV), k ≤ L.length ∧ A.length = k ∧ iv = .int .i64 (k : Int) ∧ ov = .slice (some ⟨g, 0, none⟩) k c ∧ w.heap.size ≤ g ∧ A.map (·.1) = (L.take k).map (·.1) ∧ OwnL w.heap.size 75 3 RRec wr ov A ∧ (∀ p ∈ A, PartsS (fun j => j ≠ g) wr p) ∧ Below w.heap.size w wr) (fun _ iv _ => L.length - (intOf iv).toNat)
  case atStart => exact ⟨0, _, _, [], Nat.zero_le _, rfl, rfl, rfl, Nat.le_refl _, rfl, hO.out, fun p hp => by simp at hp, hB.out⟩
  case round =>
    clear hO hB
    obtain ⟨k, g, c, A, hk, hAl, rfl, rfl, hgw, hAm, hO, hAp, hb⟩ := hrel
    by_cases hlt : k < L.length
    · obtain ⟨x, hx⟩ : ∃ x, L[k]? = some x := ⟨_, List.getElem?_eq_getElem hlt⟩
      obtain ⟨b, off, rfl⟩ := row_some HR.out.row hx
      have hxm := List.mem_of_getElem? hx
      have hnx := Hn.out x hxm
      have hpx := HR.out.all x hxm
      have hAm2 : (A ++ [x]).map (·.1) = (L.take (k + 1)).map (·.1) := by rw [takeS L k x hx, List.map_append, List.map_append, hAm]
      obtain ⟨x, vr, vw⟩ := x
      obtain ⟨pr, cr, hvr⟩ : ∃ p c, vr = .slice p x.reads.length c := by obtain ⟨p, c, h, _⟩ := hpx.r; exact ⟨p, c, h⟩
      obtain ⟨pw, cw, hvw⟩ : ∃ p c, vw = .slice p x.writes.length c := by obtain ⟨p, c, h, _⟩ := hpx.w; exact ⟨p, c, h⟩
      subst hvr; subst hvw
      have HF := Lib.hid (show ∀ W, Below w.heap.size w W → W.cell? ⟨b, off + k * 3, none⟩ = some (.string ⟨x.rule.toArray⟩) ∧ W.cell? ⟨b, off + k * 3 + 1, none⟩ = some (.slice pr x.reads.length cr) ∧ W.cell? ⟨b, off + k * 3 + 2, none⟩ = some (.slice pw x.writes.length cw) from fun W hW => rec_cells (HR.out.row.below hW (fun _ _ _ h => h)) hx)
      have hlt' : (k : Int) < (L.length : Int) := by omega
      have hwk := f2_w1 k (by have := Hl.out; omega)
      have hO := hO.below (Below.refl _ _).drew
      obtain ⟨fl, hown, hrep⟩ := hO
      rw [hAl] at hown
      have Hap := Lib.hid (show ∀ p ∈ A, PartsS (fun j => j ≠ g) wr.drew p from fun p hp => (hAp p hp).below (Below.refl _ _).drew)
      have Hown := Lib.hid hown; have Hrep := Lib.hid hrep; have Hb := Lib.hid hb; have Hlt := Lib.hid hlt; have Hwk := Lib.hid hwk; have Hal := Lib.hid hAl; have Hgw := Lib.hid hgw; have Ham := Lib.hid hAm2; have Hpx := Lib.hid hpx; have Hnx := Lib.hid hnx
      have Hm1 := Lib.hid (show k + 1 ≤ maxLen by have := Hl.out; unfold maxLen; omega)
      have Hn1 := Lib.hid (show (k + 1) * 64 ≤ 140737488355328 by have := Hl.out; omega)
      clear hown hrep hb hlt hwk hx hk hAl hAm hAm2 hAp hgw hpx hnx hxm
      go_upto_region 5 with fail
      refine wp_region_any (by kernel_rfl) ?_
      change wpAny _ _ _ _ _ _ _ (World.drew _)
      skip
      refine wpAny_of_held (S := fun W => Below w.heap.size w W) _ _ _ _ ?_
      have hS1 : Below w.heap.size w wr.drew := Hb.out.drew
      have hS2 : (fun W => Below w.heap.size w W) wr.drew := hS1
      refine wpAnyH_take (i := 0) (v := ?v1) rfl (by kernel_rfl) (by kernel_rfl) (by kernel_rfl) (fun _ _ _ h => h) (Or.inl ⟨by kernel_rfl, fun W hW => ?h1⟩) (by assumption) ?_
      case h1 => (go_simp; rfl)
      refine wpAnyH_take (i := 1) (v := ?v2) rfl (by kernel_rfl) (by kernel_rfl) (by kernel_rfl) (fun _ _ _ h => h) (Or.inl ⟨by kernel_rfl, fun W hW => ?h2⟩) (by assumption) ?_
      case h2 => (go_simp; rfl)
      refine wpAnyH_take (i := 2) (v := ?v3) rfl (by kernel_rfl) (by kernel_rfl) (by kernel_rfl) (fun _ _ _ h => h) (Or.inl ⟨by kernel_rfl, fun W hW => ?h3⟩) (by assumption) ?_
      case h3 => (go_simp; rfl)
      refine wpAnyH_take (i := 3) (v := ?v4) rfl (by kernel_rfl) (by kernel_rfl) (by kernel_rfl) (fun _ _ _ h => h) (Or.inl ⟨by kernel_rfl, fun W hW => ?h4⟩) (by assumption) ?_
      case h4 => (go_simp; rfl)
      refine wpAnyH_take (i := 4) (v := ?v5) rfl (by kernel_rfl) (by kernel_rfl) (by kernel_rfl) (fun _ _ _ h => h) (Or.inl ⟨by kernel_rfl, fun W hW => ?h5⟩) (by assumption) ?_
      case h5 => (go_simp; rfl)
      refine wpAnyH_take (i := 5) (v := ?v6) rfl (by kernel_rfl) (by kernel_rfl) (by kernel_rfl) (fun _ _ _ h => h) (Or.inl ⟨by kernel_rfl, fun W hW => ?h6⟩) (by assumption) ?_
      case h6 => (obtain ⟨c0, c1, c2⟩ := HF.out W hW; go_simp; rfl)
      refine wpAnyH_take (i := 6) (v := ?v7) rfl (by kernel_rfl) (by kernel_rfl) (by kernel_rfl) (fun _ _ _ h => h) (Or.inl ⟨by kernel_rfl, fun W hW => ?h7⟩) (by assumption) ?_
      case h7 => (go_simp; rfl)
      refine wpAnyH_take (i := 7) (v := ?v8) rfl (by kernel_rfl) (by kernel_rfl) (by kernel_rfl) (fun _ _ _ h => h) (Or.inl ⟨by kernel_rfl, fun W hW => ?h8⟩) (by assumption) ?_
      case h8 => (go_simp; rfl)
      refine wpAnyH_take (i := 8) (v := ?v9) rfl (by kernel_rfl) (by kernel_rfl) (by kernel_rfl) (fun _ _ _ h => h) (Or.inl ⟨by kernel_rfl, fun W hW => ?h9⟩) (by assumption) ?_
      case h9 => (go_simp; rfl)
      refine wpAnyH_take (i := 9) (v := ?v10) rfl (by kernel_rfl) (by kernel_rfl) (by kernel_rfl) (fun _ _ _ h => h) (Or.inl ⟨by kernel_rfl, fun W hW => ?h10⟩) (by assumption) ?_
      case h10 => (go_simp; rfl)
      refine wpAnyH_take (i := 10) (v := ?v11) rfl (by kernel_rfl) (by kernel_rfl) (by kernel_rfl) (fun _ _ _ h => h) (Or.inl ⟨by kernel_rfl, fun W hW => ?h11⟩) (by assumption) ?_
      case h11 => (obtain ⟨c0, c1, c2⟩ := HF.out W hW; go_simp; rfl)
      refine wpAnyH_take (i := 12) (v := ?v12) rfl (by kernel_rfl) (by kernel_rfl) (by kernel_rfl) (fun _ _ _ h => h) (Or.inl ⟨by kernel_rfl, fun W hW => ?h12⟩) (by assumption) ?_
      case h12 => (go_simp; rfl)
      refine wpAnyH_take (i := 13) (v := ?v13) rfl (by kernel_rfl) (by kernel_rfl) (by kernel_rfl) (fun _ _ _ h => h) (Or.inl ⟨by kernel_rfl, fun W hW => ?h13⟩) (by assumption) ?_
      case h13 => (go_simp; rfl)
      refine wpAnyH_take (i := 14) (v := ?v14) rfl (by kernel_rfl) (by kernel_rfl) (by kernel_rfl) (fun _ _ _ h => h) (Or.inl ⟨by kernel_rfl, fun W hW => ?h14⟩) (by assumption) ?_
      case h14 => (go_simp; rfl)
      refine wpAnyH_take (i := 15) (v := ?v15) rfl (by kernel_rfl) (by kernel_rfl) (by kernel_rfl) (fun _ _ _ h => h) (Or.inl ⟨by kernel_rfl, fun W hW => ?h15⟩) (by assumption) ?_
      case h15 => (go_simp; rfl)
      refine wpAnyH_take (i := 16) (v := ?v16) rfl (by kernel_rfl) (by kernel_rfl) (by kernel_rfl) (fun _ _ _ h => h) (Or.inl ⟨by kernel_rfl, fun W hW => ?h16⟩) (by assumption) ?_
      case h16 => (obtain ⟨c0, c1, c2⟩ := HF.out W hW; go_simp; rfl)
      refine wpAnyH_ready (rs := [11]) (by kernel_rfl) (by simp) ?_
      refine AllReadyH.cons rfl (fun K hK => ?_) AllReadyH.nil
      try simp only [Act.put, List.getElem_toArray, List.getElem_cons_zero, List.getElem_cons_succ, List.setIfInBounds_toArray, List.set_cons_zero, List.set_cons_succ]
      go_simp
      go_wp2_with (go_at_call 51; refine (law20_seens x.reads _ (fun _ => True) _ (sliceBelow Hpx.out.r hS1) Hnx.out).mono ?_; rintro e w5 ⟨gs, cs, rfl, hO5, hb5⟩)
      have hS5 := hS1.trans (hb5.mono hS1.size)
      have Hown5 := Lib.hid (own_below Hown.out hb5)
      have Hap5 := Lib.hid (show ∀ p ∈ A, PartsS (fun j => j ≠ g) w5 p from fun p hp => (Hap.out p hp).below hb5)
      have hgs : g < wr.drew.heap.size := (World.ownsRow.lt Hown.out g rfl).2
      have Hnew := Lib.hid (show PartsS (fun j => j ≠ g) w5 (x, .slice (some ⟨gs, 0, none⟩) x.reads.length cs, .slice pw x.writes.length cw) from ⟨hO5.slice RSn.size _ (fun b hb => by omega), ((Hpx.out.outer.w.below' hS5).kept (fun j (hj : j < w.heap.size) => by have := Hgw.out; omega) (Nat.le_refl _) (fun _ _ _ => rfl) (fun _ _ _ h => h))⟩)
      refine hK.out _ _ (hS5) (fun _ => ?_)
      clear K hK
      try simp only [Act.put, List.getElem_toArray, List.getElem_cons_zero, List.getElem_cons_succ, List.setIfInBounds_toArray, List.set_cons_zero, List.set_cons_succ]
      refine wpAnyH_take (i := 17) (v := ?v17) rfl (by kernel_rfl) (by kernel_rfl) (by kernel_rfl) (fun _ _ _ h => h) (Or.inl ⟨by kernel_rfl, fun W hW => ?h17⟩) (by assumption) ?_
      case h17 => (go_simp; rfl)
      refine wpAnyH_ready (rs := [18]) (by kernel_rfl) (by simp) ?_
      refine AllReadyH.cons rfl (fun K hK => ?_) AllReadyH.nil
      try simp only [Act.put, List.getElem_toArray, List.getElem_cons_zero, List.getElem_cons_succ, List.setIfInBounds_toArray, List.set_cons_zero, List.set_cons_succ]
      go_simp
      refine hK.out _ _ (hS5.alloc hS5.size (.cells #[.string ⟨x.rule.toArray⟩, .slice (some ⟨gs, 0, none⟩) x.reads.length cs, .slice pw x.writes.length cw] 75)) (fun _ => ?_)
      clear K hK
      try simp only [Act.put, List.getElem_toArray, List.getElem_cons_zero, List.getElem_cons_succ, List.setIfInBounds_toArray, List.set_cons_zero, List.set_cons_succ]
      refine wpAnyH_ready (rs := [19]) (by kernel_rfl) (by simp) ?_
      refine AllReadyH.cons rfl (fun K hK => ?_) AllReadyH.nil
      try simp only [Act.put, List.getElem_toArray, List.getElem_cons_zero, List.getElem_cons_succ, List.setIfInBounds_toArray, List.set_cons_zero, List.set_cons_succ]
      rw [if_pos (by kernel_rfl)]
      refine wp_append1 (.tmp 12) (.tmp 30) 77 rfl w.heap.size 75 i0 (.agg #[.string ⟨#[]⟩, .slice none 0 0, .slice none 0 0]) 3 64 Tryz.underlying77 Hi.out Hz0.out Hz1.out Hz2.out (by rfl) (by decide) _ k fl Hown5.out rfl [.string ⟨x.rule.toArray⟩, .slice (some ⟨gs, 0, none⟩) x.reads.length cs, .slice pw x.writes.length cw] rfl rfl rfl (by simp [Value.oneCell']) Hm1.out Hn1.out hS5.size ?_
      intro v2 w9 own6 g2 at2
      have hb9 := hS5.grown g2 hS5.size (fun q e => (World.ownsRow.lt Hown5.out q e).1)
      refine hK.out _ _ (hb9) (fun _ => ?_)
      clear K hK
      try simp only [Act.put, List.getElem_toArray, List.getElem_cons_zero, List.getElem_cons_succ, List.setIfInBounds_toArray, List.set_cons_zero, List.set_cons_succ]
      refine wpAnyH_take (i := 20) (v := ?v18) rfl (by kernel_rfl) (by kernel_rfl) (by kernel_rfl) (fun _ _ _ h => h) (Or.inl ⟨by kernel_rfl, fun W hW => ?h18⟩) (by assumption) ?_
      case h18 => (go_simp; rfl)
      refine wpAnyH_done (by kernel_rfl) ?_ _
      try simp only [Act.put, List.getElem_toArray, List.getElem_cons_zero, List.getElem_cons_succ, List.setIfInBounds_toArray, List.set_cons_zero, List.set_cons_succ]
      obtain ⟨p2, cap2, hv2, _⟩ := own6.form (Nat.succ_pos _)
      subst hv2
      have Hnext := Lib.hid (show ∀ p ∈ A ++ [(x, .slice (some ⟨gs, 0, none⟩) x.reads.length cs, .slice pw x.writes.length cw)], PartsS (fun j => j ≠ p2) w9 p from fun p hp => by
        have h : PartsS (fun j => j ≠ g) w5 p := by
          rcases List.mem_append.1 hp with h | h
          · exact Hap5.out p h
          · rw [List.mem_singleton.1 h]; exact Hnew.out
        refine h.grown g2 (fun j hj e => hj ?_) (fun j hj hl => ?_)
        · simp only [Value.ownBlock, Option.some.injEq] at e; exact e.symm
        · rcases at2 with h2 | h2
          · simp only [Value.ownBlock, Option.some.injEq] at h2; rw [h2]; exact hj
          · simp only [Value.ownBlock, Option.some.injEq] at h2; omega)
      have Hp2 := Lib.hid (show w.heap.size ≤ p2 from (World.ownsRow.lt own6 p2 rfl).1)
      go_wp2_with fail
      go_roundw
      case rel =>
        refine ⟨k + 1, p2, cap2, A ++ [(x, .slice (some ⟨gs, 0, none⟩) x.reads.length cs, .slice pw x.writes.length cw)], by have := Hlt.out; omega, by rw [List.length_append, Hal.out]; rfl, by first | rfl | rw [Hwk.out], rfl, Hp2.out, by rw [← Ham.out]; simp, ?_, Hnext.out, hb9⟩
        refine ⟨_, ?_, RepRow.snoc (R := RRec) (x := (x, .slice (some ⟨gs, 0, none⟩) x.reads.length cs, .slice pw x.writes.length cw)) (vs := [.string ⟨x.rule.toArray⟩, .slice (some ⟨gs, 0, none⟩) x.reads.length cs, .slice pw x.writes.length cw]) rfl Hrep.out⟩
        rw [List.length_append, Hal.out]
        exact own6
      case measure => have := Hlt.out; (try rw [Hwk.out]); simp [intOf]; omega
    · have he : k = L.length := by omega
      rw [he, List.take_length] at hAm
      have HO := Lib.hid hO; have Hb := Lib.hid hb; have Hap := Lib.hid hAp; have Ham := Lib.hid hAm; have Hal := Lib.hid hAl
      have hlt' : ¬ (k : Int) < (L.length : Int) := by omega
      clear hO hb hlt hk he hAp hAm hAl
      go_wp2_with fail
      go_ret
      refine ⟨g, c, A, by rw [Hal.out]; rfl, Ham.out, ⟨?_, fun p hp => (Hap.out p hp).any⟩, Hb.out⟩
      rw [Hal.out]
      exact HO.out.slice RRec.size _ (fun _ _ => trivial)
end Go.Proofs.YtibinlpbcoihoaaGreatDoor
set_option linter.unusedSimpArgs false
set_option linter.unusedVariables false
namespace Go.Proofs.YtibinlpbcoihoaaGreatDoor
open Go.RowKit
namespace Bb
end Bb
/-- three cells of one block -/
structure T3 (W : World) (g : Nat) (a b c : Value) : Prop where
  c0 : W.cell? ⟨g, 0, none⟩ = some a
  c1 : W.cell? ⟨g, 1, none⟩ = some b
  c2 : W.cell? ⟨g, 2, none⟩ = some c
  f : ∀ i, W.frozen? ⟨g, i, none⟩ = false
  lt : g < W.heap.size
section
variable {W W' : World} {g : Nat} {a b c : Value}
theorem T3.below (h : T3 W g a b c) (hb : Below W.heap.size W W') : T3 W' g a b c :=
  ⟨(hb.cell (p := ⟨g, 0, none⟩) h.lt).trans h.c0, (hb.cell (p := ⟨g, 1, none⟩) h.lt).trans h.c1, (hb.cell (p := ⟨g, 2, none⟩) h.lt).trans h.c2,
   fun i => (World.frozen?_of_block (hb.block g h.lt)).trans (h.f i), Nat.lt_of_lt_of_le h.lt hb.size⟩
theorem T3.grown {row : Option Nat} (h : T3 W g a b c) (hg : W.grownBy W' row) (hne : row ≠ some g) : T3 W' g a b c :=
  ⟨(grown_cell hg h.lt hne 0).trans h.c0, (grown_cell hg h.lt hne 1).trans h.c1, (grown_cell hg h.lt hne 2).trans h.c2, fun i => (grown_frozen hg h.lt hne i).trans (h.f i), Nat.lt_of_lt_of_le h.lt hg.size⟩
theorem T3.set1 (h : T3 W g a b c) (v : Value) : T3 (W.setCell ⟨g, 1, none⟩ v) g a v c :=
  ⟨(World.cell?_setCell_other _ _ _ _ (by simp)).trans h.c0, World.cell?_setCell_same _ _ _ h.c1, (World.cell?_setCell_other _ _ _ _ (by simp)).trans h.c2, fun j => by simpa using h.f j, by simpa using h.lt⟩
theorem T3.set2 (h : T3 W g a b c) (v : Value) : T3 (W.setCell ⟨g, 2, none⟩ v) g a b v :=
  ⟨(World.cell?_setCell_other _ _ _ _ (by simp)).trans h.c0, (World.cell?_setCell_other _ _ _ _ (by simp)).trans h.c1, World.cell?_setCell_same _ _ _ h.c2, fun j => by simpa using h.f j, by simpa using h.lt⟩
end
/-- a run in memory: its cells, what was read, what was noted -/
structure Wk (g : Nat) (vf vr vn : Value) (rs : List (List UInt8)) (ns : List (Int × List UInt8)) (W : World) : Prop where
  t : T3 W g vf vr vn
  r : OwnL (g + 1) 9 1 RStr W vr rs
  n : OwnL (g + 1) 166 2 RNote W vn ns
/-- what a run's doing leaves as it was -/
structure Mv (g : Nat) (vr vn vr' vn' : Value) (w w' : World) : Prop where
  os : w'.os = w.os
  tape : w'.tape = w.tape
  output : w'.output = w.output
  size : w.heap.size ≤ w'.heap.size
  block : ∀ k, k < w.heap.size → k ≠ g → vr.ownBlock ≠ some k → vn.ownBlock ≠ some k → w'.heap[k]? = w.heap[k]?
  r : vr'.ownBlock = vr.ownBlock ∨ ∃ j, vr'.ownBlock = some j ∧ w.heap.size ≤ j
  n : vn'.ownBlock = vn.ownBlock ∨ ∃ j, vn'.ownBlock = some j ∧ w.heap.size ≤ j
theorem Mv.refl (g : Nat) (vr vn : Value) (w : World) : Mv g vr vn vr vn w w := ⟨rfl, rfl, rfl, Nat.le_refl _, fun _ _ _ _ _ => rfl, .inl rfl, .inl rfl⟩
theorem Mv.trans {g : Nat} {vr vn vr1 vn1 vr2 vn2 : Value} {a b c : World} (h : Mv g vr vn vr1 vn1 a b) (k : Mv g vr1 vn1 vr2 vn2 b c) : Mv g vr vn vr2 vn2 a c := by
  refine ⟨k.os.trans h.os, k.tape.trans h.tape, k.output.trans h.output, Nat.le_trans h.size k.size, fun i hi h1 h2 h3 => ?_, ?_, ?_⟩
  · refine (k.block i (Nat.lt_of_lt_of_le hi h.size) h1 ?_ ?_).trans (h.block i hi h1 h2 h3)
    · rcases h.r with e | ⟨j, e, hj⟩
      · rw [e]; exact h2
      · rw [e]; intro e2; injection e2 with e2; omega
    · rcases h.n with e | ⟨j, e, hj⟩
      · rw [e]; exact h3
      · rw [e]; intro e2; injection e2 with e2; omega
  · rcases k.r with e | ⟨j, e, hj⟩
    · rw [e]; exact h.r
    · exact .inr ⟨j, e, Nat.le_trans h.size hj⟩
  · rcases k.n with e | ⟨j, e, hj⟩
    · rw [e]; exact h.n
    · exact .inr ⟨j, e, Nat.le_trans h.size hj⟩
theorem Mv.below {g B : Nat} {vr vn vr' vn' : Value} {w w' : World} (h : Mv g vr vn vr' vn' w w') (hg : B ≤ g) (hr : ∀ k, vr.ownBlock = some k → B ≤ k) (hn : ∀ k, vn.ownBlock = some k → B ≤ k) (hB : B ≤ w.heap.size) : Below B w w' :=
  ⟨h.os, h.tape, h.output, h.size, fun k hk => h.block k (by omega) (by omega) (fun e => by have := hr k e; omega) (fun e => by have := hn k e; omega)⟩
theorem Wk.below {g : Nat} {vf vr vn : Value} {rs : List (List UInt8)} {ns : List (Int × List UInt8)} {W W' : World} (h : Wk g vf vr vn rs ns W) (hb : Below W.heap.size W W') : Wk g vf vr vn rs ns W' := ⟨h.t.below hb, h.r.below hb, h.n.below hb⟩
theorem ownL_ge {α : Type} {B : Nat} {t : TypeId} {n : Nat} {R : α → List Value → Prop} {W : World} {v : Value} {l : List α} (h : OwnL B t n R W v l) : ∀ k, v.ownBlock = some k → B ≤ k := by
  obtain ⟨fl, h1, _⟩ := h
  exact fun k hk => (h1.lt k hk).1
theorem own_apart {w : World} {b1 b2 s1 s2 n1 n2 : Nat} {t1 t2 : TypeId} {v1 v2 : Value} {x1 x2 : List Value} (h1 : w.ownsRow b1 t1 s1 v1 n1 x1) (h2 : w.ownsRow b2 t2 s2 v2 n2 x2) (ht : t1 ≠ t2) : v1.ownBlock = none ∨ v1.ownBlock ≠ v2.ownBlock := by
  rcases h1.2 with ⟨hv, _⟩ | ⟨g, cap, cur, hv, _, hh, _⟩
  · left; rw [hv]; rfl
  · right
    intro e
    rcases h2.2 with ⟨hv2, _⟩ | ⟨g2, cap2, cur2, hv2, _, hh2, _⟩
    · rw [hv, hv2] at e; cases e
    · rw [hv, hv2] at e
      simp only [Value.ownBlock, Option.some.injEq] at e
      subst e
      rw [hh] at hh2
      simp at hh2
      exact ht hh2.2
theorem ownL_apart {α β : Type} {B C : Nat} {t u : TypeId} {m n : Nat} {R : α → List Value → Prop} {Q : β → List Value → Prop} {W : World} {v x : Value} {l : List α} {k : List β} (h : OwnL B t m R W v l) (h2 : OwnL C u n Q W x k) (ht : t ≠ u) : ∀ j, v.ownBlock = some j → x.ownBlock ≠ some j := by
  obtain ⟨f1, o1, _⟩ := h
  obtain ⟨f2, o2, _⟩ := h2
  intro j hj e
  rcases own_apart o1 o2 ht with h | h
  · rw [h] at hj; cases hj
  · exact h (hj.trans e.symm)
theorem ownL_grown {α : Type} {B : Nat} {t : TypeId} {n : Nat} {R : α → List Value → Prop} {W W' : World} {v : Value} {l : List α} {row : Option Nat} (h : OwnL B t n R W v l) (hg : W.grownBy W' row) (hne : ∀ j, v.ownBlock = some j → row ≠ some j) : OwnL B t n R W' v l := by
  obtain ⟨fl, h1, h2⟩ := h
  refine ⟨fl, h1.kept hg ?_, h2⟩
  cases hv : v.ownBlock with
  | none => exact Or.inl rfl
  | some j => exact Or.inr (fun e => hne j hv e.symm)
/-- reads stored anew -/
theorem Wk.reads {g : Nat} {vf vr vn v2 : Value} {rs rs2 : List (List UInt8)} {ns : List (Int × List UInt8)} {w w2 : World} (h : Wk g vf vr vn rs ns w) (hg : w.grownBy w2 vr.ownBlock) (ho : OwnL (g + 1) 9 1 RStr w2 v2 rs2) (hat : v2.ownBlock = vr.ownBlock ∨ v2.ownBlock = some (w.heap.size + 1)) :
    Wk g vf v2 vn rs2 ns (w2.setCell ⟨g, 1, none⟩ v2) ∧ Mv g vr vn v2 vn w (w2.setCell ⟨g, 1, none⟩ v2) := by
  have hne : vr.ownBlock ≠ some g := fun e => by have := ownL_ge h.r g e; omega
  have hap := ownL_apart h.r h.n (by decide)
  have gs := grown_set w2 g 1 v2
  refine ⟨⟨(h.t.grown hg hne).set1 v2, ownL_grown ho gs (fun j hj e => by injection e with e; have := ownL_ge ho j hj; omega), ?_⟩, ⟨hg.os, hg.tape, hg.output, by simpa using hg.size, fun k hk h1 h2 _ => (Below.heap_setCell _ _ _ _ h1).trans (hg.block k hk (fun e => h2 e.symm)), hat.imp id (fun e => ⟨_, e, by omega⟩), .inl rfl⟩⟩
  have hn2 := ownL_grown h.n hg (fun j hj e => hap j e hj)
  exact ownL_grown hn2 gs (fun j hj e => by injection e with e; have := ownL_ge hn2 j hj; omega)
/-- notes stored anew -/
theorem Wk.notes {g : Nat} {vf vr vn v2 : Value} {rs : List (List UInt8)} {ns ns2 : List (Int × List UInt8)} {w w2 : World} (h : Wk g vf vr vn rs ns w) (hg : w.grownBy w2 vn.ownBlock) (ho : OwnL (g + 1) 166 2 RNote w2 v2 ns2) (hat : v2.ownBlock = vn.ownBlock ∨ ∃ j, v2.ownBlock = some j ∧ w.heap.size ≤ j) :
    Wk g vf vr v2 rs ns2 (w2.setCell ⟨g, 2, none⟩ v2) ∧ Mv g vr vn vr v2 w (w2.setCell ⟨g, 2, none⟩ v2) := by
  have hne : vn.ownBlock ≠ some g := fun e => by have := ownL_ge h.n g e; omega
  have hap := ownL_apart h.r h.n (by decide)
  have gs := grown_set w2 g 2 v2
  refine ⟨⟨(h.t.grown hg hne).set2 v2, ?_, ownL_grown ho gs (fun j hj e => by injection e with e; have := ownL_ge ho j hj; omega)⟩, ⟨hg.os, hg.tape, hg.output, by simpa using hg.size, fun k hk h1 _ h3 => (Below.heap_setCell _ _ _ _ h1).trans (hg.block k hk (fun e => h3 e.symm)), .inl rfl, hat⟩⟩
  have hr2 := ownL_grown h.r hg (fun j hj e => hap j hj e)
  exact ownL_grown hr2 gs (fun j hj e => by injection e with e; have := ownL_ge hr2 j hj; omega)
end Go.Proofs.YtibinlpbcoihoaaGreatDoor
