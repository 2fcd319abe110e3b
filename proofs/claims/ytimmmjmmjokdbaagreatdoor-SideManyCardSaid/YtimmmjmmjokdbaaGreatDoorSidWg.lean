/- The walks of stetlaw10's own functions, fifth part: a side as it is handed in, cut. -/
import Derived.Test.YtimmmjmmjokdbaaGreatDoorSidWf
set_option linter.unusedSimpArgs false
set_option linter.unusedVariables false
namespace Go.Proofs.YtimmmjmmjokdbaaGreatDoor
open Go.RowKit
theorem Kept.grown {g : Nat} {a w : World} (h : Kept g a.heap.size a w) : a.grownBy w (some g) := ⟨h.1.os, h.1.tape, h.1.output, h.1.size, fun k hk hne => h.2 k hk (fun e => hne (by rw [e]))⟩
theorem OwnL.less {α : Type} {B B' : Nat} {t : TypeId} {n : Nat} {R : α → List Value → Prop} {W : World} {v : Value} {l : List α} (h : OwnL B t n R W v l) (hB : B' ≤ B) : OwnL B' t n R W v l := by
  obtain ⟨fl, ⟨h1, h2⟩, h3⟩ := h
  refine ⟨fl, ⟨h1, ?_⟩, h3⟩
  rcases h2 with h2 | ⟨g, cap, cur, e, hb, rest⟩
  · exact Or.inl h2
  · exact Or.inr ⟨g, cap, cur, e, Nat.le_trans hB hb, rest⟩
def ILab (x : Sd.Lab) (vs : List Value) : Prop := RLab x vs ∧ x.key.length ≤ maxLen ∧ x.num.length ≤ maxLen
def IHd (x : Sd.Hd) (vs : List Value) : Prop := RHd x vs ∧ x.num.length ≤ maxLen ∧ x.title.length ≤ maxLen
def cutL (x : Sd.Lab) : Sd.Lab := ⟨cut80 x.key, cut80 x.num, x.page⟩
def cutH (x : Sd.Hd) : Sd.Hd := ⟨x.level, cut80 x.num, cut80 x.title, x.page⟩
def cutS (n : Nat) (x : Sd.Side) : Sd.Side := ⟨(x.labs.take n).map cutL, (x.heads.take n).map cutH, (x.cites.take n).map cut80, (x.bibs.take n).map cut80⟩
/-- a side as it is handed in -/
structure OSide (w : World) (v : Value) (x : Sd.Side) : Prop where
  ex : ∃ pl cl ph ch pc cc pb cb, v = .agg #[.slice pl x.labs.length cl, .slice ph x.heads.length ch, .slice pc x.cites.length cc, .slice pb x.bibs.length cb] ∧ OSl 3 ILab w pl x.labs ∧ OSl 4 IHd w ph x.heads ∧ OSl 1 IStr w pc x.cites ∧ OSl 1 IStr w pb x.bibs
  labs : x.labs.length ≤ maxLen
  heads : x.heads.length ≤ maxLen
  cites : x.cites.length ≤ maxLen
  bibs : x.bibs.length ≤ maxLen
set_option maxRecDepth 100000 in
set_option maxHeartbeats 6400000 in
theorem law10_cut (x : Sd.Side) (v : Value) (n : Nat) (w : World) (hX : OSide w v x) (hn : n ≤ 1000) :
    Calls Tryz.prog 9 #[v, .int .i64 (n : Int)] w fun e w' => (∃ v', e = .returned v' ∧ SideIn (fun j => w.heap.size ≤ j) w' v' (cutS n x)) ∧ Below w.heap.size w w' := by
  have nl := hX.labs; have nh := hX.heads; have nc := hX.cites; have nb := hX.bibs
  obtain ⟨pl, cl, ph, ch, pc, cc, pb, cb, rfl, hL, hH, hC, hB⟩ := hX.ex
  have HLs := Lib.hid hL; have HHs := Lib.hid hH; have HCs := Lib.hid hC; have HBs := Lib.hid hB; have Nl := Lib.hid nl; have Nh := Lib.hid nh; have Nc := Lib.hid nc; have Nb := Lib.hid nb
  have ml : x.labs.length ≤ 9223372036854775807 := by unfold maxLen at nl; omega
  have mh : x.heads.length ≤ 9223372036854775807 := by unfold maxLen at nh; omega
  clear hX hL hH hC hB nl nh nc nb
  obtain ⟨i0, hi, hz0, hz1, hz2⟩ := info_parts lab_info
  have Hi := Lib.hid hi; have Hz0 := Lib.hid hz0; have Hz1 := Lib.hid hz1; have Hz2 := Lib.hid hz2; clear hi hz0 hz1 hz2
  obtain ⟨j0, hi, hz0, hz1, hz2⟩ := info_parts hd_info
  have Ji := Lib.hid hi; have Jz0 := Lib.hid hz0; have Jz1 := Lib.hid hz1; have Jz2 := Lib.hid hz2; clear hi hz0 hz1 hz2
  go_enter Tryz.func9, Tryz.ntmps9
  go_upto_region 1 with fail
  obtain ⟨W1, hW1⟩ : ∃ W1, W1 = w.alloc (.cells #[.slice pl x.labs.length cl, .slice ph x.heads.length ch, .slice pc x.cites.length cc, .slice pb x.bibs.length cb] 26) := ⟨_, rfl⟩
  have hs1 : W1.heap.size = w.heap.size + 1 := by rw [hW1]; simp
  obtain ⟨W2, hW2⟩ : ∃ W2, W2 = W1.alloc (.cells #[.slice none 0 0, .slice none 0 0, .slice none 0 0, .slice none 0 0] 26) := ⟨_, rfl⟩
  have hb1 : Below w.heap.size w W1 := by rw [hW1]; exact below_new w _
  have hb2 : Below w.heap.size w W2 := by rw [hW2]; exact hb1.alloc hb1.size _
  have hs2 : W2.heap.size = w.heap.size + 2 := by rw [hW2]; simp [hs1]
  have hx1 : ∀ (i : Nat) (u : Value), #[(.slice none 0 0 : Value), .slice none 0 0, .slice none 0 0, .slice none 0 0][i]? = some u → W2.cell? ⟨w.heap.size + 1, i, none⟩ = some u := by
    intro i u hu
    rw [← hs1, hW2, cell_of_row _ _ _ _ _ _ (heap_alloc_new W1 _)]
    exact hu
  have hf1 : ∀ i : Nat, W2.frozen? ⟨w.heap.size + 1, i, none⟩ = false := by
    intro i
    rw [← hs1, hW2]
    simp
  have hx0 : ∀ (i : Nat) (u : Value), #[Value.slice pl x.labs.length cl, .slice ph x.heads.length ch, .slice pc x.cites.length cc, .slice pb x.bibs.length cb][i]? = some u → W2.cell? ⟨w.heap.size, i, none⟩ = some u := by
    intro i u hu
    rw [hW2, World.cell?_alloc_lt _ _ ⟨w.heap.size, i, none⟩ (by rw [hs1]; show w.heap.size < _; omega), hW1, cell_of_row _ _ _ _ _ _ (heap_alloc_new w _)]
    exact hu
  first
    | rw [← hW1, ← hW2]
    | (rw [← hW1, hs1] at *; rw [← hW2])
  have c2 := hx0 2 _ rfl; have c3 := hx0 3 _ rfl
  have Hx0 := Lib.hid hx0; have Hx1 := Lib.hid hx1; have Hf1 := Lib.hid hf1; have Hb2 := Lib.hid hb2; have Hs2 := Lib.hid hs2
  have hz2 : w.heap.size < W2.heap.size := by omega
  clear hx0 hx1 hf1 hb1 hb2 hW1 hW2 hs1 hs2
  obtain ⟨C1, hC1⟩ : ∃ C1, (x.cites.take n).map cut80 = C1 := ⟨_, rfl⟩
  obtain ⟨C2, hC2⟩ : ∃ C2, (x.bibs.take n).map cut80 = C2 := ⟨_, rfl⟩
  have HC1 := Lib.hid hC1; have HC2 := Lib.hid hC2
  clear hC1 hC2
  go_cut [5] (fun v wx => ∃ (g : Nat) (vc vb : Value), v = .pointer (some ⟨g, 0, none⟩) ∧ RX 42 56 g wx.heap.size wx [] [] (.slice none 0 0) (.slice none 0 0) vc vb ∧ OwnL W2.heap.size 9 1 RStr wx vc C1 ∧ OwnL W2.heap.size 9 1 RStr wx vb C2 ∧ (∀ j, vc.ownBlock = some j → j ≠ g) ∧ (∀ j, vb.ownBlock = some j → j ≠ g) ∧ Below W2.heap.size W2 wx ∧ W2.heap.size ≤ g)
  case first =>
    have hS : (fun W => Below W2.heap.size W2 W) W2.drew := (Below.refl _ _).drew
    refine wp_region_any (by kernel_rfl) ?_
    change wpAny _ _ _ _ _ _ _ (World.drew _)
    generalize W2.drew = w8 at hS ⊢
    refine wpAny_of_held (S := fun W => Below W2.heap.size W2 W) _ _ _ _ ?_
    refine wpAnyH_take (i := 0) (v := .pointer (some ⟨w.heap.size, 2, none⟩)) rfl (by kernel_rfl) (by kernel_rfl) (by kernel_rfl) (fun _ _ _ h => h) (Or.inl ⟨by kernel_rfl, fun W hW => by go_simp⟩) (by assumption) ?_
    try simp only [Act.put, List.getElem_toArray, List.getElem_cons_zero, List.getElem_cons_succ, List.setIfInBounds_toArray, List.set_cons_zero, List.set_cons_succ]
    refine wpAnyH_take (i := 1) (v := .slice pc x.cites.length cc) rfl (by kernel_rfl) (by kernel_rfl) (by kernel_rfl) (fun _ _ _ h => h) (Or.inl ⟨by kernel_rfl, fun W hW => by have q1 := (Below.cell hW (p := ⟨w.heap.size, 2, none⟩) hz2).trans c2; go_simp⟩) (by assumption) ?_
    try simp only [Act.put, List.getElem_toArray, List.getElem_cons_zero, List.getElem_cons_succ, List.setIfInBounds_toArray, List.set_cons_zero, List.set_cons_succ]
    refine wpAnyH_take (i := 2) (v := .int .i64 (n : Int)) rfl (by kernel_rfl) (by kernel_rfl) (by kernel_rfl) (fun _ _ _ h => h) (Or.inl ⟨by kernel_rfl, fun W hW => by kernel_rfl⟩) (by assumption) ?_
    try simp only [Act.put, List.getElem_toArray, List.getElem_cons_zero, List.getElem_cons_succ, List.setIfInBounds_toArray, List.set_cons_zero, List.set_cons_succ]
    refine wpAnyH_take (i := 4) (v := .pointer (some ⟨w.heap.size, 3, none⟩)) rfl (by kernel_rfl) (by kernel_rfl) (by kernel_rfl) (fun _ _ _ h => h) (Or.inl ⟨by kernel_rfl, fun W hW => by go_simp⟩) (by assumption) ?_
    try simp only [Act.put, List.getElem_toArray, List.getElem_cons_zero, List.getElem_cons_succ, List.setIfInBounds_toArray, List.set_cons_zero, List.set_cons_succ]
    refine wpAnyH_take (i := 5) (v := .slice pb x.bibs.length cb) rfl (by kernel_rfl) (by kernel_rfl) (by kernel_rfl) (fun _ _ _ h => h) (Or.inl ⟨by kernel_rfl, fun W hW => by have q1 := (Below.cell hW (p := ⟨w.heap.size, 3, none⟩) hz2).trans c3; go_simp⟩) (by assumption) ?_
    try simp only [Act.put, List.getElem_toArray, List.getElem_cons_zero, List.getElem_cons_succ, List.setIfInBounds_toArray, List.set_cons_zero, List.set_cons_succ]
    refine wpAnyH_take (i := 6) (v := .int .i64 (n : Int)) rfl (by kernel_rfl) (by kernel_rfl) (by kernel_rfl) (fun _ _ _ h => h) (Or.inl ⟨by kernel_rfl, fun W hW => by kernel_rfl⟩) (by assumption) ?_
    try simp only [Act.put, List.getElem_toArray, List.getElem_cons_zero, List.getElem_cons_succ, List.setIfInBounds_toArray, List.set_cons_zero, List.set_cons_succ]
    refine wpAnyH_ready (rs := [3, 9]) (by kernel_rfl) (by simp) ?_
    refine AllReadyH.cons rfl (fun K hK => ?_) (AllReadyH.cons rfl (fun K hK => ?_) AllReadyH.nil)
    · go_simp
      go_wp2_with (go_at_call 22; refine (law10_texts x.cites pc cc n _ (HCs.out.below (Hb2.out.trans (Below.mono hS (Nat.le_of_lt hz2))) (fun _ _ _ h => h)) Nc.out hn).mono ?_; rw [HC1.out]; rintro e w9 ⟨v1, rfl, hO, hb⟩; have hHO1 := Lib.hid hO; have HO1 := Lib.hid (show OwnL W2.heap.size 9 1 RStr w9 v1 C1 from hO.less (Below.size hS)); obtain ⟨p1, k1, rfl⟩ := hO.form; have Hszp := Lib.hid (Below.size hS); replace hS := Below.trans hS (hb.mono (Below.size hS)); clear hb hO)
      refine hK.out _ _ hS (fun _ => ?_)
      clear K hK
      try simp only [Act.put, List.getElem_toArray, List.getElem_cons_zero, List.getElem_cons_succ, List.setIfInBounds_toArray, List.set_cons_zero, List.set_cons_succ]
      have HltHO1 := Lib.hid (fun j hj => (HO1.out.ge j hj).2)
      refine wpAnyH_ready (rs := [7, 9]) (by kernel_rfl) (by simp) ?_
      refine AllReadyH.cons rfl (fun K hK => ?_) (AllReadyH.cons rfl (fun K hK => ?_) AllReadyH.nil)
      · go_simp
        go_wp2_with (go_at_call 22; refine (law10_texts x.bibs pb cb n _ (HBs.out.below (Hb2.out.trans (Below.mono hS (Nat.le_of_lt hz2))) (fun _ _ _ h => h)) Nb.out hn).mono ?_; rw [HC2.out]; rintro e w10 ⟨v1, rfl, hO, hb⟩; have hHO2 := Lib.hid hO; have HO2 := Lib.hid (show OwnL W2.heap.size 9 1 RStr w10 v1 C2 from hO.less (Below.size hS)); obtain ⟨p2, k2, rfl⟩ := hO.form; replace HO1 := Lib.hid (HO1.out.below hb); have Hszp := Lib.hid (Below.size hS); replace hS := Below.trans hS (hb.mono (Below.size hS)); clear hb hO)
        refine hK.out _ _ hS (fun _ => ?_)
        clear K hK
        try simp only [Act.put, List.getElem_toArray, List.getElem_cons_zero, List.getElem_cons_succ, List.setIfInBounds_toArray, List.set_cons_zero, List.set_cons_succ]
        replace HltHO1 := Lib.hid (fun j hj => (HO1.out.ge j hj).2)
        have HltHO2 := Lib.hid (fun j hj => (HO2.out.ge j hj).2)
        refine wpAnyH_take (i := 8) (v := .agg #[.slice none 0 0, .slice none 0 0, .slice p1 C1.length k1, .slice p2 C2.length k2]) rfl (by kernel_rfl) (by kernel_rfl) (by kernel_rfl) (fun _ _ _ h => h) (Or.inl ⟨by kernel_rfl, fun W hW => by kernel_rfl⟩) (by assumption) ?_
        try simp only [Act.put, List.getElem_toArray, List.getElem_cons_zero, List.getElem_cons_succ, List.setIfInBounds_toArray, List.set_cons_zero, List.set_cons_succ]
        refine wpAnyH_ready (rs := [9]) (by kernel_rfl) (by simp) ?_
        refine AllReadyH.cons rfl (fun K hK => ?_) AllReadyH.nil
        have Hszc := Lib.hid (Below.size hS)
        go_simp
        have hn := below_new w10 (.cells #[.slice none 0 0, .slice none 0 0, .slice none 0 0, .slice none 0 0] 26)
        have hx : ∀ (i : Nat) (u : Value), #[(.slice none 0 0 : Value), .slice none 0 0, .slice none 0 0, .slice none 0 0][i]? = some u → (w10.alloc (.cells #[.slice none 0 0, .slice none 0 0, .slice none 0 0, .slice none 0 0] 26)).cell? ⟨w10.heap.size, i, none⟩ = some u := by
          intro i u hu
          rw [cell_of_row _ _ _ _ _ _ (heap_alloc_new w10 _)]
          exact hu
        have hf : ∀ i : Nat, (w10.alloc (.cells #[.slice none 0 0, .slice none 0 0, .slice none 0 0, .slice none 0 0] 26)).frozen? ⟨w10.heap.size, i, none⟩ = false := by intro i; simp
        have hzg := lt_alloc w10 (.cells #[.slice none 0 0, .slice none 0 0, .slice none 0 0, .slice none 0 0] 26)
        replace hS := Below.trans hS (hn.mono (Below.size hS))
        replace HO1 := Lib.hid (HO1.out.below hn)
        replace HO2 := Lib.hid (HO2.out.below hn)
        refine hK.out _ _ hS (fun _ => ?_)
        clear K hK
        try simp only [Act.put, List.getElem_toArray, List.getElem_cons_zero, List.getElem_cons_succ, List.setIfInBounds_toArray, List.set_cons_zero, List.set_cons_succ]
        obtain ⟨gx, hgx⟩ : ∃ gx, gx = w10.heap.size := ⟨_, rfl⟩
        generalize w10.alloc (.cells #[.slice none 0 0, .slice none 0 0, .slice none 0 0, .slice none 0 0] 26) = w11 at hS hx hf hn hzg HO1 HO2 ⊢
        have Hzg := Lib.hid hzg; have Hx := Lib.hid hx; have Hf := Lib.hid hf
        rw [← hgx] at Hzg Hx Hf ⊢
        have Hgs := Lib.hid (show W2.heap.size ≤ gx by rw [hgx]; exact Hszc.out)
        have Hgx := Lib.hid hgx
        clear hn hx hf hzg hgx
        have HneHO1 := Lib.hid (show ∀ j, Value.ownBlock (.slice p1 C1.length k1) = some j → j ≠ gx from fun j hj e => by have h1 := HltHO1.out j hj; have h0 := Hgx.out; omega)
        have HneHO2 := Lib.hid (show ∀ j, Value.ownBlock (.slice p2 C2.length k2) = some j → j ≠ gx from fun j hj e => by have h1 := HltHO2.out j hj; have h0 := Hgx.out; omega)
        have d0 := Hx.out 0 _ rfl; have d1 := Hx.out 1 _ rfl; have d2 := Hx.out 2 _ rfl; have d3 := Hx.out 3 _ rfl
        have f0 := Hf.out 0; have f1 := Hf.out 1; have f2 := Hf.out 2; have f3 := Hf.out 3
        refine wpAnyH_ready (rs := [10]) (by kernel_rfl) (by simp) ?_
        refine AllReadyH.cons rfl (fun K hK => ?_) AllReadyH.nil
        go_simp
        obtain ⟨z0, z1, z2, z3⟩ := set4 gx w11 (.slice none 0 0) (.slice none 0 0) (.slice p1 C1.length k1) (.slice p2 C2.length k2) d0 d1 d2 d3
        have hbz := set4_below hS Hgs.out (.slice none 0 0) (.slice none 0 0) (.slice p1 C1.length k1) (.slice p2 C2.length k2)
        refine hK.out _ _ hbz (fun _ => ?_)
        clear K hK
        try simp only [Act.put, List.getElem_toArray, List.getElem_cons_zero, List.getElem_cons_succ, List.setIfInBounds_toArray, List.set_cons_zero, List.set_cons_succ]
        refine wpAnyH_done (by kernel_rfl) ?_ _
        go_wp2_with fail
        go_meet
        case rel =>
          have hst : ∀ (i : Nat) (u : Value) (W : World), W.grownBy (W.setCell ⟨gx, i, none⟩ u) (some gx) := fun i u W => grown_set W gx i u
          refine ⟨gx, _, _, rfl, ⟨z0, ?_, z1, ?_, z2, z3, ?_, Nat.le_refl _, OwnL.nil _ _ _ _ _, OwnL.nil _ _ _ _ _, fun j hj => by cases hj⟩, ?_, ?_, HneHO1.out, HneHO2.out, hbz, Hgs.out⟩
          · simpa using f0
          · simpa using f1
          · simpa [World.setCell] using Hzg.out
          · exact (((HO1.out.grown (hst 0 _ _) (fun j hj e => HneHO1.out j hj (Option.some.inj e).symm)).grown (hst 1 _ _) (fun j hj e => HneHO1.out j hj (Option.some.inj e).symm)).grown (hst 2 _ _) (fun j hj e => HneHO1.out j hj (Option.some.inj e).symm)).grown (hst 3 _ _) (fun j hj e => HneHO1.out j hj (Option.some.inj e).symm)
          · exact (((HO2.out.grown (hst 0 _ _) (fun j hj e => HneHO2.out j hj (Option.some.inj e).symm)).grown (hst 1 _ _) (fun j hj e => HneHO2.out j hj (Option.some.inj e).symm)).grown (hst 2 _ _) (fun j hj e => HneHO2.out j hj (Option.some.inj e).symm)).grown (hst 3 _ _) (fun j hj e => HneHO2.out j hj (Option.some.inj e).symm)
      · have Hszc := Lib.hid (Below.size hS)
        go_simp
        have hn := below_new w9 (.cells #[.slice none 0 0, .slice none 0 0, .slice none 0 0, .slice none 0 0] 26)
        have hx : ∀ (i : Nat) (u : Value), #[(.slice none 0 0 : Value), .slice none 0 0, .slice none 0 0, .slice none 0 0][i]? = some u → (w9.alloc (.cells #[.slice none 0 0, .slice none 0 0, .slice none 0 0, .slice none 0 0] 26)).cell? ⟨w9.heap.size, i, none⟩ = some u := by
          intro i u hu
          rw [cell_of_row _ _ _ _ _ _ (heap_alloc_new w9 _)]
          exact hu
        have hf : ∀ i : Nat, (w9.alloc (.cells #[.slice none 0 0, .slice none 0 0, .slice none 0 0, .slice none 0 0] 26)).frozen? ⟨w9.heap.size, i, none⟩ = false := by intro i; simp
        have hzg := lt_alloc w9 (.cells #[.slice none 0 0, .slice none 0 0, .slice none 0 0, .slice none 0 0] 26)
        replace hS := Below.trans hS (hn.mono (Below.size hS))
        replace HO1 := Lib.hid (HO1.out.below hn)
        refine hK.out _ _ hS (fun _ => ?_)
        clear K hK
        try simp only [Act.put, List.getElem_toArray, List.getElem_cons_zero, List.getElem_cons_succ, List.setIfInBounds_toArray, List.set_cons_zero, List.set_cons_succ]
        obtain ⟨gx, hgx⟩ : ∃ gx, gx = w9.heap.size := ⟨_, rfl⟩
        generalize w9.alloc (.cells #[.slice none 0 0, .slice none 0 0, .slice none 0 0, .slice none 0 0] 26) = w10 at hS hx hf hn hzg HO1 ⊢
        have Hzg := Lib.hid hzg; have Hx := Lib.hid hx; have Hf := Lib.hid hf
        rw [← hgx] at Hzg Hx Hf ⊢
        have Hgs := Lib.hid (show W2.heap.size ≤ gx by rw [hgx]; exact Hszc.out)
        have Hgx := Lib.hid hgx
        clear hn hx hf hzg hgx
        have HneHO1 := Lib.hid (show ∀ j, Value.ownBlock (.slice p1 C1.length k1) = some j → j ≠ gx from fun j hj e => by have h1 := HltHO1.out j hj; have h0 := Hgx.out; omega)
        refine wpAnyH_ready (rs := [7]) (by kernel_rfl) (by simp) ?_
        refine AllReadyH.cons rfl (fun K hK => ?_) AllReadyH.nil
        go_simp
        go_wp2_with (go_at_call 22; refine (law10_texts x.bibs pb cb n _ (HBs.out.below (Hb2.out.trans (Below.mono hS (Nat.le_of_lt hz2))) (fun _ _ _ h => h)) Nb.out hn).mono ?_; rw [HC2.out]; rintro e w11 ⟨v1, rfl, hO, hb⟩; have hHO2 := Lib.hid hO; have HO2 := Lib.hid (show OwnL W2.heap.size 9 1 RStr w11 v1 C2 from hO.less (Below.size hS)); obtain ⟨p2, k2, rfl⟩ := hO.form; replace Hx := Lib.hid (fun i u hu => (hb.cell (p := ⟨gx, i, none⟩) Hzg.out).trans (Hx.out i u hu)); replace Hf := Lib.hid (fun i => (frozen_below (i := i) hb Hzg.out).trans (Hf.out i)); have HneHO2 := Lib.hid (show ∀ j, Value.ownBlock (.slice p2 _ k2) = some j → j ≠ gx from fun j hj e => by have h1 := (hHO2.out.ge j hj).1; have h2 := Hzg.out; omega); replace Hzg := Lib.hid (Nat.lt_of_lt_of_le Hzg.out hb.size); replace HO1 := Lib.hid (HO1.out.below hb); have Hszp := Lib.hid (Below.size hS); replace hS := Below.trans hS (hb.mono (Below.size hS)); clear hb hO)
        refine hK.out _ _ hS (fun _ => ?_)
        clear K hK
        try simp only [Act.put, List.getElem_toArray, List.getElem_cons_zero, List.getElem_cons_succ, List.setIfInBounds_toArray, List.set_cons_zero, List.set_cons_succ]
        refine wpAnyH_take (i := 8) (v := .agg #[.slice none 0 0, .slice none 0 0, .slice p1 C1.length k1, .slice p2 C2.length k2]) rfl (by kernel_rfl) (by kernel_rfl) (by kernel_rfl) (fun _ _ _ h => h) (Or.inl ⟨by kernel_rfl, fun W hW => by kernel_rfl⟩) (by assumption) ?_
        try simp only [Act.put, List.getElem_toArray, List.getElem_cons_zero, List.getElem_cons_succ, List.setIfInBounds_toArray, List.set_cons_zero, List.set_cons_succ]
        have d0 := Hx.out 0 _ rfl; have d1 := Hx.out 1 _ rfl; have d2 := Hx.out 2 _ rfl; have d3 := Hx.out 3 _ rfl
        have f0 := Hf.out 0; have f1 := Hf.out 1; have f2 := Hf.out 2; have f3 := Hf.out 3
        refine wpAnyH_ready (rs := [10]) (by kernel_rfl) (by simp) ?_
        refine AllReadyH.cons rfl (fun K hK => ?_) AllReadyH.nil
        go_simp
        obtain ⟨z0, z1, z2, z3⟩ := set4 gx w11 (.slice none 0 0) (.slice none 0 0) (.slice p1 C1.length k1) (.slice p2 C2.length k2) d0 d1 d2 d3
        have hbz := set4_below hS Hgs.out (.slice none 0 0) (.slice none 0 0) (.slice p1 C1.length k1) (.slice p2 C2.length k2)
        refine hK.out _ _ hbz (fun _ => ?_)
        clear K hK
        try simp only [Act.put, List.getElem_toArray, List.getElem_cons_zero, List.getElem_cons_succ, List.setIfInBounds_toArray, List.set_cons_zero, List.set_cons_succ]
        refine wpAnyH_done (by kernel_rfl) ?_ _
        go_wp2_with fail
        go_meet
        case rel =>
          have hst : ∀ (i : Nat) (u : Value) (W : World), W.grownBy (W.setCell ⟨gx, i, none⟩ u) (some gx) := fun i u W => grown_set W gx i u
          refine ⟨gx, _, _, rfl, ⟨z0, ?_, z1, ?_, z2, z3, ?_, Nat.le_refl _, OwnL.nil _ _ _ _ _, OwnL.nil _ _ _ _ _, fun j hj => by cases hj⟩, ?_, ?_, HneHO1.out, HneHO2.out, hbz, Hgs.out⟩
          · simpa using f0
          · simpa using f1
          · simpa [World.setCell] using Hzg.out
          · exact (((HO1.out.grown (hst 0 _ _) (fun j hj e => HneHO1.out j hj (Option.some.inj e).symm)).grown (hst 1 _ _) (fun j hj e => HneHO1.out j hj (Option.some.inj e).symm)).grown (hst 2 _ _) (fun j hj e => HneHO1.out j hj (Option.some.inj e).symm)).grown (hst 3 _ _) (fun j hj e => HneHO1.out j hj (Option.some.inj e).symm)
          · exact (((HO2.out.grown (hst 0 _ _) (fun j hj e => HneHO2.out j hj (Option.some.inj e).symm)).grown (hst 1 _ _) (fun j hj e => HneHO2.out j hj (Option.some.inj e).symm)).grown (hst 2 _ _) (fun j hj e => HneHO2.out j hj (Option.some.inj e).symm)).grown (hst 3 _ _) (fun j hj e => HneHO2.out j hj (Option.some.inj e).symm)
    · have Hszc := Lib.hid (Below.size hS)
      go_simp
      have hn := below_new w8 (.cells #[.slice none 0 0, .slice none 0 0, .slice none 0 0, .slice none 0 0] 26)
      have hx : ∀ (i : Nat) (u : Value), #[(.slice none 0 0 : Value), .slice none 0 0, .slice none 0 0, .slice none 0 0][i]? = some u → (w8.alloc (.cells #[.slice none 0 0, .slice none 0 0, .slice none 0 0, .slice none 0 0] 26)).cell? ⟨w8.heap.size, i, none⟩ = some u := by
        intro i u hu
        rw [cell_of_row _ _ _ _ _ _ (heap_alloc_new w8 _)]
        exact hu
      have hf : ∀ i : Nat, (w8.alloc (.cells #[.slice none 0 0, .slice none 0 0, .slice none 0 0, .slice none 0 0] 26)).frozen? ⟨w8.heap.size, i, none⟩ = false := by intro i; simp
      have hzg := lt_alloc w8 (.cells #[.slice none 0 0, .slice none 0 0, .slice none 0 0, .slice none 0 0] 26)
      replace hS := Below.trans hS (hn.mono (Below.size hS))
      refine hK.out _ _ hS (fun _ => ?_)
      clear K hK
      try simp only [Act.put, List.getElem_toArray, List.getElem_cons_zero, List.getElem_cons_succ, List.setIfInBounds_toArray, List.set_cons_zero, List.set_cons_succ]
      obtain ⟨gx, hgx⟩ : ∃ gx, gx = w8.heap.size := ⟨_, rfl⟩
      generalize w8.alloc (.cells #[.slice none 0 0, .slice none 0 0, .slice none 0 0, .slice none 0 0] 26) = w9 at hS hx hf hn hzg ⊢
      have Hzg := Lib.hid hzg; have Hx := Lib.hid hx; have Hf := Lib.hid hf
      rw [← hgx] at Hzg Hx Hf ⊢
      have Hgs := Lib.hid (show W2.heap.size ≤ gx by rw [hgx]; exact Hszc.out)
      have Hgx := Lib.hid hgx
      clear hn hx hf hzg hgx
      refine wpAnyH_ready (rs := [3]) (by kernel_rfl) (by simp) ?_
      refine AllReadyH.cons rfl (fun K hK => ?_) AllReadyH.nil
      go_simp
      go_wp2_with (go_at_call 22; refine (law10_texts x.cites pc cc n _ (HCs.out.below (Hb2.out.trans (Below.mono hS (Nat.le_of_lt hz2))) (fun _ _ _ h => h)) Nc.out hn).mono ?_; rw [HC1.out]; rintro e w10 ⟨v1, rfl, hO, hb⟩; have hHO1 := Lib.hid hO; have HO1 := Lib.hid (show OwnL W2.heap.size 9 1 RStr w10 v1 C1 from hO.less (Below.size hS)); obtain ⟨p1, k1, rfl⟩ := hO.form; replace Hx := Lib.hid (fun i u hu => (hb.cell (p := ⟨gx, i, none⟩) Hzg.out).trans (Hx.out i u hu)); replace Hf := Lib.hid (fun i => (frozen_below (i := i) hb Hzg.out).trans (Hf.out i)); have HneHO1 := Lib.hid (show ∀ j, Value.ownBlock (.slice p1 _ k1) = some j → j ≠ gx from fun j hj e => by have h1 := (hHO1.out.ge j hj).1; have h2 := Hzg.out; omega); replace Hzg := Lib.hid (Nat.lt_of_lt_of_le Hzg.out hb.size); have Hszp := Lib.hid (Below.size hS); replace hS := Below.trans hS (hb.mono (Below.size hS)); clear hb hO)
      refine hK.out _ _ hS (fun _ => ?_)
      clear K hK
      try simp only [Act.put, List.getElem_toArray, List.getElem_cons_zero, List.getElem_cons_succ, List.setIfInBounds_toArray, List.set_cons_zero, List.set_cons_succ]
      refine wpAnyH_ready (rs := [7]) (by kernel_rfl) (by simp) ?_
      refine AllReadyH.cons rfl (fun K hK => ?_) AllReadyH.nil
      go_simp
      go_wp2_with (go_at_call 22; refine (law10_texts x.bibs pb cb n _ (HBs.out.below (Hb2.out.trans (Below.mono hS (Nat.le_of_lt hz2))) (fun _ _ _ h => h)) Nb.out hn).mono ?_; rw [HC2.out]; rintro e w11 ⟨v1, rfl, hO, hb⟩; have hHO2 := Lib.hid hO; have HO2 := Lib.hid (show OwnL W2.heap.size 9 1 RStr w11 v1 C2 from hO.less (Below.size hS)); obtain ⟨p2, k2, rfl⟩ := hO.form; replace Hx := Lib.hid (fun i u hu => (hb.cell (p := ⟨gx, i, none⟩) Hzg.out).trans (Hx.out i u hu)); replace Hf := Lib.hid (fun i => (frozen_below (i := i) hb Hzg.out).trans (Hf.out i)); have HneHO2 := Lib.hid (show ∀ j, Value.ownBlock (.slice p2 _ k2) = some j → j ≠ gx from fun j hj e => by have h1 := (hHO2.out.ge j hj).1; have h2 := Hzg.out; omega); replace Hzg := Lib.hid (Nat.lt_of_lt_of_le Hzg.out hb.size); replace HO1 := Lib.hid (HO1.out.below hb); have Hszp := Lib.hid (Below.size hS); replace hS := Below.trans hS (hb.mono (Below.size hS)); clear hb hO)
      refine hK.out _ _ hS (fun _ => ?_)
      clear K hK
      try simp only [Act.put, List.getElem_toArray, List.getElem_cons_zero, List.getElem_cons_succ, List.setIfInBounds_toArray, List.set_cons_zero, List.set_cons_succ]
      refine wpAnyH_take (i := 8) (v := .agg #[.slice none 0 0, .slice none 0 0, .slice p1 C1.length k1, .slice p2 C2.length k2]) rfl (by kernel_rfl) (by kernel_rfl) (by kernel_rfl) (fun _ _ _ h => h) (Or.inl ⟨by kernel_rfl, fun W hW => by kernel_rfl⟩) (by assumption) ?_
      try simp only [Act.put, List.getElem_toArray, List.getElem_cons_zero, List.getElem_cons_succ, List.setIfInBounds_toArray, List.set_cons_zero, List.set_cons_succ]
      have d0 := Hx.out 0 _ rfl; have d1 := Hx.out 1 _ rfl; have d2 := Hx.out 2 _ rfl; have d3 := Hx.out 3 _ rfl
      have f0 := Hf.out 0; have f1 := Hf.out 1; have f2 := Hf.out 2; have f3 := Hf.out 3
      refine wpAnyH_ready (rs := [10]) (by kernel_rfl) (by simp) ?_
      refine AllReadyH.cons rfl (fun K hK => ?_) AllReadyH.nil
      go_simp
      obtain ⟨z0, z1, z2, z3⟩ := set4 gx w11 (.slice none 0 0) (.slice none 0 0) (.slice p1 C1.length k1) (.slice p2 C2.length k2) d0 d1 d2 d3
      have hbz := set4_below hS Hgs.out (.slice none 0 0) (.slice none 0 0) (.slice p1 C1.length k1) (.slice p2 C2.length k2)
      refine hK.out _ _ hbz (fun _ => ?_)
      clear K hK
      try simp only [Act.put, List.getElem_toArray, List.getElem_cons_zero, List.getElem_cons_succ, List.setIfInBounds_toArray, List.set_cons_zero, List.set_cons_succ]
      refine wpAnyH_done (by kernel_rfl) ?_ _
      go_wp2_with fail
      go_meet
      case rel =>
        have hst : ∀ (i : Nat) (u : Value) (W : World), W.grownBy (W.setCell ⟨gx, i, none⟩ u) (some gx) := fun i u W => grown_set W gx i u
        refine ⟨gx, _, _, rfl, ⟨z0, ?_, z1, ?_, z2, z3, ?_, Nat.le_refl _, OwnL.nil _ _ _ _ _, OwnL.nil _ _ _ _ _, fun j hj => by cases hj⟩, ?_, ?_, HneHO1.out, HneHO2.out, hbz, Hgs.out⟩
        · simpa using f0
        · simpa using f1
        · simpa [World.setCell] using Hzg.out
        · exact (((HO1.out.grown (hst 0 _ _) (fun j hj e => HneHO1.out j hj (Option.some.inj e).symm)).grown (hst 1 _ _) (fun j hj e => HneHO1.out j hj (Option.some.inj e).symm)).grown (hst 2 _ _) (fun j hj e => HneHO1.out j hj (Option.some.inj e).symm)).grown (hst 3 _ _) (fun j hj e => HneHO1.out j hj (Option.some.inj e).symm)
        · exact (((HO2.out.grown (hst 0 _ _) (fun j hj e => HneHO2.out j hj (Option.some.inj e).symm)).grown (hst 1 _ _) (fun j hj e => HneHO2.out j hj (Option.some.inj e).symm)).grown (hst 2 _ _) (fun j hj e => HneHO2.out j hj (Option.some.inj e).symm)).grown (hst 3 _ _) (fun j hj e => HneHO2.out j hj (Option.some.inj e).symm)
  case rest =>
    obtain ⟨g, vc, vb, rfl, hRX, hO1, hO2, hj1, hj2, hbx, hgx⟩ := hcut
    have hgs : w.heap.size + 2 ≤ g := by have := Hs2.out; omega
    have HRX := Lib.hid hRX; have HO1 := Lib.hid hO1; have HO2 := Lib.hid hO2; have Hj1 := Lib.hid hj1; have Hj2 := Lib.hid hj2; have Hb3 := Lib.hid hbx; have Hgs := Lib.hid hgs
    have HB3 := Lib.hid (Hb2.out.trans (hbx.mono Hb2.out.size))
    have Hgx := Lib.hid hgx
    clear hRX hO1 hO2 hj1 hj2 hbx hgx hgs c2 c3 hz2
    go_wp2_with fail
    go_loopw [6] (fun iv wr => ∃ (k : Nat) (vl vh : Value), k ≤ x.labs.length ∧ k ≤ n ∧ iv = .int .i64 (k : Int) ∧ RX 42 56 g wc.heap.size wr ((x.labs.take k).map cutL) [] vl vh vc vb ∧ Kept g wc.heap.size wc wr) (fun iv _ => x.labs.length - (intOf iv).toNat)
    case atStart => exact ⟨0, _, _, Nat.zero_le _, Nat.zero_le _, rfl, HRX.out, Below.refl _ _, fun _ _ _ => rfl⟩
    case round =>
      clear HRX
      obtain ⟨k, vl, vh, hk, hkn, rfl, hRX, hKp⟩ := hrel
      have HRXk := Lib.hid hRX; have HKp := Lib.hid hKp; have HB := Lib.hid (HB3.out.trans (hKp.1.mono (by have := Hgs.out; omega)))
      have HB2 := Lib.hid (Hb3.out.trans (hKp.1.mono Hgx.out))
      have t0 := (HB2.out.cell (p := ⟨w.heap.size, 0, none⟩) (by have := Hs2.out; show w.heap.size < W2.heap.size; omega)).trans (Hx0.out 0 _ rfl)
      clear hRX hKp
      by_cases hlt : k < x.labs.length
      · by_cases hltn : k < n
        · obtain ⟨y, hy⟩ : ∃ y, x.labs[k]? = some y := ⟨_, List.getElem?_eq_getElem hlt⟩
          obtain ⟨a, b, off, sp, vs, rfl, hadd, hbw, ⟨hR, hy1, hy2⟩, hcc⟩ := HLs.out k y hy
          have hR : vs = _ := hR
          subst hR
          have a0 : wr.cell? ⟨b, off, sp⟩ = some (.string ⟨y.key.toArray⟩) := (HB.out.cell (p := ⟨b, off, sp⟩) hbw).trans (hcc 0 _ rfl)
          have a1 : wr.cell? ⟨b, off + 1, none⟩ = some (.string ⟨y.num.toArray⟩) := (HB.out.cell (p := ⟨b, off + 1, none⟩) hbw).trans (hcc 1 _ rfl)
          have a2 : wr.cell? ⟨b, off + 2, none⟩ = some (.int .i64 y.page) := (HB.out.cell (p := ⟨b, off + 2, none⟩) hbw).trans (hcc 2 _ rfl)
          obtain ⟨q0, m0a, m0b, m0c, m0d⟩ := cut_text8 y.key
          obtain ⟨q1, m1a, m1b, m1c, m1d⟩ := cut_text8 y.num
          have hlt' : (k : Int) < (x.labs.length : Int) := by omega
          have hltn' : (k : Int) < (n : Int) := by omega
          have hkl : (k : Int) + 1 ≤ 9223372036854775807 := by omega
          have htk : (x.labs.take (k + 1)).map cutL = (x.labs.take k).map cutL ++ [cutL y] := by rw [List.take_add_one, hy]; simp
          have htl0 : ((x.labs.take k).map cutL).length ≤ 1000 := by rw [List.length_map, List.length_take]; omega
          obtain ⟨tk, htk0⟩ : ∃ tk, (x.labs.take k).map cutL = tk := ⟨_, rfl⟩
          rw [htk0] at HRXk htk htl0
          have Htk := Lib.hid htk; have Hkl := Lib.hid hkl; have Hlt := Lib.hid hlt; have Hltn := Lib.hid hltn
          clear hcc hy htk hkl hbw htk0 hy1 hy2
          go_upto_region 8 with fail
          obtain ⟨gl, hgl⟩ : ∃ gl, gl = wr.heap.size := ⟨_, rfl⟩
          have hb7 := below_new wr (.cells #[.string ⟨(cut80 y.key).toArray⟩, .string ⟨(cut80 y.num).toArray⟩, .int .i64 y.page] 42)
          have he7 : ∀ (i : Nat) (u : Value), #[Value.string ⟨(cut80 y.key).toArray⟩, .string ⟨(cut80 y.num).toArray⟩, .int .i64 y.page][i]? = some u → (wr.alloc (.cells #[.string ⟨(cut80 y.key).toArray⟩, .string ⟨(cut80 y.num).toArray⟩, .int .i64 y.page] 42)).cell? ⟨wr.heap.size, i, none⟩ = some u := by
            intro i u hu
            rw [cell_of_row _ _ _ _ _ _ (heap_alloc_new wr _)]
            exact hu
          generalize wr.alloc (.cells #[.string ⟨(cut80 y.key).toArray⟩, .string ⟨(cut80 y.num).toArray⟩, .int .i64 y.page] 42) = w7 at hb7 he7 ⊢
          rw [← hgl] at he7 ⊢
          have b0 := he7 0 _ rfl
          have b1 := he7 1 _ rfl
          have b2 := he7 2 _ rfl
          have HRX7 := Lib.hid (HRXk.out.below hb7)
          have HKp7 := Lib.hid (HKp.out.trans (Kept.below hb7 (Nat.le_of_lt HRXk.out.lt) HRXk.out.sz))
          obtain ⟨fl, hown, hrep⟩ := HRX7.out.l
          obtain ⟨pv, capv, hfv⟩ := HRX7.out.l.form
          subst hfv
          have Hown := Lib.hid hown; have Hrep := Lib.hid hrep
          have r0 := HRX7.out.c0
          have hg7 : g < w7.heap.size := Nat.lt_of_lt_of_le HRX7.out.lt HRX7.out.sz
          clear he7 hb7 hown hrep hgl t0 a0 a1 a2 m0a m0b m0c m0d m1a m1b m1c m1d hadd
          go_upto_region 4 with (at_builtin; go_loud (refine wpList_append1 rfl (.tmp 53) (.tmp 55) 22 rfl wc.heap.size 42 i0 (.agg #[.string ⟨#[]⟩, .string ⟨#[]⟩, .int .i64 0]) 3 40 Tryz.underlying22 Hi.out Hz0.out Hz1.out Hz2.out (by rfl) (by decide) _ _ _ Hown.out rfl [.string ⟨(cut80 y.key).toArray⟩, .string ⟨(cut80 y.num).toArray⟩, .int .i64 y.page] rfl rfl rfl (by simp [Value.oneCell']) (by unfold maxLen; omega) (by omega) HRX7.out.sz ?_); intro v2 w2 own2 g2 at2; obtain ⟨p2, cap2, hv2, _, _⟩ := own2.form (Nat.succ_pos _); have hput := RX.put0 (y := cutL y) HRX7.out Hrep.out rfl own2 g2 (at2.imp (fun h => h) (fun h => ⟨_, h, Nat.le_succ _⟩)); have hne9 : Value.ownBlock (.slice pv tk.length capv) ≠ some g := (fun e => by have := (Hown.out.lt g e).1; have := HRX7.out.lt; omega); have hcg2 := (grown_cell g2 hg7 hne9 0).trans HRX7.out.c0; have hfg2 := (grown_frozen g2 hg7 hne9 0).trans HRX7.out.f0; have Hput := Lib.hid hput; clear hput own2 g2 at2 hne9; subst hv2)
          have hkl := Hkl.out
          clear r0 b0 b1 b2 hlt' hltn' hcg2 hfg2
          go_wp2_with fail
          go_roundw
          case rel => exact ⟨k + 1, _, _, by have := Hlt.out; omega, by have := Hltn.out; omega, by go_num, by rw [Htk.out]; exact Hput.out.1, HKp7.out.trans Hput.out.2⟩
          case measure => have := Hlt.out; simp [intOf]; omega
        · have hlt' : (k : Int) < (x.labs.length : Int) := by omega
          have hltn' : ¬ (k : Int) < (n : Int) := by omega
          have htk : x.labs.take k = x.labs.take n := by rw [show k = n by omega]
          rw [htk] at HRXk
          have HRX2 := Lib.hid HRXk.out
          clear htk hk hkn HRXk HB HB2
          go_wp2_with fail
          clear t0 hlt' hltn'
          go_loopw [8] (fun iv wr => ∃ (k : Nat) (vl vh : Value), k ≤ x.heads.length ∧ k ≤ n ∧ iv = .int .i64 (k : Int) ∧ RX 42 56 g wc.heap.size wr ((x.labs.take n).map cutL) ((x.heads.take k).map cutH) vl vh vc vb ∧ Kept g wc.heap.size wc wr) (fun iv _ => x.heads.length - (intOf iv).toNat)
          case atStart => exact ⟨0, _, _, Nat.zero_le _, Nat.zero_le _, rfl, HRX2.out, HKp.out⟩
          case round =>
            clear HRX2
            obtain ⟨k, vl, vh, hk, hkn, rfl, hRX, hKp⟩ := hrel
            have HRXk := Lib.hid hRX; have HKp := Lib.hid hKp; have HB := Lib.hid (HB3.out.trans (hKp.1.mono (by have := Hgs.out; omega)))
            have HB2 := Lib.hid (Hb3.out.trans (hKp.1.mono Hgx.out))
            have t0 := (HB2.out.cell (p := ⟨w.heap.size, 1, none⟩) (by have := Hs2.out; show w.heap.size < W2.heap.size; omega)).trans (Hx0.out 1 _ rfl)
            clear hRX hKp
            by_cases hlt : k < x.heads.length
            · by_cases hltn : k < n
              · obtain ⟨y, hy⟩ : ∃ y, x.heads[k]? = some y := ⟨_, List.getElem?_eq_getElem hlt⟩
                obtain ⟨a, b, off, sp, vs, rfl, hadd, hbw, ⟨hR, hy1, hy2⟩, hcc⟩ := HHs.out k y hy
                have hR : vs = _ := hR
                subst hR
                have a0 : wr.cell? ⟨b, off, sp⟩ = some (.int .i64 y.level) := (HB.out.cell (p := ⟨b, off, sp⟩) hbw).trans (hcc 0 _ rfl)
                have a1 : wr.cell? ⟨b, off + 1, none⟩ = some (.string ⟨y.num.toArray⟩) := (HB.out.cell (p := ⟨b, off + 1, none⟩) hbw).trans (hcc 1 _ rfl)
                have a2 : wr.cell? ⟨b, off + 2, none⟩ = some (.string ⟨y.title.toArray⟩) := (HB.out.cell (p := ⟨b, off + 2, none⟩) hbw).trans (hcc 2 _ rfl)
                have a3 : wr.cell? ⟨b, off + 3, none⟩ = some (.int .i64 y.page) := (HB.out.cell (p := ⟨b, off + 3, none⟩) hbw).trans (hcc 3 _ rfl)
                obtain ⟨q0, m0a, m0b, m0c, m0d⟩ := cut_text8 y.num
                obtain ⟨q1, m1a, m1b, m1c, m1d⟩ := cut_text8 y.title
                have hlt' : (k : Int) < (x.heads.length : Int) := by omega
                have hltn' : (k : Int) < (n : Int) := by omega
                have hkl : (k : Int) + 1 ≤ 9223372036854775807 := by omega
                have htk : (x.heads.take (k + 1)).map cutH = (x.heads.take k).map cutH ++ [cutH y] := by rw [List.take_add_one, hy]; simp
                have htl0 : ((x.heads.take k).map cutH).length ≤ 1000 := by rw [List.length_map, List.length_take]; omega
                obtain ⟨tk, htk0⟩ : ∃ tk, (x.heads.take k).map cutH = tk := ⟨_, rfl⟩
                rw [htk0] at HRXk htk htl0
                have Htk := Lib.hid htk; have Hkl := Lib.hid hkl; have Hlt := Lib.hid hlt; have Hltn := Lib.hid hltn
                clear hcc hy htk hkl hbw htk0 hy1 hy2
                go_upto_region 15 with fail
                obtain ⟨gl, hgl⟩ : ∃ gl, gl = wr.heap.size := ⟨_, rfl⟩
                have hb7 := below_new wr (.cells #[.int .i64 y.level, .string ⟨(cut80 y.num).toArray⟩, .string ⟨(cut80 y.title).toArray⟩, .int .i64 y.page] 56)
                have he7 : ∀ (i : Nat) (u : Value), #[Value.int .i64 y.level, .string ⟨(cut80 y.num).toArray⟩, .string ⟨(cut80 y.title).toArray⟩, .int .i64 y.page][i]? = some u → (wr.alloc (.cells #[.int .i64 y.level, .string ⟨(cut80 y.num).toArray⟩, .string ⟨(cut80 y.title).toArray⟩, .int .i64 y.page] 56)).cell? ⟨wr.heap.size, i, none⟩ = some u := by
                  intro i u hu
                  rw [cell_of_row _ _ _ _ _ _ (heap_alloc_new wr _)]
                  exact hu
                generalize wr.alloc (.cells #[.int .i64 y.level, .string ⟨(cut80 y.num).toArray⟩, .string ⟨(cut80 y.title).toArray⟩, .int .i64 y.page] 56) = w7 at hb7 he7 ⊢
                rw [← hgl] at he7 ⊢
                have b0 := he7 0 _ rfl
                have b1 := he7 1 _ rfl
                have b2 := he7 2 _ rfl
                have b3 := he7 3 _ rfl
                have HRX7 := Lib.hid (HRXk.out.below hb7)
                have HKp7 := Lib.hid (HKp.out.trans (Kept.below hb7 (Nat.le_of_lt HRXk.out.lt) HRXk.out.sz))
                obtain ⟨fl, hown, hrep⟩ := HRX7.out.h
                obtain ⟨pv, capv, hfv⟩ := HRX7.out.h.form
                subst hfv
                have Hown := Lib.hid hown; have Hrep := Lib.hid hrep
                have r0 := HRX7.out.c1
                have hg7 : g < w7.heap.size := Nat.lt_of_lt_of_le HRX7.out.lt HRX7.out.sz
                clear he7 hb7 hown hrep hgl t0 a0 a1 a2 a3 m0a m0b m0c m0d m1a m1b m1c m1d hadd
                go_upto_region 11 with (at_builtin; go_loud (refine wpList_append1 rfl (.tmp 92) (.tmp 94) 23 rfl wc.heap.size 56 j0 (.agg #[.int .i64 0, .string ⟨#[]⟩, .string ⟨#[]⟩, .int .i64 0]) 4 48 Tryz.underlying23 Ji.out Jz0.out Jz1.out Jz2.out (by rfl) (by decide) _ _ _ Hown.out rfl [.int .i64 y.level, .string ⟨(cut80 y.num).toArray⟩, .string ⟨(cut80 y.title).toArray⟩, .int .i64 y.page] rfl rfl rfl (by simp [Value.oneCell']) (by unfold maxLen; omega) (by omega) HRX7.out.sz ?_); intro v2 w2 own2 g2 at2; obtain ⟨p2, cap2, hv2, _, _⟩ := own2.form (Nat.succ_pos _); have hput := RX.put1 (y := cutH y) HRX7.out Hrep.out rfl own2 g2 (at2.imp (fun h => h) (fun h => ⟨_, h, Nat.le_succ _⟩)); have hne9 : Value.ownBlock (.slice pv tk.length capv) ≠ some g := (fun e => by have := (Hown.out.lt g e).1; have := HRX7.out.lt; omega); have hcg2 := (grown_cell g2 hg7 hne9 1).trans HRX7.out.c1; have hfg2 := (grown_frozen g2 hg7 hne9 1).trans HRX7.out.f1; have Hput := Lib.hid hput; clear hput own2 g2 at2 hne9; subst hv2)
                have hkl := Hkl.out
                clear r0 b0 b1 b2 b3 hlt' hltn' hcg2 hfg2
                go_wp2_with fail
                go_roundw
                case rel => exact ⟨k + 1, _, _, by have := Hlt.out; omega, by have := Hltn.out; omega, by go_num, by rw [Htk.out]; exact Hput.out.1, HKp7.out.trans Hput.out.2⟩
                case measure => have := Hlt.out; simp [intOf]; omega
              · have hlt' : (k : Int) < (x.heads.length : Int) := by omega
                have hltn' : ¬ (k : Int) < (n : Int) := by omega
                have htk : x.heads.take k = x.heads.take n := by rw [show k = n by omega]
                rw [htk] at HRXk
                obtain ⟨ql, kl, hvl⟩ := HRXk.out.l.form
                obtain ⟨qh, kh, hvh⟩ := HRXk.out.h.form
                have hKg := HKp.out.grown
                have HO1k := Lib.hid (HO1.out.grown hKg (fun j hj e => Hj1.out j hj (Option.some.inj e).symm)); have HO2k := Lib.hid (HO2.out.grown hKg (fun j hj e => Hj2.out j hj (Option.some.inj e).symm))
                obtain ⟨qc, kc, hvc⟩ := HO1k.out.form
                obtain ⟨qb, kb, hvb⟩ := HO2k.out.form
                subst hvl hvh hvc hvb
                obtain ⟨L1, hL1⟩ : ∃ L1, ((x.labs.take n).map cutL).length = L1 := ⟨_, rfl⟩
                obtain ⟨L2, hL2⟩ : ∃ L2, ((x.heads.take n).map cutH).length = L2 := ⟨_, rfl⟩
                have c0 := HRXk.out.c0; have c1 := HRXk.out.c1; have c2 := HRXk.out.c2; have c3 := HRXk.out.c3
                rw [hL1] at c0
                rw [hL2] at c1
                have HL1 := Lib.hid hL1; have HL2 := Lib.hid hL2
                have d0 := (HB2.out.cell (p := ⟨w.heap.size + 1, 0, none⟩) (by have := Hs2.out; show w.heap.size + 1 < W2.heap.size; omega)).trans (Hx1.out 0 _ rfl)
                have d1 := (HB2.out.cell (p := ⟨w.heap.size + 1, 1, none⟩) (by have := Hs2.out; show w.heap.size + 1 < W2.heap.size; omega)).trans (Hx1.out 1 _ rfl)
                have d2 := (HB2.out.cell (p := ⟨w.heap.size + 1, 2, none⟩) (by have := Hs2.out; show w.heap.size + 1 < W2.heap.size; omega)).trans (Hx1.out 2 _ rfl)
                have d3 := (HB2.out.cell (p := ⟨w.heap.size + 1, 3, none⟩) (by have := Hs2.out; show w.heap.size + 1 < W2.heap.size; omega)).trans (Hx1.out 3 _ rfl)
                have f0 := (frozen_below (i := 0) HB2.out (by have := Hs2.out; omega)).trans (Hf1.out 0)
                have f1 := (frozen_below (i := 1) HB2.out (by have := Hs2.out; omega)).trans (Hf1.out 1)
                have f2 := (frozen_below (i := 2) HB2.out (by have := Hs2.out; omega)).trans (Hf1.out 2)
                have f3 := (frozen_below (i := 3) HB2.out (by have := Hs2.out; omega)).trans (Hf1.out 3)
                have hgB : w.heap.size + 1 < wc.heap.size := by have h1 := Hgs.out; have h2 := HRXk.out.lt; omega
                have hgW : w.heap.size + 1 < W2.heap.size := by have h1 := Hs2.out; omega
                have HgB := Lib.hid hgB; have HgW := Lib.hid hgW
                clear htk hk hkn hgB hgW hL1 hL2 hKg
                go_wp2_with fail
                obtain ⟨z0, z1, z2, z3⟩ := set4 (w.heap.size + 1) wr (.slice ql L1 kl) (.slice qh L2 kh) (.slice qc C1.length kc) (.slice qb C2.length kb) d0 d1 d2 d3
                refine ret_cell1 rfl rfl (load_side _ _ _ _ _ _ z0 z1 z2 z3) rfl ?_
                have hbz := set4_below (g := w.heap.size + 1) HB.out (by omega) (.slice ql L1 kl) (.slice qh L2 kh) (.slice qc C1.length kc) (.slice qb C2.length kb)
                have o0 := (HRXk.out.l.set4 (.slice ql L1 kl) (.slice qh L2 kh) (.slice qc C1.length kc) (.slice qb C2.length kb) HgB.out).slice RLab.size (fun j => w.heap.size ≤ j) (fun j hj => by have := HgB.out; omega)
                have o1 := (HRXk.out.h.set4 (.slice ql L1 kl) (.slice qh L2 kh) (.slice qc C1.length kc) (.slice qb C2.length kb) HgB.out).slice RHd.size (fun j => w.heap.size ≤ j) (fun j hj => by have := HgB.out; omega)
                have o2 := (HO1k.out.set4 (.slice ql L1 kl) (.slice qh L2 kh) (.slice qc C1.length kc) (.slice qb C2.length kb) HgW.out).slice RStr.size (fun j => w.heap.size ≤ j) (fun j hj => by have := HgW.out; omega)
                have o3 := (HO2k.out.set4 (.slice ql L1 kl) (.slice qh L2 kh) (.slice qc C1.length kc) (.slice qb C2.length kb) HgW.out).slice RStr.size (fun j => w.heap.size ≤ j) (fun j hj => by have := HgW.out; omega)
                rw [HL1.out] at o0
                rw [HL2.out] at o1
                refine ⟨⟨_, rfl, _, _, _, _, rfl, o0, o1, ?_, ?_⟩, hbz⟩
                · show SliceIn _ 1 RStr _ _ ((x.cites.take n).map cut80)
                  rw [HC1.out]; exact o2
                · show SliceIn _ 1 RStr _ _ ((x.bibs.take n).map cut80)
                  rw [HC2.out]; exact o3
            · have hlt' : ¬ (k : Int) < (x.heads.length : Int) := by omega
              have htk : x.heads.take k = x.heads.take n := by rw [List.take_of_length_le (by omega), List.take_of_length_le (by omega)]
              rw [htk] at HRXk
              obtain ⟨ql, kl, hvl⟩ := HRXk.out.l.form
              obtain ⟨qh, kh, hvh⟩ := HRXk.out.h.form
              have hKg := HKp.out.grown
              have HO1k := Lib.hid (HO1.out.grown hKg (fun j hj e => Hj1.out j hj (Option.some.inj e).symm)); have HO2k := Lib.hid (HO2.out.grown hKg (fun j hj e => Hj2.out j hj (Option.some.inj e).symm))
              obtain ⟨qc, kc, hvc⟩ := HO1k.out.form
              obtain ⟨qb, kb, hvb⟩ := HO2k.out.form
              subst hvl hvh hvc hvb
              obtain ⟨L1, hL1⟩ : ∃ L1, ((x.labs.take n).map cutL).length = L1 := ⟨_, rfl⟩
              obtain ⟨L2, hL2⟩ : ∃ L2, ((x.heads.take n).map cutH).length = L2 := ⟨_, rfl⟩
              have c0 := HRXk.out.c0; have c1 := HRXk.out.c1; have c2 := HRXk.out.c2; have c3 := HRXk.out.c3
              rw [hL1] at c0
              rw [hL2] at c1
              have HL1 := Lib.hid hL1; have HL2 := Lib.hid hL2
              have d0 := (HB2.out.cell (p := ⟨w.heap.size + 1, 0, none⟩) (by have := Hs2.out; show w.heap.size + 1 < W2.heap.size; omega)).trans (Hx1.out 0 _ rfl)
              have d1 := (HB2.out.cell (p := ⟨w.heap.size + 1, 1, none⟩) (by have := Hs2.out; show w.heap.size + 1 < W2.heap.size; omega)).trans (Hx1.out 1 _ rfl)
              have d2 := (HB2.out.cell (p := ⟨w.heap.size + 1, 2, none⟩) (by have := Hs2.out; show w.heap.size + 1 < W2.heap.size; omega)).trans (Hx1.out 2 _ rfl)
              have d3 := (HB2.out.cell (p := ⟨w.heap.size + 1, 3, none⟩) (by have := Hs2.out; show w.heap.size + 1 < W2.heap.size; omega)).trans (Hx1.out 3 _ rfl)
              have f0 := (frozen_below (i := 0) HB2.out (by have := Hs2.out; omega)).trans (Hf1.out 0)
              have f1 := (frozen_below (i := 1) HB2.out (by have := Hs2.out; omega)).trans (Hf1.out 1)
              have f2 := (frozen_below (i := 2) HB2.out (by have := Hs2.out; omega)).trans (Hf1.out 2)
              have f3 := (frozen_below (i := 3) HB2.out (by have := Hs2.out; omega)).trans (Hf1.out 3)
              have hgB : w.heap.size + 1 < wc.heap.size := by have h1 := Hgs.out; have h2 := HRXk.out.lt; omega
              have hgW : w.heap.size + 1 < W2.heap.size := by have h1 := Hs2.out; omega
              have HgB := Lib.hid hgB; have HgW := Lib.hid hgW
              clear htk hk hkn hgB hgW hL1 hL2 hKg
              go_wp2_with fail
              obtain ⟨z0, z1, z2, z3⟩ := set4 (w.heap.size + 1) wr (.slice ql L1 kl) (.slice qh L2 kh) (.slice qc C1.length kc) (.slice qb C2.length kb) d0 d1 d2 d3
              refine ret_cell1 rfl rfl (load_side _ _ _ _ _ _ z0 z1 z2 z3) rfl ?_
              have hbz := set4_below (g := w.heap.size + 1) HB.out (by omega) (.slice ql L1 kl) (.slice qh L2 kh) (.slice qc C1.length kc) (.slice qb C2.length kb)
              have o0 := (HRXk.out.l.set4 (.slice ql L1 kl) (.slice qh L2 kh) (.slice qc C1.length kc) (.slice qb C2.length kb) HgB.out).slice RLab.size (fun j => w.heap.size ≤ j) (fun j hj => by have := HgB.out; omega)
              have o1 := (HRXk.out.h.set4 (.slice ql L1 kl) (.slice qh L2 kh) (.slice qc C1.length kc) (.slice qb C2.length kb) HgB.out).slice RHd.size (fun j => w.heap.size ≤ j) (fun j hj => by have := HgB.out; omega)
              have o2 := (HO1k.out.set4 (.slice ql L1 kl) (.slice qh L2 kh) (.slice qc C1.length kc) (.slice qb C2.length kb) HgW.out).slice RStr.size (fun j => w.heap.size ≤ j) (fun j hj => by have := HgW.out; omega)
              have o3 := (HO2k.out.set4 (.slice ql L1 kl) (.slice qh L2 kh) (.slice qc C1.length kc) (.slice qb C2.length kb) HgW.out).slice RStr.size (fun j => w.heap.size ≤ j) (fun j hj => by have := HgW.out; omega)
              rw [HL1.out] at o0
              rw [HL2.out] at o1
              refine ⟨⟨_, rfl, _, _, _, _, rfl, o0, o1, ?_, ?_⟩, hbz⟩
              · show SliceIn _ 1 RStr _ _ ((x.cites.take n).map cut80)
                rw [HC1.out]; exact o2
              · show SliceIn _ 1 RStr _ _ ((x.bibs.take n).map cut80)
                rw [HC2.out]; exact o3
      · have hlt' : ¬ (k : Int) < (x.labs.length : Int) := by omega
        have htk : x.labs.take k = x.labs.take n := by rw [List.take_of_length_le (by omega), List.take_of_length_le (by omega)]
        rw [htk] at HRXk
        have HRX2 := Lib.hid HRXk.out
        clear htk hk hkn HRXk HB HB2
        go_wp2_with fail
        clear t0 hlt'
        go_loopw [8] (fun iv wr => ∃ (k : Nat) (vl vh : Value), k ≤ x.heads.length ∧ k ≤ n ∧ iv = .int .i64 (k : Int) ∧ RX 42 56 g wc.heap.size wr ((x.labs.take n).map cutL) ((x.heads.take k).map cutH) vl vh vc vb ∧ Kept g wc.heap.size wc wr) (fun iv _ => x.heads.length - (intOf iv).toNat)
        case atStart => exact ⟨0, _, _, Nat.zero_le _, Nat.zero_le _, rfl, HRX2.out, HKp.out⟩
        case round =>
          clear HRX2
          obtain ⟨k, vl, vh, hk, hkn, rfl, hRX, hKp⟩ := hrel
          have HRXk := Lib.hid hRX; have HKp := Lib.hid hKp; have HB := Lib.hid (HB3.out.trans (hKp.1.mono (by have := Hgs.out; omega)))
          have HB2 := Lib.hid (Hb3.out.trans (hKp.1.mono Hgx.out))
          have t0 := (HB2.out.cell (p := ⟨w.heap.size, 1, none⟩) (by have := Hs2.out; show w.heap.size < W2.heap.size; omega)).trans (Hx0.out 1 _ rfl)
          clear hRX hKp
          by_cases hlt : k < x.heads.length
          · by_cases hltn : k < n
            · obtain ⟨y, hy⟩ : ∃ y, x.heads[k]? = some y := ⟨_, List.getElem?_eq_getElem hlt⟩
              obtain ⟨a, b, off, sp, vs, rfl, hadd, hbw, ⟨hR, hy1, hy2⟩, hcc⟩ := HHs.out k y hy
              have hR : vs = _ := hR
              subst hR
              have a0 : wr.cell? ⟨b, off, sp⟩ = some (.int .i64 y.level) := (HB.out.cell (p := ⟨b, off, sp⟩) hbw).trans (hcc 0 _ rfl)
              have a1 : wr.cell? ⟨b, off + 1, none⟩ = some (.string ⟨y.num.toArray⟩) := (HB.out.cell (p := ⟨b, off + 1, none⟩) hbw).trans (hcc 1 _ rfl)
              have a2 : wr.cell? ⟨b, off + 2, none⟩ = some (.string ⟨y.title.toArray⟩) := (HB.out.cell (p := ⟨b, off + 2, none⟩) hbw).trans (hcc 2 _ rfl)
              have a3 : wr.cell? ⟨b, off + 3, none⟩ = some (.int .i64 y.page) := (HB.out.cell (p := ⟨b, off + 3, none⟩) hbw).trans (hcc 3 _ rfl)
              obtain ⟨q0, m0a, m0b, m0c, m0d⟩ := cut_text8 y.num
              obtain ⟨q1, m1a, m1b, m1c, m1d⟩ := cut_text8 y.title
              have hlt' : (k : Int) < (x.heads.length : Int) := by omega
              have hltn' : (k : Int) < (n : Int) := by omega
              have hkl : (k : Int) + 1 ≤ 9223372036854775807 := by omega
              have htk : (x.heads.take (k + 1)).map cutH = (x.heads.take k).map cutH ++ [cutH y] := by rw [List.take_add_one, hy]; simp
              have htl0 : ((x.heads.take k).map cutH).length ≤ 1000 := by rw [List.length_map, List.length_take]; omega
              obtain ⟨tk, htk0⟩ : ∃ tk, (x.heads.take k).map cutH = tk := ⟨_, rfl⟩
              rw [htk0] at HRXk htk htl0
              have Htk := Lib.hid htk; have Hkl := Lib.hid hkl; have Hlt := Lib.hid hlt; have Hltn := Lib.hid hltn
              clear hcc hy htk hkl hbw htk0 hy1 hy2
              go_upto_region 15 with fail
              obtain ⟨gl, hgl⟩ : ∃ gl, gl = wr.heap.size := ⟨_, rfl⟩
              have hb7 := below_new wr (.cells #[.int .i64 y.level, .string ⟨(cut80 y.num).toArray⟩, .string ⟨(cut80 y.title).toArray⟩, .int .i64 y.page] 56)
              have he7 : ∀ (i : Nat) (u : Value), #[Value.int .i64 y.level, .string ⟨(cut80 y.num).toArray⟩, .string ⟨(cut80 y.title).toArray⟩, .int .i64 y.page][i]? = some u → (wr.alloc (.cells #[.int .i64 y.level, .string ⟨(cut80 y.num).toArray⟩, .string ⟨(cut80 y.title).toArray⟩, .int .i64 y.page] 56)).cell? ⟨wr.heap.size, i, none⟩ = some u := by
                intro i u hu
                rw [cell_of_row _ _ _ _ _ _ (heap_alloc_new wr _)]
                exact hu
              generalize wr.alloc (.cells #[.int .i64 y.level, .string ⟨(cut80 y.num).toArray⟩, .string ⟨(cut80 y.title).toArray⟩, .int .i64 y.page] 56) = w7 at hb7 he7 ⊢
              rw [← hgl] at he7 ⊢
              have b0 := he7 0 _ rfl
              have b1 := he7 1 _ rfl
              have b2 := he7 2 _ rfl
              have b3 := he7 3 _ rfl
              have HRX7 := Lib.hid (HRXk.out.below hb7)
              have HKp7 := Lib.hid (HKp.out.trans (Kept.below hb7 (Nat.le_of_lt HRXk.out.lt) HRXk.out.sz))
              obtain ⟨fl, hown, hrep⟩ := HRX7.out.h
              obtain ⟨pv, capv, hfv⟩ := HRX7.out.h.form
              subst hfv
              have Hown := Lib.hid hown; have Hrep := Lib.hid hrep
              have r0 := HRX7.out.c1
              have hg7 : g < w7.heap.size := Nat.lt_of_lt_of_le HRX7.out.lt HRX7.out.sz
              clear he7 hb7 hown hrep hgl t0 a0 a1 a2 a3 m0a m0b m0c m0d m1a m1b m1c m1d hadd
              go_upto_region 11 with (at_builtin; go_loud (refine wpList_append1 rfl (.tmp 92) (.tmp 94) 23 rfl wc.heap.size 56 j0 (.agg #[.int .i64 0, .string ⟨#[]⟩, .string ⟨#[]⟩, .int .i64 0]) 4 48 Tryz.underlying23 Ji.out Jz0.out Jz1.out Jz2.out (by rfl) (by decide) _ _ _ Hown.out rfl [.int .i64 y.level, .string ⟨(cut80 y.num).toArray⟩, .string ⟨(cut80 y.title).toArray⟩, .int .i64 y.page] rfl rfl rfl (by simp [Value.oneCell']) (by unfold maxLen; omega) (by omega) HRX7.out.sz ?_); intro v2 w2 own2 g2 at2; obtain ⟨p2, cap2, hv2, _, _⟩ := own2.form (Nat.succ_pos _); have hput := RX.put1 (y := cutH y) HRX7.out Hrep.out rfl own2 g2 (at2.imp (fun h => h) (fun h => ⟨_, h, Nat.le_succ _⟩)); have hne9 : Value.ownBlock (.slice pv tk.length capv) ≠ some g := (fun e => by have := (Hown.out.lt g e).1; have := HRX7.out.lt; omega); have hcg2 := (grown_cell g2 hg7 hne9 1).trans HRX7.out.c1; have hfg2 := (grown_frozen g2 hg7 hne9 1).trans HRX7.out.f1; have Hput := Lib.hid hput; clear hput own2 g2 at2 hne9; subst hv2)
              have hkl := Hkl.out
              clear r0 b0 b1 b2 b3 hlt' hltn' hcg2 hfg2
              go_wp2_with fail
              go_roundw
              case rel => exact ⟨k + 1, _, _, by have := Hlt.out; omega, by have := Hltn.out; omega, by go_num, by rw [Htk.out]; exact Hput.out.1, HKp7.out.trans Hput.out.2⟩
              case measure => have := Hlt.out; simp [intOf]; omega
            · have hlt' : (k : Int) < (x.heads.length : Int) := by omega
              have hltn' : ¬ (k : Int) < (n : Int) := by omega
              have htk : x.heads.take k = x.heads.take n := by rw [show k = n by omega]
              rw [htk] at HRXk
              obtain ⟨ql, kl, hvl⟩ := HRXk.out.l.form
              obtain ⟨qh, kh, hvh⟩ := HRXk.out.h.form
              have hKg := HKp.out.grown
              have HO1k := Lib.hid (HO1.out.grown hKg (fun j hj e => Hj1.out j hj (Option.some.inj e).symm)); have HO2k := Lib.hid (HO2.out.grown hKg (fun j hj e => Hj2.out j hj (Option.some.inj e).symm))
              obtain ⟨qc, kc, hvc⟩ := HO1k.out.form
              obtain ⟨qb, kb, hvb⟩ := HO2k.out.form
              subst hvl hvh hvc hvb
              obtain ⟨L1, hL1⟩ : ∃ L1, ((x.labs.take n).map cutL).length = L1 := ⟨_, rfl⟩
              obtain ⟨L2, hL2⟩ : ∃ L2, ((x.heads.take n).map cutH).length = L2 := ⟨_, rfl⟩
              have c0 := HRXk.out.c0; have c1 := HRXk.out.c1; have c2 := HRXk.out.c2; have c3 := HRXk.out.c3
              rw [hL1] at c0
              rw [hL2] at c1
              have HL1 := Lib.hid hL1; have HL2 := Lib.hid hL2
              have d0 := (HB2.out.cell (p := ⟨w.heap.size + 1, 0, none⟩) (by have := Hs2.out; show w.heap.size + 1 < W2.heap.size; omega)).trans (Hx1.out 0 _ rfl)
              have d1 := (HB2.out.cell (p := ⟨w.heap.size + 1, 1, none⟩) (by have := Hs2.out; show w.heap.size + 1 < W2.heap.size; omega)).trans (Hx1.out 1 _ rfl)
              have d2 := (HB2.out.cell (p := ⟨w.heap.size + 1, 2, none⟩) (by have := Hs2.out; show w.heap.size + 1 < W2.heap.size; omega)).trans (Hx1.out 2 _ rfl)
              have d3 := (HB2.out.cell (p := ⟨w.heap.size + 1, 3, none⟩) (by have := Hs2.out; show w.heap.size + 1 < W2.heap.size; omega)).trans (Hx1.out 3 _ rfl)
              have f0 := (frozen_below (i := 0) HB2.out (by have := Hs2.out; omega)).trans (Hf1.out 0)
              have f1 := (frozen_below (i := 1) HB2.out (by have := Hs2.out; omega)).trans (Hf1.out 1)
              have f2 := (frozen_below (i := 2) HB2.out (by have := Hs2.out; omega)).trans (Hf1.out 2)
              have f3 := (frozen_below (i := 3) HB2.out (by have := Hs2.out; omega)).trans (Hf1.out 3)
              have hgB : w.heap.size + 1 < wc.heap.size := by have h1 := Hgs.out; have h2 := HRXk.out.lt; omega
              have hgW : w.heap.size + 1 < W2.heap.size := by have h1 := Hs2.out; omega
              have HgB := Lib.hid hgB; have HgW := Lib.hid hgW
              clear htk hk hkn hgB hgW hL1 hL2 hKg
              go_wp2_with fail
              obtain ⟨z0, z1, z2, z3⟩ := set4 (w.heap.size + 1) wr (.slice ql L1 kl) (.slice qh L2 kh) (.slice qc C1.length kc) (.slice qb C2.length kb) d0 d1 d2 d3
              refine ret_cell1 rfl rfl (load_side _ _ _ _ _ _ z0 z1 z2 z3) rfl ?_
              have hbz := set4_below (g := w.heap.size + 1) HB.out (by omega) (.slice ql L1 kl) (.slice qh L2 kh) (.slice qc C1.length kc) (.slice qb C2.length kb)
              have o0 := (HRXk.out.l.set4 (.slice ql L1 kl) (.slice qh L2 kh) (.slice qc C1.length kc) (.slice qb C2.length kb) HgB.out).slice RLab.size (fun j => w.heap.size ≤ j) (fun j hj => by have := HgB.out; omega)
              have o1 := (HRXk.out.h.set4 (.slice ql L1 kl) (.slice qh L2 kh) (.slice qc C1.length kc) (.slice qb C2.length kb) HgB.out).slice RHd.size (fun j => w.heap.size ≤ j) (fun j hj => by have := HgB.out; omega)
              have o2 := (HO1k.out.set4 (.slice ql L1 kl) (.slice qh L2 kh) (.slice qc C1.length kc) (.slice qb C2.length kb) HgW.out).slice RStr.size (fun j => w.heap.size ≤ j) (fun j hj => by have := HgW.out; omega)
              have o3 := (HO2k.out.set4 (.slice ql L1 kl) (.slice qh L2 kh) (.slice qc C1.length kc) (.slice qb C2.length kb) HgW.out).slice RStr.size (fun j => w.heap.size ≤ j) (fun j hj => by have := HgW.out; omega)
              rw [HL1.out] at o0
              rw [HL2.out] at o1
              refine ⟨⟨_, rfl, _, _, _, _, rfl, o0, o1, ?_, ?_⟩, hbz⟩
              · show SliceIn _ 1 RStr _ _ ((x.cites.take n).map cut80)
                rw [HC1.out]; exact o2
              · show SliceIn _ 1 RStr _ _ ((x.bibs.take n).map cut80)
                rw [HC2.out]; exact o3
          · have hlt' : ¬ (k : Int) < (x.heads.length : Int) := by omega
            have htk : x.heads.take k = x.heads.take n := by rw [List.take_of_length_le (by omega), List.take_of_length_le (by omega)]
            rw [htk] at HRXk
            obtain ⟨ql, kl, hvl⟩ := HRXk.out.l.form
            obtain ⟨qh, kh, hvh⟩ := HRXk.out.h.form
            have hKg := HKp.out.grown
            have HO1k := Lib.hid (HO1.out.grown hKg (fun j hj e => Hj1.out j hj (Option.some.inj e).symm)); have HO2k := Lib.hid (HO2.out.grown hKg (fun j hj e => Hj2.out j hj (Option.some.inj e).symm))
            obtain ⟨qc, kc, hvc⟩ := HO1k.out.form
            obtain ⟨qb, kb, hvb⟩ := HO2k.out.form
            subst hvl hvh hvc hvb
            obtain ⟨L1, hL1⟩ : ∃ L1, ((x.labs.take n).map cutL).length = L1 := ⟨_, rfl⟩
            obtain ⟨L2, hL2⟩ : ∃ L2, ((x.heads.take n).map cutH).length = L2 := ⟨_, rfl⟩
            have c0 := HRXk.out.c0; have c1 := HRXk.out.c1; have c2 := HRXk.out.c2; have c3 := HRXk.out.c3
            rw [hL1] at c0
            rw [hL2] at c1
            have HL1 := Lib.hid hL1; have HL2 := Lib.hid hL2
            have d0 := (HB2.out.cell (p := ⟨w.heap.size + 1, 0, none⟩) (by have := Hs2.out; show w.heap.size + 1 < W2.heap.size; omega)).trans (Hx1.out 0 _ rfl)
            have d1 := (HB2.out.cell (p := ⟨w.heap.size + 1, 1, none⟩) (by have := Hs2.out; show w.heap.size + 1 < W2.heap.size; omega)).trans (Hx1.out 1 _ rfl)
            have d2 := (HB2.out.cell (p := ⟨w.heap.size + 1, 2, none⟩) (by have := Hs2.out; show w.heap.size + 1 < W2.heap.size; omega)).trans (Hx1.out 2 _ rfl)
            have d3 := (HB2.out.cell (p := ⟨w.heap.size + 1, 3, none⟩) (by have := Hs2.out; show w.heap.size + 1 < W2.heap.size; omega)).trans (Hx1.out 3 _ rfl)
            have f0 := (frozen_below (i := 0) HB2.out (by have := Hs2.out; omega)).trans (Hf1.out 0)
            have f1 := (frozen_below (i := 1) HB2.out (by have := Hs2.out; omega)).trans (Hf1.out 1)
            have f2 := (frozen_below (i := 2) HB2.out (by have := Hs2.out; omega)).trans (Hf1.out 2)
            have f3 := (frozen_below (i := 3) HB2.out (by have := Hs2.out; omega)).trans (Hf1.out 3)
            have hgB : w.heap.size + 1 < wc.heap.size := by have h1 := Hgs.out; have h2 := HRXk.out.lt; omega
            have hgW : w.heap.size + 1 < W2.heap.size := by have h1 := Hs2.out; omega
            have HgB := Lib.hid hgB; have HgW := Lib.hid hgW
            clear htk hk hkn hgB hgW hL1 hL2 hKg
            go_wp2_with fail
            obtain ⟨z0, z1, z2, z3⟩ := set4 (w.heap.size + 1) wr (.slice ql L1 kl) (.slice qh L2 kh) (.slice qc C1.length kc) (.slice qb C2.length kb) d0 d1 d2 d3
            refine ret_cell1 rfl rfl (load_side _ _ _ _ _ _ z0 z1 z2 z3) rfl ?_
            have hbz := set4_below (g := w.heap.size + 1) HB.out (by omega) (.slice ql L1 kl) (.slice qh L2 kh) (.slice qc C1.length kc) (.slice qb C2.length kb)
            have o0 := (HRXk.out.l.set4 (.slice ql L1 kl) (.slice qh L2 kh) (.slice qc C1.length kc) (.slice qb C2.length kb) HgB.out).slice RLab.size (fun j => w.heap.size ≤ j) (fun j hj => by have := HgB.out; omega)
            have o1 := (HRXk.out.h.set4 (.slice ql L1 kl) (.slice qh L2 kh) (.slice qc C1.length kc) (.slice qb C2.length kb) HgB.out).slice RHd.size (fun j => w.heap.size ≤ j) (fun j hj => by have := HgB.out; omega)
            have o2 := (HO1k.out.set4 (.slice ql L1 kl) (.slice qh L2 kh) (.slice qc C1.length kc) (.slice qb C2.length kb) HgW.out).slice RStr.size (fun j => w.heap.size ≤ j) (fun j hj => by have := HgW.out; omega)
            have o3 := (HO2k.out.set4 (.slice ql L1 kl) (.slice qh L2 kh) (.slice qc C1.length kc) (.slice qb C2.length kb) HgW.out).slice RStr.size (fun j => w.heap.size ≤ j) (fun j hj => by have := HgW.out; omega)
            rw [HL1.out] at o0
            rw [HL2.out] at o1
            refine ⟨⟨_, rfl, _, _, _, _, rfl, o0, o1, ?_, ?_⟩, hbz⟩
            · show SliceIn _ 1 RStr _ _ ((x.cites.take n).map cut80)
              rw [HC1.out]; exact o2
            · show SliceIn _ 1 RStr _ _ ((x.bibs.take n).map cut80)
              rw [HC2.out]; exact o3
end Go.Proofs.YtimmmjmmjokdbaaGreatDoor
