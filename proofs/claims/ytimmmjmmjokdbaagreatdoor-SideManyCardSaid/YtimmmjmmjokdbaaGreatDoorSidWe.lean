/- The walks of stetlaw10's own functions, third part: a side for the document. -/
import Derived.Test.YtimmmjmmjokdbaaGreatDoorSidWd
set_option linter.unusedSimpArgs false
set_option linter.unusedVariables false
namespace Go.Proofs.YtimmmjmmjokdbaaGreatDoor
open Go.RowKit
/-- a side of two own slices under way -/
structure RX (tl th : TypeId) (g B : Nat) (W : World) (ls : List Sd.Lab) (hs : List Sd.Hd) (vl vh vc vb : Value) : Prop where
  c0 : W.cell? ⟨g, 0, none⟩ = some vl
  f0 : W.frozen? ⟨g, 0, none⟩ = false
  c1 : W.cell? ⟨g, 1, none⟩ = some vh
  f1 : W.frozen? ⟨g, 1, none⟩ = false
  c2 : W.cell? ⟨g, 2, none⟩ = some vc
  c3 : W.cell? ⟨g, 3, none⟩ = some vb
  lt : g < B
  sz : B ≤ W.heap.size
  l : OwnL B tl 3 RLab W vl ls
  h : OwnL B th 4 RHd W vh hs
  d : Dis vl vh
theorem RX.below {tl th : TypeId} {g B : Nat} {W W' : World} {ls : List Sd.Lab} {hs : List Sd.Hd} {vl vh vc vb : Value} (h : RX tl th g B W ls hs vl vh vc vb) (hb : Below W.heap.size W W') : RX tl th g B W' ls hs vl vh vc vb := by
  have hg : g < W.heap.size := Nat.lt_of_lt_of_le h.lt h.sz
  exact ⟨(hb.cell (p := ⟨g, 0, none⟩) hg).trans h.c0, (frozen_below hb hg).trans h.f0, (hb.cell (p := ⟨g, 1, none⟩) hg).trans h.c1, (frozen_below hb hg).trans h.f1, (hb.cell (p := ⟨g, 2, none⟩) hg).trans h.c2, (hb.cell (p := ⟨g, 3, none⟩) hg).trans h.c3, h.lt, Nat.le_trans h.sz hb.size, h.l.below hb, h.h.below hb, h.d⟩
theorem RX.put0 {tl th : TypeId} {g B : Nat} {W w2 : World} {ls : List Sd.Lab} {hs : List Sd.Hd} {vl vh vc vb v2 : Value} {fl vs : List Value} {y : Sd.Lab} (h : RX tl th g B W ls hs vl vh vc vb) (hrep : RepRow RLab ls fl) (hy : RLab y vs) (own2 : w2.ownsRow B tl 3 v2 (ls.length + 1) (fl ++ vs)) (hg : W.grownBy w2 vl.ownBlock)
    (at2 : v2.ownBlock = vl.ownBlock ∨ ∃ j, v2.ownBlock = some j ∧ W.heap.size ≤ j) : RX tl th g B (w2.setCell ⟨g, 0, none⟩ v2) (ls ++ [y]) hs v2 vh vc vb ∧ Kept g B W (w2.setCell ⟨g, 0, none⟩ v2) := by
  have hgW : g < W.heap.size := Nat.lt_of_lt_of_le h.lt h.sz
  have hne : vl.ownBlock ≠ some g := fun e => by have := (h.l.ge g e).1; have := h.lt; omega
  have q0 := (grown_cell hg hgW hne 0).trans h.c0
  have q1 := (grown_cell hg hgW hne 1).trans h.c1
  have q2 := (grown_cell hg hgW hne 2).trans h.c2
  have q3 := (grown_cell hg hgW hne 3).trans h.c3
  have r0 := (grown_frozen hg hgW hne 0).trans h.f0
  have r1 := (grown_frozen hg hgW hne 1).trans h.f1
  have hz2 : B ≤ w2.heap.size := Nat.le_trans h.sz hg.size
  have hset : w2.grownBy (w2.setCell ⟨g, 0, none⟩ v2) (some g) := grown_set w2 g 0 v2
  have hlt := h.lt
  have o1 : OwnL B th 4 RHd (w2.setCell ⟨g, 0, none⟩ v2) vh hs := (h.h.grown hg (fun k hk e => h.d.symm k hk e)).grown hset (fun k hk e => by have := (h.h.ge k hk).1; have := Option.some.inj e; omega)
  have o0 : OwnL B tl 3 RLab (w2.setCell ⟨g, 0, none⟩ v2) v2 (ls ++ [y]) := OwnL.grown (OwnL.more hrep hy own2) hset (fun k hk e => by have := (own2.lt k hk).1; have := Option.some.inj e; omega)
  have x : Dis v2 vh := own_one at2 (fun k hk => (h.h.ge k hk).2) h.d
  refine ⟨⟨World.cell?_setCell_same _ _ _ q0, (World.frozen?_setCell _ _ _ _).trans r0, (World.cell?_setCell_other _ _ _ _ (fun e => by injection e with _ e; omega)).trans q1, (World.frozen?_setCell _ _ _ _).trans r1, (World.cell?_setCell_other _ _ _ _ (fun e => by injection e with _ e; omega)).trans q2, (World.cell?_setCell_other _ _ _ _ (fun e => by injection e with _ e; omega)).trans q3, h.lt, by simpa [World.setCell] using hz2, o0, o1, x⟩, ?_⟩
  refine ⟨((Below.refl g W).grown hg (Nat.le_of_lt hgW) (fun k hk => by have := (h.l.ge k hk).1; omega)).setCell (p := ⟨g, 0, none⟩) (Nat.le_refl _) v2, fun k hk hkg => ?_⟩
  rw [Below.heap_setCell _ _ _ _ hkg]
  exact hg.block k (Nat.lt_of_lt_of_le hk h.sz) (fun e => by have := (h.l.ge k e.symm).1; omega)
theorem RX.put1 {tl th : TypeId} {g B : Nat} {W w2 : World} {ls : List Sd.Lab} {hs : List Sd.Hd} {vl vh vc vb v2 : Value} {fl vs : List Value} {y : Sd.Hd} (h : RX tl th g B W ls hs vl vh vc vb) (hrep : RepRow RHd hs fl) (hy : RHd y vs) (own2 : w2.ownsRow B th 4 v2 (hs.length + 1) (fl ++ vs)) (hg : W.grownBy w2 vh.ownBlock)
    (at2 : v2.ownBlock = vh.ownBlock ∨ ∃ j, v2.ownBlock = some j ∧ W.heap.size ≤ j) : RX tl th g B (w2.setCell ⟨g, 1, none⟩ v2) ls (hs ++ [y]) vl v2 vc vb ∧ Kept g B W (w2.setCell ⟨g, 1, none⟩ v2) := by
  have hgW : g < W.heap.size := Nat.lt_of_lt_of_le h.lt h.sz
  have hne : vh.ownBlock ≠ some g := fun e => by have := (h.h.ge g e).1; have := h.lt; omega
  have q0 := (grown_cell hg hgW hne 0).trans h.c0
  have q1 := (grown_cell hg hgW hne 1).trans h.c1
  have q2 := (grown_cell hg hgW hne 2).trans h.c2
  have q3 := (grown_cell hg hgW hne 3).trans h.c3
  have r0 := (grown_frozen hg hgW hne 0).trans h.f0
  have r1 := (grown_frozen hg hgW hne 1).trans h.f1
  have hz2 : B ≤ w2.heap.size := Nat.le_trans h.sz hg.size
  have hset : w2.grownBy (w2.setCell ⟨g, 1, none⟩ v2) (some g) := grown_set w2 g 1 v2
  have hlt := h.lt
  have o0 : OwnL B tl 3 RLab (w2.setCell ⟨g, 1, none⟩ v2) vl ls := (h.l.grown hg (fun k hk e => h.d k hk e)).grown hset (fun k hk e => by have := (h.l.ge k hk).1; have := Option.some.inj e; omega)
  have o1 : OwnL B th 4 RHd (w2.setCell ⟨g, 1, none⟩ v2) v2 (hs ++ [y]) := OwnL.grown (OwnL.more hrep hy own2) hset (fun k hk e => by have := (own2.lt k hk).1; have := Option.some.inj e; omega)
  have x : Dis v2 vl := own_one at2 (fun k hk => (h.l.ge k hk).2) h.d.symm
  refine ⟨⟨(World.cell?_setCell_other _ _ _ _ (fun e => by injection e with _ e; omega)).trans q0, (World.frozen?_setCell _ _ _ _).trans r0, World.cell?_setCell_same _ _ _ q1, (World.frozen?_setCell _ _ _ _).trans r1, (World.cell?_setCell_other _ _ _ _ (fun e => by injection e with _ e; omega)).trans q2, (World.cell?_setCell_other _ _ _ _ (fun e => by injection e with _ e; omega)).trans q3, h.lt, by simpa [World.setCell] using hz2, o0, o1, x.symm⟩, ?_⟩
  refine ⟨((Below.refl g W).grown hg (Nat.le_of_lt hgW) (fun k hk => by have := (h.h.ge k hk).1; omega)).setCell (p := ⟨g, 1, none⟩) (Nat.le_refl _) v2, fun k hk hkg => ?_⟩
  rw [Below.heap_setCell _ _ _ _ hkg]
  exact hg.block k (Nat.lt_of_lt_of_le hk h.sz) (fun e => by have := (h.h.ge k e.symm).1; omega)
theorem rlab_info : (Tryz.prog.info? 45).map (fun i => (i.zero, i.size, i.bytes)) = some (some (.agg #[.string ⟨#[]⟩, .string ⟨#[]⟩, .int .i64 0]), 3, 40) := by kernel_rfl
theorem rhd_info : (Tryz.prog.info? 65).map (fun i => (i.zero, i.size, i.bytes)) = some (some (.agg #[.int .i64 0, .string ⟨#[]⟩, .string ⟨#[]⟩, .int .i64 0]), 4, 48) := by kernel_rfl
theorem load_rside (g : Nat) (a b c d : Value) (w : World) (h0 : w.cell? ⟨g, 0, none⟩ = some a) (h1 : w.cell? ⟨g, 1, none⟩ = some b) (h2 : w.cell? ⟨g, 2, none⟩ = some c) (h3 : w.cell? ⟨g, 3, none⟩ = some d) :
    (loadVar 35 ⟨g, 0, none⟩).run Tryz.prog w = .ok (.agg #[a, b, c, d]) w := by
  go_simp
theorem ret_cell1 {P : Program} {fn : Func} {R : Ending → World → Prop} {a : Act} {w : World} {v : Value} {p : Tmp} {ty : TypeId} {ad : Addr} (h : fn.results = #[.cell p ty]) (hp : a.tmps.getD p undef = .pointer (some ad))
    (hl : (loadVar ty ad).run P w = .ok v w) (hd : a.defers = []) (hR : R (.returned v) w) : bodyPost P fn R .ret a w := by
  have e : (results fn a.tmps).run P w = ((asAddr (a.tmps.getD p undef)).run P w).andThen fun a w1 => (loadVar ty a).run P w1 := by
    simp only [results, h]
    simp [Sem.run_bind, Result.andThen]
  refine bodyPost_ret (v := v) ?_ hd hR
  rw [e, hp]
  simp [asAddr, hl, Result.andThen]
set_option maxRecDepth 100000 in
set_option maxHeartbeats 3200000 in
theorem law10_ref (x : Sd.Side) (v : Value) (S : Nat → Prop) (w : World) (hX : SideIn S w v x) (hsm : SideSm x) :
    Calls Tryz.prog 12 #[v] w fun e w' => (∃ v', e = .returned v' ∧ SideIn (fun _ => True) w' v' x) ∧ Below w.heap.size w w' := by
  have hnl := hsm.labs; have hnh := hsm.heads
  obtain ⟨vl0, vh0, vc0, vb0, rfl, hLb, hHd, hCt, hBb⟩ := hX
  have HCt := Lib.hid hCt; have HBb := Lib.hid hBb
  obtain ⟨pc, cc, rfl, _⟩ := hCt
  obtain ⟨pb, cb, rfl, _⟩ := hBb
  obtain ⟨pl, cl, rfl, _, _, hlat⟩ := hLb
  obtain ⟨ph, ch, rfl, _, _, hhat⟩ := hHd
  have Hlat := Lib.hid hlat; have Hhat := Lib.hid hhat
  clear hlat hhat hsm
  obtain ⟨i0, hi, hz0, hz1, hz2⟩ := info_parts rlab_info
  have Hi := Lib.hid hi; have Hz0 := Lib.hid hz0; have Hz1 := Lib.hid hz1; have Hz2 := Lib.hid hz2; clear hi hz0 hz1 hz2
  obtain ⟨j0, hi, hz0, hz1, hz2⟩ := info_parts rhd_info
  have Ji := Lib.hid hi; have Jz0 := Lib.hid hz0; have Jz1 := Lib.hid hz1; have Jz2 := Lib.hid hz2; clear hi hz0 hz1 hz2
  go_enter Tryz.func12, Tryz.ntmps12
  go_upto_region 1 with fail
  obtain ⟨W1, hW1⟩ : ∃ W1, W1 = w.alloc (.cells #[.slice pl x.labs.length cl, .slice ph x.heads.length ch, .slice pc x.cites.length cc, .slice pb x.bibs.length cb] 26) := ⟨_, rfl⟩
  have hs1 : W1.heap.size = w.heap.size + 1 := by rw [hW1]; simp
  obtain ⟨W2, hW2⟩ : ∃ W2, W2 = W1.alloc (.cells #[.slice none 0 0, .slice none 0 0, .slice none 0 0, .slice none 0 0] 35) := ⟨_, rfl⟩
  have hb1 : Below w.heap.size w W1 := by rw [hW1]; exact below_new w _
  have hb2 : Below w.heap.size w W2 := by rw [hW2]; exact hb1.alloc hb1.size _
  have hs2 : W2.heap.size = w.heap.size + 2 := by rw [hW2]; simp [hs1]
  have hx1 : ∀ (i : Nat) (u : Value), #[(.slice none 0 0 : Value), .slice none 0 0, .slice none 0 0, .slice none 0 0][i]? = some u → W2.cell? ⟨w.heap.size + 1, i, none⟩ = some u := by
    intro i u hu
    rw [← hs1, hW2, cell_of_row _ _ _ _ _ _ (heap_alloc_new W1 _)]
    exact hu
  have hf1 : ∀ i : Nat, W2.frozen? ⟨w.heap.size + 1, i, none⟩ = false := by
    intro i
    rw [← hs1, hW2]
    simp
  have hx0 : ∀ (i : Nat) (u : Value), #[Value.slice pl x.labs.length cl, .slice ph x.heads.length ch, .slice pc x.cites.length cc, .slice pb x.bibs.length cb][i]? = some u → W2.cell? ⟨w.heap.size, i, none⟩ = some u := by
    intro i u hu
    rw [hW2, World.cell?_alloc_lt _ _ ⟨w.heap.size, i, none⟩ (by rw [hs1]; show w.heap.size < _; omega), hW1, cell_of_row _ _ _ _ _ _ (heap_alloc_new w _)]
    exact hu
  first
    | rw [← hW1, ← hW2]
    | (rw [← hW1, hs1] at *; rw [← hW2])
  have c2 := hx0 2 _ rfl; have c3 := hx0 3 _ rfl
  have Hx0 := Lib.hid hx0; have Hx1 := Lib.hid hx1; have Hf1 := Lib.hid hf1; have Hb2 := Lib.hid hb2; have Hs2 := Lib.hid hs2
  clear hx0 hx1 hf1 hb1 hb2 hW1 hW2 hs1 hs2
  go_upto_region 2 with fail
  obtain ⟨W3, hW3⟩ : ∃ W3, W3 = W2.alloc (.cells #[.slice none 0 0, .slice none 0 0, .slice pc x.cites.length cc, .slice pb x.bibs.length cb] 35) := ⟨_, rfl⟩
  obtain ⟨g, hg⟩ : ∃ g, g = W2.heap.size := ⟨_, rfl⟩
  have hs3 : W3.heap.size = g + 1 := by rw [hW3, hg]; simp
  have hb3 : Below W2.heap.size W2 W3 := by rw [hW3]; exact below_new W2 _
  have hRX : RX 45 65 g W3.heap.size W3 [] [] (.slice none 0 0) (.slice none 0 0) (.slice pc x.cites.length cc) (.slice pb x.bibs.length cb) := by
    have hc : ∀ (i : Nat) (u : Value), #[(.slice none 0 0 : Value), .slice none 0 0, .slice pc x.cites.length cc, .slice pb x.bibs.length cb][i]? = some u → W3.cell? ⟨g, i, none⟩ = some u := by
      intro i u hu
      rw [hg, hW3, cell_of_row _ _ _ _ _ _ (heap_alloc_new W2 _)]
      exact hu
    have hf : ∀ i : Nat, W3.frozen? ⟨g, i, none⟩ = false := by
      intro i
      rw [hg, hW3]
      simp
    exact ⟨hc 0 _ rfl, hf 0, hc 1 _ rfl, hf 1, hc 2 _ rfl, hc 3 _ rfl, by omega, Nat.le_refl _, OwnL.nil _ _ _ _ _, OwnL.nil _ _ _ _ _, fun j hj => by cases hj⟩
  rw [← hW3, ← hg]
  have hgs : w.heap.size + 2 = g := by rw [hg]; exact Hs2.out.symm
  have HRX := Lib.hid hRX; have Hb3 := Lib.hid (show Below g W2 W3 by rw [hg]; exact hb3); have Hgs := Lib.hid hgs; have Hs3 := Lib.hid hs3
  have HB3 := Lib.hid (Hb2.out.trans (hb3.mono Hb2.out.size))
  clear hRX hb3 hW3 hg hgs hs3 c2 c3
  go_wp2_with fail
  go_loopw [4] (fun iv wr => ∃ (k : Nat) (vl vh : Value), k ≤ x.labs.length ∧ iv = .int .i64 (k : Int) ∧ RX 45 65 g W3.heap.size wr (x.labs.take k) [] vl vh (.slice pc x.cites.length cc) (.slice pb x.bibs.length cb) ∧ Kept g W3.heap.size W3 wr) (fun iv _ => x.labs.length - (intOf iv).toNat)
  case atStart => exact ⟨0, _, _, Nat.zero_le _, rfl, HRX.out, Below.refl _ _, fun _ _ _ => rfl⟩
  case round =>
    clear HRX
    obtain ⟨k, vl, vh, hk, rfl, hRX, hKp⟩ := hrel
    have HRXk := Lib.hid hRX; have HKp := Lib.hid hKp; have HB := Lib.hid (HB3.out.trans (hKp.1.mono (by have := Hgs.out; omega)))
    have HB2 := Lib.hid (Hb3.out.trans hKp.1)
    have t0 := ((Hb3.out.trans hKp.1).cell (p := ⟨w.heap.size, 0, none⟩) (by have := Hgs.out; show w.heap.size < g; omega)).trans (Hx0.out 0 _ rfl)
    clear hRX hKp
    by_cases hlt : k < x.labs.length
    · obtain ⟨y, hy⟩ : ∃ y, x.labs[k]? = some y := ⟨_, List.getElem?_eq_getElem hlt⟩
      obtain ⟨b, off, vs, rfl, _, hbw, hR, hcc⟩ := Hlat.out k y hy
      have hR : vs = _ := hR
      subst hR
      have a0 : wr.cell? ⟨b, off + k * 3, none⟩ = some (.string ⟨y.key.toArray⟩) := (HB.out.cell (p := ⟨b, off + k * 3, none⟩) hbw).trans (hcc 0 _ rfl)
      have a1 : wr.cell? ⟨b, off + k * 3 + 1, none⟩ = some (.string ⟨y.num.toArray⟩) := (HB.out.cell (p := ⟨b, off + k * 3 + 1, none⟩) hbw).trans (hcc 1 _ rfl)
      have a2 : wr.cell? ⟨b, off + k * 3 + 2, none⟩ = some (.int .i64 y.page) := (HB.out.cell (p := ⟨b, off + k * 3 + 2, none⟩) hbw).trans (hcc 2 _ rfl)
      have hlt' : (k : Int) < (x.labs.length : Int) := by omega
      have hkl : (k : Int) + 1 ≤ 9223372036854775807 := by omega
      have htk : x.labs.take (k + 1) = x.labs.take k ++ [y] := by rw [List.take_add_one, hy]; rfl
      have htl0 : (x.labs.take k).length ≤ 1000000 := by rw [List.length_take]; omega
      obtain ⟨tk, htk0⟩ : ∃ tk, x.labs.take k = tk := ⟨_, rfl⟩
      rw [htk0] at HRXk htk htl0
      have Htk := Lib.hid htk; have Hkl := Lib.hid hkl; have Hlt := Lib.hid hlt
      clear hcc hy htk hkl hbw htk0
      go_upto_region 6 with fail
      obtain ⟨gl, hgl⟩ : ∃ gl, gl = wr.heap.size := ⟨_, rfl⟩
      have hb7 := below_new wr (.cells #[.string ⟨y.key.toArray⟩, .string ⟨y.num.toArray⟩, .int .i64 y.page] 42)
      have he7 : ∀ (i : Nat) (u : Value), #[Value.string ⟨y.key.toArray⟩, .string ⟨y.num.toArray⟩, .int .i64 y.page][i]? = some u → (wr.alloc (.cells #[.string ⟨y.key.toArray⟩, .string ⟨y.num.toArray⟩, .int .i64 y.page] 42)).cell? ⟨wr.heap.size, i, none⟩ = some u := by
        intro i u hu
        rw [cell_of_row _ _ _ _ _ _ (heap_alloc_new wr _)]
        exact hu
      generalize wr.alloc (.cells #[.string ⟨y.key.toArray⟩, .string ⟨y.num.toArray⟩, .int .i64 y.page] 42) = w7 at hb7 he7 ⊢
      rw [← hgl] at he7 ⊢
      have b0 := he7 0 _ rfl
      have b1 := he7 1 _ rfl
      have b2 := he7 2 _ rfl
      have HRX7 := Lib.hid (HRXk.out.below hb7)
      have HKp7 := Lib.hid (HKp.out.trans (Kept.below hb7 (by have := Hs3.out; omega) HRXk.out.sz))
      obtain ⟨fl, hown, hrep⟩ := HRX7.out.l
      obtain ⟨pv, capv, hfv⟩ := HRX7.out.l.form
      subst hfv
      have Hown := Lib.hid hown; have Hrep := Lib.hid hrep
      have r0 := HRX7.out.c0
      have htl : tk.length ≤ 1000000 := htl0
      have hg7 : g < w7.heap.size := Nat.lt_of_lt_of_le HRX7.out.lt HRX7.out.sz
      clear he7 hb7 hown hrep hgl t0 a0 a1 a2
      go_upto_region 4 with (at_builtin; go_loud (refine wpList_append1 rfl (.tmp 26) (.tmp 34) 32 rfl W3.heap.size 45 i0 (.agg #[.string ⟨#[]⟩, .string ⟨#[]⟩, .int .i64 0]) 3 40 Tryz.underlying32 Hi.out Hz0.out Hz1.out Hz2.out (by rfl) (by decide) _ _ _ Hown.out rfl [.string ⟨y.key.toArray⟩, .string ⟨y.num.toArray⟩, .int .i64 y.page] rfl rfl rfl (by simp [Value.oneCell']) (by unfold maxLen; omega) (by omega) HRX7.out.sz ?_); intro v2 w2 own2 g2 at2; obtain ⟨p2, cap2, hv2, _, _⟩ := own2.form (Nat.succ_pos _); have hput := RX.put0 (y := y) HRX7.out Hrep.out rfl own2 g2 (at2.imp (fun h => h) (fun h => ⟨_, h, Nat.le_succ _⟩)); have hne9 : Value.ownBlock (.slice pv tk.length capv) ≠ some g := (fun e => by have := (Hown.out.lt g e).1; have := HRX7.out.lt; omega); have hcg2 := (grown_cell g2 hg7 hne9 0).trans HRX7.out.c0; have hfg2 := (grown_frozen g2 hg7 hne9 0).trans HRX7.out.f0; have Hput := Lib.hid hput; clear hput own2 g2 at2 hne9; subst hv2)
      have hkl := Hkl.out
      clear r0 b0 b1 b2 hlt' hcg2 hfg2
      go_wp2_with fail
      go_roundw
      case rel => exact ⟨k + 1, _, _, by have := Hlt.out; omega, by go_num, by rw [Htk.out]; exact Hput.out.1, HKp7.out.trans Hput.out.2⟩
      case measure => have := Hlt.out; simp [intOf]; omega
    · have hlt' : ¬ (k : Int) < (x.labs.length : Int) := by omega
      have htk : x.labs.take k = x.labs := List.take_of_length_le (by omega)
      rw [htk] at HRXk
      have HRX2 := Lib.hid HRXk.out
      clear htk hlt hk HRXk HB HB2
      go_wp2_with fail
      clear t0 hlt'
      go_loopw [6] (fun iv wr => ∃ (k : Nat) (vl vh : Value), k ≤ x.heads.length ∧ iv = .int .i64 (k : Int) ∧ RX 45 65 g W3.heap.size wr x.labs (x.heads.take k) vl vh (.slice pc x.cites.length cc) (.slice pb x.bibs.length cb) ∧ Kept g W3.heap.size W3 wr) (fun iv _ => x.heads.length - (intOf iv).toNat)
      case atStart => exact ⟨0, _, _, Nat.zero_le _, rfl, HRX2.out, HKp.out⟩
      case round =>
        clear HRX2
        obtain ⟨k, vl, vh, hk, rfl, hRX, hKp⟩ := hrel
        have HRXk := Lib.hid hRX; have HKp := Lib.hid hKp; have HB := Lib.hid (HB3.out.trans (hKp.1.mono (by have := Hgs.out; omega)))
        have HB2 := Lib.hid (Hb3.out.trans hKp.1)
        have t0 := ((Hb3.out.trans hKp.1).cell (p := ⟨w.heap.size, 1, none⟩) (by have := Hgs.out; show w.heap.size < g; omega)).trans (Hx0.out 1 _ rfl)
        clear hRX hKp
        by_cases hlt : k < x.heads.length
        · obtain ⟨y, hy⟩ : ∃ y, x.heads[k]? = some y := ⟨_, List.getElem?_eq_getElem hlt⟩
          obtain ⟨b, off, vs, rfl, _, hbw, hR, hcc⟩ := Hhat.out k y hy
          have hR : vs = _ := hR
          subst hR
          have a0 : wr.cell? ⟨b, off + k * 4, none⟩ = some (.int .i64 y.level) := (HB.out.cell (p := ⟨b, off + k * 4, none⟩) hbw).trans (hcc 0 _ rfl)
          have a1 : wr.cell? ⟨b, off + k * 4 + 1, none⟩ = some (.string ⟨y.num.toArray⟩) := (HB.out.cell (p := ⟨b, off + k * 4 + 1, none⟩) hbw).trans (hcc 1 _ rfl)
          have a2 : wr.cell? ⟨b, off + k * 4 + 2, none⟩ = some (.string ⟨y.title.toArray⟩) := (HB.out.cell (p := ⟨b, off + k * 4 + 2, none⟩) hbw).trans (hcc 2 _ rfl)
          have a3 : wr.cell? ⟨b, off + k * 4 + 3, none⟩ = some (.int .i64 y.page) := (HB.out.cell (p := ⟨b, off + k * 4 + 3, none⟩) hbw).trans (hcc 3 _ rfl)
          have hlt' : (k : Int) < (x.heads.length : Int) := by omega
          have hkl : (k : Int) + 1 ≤ 9223372036854775807 := by omega
          have htk : x.heads.take (k + 1) = x.heads.take k ++ [y] := by rw [List.take_add_one, hy]; rfl
          have htl0 : (x.heads.take k).length ≤ 1000000 := by rw [List.length_take]; omega
          obtain ⟨tk, htk0⟩ : ∃ tk, x.heads.take k = tk := ⟨_, rfl⟩
          rw [htk0] at HRXk htk htl0
          have Htk := Lib.hid htk; have Hkl := Lib.hid hkl; have Hlt := Lib.hid hlt
          clear hcc hy htk hkl hbw htk0
          go_upto_region 11 with fail
          obtain ⟨gl, hgl⟩ : ∃ gl, gl = wr.heap.size := ⟨_, rfl⟩
          have hb7 := below_new wr (.cells #[.int .i64 y.level, .string ⟨y.num.toArray⟩, .string ⟨y.title.toArray⟩, .int .i64 y.page] 56)
          have he7 : ∀ (i : Nat) (u : Value), #[Value.int .i64 y.level, .string ⟨y.num.toArray⟩, .string ⟨y.title.toArray⟩, .int .i64 y.page][i]? = some u → (wr.alloc (.cells #[.int .i64 y.level, .string ⟨y.num.toArray⟩, .string ⟨y.title.toArray⟩, .int .i64 y.page] 56)).cell? ⟨wr.heap.size, i, none⟩ = some u := by
            intro i u hu
            rw [cell_of_row _ _ _ _ _ _ (heap_alloc_new wr _)]
            exact hu
          generalize wr.alloc (.cells #[.int .i64 y.level, .string ⟨y.num.toArray⟩, .string ⟨y.title.toArray⟩, .int .i64 y.page] 56) = w7 at hb7 he7 ⊢
          rw [← hgl] at he7 ⊢
          have b0 := he7 0 _ rfl
          have b1 := he7 1 _ rfl
          have b2 := he7 2 _ rfl
          have b3 := he7 3 _ rfl
          have HRX7 := Lib.hid (HRXk.out.below hb7)
          have HKp7 := Lib.hid (HKp.out.trans (Kept.below hb7 (by have := Hs3.out; omega) HRXk.out.sz))
          obtain ⟨fl, hown, hrep⟩ := HRX7.out.h
          obtain ⟨pv, capv, hfv⟩ := HRX7.out.h.form
          subst hfv
          have Hown := Lib.hid hown; have Hrep := Lib.hid hrep
          have r0 := HRX7.out.c1
          have htl : tk.length ≤ 1000000 := htl0
          have hg7 : g < w7.heap.size := Nat.lt_of_lt_of_le HRX7.out.lt HRX7.out.sz
          clear he7 hb7 hown hrep hgl t0 a0 a1 a2 a3
          go_upto_region 9 with (at_builtin; go_loud (refine wpList_append1 rfl (.tmp 50) (.tmp 60) 33 rfl W3.heap.size 65 j0 (.agg #[.int .i64 0, .string ⟨#[]⟩, .string ⟨#[]⟩, .int .i64 0]) 4 48 Tryz.underlying33 Ji.out Jz0.out Jz1.out Jz2.out (by rfl) (by decide) _ _ _ Hown.out rfl [.int .i64 y.level, .string ⟨y.num.toArray⟩, .string ⟨y.title.toArray⟩, .int .i64 y.page] rfl rfl rfl (by simp [Value.oneCell']) (by unfold maxLen; omega) (by omega) HRX7.out.sz ?_); intro v2 w2 own2 g2 at2; obtain ⟨p2, cap2, hv2, _, _⟩ := own2.form (Nat.succ_pos _); have hput := RX.put1 (y := y) HRX7.out Hrep.out rfl own2 g2 (at2.imp (fun h => h) (fun h => ⟨_, h, Nat.le_succ _⟩)); have hne9 : Value.ownBlock (.slice pv tk.length capv) ≠ some g := (fun e => by have := (Hown.out.lt g e).1; have := HRX7.out.lt; omega); have hcg2 := (grown_cell g2 hg7 hne9 1).trans HRX7.out.c1; have hfg2 := (grown_frozen g2 hg7 hne9 1).trans HRX7.out.f1; have Hput := Lib.hid hput; clear hput own2 g2 at2 hne9; subst hv2)
          have hkl := Hkl.out
          clear r0 b0 b1 b2 b3 hlt' hcg2 hfg2
          go_wp2_with fail
          go_roundw
          case rel => exact ⟨k + 1, _, _, by have := Hlt.out; omega, by go_num, by rw [Htk.out]; exact Hput.out.1, HKp7.out.trans Hput.out.2⟩
          case measure => have := Hlt.out; simp [intOf]; omega
        · have hlt' : ¬ (k : Int) < (x.heads.length : Int) := by omega
          have htk : x.heads.take k = x.heads := List.take_of_length_le (by omega)
          rw [htk] at HRXk
          obtain ⟨ql, kl, hvl⟩ := HRXk.out.l.form
          obtain ⟨qh, kh, hvh⟩ := HRXk.out.h.form
          subst hvl hvh
          have d0 := (HB2.out.cell (p := ⟨w.heap.size + 1, 0, none⟩) (by have := Hgs.out; show w.heap.size + 1 < g; omega)).trans (Hx1.out 0 _ rfl)
          have d1 := (HB2.out.cell (p := ⟨w.heap.size + 1, 1, none⟩) (by have := Hgs.out; show w.heap.size + 1 < g; omega)).trans (Hx1.out 1 _ rfl)
          have d2 := (HB2.out.cell (p := ⟨w.heap.size + 1, 2, none⟩) (by have := Hgs.out; show w.heap.size + 1 < g; omega)).trans (Hx1.out 2 _ rfl)
          have d3 := (HB2.out.cell (p := ⟨w.heap.size + 1, 3, none⟩) (by have := Hgs.out; show w.heap.size + 1 < g; omega)).trans (Hx1.out 3 _ rfl)
          have f0 := (frozen_below (i := 0) HB2.out (by have := Hgs.out; omega)).trans (Hf1.out 0)
          have f1 := (frozen_below (i := 1) HB2.out (by have := Hgs.out; omega)).trans (Hf1.out 1)
          have f2 := (frozen_below (i := 2) HB2.out (by have := Hgs.out; omega)).trans (Hf1.out 2)
          have f3 := (frozen_below (i := 3) HB2.out (by have := Hgs.out; omega)).trans (Hf1.out 3)
          have c0 := HRXk.out.c0; have c1 := HRXk.out.c1; have c2 := HRXk.out.c2; have c3 := HRXk.out.c3
          have hgB : w.heap.size + 1 < W3.heap.size := by have h1 := Hgs.out; have h2 := Hs3.out; omega
          have HgB := Lib.hid hgB
          clear htk hlt hk hgB
          go_wp2_with fail
          obtain ⟨z0, z1, z2, z3⟩ := set4 (w.heap.size + 1) wr (.slice ql x.labs.length kl) (.slice qh x.heads.length kh) (.slice pc x.cites.length cc) (.slice pb x.bibs.length cb) d0 d1 d2 d3
          refine ret_cell1 rfl rfl (load_rside _ _ _ _ _ _ z0 z1 z2 z3) rfl ?_
          have hbz := set4_below (g := w.heap.size + 1) HB.out (by omega) (.slice ql x.labs.length kl) (.slice qh x.heads.length kh) (.slice pc x.cites.length cc) (.slice pb x.bibs.length cb)
          exact ⟨⟨_, rfl, _, _, _, _, rfl, (HRXk.out.l.set4 _ _ _ _ HgB.out).slice RLab.size _ (fun _ _ => trivial), (HRXk.out.h.set4 _ _ _ _ HgB.out).slice RHd.size _ (fun _ _ => trivial), (HCt.out.below' hbz).any, (HBb.out.below' hbz).any⟩, hbz⟩
end Go.Proofs.YtimmmjmmjokdbaaGreatDoor
