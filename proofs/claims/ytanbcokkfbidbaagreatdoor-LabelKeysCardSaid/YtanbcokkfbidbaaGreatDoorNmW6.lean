/- The walks of package name, sixth part: Parse. -/
import Derived.Test.YtanbcokkfbidbaaGreatDoorNA
set_option linter.unusedSimpArgs false
set_option linter.unusedVariables false
namespace Go.Proofs.YtanbcokkfbidbaaGreatDoor
open Go.RowKit
structure PSt (w W : World) (g q : Nat) (a b c d : Value) (v : Value) (l : List (List UInt8)) : Prop where
  p : P4 W g a b c d
  r : P4 W q (.string ⟨#[]⟩) (.string ⟨#[]⟩) (.string ⟨#[]⟩) (.string ⟨#[]⟩)
  s : SliceIn (fun j => j < g) 1 RStr W v l
  h : Below w.heap.size w W
  hq : q < g
  hw : w.heap.size ≤ q
section
variable {w W W' : World} {g q : Nat} {a b c d v : Value} {l : List (List UInt8)}
theorem PSt.below (h : PSt w W g q a b c d v l) (hb : Below W.heap.size W W') : PSt w W' g q a b c d v l :=
  ⟨h.p.below' hb, h.r.below' hb, h.s.below' hb, h.h.trans (hb.mono h.h.size), h.hq, h.hw⟩
theorem PSt.drew (h : PSt w W g q a b c d v l) : PSt w W.drew g q a b c d v l :=
  h.below (Below.refl _ _).drew
theorem PSt.set (h : PSt w W g q a b c d v l) (i : Nat) (u : Value) {a' b' c' d' : Value} (hp : P4 (W.setCell ⟨g, i, none⟩ u) g a' b' c' d') : PSt w (W.setCell ⟨g, i, none⟩ u) g q a' b' c' d' v l :=
  ⟨hp, h.r.other (Nat.ne_of_gt h.hq) i u, h.s.set4 (fun j hj => Nat.ne_of_lt hj) i u, h.h.setCell (p := ⟨g, i, none⟩) (Nat.le_trans h.hw (Nat.le_of_lt h.hq)) u, h.hq, h.hw⟩
end
theorem cell4_other (w : World) (q g k : Nat) (a b c d : Value) (h : q ≠ g) : ((((w.setCell ⟨q, 0, none⟩ a).setCell ⟨q, 1, none⟩ b).setCell ⟨q, 2, none⟩ c).setCell ⟨q, 3, none⟩ d).cell? ⟨g, k, none⟩ = w.cell? ⟨g, k, none⟩ := by
  have e : ∀ (W : World) (i : Nat) (v : Value), (W.setCell ⟨q, i, none⟩ v).cell? ⟨g, k, none⟩ = W.cell? ⟨g, k, none⟩ := fun W i v => World.cell?_setCell_other _ _ _ _ (fun e => h (by cases e; rfl))
  rw [e, e, e, e]
theorem parse_eq (s p0 : List UInt8) (h : (Lb.commas s)[0]? = some p0) : Lb.parse s =
    if 1 < (Lb.commas s).length then
      if 2 < (Lb.commas s).length then ⟨Lb.join (Lb.words ((Lb.commas s).getD 2 [])), Lb.join ((Lb.words p0).take (Lb.lastN (Lb.words p0))), Lb.join ((Lb.words p0).drop (Lb.lastN (Lb.words p0))), Lb.join (Lb.words ((Lb.commas s).getD 1 []))⟩
      else ⟨Lb.join (Lb.words ((Lb.commas s).getD 1 [])), Lb.join ((Lb.words p0).take (Lb.lastN (Lb.words p0))), Lb.join ((Lb.words p0).drop (Lb.lastN (Lb.words p0))), []⟩
    else if (Lb.words p0).isEmpty then ⟨[], [], [], []⟩
    else if Lb.lastN (Lb.words p0) = 0 then ⟨Lb.join ((Lb.words p0).take ((Lb.words p0).length - 1)), [], (Lb.words p0).getD ((Lb.words p0).length - 1) [], []⟩
    else ⟨Lb.join ((Lb.words p0).take ((Lb.words p0).findIdx Lb.smallW)), Lb.join (((Lb.words p0).take (Lb.lastN (Lb.words p0))).drop ((Lb.words p0).findIdx Lb.smallW)), Lb.join ((Lb.words p0).drop (Lb.lastN (Lb.words p0))), []⟩ := by
  unfold Lb.parse
  rw [List.getD_eq_getElem?_getD, h]
  rfl
theorem comma_len (s p : List UInt8) (i : Nat) (h : (Lb.commas s)[i]? = some p) : p.length ≤ s.length := by
  have h1 := Lb.mem_tot _ p (List.mem_of_getElem? h)
  have h2 := Lb.tot_pieces (fun c => c == 44) s []
  unfold Lb.commas at h1
  rw [h2] at h1
  simp at h1; omega
theorem getD_some (l : List (List UInt8)) (i : Nat) (x : List UInt8) (h : l[i]? = some x) : l.getD i [] = x := by rw [List.getD_eq_getElem?_getD, h]; rfl
set_option maxRecDepth 100000 in
set_option maxHeartbeats 3200000 in
theorem nm_Parse (s : List UInt8) (m : Int) (w : World) (hs : s.length ≤ 500000) (hm : w.cell? ⟨0, 0, none⟩ = some (.int .i64 m)) (h0 : 0 < w.heap.size) :
    Calls Tryz.prog 55 #[.string ⟨s.toArray⟩] w fun e w' => e = .returned (perV (Lb.parse s)) ∧ Below w.heap.size w w' := by
  have hP0 := P4.new w 83 (.string ⟨#[]⟩) (.string ⟨#[]⟩) (.string ⟨#[]⟩) (.string ⟨#[]⟩)
  have hb1 := below_new w (.cells #[.string ⟨#[]⟩, .string ⟨#[]⟩, .string ⟨#[]⟩, .string ⟨#[]⟩] 83)
  have hm1 := (hb1.cell (p := ⟨0, 0, none⟩) h0).trans hm
  have HP0 := Lib.hid hP0; have Hb1 := Lib.hid hb1; have Hm1 := Lib.hid hm1
  clear hP0 hb1 hm1
  obtain ⟨p0, hp0⟩ : ∃ p0, (Lb.commas s)[0]? = some p0 := ⟨_, List.getElem?_eq_getElem (Lb.pieces_pos _ s [])⟩
  have Hpq := Lib.hid (parse_eq s p0 hp0)
  have hl0 := comma_len s p0 0 hp0
  have hcl := Lb.len_tot (Lb.commas s)
  have hct := Lb.tot_pieces (fun c => c == 44) s []
  have hcb : (Lb.commas s).length ≤ s.length + 1 := by unfold Lb.commas at hcl ⊢; rw [hct] at hcl; simpa [Nat.add_comm] using hcl
  clear hcl hct
  obtain ⟨cs, hcs⟩ : ∃ cs, Lb.commas s = cs := ⟨_, rfl⟩
  have Hcs := Lib.hid hcs
  rw [hcs] at hp0 hcb Hpq
  have hpos : 0 < cs.length := (List.getElem?_eq_some_iff.1 hp0).1
  have hpos' : (0 : Int) < (cs.length : Int) := by omega
  have Hp0 := Lib.hid hp0; have Hl0 := Lib.hid hl0
  clear hp0 hl0 hcs hm
  obtain ⟨l, hl⟩ : ∃ l, Lb.words p0 = l := ⟨_, rfl⟩
  rw [hl] at Hpq
  have Hl := Lib.hid hl
  have hlt := Lb.tot_words p0
  have hne := Lb.words_ne p0
  rw [hl] at hlt hne
  have Hlt := Lib.hid (show Lb.tot l ≤ 500001 by have := Hl0.out; omega); have Hne := Lib.hid hne
  clear hl hlt hne
  have Hs := Lib.hid hs; have Hcb := Lib.hid hcb
  clear hs hcb
  go_enter Tryz.func55, Tryz.ntmps55
  go_upto_region 1 with fail
  obtain ⟨q, hq⟩ : ∃ q, w.heap.size = q := ⟨_, rfl⟩
  have Hq := Lib.hid hq
  rw [hq] at HP0 ⊢
  clear hq
  generalize w.alloc (.cells #[.string ⟨#[]⟩, .string ⟨#[]⟩, .string ⟨#[]⟩, .string ⟨#[]⟩] 83) = w1 at *
  have hqlt := HP0.out.lt
  have Hqlt := Lib.hid hqlt
  clear hqlt
  go_upto_region 2 with (go_at_call 79; refine (std_commas s m _ (by have := Hs.out; omega) Hm1.out).mono ?_; rw [Hcs.out]; rintro e w2 ⟨rfl, hS2, hb2⟩; have HS2 := Lib.hid hS2; have Hb2 := Lib.hid hb2; clear hS2 hb2)
  have e0 := HS2.out.cellS Hp0.out
  have e0 : w2.cell? ⟨w1.heap.size, 0, none⟩ = some (.string ⟨p0.toArray⟩) := e0
  go_upto_region 3 with (go_at_call 57; refine (nm_Words p0 _ (by have := Hs.out; have := Hl0.out; omega)).mono ?_; rw [Hl.out]; rintro e w3 ⟨⟨g, cap, rfl, hcp, hS3⟩, hb3⟩; have HS3 := Lib.hid hS3; have Hb3 := Lib.hid hb3; have Hcp := Lib.hid hcp; clear hS3 hb3 hcp)
  have hb13 := Hb2.out.trans (Hb3.out.mono Hb2.out.size)
  have HB3 := Lib.hid (Hb1.out.trans (hb13.mono Hb1.out.size))
  have HP3 := Lib.hid ((HP0.out.below' Hb2.out).below' Hb3.out)
  have HSc := Lib.hid (HS2.out.below' Hb3.out)
  obtain ⟨b, hb⟩ : ∃ b, w1.heap.size = b := ⟨_, rfl⟩
  rw [hb] at HSc Hqlt ⊢
  have Hbw := Lib.hid (show b ≤ w3.heap.size by rw [← hb]; exact hb13.size)
  have Hbw2 := Lib.hid (show b ≤ w2.heap.size by rw [← hb]; exact Hb2.out.size)
  clear e0 hb13 hb HS2 Hb2 Hb3
  by_cases h1 : 1 < cs.length
  · have h1' : (1 : Int) < (cs.length : Int) := by omega
    obtain ⟨p1, hp1⟩ : ∃ p1, cs[1]? = some p1 := ⟨_, List.getElem?_eq_getElem h1⟩
    have hl1 := comma_len s p1 1 (by rw [Hcs.out]; exact hp1)
    have Hl1 := Lib.hid hl1
    have e1 := HSc.out.cellS hp1
    have e1 : w3.cell? ⟨b, 1, none⟩ = some (.string ⟨p1.toArray⟩) := by simpa using e1
    have Hp1 := Lib.hid hp1
    have hgd1 := getD_some cs 1 p1 hp1
    rw [if_pos h1, hgd1] at Hpq
    have Htw1 := Lib.hid (Lb.tot_words p1)
    clear hp1 hl1 hgd1 h1
    go_upto_region 5 with (first
      | (go_at_call 57; refine (nm_Words p1 _ (by have := Hs.out; have := Hl1.out; omega)).mono ?_; rintro e w4 ⟨⟨g4, cap4, rfl, hcp, hS4⟩, hb4⟩; have HS4 := Lib.hid hS4; have Hb4 := Lib.hid hb4; clear hS4 hb4 hcp)
      | (go_at_call 56; refine (nm_join _ _ _ _ HS4.out (by have := Hs.out; have := Hl1.out; have := Htw1.out; omega)).mono ?_; rintro e w5 ⟨rfl, hb5⟩; have Hb5 := Lib.hid hb5; clear hb5))
    obtain ⟨j1, hj1⟩ : ∃ j1, Lb.join (Lb.words p1) = j1 := ⟨_, rfl⟩
    rw [hj1] at Hpq ⊢
    have hP6 : PSt w (w5.alloc (.cells #[.string ⟨j1.toArray⟩, .string ⟨#[]⟩, .string ⟨#[]⟩, .string ⟨#[]⟩] 83)) w5.heap.size q (.string ⟨j1.toArray⟩) (.string ⟨#[]⟩) (.string ⟨#[]⟩) (.string ⟨#[]⟩) (.slice (some ⟨g, 0, none⟩) l.length cap) l := by
      have hb35 : Below w3.heap.size w3 w5 := Hb4.out.trans (Hb5.out.mono Hb4.out.size)
      have hb36 : Below w3.heap.size w3 (w5.alloc (.cells #[.string ⟨j1.toArray⟩, .string ⟨#[]⟩, .string ⟨#[]⟩, .string ⟨#[]⟩] 83)) := hb35.trans ((below_new w5 _).mono hb35.size)
      refine ⟨P4.new _ _ _ _ _ _, HP3.out.below' hb36, (HS3.out.strong.below' hb36).kept (fun j h => Nat.lt_of_lt_of_le h.2 hb35.size) (Nat.le_refl _) (fun _ _ _ => rfl) (fun _ _ _ h => h), HB3.out.trans (hb36.mono HB3.out.size), Nat.lt_of_lt_of_le Hqlt.out (Nat.le_trans Hbw.out hb35.size), Nat.le_of_eq Hq.out⟩
    have HSc6 := Lib.hid ((HSc.out.below' Hb4.out).below' Hb5.out |>.below' (below_new w5 (.cells #[.string ⟨j1.toArray⟩, .string ⟨#[]⟩, .string ⟨#[]⟩, .string ⟨#[]⟩] 83)))
    have Hb6 := Lib.hid (show b < w5.heap.size from Nat.lt_of_lt_of_le (by
      obtain ⟨p9, c9, e9, _, _, hat9⟩ := HSc.out
      obtain ⟨b9, o9, v9, hp9, _, hlt9, _⟩ := hat9 0 p0 Hp0.out
      simp only [Value.slice.injEq] at e9
      rw [hp9] at e9
      simp only [Option.some.injEq, Addr.mk.injEq] at e9
      omega) (Hb4.out.trans (Hb5.out.mono Hb4.out.size)).size)
    have HP6 := Lib.hid hP6
    have Hlp := Lib.hid (show j1.length ≤ 500001 by
      have h1 := Lb.join_le (Lb.words p1)
      rw [hj1] at h1
      have := Htw1.out; have := Hl1.out; have := Hs.out
      omega)
    generalize w5.heap.size = g5 at *
    generalize w5.alloc (.cells #[.string ⟨j1.toArray⟩, .string ⟨#[]⟩, .string ⟨#[]⟩, .string ⟨#[]⟩] 83) = w6 at *
    clear e1 hj1 hP6 Hb4 Hb5 HP3 HS3 HSc HS4
    by_cases h2 : 2 < cs.length
    · have h2' : (2 : Int) < (cs.length : Int) := by omega
      obtain ⟨p2, hp2⟩ : ∃ p2, cs[2]? = some p2 := ⟨_, List.getElem?_eq_getElem h2⟩
      have Hl2 := Lib.hid (comma_len s p2 2 (by rw [Hcs.out]; exact hp2))
      have e2 := HSc6.out.cellS hp2
      have e2 : w6.cell? ⟨b, 2, none⟩ = some (.string ⟨p2.toArray⟩) := by simpa using e2
      rw [if_pos h2, getD_some cs 2 p2 hp2] at Hpq
      have Htw2 := Lib.hid (Lb.tot_words p2)
      have hblt : b < w6.heap.size := Nat.lt_trans Hb6.out HP6.out.p.lt
      clear hp2 h2
      go_upto_region 6 with fail
      refine wp_region_any (by kernel_rfl) ?_
      change wpAny _ _ _ _ _ _ _ (World.drew _)
      have HPd := Lib.hid HP6.out.drew
      have hS : (fun W : World => W.cell? ⟨b, 2, none⟩ = some (.string ⟨p2.toArray⟩)) w6.drew := e2
      dsimp only at hS
      have hbd : b < w6.drew.heap.size := hblt
      clear e2 hblt HP6 HSc6
      generalize w6.drew = wd at *
      refine wpAny_of_held (S := fun W => W.cell? ⟨b, 2, none⟩ = some (.string ⟨p2.toArray⟩)) _ _ _ _ ?_
      refine wpAnyH_take (i := 0) (v := .pointer (some ⟨g5, 0, none⟩)) rfl (by kernel_rfl) (by kernel_rfl) (by kernel_rfl) (fun _ _ _ h => h) (Or.inl ⟨by kernel_rfl, fun W hW => by go_simp⟩) (by assumption) ?_
      try simp only [Act.put, List.getElem_toArray, List.getElem_cons_zero, List.getElem_cons_succ, List.setIfInBounds_toArray, List.set_cons_zero, List.set_cons_succ]
      refine wpAnyH_take (i := 2) (v := .slice (some ⟨b, 0, none⟩) cs.length cs.length) rfl (by kernel_rfl) (by kernel_rfl) (by kernel_rfl) (fun _ _ _ h => h) (Or.inl ⟨by kernel_rfl, fun W hW => by kernel_rfl⟩) (by assumption) ?_
      try simp only [Act.put, List.getElem_toArray, List.getElem_cons_zero, List.getElem_cons_succ, List.setIfInBounds_toArray, List.set_cons_zero, List.set_cons_succ]
      refine wpAnyH_take (i := 3) (v := .pointer (some ⟨b, 2, none⟩)) rfl (by kernel_rfl) (by kernel_rfl) (by kernel_rfl) (fun _ _ _ h => h) (Or.inl ⟨by kernel_rfl, fun W hW => by go_simp⟩) (by assumption) ?_
      try simp only [Act.put, List.getElem_toArray, List.getElem_cons_zero, List.getElem_cons_succ, List.setIfInBounds_toArray, List.set_cons_zero, List.set_cons_succ]
      refine wpAnyH_take (i := 4) (v := .string ⟨p2.toArray⟩) rfl (by kernel_rfl) (by kernel_rfl) (by kernel_rfl) (fun _ _ _ h => h) (Or.inl ⟨by kernel_rfl, fun W hW => by go_simp⟩) (by assumption) ?_
      try simp only [Act.put, List.getElem_toArray, List.getElem_cons_zero, List.getElem_cons_succ, List.setIfInBounds_toArray, List.set_cons_zero, List.set_cons_succ]
      refine wpAnyH_ready (rs := [1, 5]) (by kernel_rfl) (by simp) ?_
      refine AllReadyH.cons rfl (fun K hK => ?_) (AllReadyH.cons rfl (fun K hK => ?_) AllReadyH.nil)
      · have c0 := HPd.out.p.c0
        go_simp
        refine hK.out _ _ hS (fun _ => ?_)
        clear K hK c0
        try simp only [Act.put, List.getElem_toArray, List.getElem_cons_zero, List.getElem_cons_succ, List.setIfInBounds_toArray, List.set_cons_zero, List.set_cons_succ]
        refine wpAnyH_take (i := 7) (v := .pointer (some ⟨g5, 3, none⟩)) rfl (by kernel_rfl) (by kernel_rfl) (by kernel_rfl) (fun _ _ _ h => h) (Or.inl ⟨by kernel_rfl, fun W hW => by go_simp⟩) (by assumption) ?_
        try simp only [Act.put, List.getElem_toArray, List.getElem_cons_zero, List.getElem_cons_succ, List.setIfInBounds_toArray, List.set_cons_zero, List.set_cons_succ]
        refine wpAnyH_ready (rs := [5]) (by kernel_rfl) (by simp) ?_
        refine AllReadyH.cons rfl (fun K hK => ?_) AllReadyH.nil
        go_simp
        go_wp2_with (go_at_call 57; refine (nm_Words p2 _ (by have := Hs.out; have := Hl2.out; omega)).mono ?_; rintro e w7 ⟨⟨g7, cap7, rfl, hcp, hS7⟩, hb7⟩; have HS7 := Lib.hid hS7; have Hb7 := Lib.hid hb7; clear hS7 hb7 hcp)
        have HP_w7 := Lib.hid (HPd.out.below Hb7.out)
        have hS_w7 := (Hb7.out.cell (p := ⟨b, 2, none⟩) hbd).trans hS
        have hb_w7 : b < w7.heap.size := Nat.lt_of_lt_of_le hbd Hb7.out.size
        refine hK.out _ _ hS_w7 (fun _ => ?_)
        clear K hK
        try simp only [Act.put, List.getElem_toArray, List.getElem_cons_zero, List.getElem_cons_succ, List.setIfInBounds_toArray, List.set_cons_zero, List.set_cons_succ]
        refine wpAnyH_ready (rs := [6]) (by kernel_rfl) (by simp) ?_
        refine AllReadyH.cons rfl (fun K hK => ?_) AllReadyH.nil
        go_simp
        go_wp2_with (go_at_call 56; refine (nm_join _ _ _ _ HS7.out (by have := Hs.out; have := Hl2.out; have := Htw2.out; omega)).mono ?_; rintro e w8 ⟨rfl, hb8⟩; have Hb8 := Lib.hid hb8; clear hb8)
        have HP_w8 := Lib.hid (HP_w7.out.below Hb8.out)
        have hS_w8 := (Hb8.out.cell (p := ⟨b, 2, none⟩) hb_w7).trans hS_w7
        refine hK.out _ _ hS_w8 (fun _ => ?_)
        clear K hK
        try simp only [Act.put, List.getElem_toArray, List.getElem_cons_zero, List.getElem_cons_succ, List.setIfInBounds_toArray, List.set_cons_zero, List.set_cons_succ]
        refine wpAnyH_ready (rs := [8]) (by kernel_rfl) (by simp) ?_
        refine AllReadyH.cons rfl (fun K hK => ?_) AllReadyH.nil
        have f3 := HP_w8.out.p.f 3; have c3 := HP_w8.out.p.c3
        go_simp
        have hS9 : (w8.setCell ⟨g5, 3, none⟩ (.string ⟨j1.toArray⟩)).cell? ⟨b, 2, none⟩ = some (.string ⟨p2.toArray⟩) := (World.cell?_setCell_other _ _ _ _ (fun e => by injection e with e; have := Hb6.out; omega)).trans hS_w8
        have HP9 := Lib.hid (HP_w8.out.set 3 _ (HP_w8.out.p.set3 (.string ⟨j1.toArray⟩)))
        refine hK.out _ _ hS9 (fun _ => ?_)
        clear K hK f3 c3
        try simp only [Act.put, List.getElem_toArray, List.getElem_cons_zero, List.getElem_cons_succ, List.setIfInBounds_toArray, List.set_cons_zero, List.set_cons_succ]
        refine wpAnyH_take (i := 9) (v := .pointer (some ⟨g5, 0, none⟩)) rfl (by kernel_rfl) (by kernel_rfl) (by kernel_rfl) (fun _ _ _ h => h) (Or.inl ⟨by kernel_rfl, fun W hW => by go_simp⟩) (by assumption) ?_
        try simp only [Act.put, List.getElem_toArray, List.getElem_cons_zero, List.getElem_cons_succ, List.setIfInBounds_toArray, List.set_cons_zero, List.set_cons_succ]
        refine wpAnyH_ready (rs := [10]) (by kernel_rfl) (by simp) ?_
        refine AllReadyH.cons rfl (fun K hK => ?_) AllReadyH.nil
        have f0 := HP9.out.p.f 0; have c0 := HP9.out.p.c0
        go_simp
        have hS10 : ((w8.setCell ⟨g5, 3, none⟩ (.string ⟨j1.toArray⟩)).setCell ⟨g5, 0, none⟩ (.string ⟨(Lb.join (Lb.words p2)).toArray⟩)).cell? ⟨b, 2, none⟩ = some (.string ⟨p2.toArray⟩) := (World.cell?_setCell_other _ _ _ _ (fun e => by injection e with e; have := Hb6.out; omega)).trans hS9
        have HPx := Lib.hid (HP9.out.set 0 _ (HP9.out.p.set0 (.string ⟨(Lb.join (Lb.words p2)).toArray⟩)))
        refine hK.out _ _ hS10 (fun _ => ?_)
        clear K hK f0 c0 hS9 hS10 HP9
        try simp only [Act.put, List.getElem_toArray, List.getElem_cons_zero, List.getElem_cons_succ, List.setIfInBounds_toArray, List.set_cons_zero, List.set_cons_succ]
        refine wpAnyH_done (by kernel_rfl) ?_ _
        go_upto_region 8 with (go_at_call 80; refine (nm_vonLast l g 0 cap _ _ HPx.out.s Hcp.out Hne.out (by have := Hlt.out; omega)).mono ?_; rintro e w9 ⟨rfl, hb9⟩; have HPy := Lib.hid (HPx.out.below hb9); clear hb9; have f1 := HPy.out.p.f 1; have f2 := HPy.out.p.f 2; have d1 := HPy.out.p.c1; have d2 := HPy.out.p.c2)
        have hPz := (HPy.out.set 1 _ (HPy.out.p.set1 (.string ⟨(Lb.join (l.take (Lb.lastN l))).toArray⟩)))
        have HPz := Lib.hid (hPz.set 2 _ (hPz.p.set2 (.string ⟨(Lb.join (l.drop (Lb.lastN l))).toArray⟩)))
        clear hPz f1 f2 d1 d2 HPy HPx
        generalize (w9.setCell ⟨g5, 1, none⟩ (.string ⟨(Lb.join (l.take (Lb.lastN l))).toArray⟩)).setCell ⟨g5, 2, none⟩ (.string ⟨(Lb.join (l.drop (Lb.lastN l))).toArray⟩) = wz at *
        have c0 := HPz.out.p.c0; have c1 := HPz.out.p.c1; have c2 := HPz.out.p.c2; have c3 := HPz.out.p.c3
        have r0 := HPz.out.r.f 0; have r1 := HPz.out.r.f 1; have r2 := HPz.out.r.f 2; have r3 := HPz.out.r.f 3; have k0 := HPz.out.r.c0; have k1 := HPz.out.r.c1; have k2 := HPz.out.r.c2; have k3 := HPz.out.r.c3
        go_wp2_with fail
        have hF := HPz.out.r.all (.string ⟨(Lb.join (Lb.words p2)).toArray⟩) (.string ⟨(Lb.join (l.take (Lb.lastN l))).toArray⟩) (.string ⟨(Lb.join (l.drop (Lb.lastN l))).toArray⟩) (.string ⟨j1.toArray⟩)
        refine ret_one rfl rfl (load_per _ _ _ _ _ _ hF.c0 hF.c1 hF.c2 hF.c3) rfl ⟨?_, below4 HPz.out.h HPz.out.hw _ _ _ _⟩
        rw [Hpq.out]; rfl
      · go_simp
        go_wp2_with (go_at_call 57; refine (nm_Words p2 _ (by have := Hs.out; have := Hl2.out; omega)).mono ?_; rintro e w7 ⟨⟨g7, cap7, rfl, hcp, hS7⟩, hb7⟩; have HS7 := Lib.hid hS7; have Hb7 := Lib.hid hb7; clear hS7 hb7 hcp)
        have HP_w7 := Lib.hid (HPd.out.below Hb7.out)
        have hS_w7 := (Hb7.out.cell (p := ⟨b, 2, none⟩) hbd).trans hS
        have hb_w7 : b < w7.heap.size := Nat.lt_of_lt_of_le hbd Hb7.out.size
        refine hK.out _ _ hS_w7 (fun _ => ?_)
        clear K hK
        try simp only [Act.put, List.getElem_toArray, List.getElem_cons_zero, List.getElem_cons_succ, List.setIfInBounds_toArray, List.set_cons_zero, List.set_cons_succ]
        refine wpAnyH_ready (rs := [1, 6]) (by kernel_rfl) (by simp) ?_
        refine AllReadyH.cons rfl (fun K hK => ?_) (AllReadyH.cons rfl (fun K hK => ?_) AllReadyH.nil)
        · have c0 := HP_w7.out.p.c0
          go_simp
          refine hK.out _ _ hS_w7 (fun _ => ?_)
          clear K hK c0
          try simp only [Act.put, List.getElem_toArray, List.getElem_cons_zero, List.getElem_cons_succ, List.setIfInBounds_toArray, List.set_cons_zero, List.set_cons_succ]
          refine wpAnyH_take (i := 7) (v := .pointer (some ⟨g5, 3, none⟩)) rfl (by kernel_rfl) (by kernel_rfl) (by kernel_rfl) (fun _ _ _ h => h) (Or.inl ⟨by kernel_rfl, fun W hW => by go_simp⟩) (by assumption) ?_
          try simp only [Act.put, List.getElem_toArray, List.getElem_cons_zero, List.getElem_cons_succ, List.setIfInBounds_toArray, List.set_cons_zero, List.set_cons_succ]
          refine wpAnyH_ready (rs := [6]) (by kernel_rfl) (by simp) ?_
          refine AllReadyH.cons rfl (fun K hK => ?_) AllReadyH.nil
          go_simp
          go_wp2_with (go_at_call 56; refine (nm_join _ _ _ _ HS7.out (by have := Hs.out; have := Hl2.out; have := Htw2.out; omega)).mono ?_; rintro e w8 ⟨rfl, hb8⟩; have Hb8 := Lib.hid hb8; clear hb8)
          have HP_w8 := Lib.hid (HP_w7.out.below Hb8.out)
          have hS_w8 := (Hb8.out.cell (p := ⟨b, 2, none⟩) hb_w7).trans hS_w7
          refine hK.out _ _ hS_w8 (fun _ => ?_)
          clear K hK
          try simp only [Act.put, List.getElem_toArray, List.getElem_cons_zero, List.getElem_cons_succ, List.setIfInBounds_toArray, List.set_cons_zero, List.set_cons_succ]
          refine wpAnyH_ready (rs := [8]) (by kernel_rfl) (by simp) ?_
          refine AllReadyH.cons rfl (fun K hK => ?_) AllReadyH.nil
          have f3 := HP_w8.out.p.f 3; have c3 := HP_w8.out.p.c3
          go_simp
          have hS9 : (w8.setCell ⟨g5, 3, none⟩ (.string ⟨j1.toArray⟩)).cell? ⟨b, 2, none⟩ = some (.string ⟨p2.toArray⟩) := (World.cell?_setCell_other _ _ _ _ (fun e => by injection e with e; have := Hb6.out; omega)).trans hS_w8
          have HP9 := Lib.hid (HP_w8.out.set 3 _ (HP_w8.out.p.set3 (.string ⟨j1.toArray⟩)))
          refine hK.out _ _ hS9 (fun _ => ?_)
          clear K hK f3 c3
          try simp only [Act.put, List.getElem_toArray, List.getElem_cons_zero, List.getElem_cons_succ, List.setIfInBounds_toArray, List.set_cons_zero, List.set_cons_succ]
          refine wpAnyH_take (i := 9) (v := .pointer (some ⟨g5, 0, none⟩)) rfl (by kernel_rfl) (by kernel_rfl) (by kernel_rfl) (fun _ _ _ h => h) (Or.inl ⟨by kernel_rfl, fun W hW => by go_simp⟩) (by assumption) ?_
          try simp only [Act.put, List.getElem_toArray, List.getElem_cons_zero, List.getElem_cons_succ, List.setIfInBounds_toArray, List.set_cons_zero, List.set_cons_succ]
          refine wpAnyH_ready (rs := [10]) (by kernel_rfl) (by simp) ?_
          refine AllReadyH.cons rfl (fun K hK => ?_) AllReadyH.nil
          have f0 := HP9.out.p.f 0; have c0 := HP9.out.p.c0
          go_simp
          have hS10 : ((w8.setCell ⟨g5, 3, none⟩ (.string ⟨j1.toArray⟩)).setCell ⟨g5, 0, none⟩ (.string ⟨(Lb.join (Lb.words p2)).toArray⟩)).cell? ⟨b, 2, none⟩ = some (.string ⟨p2.toArray⟩) := (World.cell?_setCell_other _ _ _ _ (fun e => by injection e with e; have := Hb6.out; omega)).trans hS9
          have HPx := Lib.hid (HP9.out.set 0 _ (HP9.out.p.set0 (.string ⟨(Lb.join (Lb.words p2)).toArray⟩)))
          refine hK.out _ _ hS10 (fun _ => ?_)
          clear K hK f0 c0 hS9 hS10 HP9
          try simp only [Act.put, List.getElem_toArray, List.getElem_cons_zero, List.getElem_cons_succ, List.setIfInBounds_toArray, List.set_cons_zero, List.set_cons_succ]
          refine wpAnyH_done (by kernel_rfl) ?_ _
          go_upto_region 8 with (go_at_call 80; refine (nm_vonLast l g 0 cap _ _ HPx.out.s Hcp.out Hne.out (by have := Hlt.out; omega)).mono ?_; rintro e w9 ⟨rfl, hb9⟩; have HPy := Lib.hid (HPx.out.below hb9); clear hb9; have f1 := HPy.out.p.f 1; have f2 := HPy.out.p.f 2; have d1 := HPy.out.p.c1; have d2 := HPy.out.p.c2)
          have hPz := (HPy.out.set 1 _ (HPy.out.p.set1 (.string ⟨(Lb.join (l.take (Lb.lastN l))).toArray⟩)))
          have HPz := Lib.hid (hPz.set 2 _ (hPz.p.set2 (.string ⟨(Lb.join (l.drop (Lb.lastN l))).toArray⟩)))
          clear hPz f1 f2 d1 d2 HPy HPx
          generalize (w9.setCell ⟨g5, 1, none⟩ (.string ⟨(Lb.join (l.take (Lb.lastN l))).toArray⟩)).setCell ⟨g5, 2, none⟩ (.string ⟨(Lb.join (l.drop (Lb.lastN l))).toArray⟩) = wz at *
          have c0 := HPz.out.p.c0; have c1 := HPz.out.p.c1; have c2 := HPz.out.p.c2; have c3 := HPz.out.p.c3
          have r0 := HPz.out.r.f 0; have r1 := HPz.out.r.f 1; have r2 := HPz.out.r.f 2; have r3 := HPz.out.r.f 3; have k0 := HPz.out.r.c0; have k1 := HPz.out.r.c1; have k2 := HPz.out.r.c2; have k3 := HPz.out.r.c3
          go_wp2_with fail
          have hF := HPz.out.r.all (.string ⟨(Lb.join (Lb.words p2)).toArray⟩) (.string ⟨(Lb.join (l.take (Lb.lastN l))).toArray⟩) (.string ⟨(Lb.join (l.drop (Lb.lastN l))).toArray⟩) (.string ⟨j1.toArray⟩)
          refine ret_one rfl rfl (load_per _ _ _ _ _ _ hF.c0 hF.c1 hF.c2 hF.c3) rfl ⟨?_, below4 HPz.out.h HPz.out.hw _ _ _ _⟩
          rw [Hpq.out]; rfl
        · go_simp
          go_wp2_with (go_at_call 56; refine (nm_join _ _ _ _ HS7.out (by have := Hs.out; have := Hl2.out; have := Htw2.out; omega)).mono ?_; rintro e w8 ⟨rfl, hb8⟩; have Hb8 := Lib.hid hb8; clear hb8)
          have HP_w8 := Lib.hid (HP_w7.out.below Hb8.out)
          have hS_w8 := (Hb8.out.cell (p := ⟨b, 2, none⟩) hb_w7).trans hS_w7
          refine hK.out _ _ hS_w8 (fun _ => ?_)
          clear K hK
          try simp only [Act.put, List.getElem_toArray, List.getElem_cons_zero, List.getElem_cons_succ, List.setIfInBounds_toArray, List.set_cons_zero, List.set_cons_succ]
          refine wpAnyH_ready (rs := [1]) (by kernel_rfl) (by simp) ?_
          refine AllReadyH.cons rfl (fun K hK => ?_) AllReadyH.nil
          have c0 := HP_w8.out.p.c0
          go_simp
          refine hK.out _ _ hS_w8 (fun _ => ?_)
          clear K hK c0
          try simp only [Act.put, List.getElem_toArray, List.getElem_cons_zero, List.getElem_cons_succ, List.setIfInBounds_toArray, List.set_cons_zero, List.set_cons_succ]
          refine wpAnyH_take (i := 7) (v := .pointer (some ⟨g5, 3, none⟩)) rfl (by kernel_rfl) (by kernel_rfl) (by kernel_rfl) (fun _ _ _ h => h) (Or.inl ⟨by kernel_rfl, fun W hW => by go_simp⟩) (by assumption) ?_
          try simp only [Act.put, List.getElem_toArray, List.getElem_cons_zero, List.getElem_cons_succ, List.setIfInBounds_toArray, List.set_cons_zero, List.set_cons_succ]
          refine wpAnyH_ready (rs := [8]) (by kernel_rfl) (by simp) ?_
          refine AllReadyH.cons rfl (fun K hK => ?_) AllReadyH.nil
          have f3 := HP_w8.out.p.f 3; have c3 := HP_w8.out.p.c3
          go_simp
          have hS9 : (w8.setCell ⟨g5, 3, none⟩ (.string ⟨j1.toArray⟩)).cell? ⟨b, 2, none⟩ = some (.string ⟨p2.toArray⟩) := (World.cell?_setCell_other _ _ _ _ (fun e => by injection e with e; have := Hb6.out; omega)).trans hS_w8
          have HP9 := Lib.hid (HP_w8.out.set 3 _ (HP_w8.out.p.set3 (.string ⟨j1.toArray⟩)))
          refine hK.out _ _ hS9 (fun _ => ?_)
          clear K hK f3 c3
          try simp only [Act.put, List.getElem_toArray, List.getElem_cons_zero, List.getElem_cons_succ, List.setIfInBounds_toArray, List.set_cons_zero, List.set_cons_succ]
          refine wpAnyH_take (i := 9) (v := .pointer (some ⟨g5, 0, none⟩)) rfl (by kernel_rfl) (by kernel_rfl) (by kernel_rfl) (fun _ _ _ h => h) (Or.inl ⟨by kernel_rfl, fun W hW => by go_simp⟩) (by assumption) ?_
          try simp only [Act.put, List.getElem_toArray, List.getElem_cons_zero, List.getElem_cons_succ, List.setIfInBounds_toArray, List.set_cons_zero, List.set_cons_succ]
          refine wpAnyH_ready (rs := [10]) (by kernel_rfl) (by simp) ?_
          refine AllReadyH.cons rfl (fun K hK => ?_) AllReadyH.nil
          have f0 := HP9.out.p.f 0; have c0 := HP9.out.p.c0
          go_simp
          have hS10 : ((w8.setCell ⟨g5, 3, none⟩ (.string ⟨j1.toArray⟩)).setCell ⟨g5, 0, none⟩ (.string ⟨(Lb.join (Lb.words p2)).toArray⟩)).cell? ⟨b, 2, none⟩ = some (.string ⟨p2.toArray⟩) := (World.cell?_setCell_other _ _ _ _ (fun e => by injection e with e; have := Hb6.out; omega)).trans hS9
          have HPx := Lib.hid (HP9.out.set 0 _ (HP9.out.p.set0 (.string ⟨(Lb.join (Lb.words p2)).toArray⟩)))
          refine hK.out _ _ hS10 (fun _ => ?_)
          clear K hK f0 c0 hS9 hS10 HP9
          try simp only [Act.put, List.getElem_toArray, List.getElem_cons_zero, List.getElem_cons_succ, List.setIfInBounds_toArray, List.set_cons_zero, List.set_cons_succ]
          refine wpAnyH_done (by kernel_rfl) ?_ _
          go_upto_region 8 with (go_at_call 80; refine (nm_vonLast l g 0 cap _ _ HPx.out.s Hcp.out Hne.out (by have := Hlt.out; omega)).mono ?_; rintro e w9 ⟨rfl, hb9⟩; have HPy := Lib.hid (HPx.out.below hb9); clear hb9; have f1 := HPy.out.p.f 1; have f2 := HPy.out.p.f 2; have d1 := HPy.out.p.c1; have d2 := HPy.out.p.c2)
          have hPz := (HPy.out.set 1 _ (HPy.out.p.set1 (.string ⟨(Lb.join (l.take (Lb.lastN l))).toArray⟩)))
          have HPz := Lib.hid (hPz.set 2 _ (hPz.p.set2 (.string ⟨(Lb.join (l.drop (Lb.lastN l))).toArray⟩)))
          clear hPz f1 f2 d1 d2 HPy HPx
          generalize (w9.setCell ⟨g5, 1, none⟩ (.string ⟨(Lb.join (l.take (Lb.lastN l))).toArray⟩)).setCell ⟨g5, 2, none⟩ (.string ⟨(Lb.join (l.drop (Lb.lastN l))).toArray⟩) = wz at *
          have c0 := HPz.out.p.c0; have c1 := HPz.out.p.c1; have c2 := HPz.out.p.c2; have c3 := HPz.out.p.c3
          have r0 := HPz.out.r.f 0; have r1 := HPz.out.r.f 1; have r2 := HPz.out.r.f 2; have r3 := HPz.out.r.f 3; have k0 := HPz.out.r.c0; have k1 := HPz.out.r.c1; have k2 := HPz.out.r.c2; have k3 := HPz.out.r.c3
          go_wp2_with fail
          have hF := HPz.out.r.all (.string ⟨(Lb.join (Lb.words p2)).toArray⟩) (.string ⟨(Lb.join (l.take (Lb.lastN l))).toArray⟩) (.string ⟨(Lb.join (l.drop (Lb.lastN l))).toArray⟩) (.string ⟨j1.toArray⟩)
          refine ret_one rfl rfl (load_per _ _ _ _ _ _ hF.c0 hF.c1 hF.c2 hF.c3) rfl ⟨?_, below4 HPz.out.h HPz.out.hw _ _ _ _⟩
          rw [Hpq.out]; rfl
    · have h2' : ¬ (2 : Int) < (cs.length : Int) := by omega
      rw [if_neg h2] at Hpq
      clear h2
      have HPx := HP6
      go_upto_region 8 with (go_at_call 80; refine (nm_vonLast l g 0 cap _ _ HPx.out.s Hcp.out Hne.out (by have := Hlt.out; omega)).mono ?_; rintro e w9 ⟨rfl, hb9⟩; have HPy := Lib.hid (HPx.out.below hb9); clear hb9; have f1 := HPy.out.p.f 1; have f2 := HPy.out.p.f 2; have d1 := HPy.out.p.c1; have d2 := HPy.out.p.c2)
      have hPz := (HPy.out.set 1 _ (HPy.out.p.set1 (.string ⟨(Lb.join (l.take (Lb.lastN l))).toArray⟩)))
      have HPz := Lib.hid (hPz.set 2 _ (hPz.p.set2 (.string ⟨(Lb.join (l.drop (Lb.lastN l))).toArray⟩)))
      clear hPz f1 f2 d1 d2 HPy HPx
      generalize (w9.setCell ⟨g5, 1, none⟩ (.string ⟨(Lb.join (l.take (Lb.lastN l))).toArray⟩)).setCell ⟨g5, 2, none⟩ (.string ⟨(Lb.join (l.drop (Lb.lastN l))).toArray⟩) = wz at *
      have c0 := HPz.out.p.c0; have c1 := HPz.out.p.c1; have c2 := HPz.out.p.c2; have c3 := HPz.out.p.c3
      have r0 := HPz.out.r.f 0; have r1 := HPz.out.r.f 1; have r2 := HPz.out.r.f 2; have r3 := HPz.out.r.f 3; have k0 := HPz.out.r.c0; have k1 := HPz.out.r.c1; have k2 := HPz.out.r.c2; have k3 := HPz.out.r.c3
      go_wp2_with fail
      have hF := HPz.out.r.all (.string ⟨j1.toArray⟩) (.string ⟨(Lb.join (l.take (Lb.lastN l))).toArray⟩) (.string ⟨(Lb.join (l.drop (Lb.lastN l))).toArray⟩) (.string ⟨#[]⟩)
      refine ret_one rfl rfl (load_per _ _ _ _ _ _ hF.c0 hF.c1 hF.c2 hF.c3) rfl ⟨?_, below4 HPz.out.h HPz.out.hw _ _ _ _⟩
      rw [Hpq.out]; rfl
  · have h1' : ¬ (1 : Int) < (cs.length : Int) := by omega
    rw [if_neg h1] at Hpq
    clear h1
    by_cases hn : l = []
    · subst hn
      have r0 := HP3.out.f 0; have r1 := HP3.out.f 1; have r2 := HP3.out.f 2; have r3 := HP3.out.f 3; have k0 := HP3.out.c0; have k1 := HP3.out.c1; have k2 := HP3.out.c2; have k3 := HP3.out.c3
      go_wp2_with fail
      have hF := HP3.out.all (.string ⟨#[]⟩) (.string ⟨#[]⟩) (.string ⟨#[]⟩) (.string ⟨#[]⟩)
      refine ret_one rfl rfl (load_per _ _ _ _ _ _ hF.c0 hF.c1 hF.c2 hF.c3) rfl ⟨?_, below4 HB3.out (Nat.le_of_eq Hq.out) _ _ _ _⟩
      rw [Hpq.out]; rfl
    · have hie : l.isEmpty = false := by cases l with | nil => exact absurd rfl hn | cons _ _ => rfl
      rw [hie, if_neg (by simp)] at Hpq
      obtain ⟨k, hk⟩ : ∃ k, l.length = k + 1 := ⟨l.length - 1, by have := List.length_pos_iff.2 hn; omega⟩
      have hlc : l.length ≤ cap ∧ cap ≤ 9223372036854775807 := by
        obtain ⟨p3, c3, e3, h3, h4, _⟩ := HS3.out
        simp only [Value.slice.injEq] at e3
        unfold maxLen at h4; omega
      have hz : ((l.length : Int) == 0) = false := by rw [beq_eq_false_iff_ne]; omega
      have hnl := Lb.lastN_le l
      have Hn := Lib.hid hn
      have Hk := Lib.hid hk
      obtain ⟨n, hnn⟩ : ∃ n, Lb.lastN l = n := ⟨_, rfl⟩
      rw [hnn] at Hpq hnl
      have Hnn := Lib.hid hnn
      clear hn hie hnn
      have hkl : (k : Int) + 1 = (l.length : Int) := by omega
      have hwk : IntKind.i64.wrap ((l.length : Int) - 1) = (k : Int) := by rw [IntWalk.i64_in _ (by omega)]; omega
      have q1 : (k : Int) ≤ (cap : Int) := by omega
      have q2 : (k : Int) < (l.length : Int) := by omega
      have q4 : (n : Int) ≤ (l.length : Int) := by omega
      have q5 : (n : Int) ≤ (cap : Int) := by omega
      have q6 : ¬ cap = n := by omega
      have q7 : (l.length : Int) ≤ (cap : Int) := by omega
      have Hlc := Lib.hid hlc; have Hnl := Lib.hid hnl
      obtain ⟨x, hx⟩ : ∃ x, l[k]? = some x := ⟨_, List.getElem?_eq_getElem (by omega)⟩
      have e1 := HS3.out.cellS hx
      have e1 : w3.cell? ⟨g, k, none⟩ = some (.string ⟨x.toArray⟩) := by simpa using e1
      have hgl : g < w3.heap.size := by
        obtain ⟨p9, c9, e9, _, _, hat9⟩ := HS3.out
        obtain ⟨b9, o9, v9, hp9, _, hlt9, _⟩ := hat9 k x hx
        simp only [Value.slice.injEq] at e9
        rw [hp9] at e9
        simp only [Option.some.injEq, Addr.mk.injEq] at e9
        omega
      have hgq : q < g := by
        obtain ⟨p9, c9, e9, _, _, hat9⟩ := HS3.out
        obtain ⟨b9, o9, v9, hp9, hS9, hlt9, _⟩ := hat9 k x hx
        simp only [Value.slice.injEq] at e9
        rw [hp9] at e9
        simp only [Option.some.injEq, Addr.mk.injEq] at e9
        have := Hbw2.out; have := Hqlt.out
        omega
      have Hx := Lib.hid hx; have Hgl := Lib.hid hgl; have Hgq := Lib.hid hgq
      clear hx hlc hnl hk hkl hgl hgq
      by_cases hn0 : n = 0
      · have hn0' : ((n : Int) == 0) = true := by rw [hn0]; rfl
        rw [if_pos hn0] at Hpq
        have Hn0 := Lib.hid hn0
        have hgd := Lib.hid (getD_some l k x Hx.out)
        rw [show l.length - 1 = k by have := Hk.out; omega, hgd.out] at Hpq
        clear hn0
        go_upto_region 13 with (go_at_call 81; refine (nm_last l _ _ _ HS3.out Hne.out).mono ?_; rw [Hnn.out]; rintro e w9 ⟨rfl, rfl⟩)
        refine wp_region_any (by kernel_rfl) ?_
        change wpAny _ _ _ _ _ _ _ (World.drew _)
        have hS : (fun W : World => W.cell? ⟨g, k, none⟩ = some (.string ⟨x.toArray⟩)) w3.drew := e1
        dsimp only at hS
        have HPd := Lib.hid HP3.out.drew; have HSd := Lib.hid (HS3.out.below' (Below.refl _ _).drew); have HBd := Lib.hid HB3.out.drew
        have Hgd2 := Lib.hid (show g < w3.drew.heap.size from Hgl.out)
        clear e1 HP3 HS3 HB3 Hgl
        generalize w3.drew = wd at *
        refine wpAny_of_held (S := fun W => W.cell? ⟨g, k, none⟩ = some (.string ⟨x.toArray⟩)) _ _ _ _ ?_
        refine wpAnyH_take (i := 0) (v := .slice (some ⟨g, 0, none⟩) l.length cap) rfl (by kernel_rfl) (by kernel_rfl) (by kernel_rfl) (fun _ _ _ h => h) (Or.inl ⟨by kernel_rfl, fun W hW => by kernel_rfl⟩) (by assumption) ?_
        try simp only [Act.put, List.getElem_toArray, List.getElem_cons_zero, List.getElem_cons_succ, List.setIfInBounds_toArray, List.set_cons_zero, List.set_cons_succ]
        refine wpAnyH_take (i := 1) (v := .slice (some ⟨g, 0, none⟩) l.length cap) rfl (by kernel_rfl) (by kernel_rfl) (by kernel_rfl) (fun _ _ _ h => h) (Or.inl ⟨by kernel_rfl, fun W hW => by kernel_rfl⟩) (by assumption) ?_
        try simp only [Act.put, List.getElem_toArray, List.getElem_cons_zero, List.getElem_cons_succ, List.setIfInBounds_toArray, List.set_cons_zero, List.set_cons_succ]
        refine wpAnyH_take (i := 2) (v := .int .i64 (l.length : Int)) rfl (by kernel_rfl) (by kernel_rfl) (by kernel_rfl) (fun _ _ _ h => h) (Or.inl ⟨by kernel_rfl, fun W hW => by go_simp⟩) (by assumption) ?_
        try simp only [Act.put, List.getElem_toArray, List.getElem_cons_zero, List.getElem_cons_succ, List.setIfInBounds_toArray, List.set_cons_zero, List.set_cons_succ]
        refine wpAnyH_take (i := 3) (v := .int .i64 (k : Int)) rfl (by kernel_rfl) (by kernel_rfl) (by kernel_rfl) (fun _ _ _ h => h) (Or.inl ⟨by kernel_rfl, fun W hW => by go_simp⟩) (by assumption) ?_
        try simp only [Act.put, List.getElem_toArray, List.getElem_cons_zero, List.getElem_cons_succ, List.setIfInBounds_toArray, List.set_cons_zero, List.set_cons_succ]
        refine wpAnyH_take (i := 4) (v := .slice (some ⟨g, 0, none⟩) k cap) rfl (by kernel_rfl) (by kernel_rfl) (by kernel_rfl) (fun _ _ _ h => h) (Or.inl ⟨by kernel_rfl, fun W hW => by go_simp⟩) (by assumption) ?_
        try simp only [Act.put, List.getElem_toArray, List.getElem_cons_zero, List.getElem_cons_succ, List.setIfInBounds_toArray, List.set_cons_zero, List.set_cons_succ]
        refine wpAnyH_take (i := 6) (v := .slice (some ⟨g, 0, none⟩) l.length cap) rfl (by kernel_rfl) (by kernel_rfl) (by kernel_rfl) (fun _ _ _ h => h) (Or.inl ⟨by kernel_rfl, fun W hW => by kernel_rfl⟩) (by assumption) ?_
        try simp only [Act.put, List.getElem_toArray, List.getElem_cons_zero, List.getElem_cons_succ, List.setIfInBounds_toArray, List.set_cons_zero, List.set_cons_succ]
        refine wpAnyH_take (i := 7) (v := .slice (some ⟨g, 0, none⟩) l.length cap) rfl (by kernel_rfl) (by kernel_rfl) (by kernel_rfl) (fun _ _ _ h => h) (Or.inl ⟨by kernel_rfl, fun W hW => by kernel_rfl⟩) (by assumption) ?_
        try simp only [Act.put, List.getElem_toArray, List.getElem_cons_zero, List.getElem_cons_succ, List.setIfInBounds_toArray, List.set_cons_zero, List.set_cons_succ]
        refine wpAnyH_take (i := 8) (v := .int .i64 (l.length : Int)) rfl (by kernel_rfl) (by kernel_rfl) (by kernel_rfl) (fun _ _ _ h => h) (Or.inl ⟨by kernel_rfl, fun W hW => by go_simp⟩) (by assumption) ?_
        try simp only [Act.put, List.getElem_toArray, List.getElem_cons_zero, List.getElem_cons_succ, List.setIfInBounds_toArray, List.set_cons_zero, List.set_cons_succ]
        refine wpAnyH_take (i := 9) (v := .int .i64 (k : Int)) rfl (by kernel_rfl) (by kernel_rfl) (by kernel_rfl) (fun _ _ _ h => h) (Or.inl ⟨by kernel_rfl, fun W hW => by go_simp⟩) (by assumption) ?_
        try simp only [Act.put, List.getElem_toArray, List.getElem_cons_zero, List.getElem_cons_succ, List.setIfInBounds_toArray, List.set_cons_zero, List.set_cons_succ]
        refine wpAnyH_take (i := 10) (v := .pointer (some ⟨g, k, none⟩)) rfl (by kernel_rfl) (by kernel_rfl) (by kernel_rfl) (fun _ _ _ h => h) (Or.inl ⟨by kernel_rfl, fun W hW => by go_simp⟩) (by assumption) ?_
        try simp only [Act.put, List.getElem_toArray, List.getElem_cons_zero, List.getElem_cons_succ, List.setIfInBounds_toArray, List.set_cons_zero, List.set_cons_succ]
        refine wpAnyH_take (i := 11) (v := .string ⟨x.toArray⟩) rfl (by kernel_rfl) (by kernel_rfl) (by kernel_rfl) (fun _ _ _ h => h) (Or.inl ⟨by kernel_rfl, fun W hW => by go_simp⟩) (by assumption) ?_
        try simp only [Act.put, List.getElem_toArray, List.getElem_cons_zero, List.getElem_cons_succ, List.setIfInBounds_toArray, List.set_cons_zero, List.set_cons_succ]
        refine wpAnyH_ready (rs := [5]) (by kernel_rfl) (by simp) ?_
        refine AllReadyH.cons rfl (fun K hK => ?_) AllReadyH.nil
        go_simp
        go_wp2_with (go_at_call 56; refine (nm_join (l.take k) _ _ _ (HSd.out.pre k (by have := Hk.out; omega)) (by have := Hlt.out; have := Lb.tot_take l k; omega)).mono ?_; rintro e w8 ⟨rfl, hb8⟩; have Hb8 := Lib.hid hb8; clear hb8)
        have hS8 := (Hb8.out.cell (p := ⟨g, k, none⟩) Hgd2.out).trans hS
        have HP8 := Lib.hid (HPd.out.below' Hb8.out); have HB8 := Lib.hid (HBd.out.trans (Hb8.out.mono HBd.out.size))
        refine hK.out _ _ hS8 (fun _ => ?_)
        clear K hK
        try simp only [Act.put, List.getElem_toArray, List.getElem_cons_zero, List.getElem_cons_succ, List.setIfInBounds_toArray, List.set_cons_zero, List.set_cons_succ]
        refine wpAnyH_take (i := 12) (v := .agg #[.string ⟨(Lb.join (l.take k)).toArray⟩, .string ⟨#[]⟩, .string ⟨x.toArray⟩, .string ⟨#[]⟩]) rfl (by kernel_rfl) (by kernel_rfl) (by kernel_rfl) (fun _ _ _ h => h) (Or.inl ⟨by kernel_rfl, fun W hW => by kernel_rfl⟩) (by assumption) ?_
        try simp only [Act.put, List.getElem_toArray, List.getElem_cons_zero, List.getElem_cons_succ, List.setIfInBounds_toArray, List.set_cons_zero, List.set_cons_succ]
        refine wpAnyH_ready (rs := [13]) (by kernel_rfl) (by simp) ?_
        refine AllReadyH.cons rfl (fun K hK => ?_) AllReadyH.nil
        have r0 := HP8.out.f 0; have r1 := HP8.out.f 1; have r2 := HP8.out.f 2; have r3 := HP8.out.f 3; have c0 := HP8.out.c0; have c1 := HP8.out.c1; have c2 := HP8.out.c2; have c3 := HP8.out.c3
        go_simp
        refine hK.out _ _ ((cell4_other _ q g k _ _ _ _ (Nat.ne_of_lt Hgq.out)).trans hS8) (fun _ => ?_)
        clear K hK r0 r1 r2 r3 c0 c1 c2 c3
        try simp only [Act.put, List.getElem_toArray, List.getElem_cons_zero, List.getElem_cons_succ, List.setIfInBounds_toArray, List.set_cons_zero, List.set_cons_succ]
        refine wpAnyH_done (by kernel_rfl) ?_ _
        go_wp2_with fail
        have hF := HP8.out.all (.string ⟨(Lb.join (l.take k)).toArray⟩) (.string ⟨#[]⟩) (.string ⟨x.toArray⟩) (.string ⟨#[]⟩)
        refine ret_one rfl rfl (load_per _ _ _ _ _ _ hF.c0 hF.c1 hF.c2 hF.c3) rfl ⟨?_, below4 HB8.out (Nat.le_of_eq Hq.out) _ _ _ _⟩
        rw [Hpq.out]; rfl
      · have hn0' : ((n : Int) == 0) = false := by rw [beq_eq_false_iff_ne]; omega
        rw [if_neg hn0] at Hpq
        have hfl := Lb.find_last l (by rw [Hnn.out]; exact hn0)
        obtain ⟨f, hf⟩ : ∃ f, l.findIdx Lb.smallW = f := ⟨_, rfl⟩
        rw [Hnn.out, hf] at hfl
        have hix : ixP Lb.smallW l = (f : Int) := by unfold ixP; rw [if_pos hfl.1, hf]
        rw [hf] at Hpq
        have Hix := Lib.hid hix
        have q8 : (f : Int) ≤ (n : Int) := by omega
        have q9 : (f : Int) ≤ (cap : Int) := by omega
        have q10 : ¬ cap = f := by have := Hlc.out; have := Hnl.out; have := Hk.out; omega
        have Hfn := Lib.hid hfl.2
        clear hn0 hfl hf hix e1
        go_upto_region 15 with (first
          | (go_at_call 81; refine (nm_last l _ _ _ HS3.out Hne.out).mono ?_; rw [Hnn.out]; rintro e w9 ⟨rfl, rfl⟩)
          | (go_at_call 82; refine (nm_ix_small l _ _ _ HS3.out Hne.out).mono ?_; rw [Hix.out]; rintro e w9 ⟨rfl, rfl⟩))
        refine wp_region_any (by kernel_rfl) ?_
        change wpAny _ _ _ _ _ _ _ (World.drew _)
        have hS : (fun W : World => True) w3.drew := trivial
        dsimp only at hS
        have HPd := Lib.hid HP3.out.drew; have HSd := Lib.hid (HS3.out.below' (Below.refl _ _).drew); have HBd := Lib.hid HB3.out.drew
        clear HP3 HS3 HB3 Hgl
        generalize w3.drew = wd at *
        refine wpAny_of_held (S := fun W => True) _ _ _ _ ?_
        refine wpAnyH_take (i := 0) (v := .slice (some ⟨g, 0, none⟩) l.length cap) rfl (by kernel_rfl) (by kernel_rfl) (by kernel_rfl) (fun _ _ _ h => h) (Or.inl ⟨by kernel_rfl, fun W hW => by kernel_rfl⟩) (by assumption) ?_
        try simp only [Act.put, List.getElem_toArray, List.getElem_cons_zero, List.getElem_cons_succ, List.setIfInBounds_toArray, List.set_cons_zero, List.set_cons_succ]
        refine wpAnyH_take (i := 1) (v := .int .i64 (f : Int)) rfl (by kernel_rfl) (by kernel_rfl) (by kernel_rfl) (fun _ _ _ h => h) (Or.inl ⟨by kernel_rfl, fun W hW => by kernel_rfl⟩) (by assumption) ?_
        try simp only [Act.put, List.getElem_toArray, List.getElem_cons_zero, List.getElem_cons_succ, List.setIfInBounds_toArray, List.set_cons_zero, List.set_cons_succ]
        refine wpAnyH_take (i := 2) (v := .slice (some ⟨g, 0, none⟩) f cap) rfl (by kernel_rfl) (by kernel_rfl) (by kernel_rfl) (fun _ _ _ h => h) (Or.inl ⟨by kernel_rfl, fun W hW => by go_simp⟩) (by assumption) ?_
        try simp only [Act.put, List.getElem_toArray, List.getElem_cons_zero, List.getElem_cons_succ, List.setIfInBounds_toArray, List.set_cons_zero, List.set_cons_succ]
        refine wpAnyH_take (i := 4) (v := .slice (some ⟨g, 0, none⟩) l.length cap) rfl (by kernel_rfl) (by kernel_rfl) (by kernel_rfl) (fun _ _ _ h => h) (Or.inl ⟨by kernel_rfl, fun W hW => by kernel_rfl⟩) (by assumption) ?_
        try simp only [Act.put, List.getElem_toArray, List.getElem_cons_zero, List.getElem_cons_succ, List.setIfInBounds_toArray, List.set_cons_zero, List.set_cons_succ]
        refine wpAnyH_take (i := 5) (v := .int .i64 (f : Int)) rfl (by kernel_rfl) (by kernel_rfl) (by kernel_rfl) (fun _ _ _ h => h) (Or.inl ⟨by kernel_rfl, fun W hW => by kernel_rfl⟩) (by assumption) ?_
        try simp only [Act.put, List.getElem_toArray, List.getElem_cons_zero, List.getElem_cons_succ, List.setIfInBounds_toArray, List.set_cons_zero, List.set_cons_succ]
        refine wpAnyH_take (i := 6) (v := .int .i64 (n : Int)) rfl (by kernel_rfl) (by kernel_rfl) (by kernel_rfl) (fun _ _ _ h => h) (Or.inl ⟨by kernel_rfl, fun W hW => by kernel_rfl⟩) (by assumption) ?_
        try simp only [Act.put, List.getElem_toArray, List.getElem_cons_zero, List.getElem_cons_succ, List.setIfInBounds_toArray, List.set_cons_zero, List.set_cons_succ]
        refine wpAnyH_take (i := 7) (v := .slice (some ⟨g, f, none⟩) (n - f) (cap - f)) rfl (by kernel_rfl) (by kernel_rfl) (by kernel_rfl) (fun _ _ _ h => h) (Or.inl ⟨by kernel_rfl, fun W hW => by go_simp⟩) (by assumption) ?_
        try simp only [Act.put, List.getElem_toArray, List.getElem_cons_zero, List.getElem_cons_succ, List.setIfInBounds_toArray, List.set_cons_zero, List.set_cons_succ]
        refine wpAnyH_take (i := 9) (v := .slice (some ⟨g, 0, none⟩) l.length cap) rfl (by kernel_rfl) (by kernel_rfl) (by kernel_rfl) (fun _ _ _ h => h) (Or.inl ⟨by kernel_rfl, fun W hW => by kernel_rfl⟩) (by assumption) ?_
        try simp only [Act.put, List.getElem_toArray, List.getElem_cons_zero, List.getElem_cons_succ, List.setIfInBounds_toArray, List.set_cons_zero, List.set_cons_succ]
        refine wpAnyH_take (i := 10) (v := .int .i64 (n : Int)) rfl (by kernel_rfl) (by kernel_rfl) (by kernel_rfl) (fun _ _ _ h => h) (Or.inl ⟨by kernel_rfl, fun W hW => by kernel_rfl⟩) (by assumption) ?_
        try simp only [Act.put, List.getElem_toArray, List.getElem_cons_zero, List.getElem_cons_succ, List.setIfInBounds_toArray, List.set_cons_zero, List.set_cons_succ]
        refine wpAnyH_take (i := 11) (v := .slice (some ⟨g, n, none⟩) (l.length - n) (cap - n)) rfl (by kernel_rfl) (by kernel_rfl) (by kernel_rfl) (fun _ _ _ h => h) (Or.inl ⟨by kernel_rfl, fun W hW => by go_simp⟩) (by assumption) ?_
        try simp only [Act.put, List.getElem_toArray, List.getElem_cons_zero, List.getElem_cons_succ, List.setIfInBounds_toArray, List.set_cons_zero, List.set_cons_succ]
        refine wpAnyH_ready (rs := [3]) (by kernel_rfl) (by simp) ?_
        refine AllReadyH.cons rfl (fun K hK => ?_) AllReadyH.nil
        go_simp
        go_wp2_with (go_at_call 56; refine (nm_join (l.take f) _ _ _ (HSd.out.pre f (by have := Hfn.out; have := Hnl.out; omega)) (by have := Hlt.out; have := Lb.tot_take l f; omega)).mono ?_; rintro e w7 ⟨rfl, hb8⟩; have Hb7 := Lib.hid hb8; clear hb8)
        have HP7 := Lib.hid (HPd.out.below' Hb7.out); have HB7 := Lib.hid (HBd.out.trans (Hb7.out.mono HBd.out.size)); have HS7 := Lib.hid (HSd.out.below' Hb7.out)
        refine hK.out _ _ trivial (fun _ => ?_)
        clear K hK
        try simp only [Act.put, List.getElem_toArray, List.getElem_cons_zero, List.getElem_cons_succ, List.setIfInBounds_toArray, List.set_cons_zero, List.set_cons_succ]
        refine wpAnyH_ready (rs := [8]) (by kernel_rfl) (by simp) ?_
        refine AllReadyH.cons rfl (fun K hK => ?_) AllReadyH.nil
        go_simp
        go_wp2_with (go_at_call 56; refine (nm_join ((l.take n).drop f) _ _ _ ((by have h := ((HS7.out.pre n (by have := Hnl.out; omega)).suf f (by have := Hfn.out; have := Hnl.out; rw [List.length_take]; omega)); simpa using h)) (by have := Hlt.out; have := Lb.tot_take l n; have := Lb.tot_drop (l.take n) f; omega)).mono ?_; rintro e w8 ⟨rfl, hb8⟩; have Hb8 := Lib.hid hb8; clear hb8)
        have HP8 := Lib.hid (HP7.out.below' Hb8.out); have HB8 := Lib.hid (HB7.out.trans (Hb8.out.mono HB7.out.size)); have HS8 := Lib.hid (HS7.out.below' Hb8.out)
        refine hK.out _ _ trivial (fun _ => ?_)
        clear K hK
        try simp only [Act.put, List.getElem_toArray, List.getElem_cons_zero, List.getElem_cons_succ, List.setIfInBounds_toArray, List.set_cons_zero, List.set_cons_succ]
        refine wpAnyH_ready (rs := [12]) (by kernel_rfl) (by simp) ?_
        refine AllReadyH.cons rfl (fun K hK => ?_) AllReadyH.nil
        go_simp
        go_wp2_with (go_at_call 56; refine (nm_join (l.drop n) _ _ _ ((by have h := HS8.out.suf n (by have := Hnl.out; omega); simpa using h)) (by have := Hlt.out; have := Lb.tot_drop l n; omega)).mono ?_; rintro e w9 ⟨rfl, hb8⟩; have Hb9 := Lib.hid hb8; clear hb8)
        have HP9 := Lib.hid (HP8.out.below' Hb9.out); have HB9 := Lib.hid (HB8.out.trans (Hb9.out.mono HB8.out.size)); have HS9 := Lib.hid (HS8.out.below' Hb9.out)
        refine hK.out _ _ trivial (fun _ => ?_)
        clear K hK
        try simp only [Act.put, List.getElem_toArray, List.getElem_cons_zero, List.getElem_cons_succ, List.setIfInBounds_toArray, List.set_cons_zero, List.set_cons_succ]
        refine wpAnyH_take (i := 13) (v := .agg #[.string ⟨(Lb.join (l.take f)).toArray⟩, .string ⟨(Lb.join ((l.take n).drop f)).toArray⟩, .string ⟨(Lb.join (l.drop n)).toArray⟩, .string ⟨#[]⟩]) rfl (by kernel_rfl) (by kernel_rfl) (by kernel_rfl) (fun _ _ _ h => h) (Or.inl ⟨by kernel_rfl, fun W hW => by kernel_rfl⟩) (by assumption) ?_
        try simp only [Act.put, List.getElem_toArray, List.getElem_cons_zero, List.getElem_cons_succ, List.setIfInBounds_toArray, List.set_cons_zero, List.set_cons_succ]
        refine wpAnyH_ready (rs := [14]) (by kernel_rfl) (by simp) ?_
        refine AllReadyH.cons rfl (fun K hK => ?_) AllReadyH.nil
        have r0 := HP9.out.f 0; have r1 := HP9.out.f 1; have r2 := HP9.out.f 2; have r3 := HP9.out.f 3; have c0 := HP9.out.c0; have c1 := HP9.out.c1; have c2 := HP9.out.c2; have c3 := HP9.out.c3
        go_simp
        refine hK.out _ _ trivial (fun _ => ?_)
        clear K hK r0 r1 r2 r3 c0 c1 c2 c3
        try simp only [Act.put, List.getElem_toArray, List.getElem_cons_zero, List.getElem_cons_succ, List.setIfInBounds_toArray, List.set_cons_zero, List.set_cons_succ]
        refine wpAnyH_done (by kernel_rfl) ?_ _
        go_wp2_with fail
        have hF := HP9.out.all (.string ⟨(Lb.join (l.take f)).toArray⟩) (.string ⟨(Lb.join ((l.take n).drop f)).toArray⟩) (.string ⟨(Lb.join (l.drop n)).toArray⟩) (.string ⟨#[]⟩)
        refine ret_one rfl rfl (load_per _ _ _ _ _ _ hF.c0 hF.c1 hF.c2 hF.c3) rfl ⟨?_, below4 HB9.out (Nat.le_of_eq Hq.out) _ _ _ _⟩
        rw [Hpq.out]; rfl
end Go.Proofs.YtanbcokkfbidbaaGreatDoor
