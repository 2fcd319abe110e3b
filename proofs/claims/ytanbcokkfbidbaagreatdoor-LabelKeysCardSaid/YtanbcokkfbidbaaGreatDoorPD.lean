/- The walks of package entry's reader: an entry. The walks of package entry's reader: what the whole reading needs of an entry. The walk of package entry's Parse: what stands in memory. -/
import Derived.Test.YtanbcokkfbidbaaGreatDoorPC
import Derived.StillTailTactics
set_option linter.unusedSimpArgs false
set_option linter.unusedVariables false
namespace Go.Proofs.YtanbcokkfbidbaaGreatDoor
section
open Go.RowKit

theorem size_alloc1 (w : World) (o : Obj) : (w.alloc o).heap.size = w.heap.size + 1 := by
  show (w.heap.push o).size = _
  rw [Array.size_push]
theorem new_frozen (w : World) (cs : Array Value) (t : TypeId) (i : Nat) : (w.alloc (.cells cs t)).frozen? ⟨w.heap.size, i, none⟩ = false := by
  unfold World.frozen?
  rw [heap_alloc_new w _]
  simp
theorem start3 (w : World) (t1 t2 t3 : TypeId) : Res3 (((w.alloc (.cells #[.string ⟨#[]⟩, .string ⟨#[]⟩, .slice none 0 0] t1)).alloc (.cells #[.bool false] t2)).alloc (.cells #[.int .i64 0] t3)) w.heap.size [] [] (.slice none 0 0) false 0 := by
  obtain ⟨W1, h1⟩ : ∃ W1, W1 = w.alloc (.cells #[.string ⟨#[]⟩, .string ⟨#[]⟩, .slice none 0 0] t1) := ⟨_, rfl⟩
  obtain ⟨W2, h2⟩ : ∃ W2, W2 = W1.alloc (.cells #[.bool false] t2) := ⟨_, rfl⟩
  rw [← h1, ← h2]
  have s1 : W1.heap.size = w.heap.size + 1 := by rw [h1, size_alloc1]
  have s2 : W2.heap.size = w.heap.size + 2 := by rw [h2, size_alloc1, s1]
  have b2 : Below W1.heap.size W1 W2 := by rw [h2]; exact below_new _ _
  have b3 := below_new W2 (.cells #[.int .i64 0] t3)
  have c1 : ∀ (i : Nat) (u : Value), #[Value.string ⟨#[]⟩, .string ⟨#[]⟩, .slice none 0 0][i]? = some u → W1.cell? ⟨w.heap.size, i, none⟩ = some u := by
    intro i u hu
    rw [h1, cell_of_row _ _ _ _ _ _ (heap_alloc_new w _)]
    exact hu
  have c2 : W2.cell? ⟨w.heap.size + 1, 0, none⟩ = some (.bool false) := by rw [h2, ← s1]; exact new_cell W1 _ _
  have c3 := new_cell W2 (.int .i64 0) t3
  rw [s2] at c3
  have f1 : ∀ i, W1.frozen? ⟨w.heap.size, i, none⟩ = false := fun i => by rw [h1]; exact new_frozen w _ _ i
  have f2 : W2.frozen? ⟨w.heap.size + 1, 0, none⟩ = false := by rw [h2, ← s1]; exact new_frozen W1 _ _ 0
  have f3 := new_frozen W2 #[.int .i64 0] t3 0
  rw [s2] at f3
  have q : ∀ i, (W2.alloc (.cells #[.int .i64 0] t3)).cell? ⟨w.heap.size, i, none⟩ = W1.cell? ⟨w.heap.size, i, none⟩ := fun i =>
    (b3.cell (p := ⟨w.heap.size, i, none⟩) (by show w.heap.size < _; omega)).trans (b2.cell (p := ⟨w.heap.size, i, none⟩) (by show w.heap.size < _; omega))
  refine ⟨(q 0).trans (c1 0 _ rfl), (q 1).trans (c1 1 _ rfl), (q 2).trans (c1 2 _ rfl), (b3.cell (p := ⟨w.heap.size + 1, 0, none⟩) (by show w.heap.size + 1 < _; omega)).trans c2, c3, fun i _ => ?_, ?_, f3, ?_⟩
  · exact ((b3.frozen (p := ⟨w.heap.size, i, none⟩) (by show w.heap.size < _; omega)).trans (b2.frozen (p := ⟨w.heap.size, i, none⟩) (by show w.heap.size < _; omega))).trans (f1 i)
  · exact (b3.frozen (p := ⟨w.heap.size + 1, 0, none⟩) (by show w.heap.size + 1 < _; omega)).trans f2
  · rw [size_alloc1, s2]; omega
theorem start_in {s : List UInt8} {r m b : Nat} {w : World} {σ : Ent.RS} {v : Value} (h : Rdr s r m b w σ v) (t1 t2 t3 : TypeId) :
    EIn s r m b w v σ [] [] (.slice none 0 0) false 0 (((w.alloc (.cells #[.string ⟨#[]⟩, .string ⟨#[]⟩, .slice none 0 0] t1)).alloc (.cells #[.bool false] t2)).alloc (.cells #[.int .i64 0] t3)) v := by
  have hb : Below w.heap.size w (((w.alloc (.cells #[.string ⟨#[]⟩, .string ⟨#[]⟩, .slice none 0 0] t1)).alloc (.cells #[.bool false] t2)).alloc (.cells #[.int .i64 0] t3)) :=
    (((Below.refl w.heap.size w).alloc (Nat.le_refl _) _).alloc (by rw [size_alloc1]; omega) _).alloc (by rw [size_alloc1, size_alloc1]; omega) _
  refine ⟨h.below hb, Step.below hb r m v, start3 w t1 t2 t3, fun j h1 _ => (h.away h1).2.2, h.at'.lt⟩

set_option maxRecDepth 100000 in
set_option maxHeartbeats 3200000 in
theorem reader_entry (s : List UInt8) (r m b : Nat) (σ : Ent.RS) (v : Value) (w : World) (hs : s.length ≤ 1000000000) (hN : Ent.NamesOk σ) (hR : Rdr s r m b w σ v) :
    Calls Tryz.prog 41 #[.pointer (some ⟨r, 0, none⟩)] w fun e w' => EntryPost s r m b w v (Ent.entry σ) e w' := by
  have hsm : s.length ≤ maxLen := by unfold maxLen; omega
  have hmf : ∀ (fn : Fn) (first cap : Array Value) (w : World), (Instr.makeFunc fn first cap).run Tryz.prog w = .ok (.func fn first cap) w := fun _ _ _ _ => rfl
  obtain ⟨o, ho⟩ : ∃ o, Ent.entry σ = o := ⟨_, rfl⟩
  rw [ho]
  unfold Ent.entry at ho
  have Ho := Lib.hid ho; have HR := Lib.hid hR; have HN := Lib.hid hN; clear ho hR hN
  go_enter_defers Tryz.func41, Tryz.ntmps41
  go_upto_region 2 with fail
  have HE := Lib.hid (start_in HR.out 27 4 63)
  generalize ((w.alloc (.cells #[.string ⟨#[]⟩, .string ⟨#[]⟩, .slice none 0 0] 27)).alloc (.cells #[.bool false] 4)).alloc (.cells #[.int .i64 0] 63) = W at HE ⊢
  clear HR
  have e2 := HE.out.rdr.kind
  have f2 := HE.out.rdr.kfree
  go_upto_region 3 with fail
  replace HE := Lib.hid (HE.out.kinded [])
  generalize W.setCell ⟨r, 2, none⟩ (.string ⟨#[]⟩) = W1 at HE ⊢
  clear e2 f2
  cases hq : (Ent.mark σ.rest).1 with
  | none =>
    have ho := Ho.out
    rw [hq] at ho
    have Hq := Lib.hid hq; have Ho2 := Lib.hid ho; clear hq ho Ho
    have Hl := Lib.hid (Ent.mark_len σ.rest)
    go_wp2_with (go_at_call 62; refine (reader_mark s r _ _ hsm HE.out.rdr.at').mono ?_; rintro e wa ⟨he, hA, hM⟩; simp only [said, Hq.out] at he; subst he)
    exact entry_dies (HE.out.moved (b' := b) hM hA (Nat.add_le_add_right Hl.out b)) _ rfl rfl rfl o Ho2.out.symm
  | some k =>
    have ho := Ho.out
    rw [hq] at ho
    dsimp only at ho
    obtain ⟨_, hlt⟩ := Ent.mark_lt σ.rest k hq
    have hkl := Ent.mark_tlen σ.rest k hq
    have hrl : σ.rest.length ≤ s.length := by obtain ⟨n, h, _⟩ := HE.out.rdr.names; have : n + σ.notes.length + σ.rest.length + b ≤ s.length := h; omega
    have hkl2 : k.length ≤ maxLen := by unfold maxLen; omega
    obtain ⟨u, hu⟩ : ∃ u, Ent.small k = u := ⟨_, rfl⟩
    have hul : u.length ≤ 1000000000 := by rw [← hu]; unfold Ent.small; rw [List.length_map]; omega
    rw [hu] at ho
    have hbud : (Ent.mark σ.rest).2.length + (b + 1) ≤ σ.rest.length + b := by omega
    have Hq := Lib.hid hq; have Hu := Lib.hid hu; have Hbud := Lib.hid hbud
    clear hq hu Ho hlt hkl hrl hbud
    go_upto_region 4 with (first
      | (go_at_call 62; refine (reader_mark s r _ _ hsm HE.out.rdr.at').mono ?_; rintro e wa ⟨he, hA, hM⟩; simp only [said, Hq.out] at he; subst he; have HE2 := Lib.hid (HE.out.moved (b' := b + 1) hM hA Hbud.out); clear hM hA HE)
      | (go_at_call 61; refine (entry_small k _ hkl2).mono ?_; rintro e wb ⟨rfl, hb⟩; have HE3 := Lib.hid (HE2.out.below hb); clear hb HE2; have e2 := HE3.out.rdr.kind; have f2 := HE3.out.rdr.kfree; rw [Hu.out]))
    replace HE := Lib.hid (HE3.out.kinded u)
    generalize wb.setCell ⟨r, 2, none⟩ (.string ⟨u.toArray⟩) = W2 at HE ⊢
    clear e2 f2 HE3 Hbud Hq Hu hkl2
    obtain ⟨σ1, hs1⟩ : ∃ σ1 : Ent.RS, σ1 = { σ with rest := (Ent.mark σ.rest).2, kind := u } := ⟨_, rfl⟩
    have hN1 : Ent.NamesOk σ1 := by rw [hs1]; exact HN.out
    have he4 : EIn s r m (b + 1) w v σ1 [] [] (.slice none 0 0) false 0 W2 v := by rw [hs1]; exact HE.out
    have HE4 := Lib.hid he4; clear he4
    have hk1 : σ1.kind = u := by rw [hs1]
    rw [← hs1] at ho
    clear HE HN hs1
    have HN := Lib.hid hN1; clear hN1
    unfold Ent.entryB at ho
    cases hb : Ent.isB 123 σ1.rest
    · rw [hb, if_neg (by simp)] at ho
      have Ho2 := Lib.hid ho; have Hb := Lib.hid hb; clear ho hb
      have Hl := Lib.hid (Ent.isL_len 123 σ1.rest)
      go_wp2_with (go_at_call 63; refine (reader_mustc s r _ 123 123 rfl _ hsm (by decide) HE4.out.rdr.at').mono ?_; rintro e wc ⟨he, hA, hM⟩; simp only [Hb.out, if_false, Bool.false_eq_true] at he; subst he)
      exact entry_dies ((HE4.out.mono (Nat.le_succ b)).moved (b' := b) hM hA (Nat.add_le_add_right Hl.out b)) _ rfl rfl rfl o Ho2.out.symm
    · rw [hb, if_pos rfl] at ho
      have Hb := Lib.hid hb; clear hb
      have Hl := Lib.hid (Ent.isL_len 123 σ1.rest)
      obtain ⟨σ2, hs2⟩ : ∃ σ2, σ2 = σ1.at (Ent.isL 123 σ1.rest) := ⟨_, rfl⟩
      rw [← hs2] at ho
      have hN2 : Ent.NamesOk σ2 := by rw [hs2]; exact HN.out
      have hk2 : σ2.kind = u := by rw [hs2]; exact hk1
      have Hs2 := Lib.hid hs2; clear hs2
      go_upto_region 5 with (go_at_call 63; refine (reader_mustc s r _ 123 123 rfl _ hsm (by decide) HE4.out.rdr.at').mono ?_; rintro e wc ⟨he, hA, hM⟩; simp only [Hb.out, if_true] at he; subst he; have HE5 := Lib.hid (HE4.out.moved (b' := b + 1) hM hA (Nat.add_le_add_right Hl.out (b + 1))); rw [← Hs2.out] at HE5; clear hM hA HE4)
      have e2 := HE5.out.rdr.kind
      rw [hk2] at e2
      clear HN Hb Hl Hs2 hk1
      have HN := Lib.hid hN2; clear hN2
      by_cases hstr : u = Ent.strW
      · rw [if_pos hstr] at ho
        have e3 : wc.cell? ⟨r, 2, none⟩ = some (.string ⟨#[115, 116, 114, 105, 110, 103]⟩) := by rw [e2, hstr]; rfl
        clear e2
        unfold Ent.entryS at ho
        cases hq : (Ent.mark σ2.rest).1 with
        | none =>
          rw [Ent.pair_bad1 σ2 hq] at ho
          have Ho2 := Lib.hid ho; have Hq := Lib.hid hq; clear ho hq
          have Hl := Lib.hid (Ent.mark_len σ2.rest)
          go_wp2_with (go_at_call 62; refine (reader_mark s r _ _ hsm HE5.out.rdr.at').mono ?_; rintro e wd ⟨he, hA, hM⟩; simp only [said, Hq.out] at he; subst he)
          exact entry_dies ((HE5.out.mono (Nat.le_succ b)).moved (b' := b) hM hA (Nat.add_le_add_right Hl.out b)) _ rfl rfl rfl o Ho2.out.symm
        | some n =>
          obtain ⟨_, hlt⟩ := Ent.mark_lt σ2.rest n hq
          have hnl := Ent.mark_tlen σ2.rest n hq
          have hrl : σ2.rest.length ≤ s.length := by obtain ⟨c, h, _⟩ := HE5.out.rdr.names; omega
          have hnl2 : n.length ≤ maxLen := by unfold maxLen; omega
          obtain ⟨z, hz⟩ : ∃ z, Ent.small n = z := ⟨_, rfl⟩
          have hzl : z.length ≤ maxLen := by rw [← hz]; unfold Ent.small; rw [List.length_map]; exact hnl2
          have hbud : (Ent.mark σ2.rest).2.length + (b + 1) ≤ σ2.rest.length + (b + 1) := by omega
          have Hq := Lib.hid hq; have Hz := Lib.hid hz; have Hbud := Lib.hid hbud
          clear hz hnl hrl hbud hlt
          go_upto_region 7 with (first
            | (go_at_call 62; refine (reader_mark s r _ _ hsm HE5.out.rdr.at').mono ?_; rintro e wd ⟨he, hA, hM⟩; simp only [said, Hq.out] at he; subst he; have HE6 := Lib.hid (HE5.out.moved (b' := b + 1) hM hA Hbud.out); clear hM hA HE5)
            | (go_at_call 61; refine (entry_small n _ hnl2).mono ?_; rintro e wf ⟨rfl, hb⟩; have HE7 := Lib.hid (HE6.out.below hb); clear hb HE6; rw [Hz.out]))
          clear e3 Hbud
          obtain ⟨σ3, hs3⟩ : ∃ σ3, σ3 = σ2.at (Ent.mark σ2.rest).2 := ⟨_, rfl⟩
          rw [← hs3] at HE7
          have hr3 : σ3.rest = (Ent.mark σ2.rest).2 := by rw [hs3]; rfl
          have hat : ∀ l, σ2.at l = σ3.at l := fun l => by rw [hs3]; rfl
          have hN3 : Ent.NamesOk σ3 := by rw [hs3]; exact HN.out
          cases hb : Ent.isB 61 σ3.rest
          · rw [Ent.pair_bad2 σ2 n hq (by rw [← hr3]; exact hb), ← hr3, hat] at ho
            have Ho2 := Lib.hid ho; have Hb := Lib.hid hb; clear ho hq hb hs3 hr3 hat
            have Hl := Lib.hid (Ent.isL_len 61 σ3.rest)
            go_wp2_with (go_at_call 63; refine (reader_mustc s r _ 61 61 rfl _ hsm (by decide) HE7.out.rdr.at').mono ?_; rintro e wg ⟨he, hA, hM⟩; simp only [Hb.out, if_false, Bool.false_eq_true] at he; subst he)
            exact entry_dies ((HE7.out.mono (Nat.le_succ b)).moved (b' := b) hM hA (Nat.add_le_add_right Hl.out b)) _ rfl rfl rfl o Ho2.out.symm
          · have Hb := Lib.hid hb
            have Hl := Lib.hid (Ent.isL_len 61 σ3.rest)
            obtain ⟨σ4, hs4⟩ : ∃ σ4, σ4 = σ3.at (Ent.isL 61 σ3.rest) := ⟨_, rfl⟩
            have hp4 : σ2.at (Ent.isL 61 (Ent.mark σ2.rest).2) = σ4 := by rw [hs4, hr3.symm, hat]
            have hN4 : Ent.NamesOk σ4 := by rw [hs4]; exact hN3
            have Hs4 := Lib.hid hs4; have HN4 := Lib.hid hN4
            have hb2 : Ent.isB 61 (Ent.mark σ2.rest).2 = true := by rw [← hr3]; exact hb
            clear hs4 hN4 hs3 hr3 hat hN3 hb HN
            go_upto_region 8 with (go_at_call 63; refine (reader_mustc s r _ 61 61 rfl _ hsm (by decide) HE7.out.rdr.at').mono ?_; rintro e wg ⟨he, hA, hM⟩; simp only [Hb.out, if_true] at he; subst he; have HE8 := Lib.hid (HE7.out.moved (b' := b + 1) hM hA (Nat.add_le_add_right Hl.out (b + 1))); rw [← Hs4.out] at HE8; clear hM hA HE7)
            clear Hl Hb Hs4
            cases hv : (Ent.value σ4).1 with
            | none =>
              rw [Ent.pair_bad3 σ2 n hq hb2 (by rw [hp4]; exact hv), hp4] at ho
              have Ho2 := Lib.hid ho; have Hv := Lib.hid hv; clear ho hq hv hp4 hb2
              go_wp2_with (go_at_call 64; refine (reader_value s r m (b + 1) σ4 v _ hs HN4.out HE8.out.rdr).mono ?_; rintro e wh ⟨he, v2, hR, hS⟩; simp only [said, Hv.out] at he; subst he)
              exact entry_dies ((HE8.out.next hR hS).mono (Nat.le_succ b)) _ rfl rfl rfl o Ho2.out.symm
            | some t =>
              rw [Ent.pair_ok σ2 n t hq hb2 (by rw [hp4]; exact hv), hp4] at ho
              dsimp only at ho
              rw [Hz.out] at ho
              have Hv := Lib.hid hv; clear hq hv hp4 hb2
              obtain ⟨σ5, hs5⟩ : ∃ σ5, σ5 = (Ent.value σ4).2 := ⟨_, rfl⟩
              rw [← hs5] at ho
              have Hs5 := Lib.hid hs5; clear hs5
              go_upto_region 9 with (go_at_call 64; refine (reader_value s r m (b + 1) σ4 v _ hs HN4.out HE8.out.rdr).mono ?_; rintro e wh ⟨he, v2, hR, hS⟩; simp only [said, Hv.out] at he; subst he; have HE9 := Lib.hid (HE8.out.next hR hS); rw [← Hs5.out] at HE9; clear hR hS HE8)
              cases hb : Ent.isB 125 σ5.rest
              · rw [hb, if_neg (by simp)] at ho
                have Ho2 := Lib.hid ho; have Hb := Lib.hid hb; clear ho hb
                have Hl := Lib.hid (Ent.isL_len 125 σ5.rest)
                go_wp2_with (go_at_call 63; refine (reader_mustc s r _ 125 125 rfl _ hsm (by decide) HE9.out.rdr.at').mono ?_; rintro e wi ⟨he, hA, hM⟩; simp only [Hb.out, if_false, Bool.false_eq_true] at he; subst he)
                exact entry_dies ((HE9.out.mono (Nat.le_succ b)).moved (b' := b) hM hA (Nat.add_le_add_right Hl.out b)) _ rfl rfl rfl o Ho2.out.symm
              · rw [hb, if_pos rfl] at ho
                have Ho2 := Lib.hid ho; have Hb := Lib.hid hb; clear ho hb
                have Hl := Lib.hid (Ent.isL_len 125 σ5.rest)
                go_upto_region 10 with (go_at_call 63; refine (reader_mustc s r _ 125 125 rfl _ hsm (by decide) HE9.out.rdr.at').mono ?_; rintro e wi ⟨he, hA, hM⟩; simp only [Hb.out, if_true] at he; subst he; have HE10 := Lib.hid (HE9.out.moved (b' := b + 1) hM hA (Nat.add_le_add_right Hl.out (b + 1))); clear hM hA HE9)
                have e3 := HE10.out.rdr.mcell
                obtain ⟨c, hc, hm10⟩ := HE10.out.rdr.names
                have hcm : c < maxLen := by unfold maxLen; omega
                have Hm10 := Lib.hid hm10; have Hc := Lib.hid hc; clear hm10 hc
                go_upto_region 11 with (at_mapUpdate; go_loud (refine wpList_smap_store rfl (.tmp 40) (.tmp 41) (.tmp 43) rfl m c _ rfl Hm10.out z t rfl hzl hcm rfl ?_); intro wj hmj hgj; have HE11 := Lib.hid (HE10.out.next (HE10.out.rdr.named Hc.out hmj hgj) (step_named hgj)); clear hmj hgj HE10)
                have h' := HE11.out.res
                have k0 := h'.k; have k1 := h'.y; have k2 := h'.vf; have k3 := h'.is
                have k4 : wj.cell? ⟨w.heap.size + 1 + 1, 0, none⟩ = _ := h'.e
                have f0 := h'.fk 0 (by decide); have f1 := h'.fk 1 (by decide); have f2 := h'.fk 2 (by decide); have f3 := h'.fi
                have f4 : wj.frozen? ⟨w.heap.size + 1 + 1, 0, none⟩ = false := h'.fe
                clear h'
                go_wp2_with fail
                refine entry_leaves HE11.out _ rfl rfl rfl [] [] (.slice none 0 0) false 0 o (fun w' he hb => ?_)
                rw [← Ho2.out]
                exact ⟨_, v2, rfl, he.rdr, he.step, rfl⟩
      · rw [if_neg hstr] at ho
        have hus : (u == [115, 116, 114, 105, 110, 103]) = false := by
          cases h : (u == [115, 116, 114, 105, 110, 103])
          · rfl
          · exact absurd (eq_of_beq h) hstr
        clear hstr
        unfold Ent.entryK at ho
        go_upto_region 12 with fail
        have HE6 := Lib.hid (HE5.out.below ((Below.refl _ _).drew))
        clear HE5
        refine wp_region_any (by kernel_rfl) ?_
        change wpAny _ _ _ _ _ _ _ (World.drew _)
        have e4 : wc.drew.cell? ⟨r, 2, none⟩ = some (.string ⟨u.toArray⟩) := e2
        generalize wc.drew = wd at HE6 e4 ⊢
        refine wpAny_of_held (S := fun W => W.cell? ⟨r, 2, none⟩ = some (.string ⟨u.toArray⟩)) _ _ _ _ ?_
        refine wpAnyH_take (i := 0) (v := .pointer (some ⟨r, 0, none⟩)) rfl (by kernel_rfl) (by kernel_rfl) (by kernel_rfl) (fun c a w h => hQ_entry 45 (.pointer (some ⟨r, 0, none⟩)) (by decide) c a w h) (Or.inl ⟨by kernel_rfl, fun W hW => by kernel_rfl⟩) (by assumption) ?_
        try simp only [Act.put, List.getElem_toArray, List.getElem_cons_zero, List.getElem_cons_succ, List.setIfInBounds_toArray, List.set_cons_zero, List.set_cons_succ]
        refine wpAnyH_take (i := 1) (v := .pointer (some ⟨r, 0, none⟩)) rfl (by kernel_rfl) (by kernel_rfl) (by kernel_rfl) (fun c a w h => hQ_entry 46 (.pointer (some ⟨r, 0, none⟩)) (by decide) c a w h) (Or.inl ⟨by kernel_rfl, fun W hW => by kernel_rfl⟩) (by assumption) ?_
        try simp only [Act.put, List.getElem_toArray, List.getElem_cons_zero, List.getElem_cons_succ, List.setIfInBounds_toArray, List.set_cons_zero, List.set_cons_succ]
        refine wpAnyH_take (i := 2) (v := .pointer (some ⟨r, 2, none⟩)) rfl (by kernel_rfl) (by kernel_rfl) (by kernel_rfl) (fun c a w h => hQ_entry 47 (.pointer (some ⟨r, 2, none⟩)) (by decide) c a w h) (Or.inl ⟨by kernel_rfl, fun W hW => by go_simp⟩) (by assumption) ?_
        try simp only [Act.put, List.getElem_toArray, List.getElem_cons_zero, List.getElem_cons_succ, List.setIfInBounds_toArray, List.set_cons_zero, List.set_cons_succ]
        refine wpAnyH_take (i := 3) (v := .string ⟨u.toArray⟩) rfl (by kernel_rfl) (by kernel_rfl) (by kernel_rfl) (fun c a w h => hQ_entry 48 (.string ⟨u.toArray⟩) (by decide) c a w h) (Or.inl ⟨by kernel_rfl, fun W hW => by go_simp⟩) (by assumption) ?_
        try simp only [Act.put, List.getElem_toArray, List.getElem_cons_zero, List.getElem_cons_succ, List.setIfInBounds_toArray, List.set_cons_zero, List.set_cons_succ]
        refine wpAnyH_take (i := 4) (v := .pointer (some ⟨r, 0, none⟩)) rfl (by kernel_rfl) (by kernel_rfl) (by kernel_rfl) (fun c a w h => hQ_entry 49 (.pointer (some ⟨r, 0, none⟩)) (by decide) c a w h) (Or.inl ⟨by kernel_rfl, fun W hW => by kernel_rfl⟩) (by assumption) ?_
        try simp only [Act.put, List.getElem_toArray, List.getElem_cons_zero, List.getElem_cons_succ, List.setIfInBounds_toArray, List.set_cons_zero, List.set_cons_succ]
        refine wpAnyH_ready (rs := [5]) (by kernel_rfl) (by simp) ?_
        refine AllReadyH.cons rfl (fun K hK => ?_) AllReadyH.nil
        go_simp
        clear e2 hus hk2
        cases hq : (Ent.mark σ2.rest).1 with
        | none =>
          rw [hq] at ho
          have Ho2 := Lib.hid ho; have Hq := Lib.hid hq; clear ho hq
          have Hl := Lib.hid (Ent.mark_len σ2.rest)
          go_wp2_with (go_at_call 62; refine (reader_mark s r _ _ hsm HE6.out.rdr.at').mono ?_; rintro e we ⟨he, hA, hM⟩; simp only [said, Hq.out] at he; subst he)
          exact entry_dies ((HE6.out.mono (Nat.le_succ b)).moved (b' := b) hM hA (Nat.add_le_add_right Hl.out b)) _ rfl rfl rfl o Ho2.out.symm
        | some y =>
          rw [hq] at ho
          dsimp only at ho
          have Hq := Lib.hid hq; clear hq
          have Hl := Lib.hid (Ent.mark_len σ2.rest)
          obtain ⟨σ3, hs3⟩ : ∃ σ3, σ3 = σ2.at (Ent.mark σ2.rest).2 := ⟨_, rfl⟩
          rw [← hs3] at ho
          have hN3 : Ent.NamesOk σ3 := by rw [hs3]; exact HN.out
          have hr3 : σ3.rest.length < σ2.rest.length + 1 := by rw [hs3]; exact Nat.lt_succ_of_le Hl.out
          have Hs3 := Lib.hid hs3; have HN3 := Lib.hid hN3; have Hr3 := Lib.hid hr3; have Ho2 := Lib.hid ho
          clear hs3 hN3 HN ho hr3
          go_wp2_with (go_at_call 62; refine (reader_mark s r _ _ hsm HE6.out.rdr.at').mono ?_; rintro e we ⟨he, hA, hM⟩; simp only [said, Hq.out] at he; subst he; have HE7 := Lib.hid (HE6.out.moved (b' := b + 1) hM hA (Nat.add_le_add_right Hl.out (b + 1))); rw [← Hs3.out] at HE7; have h' := HE7.out.res; have k0 := h'.k; have k1 := h'.y; have k2 := h'.vf; have f0 := h'.fk 0 (by decide); have f1 := h'.fk 1 (by decide); have f2 := h'.fk 2 (by decide); have e5 : we.cell? ⟨r, 2, none⟩ = some (.string ⟨u.toArray⟩) := (hM.cell 2 (by decide)).trans e4; clear hM hA HE6 h' e4)
          refine hK.out _ _ e5 (fun _ => ?_)
          clear K hK
          try simp only [Act.put, List.getElem_toArray, List.getElem_cons_zero, List.getElem_cons_succ, List.setIfInBounds_toArray, List.set_cons_zero, List.set_cons_succ]
          refine wpAnyH_take (i := 6) (v := .agg #[.string ⟨u.toArray⟩, .string ⟨y.toArray⟩, .slice none 0 0]) rfl (by kernel_rfl) (by kernel_rfl) (by kernel_rfl) (fun c a w h => hQ_entry 51 (.agg #[.string ⟨u.toArray⟩, .string ⟨y.toArray⟩, .slice none 0 0]) (by decide) c a w h) (Or.inl ⟨by kernel_rfl, fun W hW => by kernel_rfl⟩) (by assumption) ?_
          try simp only [Act.put, List.getElem_toArray, List.getElem_cons_zero, List.getElem_cons_succ, List.setIfInBounds_toArray, List.set_cons_zero, List.set_cons_succ]
          refine wpAnyH_ready (rs := [7]) (by kernel_rfl) (by simp) ?_
          refine AllReadyH.cons rfl (fun K hK => ?_) AllReadyH.nil
          go_simp
          have hne : ∀ i j : Nat, (⟨w.heap.size, i, none⟩ : Addr) ≠ ⟨r, j, none⟩ := fun i j h => by have := HE7.out.lt; injection h with h; omega
          refine hK.out _ _ ((World.cell?_setCell_other _ _ _ _ (hne _ _)).trans ((World.cell?_setCell_other _ _ _ _ (hne _ _)).trans ((World.cell?_setCell_other _ _ _ _ (hne _ _)).trans e5))) (fun _ => ?_)
          clear K hK hne
          try simp only [Act.put, List.getElem_toArray, List.getElem_cons_zero, List.getElem_cons_succ, List.setIfInBounds_toArray, List.set_cons_zero, List.set_cons_succ]
          refine wpAnyH_done (by kernel_rfl) ?_ _
          have HE8 := Lib.hid (HE7.out.wrote (died_put1 we w.heap.size u y (.slice none 0 0)) (HE7.out.res.put1 u y (.slice none 0 0)))
          change Exit.then _ _ _ _ (put1 we w.heap.size u y (.slice none 0 0))
          generalize put1 we w.heap.size u y (.slice none 0 0) = wf at HE8 ⊢
          have hbud : ([] : List Ent.Fld).length + σ3.rest.length ≤ s.length := by obtain ⟨c, h, _⟩ := HE8.out.rdr.names; simp; omega
          have Hbud := Lib.hid hbud
          clear k0 k1 k2 f0 f1 f2 e5 HE7 hbud
          go_wp2_with fail
          go_loopw [] (fun wr => ∃ (σ4 : Ent.RS) (v4 vf : Value) (fs : List Ent.Fld) (n : Nat), EIn s r m (b + 1) w v σ4 u y vf false 0 wr v4 ∧ FIn w vf fs wr v4 ∧ Ent.NamesOk σ4 ∧ fs.length + σ4.rest.length ≤ s.length ∧ σ4.rest.length < n ∧ o = wrapK u y (Ent.fieldsN n fs σ4)) (fun wr => s.length - placeOf r wr)
          case atStart => exact ⟨σ3, v, .slice none 0 0, [], _, HE8.out, FIn.nil _ _ _, HN3.out, Hbud.out, Hr3.out, Ho2.out.symm⟩
          case round =>
            clear HE8 Ho2 Hr3 HN3 Hs3 Hbud Hl Hq
            obtain ⟨σ4, v4, vf, fs, n, hE, hF, hN, hbud, hn, ho⟩ := hrel
            obtain ⟨n, rfl⟩ : ∃ k, n = k + 1 := ⟨n - 1, by omega⟩
            obtain ⟨pv, nv, cv, rfl⟩ := hF.form
            have Hlen := Lib.hid hE.rdr.at'.len
            have HE := Lib.hid hE; have HF := Lib.hid hF; have HN := Lib.hid hN; have Hbud := Lib.hid hbud; have Hn := Lib.hid hn
            clear hE hF hN hbud hn
            unfold Ent.fieldsN at ho
            obtain ⟨l1, hl1⟩ : ∃ l1, Ent.isL 125 σ4.rest = l1 := ⟨_, rfl⟩
            have Hl1 := Lib.hid (Ent.isL_len 125 σ4.rest)
            rw [hl1] at ho Hl1
            have his := reader_isc s r _ 125 125 rfl _ hsm (by decide) HE.out.rdr.at'
            rw [hl1] at his
            cases hb1 : Ent.isB 125 σ4.rest
            · rw [hb1] at his ho
              rw [if_neg (by simp)] at ho
              have His := Lib.hid his; clear his hl1 hb1
              obtain ⟨l2, hl2⟩ : ∃ l2, Ent.isL 44 l1 = l2 := ⟨_, rfl⟩
              have Hl2 := Lib.hid (Ent.isL_len 44 l1)
              rw [hl2] at ho Hl2
              have hmu := fun wx (hA : At s r wx l1) => reader_mustc s r l1 44 44 rfl wx hsm (by decide) hA
              rw [hl2] at hmu
              cases hb2 : Ent.isB 44 l1
              · rw [hb2] at hmu ho
                rw [if_neg (by simp)] at ho
                have Hmu := Lib.hid hmu; have Ho2 := Lib.hid ho; clear hmu hb2 hl2 ho
                go_wp2_with (first
                  | (go_at_call 65; with_reducible refine His.out.mono ?_; rintro e wx ⟨rfl, hA, hM⟩; have HE1 := Lib.hid (HE.out.moved (b' := b + 1) hM hA (Nat.add_le_add_right Hl1.out (b + 1))); have HF1 := Lib.hid (HF.out.next HE.out (hM.step m v4)); clear hA hM HE HF)
                  | (go_at_call 63; refine (Hmu.out _ HE1.out.rdr.at').mono ?_; rintro e wy ⟨he, hA, hM⟩; simp only [if_false, Bool.false_eq_true] at he; subst he))
                exact entry_dies ((HE1.out.mono (Nat.le_succ b)).moved (b' := b) hM hA (Nat.add_le_add_right Hl2.out b)) _ rfl rfl rfl o Ho2.out
              · rw [hb2] at hmu ho
                rw [if_pos rfl] at ho
                have Hmu := Lib.hid hmu; clear hmu hb2 hl2
                obtain ⟨l3, hl3⟩ : ∃ l3, Ent.isL 125 l2 = l3 := ⟨_, rfl⟩
                have Hl3 := Lib.hid (Ent.isL_len 125 l2)
                rw [hl3] at ho Hl3
                have hi2 := fun wx (hA : At s r wx l2) => reader_isc s r l2 125 125 rfl wx hsm (by decide) hA
                rw [hl3] at hi2
                go_upto_region 15 with (first
                  | (go_at_call 65; with_reducible refine His.out.mono ?_; rintro e wx ⟨rfl, hA, hM⟩; have HE1 := Lib.hid (HE.out.moved (b' := b + 1) hM hA (Nat.add_le_add_right Hl1.out (b + 1))); have HF1 := Lib.hid (HF.out.next HE.out (hM.step m v4)); clear hA hM HE HF)
                  | (go_at_call 63; refine (Hmu.out _ HE1.out.rdr.at').mono ?_; rintro e wy ⟨he, hA, hM⟩; simp only [if_true] at he; subst he; have HE2 := Lib.hid (HE1.out.moved (b' := b + 1) hM hA (Nat.add_le_add_right Hl2.out (b + 1))); have HF2 := Lib.hid (HF1.out.next HE1.out (hM.step m v4)); clear hA hM HE1 HF1))
                clear His Hmu
                cases hb3 : Ent.isB 125 l2
                · rw [hb3] at hi2 ho
                  rw [if_neg (by simp)] at ho
                  have Hi2 := Lib.hid hi2; clear hi2 hb3 hl3
                  obtain ⟨σ5, hs5⟩ : ∃ σ5, σ5 = σ4.at l3 := ⟨_, rfl⟩
                  rw [← hs5] at ho
                  have hN5 : Ent.NamesOk σ5 := by rw [hs5]; exact HN.out
                  have hr5 : σ5.rest.length ≤ σ4.rest.length := by rw [hs5]; show l3.length ≤ σ4.rest.length; have := Hl1.out; have := Hl2.out; have := Hl3.out; omega
                  have Hs5 := Lib.hid hs5; have HN5 := Lib.hid hN5; have Hr5 := Lib.hid hr5; clear hs5 hN5 hr5
                  go_upto_region 16 with (go_at_call 65; refine (Hi2.out _ HE2.out.rdr.at').mono ?_; rintro e wz ⟨rfl, hA, hM⟩; have HE3 := Lib.hid (HE2.out.moved (b' := b + 1) hM hA (Nat.add_le_add_right Hl3.out (b + 1))); have HF3 := Lib.hid (HF2.out.next HE2.out (hM.step m v4)); clear hA hM HE2 HF2)
                  have he4 : EIn s r m (b + 1) w v σ5 u y (.slice pv nv cv) false 0 wz v4 := by rw [Hs5.out]; exact HE3.out
                  have HE4 := Lib.hid he4; clear he4 HE3 Hi2 Hs5 Hl1 Hl2 Hl3 HN
                  cases hq : (Ent.mark σ5.rest).1 with
                  | none =>
                    rw [Ent.pair_bad1 σ5 hq] at ho
                    have Ho2 := Lib.hid ho; have Hq := Lib.hid hq; clear ho hq
                    have Hl := Lib.hid (Ent.mark_len σ5.rest)
                    go_wp2_with (go_at_call 62; refine (reader_mark s r _ _ hsm HE4.out.rdr.at').mono ?_; rintro e wa2 ⟨he, hA, hM⟩; simp only [said, Hq.out] at he; subst he)
                    exact entry_dies ((HE4.out.mono (Nat.le_succ b)).moved (b' := b) hM hA (Nat.add_le_add_right Hl.out b)) _ rfl rfl rfl o Ho2.out
                  | some nm =>
                    obtain ⟨_, hlt⟩ := Ent.mark_lt σ5.rest nm hq
                    have hnl := Ent.mark_tlen σ5.rest nm hq
                    have hrl : σ5.rest.length ≤ s.length := by obtain ⟨c, h, _⟩ := HE4.out.rdr.names; omega
                    have hnl2 : nm.length ≤ maxLen := by unfold maxLen; omega
                    obtain ⟨z, hz⟩ : ∃ z, Ent.small nm = z := ⟨_, rfl⟩
                    have hbud : (Ent.mark σ5.rest).2.length + (b + 2) ≤ σ5.rest.length + (b + 1) := by omega
                    have Hq := Lib.hid hq; have Hz := Lib.hid hz; have Hbud2 := Lib.hid hbud; have Hlt := Lib.hid hlt
                    clear hz hnl hrl hbud hlt
                    go_upto_region 17 with (first
                      | (go_at_call 62; refine (reader_mark s r _ _ hsm HE4.out.rdr.at').mono ?_; rintro e wa2 ⟨he, hA, hM⟩; simp only [said, Hq.out] at he; subst he; have HE5 := Lib.hid (HE4.out.moved (b' := b + 2) hM hA Hbud2.out); have HF5 := Lib.hid (HF3.out.next HE4.out (hM.step m v4)); clear hM hA HE4 HF3)
                      | (go_at_call 61; refine (entry_small nm _ hnl2).mono ?_; rintro e wb2 ⟨rfl, hb⟩; have HE6 := Lib.hid (HE5.out.below hb); have HF6 := Lib.hid (HF5.out.below hb); clear hb HE5 HF5; rw [Hz.out]))
                    obtain ⟨σ6, hs6⟩ : ∃ σ6, σ6 = σ5.at (Ent.mark σ5.rest).2 := ⟨_, rfl⟩
                    rw [← hs6] at HE6
                    have hr6 : σ6.rest = (Ent.mark σ5.rest).2 := by rw [hs6]; rfl
                    have hat : ∀ l, σ5.at l = σ6.at l := fun l => by rw [hs6]; rfl
                    have hN6 : Ent.NamesOk σ6 := by rw [hs6]; exact HN5.out
                    cases hb : Ent.isB 61 σ6.rest
                    · rw [Ent.pair_bad2 σ5 nm hq (by rw [← hr6]; exact hb), ← hr6, hat] at ho
                      have Ho2 := Lib.hid ho; have Hb := Lib.hid hb; clear ho hq hb hs6 hr6 hat
                      have Hl := Lib.hid (Ent.isL_len 61 σ6.rest)
                      go_wp2_with (go_at_call 63; refine (reader_mustc s r _ 61 61 rfl _ hsm (by decide) HE6.out.rdr.at').mono ?_; rintro e wc2 ⟨he, hA, hM⟩; simp only [Hb.out, if_false, Bool.false_eq_true] at he; subst he)
                      exact entry_dies ((HE6.out.mono (Nat.le_add_right b 2)).moved (b' := b) hM hA (Nat.add_le_add_right Hl.out b)) _ rfl rfl rfl o Ho2.out
                    · have Hb := Lib.hid hb
                      have Hl := Lib.hid (Ent.isL_len 61 σ6.rest)
                      obtain ⟨σ7, hs7⟩ : ∃ σ7, σ7 = σ6.at (Ent.isL 61 σ6.rest) := ⟨_, rfl⟩
                      have hp7 : σ5.at (Ent.isL 61 (Ent.mark σ5.rest).2) = σ7 := by rw [hs7, hr6.symm, hat]
                      have hN7 : Ent.NamesOk σ7 := by rw [hs7]; exact hN6
                      have hr7 : σ7.rest.length < σ5.rest.length := by
                        rw [hs7]; show (Ent.isL 61 σ6.rest).length < _
                        have h1 := Hl.out; have h2 := Hlt.out
                        rw [hr6] at h1 ⊢; omega
                      have Hs7 := Lib.hid hs7; have HN7 := Lib.hid hN7; have Hr7 := Lib.hid hr7
                      have hb2 : Ent.isB 61 (Ent.mark σ5.rest).2 = true := by rw [← hr6]; exact hb
                      clear hs7 hN7 hs6 hr6 hat hN6 hb HN5 hr7
                      go_upto_region 18 with (go_at_call 63; refine (reader_mustc s r _ 61 61 rfl _ hsm (by decide) HE6.out.rdr.at').mono ?_; rintro e wc2 ⟨he, hA, hM⟩; simp only [Hb.out, if_true] at he; subst he; have HE7 := Lib.hid (HE6.out.moved (b' := b + 2) hM hA (Nat.add_le_add_right Hl.out (b + 2))); rw [← Hs7.out] at HE7; have HF7 := Lib.hid (HF6.out.next HE6.out (hM.step m v4)); clear hM hA HE6 HF6)
                      clear Hl Hb Hs7
                      cases hv : (Ent.value σ7).1 with
                      | none =>
                        rw [Ent.pair_bad3 σ5 nm hq hb2 (by rw [hp7]; exact hv), hp7] at ho
                        have Ho2 := Lib.hid ho; have Hv := Lib.hid hv; clear ho hq hv hp7 hb2
                        go_wp2_with (go_at_call 64; refine (reader_value s r m (b + 2) σ7 v4 _ hs HN7.out HE7.out.rdr).mono ?_; rintro e wd2 ⟨he, v5, hR, hS⟩; simp only [said, Hv.out] at he; subst he)
                        exact entry_dies ((HE7.out.next hR hS).mono (Nat.le_add_right b 2)) _ rfl rfl rfl o Ho2.out
                      | some t =>
                        rw [Ent.pair_ok σ5 nm t hq hb2 (by rw [hp7]; exact hv), hp7] at ho
                        dsimp only at ho
                        rw [Hz.out] at ho
                        have Hv := Lib.hid hv; clear hq hv hp7 hb2
                        obtain ⟨σ8, hs8⟩ : ∃ σ8, σ8 = (Ent.value σ7).2 := ⟨_, rfl⟩
                        rw [← hs8] at ho
                        have Hs8 := Lib.hid hs8; clear hs8
                        have hN8 : Ent.NamesOk σ8 := by rw [Hs8.out]; unfold Ent.NamesOk; rw [Ent.value_names]; exact HN7.out
                        have hr8 : σ8.rest.length < σ4.rest.length := by
                          have h1 := Ent.value_len σ7; rw [← Hs8.out] at h1
                          have h2 := Hr7.out; have h3 := Hr5.out; omega
                        have HN8 := Lib.hid hN8; have Hr8 := Lib.hid hr8; clear hN8 hr8
                        cases hhas : (Ent.get fs z).2
                        · rw [hhas, if_neg (by simp)] at ho
                          have Ho2 := Lib.hid ho; have Hhas := Lib.hid hhas; clear ho hhas
                          obtain ⟨i0, hi, hz0, hz1, hz2⟩ := info_parts field_info
                          have Hi := Lib.hid hi; have Hz0 := Lib.hid hz0; have Hz1 := Lib.hid hz1; have Hz2 := Lib.hid hz2
                          have hcnt : fs.length ≤ 1000000000 := by have := Hbud.out; omega
                          clear hi hz0 hz1 hz2
                          go_upto_region 22 with (first
                            | (go_at_call 64; refine (reader_value s r m (b + 2) σ7 v4 _ hs HN7.out HE7.out.rdr).mono ?_; rintro e wd2 ⟨he, v5, hR, hS⟩; simp only [said, Hv.out] at he; subst he; have HE8 := Lib.hid (HE7.out.next hR hS); rw [← Hs8.out] at HE8; have HF8 := Lib.hid (HF7.out.next HE7.out hS); have k0 := HE8.out.res.k; have k1 := HE8.out.res.y; have k2 := HE8.out.res.vf; clear hR hS HE7 HF7)
                            | (go_at_call 27; refine (entry_get fs _ _ _ z _ _ HF8.out.slice).mono ?_; rintro e we2 ⟨rfl, hb⟩; have HE9 := Lib.hid (HE8.out.below hb); have HF9 := Lib.hid (HF8.out.below hb); clear hb HE8 HF8 k0 k1 k2; rw [Hhas.out]))
                          obtain ⟨fl, hown, hrep⟩ := HF9.out.row
                          have hbase : w.heap.size ≤ we2.heap.size := by have := HE9.out.res.lt; omega
                          have Hown := Lib.hid hown; have Hrep := Lib.hid hrep; clear hown hrep
                          have k2 := HE9.out.res.vf
                          go_wp2_with (at_builtin; go_loud (refine wpList_append1 rfl (.tmp 77) (.tmp 81) 25 rfl w.heap.size 50 i0 (.agg #[.string ⟨#[]⟩, .string ⟨#[]⟩]) 2 32 Tryz.underlying25 Hi.out Hz0.out Hz1.out Hz2.out (by rfl) (by decide) _ _ _ Hown.out rfl [.string ⟨z.toArray⟩, .string ⟨t.toArray⟩] rfl (by simp) rfl (by simp [Value.oneCell']) (by unfold maxLen; omega) (by omega) hbase ?_); intro v6 w6 own6 g6 at6; obtain ⟨p6, cap6, rfl, hp6, hq6⟩ := own6.form (Nat.succ_pos _); have HE10 := Lib.hid (HE9.out.appended HF9.out g6); have HF10 := Lib.hid (FIn.appended (f := ⟨z, t⟩) HE9.out HF9.out Hrep.out own6 at6); clear own6 g6 at6; have k6 := HE10.out.res.vf; have f6 := HE10.out.res.fk 2 (by decide))
                          have he := (HE10.out.wrote (died_put2 w6 w.heap.size (.slice (some ⟨p6, 0, none⟩) (fs.length + 1) cap6)) (HE10.out.res.put2 (.slice (some ⟨p6, 0, none⟩) (fs.length + 1) cap6))).mono (Nat.le_succ (b + 1))
                          have hf := HF10.out.died (died_put2 w6 w.heap.size (.slice (some ⟨p6, 0, none⟩) (fs.length + 1) cap6))
                          have h1 := Hr8.out; have h2 := Hbud.out; have h3 := Hn.out
                          refine ⟨⟨σ8, v5, _, fs ++ [⟨z, t⟩], n, he, hf, HN8.out, by rw [List.length_append]; simp; omega, by omega, Ho2.out⟩, ?_⟩
                          rw [he.rdr.at'.len, Hlen.out]
                          exact h1
                        · rw [hhas, if_pos rfl] at ho
                          have Ho2 := Lib.hid ho; have Hhas := Lib.hid hhas; clear ho hhas
                          go_wp2_with (first
                            | (go_at_call 64; refine (reader_value s r m (b + 2) σ7 v4 _ hs HN7.out HE7.out.rdr).mono ?_; rintro e wd2 ⟨he, v5, hR, hS⟩; simp only [said, Hv.out] at he; subst he; have HE8 := Lib.hid (HE7.out.next hR hS); rw [← Hs8.out] at HE8; have HF8 := Lib.hid (HF7.out.next HE7.out hS); have k0 := HE8.out.res.k; have k1 := HE8.out.res.y; have k2 := HE8.out.res.vf; clear hR hS HE7 HF7)
                            | (go_at_call 27; refine (entry_get fs _ _ _ z _ _ HF8.out.slice).mono ?_; rintro e we2 ⟨rfl, hb⟩; have HE9 := Lib.hid (HE8.out.below hb); have HF9 := Lib.hid (HF8.out.below hb); clear hb HE8 HF8 k0 k1 k2; rw [Hhas.out])
                            | (go_at_call 42; refine (reader_note s r m (b + 1) σ8 _ _ 12 z hs HE9.out.rdr).mono ?_; rintro e wf2 ⟨rfl, v6, hR, hS⟩; have HE10 := Lib.hid (HE9.out.next hR hS); have HF10 := Lib.hid (HF9.out.next HE9.out hS); clear hR hS HE9 HF9))
                          have h1 := Hr8.out; have h2 := Hbud.out; have h3 := Hn.out
                          refine ⟨⟨σ8.note 12 z, v6, _, fs, n, HE10.out, HF10.out, HN8.out, ?_, ?_, Ho2.out⟩, ?_⟩
                          · show fs.length + σ8.rest.length ≤ s.length; omega
                          · show σ8.rest.length < n; omega
                          · rw [HE10.out.rdr.at'.len, Hlen.out]
                            exact h1
                · rw [hb3] at hi2 ho
                  rw [if_pos rfl] at ho
                  have Hi2 := Lib.hid hi2; have Ho2 := Lib.hid ho; clear hi2 ho hb3 hl3
                  go_wp2_with (go_at_call 65; refine (Hi2.out _ HE2.out.rdr.at').mono ?_; rintro e wz ⟨rfl, hA, hM⟩; have HE3 := Lib.hid (HE2.out.moved (b' := b + 1) hM hA (Nat.add_le_add_right Hl3.out (b + 1))); have HF3 := Lib.hid (HF2.out.next HE2.out (hM.step m v4)); have h' := HE3.out.res; have k0 := h'.k; have k1 := h'.y; have k2 := h'.vf; have k3 := h'.is; have k4 : wz.cell? ⟨w.heap.size + 1 + 1, 0, none⟩ = some (.int .i64 0) := h'.e; have f0 := h'.fk 0 (by decide); have f1 := h'.fk 1 (by decide); have f2 := h'.fk 2 (by decide); have f3 := h'.fi; have f4 : wz.frozen? ⟨w.heap.size + 1 + 1, 0, none⟩ = false := h'.fe; clear hA hM h' HE2 HF2)
                  exact entry_done (HE3.out.mono (Nat.le_succ b)) HF3.out _ rfl rfl rfl o Ho2.out
            · rw [hb1] at his ho
              rw [if_pos rfl] at ho
              have His := Lib.hid his; have Ho2 := Lib.hid ho; clear his hl1 hb1 ho
              go_wp2_with (go_at_call 65; refine His.out.mono ?_; rintro e wx ⟨rfl, hA, hM⟩; have HE2 := Lib.hid (HE.out.moved (b' := b + 1) hM hA (Nat.add_le_add_right Hl1.out (b + 1))); have HF2 := Lib.hid (HF.out.next HE.out (hM.step m v4)); have h' := HE2.out.res; have k0 := h'.k; have k1 := h'.y; have k2 := h'.vf; have k3 := h'.is; have k4 : wx.cell? ⟨w.heap.size + 1 + 1, 0, none⟩ = some (.int .i64 0) := h'.e; have f0 := h'.fk 0 (by decide); have f1 := h'.fk 1 (by decide); have f2 := h'.fk 2 (by decide); have f3 := h'.fi; have f4 : wx.frozen? ⟨w.heap.size + 1 + 1, 0, none⟩ = false := h'.fe; clear hA hM h' HE HF)
              exact entry_done (HE2.out.mono (Nat.le_succ b)) HF2.out _ rfl rfl rfl o Ho2.out
end
section
open Go.RowKit
namespace Ent
theorem valueN_tlen : ∀ (n : Nat) (acc : List UInt8) (σ : RS) (t : List UInt8), (valueN n acc σ).1 = some t → t.length ≤ 1000
  | 0, _, _, _, h => by simp [valueN] at h
  | n + 1, acc, σ, t, h => by
    unfold valueN at h
    split at h
    · cases h
    · split at h
      · exact valueN_tlen n _ _ t h
      · cases h; simp; omega
theorem value_tlen (σ : RS) (t : List UInt8) (h : (value σ).1 = some t) : t.length ≤ 1000 := valueN_tlen _ _ _ t h
theorem pair_names (σ : RS) : (pair σ).2.names = σ.names := by
  unfold pair markS
  dsimp only
  split
  · rfl
  · split
    · split <;> exact value_names _
    · rfl
theorem pair_len (σ : RS) : (pair σ).2.rest.length ≤ σ.rest.length := by
  have h1 := mark_len σ.rest
  have h2 := isL_len 61 (mark σ.rest).2
  have h3 := value_len ((σ.at (mark σ.rest).2).at (isL 61 (σ.at (mark σ.rest).2).rest))
  have h4 : ((σ.at (mark σ.rest).2).at (isL 61 (σ.at (mark σ.rest).2).rest)).rest.length ≤ σ.rest.length := Nat.le_trans h2 h1
  unfold pair markS
  dsimp only
  split
  · exact h1
  · split
    · split <;> exact Nat.le_trans h3 h4
    · exact h4
theorem pair_tlen (σ : RS) (m t : List UInt8) (h : (pair σ).1 = some (m, t)) : t.length ≤ 1000 := by
  unfold pair at h
  split at h
  · cases h
  · split at h
    · split at h
      · cases h
      · rename_i t2 h2
        cases h
        exact value_tlen _ _ h2
    · cases h
theorem fieldsN_names : ∀ (n : Nat) (fs : List Fld) (σ : RS), (fieldsN n fs σ).2.names = σ.names
  | 0, _, _ => rfl
  | n + 1, fs, σ => by
    have h1 := pair_names (σ.at (isL 125 (isL 44 (isL 125 σ.rest))))
    unfold fieldsN
    split
    · rfl
    · split
      · split
        · rfl
        · split
          · exact h1
          · split
            · rw [fieldsN_names n]; exact h1
            · rw [fieldsN_names n]; exact h1
      · rfl
theorem fieldsN_len : ∀ (n : Nat) (fs : List Fld) (σ : RS), (fieldsN n fs σ).2.rest.length ≤ σ.rest.length
  | 0, _, _ => Nat.le_refl _
  | n + 1, fs, σ => by
    have a1 := isL_len 125 σ.rest
    have a2 := isL_len 44 (isL 125 σ.rest)
    have a3 := isL_len 125 (isL 44 (isL 125 σ.rest))
    have h1 : (pair (σ.at (isL 125 (isL 44 (isL 125 σ.rest))))).2.rest.length ≤ σ.rest.length := by
      have h2 : (pair (σ.at (isL 125 (isL 44 (isL 125 σ.rest))))).2.rest.length ≤ (isL 125 (isL 44 (isL 125 σ.rest))).length := pair_len _
      omega
    unfold fieldsN
    split
    · exact a1
    · split
      · split
        · show (isL 125 (isL 44 (isL 125 σ.rest))).length ≤ _; omega
        · split
          · exact h1
          · split
            · exact Nat.le_trans (fieldsN_len n _ _) h1
            · exact Nat.le_trans (fieldsN_len n _ _) h1
      · show (isL 44 (isL 125 σ.rest)).length ≤ _; omega
theorem entry_len (σ : RS) : (entry σ).2.rest.length ≤ σ.rest.length := by
  have h1 := mark_len σ.rest
  unfold entry
  split
  · exact h1
  · rename_i k _
    unfold entryB
    dsimp only
    have h2 := isL_len 123 (mark σ.rest).2
    split
    · split
      · unfold entryS
        have h3 : (pair (({ σ with rest := (mark σ.rest).2, kind := small k } : RS).at (isL 123 (mark σ.rest).2))).2.rest.length ≤ (isL 123 (mark σ.rest).2).length := pair_len _
        split
        · dsimp only; omega
        · have h4 := isL_len 125 (pair (({ σ with rest := (mark σ.rest).2, kind := small k } : RS).at (isL 123 (mark σ.rest).2))).2.rest
          split
          · show (isL 125 _).length ≤ _; omega
          · show (isL 125 _).length ≤ _; omega
      · unfold entryK
        have h3 : (mark (isL 123 (mark σ.rest).2)).2.length ≤ (isL 123 (mark σ.rest).2).length := mark_len _
        split
        · show (mark (isL 123 (mark σ.rest).2)).2.length ≤ _; omega
        · have h4 := fieldsN_len ((({ σ with rest := (mark σ.rest).2, kind := small k } : RS).at (isL 123 (mark σ.rest).2)).rest.length + 1) [] ((({ σ with rest := (mark σ.rest).2, kind := small k } : RS).at (isL 123 (mark σ.rest).2)).at (mark (isL 123 (mark σ.rest).2)).2)
          have h5 : ((({ σ with rest := (mark σ.rest).2, kind := small k } : RS).at (isL 123 (mark σ.rest).2)).at (mark (isL 123 (mark σ.rest).2)).2).rest.length ≤ σ.rest.length := by show (mark (isL 123 (mark σ.rest).2)).2.length ≤ _; omega
          split <;> exact Nat.le_trans h4 h5
    · show (isL 123 (mark σ.rest).2).length ≤ _; omega
theorem entry_names (σ : RS) (h : NamesOk σ) : NamesOk (entry σ).2 := by
  unfold entry
  split
  · exact h
  · rename_i k _
    unfold entryB
    dsimp only
    split
    · split
      · unfold entryS
        have h3 := pair_names (({ σ with rest := (mark σ.rest).2, kind := small k } : RS).at (isL 123 (mark σ.rest).2))
        split
        · unfold NamesOk; rw [h3]; exact h
        · rename_i m t hp
          have h4 := pair_tlen _ m t hp
          split
          · intro x t2 hx
            dsimp only at hx
            split at hx
            · cases hx; exact h4
            · rw [h3] at hx; exact h x t2 hx
          · unfold NamesOk
            show ∀ x t, (pair _).2.names x = some t → _
            rw [h3]; exact h
      · unfold entryK
        split
        · exact h
        · split
          · unfold NamesOk; dsimp only; rw [fieldsN_names]; exact h
          · unfold NamesOk; dsimp only; rw [fieldsN_names]; exact h
    · exact h
theorem entry_keylen (σ : RS) (x : Ent) (h : (entry σ).1 = some (some x)) : x.key.length ≤ σ.rest.length := by
  have h1 := mark_len σ.rest
  unfold entry at h
  split at h
  · cases h
  · unfold entryB at h
    dsimp only at h
    have h2 := isL_len 123 (mark σ.rest).2
    split at h
    · split at h
      · unfold entryS at h
        split at h
        · cases h
        · split at h <;> cases h
      · unfold entryK at h
        split at h
        · cases h
        · rename_i y hy
          have h3 : y.length ≤ (isL 123 (mark σ.rest).2).length := mark_tlen _ y hy
          split at h
          · cases h
          · injection h with h
            injection h with h
            rw [← h]
            show y.length ≤ _
            omega
    · cases h
end Ent
end
section
open Go.RowKit

theorem SliceIn.moved {α : Type} {S S' : Nat → Prop} {size : Nat} {R R' : α → List Value → Prop} {w w' : World} {v : Value} {xs : List α} (h : SliceIn S size R w v xs)
    (hs : ∀ b, S b → b < w.heap.size → S' b ∧ w'.heap[b]? = w.heap[b]?) (hz : w.heap.size ≤ w'.heap.size) (hR : ∀ x vs, x ∈ xs → R x vs → R' x vs) : SliceIn S' size R' w' v xs := by
  obtain ⟨p, cap, hv, h1, h2, h3⟩ := h
  refine ⟨p, cap, hv, h1, h2, fun i x hi => ?_⟩
  obtain ⟨b, off, vs, hp, hS, hlt, hr, hc⟩ := h3 i x hi
  exact ⟨b, off, vs, hp, (hs b hS hlt).1, Nat.lt_of_lt_of_le hlt hz, hR x vs (List.mem_of_getElem? hi) hr, fun j u hj => (World.cell?_of_block (hs b hS hlt).2).trans (hc j u hj)⟩
theorem REnt.moved {S S' : Nat → Prop} {w w' : World} {x : Ent.Ent} {vs : List Value} (h : REnt S w x vs) (hs : ∀ b, S b → b < w.heap.size → S' b ∧ w'.heap[b]? = w.heap[b]?) (hz : w.heap.size ≤ w'.heap.size) : REnt S' w' x vs := by
  obtain ⟨vf, rfl, h⟩ := h
  exact ⟨vf, rfl, h.moved hs hz (fun _ _ _ h => h)⟩
set_option maxRecDepth 100000 in
theorem IMap.run {w : World} {b n : Nat} {f : List UInt8 → Int} (h : IMap w b n f) (s : List UInt8) (hs : s.length ≤ maxLen) (c : Int) (hc : f s = c) :
    (Instr.lookup 72 (.map (some b)) (.string ⟨s.toArray⟩) false).run Tryz.prog w = .ok (.int .i64 c) w := by
  obtain ⟨D, h1, h2⟩ := h
  obtain ⟨d, hr, hat, _⟩ := h1.lookup_int skeyed Tryz.underlying72 Tryz.underlying3 (zero_int w) (skey s hs)
  rw [h2 s] at hat
  injection hat with hat
  injection hat with _ hat
  rw [hr, ← hc, hat]
/-- blocks of entries that were read -/
def OutS (q : Nat) (v vo : Value) (j : Nat) : Prop := q < j ∧ v.ownBlock ≠ some j ∧ vo.ownBlock ≠ some j
/-- the whole reading: q the block of the keys that were seen, vo what was read -/
structure PIn (s : List UInt8) (r m q b : Nat) (w : World) (σ : Ent.RS) (out : List Ent.Ent) (W : World) (v vo : Value) : Prop where
  rdr : Rdr s r m b W σ v
  below : Below w.heap.size w W
  mw : w.heap.size ≤ m
  rq : r < q
  seen : ∃ (cnt : Nat) (f : List UInt8 → Int), cnt + σ.rest.length + b ≤ s.length ∧ IMap W q cnt f ∧ ∀ key, (Ent.has out key = true → f key = 1) ∧ (Ent.has out key = false → f key = 0)
  rows : ∃ fl, W.ownsRow (q + 1) 27 3 vo out.length fl ∧ RepRow (REnt (OutS q v vo) W) out fl
  cnt : out.length + σ.rest.length + b ≤ s.length
  vq : v.ownBlock ≠ some q
  sep : ∀ j, vo.ownBlock = some j → v.ownBlock ≠ some j
  names : Ent.NamesOk σ
section
variable {s : List UInt8} {r m q b : Nat} {w : World} {σ : Ent.RS} {out : List Ent.Ent} {W : World} {v vo : Value}
/-- behind a step of the reader -/
theorem PIn.next (h : PIn s r m q b w σ out W v vo) {b' : Nat} {σ' : Ent.RS} {W' : World} {v' : Value} (hR : Rdr s r m b' W' σ' v') (hS : Step r m v v' W W') (hl : σ'.rest.length + b' ≤ σ.rest.length + b) (hN : Ent.NamesOk σ') :
    PIn s r m q b' w σ' out W' v' vo := by
  have hm := h.rdr.lt
  have hmw := h.mw
  have hrq := h.rq
  obtain ⟨cnt, f, h1, h2, h3⟩ := h.seen
  obtain ⟨fl, h4, h5⟩ := h.rows
  have hq := h2.lt
  have hcnt := h.cnt
  have hvq : v'.ownBlock ≠ some q := by
    rcases hS.own with e | ⟨g, e, hg⟩
    · rw [e]; exact h.vq
    · rw [e]; intro e2; injection e2 with e2; omega
  have hsep : ∀ j, vo.ownBlock = some j → v'.ownBlock ≠ some j := fun j hj => by
    rcases hS.own with e | ⟨g, e, hg⟩
    · rw [e]; exact h.sep j hj
    · rw [e]; intro e2; injection e2 with e2; have := (h4.lt j hj).2; omega
  refine ⟨hR, ?_, hmw, hrq, ⟨cnt, f, by omega, h2.kept (hS.block q hq (by omega) (by omega) h.vq), h3⟩, ⟨fl, own_same h4 (fun j hj => hS.block j (h4.lt j hj).2 (by have := (h4.lt j hj).1; omega) (by have := (h4.lt j hj).1; omega) (h.sep j hj)), ?_⟩, by omega, hvq, hsep, hN⟩
  · refine ⟨hS.os.trans h.below.os, hS.tape.trans h.below.tape, hS.output.trans h.below.output, Nat.le_trans h.below.size hS.size, fun k hk => ?_⟩
    have h6 := h.below.size
    refine (hS.block k (by omega) (by omega) (by omega) (fun e => ?_)).trans (h.below.block k hk)
    obtain ⟨fl2, h7, _⟩ := h.rdr.notes
    have := (h7.lt k e).1
    omega
  · refine h5.imp (fun x vs _ hx => hx.moved (fun j hj hlt => ⟨⟨hj.1, ?_, hj.2.2⟩, hS.block j hlt (by have := hj.1; omega) (by have := hj.1; omega) hj.2.1⟩) hS.size)
    rcases hS.own with e | ⟨g, e, hg⟩
    · rw [e]; exact hj.2.1
    · rw [e]; intro e2; injection e2 with e2; omega
theorem PIn.moved (h : PIn s r m q b w σ out W v vo) {W' : World} {l : List UInt8} (hM : Moved r W W') (hA : At s r W' l) {b' : Nat} (hb : l.length + b' ≤ σ.rest.length + b) : PIn s r m q b' w (σ.at l) out W' v vo :=
  h.next (h.rdr.moved hM hA hb) (hM.step m v) hb h.names
theorem PIn.belowW (h : PIn s r m q b w σ out W v vo) {W' : World} (hb : Below W.heap.size W W') : PIn s r m q b w σ out W' v vo := h.next (h.rdr.below hb) (Step.below hb r m v) (Nat.le_refl _) h.names
theorem PIn.mono (h : PIn s r m q b w σ out W v vo) {b' : Nat} (hb : b' ≤ b) : PIn s r m q b' w σ out W v vo := h.next (h.rdr.mono hb) (Step.refl r m v W) (by omega) h.names
/-- a key more that was seen, and its entry -/
theorem PIn.kept (h : PIn s r m q (b + 1) w σ out W v vo) {x : Ent.Ent} (hx : Ent.has out x.key = false) {W' : World} {f : List UInt8 → Int} {cnt : Nat} (hcnt : cnt + σ.rest.length + (b + 1) ≤ s.length)
    (hm : IMap W' q (cnt + 1) (fun t => if t = x.key then 1 else f t)) (hf : ∀ key, (Ent.has out key = true → f key = 1) ∧ (Ent.has out key = false → f key = 0)) (hg : W.grownBy W' (some q))
    {W'' : World} {vo' : Value} {fl vs : List Value} (hrow : RepRow (REnt (OutS q v vo) W) out fl) (hr : REnt (OutS q v vo) W x vs) (hown : W''.ownsRow (q + 1) 27 3 vo' (out.length + 1) (fl ++ vs)) (hg2 : W'.grownBy W'' vo.ownBlock)
    (hat : vo'.ownBlock = vo.ownBlock ∨ vo'.ownBlock = some (W'.heap.size + 1)) : PIn s r m q b w σ (out ++ [x]) W'' v vo' := by
  have hmr := h.rdr.lt
  have hmw := h.mw
  have hrq := h.rq
  obtain ⟨fl2, h7, _⟩ := h.rdr.notes
  obtain ⟨fl3, h8, _⟩ := h.rows
  have hz := hg.size
  have hr1 := h.rdr.at'.lt
  obtain ⟨_, _, _, hq1, _⟩ := h.seen
  have hql := hq1.lt
  have hvoq : ∀ j, j ≤ q → some j ≠ vo.ownBlock := fun j hj e => by have := (h8.lt j e.symm).1; omega
  have hall : ∀ j, j < W.heap.size → j ≠ q → vo.ownBlock ≠ some j → W''.heap[j]? = W.heap[j]? := fun j hj h1 h2 =>
    (hg2.block j (by omega) (fun e => h2 e.symm)).trans (hg.block j hj (fun e => h1 (by injection e)))
  have hz2 := hg2.size
  refine ⟨(h.rdr.mono (Nat.le_succ b)).same (hall r hr1 (by omega) (fun e => hvoq r (by omega) e.symm)) (hall m (by omega) (by omega) (fun e => hvoq m (by omega) e.symm)) (fun j hj => hall j (h7.lt j hj).2 (fun e => h.vq (by rw [← e]; exact hj)) (fun e => h.sep j e hj)) (by omega), ?_, hmw, hrq,
    ⟨cnt + 1, _, by omega, hm.kept (hg2.block q (by omega) (hvoq q (Nat.le_refl _))), fun key => ?_⟩, ⟨_, ?_, RepRow.snoc (x := x) (hr.moved ?_ (by omega)) (hrow.imp (fun y us _ hy => hy.moved ?_ (by omega)))⟩, ?_, h.vq, fun j hj => ?_, h.names⟩
  · refine ⟨hg2.os.trans (hg.os.trans h.below.os), hg2.tape.trans (hg.tape.trans h.below.tape), hg2.output.trans (hg.output.trans h.below.output), by have := h.below.size; omega, fun k hk => ?_⟩
    have := h.below.size
    exact (hall k (by omega) (by omega) (fun e => hvoq k (by omega) e.symm)).trans (h.below.block k hk)
  · have hhas : Ent.has (out ++ [x]) key = (Ent.has out key || (x.key == key)) := by unfold Ent.has; simp
    rw [hhas]
    by_cases hk : key = x.key
    · subst hk
      simp
    · have hne : (x.key == key) = false := by simp; exact fun e => hk e.symm
      rw [hne, Bool.or_false, if_neg hk]
      exact hf key
  · rw [List.length_append]; exact hown
  · intro j hj hlt
    refine ⟨⟨hj.1, hj.2.1, ?_⟩, hall j hlt (by have := hj.1; omega) hj.2.2⟩
    rcases hat with e | e
    · rw [e]; exact hj.2.2
    · rw [e]; intro e2; injection e2 with e2; omega
  · intro j hj hlt
    refine ⟨⟨hj.1, hj.2.1, ?_⟩, hall j hlt (by have := hj.1; omega) hj.2.2⟩
    rcases hat with e | e
    · rw [e]; exact hj.2.2
    · rw [e]; intro e2; injection e2 with e2; omega
  · have := h.cnt
    rw [List.length_append]
    show out.length + 1 + σ.rest.length + b ≤ s.length
    omega
  · rcases hat with e | e
    · rw [e] at hj; exact h.sep j hj
    · rw [e] at hj; injection hj with hj
      intro e2
      have := (h7.lt j e2).2
      omega
end
end
end Go.Proofs.YtanbcokkfbidbaaGreatDoor
