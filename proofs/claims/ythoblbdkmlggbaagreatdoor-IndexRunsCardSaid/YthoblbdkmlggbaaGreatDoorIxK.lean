/- The walk of stetlaw19.Cut. -/
import Derived.Test.YthoblbdkmlggbaaGreatDoorIxX
import Derived.Test.YthoblbdkmlggbaaGreatDoorOpenG
set_option linter.unusedSimpArgs false
set_option linter.unusedVariables false
namespace Go.Proofs.YthoblbdkmlggbaaGreatDoor
open Go.RowKit
def Ix.cut1 (x : Ix.En) : Ix.En := (x.1.take 60, x.2)
def Ix.cutE (l : List Ix.En) : List Ix.En := (l.take 30).map Ix.cut1
theorem Ix.cutE_len (l : List Ix.En) : (Ix.cutE l).length ≤ 30 := by unfold Ix.cutE; rw [List.length_map, List.length_take]; omega
theorem Ix.cutE_word (l : List Ix.En) : ∀ x ∈ Ix.cutE l, x.1.length ≤ 60 := by
  intro x hx
  unfold Ix.cutE at hx
  obtain ⟨y, _, rfl⟩ := List.mem_map.1 hx
  show (y.1.take 60).length ≤ 60
  rw [List.length_take]; omega
theorem Ix.cutE_snoc (l : List Ix.En) (k : Nat) (x : Ix.En) (h : l[k]? = some x) (hk : k < 30) : Ix.cutE (l.take (k + 1)) = Ix.cutE (l.take k) ++ [Ix.cut1 x] := by
  unfold Ix.cutE
  rw [List.take_take, List.take_take, show min 30 (k + 1) = k + 1 by omega, show min 30 k = k by omega, Ix.take_snoc l k x h, List.map_append]
  rfl
theorem Ix.cutE_take (l : List Ix.En) (k : Nat) (h : k = 30 ∨ k = l.length) : Ix.cutE (l.take k) = Ix.cutE l := by
  unfold Ix.cutE
  rw [List.take_take]
  rcases h with rfl | rfl
  · rfl
  · rcases Nat.le_total 30 l.length with h | h
    · rw [Nat.min_eq_left h]
    · rw [Nat.min_eq_right h, List.take_length, List.take_of_length_le h]
theorem own_below9 {w w' : World} {base e size n : Nat} {v : Value} {xs : List Value} (h : w.ownsRow base e size v n xs) (hb : Below w.heap.size w w') : w'.ownsRow base e size v n xs := own_at h (fun k e => hb.block k (World.ownsRow.lt h k e).2)
def IEn (x : Ix.En) (vs : List Value) : Prop := vs = [.string ⟨x.1.toArray⟩, .int .i64 x.2]
set_option maxRecDepth 100000 in
set_option maxHeartbeats 3200000 in
theorem law19_cut (p : Option Addr) (cap : Nat) (l : List Ix.En) (w : World) (hE : OSl 2 IEn w p l) (hlm : l.length ≤ maxLen) :
    Calls Tryz.prog 9 #[.slice p l.length cap] w fun e w' => ∃ va, e = .returned va ∧ OwnL w.heap.size 38 2 REn w' va (Ix.cutE l) ∧ Below w.heap.size w w' := by
  obtain ⟨i0, hi, hz0, hz1, hz2⟩ := info_parts en_info
  have Hi := Lib.hid hi; have Hz0 := Lib.hid hz0; have Hz1 := Lib.hid hz1; have Hz2 := Lib.hid hz2; clear hi hz0 hz1 hz2
  have Hat := Lib.hid hE
  clear hE
  have hO := Lib.hid (OwnL.made w.heap.size 38 2 REn w (Nat.le_refl _))
  have hB := Lib.hid (below_new w (.cells #[] 38))
  have Hlm := Lib.hid hlm; clear hlm
  go_enter Tryz.func9, Tryz.ntmps9
  go_wp2_with fail
  go_loopw [3, 4] (fun ov iv wr => ∃ k : Nat, k ≤ l.length ∧ k ≤ 30 ∧ iv = .int .i64 (k : Int) ∧ OwnL w.heap.size 38 2 REn wr ov (Ix.cutE (l.take k)) ∧ Below w.heap.size w wr) (fun _ iv _ => l.length - (intOf iv).toNat)
  case atStart => exact ⟨0, Nat.zero_le _, Nat.zero_le _, rfl, hO.out, hB.out⟩
  case round =>
    clear hO hB
    obtain ⟨k, hk, hk30, rfl, hO, hb⟩ := hrel
    obtain ⟨po, co, rfl⟩ := hO.form
    have HO := Lib.hid hO; have Hb := Lib.hid hb
    clear hO hb
    by_cases hlt : k < l.length
    · by_cases h30 : k < 30
      · obtain ⟨x, hx⟩ : ∃ x, l[k]? = some x := ⟨_, List.getElem?_eq_getElem hlt⟩
        have hsn := Ix.cutE_snoc l k x hx h30
        obtain ⟨L, hL⟩ : ∃ L, L = Ix.cutE (l.take k) := ⟨_, rfl⟩
        have hLn : L.length ≤ 30 := by rw [hL]; exact Ix.cutE_len _
        rw [← hL] at HO hsn ⊢
        obtain ⟨a, b, o, sp, vs, rfl, hadr, hbw, hR, hc⟩ := Hat.out k x hx
        have hR : vs = _ := hR
        subst hR
        obtain ⟨wd, pg⟩ := x
        have e0 : wr.cell? ⟨b, o, sp⟩ = some (.string ⟨wd.toArray⟩) := (Hb.out.cell (p := ⟨b, o, sp⟩) hbw).trans (hc 0 _ rfl)
        have e1 : wr.cell? ⟨b, o + 1, none⟩ = some (.int .i64 pg) := (Hb.out.cell (p := ⟨b, o + 1, none⟩) hbw).trans (hc 1 _ rfl)
        have Hw0 := Lib.hid (hc 0 _ rfl); have Hw1 := Lib.hid (hc 1 _ rfl); have Hbw := Lib.hid hbw
        have hlt' : (k : Int) < (l.length : Int) := by omega
        have h30' : (k : Int) < 30 := by omega
        obtain ⟨q, h1, h2, h3, h4⟩ := cut_textN 60 wd
        have hq0 : (0 : Int) ≤ (q : Int) := by omega
        have h5 : min (wd.length : Int) 60 = (q : Int) := by simpa using h1
        have hbr : b < wr.heap.size := by have := Hb.out.size; omega
        obtain ⟨fl, hown, hrep⟩ := HO.out
        have hnm : L.length + 1 ≤ maxLen := by unfold maxLen; omega
        have hn24 : (L.length + 1) * 24 ≤ 140737488355328 := by omega
        obtain ⟨k1, hk1⟩ : ∃ k1, k1 = k + 1 := ⟨_, rfl⟩
        have hwk : wrap64 ((k : Int) + 1) = (k1 : Int) := by unfold wrap64; omega
        have Hbr := Lib.hid hbr; have Hown := Lib.hid hown; have Hrep := Lib.hid hrep; have Hnm := Lib.hid hnm; have Hn24 := Lib.hid hn24; have E0 := Lib.hid e0; have E1 := Lib.hid e1; have Hsn := Lib.hid hsn; have Hlt := Lib.hid hlt; have H30 := Lib.hid h30; have Hk1 := Lib.hid hk1
        clear h1 hc hx hbw hbr hown hrep hnm hn24 e0 e1 hsn hlt h30 hL hLn hk1
        go_upto_region 5 with fail
        refine wp_region_any (by kernel_rfl) ?_
        change wpAny _ _ _ _ _ _ _ (World.drew _)
        have F0 := Lib.hid (show wr.drew.cell? ⟨b, o, sp⟩ = _ from E0.out); have F1 := Lib.hid (show wr.drew.cell? ⟨b, o + 1, none⟩ = _ from E1.out)
        have HOW := Lib.hid (own_below9 Hown.out (show Below wr.heap.size wr wr.drew from (Below.refl _ _).drew))
        have HBd := Lib.hid (Hb.out.drew)
        have HBr := Lib.hid (show b < wr.drew.heap.size from Hbr.out)
        clear E0 E1 Hown Hb Hbr HO
        generalize wr.drew = wd' at *
        have hS0 : Below wd'.heap.size wd' wd' := Below.refl _ _
        refine wpAny_of_held (S := fun W => W.cell? ⟨b, o, sp⟩ = some (.string ⟨wd.toArray⟩) ∧ W.cell? ⟨b, o + 1, none⟩ = some (.int .i64 pg)) _ _ _ _ ?_
        have hS1 : (fun W : World => W.cell? ⟨b, o, sp⟩ = some (.string ⟨wd.toArray⟩) ∧ W.cell? ⟨b, o + 1, none⟩ = some (.int .i64 pg)) wd' := ⟨F0.out, F1.out⟩
        dsimp only at hS1
        refine wpAnyH_take (i := 0) (v := .slice po L.length co) rfl (by kernel_rfl) (by kernel_rfl) (by kernel_rfl) (fun _ _ _ h => h) (Or.inl ⟨by kernel_rfl, fun W hW => by kernel_rfl⟩) (by assumption) ?_
        try simp only [Act.put, List.getElem_toArray, List.getElem_cons_zero, List.getElem_cons_succ, List.setIfInBounds_toArray, List.set_cons_zero, List.set_cons_succ]
        refine wpAnyH_take (i := 1) (v := .slice (some a) l.length cap) rfl (by kernel_rfl) (by kernel_rfl) (by kernel_rfl) (fun _ _ _ h => h) (Or.inl ⟨by kernel_rfl, fun W hW => by kernel_rfl⟩) (by assumption) ?_
        try simp only [Act.put, List.getElem_toArray, List.getElem_cons_zero, List.getElem_cons_succ, List.setIfInBounds_toArray, List.set_cons_zero, List.set_cons_succ]
        refine wpAnyH_take (i := 2) (v := .int .i64 (k : Int)) rfl (by kernel_rfl) (by kernel_rfl) (by kernel_rfl) (fun _ _ _ h => h) (Or.inl ⟨by kernel_rfl, fun W hW => by kernel_rfl⟩) (by assumption) ?_
        try simp only [Act.put, List.getElem_toArray, List.getElem_cons_zero, List.getElem_cons_succ, List.setIfInBounds_toArray, List.set_cons_zero, List.set_cons_succ]
        refine wpAnyH_take (i := 3) (v := .pointer (some ⟨b, o, sp⟩)) rfl (by kernel_rfl) (by kernel_rfl) (by kernel_rfl) (fun _ _ _ h => h) (Or.inl ⟨by kernel_rfl, fun W hW => by go_simp⟩) (by assumption) ?_
        try simp only [Act.put, List.getElem_toArray, List.getElem_cons_zero, List.getElem_cons_succ, List.setIfInBounds_toArray, List.set_cons_zero, List.set_cons_succ]
        refine wpAnyH_take (i := 4) (v := .pointer (some ⟨b, o, sp⟩)) rfl (by kernel_rfl) (by kernel_rfl) (by kernel_rfl) (fun _ _ _ h => h) (Or.inl ⟨by kernel_rfl, fun W hW => by go_simp⟩) (by assumption) ?_
        try simp only [Act.put, List.getElem_toArray, List.getElem_cons_zero, List.getElem_cons_succ, List.setIfInBounds_toArray, List.set_cons_zero, List.set_cons_succ]
        refine wpAnyH_take (i := 5) (v := .string ⟨wd.toArray⟩) rfl (by kernel_rfl) (by kernel_rfl) (by kernel_rfl) (fun _ _ _ h => h) (Or.inl ⟨by kernel_rfl, fun W hW => by (obtain ⟨hW0, hW1⟩ := hW; go_simp)⟩) (by assumption) ?_
        try simp only [Act.put, List.getElem_toArray, List.getElem_cons_zero, List.getElem_cons_succ, List.setIfInBounds_toArray, List.set_cons_zero, List.set_cons_succ]
        refine wpAnyH_take (i := 6) (v := .slice (some a) l.length cap) rfl (by kernel_rfl) (by kernel_rfl) (by kernel_rfl) (fun _ _ _ h => h) (Or.inl ⟨by kernel_rfl, fun W hW => by kernel_rfl⟩) (by assumption) ?_
        try simp only [Act.put, List.getElem_toArray, List.getElem_cons_zero, List.getElem_cons_succ, List.setIfInBounds_toArray, List.set_cons_zero, List.set_cons_succ]
        refine wpAnyH_take (i := 7) (v := .int .i64 (k : Int)) rfl (by kernel_rfl) (by kernel_rfl) (by kernel_rfl) (fun _ _ _ h => h) (Or.inl ⟨by kernel_rfl, fun W hW => by kernel_rfl⟩) (by assumption) ?_
        try simp only [Act.put, List.getElem_toArray, List.getElem_cons_zero, List.getElem_cons_succ, List.setIfInBounds_toArray, List.set_cons_zero, List.set_cons_succ]
        refine wpAnyH_take (i := 8) (v := .pointer (some ⟨b, o, sp⟩)) rfl (by kernel_rfl) (by kernel_rfl) (by kernel_rfl) (fun _ _ _ h => h) (Or.inl ⟨by kernel_rfl, fun W hW => by go_simp⟩) (by assumption) ?_
        try simp only [Act.put, List.getElem_toArray, List.getElem_cons_zero, List.getElem_cons_succ, List.setIfInBounds_toArray, List.set_cons_zero, List.set_cons_succ]
        refine wpAnyH_take (i := 9) (v := .pointer (some ⟨b, o, sp⟩)) rfl (by kernel_rfl) (by kernel_rfl) (by kernel_rfl) (fun _ _ _ h => h) (Or.inl ⟨by kernel_rfl, fun W hW => by go_simp⟩) (by assumption) ?_
        try simp only [Act.put, List.getElem_toArray, List.getElem_cons_zero, List.getElem_cons_succ, List.setIfInBounds_toArray, List.set_cons_zero, List.set_cons_succ]
        refine wpAnyH_take (i := 10) (v := .string ⟨wd.toArray⟩) rfl (by kernel_rfl) (by kernel_rfl) (by kernel_rfl) (fun _ _ _ h => h) (Or.inl ⟨by kernel_rfl, fun W hW => by (obtain ⟨hW0, hW1⟩ := hW; go_simp)⟩) (by assumption) ?_
        try simp only [Act.put, List.getElem_toArray, List.getElem_cons_zero, List.getElem_cons_succ, List.setIfInBounds_toArray, List.set_cons_zero, List.set_cons_succ]
        refine wpAnyH_take (i := 11) (v := .int .i64 (wd.length : Int)) rfl (by kernel_rfl) (by kernel_rfl) (by kernel_rfl) (fun _ _ _ h => h) (Or.inl ⟨by kernel_rfl, fun W hW => by go_simp⟩) (by assumption) ?_
        try simp only [Act.put, List.getElem_toArray, List.getElem_cons_zero, List.getElem_cons_succ, List.setIfInBounds_toArray, List.set_cons_zero, List.set_cons_succ]
        refine wpAnyH_take (i := 12) (v := .int .i64 (q : Int)) rfl (by kernel_rfl) (by kernel_rfl) (by kernel_rfl) (fun _ _ _ h => h) (Or.inl ⟨by kernel_rfl, fun W hW => by go_simp⟩) (by assumption) ?_
        try simp only [Act.put, List.getElem_toArray, List.getElem_cons_zero, List.getElem_cons_succ, List.setIfInBounds_toArray, List.set_cons_zero, List.set_cons_succ]
        refine wpAnyH_take (i := 13) (v := .string ⟨(wd.take 60).toArray⟩) rfl (by kernel_rfl) (by kernel_rfl) (by kernel_rfl) (fun _ _ _ h => h) (Or.inl ⟨by kernel_rfl, fun W hW => by go_simp⟩) (by assumption) ?_
        try simp only [Act.put, List.getElem_toArray, List.getElem_cons_zero, List.getElem_cons_succ, List.setIfInBounds_toArray, List.set_cons_zero, List.set_cons_succ]
        refine wpAnyH_take (i := 14) (v := .slice (some a) l.length cap) rfl (by kernel_rfl) (by kernel_rfl) (by kernel_rfl) (fun _ _ _ h => h) (Or.inl ⟨by kernel_rfl, fun W hW => by kernel_rfl⟩) (by assumption) ?_
        try simp only [Act.put, List.getElem_toArray, List.getElem_cons_zero, List.getElem_cons_succ, List.setIfInBounds_toArray, List.set_cons_zero, List.set_cons_succ]
        refine wpAnyH_take (i := 15) (v := .int .i64 (k : Int)) rfl (by kernel_rfl) (by kernel_rfl) (by kernel_rfl) (fun _ _ _ h => h) (Or.inl ⟨by kernel_rfl, fun W hW => by kernel_rfl⟩) (by assumption) ?_
        try simp only [Act.put, List.getElem_toArray, List.getElem_cons_zero, List.getElem_cons_succ, List.setIfInBounds_toArray, List.set_cons_zero, List.set_cons_succ]
        refine wpAnyH_take (i := 16) (v := .pointer (some ⟨b, o, sp⟩)) rfl (by kernel_rfl) (by kernel_rfl) (by kernel_rfl) (fun _ _ _ h => h) (Or.inl ⟨by kernel_rfl, fun W hW => by go_simp⟩) (by assumption) ?_
        try simp only [Act.put, List.getElem_toArray, List.getElem_cons_zero, List.getElem_cons_succ, List.setIfInBounds_toArray, List.set_cons_zero, List.set_cons_succ]
        refine wpAnyH_take (i := 17) (v := .pointer (some ⟨b, o + 1, none⟩)) rfl (by kernel_rfl) (by kernel_rfl) (by kernel_rfl) (fun _ _ _ h => h) (Or.inl ⟨by kernel_rfl, fun W hW => by go_simp⟩) (by assumption) ?_
        try simp only [Act.put, List.getElem_toArray, List.getElem_cons_zero, List.getElem_cons_succ, List.setIfInBounds_toArray, List.set_cons_zero, List.set_cons_succ]
        refine wpAnyH_take (i := 18) (v := .int .i64 pg) rfl (by kernel_rfl) (by kernel_rfl) (by kernel_rfl) (fun _ _ _ h => h) (Or.inl ⟨by kernel_rfl, fun W hW => by (obtain ⟨hW0, hW1⟩ := hW; go_simp)⟩) (by assumption) ?_
        try simp only [Act.put, List.getElem_toArray, List.getElem_cons_zero, List.getElem_cons_succ, List.setIfInBounds_toArray, List.set_cons_zero, List.set_cons_succ]
        refine wpAnyH_take (i := 19) (v := .agg #[.string ⟨(wd.take 60).toArray⟩, .int .i64 pg]) rfl (by kernel_rfl) (by kernel_rfl) (by kernel_rfl) (fun _ _ _ h => h) (Or.inl ⟨by kernel_rfl, fun W hW => by kernel_rfl⟩) (by assumption) ?_
        try simp only [Act.put, List.getElem_toArray, List.getElem_cons_zero, List.getElem_cons_succ, List.setIfInBounds_toArray, List.set_cons_zero, List.set_cons_succ]
        refine wpAnyH_ready (rs := [20]) (by kernel_rfl) (by simp) ?_
        refine AllReadyH.cons rfl (fun K hK => ?_) AllReadyH.nil
        go_simp
        have hbn := below_new wd' (.cells #[.string ⟨(wd.take 60).toArray⟩, .int .i64 pg] 38)
        refine hK.out _ _ ⟨(hbn.cell (p := ⟨b, o, sp⟩) HBr.out).trans hS1.1, (hbn.cell (p := ⟨b, o + 1, none⟩) HBr.out).trans hS1.2⟩ (fun _ => ?_)
        clear K hK
        try simp only [Act.put, List.getElem_toArray, List.getElem_cons_zero, List.getElem_cons_succ, List.setIfInBounds_toArray, List.set_cons_zero, List.set_cons_succ]
        refine wpAnyH_ready (rs := [21]) (by kernel_rfl) (by simp) ?_
        refine AllReadyH.cons rfl (fun K hK => ?_) AllReadyH.nil
        rw [if_pos (by rfl)]
        refine op_append1 (.tmp 16) (.tmp 36) 23 rfl w.heap.size 38 i0 (.agg #[.string ⟨#[]⟩, .int .i64 0]) 2 24 Tryz.underlying23 Hi.out Hz0.out Hz1.out Hz2.out rfl (by decide) _ _ _ HOW.out rfl [.string ⟨(wd.take 60).toArray⟩, .int .i64 pg] rfl rfl rfl (by simp [Value.oneCell']) Hnm.out Hn24.out HBd.out.size ?_
        intro v2 w2 own2 g2 at2
        obtain ⟨p2, cap2, hv2, _⟩ := own2.form (Nat.succ_pos _)
        subst hv2
        have HB9 := Lib.hid (HBd.out.grown g2 HBd.out.size (fun q e => (World.ownsRow.lt HOW.out q e).1))
        refine hK.out _ _ ⟨(HB9.out.cell (p := ⟨b, o, sp⟩) Hbw.out).trans Hw0.out, (HB9.out.cell (p := ⟨b, o + 1, none⟩) Hbw.out).trans Hw1.out⟩ (fun _ => ?_)
        clear K hK
        try simp only [Act.put, List.getElem_toArray, List.getElem_cons_zero, List.getElem_cons_succ, List.setIfInBounds_toArray, List.set_cons_zero, List.set_cons_succ]
        refine wpAnyH_take (i := 22) (v := .slice (some ⟨p2, 0, none⟩) (L.length + 1) cap2) rfl (by kernel_rfl) (by kernel_rfl) (by kernel_rfl) (fun _ _ _ h => h) (Or.inl ⟨by kernel_rfl, fun W hW => by kernel_rfl⟩) (by assumption) ?_
        try simp only [Act.put, List.getElem_toArray, List.getElem_cons_zero, List.getElem_cons_succ, List.setIfInBounds_toArray, List.set_cons_zero, List.set_cons_succ]
        refine wpAnyH_done (by kernel_rfl) ?_ _
        clear hS0 hS1 hbn
        go_wp2_with fail
        go_roundw
        case rel =>
          refine ⟨k1, by have := Hlt.out; have := Hk1.out; omega, by have := H30.out; have := Hk1.out; omega, congrArg (Value.int .i64) (by have := Hk1.out; omega), ?_, HB9.out⟩
          rw [Hk1.out, Hsn.out]
          exact ⟨_, by rw [List.length_append]; exact own2, RepRow.snoc (R := REn) (x := Ix.cut1 (wd, pg)) (vs := [.string ⟨(wd.take 60).toArray⟩, .int .i64 pg]) rfl Hrep.out⟩
        case measure => have := Hlt.out; simp [intOf]; omega
      · have he : k = 30 := by omega
        subst he
        have ht := Ix.cutE_take l 30 (.inl rfl)
        have Ht := Lib.hid ht
        have hlt' : (30 : Int) < (l.length : Int) := by omega
        clear ht hlt h30 hk hk30
        go_wp2_with fail
        go_ret
        exact ⟨_, rfl, Ht.out ▸ HO.out, Hb.out⟩
    · have he : k = l.length := by omega
      subst he
      have Ht := Lib.hid (Ix.cutE_take l l.length (.inr rfl))
      clear hlt hk hk30
      go_wp2_with fail
      go_ret
      exact ⟨_, rfl, Ht.out ▸ HO.out, Hb.out⟩
end Go.Proofs.YthoblbdkmlggbaaGreatDoor
