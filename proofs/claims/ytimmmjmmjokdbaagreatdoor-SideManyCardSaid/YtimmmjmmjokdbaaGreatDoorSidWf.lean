/- The walks of stetlaw10's own functions, fourth part: texts as they are handed in, cut. -/
import Derived.Test.YtimmmjmmjokdbaaGreatDoorSidWe
import Derived.Test.YtimmmjmmjokdbaaGreatDoorOpenG
set_option linter.unusedSimpArgs false
set_option linter.unusedVariables false
namespace Go.Proofs.YtimmmjmmjokdbaaGreatDoor
open Go.RowKit
def IStr (s : List UInt8) (vs : List Value) : Prop := vs = [.string ⟨s.toArray⟩] ∧ s.length ≤ maxLen
def cut80 (s : List UInt8) : List UInt8 := s.take 80
theorem cut_text8 (s : List UInt8) : ∃ q : Nat, min (s.length : Int) 80 = (q : Int) ∧ q ≤ s.length ∧ (q : Int) ≤ (s.length : Int) ∧ (⟨s.toArray⟩ : ByteArray).extract 0 q = ⟨(cut80 s).toArray⟩ := cut_textN 80 s
set_option maxRecDepth 100000 in
set_option maxHeartbeats 3200000 in
theorem law10_texts (l : List (List UInt8)) (p : Option Addr) (cap n : Nat) (w : World) (hE : OSl 1 IStr w p l) (hl : l.length ≤ maxLen) (hn : n ≤ 1000) :
    Calls Tryz.prog 22 #[.slice p l.length cap, .int .i64 (n : Int)] w fun e w' => ∃ v, e = .returned v ∧ OwnL w.heap.size 9 1 RStr w' v ((l.take n).map cut80) ∧ Below w.heap.size w w' := by
  have HE := Lib.hid hE; clear hE
  have hlm : l.length ≤ 9223372036854775807 := by unfold maxLen at hl; omega
  obtain ⟨i0, hi, hz0, hz1, hz2⟩ := info_parts str_info
  have Hi := Lib.hid hi; have Hz0 := Lib.hid hz0; have Hz1 := Lib.hid hz1; have Hz2 := Lib.hid hz2; clear hi hz0 hz1 hz2
  go_enter Tryz.func22, Tryz.ntmps22
  go_wp2_with fail
  go_loopw [5, 6] (fun v iv wr => ∃ k : Nat, k ≤ l.length ∧ k ≤ n ∧ iv = .int .i64 (k : Int) ∧ OwnL w.heap.size 9 1 RStr wr v ((l.take k).map cut80) ∧ Below w.heap.size w wr) (fun _ iv _ => l.length - (intOf iv).toNat)
  case atStart => exact ⟨0, Nat.zero_le _, Nat.zero_le _, rfl, OwnL.made _ _ _ _ _ (Nat.le_refl _), below_new w _⟩
  case round =>
    obtain ⟨k, hk, hkn, rfl, hO, hb⟩ := hrel
    have HO := Lib.hid hO; have Hb := Lib.hid hb
    clear hO hb
    by_cases hlt : k < l.length
    · by_cases hltn : k < n
      · obtain ⟨x, hx⟩ : ∃ x, l[k]? = some x := ⟨_, List.getElem?_eq_getElem hlt⟩
        obtain ⟨a, b, o, sp, vs, rfl, hadd, hbw, ⟨hR, hxl⟩, hcc⟩ := HE.out k x hx
        subst hR
        rw [Nat.mul_one] at hadd
        have e0 : wr.cell? ⟨b, o, sp⟩ = some (.string ⟨x.toArray⟩) := (Hb.out.cell (p := ⟨b, o, sp⟩) hbw).trans (hcc 0 _ rfl)
        obtain ⟨q, m1, m2, m3, m4⟩ := cut_text8 x
        have hlt' : (k : Int) < (l.length : Int) := by omega
        have hltn' : (k : Int) < (n : Int) := by omega
        have hkl : (k : Int) + 1 ≤ 9223372036854775807 := by omega
        have htk : (l.take (k + 1)).map cut80 = (l.take k).map cut80 ++ [cut80 x] := by rw [List.take_add_one, hx]; simp
        have htl : ((l.take k).map cut80).length ≤ 1000 := by rw [List.length_map, List.length_take]; omega
        obtain ⟨tk, htk0⟩ : ∃ tk, (l.take k).map cut80 = tk := ⟨_, rfl⟩
        rw [htk0] at HO htk htl
        have Htk := Lib.hid htk; have Hkl := Lib.hid hkl; have Hlt := Lib.hid hlt; have Hltn := Lib.hid hltn
        obtain ⟨fl, hown, hrep⟩ := HO.out
        obtain ⟨pv, capv, hfv⟩ := HO.out.form
        subst hfv
        have Hrep := Lib.hid hrep
        have hbz := Nat.lt_of_lt_of_le hbw Hb.out.size
        clear hcc hx htk hkl htk0 hrep
        go_upto_region 5 with fail
        have hS : (fun W : World => W.cell? ⟨b, o, sp⟩ = some (.string ⟨x.toArray⟩)) wr.drew := e0
        dsimp only at hS
        have hb8 : Below wr.heap.size wr wr.drew := (Below.refl _ _).drew
        have hown8 := own_below hown hb8
        have HB8 := Lib.hid (Hb.out.trans (hb8.mono Hb.out.size))
        have hbz8 : b < wr.drew.heap.size := hbz
        refine wp_region_any (by kernel_rfl) ?_
        change wpAny _ _ _ _ _ _ _ (World.drew _)
        generalize wr.drew = w8 at hS hown8 HB8 hbz8 ⊢
        have Hown := Lib.hid hown8
        clear e0 hown hown8 hb8
        refine wpAny_of_held (S := fun W => W.cell? ⟨b, o, sp⟩ = some (.string ⟨x.toArray⟩)) _ _ _ _ ?_
        refine wpAnyH_take (i := 0) (v := .slice pv tk.length capv) rfl (by kernel_rfl) (by kernel_rfl) (by kernel_rfl) (fun _ _ _ h => h) (Or.inl ⟨by kernel_rfl, fun W hW => by kernel_rfl⟩) (by assumption) ?_
        try simp only [Act.put, List.getElem_toArray, List.getElem_cons_zero, List.getElem_cons_succ, List.setIfInBounds_toArray, List.set_cons_zero, List.set_cons_succ]
        refine wpAnyH_take (i := 1) (v := .slice (some a) l.length cap) rfl (by kernel_rfl) (by kernel_rfl) (by kernel_rfl) (fun _ _ _ h => h) (Or.inl ⟨by kernel_rfl, fun W hW => by kernel_rfl⟩) (by assumption) ?_
        try simp only [Act.put, List.getElem_toArray, List.getElem_cons_zero, List.getElem_cons_succ, List.setIfInBounds_toArray, List.set_cons_zero, List.set_cons_succ]
        refine wpAnyH_take (i := 2) (v := .int .i64 (k : Int)) rfl (by kernel_rfl) (by kernel_rfl) (by kernel_rfl) (fun _ _ _ h => h) (Or.inl ⟨by kernel_rfl, fun W hW => by kernel_rfl⟩) (by assumption) ?_
        try simp only [Act.put, List.getElem_toArray, List.getElem_cons_zero, List.getElem_cons_succ, List.setIfInBounds_toArray, List.set_cons_zero, List.set_cons_succ]
        refine wpAnyH_take (i := 3) (v := .pointer (some ⟨b, o, sp⟩)) rfl (by kernel_rfl) (by kernel_rfl) (by kernel_rfl) (fun _ _ _ h => h) (Or.inl ⟨by kernel_rfl, fun W hW => by go_simp⟩) (by assumption) ?_
        try simp only [Act.put, List.getElem_toArray, List.getElem_cons_zero, List.getElem_cons_succ, List.setIfInBounds_toArray, List.set_cons_zero, List.set_cons_succ]
        refine wpAnyH_take (i := 4) (v := .string ⟨x.toArray⟩) rfl (by kernel_rfl) (by kernel_rfl) (by kernel_rfl) (fun _ _ _ h => h) (Or.inl ⟨by kernel_rfl, fun W hW => by have q1 := hW; go_simp⟩) (by assumption) ?_
        try simp only [Act.put, List.getElem_toArray, List.getElem_cons_zero, List.getElem_cons_succ, List.setIfInBounds_toArray, List.set_cons_zero, List.set_cons_succ]
        refine wpAnyH_take (i := 5) (v := .slice (some a) l.length cap) rfl (by kernel_rfl) (by kernel_rfl) (by kernel_rfl) (fun _ _ _ h => h) (Or.inl ⟨by kernel_rfl, fun W hW => by kernel_rfl⟩) (by assumption) ?_
        try simp only [Act.put, List.getElem_toArray, List.getElem_cons_zero, List.getElem_cons_succ, List.setIfInBounds_toArray, List.set_cons_zero, List.set_cons_succ]
        refine wpAnyH_take (i := 6) (v := .int .i64 (k : Int)) rfl (by kernel_rfl) (by kernel_rfl) (by kernel_rfl) (fun _ _ _ h => h) (Or.inl ⟨by kernel_rfl, fun W hW => by kernel_rfl⟩) (by assumption) ?_
        try simp only [Act.put, List.getElem_toArray, List.getElem_cons_zero, List.getElem_cons_succ, List.setIfInBounds_toArray, List.set_cons_zero, List.set_cons_succ]
        refine wpAnyH_take (i := 7) (v := .pointer (some ⟨b, o, sp⟩)) rfl (by kernel_rfl) (by kernel_rfl) (by kernel_rfl) (fun _ _ _ h => h) (Or.inl ⟨by kernel_rfl, fun W hW => by go_simp⟩) (by assumption) ?_
        try simp only [Act.put, List.getElem_toArray, List.getElem_cons_zero, List.getElem_cons_succ, List.setIfInBounds_toArray, List.set_cons_zero, List.set_cons_succ]
        refine wpAnyH_take (i := 8) (v := .string ⟨x.toArray⟩) rfl (by kernel_rfl) (by kernel_rfl) (by kernel_rfl) (fun _ _ _ h => h) (Or.inl ⟨by kernel_rfl, fun W hW => by have q1 := hW; go_simp⟩) (by assumption) ?_
        try simp only [Act.put, List.getElem_toArray, List.getElem_cons_zero, List.getElem_cons_succ, List.setIfInBounds_toArray, List.set_cons_zero, List.set_cons_succ]
        refine wpAnyH_take (i := 9) (v := .int .i64 (x.length : Int)) rfl (by kernel_rfl) (by kernel_rfl) (by kernel_rfl) (fun _ _ _ h => h) (Or.inl ⟨by kernel_rfl, fun W hW => by go_simp⟩) (by assumption) ?_
        try simp only [Act.put, List.getElem_toArray, List.getElem_cons_zero, List.getElem_cons_succ, List.setIfInBounds_toArray, List.set_cons_zero, List.set_cons_succ]
        refine wpAnyH_take (i := 10) (v := .int .i64 (q : Int)) rfl (by kernel_rfl) (by kernel_rfl) (by kernel_rfl) (fun _ _ _ h => h) (Or.inl ⟨by kernel_rfl, fun W hW => by go_simp⟩) (by assumption) ?_
        try simp only [Act.put, List.getElem_toArray, List.getElem_cons_zero, List.getElem_cons_succ, List.setIfInBounds_toArray, List.set_cons_zero, List.set_cons_succ]
        refine wpAnyH_take (i := 11) (v := .string ⟨(cut80 x).toArray⟩) rfl (by kernel_rfl) (by kernel_rfl) (by kernel_rfl) (fun _ _ _ h => h) (Or.inl ⟨by kernel_rfl, fun W hW => by go_simp⟩) (by assumption) ?_
        try simp only [Act.put, List.getElem_toArray, List.getElem_cons_zero, List.getElem_cons_succ, List.setIfInBounds_toArray, List.set_cons_zero, List.set_cons_succ]
        refine wpAnyH_ready (rs := [12]) (by kernel_rfl) (by simp) ?_
        refine AllReadyH.cons rfl (fun K hK => ?_) AllReadyH.nil
        go_simp
        refine hK.out _ _ (((below_new _ _).cell (p := ⟨b, o, sp⟩) hbz8).trans hS) (fun _ => ?_)
        clear K hK
        try simp only [Act.put, List.getElem_toArray, List.getElem_cons_zero, List.getElem_cons_succ, List.setIfInBounds_toArray, List.set_cons_zero, List.set_cons_succ]
        refine wpAnyH_ready (rs := [13]) (by kernel_rfl) (by simp) ?_
        refine AllReadyH.cons rfl (fun K hK => ?_) AllReadyH.nil
        rw [if_pos (by kernel_rfl)]
        refine wp_append1 (.tmp 19) (.tmp 31) 24 rfl w.heap.size 9 i0 (.string ⟨#[]⟩) 1 16 Tryz.underlying24 Hi.out Hz0.out Hz1.out Hz2.out (by rfl) (by decide) _ _ fl Hown.out rfl [.string ⟨(cut80 x).toArray⟩] rfl rfl rfl (by simp [Value.oneCell']) (by unfold maxLen; omega) (by omega) HB8.out.size ?_
        intro v2 w2 own2 g2 at2
        have Hown2 := Lib.hid own2; have Hg2 := Lib.hid g2
        replace hS := g2.cell (a := ⟨b, o, sp⟩) hS (fun e => by have := (Hown.out.lt b e.symm).1; omega)
        clear own2 g2 at2
        refine hK.out _ _ hS (fun _ => ?_)
        clear K hK
        try simp only [Act.put, List.getElem_toArray, List.getElem_cons_zero, List.getElem_cons_succ, List.setIfInBounds_toArray, List.set_cons_zero, List.set_cons_succ]
        refine wpAnyH_take (i := 14) (v := v2) rfl (by kernel_rfl) (by kernel_rfl) (by kernel_rfl) (fun _ _ _ h => h) (Or.inl ⟨by kernel_rfl, fun W hW => by kernel_rfl⟩) (by assumption) ?_
        try simp only [Act.put, List.getElem_toArray, List.getElem_cons_zero, List.getElem_cons_succ, List.setIfInBounds_toArray, List.set_cons_zero, List.set_cons_succ]
        refine wpAnyH_done (by kernel_rfl) ?_ _
        have HB9 := Lib.hid (HB8.out.grown Hg2.out HB8.out.size (fun q e => (Hown.out.lt q e).1))
        have hkl := Hkl.out
        clear hS hlt' hltn' m1 m2 m3 m4 hadd
        go_wp2_with fail
        go_roundw
        case rel => exact ⟨k + 1, by have := Hlt.out; omega, by have := Hltn.out; omega, by go_num, by rw [Htk.out]; exact OwnL.more Hrep.out rfl Hown2.out, HB9.out⟩
        case measure => have := Hlt.out; simp [intOf]; omega
      · have hlt' : (k : Int) < (l.length : Int) := by omega
        have hltn' : ¬ (k : Int) < (n : Int) := by omega
        have hkn2 : k = n := by omega
        subst hkn2
        clear hltn
        go_wp2_with fail
        go_ret
        refine ⟨_, rfl, ?_, Hb.out⟩
        have h := HO.out
        first | exact h | (rw [List.map_take] at h; exact h)
    · have hlt' : ¬ (k : Int) < (l.length : Int) := by omega
      have htk : l.take n = l.take k := by rw [List.take_of_length_le (by omega), List.take_of_length_le (by omega)]
      have Htk := Lib.hid htk
      clear htk
      go_wp2_with fail
      go_ret
      refine ⟨_, rfl, ?_, Hb.out⟩
      have h := HO.out
      rw [← Htk.out] at h
      first | exact h | (rw [List.map_take] at h; exact h)
end Go.Proofs.YtimmmjmmjokdbaaGreatDoor
