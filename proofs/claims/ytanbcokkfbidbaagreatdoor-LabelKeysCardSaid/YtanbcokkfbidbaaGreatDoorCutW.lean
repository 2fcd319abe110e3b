/- The walk of stetlaw15.Cut: entries as they are handed in, cut. -/
import Derived.Test.YtanbcokkfbidbaaGreatDoorRefsW
set_option linter.unusedSimpArgs false
set_option linter.unusedVariables false
namespace Go.Proofs.YtanbcokkfbidbaaGreatDoor
open Go.RowKit
/-- fields and entries as they are handed in -/
def OFld (w : World) (p : Option Addr) (fs : List Ent.Fld) : Prop := ∀ j f, fs[j]? = some f → ∃ (a : Addr) (b o : Nat) (sp : Option Nat), p = some a ∧ a.add (j * 2) = ⟨b, o, sp⟩ ∧ b < w.heap.size ∧ w.cell? ⟨b, o, sp⟩ = some (.string ⟨f.name.toArray⟩) ∧ w.cell? ⟨b, o + 1, none⟩ = some (.string ⟨f.text.toArray⟩) ∧ f.name.length ≤ maxLen ∧ f.text.length ≤ maxLen
def OEnt (w : World) (p : Option Addr) (l : List Ent.Ent) : Prop := ∀ i x, l[i]? = some x → ∃ (a : Addr) (b o : Nat) (sp pf : _) (cf : Nat), p = some a ∧ a.add (i * 3) = ⟨b, o, sp⟩ ∧ b < w.heap.size ∧ w.cell? ⟨b, o, sp⟩ = some (.string ⟨x.kind.toArray⟩) ∧ w.cell? ⟨b, o + 1, none⟩ = some (.string ⟨x.key.toArray⟩) ∧ w.cell? ⟨b, o + 2, none⟩ = some (.slice pf x.fields.length cf) ∧
  x.kind.length ≤ maxLen ∧ x.key.length ≤ maxLen ∧ x.fields.length ≤ maxLen ∧ OFld w pf x.fields
namespace Ent
def cutF (f : Fld) : Fld := ⟨f.name.take 80, f.text.take 80⟩
def cut1 (x : Ent) : Ent := ⟨x.kind.take 80, x.key.take 80, (x.fields.take 6).map cutF⟩
def cutL (l : List Ent) (n : Nat) : List Ent := (l.take n).map cut1
end Ent
theorem efield_info : (Tryz.prog.info? 50).map (fun i => (i.zero, i.size, i.bytes)) = some (some (.agg #[.string ⟨#[]⟩, .string ⟨#[]⟩]), 2, 32) := by kernel_rfl
theorem eent_info : (Tryz.prog.info? 27).map (fun i => (i.zero, i.size, i.bytes)) = some (some (.agg #[.string ⟨#[]⟩, .string ⟨#[]⟩, .slice none 0 0]), 3, 56) := by kernel_rfl
theorem cut_text (s : List UInt8) : ∃ q : Nat, min (s.length : Int) 80 = (q : Int) ∧ q ≤ s.length ∧ (q : Int) ≤ (s.length : Int) ∧ (⟨s.toArray⟩ : ByteArray).extract 0 q = ⟨(s.take 80).toArray⟩ := by
  refine ⟨min s.length 80, by omega, by omega, by omega, ?_⟩
  rw [extract_any]
  congr 2
  simp only [List.drop_zero, Nat.sub_zero]
  rcases Nat.le_total s.length 80 with h | h
  · rw [Nat.min_eq_left h, List.take_of_length_le (Nat.le_refl _), List.take_of_length_le h]
  · rw [Nat.min_eq_right h]
theorem add_blk (a : Addr) (i : Nat) : (a.add i).block = a.block := by unfold Addr.add; split <;> rfl

set_option maxRecDepth 100000 in
set_option maxHeartbeats 3200000 in
theorem law_cut (l : List Ent.Ent) (p : Option Addr) (cap n : Nat) (w : World) (hE : OEnt w p l) (hl : l.length ≤ maxLen) (hn : n ≤ 1000) :
    Calls Tryz.prog 6 #[.slice p l.length cap, .int .i64 (n : Int)] w fun e w' => ∃ vo, e = .returned vo ∧ Outs w.heap.size 27 w' vo (Ent.cutL l n) ∧ Below w.heap.size w w' := by
  have HE := Lib.hid hE; clear hE
  have hlm : l.length ≤ 9223372036854775807 := by unfold maxLen at hl; omega
  go_enter Tryz.func6, Tryz.ntmps6
  go_wp2_with fail
  go_loopw [5, 6] (fun vo i wr => ∃ k : Nat, k ≤ l.length ∧ k ≤ n ∧ i = .int .i64 (k : Int) ∧ Outs w.heap.size 27 wr vo ((l.take k).map Ent.cut1) ∧ Below w.heap.size w wr) (fun _ i _ => l.length - (intOf i).toNat)
  case atStart => exact ⟨0, Nat.zero_le _, Nat.zero_le _, rfl, ⟨[], own_built w _ _ 3 0 [] (Nat.le_refl _) rfl (by unfold maxLen; omega), rfl⟩, below_new w _⟩
  case round =>
    obtain ⟨k, hk, hkn, rfl, hO, hb⟩ := hrel
    have HO := Lib.hid hO; have Hb := Lib.hid hb; clear hO hb
    by_cases hlt : k < l.length
    · by_cases hltn : k < n
      · obtain ⟨x, hx⟩ : ∃ x, l[k]? = some x := ⟨_, List.getElem?_eq_getElem hlt⟩
        obtain ⟨a, b, o, sp, pf, cf, rfl, hadd, hbw, e0, e1, e2, hm0, hm1, hm2, hF⟩ := HE.out k x hx
        have hzo := Hb.out.size
        have e0 : wr.cell? ⟨b, o, sp⟩ = some (.string ⟨x.kind.toArray⟩) := (Hb.out.cell (p := ⟨b, o, sp⟩) hbw).trans e0
        have e1 : wr.cell? ⟨b, o + 1, none⟩ = some (.string ⟨x.key.toArray⟩) := (Hb.out.cell (p := ⟨b, o + 1, none⟩) hbw).trans e1
        have e2 : wr.cell? ⟨b, o + 2, none⟩ = some (.slice pf x.fields.length cf) := (Hb.out.cell (p := ⟨b, o + 2, none⟩) hbw).trans e2
        obtain ⟨qk, mk1, mk2, mk3, mk4⟩ := cut_text x.kind
        obtain ⟨qy, my1, my2, my3, my4⟩ := cut_text x.key
        have hlt' : (k : Int) < (l.length : Int) := by omega
        have hltn' : (k : Int) < (n : Int) := by omega
        have hkl : (k : Int) + 1 ≤ 9223372036854775807 := by omega
        have Hx := Lib.hid hx; have HFr := Lib.hid hF; have E2 := Lib.hid e2; have Hm2 := Lib.hid hm2
        clear hx hF hm2
        go_upto_region 5 with fail
        have Hkn := Lib.hid (show k + 1 ≤ n by omega)
        clear hltn hltn' hkn
        obtain ⟨wo, hwo⟩ : ∃ wo, wo = wr := ⟨_, rfl⟩
        subst hwo
        refine wp_region_any (by kernel_rfl) ?_
        change wpAny _ _ _ _ _ _ _ (World.drew _)
        have hS : (fun W : World => W.cell? ⟨b, o, sp⟩ = some (.string ⟨x.kind.toArray⟩) ∧ W.cell? ⟨b, o + 1, none⟩ = some (.string ⟨x.key.toArray⟩)) wo.drew := ⟨e0, e1⟩
        dsimp only at hS
        refine wpAny_of_held (S := fun W => W.cell? ⟨b, o, sp⟩ = some (.string ⟨x.kind.toArray⟩) ∧ W.cell? ⟨b, o + 1, none⟩ = some (.string ⟨x.key.toArray⟩)) _ _ _ _ ?_
        refine wpAnyH_take (i := 0) (v := .slice (some a) l.length cap) rfl (by kernel_rfl) (by kernel_rfl) (by kernel_rfl) (fun _ _ _ h => h) (Or.inl ⟨by kernel_rfl, fun W hW => by kernel_rfl⟩) (by assumption) ?_
        try simp only [Act.put, List.getElem_toArray, List.getElem_cons_zero, List.getElem_cons_succ, List.setIfInBounds_toArray, List.set_cons_zero, List.set_cons_succ]
        refine wpAnyH_take (i := 1) (v := .int .i64 (k : Int)) rfl (by kernel_rfl) (by kernel_rfl) (by kernel_rfl) (fun _ _ _ h => h) (Or.inl ⟨by kernel_rfl, fun W hW => by kernel_rfl⟩) (by assumption) ?_
        try simp only [Act.put, List.getElem_toArray, List.getElem_cons_zero, List.getElem_cons_succ, List.setIfInBounds_toArray, List.set_cons_zero, List.set_cons_succ]
        refine wpAnyH_take (i := 2) (v := .pointer (some ⟨b, o, sp⟩)) rfl (by kernel_rfl) (by kernel_rfl) (by kernel_rfl) (fun _ _ _ h => h) (Or.inl ⟨by kernel_rfl, fun W hW => by go_simp⟩) (by assumption) ?_
        try simp only [Act.put, List.getElem_toArray, List.getElem_cons_zero, List.getElem_cons_succ, List.setIfInBounds_toArray, List.set_cons_zero, List.set_cons_succ]
        refine wpAnyH_take (i := 3) (v := .pointer (some ⟨b, o, sp⟩)) rfl (by kernel_rfl) (by kernel_rfl) (by kernel_rfl) (fun _ _ _ h => h) (Or.inl ⟨by kernel_rfl, fun W hW => by go_simp⟩) (by assumption) ?_
        try simp only [Act.put, List.getElem_toArray, List.getElem_cons_zero, List.getElem_cons_succ, List.setIfInBounds_toArray, List.set_cons_zero, List.set_cons_succ]
        refine wpAnyH_take (i := 4) (v := .string ⟨x.kind.toArray⟩) rfl (by kernel_rfl) (by kernel_rfl) (by kernel_rfl) (fun _ _ _ h => h) (Or.inl ⟨by kernel_rfl, fun W hW => by obtain ⟨hW0, hW1⟩ := hW; go_simp⟩) (by assumption) ?_
        try simp only [Act.put, List.getElem_toArray, List.getElem_cons_zero, List.getElem_cons_succ, List.setIfInBounds_toArray, List.set_cons_zero, List.set_cons_succ]
        refine wpAnyH_take (i := 5) (v := .slice (some a) l.length cap) rfl (by kernel_rfl) (by kernel_rfl) (by kernel_rfl) (fun _ _ _ h => h) (Or.inl ⟨by kernel_rfl, fun W hW => by kernel_rfl⟩) (by assumption) ?_
        try simp only [Act.put, List.getElem_toArray, List.getElem_cons_zero, List.getElem_cons_succ, List.setIfInBounds_toArray, List.set_cons_zero, List.set_cons_succ]
        refine wpAnyH_take (i := 6) (v := .int .i64 (k : Int)) rfl (by kernel_rfl) (by kernel_rfl) (by kernel_rfl) (fun _ _ _ h => h) (Or.inl ⟨by kernel_rfl, fun W hW => by kernel_rfl⟩) (by assumption) ?_
        try simp only [Act.put, List.getElem_toArray, List.getElem_cons_zero, List.getElem_cons_succ, List.setIfInBounds_toArray, List.set_cons_zero, List.set_cons_succ]
        refine wpAnyH_take (i := 7) (v := .pointer (some ⟨b, o, sp⟩)) rfl (by kernel_rfl) (by kernel_rfl) (by kernel_rfl) (fun _ _ _ h => h) (Or.inl ⟨by kernel_rfl, fun W hW => by go_simp⟩) (by assumption) ?_
        try simp only [Act.put, List.getElem_toArray, List.getElem_cons_zero, List.getElem_cons_succ, List.setIfInBounds_toArray, List.set_cons_zero, List.set_cons_succ]
        refine wpAnyH_take (i := 8) (v := .pointer (some ⟨b, o, sp⟩)) rfl (by kernel_rfl) (by kernel_rfl) (by kernel_rfl) (fun _ _ _ h => h) (Or.inl ⟨by kernel_rfl, fun W hW => by go_simp⟩) (by assumption) ?_
        try simp only [Act.put, List.getElem_toArray, List.getElem_cons_zero, List.getElem_cons_succ, List.setIfInBounds_toArray, List.set_cons_zero, List.set_cons_succ]
        refine wpAnyH_take (i := 9) (v := .string ⟨x.kind.toArray⟩) rfl (by kernel_rfl) (by kernel_rfl) (by kernel_rfl) (fun _ _ _ h => h) (Or.inl ⟨by kernel_rfl, fun W hW => by obtain ⟨hW0, hW1⟩ := hW; go_simp⟩) (by assumption) ?_
        try simp only [Act.put, List.getElem_toArray, List.getElem_cons_zero, List.getElem_cons_succ, List.setIfInBounds_toArray, List.set_cons_zero, List.set_cons_succ]
        refine wpAnyH_take (i := 10) (v := .int .i64 ((x.kind).length : Int)) rfl (by kernel_rfl) (by kernel_rfl) (by kernel_rfl) (fun _ _ _ h => h) (Or.inl ⟨by kernel_rfl, fun W hW => by go_simp⟩) (by assumption) ?_
        try simp only [Act.put, List.getElem_toArray, List.getElem_cons_zero, List.getElem_cons_succ, List.setIfInBounds_toArray, List.set_cons_zero, List.set_cons_succ]
        refine wpAnyH_take (i := 11) (v := .int .i64 (qk : Int)) rfl (by kernel_rfl) (by kernel_rfl) (by kernel_rfl) (fun _ _ _ h => h) (Or.inl ⟨by kernel_rfl, fun W hW => by go_simp⟩) (by assumption) ?_
        try simp only [Act.put, List.getElem_toArray, List.getElem_cons_zero, List.getElem_cons_succ, List.setIfInBounds_toArray, List.set_cons_zero, List.set_cons_succ]
        refine wpAnyH_take (i := 12) (v := .string ⟨(x.kind.take 80).toArray⟩) rfl (by kernel_rfl) (by kernel_rfl) (by kernel_rfl) (fun _ _ _ h => h) (Or.inl ⟨by kernel_rfl, fun W hW => by go_simp⟩) (by assumption) ?_
        try simp only [Act.put, List.getElem_toArray, List.getElem_cons_zero, List.getElem_cons_succ, List.setIfInBounds_toArray, List.set_cons_zero, List.set_cons_succ]
        refine wpAnyH_take (i := 13) (v := .slice (some a) l.length cap) rfl (by kernel_rfl) (by kernel_rfl) (by kernel_rfl) (fun _ _ _ h => h) (Or.inl ⟨by kernel_rfl, fun W hW => by kernel_rfl⟩) (by assumption) ?_
        try simp only [Act.put, List.getElem_toArray, List.getElem_cons_zero, List.getElem_cons_succ, List.setIfInBounds_toArray, List.set_cons_zero, List.set_cons_succ]
        refine wpAnyH_take (i := 14) (v := .int .i64 (k : Int)) rfl (by kernel_rfl) (by kernel_rfl) (by kernel_rfl) (fun _ _ _ h => h) (Or.inl ⟨by kernel_rfl, fun W hW => by kernel_rfl⟩) (by assumption) ?_
        try simp only [Act.put, List.getElem_toArray, List.getElem_cons_zero, List.getElem_cons_succ, List.setIfInBounds_toArray, List.set_cons_zero, List.set_cons_succ]
        refine wpAnyH_take (i := 15) (v := .pointer (some ⟨b, o, sp⟩)) rfl (by kernel_rfl) (by kernel_rfl) (by kernel_rfl) (fun _ _ _ h => h) (Or.inl ⟨by kernel_rfl, fun W hW => by go_simp⟩) (by assumption) ?_
        try simp only [Act.put, List.getElem_toArray, List.getElem_cons_zero, List.getElem_cons_succ, List.setIfInBounds_toArray, List.set_cons_zero, List.set_cons_succ]
        refine wpAnyH_take (i := 16) (v := .pointer (some ⟨b, o + 1, none⟩)) rfl (by kernel_rfl) (by kernel_rfl) (by kernel_rfl) (fun _ _ _ h => h) (Or.inl ⟨by kernel_rfl, fun W hW => by go_simp⟩) (by assumption) ?_
        try simp only [Act.put, List.getElem_toArray, List.getElem_cons_zero, List.getElem_cons_succ, List.setIfInBounds_toArray, List.set_cons_zero, List.set_cons_succ]
        refine wpAnyH_take (i := 17) (v := .string ⟨x.key.toArray⟩) rfl (by kernel_rfl) (by kernel_rfl) (by kernel_rfl) (fun _ _ _ h => h) (Or.inl ⟨by kernel_rfl, fun W hW => by obtain ⟨hW0, hW1⟩ := hW; go_simp⟩) (by assumption) ?_
        try simp only [Act.put, List.getElem_toArray, List.getElem_cons_zero, List.getElem_cons_succ, List.setIfInBounds_toArray, List.set_cons_zero, List.set_cons_succ]
        refine wpAnyH_take (i := 18) (v := .slice (some a) l.length cap) rfl (by kernel_rfl) (by kernel_rfl) (by kernel_rfl) (fun _ _ _ h => h) (Or.inl ⟨by kernel_rfl, fun W hW => by kernel_rfl⟩) (by assumption) ?_
        try simp only [Act.put, List.getElem_toArray, List.getElem_cons_zero, List.getElem_cons_succ, List.setIfInBounds_toArray, List.set_cons_zero, List.set_cons_succ]
        refine wpAnyH_take (i := 19) (v := .int .i64 (k : Int)) rfl (by kernel_rfl) (by kernel_rfl) (by kernel_rfl) (fun _ _ _ h => h) (Or.inl ⟨by kernel_rfl, fun W hW => by kernel_rfl⟩) (by assumption) ?_
        try simp only [Act.put, List.getElem_toArray, List.getElem_cons_zero, List.getElem_cons_succ, List.setIfInBounds_toArray, List.set_cons_zero, List.set_cons_succ]
        refine wpAnyH_take (i := 20) (v := .pointer (some ⟨b, o, sp⟩)) rfl (by kernel_rfl) (by kernel_rfl) (by kernel_rfl) (fun _ _ _ h => h) (Or.inl ⟨by kernel_rfl, fun W hW => by go_simp⟩) (by assumption) ?_
        try simp only [Act.put, List.getElem_toArray, List.getElem_cons_zero, List.getElem_cons_succ, List.setIfInBounds_toArray, List.set_cons_zero, List.set_cons_succ]
        refine wpAnyH_take (i := 21) (v := .pointer (some ⟨b, o + 1, none⟩)) rfl (by kernel_rfl) (by kernel_rfl) (by kernel_rfl) (fun _ _ _ h => h) (Or.inl ⟨by kernel_rfl, fun W hW => by go_simp⟩) (by assumption) ?_
        try simp only [Act.put, List.getElem_toArray, List.getElem_cons_zero, List.getElem_cons_succ, List.setIfInBounds_toArray, List.set_cons_zero, List.set_cons_succ]
        refine wpAnyH_take (i := 22) (v := .string ⟨x.key.toArray⟩) rfl (by kernel_rfl) (by kernel_rfl) (by kernel_rfl) (fun _ _ _ h => h) (Or.inl ⟨by kernel_rfl, fun W hW => by obtain ⟨hW0, hW1⟩ := hW; go_simp⟩) (by assumption) ?_
        try simp only [Act.put, List.getElem_toArray, List.getElem_cons_zero, List.getElem_cons_succ, List.setIfInBounds_toArray, List.set_cons_zero, List.set_cons_succ]
        refine wpAnyH_take (i := 23) (v := .int .i64 ((x.key).length : Int)) rfl (by kernel_rfl) (by kernel_rfl) (by kernel_rfl) (fun _ _ _ h => h) (Or.inl ⟨by kernel_rfl, fun W hW => by go_simp⟩) (by assumption) ?_
        try simp only [Act.put, List.getElem_toArray, List.getElem_cons_zero, List.getElem_cons_succ, List.setIfInBounds_toArray, List.set_cons_zero, List.set_cons_succ]
        refine wpAnyH_take (i := 24) (v := .int .i64 (qy : Int)) rfl (by kernel_rfl) (by kernel_rfl) (by kernel_rfl) (fun _ _ _ h => h) (Or.inl ⟨by kernel_rfl, fun W hW => by go_simp⟩) (by assumption) ?_
        try simp only [Act.put, List.getElem_toArray, List.getElem_cons_zero, List.getElem_cons_succ, List.setIfInBounds_toArray, List.set_cons_zero, List.set_cons_succ]
        refine wpAnyH_take (i := 25) (v := .string ⟨(x.key.take 80).toArray⟩) rfl (by kernel_rfl) (by kernel_rfl) (by kernel_rfl) (fun _ _ _ h => h) (Or.inl ⟨by kernel_rfl, fun W hW => by go_simp⟩) (by assumption) ?_
        try simp only [Act.put, List.getElem_toArray, List.getElem_cons_zero, List.getElem_cons_succ, List.setIfInBounds_toArray, List.set_cons_zero, List.set_cons_succ]
        refine wpAnyH_take (i := 26) (v := .agg #[.string ⟨(x.kind.take 80).toArray⟩, .string ⟨(x.key.take 80).toArray⟩, .slice none 0 0]) rfl (by kernel_rfl) (by kernel_rfl) (by kernel_rfl) (fun _ _ _ h => h) (Or.inl ⟨by kernel_rfl, fun W hW => by kernel_rfl⟩) (by assumption) ?_
        try simp only [Act.put, List.getElem_toArray, List.getElem_cons_zero, List.getElem_cons_succ, List.setIfInBounds_toArray, List.set_cons_zero, List.set_cons_succ]
        refine wpAnyH_ready (rs := [27]) (by kernel_rfl) (by simp) ?_
        refine AllReadyH.cons rfl (fun K hK => ?_) AllReadyH.nil
        go_simp
        have hb5 := below_new wo.drew (.cells #[.string ⟨#[]⟩, .string ⟨#[]⟩, .slice none 0 0] 27)
        have hlt5 : b < wo.drew.heap.size := Nat.lt_of_lt_of_le hbw hzo
        refine hK.out _ _ ⟨(hb5.cell (p := ⟨b, o, sp⟩) hlt5).trans hS.1, (hb5.cell (p := ⟨b, o + 1, none⟩) hlt5).trans hS.2⟩ (fun _ => ?_)
        clear K hK
        try simp only [Act.put, List.getElem_toArray, List.getElem_cons_zero, List.getElem_cons_succ, List.setIfInBounds_toArray, List.set_cons_zero, List.set_cons_succ]
        refine wpAnyH_ready (rs := [28]) (by kernel_rfl) (by simp) ?_
        refine AllReadyH.cons rfl (fun K hK => ?_) AllReadyH.nil
        go_simp
        have hb6 := below_new wo.drew (.cells #[.string ⟨(x.kind.take 80).toArray⟩, .string ⟨(x.key.take 80).toArray⟩, .slice none 0 0] 27)
        refine hK.out _ _ ⟨(hb6.cell (p := ⟨b, o, sp⟩) hlt5).trans hS.1, (hb6.cell (p := ⟨b, o + 1, none⟩) hlt5).trans hS.2⟩ (fun _ => ?_)
        clear K hK
        try simp only [Act.put, List.getElem_toArray, List.getElem_cons_zero, List.getElem_cons_succ, List.setIfInBounds_toArray, List.set_cons_zero, List.set_cons_succ]
        refine wpAnyH_done (by kernel_rfl) ?_ _
        clear hb5 hb6 hlt5 hS
        have HC := Lib.hid ((Cop.new wo 27 50 (x.kind.take 80) (x.key.take 80)).below (Below.refl _ _).drew)
        have HB1 := Lib.hid ((below_new wo (.cells #[.string ⟨(x.kind.take 80).toArray⟩, .string ⟨(x.key.take 80).toArray⟩, .slice none 0 0] 27)).drew)
        generalize (wo.alloc (.cells #[.string ⟨(x.kind.take 80).toArray⟩, .string ⟨(x.key.take 80).toArray⟩, .slice none 0 0] 27)).drew = w1 at HC HB1 ⊢
        clear e0 e1 e2 mk1 mk2 mk3 mk4 my1 my2 my3 my4
        go_wp2_with fail
        go_loopw [8] (fun jv wr => ∃ (j : Nat) (vf : Value), j ≤ x.fields.length ∧ j ≤ 6 ∧ jv = .int .i64 (j : Int) ∧ Cop wo.heap.size 50 (x.kind.take 80) (x.key.take 80) ((x.fields.take j).map Ent.cutF) vf wr ∧ Below wo.heap.size wo wr) (fun jv _ => x.fields.length - (intOf jv).toNat)
        case atStart => exact ⟨0, _, Nat.zero_le _, Nat.zero_le _, rfl, HC.out, HB1.out⟩
        case round =>
          clear HC HB1
          obtain ⟨j, vf, hj, hj6, rfl, hC, hbj⟩ := hrel
          have HC := Lib.hid hC; have Hbj := Lib.hid hbj
          have hbx := Hb.out.trans (hbj.mono Hb.out.size)
          have Hbx := Lib.hid hbx
          have e2 := (hbj.cell (p := ⟨b, o + 2, none⟩) (Nat.lt_of_lt_of_le hbw hzo)).trans E2.out
          clear hC hbj hbx
          obtain ⟨wi, hwi⟩ : ∃ wi, wi = wr := ⟨_, rfl⟩
          subst hwi
          by_cases hjl : j < x.fields.length ∧ j < 6
          · obtain ⟨hjl, hjl6⟩ := hjl
            obtain ⟨f1, hf1⟩ : ∃ f1, x.fields[j]? = some f1 := ⟨_, List.getElem?_eq_getElem hjl⟩
            obtain ⟨a3, b3, o3, sp3, rfl, hadd3, hbw3, hc0, hc1, hn1, hn2⟩ := HFr.out j f1 hf1
            have a0 : wi.cell? ⟨b3, o3, sp3⟩ = some (.string ⟨f1.name.toArray⟩) := (Hbx.out.cell (p := ⟨b3, o3, sp3⟩) hbw3).trans hc0
            have a1 : wi.cell? ⟨b3, o3 + 1, none⟩ = some (.string ⟨f1.text.toArray⟩) := (Hbx.out.cell (p := ⟨b3, o3 + 1, none⟩) hbw3).trans hc1
            have hj1 : (j : Int) < (x.fields.length : Int) := by omega
            have hj2 : (j : Int) < 6 := by omega
            have hjk : (j : Int) + 1 ≤ 9223372036854775807 := by omega
            have htk : (x.fields.take (j + 1)).map Ent.cutF = (x.fields.take j).map Ent.cutF ++ [Ent.cutF f1] := by rw [List.take_add_one, hf1]; simp
            have Htk := Lib.hid htk
            obtain ⟨qn, nn1, nn2, nn3, nn4⟩ := cut_text f1.name
            obtain ⟨qt, nt1, nt2, nt3, nt4⟩ := cut_text f1.text
            clear hc0 hc1 hf1 htk
            go_upto_region 10 with fail
            obtain ⟨fl, hown, hrep⟩ := HC.out.row
            obtain ⟨i0, hi, hz0, hz1, hz2⟩ := info_parts efield_info
            have htl : ((x.fields.take j).map Ent.cutF).length = j := by rw [List.length_map, List.length_take]; omega
            rw [htl] at hown
            have hvf : ∀ q, vf.ownBlock = some q → q ≠ wi.heap.size := fun q e => by have := (hown.lt q e).2; omega
            have Hvf := Lib.hid hvf
            have Hown := Lib.hid hown; have Hrep := Lib.hid hrep; have Hi := Lib.hid hi; have Hz0 := Lib.hid hz0; have Hz1 := Lib.hid hz1; have Hz2 := Lib.hid hz2
            clear hown hrep hi hz0 hz1 hz2 hvf e2 a0 a1
            refine wp_region_any (by kernel_rfl) ?_
            change wpAny _ _ _ _ _ _ _ (World.drew _)
            have hb7 : Below wi.heap.size wi (World.drew (wi.alloc (.cells #[.string ⟨f1.name.toArray⟩, .string ⟨f1.text.toArray⟩] 50))) := (below_new wi _).drew
            have hS : (fun W : World => W.cell? ⟨wi.heap.size, 0, none⟩ = some (.string ⟨f1.name.toArray⟩) ∧ W.cell? ⟨wi.heap.size, 1, none⟩ = some (.string ⟨f1.text.toArray⟩)) (World.drew (wi.alloc (.cells #[.string ⟨f1.name.toArray⟩, .string ⟨f1.text.toArray⟩] 50))) := by
              have c : ∀ (i : Nat) (u : Value), #[Value.string ⟨f1.name.toArray⟩, .string ⟨f1.text.toArray⟩][i]? = some u → (wi.alloc (.cells #[.string ⟨f1.name.toArray⟩, .string ⟨f1.text.toArray⟩] 50)).cell? ⟨wi.heap.size, i, none⟩ = some u := by
                intro i u hu
                rw [cell_of_row _ _ _ _ _ _ (heap_alloc_new wi _)]
                exact hu
              exact ⟨c 0 _ rfl, c 1 _ rfl⟩
            dsimp only at hS
            have Hown7 := Lib.hid (own_below Hown.out hb7); have HC7 := Lib.hid (HC.out.below hb7); have Hb7 := Lib.hid (Hbj.out.trans (hb7.mono Hbj.out.size))
            have c7 := HC7.out.cv
            have hlt1 : wi.heap.size < (World.drew (wi.alloc (.cells #[.string ⟨f1.name.toArray⟩, .string ⟨f1.text.toArray⟩] 50))).heap.size := lt_alloc _ _
            generalize World.drew (wi.alloc (.cells #[.string ⟨f1.name.toArray⟩, .string ⟨f1.text.toArray⟩] 50)) = w7 at hS Hown7 HC7 Hb7 c7 hlt1 ⊢
            clear hb7 Hown HC
            have hgx7 : wo.heap.size < w7.heap.size := HC7.out.lt
            refine wpAny_of_held (S := fun W => W.cell? ⟨wi.heap.size, 0, none⟩ = some (.string ⟨f1.name.toArray⟩) ∧ W.cell? ⟨wi.heap.size, 1, none⟩ = some (.string ⟨f1.text.toArray⟩)) _ _ _ _ ?_
            refine wpAnyH_take (i := 0) (v := .pointer (some ⟨wo.heap.size, 2, none⟩)) rfl (by kernel_rfl) (by kernel_rfl) (by kernel_rfl) (fun _ _ _ h => h) (Or.inl ⟨by kernel_rfl, fun W hW => by go_simp⟩) (by assumption) ?_
            try simp only [Act.put, List.getElem_toArray, List.getElem_cons_zero, List.getElem_cons_succ, List.setIfInBounds_toArray, List.set_cons_zero, List.set_cons_succ]
            refine wpAnyH_take (i := 2) (v := .pointer (some ⟨wi.heap.size, 0, none⟩)) rfl (by kernel_rfl) (by kernel_rfl) (by kernel_rfl) (fun _ _ _ h => h) (Or.inl ⟨by kernel_rfl, fun W hW => by go_simp⟩) (by assumption) ?_
            try simp only [Act.put, List.getElem_toArray, List.getElem_cons_zero, List.getElem_cons_succ, List.setIfInBounds_toArray, List.set_cons_zero, List.set_cons_succ]
            refine wpAnyH_take (i := 3) (v := .string ⟨f1.name.toArray⟩) rfl (by kernel_rfl) (by kernel_rfl) (by kernel_rfl) (fun _ _ _ h => h) (Or.inl ⟨by kernel_rfl, fun W hW => by obtain ⟨hW0, hW1⟩ := hW; go_simp⟩) (by assumption) ?_
            try simp only [Act.put, List.getElem_toArray, List.getElem_cons_zero, List.getElem_cons_succ, List.setIfInBounds_toArray, List.set_cons_zero, List.set_cons_succ]
            refine wpAnyH_take (i := 4) (v := .pointer (some ⟨wi.heap.size, 0, none⟩)) rfl (by kernel_rfl) (by kernel_rfl) (by kernel_rfl) (fun _ _ _ h => h) (Or.inl ⟨by kernel_rfl, fun W hW => by go_simp⟩) (by assumption) ?_
            try simp only [Act.put, List.getElem_toArray, List.getElem_cons_zero, List.getElem_cons_succ, List.setIfInBounds_toArray, List.set_cons_zero, List.set_cons_succ]
            refine wpAnyH_take (i := 5) (v := .string ⟨f1.name.toArray⟩) rfl (by kernel_rfl) (by kernel_rfl) (by kernel_rfl) (fun _ _ _ h => h) (Or.inl ⟨by kernel_rfl, fun W hW => by obtain ⟨hW0, hW1⟩ := hW; go_simp⟩) (by assumption) ?_
            try simp only [Act.put, List.getElem_toArray, List.getElem_cons_zero, List.getElem_cons_succ, List.setIfInBounds_toArray, List.set_cons_zero, List.set_cons_succ]
            refine wpAnyH_take (i := 6) (v := .int .i64 (f1.name.length : Int)) rfl (by kernel_rfl) (by kernel_rfl) (by kernel_rfl) (fun _ _ _ h => h) (Or.inl ⟨by kernel_rfl, fun W hW => by go_simp⟩) (by assumption) ?_
            try simp only [Act.put, List.getElem_toArray, List.getElem_cons_zero, List.getElem_cons_succ, List.setIfInBounds_toArray, List.set_cons_zero, List.set_cons_succ]
            refine wpAnyH_take (i := 7) (v := .int .i64 (qn : Int)) rfl (by kernel_rfl) (by kernel_rfl) (by kernel_rfl) (fun _ _ _ h => h) (Or.inl ⟨by kernel_rfl, fun W hW => by go_simp⟩) (by assumption) ?_
            try simp only [Act.put, List.getElem_toArray, List.getElem_cons_zero, List.getElem_cons_succ, List.setIfInBounds_toArray, List.set_cons_zero, List.set_cons_succ]
            refine wpAnyH_take (i := 8) (v := .string ⟨(f1.name.take 80).toArray⟩) rfl (by kernel_rfl) (by kernel_rfl) (by kernel_rfl) (fun _ _ _ h => h) (Or.inl ⟨by kernel_rfl, fun W hW => by go_simp⟩) (by assumption) ?_
            try simp only [Act.put, List.getElem_toArray, List.getElem_cons_zero, List.getElem_cons_succ, List.setIfInBounds_toArray, List.set_cons_zero, List.set_cons_succ]
            refine wpAnyH_take (i := 9) (v := .pointer (some ⟨wi.heap.size, 1, none⟩)) rfl (by kernel_rfl) (by kernel_rfl) (by kernel_rfl) (fun _ _ _ h => h) (Or.inl ⟨by kernel_rfl, fun W hW => by go_simp⟩) (by assumption) ?_
            try simp only [Act.put, List.getElem_toArray, List.getElem_cons_zero, List.getElem_cons_succ, List.setIfInBounds_toArray, List.set_cons_zero, List.set_cons_succ]
            refine wpAnyH_take (i := 10) (v := .string ⟨f1.text.toArray⟩) rfl (by kernel_rfl) (by kernel_rfl) (by kernel_rfl) (fun _ _ _ h => h) (Or.inl ⟨by kernel_rfl, fun W hW => by obtain ⟨hW0, hW1⟩ := hW; go_simp⟩) (by assumption) ?_
            try simp only [Act.put, List.getElem_toArray, List.getElem_cons_zero, List.getElem_cons_succ, List.setIfInBounds_toArray, List.set_cons_zero, List.set_cons_succ]
            refine wpAnyH_take (i := 11) (v := .pointer (some ⟨wi.heap.size, 1, none⟩)) rfl (by kernel_rfl) (by kernel_rfl) (by kernel_rfl) (fun _ _ _ h => h) (Or.inl ⟨by kernel_rfl, fun W hW => by go_simp⟩) (by assumption) ?_
            try simp only [Act.put, List.getElem_toArray, List.getElem_cons_zero, List.getElem_cons_succ, List.setIfInBounds_toArray, List.set_cons_zero, List.set_cons_succ]
            refine wpAnyH_take (i := 12) (v := .string ⟨f1.text.toArray⟩) rfl (by kernel_rfl) (by kernel_rfl) (by kernel_rfl) (fun _ _ _ h => h) (Or.inl ⟨by kernel_rfl, fun W hW => by obtain ⟨hW0, hW1⟩ := hW; go_simp⟩) (by assumption) ?_
            try simp only [Act.put, List.getElem_toArray, List.getElem_cons_zero, List.getElem_cons_succ, List.setIfInBounds_toArray, List.set_cons_zero, List.set_cons_succ]
            refine wpAnyH_take (i := 13) (v := .int .i64 (f1.text.length : Int)) rfl (by kernel_rfl) (by kernel_rfl) (by kernel_rfl) (fun _ _ _ h => h) (Or.inl ⟨by kernel_rfl, fun W hW => by go_simp⟩) (by assumption) ?_
            try simp only [Act.put, List.getElem_toArray, List.getElem_cons_zero, List.getElem_cons_succ, List.setIfInBounds_toArray, List.set_cons_zero, List.set_cons_succ]
            refine wpAnyH_take (i := 14) (v := .int .i64 (qt : Int)) rfl (by kernel_rfl) (by kernel_rfl) (by kernel_rfl) (fun _ _ _ h => h) (Or.inl ⟨by kernel_rfl, fun W hW => by go_simp⟩) (by assumption) ?_
            try simp only [Act.put, List.getElem_toArray, List.getElem_cons_zero, List.getElem_cons_succ, List.setIfInBounds_toArray, List.set_cons_zero, List.set_cons_succ]
            refine wpAnyH_take (i := 15) (v := .string ⟨(f1.text.take 80).toArray⟩) rfl (by kernel_rfl) (by kernel_rfl) (by kernel_rfl) (fun _ _ _ h => h) (Or.inl ⟨by kernel_rfl, fun W hW => by go_simp⟩) (by assumption) ?_
            try simp only [Act.put, List.getElem_toArray, List.getElem_cons_zero, List.getElem_cons_succ, List.setIfInBounds_toArray, List.set_cons_zero, List.set_cons_succ]
            refine wpAnyH_take (i := 16) (v := .agg #[.string ⟨(f1.name.take 80).toArray⟩, .string ⟨(f1.text.take 80).toArray⟩]) rfl (by kernel_rfl) (by kernel_rfl) (by kernel_rfl) (fun _ _ _ h => h) (Or.inl ⟨by kernel_rfl, fun W hW => by kernel_rfl⟩) (by assumption) ?_
            try simp only [Act.put, List.getElem_toArray, List.getElem_cons_zero, List.getElem_cons_succ, List.setIfInBounds_toArray, List.set_cons_zero, List.set_cons_succ]
            have Hown8 := Hown7; have HC8 := HC7; have Hb8 := Hb7
            have hbase8 : wo.heap.size + 1 ≤ w7.heap.size := hgx7
            have hb9 := below_new w7 (.cells #[.string ⟨(f1.name.take 80).toArray⟩, .string ⟨(f1.text.take 80).toArray⟩] 50)
            have hS9 := And.intro ((hb9.cell (p := ⟨wi.heap.size, 0, none⟩) hlt1).trans hS.1) ((hb9.cell (p := ⟨wi.heap.size, 1, none⟩) hlt1).trans hS.2)
            have c9 := (hb9.cell (p := ⟨wo.heap.size, 2, none⟩) hgx7).trans c7
            refine wpAnyH_ready (rs := [1, 17]) (by kernel_rfl) (by simp) ?_
            refine AllReadyH.cons rfl (fun K hK => ?_) (AllReadyH.cons rfl (fun K hK => ?_) AllReadyH.nil)
            · go_simp
              refine hK.out _ _ hS (fun _ => ?_)
              clear K hK
              try simp only [Act.put, List.getElem_toArray, List.getElem_cons_zero, List.getElem_cons_succ, List.setIfInBounds_toArray, List.set_cons_zero, List.set_cons_succ]
              refine wpAnyH_ready (rs := [17]) (by kernel_rfl) (by simp) ?_
              refine AllReadyH.cons rfl (fun K hK => ?_) AllReadyH.nil
              go_simp
              refine hK.out _ _ hS9 (fun _ => ?_)
              clear K hK
              try simp only [Act.put, List.getElem_toArray, List.getElem_cons_zero, List.getElem_cons_succ, List.setIfInBounds_toArray, List.set_cons_zero, List.set_cons_succ]
              refine wpAnyH_ready (rs := [18]) (by kernel_rfl) (by simp) ?_
              refine AllReadyH.cons rfl (fun K hK => ?_) AllReadyH.nil
              rw [if_pos (by kernel_rfl)]
              refine wp_append1 (.tmp 72) (.tmp 88) 25 rfl (wo.heap.size + 1) 50 i0 (.agg #[.string ⟨#[]⟩, .string ⟨#[]⟩]) 2 32 Tryz.underlying25 Hi.out Hz0.out Hz1.out Hz2.out (by rfl) (by decide) vf j fl Hown8.out rfl [.string ⟨(f1.name.take 80).toArray⟩, .string ⟨(f1.text.take 80).toArray⟩] rfl rfl rfl (by simp [Value.oneCell']) (by unfold maxLen; omega) (by omega) hbase8 ?_
              intro v2 w2 own2 g2 at2
              obtain ⟨p2, cap2, rfl, hp2, hq2⟩ := own2.form (Nat.succ_pos _)
              have hC2 := HC8.out.more (f := Ent.cutF f1) Hrep.out (by rw [htl]; exact own2) g2
              rw [← Htk.out] at hC2
              have hne2 : vf.ownBlock ≠ some wi.heap.size := fun e => Hvf.out _ e rfl
              have hS2 := And.intro ((grown_cell g2 hlt1 hne2 0).trans hS.1) ((grown_cell g2 hlt1 hne2 1).trans hS.2)
              have c2' := (grown_cell g2 HC8.out.lt (fun e => by have := (Hown8.out.lt _ e).1; omega) 2).trans HC8.out.cv
              have c2f' := (grown_frozen g2 HC8.out.lt (fun e => by have := (Hown8.out.lt _ e).1; omega) 2).trans HC8.out.free
              have hb2 : Below wo.heap.size wo w2 := Hb8.out.grown g2 (by have := Hb8.out.size; omega) (fun q e => by have := (Hown8.out.lt q e).1; omega)
              refine hK.out _ _ hS2 (fun _ => ?_)
              clear K hK
              try simp only [Act.put, List.getElem_toArray, List.getElem_cons_zero, List.getElem_cons_succ, List.setIfInBounds_toArray, List.set_cons_zero, List.set_cons_succ]
              refine wpAnyH_take (i := 19) (v := .pointer (some ⟨wo.heap.size, 2, none⟩)) rfl (by kernel_rfl) (by kernel_rfl) (by kernel_rfl) (fun _ _ _ h => h) (Or.inl ⟨by kernel_rfl, fun W hW => by go_simp⟩) (by assumption) ?_
              try simp only [Act.put, List.getElem_toArray, List.getElem_cons_zero, List.getElem_cons_succ, List.setIfInBounds_toArray, List.set_cons_zero, List.set_cons_succ]
              refine wpAnyH_ready (rs := [20]) (by kernel_rfl) (by simp) ?_
              refine AllReadyH.cons rfl (fun K hK => ?_) AllReadyH.nil
              go_simp
              refine hK.out _ _ ⟨(World.cell?_setCell_other _ _ _ _ (fun e => by injection e with e; omega)).trans hS2.1, (World.cell?_setCell_other _ _ _ _ (fun e => by injection e with e; omega)).trans hS2.2⟩ (fun _ => ?_)
              clear K hK
              try simp only [Act.put, List.getElem_toArray, List.getElem_cons_zero, List.getElem_cons_succ, List.setIfInBounds_toArray, List.set_cons_zero, List.set_cons_succ]
              refine wpAnyH_done (by kernel_rfl) ?_ _
              have HC2 := Lib.hid hC2; have Hb2 := Lib.hid (hb2.setCell (p := ⟨wo.heap.size, 2, none⟩) (Nat.le_refl _) (.slice (some ⟨p2, 0, none⟩) (j + 1) cap2))
              clear hC2 hb2 hS2 hS c2' c2f' own2 g2 at2 hne2
              go_wp2_with fail
              go_roundw
              case rel => exact ⟨j + 1, _, by omega, by omega, by go_num, HC2.out, Hb2.out⟩
              case measure => simp [intOf]; omega
            · go_simp
              refine hK.out _ _ hS9 (fun _ => ?_)
              clear K hK
              try simp only [Act.put, List.getElem_toArray, List.getElem_cons_zero, List.getElem_cons_succ, List.setIfInBounds_toArray, List.set_cons_zero, List.set_cons_succ]
              refine wpAnyH_ready (rs := [1]) (by kernel_rfl) (by simp) ?_
              refine AllReadyH.cons rfl (fun K hK => ?_) AllReadyH.nil
              go_simp
              refine hK.out _ _ hS9 (fun _ => ?_)
              clear K hK
              try simp only [Act.put, List.getElem_toArray, List.getElem_cons_zero, List.getElem_cons_succ, List.setIfInBounds_toArray, List.set_cons_zero, List.set_cons_succ]
              refine wpAnyH_ready (rs := [18]) (by kernel_rfl) (by simp) ?_
              refine AllReadyH.cons rfl (fun K hK => ?_) AllReadyH.nil
              rw [if_pos (by kernel_rfl)]
              refine wp_append1 (.tmp 72) (.tmp 88) 25 rfl (wo.heap.size + 1) 50 i0 (.agg #[.string ⟨#[]⟩, .string ⟨#[]⟩]) 2 32 Tryz.underlying25 Hi.out Hz0.out Hz1.out Hz2.out (by rfl) (by decide) vf j fl Hown8.out rfl [.string ⟨(f1.name.take 80).toArray⟩, .string ⟨(f1.text.take 80).toArray⟩] rfl rfl rfl (by simp [Value.oneCell']) (by unfold maxLen; omega) (by omega) hbase8 ?_
              intro v2 w2 own2 g2 at2
              obtain ⟨p2, cap2, rfl, hp2, hq2⟩ := own2.form (Nat.succ_pos _)
              have hC2 := HC8.out.more (f := Ent.cutF f1) Hrep.out (by rw [htl]; exact own2) g2
              rw [← Htk.out] at hC2
              have hne2 : vf.ownBlock ≠ some wi.heap.size := fun e => Hvf.out _ e rfl
              have hS2 := And.intro ((grown_cell g2 hlt1 hne2 0).trans hS.1) ((grown_cell g2 hlt1 hne2 1).trans hS.2)
              have c2' := (grown_cell g2 HC8.out.lt (fun e => by have := (Hown8.out.lt _ e).1; omega) 2).trans HC8.out.cv
              have c2f' := (grown_frozen g2 HC8.out.lt (fun e => by have := (Hown8.out.lt _ e).1; omega) 2).trans HC8.out.free
              have hb2 : Below wo.heap.size wo w2 := Hb8.out.grown g2 (by have := Hb8.out.size; omega) (fun q e => by have := (Hown8.out.lt q e).1; omega)
              refine hK.out _ _ hS2 (fun _ => ?_)
              clear K hK
              try simp only [Act.put, List.getElem_toArray, List.getElem_cons_zero, List.getElem_cons_succ, List.setIfInBounds_toArray, List.set_cons_zero, List.set_cons_succ]
              refine wpAnyH_take (i := 19) (v := .pointer (some ⟨wo.heap.size, 2, none⟩)) rfl (by kernel_rfl) (by kernel_rfl) (by kernel_rfl) (fun _ _ _ h => h) (Or.inl ⟨by kernel_rfl, fun W hW => by go_simp⟩) (by assumption) ?_
              try simp only [Act.put, List.getElem_toArray, List.getElem_cons_zero, List.getElem_cons_succ, List.setIfInBounds_toArray, List.set_cons_zero, List.set_cons_succ]
              refine wpAnyH_ready (rs := [20]) (by kernel_rfl) (by simp) ?_
              refine AllReadyH.cons rfl (fun K hK => ?_) AllReadyH.nil
              go_simp
              refine hK.out _ _ ⟨(World.cell?_setCell_other _ _ _ _ (fun e => by injection e with e; omega)).trans hS2.1, (World.cell?_setCell_other _ _ _ _ (fun e => by injection e with e; omega)).trans hS2.2⟩ (fun _ => ?_)
              clear K hK
              try simp only [Act.put, List.getElem_toArray, List.getElem_cons_zero, List.getElem_cons_succ, List.setIfInBounds_toArray, List.set_cons_zero, List.set_cons_succ]
              refine wpAnyH_done (by kernel_rfl) ?_ _
              have HC2 := Lib.hid hC2; have Hb2 := Lib.hid (hb2.setCell (p := ⟨wo.heap.size, 2, none⟩) (Nat.le_refl _) (.slice (some ⟨p2, 0, none⟩) (j + 1) cap2))
              clear hC2 hb2 hS2 hS c2' c2f' own2 g2 at2 hne2
              go_wp2_with fail
              go_roundw
              case rel => exact ⟨j + 1, _, by omega, by omega, by go_num, HC2.out, Hb2.out⟩
              case measure => simp [intOf]; omega
          · have htk : x.fields.take j = x.fields.take 6 := by
              rcases Nat.lt_or_ge j 6 with h | h
              · rw [List.take_of_length_le (by omega), List.take_of_length_le (by omega)]
              · rw [show j = 6 by omega]
            rw [htk] at HC
            obtain ⟨pv, nv, cv, rfl⟩ := HC.out.form
            obtain ⟨flf, hrow, hrf⟩ := HC.out.row
            have hO2 := HO.out.below (hb := Hbj.out)
            obtain ⟨flo, hown, hrep⟩ := hO2
            have hu5 : ∀ q, u5.ownBlock = some q → q < wo.heap.size := fun q hq => by obtain ⟨fl0, h0, _⟩ := HO.out; exact (h0.lt q hq).2
            have hsl : SliceIn (fun q => w.heap.size ≤ q ∧ u5.ownBlock ≠ some q) 2 RFld wi (.slice pv nv cv) (Ent.cut1 x).fields :=
              SliceIn.own hrow hrf RFld.size rfl (fun q hq => ⟨by have := (hrow.lt q hq).1; omega, fun e => by have := hu5 q e; have := (hrow.lt q hq).1; omega⟩)
            obtain ⟨i0, hi, hz0, hz1, hz2⟩ := info_parts eent_info
            have hlen : ((l.take k).map Ent.cut1).length = k := by rw [List.length_map, List.length_take]; omega
            rw [hlen] at hown
            have c0 := HC.out.ck; have c1 := HC.out.cy; have c2 := HC.out.cv
            have hbase : w.heap.size ≤ wi.heap.size := by have := Hbj.out.size; omega
            have htl : (l.take (k + 1)).map Ent.cut1 = (l.take k).map Ent.cut1 ++ [Ent.cut1 x] := by rw [List.take_add_one, Hx.out]; simp
            have Hown := Lib.hid hown; have Hrep := Lib.hid hrep; have Hsl := Lib.hid hsl; have Hi := Lib.hid hi; have Hz0 := Lib.hid hz0; have Hz1 := Lib.hid hz1; have Hz2 := Lib.hid hz2; have Htl := Lib.hid htl; have Hlen := Lib.hid hlen
            have Hu5 := Lib.hid hu5
            have hk1000 : k + 1 ≤ 1000 := by have := Hkn.out; omega
            have hkn1 := Hkn.out
            have hjle : j ≤ x.fields.length := hj
            clear hown hrep hsl hi hz0 hz1 hz2 hrow hrf htk htl hlen hu5 hkl
            by_cases hjl1 : j < x.fields.length
            · have hj1 : (j : Int) < (x.fields.length : Int) := by omega
              have hj2 : decide ((j : Int) < 6) = false := by simp; omega
              clear hjl hj hj6
              go_wp2_with (at_builtin; go_loud (refine wpList_append1 rfl (.tmp 91) (.tmp 93) 22 rfl w.heap.size 27 i0 (.agg #[.string ⟨#[]⟩, .string ⟨#[]⟩, .slice none 0 0]) 3 56 Tryz.underlying22 Hi.out Hz0.out Hz1.out Hz2.out (by rfl) (by decide) _ _ _ Hown.out rfl [.string ⟨(x.kind.take 80).toArray⟩, .string ⟨(x.key.take 80).toArray⟩, .slice pv nv cv] rfl rfl rfl (by simp [Value.oneCell']) (by unfold maxLen; omega) (by omega) hbase ?_); intro v2 w2 own2 g2 at2)
              go_roundw
              case rel =>
                refine ⟨k + 1, by omega, by omega, by go_num, ?_, ?_⟩
                · rw [Htl.out]
                  exact Outs.more hbase Hrep.out Hsl.out (by rw [Hlen.out]; exact own2) g2 at2
                · exact Hbx.out.grown g2 hbase (fun q e => (Hown.out.lt q e).1)
              case measure => simp [intOf]; omega
            · have hj1 : ¬ (j : Int) < (x.fields.length : Int) := by omega
              clear hjl hj hj6
              go_wp2_with (at_builtin; go_loud (refine wpList_append1 rfl (.tmp 91) (.tmp 93) 22 rfl w.heap.size 27 i0 (.agg #[.string ⟨#[]⟩, .string ⟨#[]⟩, .slice none 0 0]) 3 56 Tryz.underlying22 Hi.out Hz0.out Hz1.out Hz2.out (by rfl) (by decide) _ _ _ Hown.out rfl [.string ⟨(x.kind.take 80).toArray⟩, .string ⟨(x.key.take 80).toArray⟩, .slice pv nv cv] rfl rfl rfl (by simp [Value.oneCell']) (by unfold maxLen; omega) (by omega) hbase ?_); intro v2 w2 own2 g2 at2)
              go_roundw
              case rel =>
                refine ⟨k + 1, by omega, by omega, by go_num, ?_, ?_⟩
                · rw [Htl.out]
                  exact Outs.more hbase Hrep.out Hsl.out (by rw [Hlen.out]; exact own2) g2 at2
                · exact Hbx.out.grown g2 hbase (fun q e => (Hown.out.lt q e).1)
              case measure => simp [intOf]; omega
      · have hlt' : (k : Int) < (l.length : Int) := by omega
        have hltn' : decide ((k : Int) < (n : Int)) = false := by simp; omega
        clear hlt
        go_wp2_with fail
        go_ret
        have h := HO.out
        rw [show k = n by omega] at h
        exact ⟨_, rfl, h, Hb.out⟩
    · have hlt' : ¬ (k : Int) < (l.length : Int) := by omega
      go_wp2_with fail
      go_ret
      have h := HO.out
      rw [List.take_of_length_le (by omega)] at h
      have hn' : Ent.cutL l n = l.map Ent.cut1 := by unfold Ent.cutL; rw [List.take_of_length_le (by omega)]
      rw [hn']
      exact ⟨_, rfl, h, Hb.out⟩
end Go.Proofs.YtanbcokkfbidbaaGreatDoor
