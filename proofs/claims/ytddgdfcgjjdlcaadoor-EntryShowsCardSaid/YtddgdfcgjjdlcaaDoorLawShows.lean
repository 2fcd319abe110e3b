/- EntryShows: the law's walk. -/
import Derived.Test.YtddgdfcgjjdlcaaDoorR15d
set_option linter.unusedSimpArgs false
set_option linter.unusedVariables false
namespace Go.Proofs.YtddgdfcgjjdlcaaDoor.lawShows
open Go.RowKit
theorem entry_get2 (fs : List Ent.Fld) (v0 v1 vF : Value) (name gs : List UInt8) (gb : Bool) (S : Nat → Prop) (w : World) (hF : SliceIn S 2 RFld w vF fs) (hg : Ent.get fs name = (gs, gb)) :
    Calls Tryd.prog 14 #[.agg #[v0, v1, vF], .string ⟨name.toArray⟩] w fun e w' => e = .returned (.tuple #[.string ⟨gs.toArray⟩, .bool gb]) ∧ Below w.heap.size w w' := by
  have h := entry_get fs v0 v1 vF name S w hF
  rw [hg] at h
  exact h
theorem any_field {S : Nat → Prop} {w : World} {v : Value} {xs : List Ent.Fld} (h : SliceIn S 2 RFld w v xs) : SliceIn (fun _ => True) 2 RFld w v xs :=
  h.kept (fun _ _ => trivial) (Nat.le_refl _) (fun _ _ _ => rfl) (fun _ _ _ h => h)
set_option maxRecDepth 100000 in
set_option maxHeartbeats 3200000 in
theorem walk2 (p : Option Addr) (cap : Nat) (l : List Ent.Ent) (s : List UInt8) (w : World) (h : l.length ≤ maxLen ∧ s.length ≤ maxLen) (hE : OEnt w p l) :
    Calls Tryd.prog 3 #[.slice p l.length cap, .string ⟨s.toArray⟩] w fun e w' => e = .returned (.bool true) ∧ Below w.heap.size w w' := by
  obtain ⟨hl, hs⟩ := h
  have HE := Lib.hid hE; clear hE
  clear hs
  go_enter Tryd.func3, Tryd.ntmps3
  go_upto_region 2 with (go_at_call 8; refine (law_cut8 l p cap _ HE.out hl).mono ?_; rintro e w1 ⟨p1, c, cap1, hc, rfl, hO, hb⟩; have HC := Lib.hid hc; have HO := Lib.hid hO; have HB := Lib.hid hb; clear hc hO hb)
  have hcl : c.length ≤ 1000000000 := by have := HC.out.len; omega
  have hcs : (Ent.showN c).length ≤ 1000000000 := by have := HC.out.show_; omega
  have hcf : ∀ x ∈ c, x.fields.length ≤ 1000000000 := fun x hx => by have := HC.out.flds x hx; omega
  have Hcf := Lib.hid hcf; clear hcf hl
  obtain ⟨sh, er, hsh⟩ : ∃ sh er, Ent.shown c = (sh, er) := ⟨_, _, rfl⟩
  obtain ⟨rt, hrt⟩ : ∃ rt, Ent.right c = rt := ⟨_, rfl⟩
  have Hsh := Lib.hid hsh; have Hrt := Lib.hid hrt
  clear hsh hrt
  go_upto_region 4 with (first
    | (go_at_call 9; refine (entry_show c (.slice p1 c.length cap1) _ _ HO.out HC.out.ok hcl hcs).mono ?_; rw [Hsh.out]; rintro e w2 ⟨rfl, hb⟩; replace HO := Lib.hid (HO.out.below hb); replace HB := Lib.hid (HB.out.trans (hb.mono HB.out.size)); clear hb)
    | (go_at_call 11; refine (law_refs c (.slice p1 c.length cap1) _ _ HO.out hcl Hcf.out).mono ?_; rintro e w3 ⟨vr, rfl, hO3, hb⟩; have HR := Lib.hid hO3.ents; clear hO3; replace HO := Lib.hid (HO.out.below hb); replace HB := Lib.hid (HB.out.trans (hb.mono HB.out.size)); clear hb)
    | (go_at_call 10; refine (ref15_show c vr _ _ HR.out HC.out.ok hcl hcs).mono ?_; rw [Hsh.out]; rintro e w4 ⟨rfl, hb⟩; replace HO := Lib.hid (HO.out.below hb); replace HB := Lib.hid (HB.out.trans (hb.mono HB.out.size)); clear hb))
  clear HR
  go_upto_region 6 with (first
    | (go_at_call 12; refine (entry_right c (.slice p1 c.length cap1) _ _ HO.out HC.out.ok hcl).mono ?_; rw [Hrt.out]; rintro e w2 ⟨rfl, hb⟩; replace HO := Lib.hid (HO.out.below hb); replace HB := Lib.hid (HB.out.trans (hb.mono HB.out.size)); clear hb)
    | (go_at_call 11; refine (law_refs c (.slice p1 c.length cap1) _ _ HO.out hcl Hcf.out).mono ?_; rintro e w3 ⟨vr, rfl, hO3, hb⟩; have HR := Lib.hid hO3.ents; clear hO3; replace HO := Lib.hid (HO.out.below hb); replace HB := Lib.hid (HB.out.trans (hb.mono HB.out.size)); clear hb)
    | (go_at_call 13; refine (ref15_rights c vr _ _ HR.out HC.out.ok hcl).mono ?_; rw [Hrt.out]; rintro e w4 ⟨rfl, hb⟩; replace HO := Lib.hid (HO.out.below hb); replace HB := Lib.hid (HB.out.trans (hb.mono HB.out.size)); clear hb))
  clear HR Hsh Hrt
  go_wp2_with fail
  go_loopw [9] (fun iv wr => ∃ k : Nat, k ≤ c.length ∧ iv = .int .i64 (k : Int) ∧ Below w.heap.size w wr ∧ Ents (fun _ => True) wr (.slice p1 c.length cap1) c) (fun iv _ => c.length - (intOf iv).toNat)
  case atStart => exact ⟨0, Nat.zero_le _, rfl, HB.out, HO.out⟩
  case round =>
    clear HB HO
    obtain ⟨k, hk, rfl, hb, hO⟩ := hrel
    have HB := Lib.hid hb; have HO := Lib.hid hO
    clear hb hO
    by_cases hlt : k < c.length
    · obtain ⟨x, hx⟩ : ∃ x, c[k]? = some x := ⟨_, List.getElem?_eq_getElem hlt⟩
      obtain ⟨p', cap', hv, _, _, hat⟩ := HO.out
      obtain ⟨b, off, vs, hpb, _, hbw, hR, hc⟩ := hat k x hx
      injection hv with hv _ hcap
      subst hv
      subst hpb
      subst hcap
      obtain ⟨vf, rfl, hF⟩ := hR
      have e0 := hc 0 _ rfl
      have e1 := hc 1 _ rfl
      have e2 := hc 2 _ rfl
      have e0 : wr.cell? ⟨b, off + k * 3, none⟩ = some (.string ⟨x.kind.toArray⟩) := e0
      have e1 : wr.cell? ⟨b, off + k * 3 + 1, none⟩ = some (.string ⟨x.key.toArray⟩) := e1
      have e2 : wr.cell? ⟨b, off + k * 3 + 2, none⟩ = some vf := e2
      have hlt' : (k : Int) < (c.length : Int) := by omega
      have hkl : (k : Int) + 1 ≤ 9223372036854775807 := by omega
      obtain ⟨gs, gb, hg⟩ : ∃ gs gb, Ent.get x.fields s = (gs, gb) := ⟨_, _, rfl⟩
      have Hg := Lib.hid hg; have HF := Lib.hid hF; have Hx := Lib.hid hx; have Hkl := Lib.hid hkl
      clear hg hF hx hc hat hkl
      go_upto_region 10 with (go_at_call 14; refine (entry_get2 x.fields _ _ _ s gs gb _ _ HF.out Hg.out).mono ?_; rintro e w2 ⟨rfl, hb⟩; replace HO := Lib.hid (HO.out.below hb); replace HB := Lib.hid (HB.out.trans (hb.mono HB.out.size)); clear hb)
      clear e0 e1 e2 HF
      go_upto_region 11 with (first
        | (go_at_call 11; refine (law_refs c (.slice (some ⟨b, off, none⟩) c.length cap1) _ _ HO.out hcl Hcf.out).mono ?_; rintro e w3 ⟨vr, rfl, hO3, hb⟩; replace HO := Lib.hid (HO.out.below hb); replace HB := Lib.hid (HB.out.trans (hb.mono HB.out.size)); clear hb; obtain ⟨p2, cap2, rfl, _, _, hat2⟩ := hO3.ents; obtain ⟨b2, off2, vs2, rfl, _, hbw2, hR2, hc2⟩ := hat2 k x Hx.out; obtain ⟨vf2, rfl, hF2⟩ := hR2; have f0 : w3.cell? ⟨b2, off2 + k * 3, none⟩ = some (.string ⟨x.kind.toArray⟩) := hc2 0 _ rfl; have f1 : w3.cell? ⟨b2, off2 + k * 3 + 1, none⟩ = some (.string ⟨x.key.toArray⟩) := hc2 1 _ rfl; have f2 : w3.cell? ⟨b2, off2 + k * 3 + 2, none⟩ = some vf2 := hc2 2 _ rfl; have HF2 := Lib.hid hF2; clear hO3 hat2 hc2 hF2)
        | (go_at_call 15; refine (ref15_get2 x.fields _ _ _ s gs gb _ _ HF2.out Hg.out).mono ?_; rintro e w4 ⟨rfl, hb⟩; replace HO := Lib.hid (HO.out.below hb); replace HB := Lib.hid (HB.out.trans (hb.mono HB.out.size)); clear hb))
      clear f0 f1 f2 HF2
      have hkl := Hkl.out
      go_wp2_with fail
      go_roundw
      case rel => exact ⟨k + 1, by omega, by go_num, HB.out, HO.out⟩
      case measure => simp [intOf]; omega
    · have hlt' : ¬ (k : Int) < (c.length : Int) := by omega
      go_wp2_with (go_at_call 16; refine (law_fixed _).mono ?_; rintro e w3 ⟨rfl, hb⟩; replace HO := Lib.hid (HO.out.below hb); replace HB := Lib.hid (HB.out.trans (hb.mono HB.out.size)); clear hb)
      go_ret
      exact ⟨rfl, HB.out⟩
end Go.Proofs.YtddgdfcgjjdlcaaDoor.lawShows
