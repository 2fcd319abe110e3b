/- EntryBack: the law's walk. -/
import Derived.Test.YtddgdfcgjjdlcaaDoorOpenE
import Derived.Test.YtddgdfcgjjdlcaaDoorBackP
set_option linter.unusedSimpArgs false
set_option linter.unusedVariables false
namespace Go.Proofs.YtddgdfcgjjdlcaaDoor
open Go.RowKit
theorem showF_bound : ∀ fs : List Ent.Fld, (∀ f ∈ fs, f.name.length ≤ 80 ∧ f.text.length ≤ 80) → (Ent.showF fs).length ≤ fs.length * 165
  | [], _ => by simp [Ent.showF]
  | f :: fs, h => by
    have h1 := h f (by simp)
    have h2 := showF_bound fs (fun g hg => h g (by simp [hg]))
    show ([44, 10] ++ f.name ++ [61, 123] ++ f.text ++ [125] ++ Ent.showF fs).length ≤ (fs.length + 1) * 165
    simp only [List.length_append, List.length_cons, List.length_nil]
    omega
theorem showN_bound : ∀ l : List Ent.Ent, (∀ x ∈ l, x.kind.length ≤ 80 ∧ x.key.length ≤ 80 ∧ x.fields.length ≤ 6 ∧ ∀ f ∈ x.fields, f.name.length ≤ 80 ∧ f.text.length ≤ 80) → (Ent.showN l).length ≤ l.length * 1200
  | [], _ => by simp [Ent.showN]
  | x :: l, h => by
    have h1 := h x (by simp)
    have h2 := showN_bound l (fun g hg => h g (by simp [hg]))
    have h3 := showF_bound x.fields h1.2.2.2
    have h4 : x.fields.length * 165 ≤ 6 * 165 := Nat.mul_le_mul_right _ h1.2.2.1
    show ([64] ++ x.kind ++ [123] ++ x.key ++ Ent.showF x.fields ++ [125, 10] ++ Ent.showN l).length ≤ (l.length + 1) * 1200
    simp only [List.length_append, List.length_cons, List.length_nil]
    omega
theorem cut_small (l : List Ent.Ent) (n : Nat) : ∀ x ∈ Ent.cutL l n, x.kind.length ≤ 80 ∧ x.key.length ≤ 80 ∧ x.fields.length ≤ 6 ∧ ∀ f ∈ x.fields, f.name.length ≤ 80 ∧ f.text.length ≤ 80 := by
  intro x hx
  unfold Ent.cutL at hx
  obtain ⟨y, _, rfl⟩ := List.mem_map.1 hx
  refine ⟨?_, ?_, ?_, fun f hf => ?_⟩
  · show (y.kind.take 80).length ≤ _; rw [List.length_take]; omega
  · show (y.key.take 80).length ≤ _; rw [List.length_take]; omega
  · show ((y.fields.take 6).map Ent.cutF).length ≤ 6
    rw [List.length_map, List.length_take]; omega
  · obtain ⟨g, _, rfl⟩ := List.mem_map.1 hf
    constructor
    · show (g.name.take 80).length ≤ _; rw [List.length_take]; omega
    · show (g.text.take 80).length ≤ _; rw [List.length_take]; omega
theorem cut_len (l : List Ent.Ent) (n : Nat) : (Ent.cutL l n).length ≤ n := by unfold Ent.cutL; rw [List.length_map, List.length_take]; omega
/-- entries that were cut -/
structure CutOk (c : List Ent.Ent) : Prop where
  ok : ∀ x ∈ c, EntOk x
  len : c.length ≤ 8
  flds : ∀ x ∈ c, x.fields.length ≤ 6
  show_ : (Ent.showN c).length ≤ 9600
theorem cutok (l : List Ent.Ent) : CutOk (Ent.cutL l 8) :=
  ⟨fun x hx => (cut_ok l 8 x hx).1, cut_len l 8, fun x hx => (cut_ok l 8 x hx).2, by
    have h1 := showN_bound (Ent.cutL l 8) (cut_small l 8)
    have h2 : (Ent.cutL l 8).length * 1200 ≤ 8 * 1200 := Nat.mul_le_mul_right _ (cut_len l 8)
    omega⟩
theorem law_cut8 (l : List Ent.Ent) (p : Option Addr) (cap : Nat) (w : World) (hE : OEnt w p l) (hl : l.length ≤ maxLen) :
    Calls Tryd.prog 8 #[.slice p l.length cap, .int .i64 8] w fun e w' => ∃ p1 c cap1, CutOk c ∧ e = .returned (.slice p1 c.length cap1) ∧ Ents (fun _ => True) w' (.slice p1 c.length cap1) c ∧ Below w.heap.size w w' := by
  refine (law_cut l p cap 8 w hE hl (by omega)).mono ?_
  rintro e w' ⟨vo, rfl, hO, hb⟩
  have hE := hO.ents
  obtain ⟨p1, cap1, rfl, _⟩ := hE
  exact ⟨p1, _, cap1, cutok l, rfl, hO.ents, hb⟩
end Go.Proofs.YtddgdfcgjjdlcaaDoor
namespace Go.Proofs.YtddgdfcgjjdlcaaDoor.lawEBack
open Go.RowKit
def na (c : UInt8) : Bool := !(c == 64)
def tof (l : List UInt8) : List UInt8 := l.filter na
theorem tof_no (l : List UInt8) : Ent.noAt (tof l) = true := by
  unfold Ent.noAt
  rw [List.all_eq_true]
  intro x hx
  exact (List.mem_filter.1 hx).2
theorem tof_len (l : List UInt8) : (tof l).length ≤ l.length := List.length_filter_le _ _
theorem parseE (c : List Ent.Ent) (t : List UInt8) (w : World) (hr : Ent.right c = true) (ht : Ent.noAt t = true) (hl : t.length ≤ 60) (hc : CutOk c) :
    Calls Tryd.prog 17 #[.string ((⟨t.toArray⟩ ++ ⟨(Ent.showN c).toArray⟩) ++ ⟨t.toArray⟩)] w fun e w' => ∃ vo p k, e = .returned (.tuple #[vo, .slice p 0 k]) ∧ Ents (fun _ => True) w' vo c ∧ Below w.heap.size w w' := by
  have he : ((⟨t.toArray⟩ : ByteArray) ++ ⟨(Ent.showN c).toArray⟩) ++ ⟨t.toArray⟩ = ⟨(t ++ (Ent.showN c ++ t)).toArray⟩ := by
    rw [append_data t (Ent.showN c), append_data (t ++ Ent.showN c) t, List.append_assoc]
  rw [he]
  have := hc.show_
  refine (entry_parse _ w (by simp only [List.length_append]; omega)).mono ?_
  rintro e w' ⟨vo, vn, rfl, h1, h2, h3⟩
  rw [Ent.law_back c t hr ht] at h1 h2
  obtain ⟨p, k, rfl, _⟩ := h2
  exact ⟨vo, p, k, rfl, h1.wide, h3⟩
set_option maxRecDepth 100000 in
set_option maxHeartbeats 3200000 in
theorem walk (p : Option Addr) (cap : Nat) (l : List Ent.Ent) (s : List UInt8) (w : World) (hE : OEnt w p l) (hl : l.length ≤ maxLen) (hs : s.length ≤ maxLen) :
    Calls Tryd.prog 4 #[.slice p l.length cap, .string ⟨s.toArray⟩] w fun e w' => e = .returned (.bool true) ∧ Below w.heap.size w w' := by
  have hsm : s.length ≤ 9223372036854775807 := by unfold maxLen at hs; omega
  have HE := Lib.hid hE; clear hE
  go_enter Tryd.func4, Tryd.ntmps4
  go_upto_region 2 with (go_at_call 8; refine (law_cut8 l p cap _ HE.out hl).mono ?_; rintro e w1 ⟨p1, c, cap1, hc, rfl, hE1, hb⟩; have HC := Lib.hid hc; have HA := Lib.hid hE1; have HB := Lib.hid hb; clear hc hE1 hb)
  have hcl : c.length ≤ 1000000000 := by have := HC.out.len; omega
  have hcs : (Ent.showN c).length ≤ 1000000000 := by have := HC.out.show_; omega
  have hcf : ∀ x ∈ c, x.fields.length ≤ 1000000000 := fun x hx => by have := HC.out.flds x hx; omega
  have Hcf := Lib.hid hcf; clear hcf hl
  cases hr : Ent.right c
  · have hsh : Ent.shown c = ([], 5) := by unfold Ent.shown; rw [hr]; rfl
    have Hsh := Lib.hid hsh; have Hr := Lib.hid hr; clear hsh hr
    go_wp2_with (first
      | (go_at_call 9; refine (entry_show c (.slice p1 c.length cap1) _ _ HA.out HC.out.ok hcl hcs).mono ?_; rw [Hsh.out]; rintro e w2 ⟨rfl, hb⟩; replace HA := Lib.hid (HA.out.below hb); replace HB := Lib.hid (HB.out.trans (hb.mono HB.out.size)); clear hb)
      | (go_at_call 12; refine (entry_right c (.slice p1 c.length cap1) _ _ HA.out HC.out.ok hcl).mono ?_; rw [Hr.out]; rintro e w2 ⟨rfl, hb⟩; replace HA := Lib.hid (HA.out.below hb); replace HB := Lib.hid (HB.out.trans (hb.mono HB.out.size)); clear hb)
      | (go_at_call 16; refine (law_fixed _).mono ?_; rintro e w3 ⟨rfl, hb⟩; replace HA := Lib.hid (HA.out.below hb); replace HB := Lib.hid (HB.out.trans (hb.mono HB.out.size)); clear hb))
    go_ret
    exact ⟨rfl, HB.out⟩
  · have hsh : Ent.shown c = (Ent.showN c, 0) := by unfold Ent.shown; rw [hr]; rfl
    have Hsh := Lib.hid hsh; have Hr := Lib.hid hr; clear hsh hr
    go_wp2_with (go_at_call 9; refine (entry_show c (.slice p1 c.length cap1) _ _ HA.out HC.out.ok hcl hcs).mono ?_; rw [Hsh.out]; rintro e w2 ⟨rfl, hb⟩; replace HA := Lib.hid (HA.out.below hb); replace HB := Lib.hid (HB.out.trans (hb.mono HB.out.size)); clear hb)
    obtain ⟨sh, hsh2⟩ : ∃ sh, sh = Ent.showN c := ⟨_, rfl⟩
    go_loopw [7, 8] (fun tv iv wr => ∃ k : Nat, k ≤ s.length ∧ k ≤ 60 ∧ iv = .int .i64 (k : Int) ∧ tv = .string ⟨(tof (s.take k)).toArray⟩ ∧ wr = w2) (fun _ iv _ => s.length - (intOf iv).toNat)
    case atStart => exact ⟨0, Nat.zero_le _, by omega, rfl, rfl, rfl⟩
    case round =>
      obtain ⟨k, hk, hk2, rfl, rfl, rfl⟩ := hrel
      have htl : (tof (s.take k)).length ≤ 60 := Nat.le_trans (tof_len _) (by rw [List.length_take]; omega)
      have htn := tof_no (s.take k)
      obtain ⟨t, ht⟩ : ∃ t, tof (s.take k) = t := ⟨_, rfl⟩
      rw [ht] at htl htn ⊢
      have Ht := Lib.hid ht; have Htn := Lib.hid htn; clear ht htn
      by_cases hc : k < s.length ∧ k < 60
      · obtain ⟨hc1, hc2⟩ := hc
        obtain ⟨x, hx⟩ : ∃ x, s[k]? = some x := ⟨_, List.getElem?_eq_getElem hc1⟩
        have hb := byte_at s k x hx
        have hc1' : (k : Int) < (s.length : Int) := by omega
        have hc2' : (k : Int) < 60 := by omega
        have hkl : (k : Int) + 1 ≤ 9223372036854775807 := by omega
        have htk : s.take (k + 1) = s.take k ++ [x] := by rw [List.take_add_one, hx]; rfl
        have hex : (⟨s.toArray⟩ : ByteArray).extract k (k + 1) = ⟨[x].toArray⟩ := by
          rw [extract_any]
          congr 2
          obtain ⟨hk', e⟩ := List.getElem?_eq_some_iff.1 hx
          rw [List.drop_eq_getElem_cons hk', e, show k + 1 - k = 1 by omega]
          rfl
        have hx256 := x.toNat_lt
        have hto : tof (s.take (k + 1)) = t ++ (if na x then [x] else []) := by
          rw [htk]; unfold tof; rw [List.filter_append]
          have h := Ht.out
          unfold tof at h
          rw [h]
          cases hn : na x <;> simp [hn]
        have Hto := Lib.hid hto; clear hto hx htk
        by_cases h1 : x = 64
        · have q1 : ((x.toNat : Int) != 64) = false := by rw [h1]; rfl
          have hn : na x = false := by rw [h1]; rfl
          have Hn := Lib.hid hn; clear hn
          have H1 := Lib.hid h1; clear h1
          go_wp2_with fail
          go_roundw
          case rel => exact ⟨k + 1, by omega, by omega, by go_num, by rw [Hto.out, Hn.out]; simp, trivial⟩
          case measure => simp [intOf]; omega
        · have q1 : ((x.toNat : Int) != 64) = true := by
            have : x.toNat ≠ 64 := fun e => h1 (UInt8.toNat_inj.1 e)
            simp; omega
          have hn : na x = true := by unfold na; simp [h1]
          have Hn := Lib.hid hn; clear hn
          have H1 := Lib.hid h1; clear h1
          go_wp2_with fail
          go_roundw
          case rel => exact ⟨k + 1, by omega, by omega, by go_num, by rw [Hto.out, Hn.out, append_data]; rfl, trivial⟩
          case measure => simp [intOf]; omega
      · by_cases hc1 : k < s.length
        · have hk200 : k = 60 := by omega
          have d1 : (k : Int) < (s.length : Int) := by omega
          have d2 : decide ((k : Int) < 60) = false := by simp; omega
          clear hc hk200
          go_upto_region 11 with fail
          clear d1 d2 hc1 hk hk2
          go_wp2_with (first
            | (go_at_call 17; refine (parseE c t _ Hr.out Htn.out htl HC.out).mono ?_; rintro e w4 ⟨vm, p4, k4, rfl, hA2, hb⟩; have HM := Lib.hid hA2; replace HA := Lib.hid (HA.out.below hb); replace HB := Lib.hid (HB.out.trans (hb.mono HB.out.size)); clear hA2 hb)
            | (go_at_call 11; with_reducible refine (law_refs c (.slice p1 c.length cap1) _ _ HA.out hcl Hcf.out).mono ?_; rintro e w5 ⟨vr, rfl, hO, hb⟩; have HR := Lib.hid hO.ents; replace HM := Lib.hid (HM.out.below hb); replace HA := Lib.hid (HA.out.below hb); replace HB := Lib.hid (HB.out.trans (hb.mono HB.out.size)); clear hO hb)
            | (go_at_call 11; with_reducible refine (law_refs c vm _ _ HM.out hcl Hcf.out).mono ?_; rintro e w6 ⟨vr2, rfl, hO, hb⟩; have HR2 := Lib.hid hO.ents; replace HR := Lib.hid (HR.out.below hb); replace HA := Lib.hid (HA.out.below hb); replace HB := Lib.hid (HB.out.trans (hb.mono HB.out.size)); clear hO hb)
            | (go_at_call 18; refine (ref15_same c c vr vr2 _ _ _ HR.out HR2.out).mono ?_; rintro e w7 ⟨rfl, hb⟩; replace HA := Lib.hid (HA.out.below hb); replace HB := Lib.hid (HB.out.trans (hb.mono HB.out.size)); rw [decide_eq_true (rfl : c = c)]; clear hb)
            | (go_at_call 12; refine (entry_right c (.slice p1 c.length cap1) _ _ HA.out HC.out.ok hcl).mono ?_; rw [Hr.out]; rintro e w8 ⟨rfl, hb⟩; replace HA := Lib.hid (HA.out.below hb); replace HB := Lib.hid (HB.out.trans (hb.mono HB.out.size)); clear hb)
            | (go_at_call 16; refine (law_fixed _).mono ?_; rintro e w9 ⟨rfl, hb⟩; replace HA := Lib.hid (HA.out.below hb); replace HB := Lib.hid (HB.out.trans (hb.mono HB.out.size)); clear hb))
          go_ret
          exact ⟨rfl, HB.out⟩
        · have d1 : ¬ (k : Int) < (s.length : Int) := by omega
          clear hc
          go_upto_region 11 with fail
          clear d1 hc1 hk hk2
          go_wp2_with (first
            | (go_at_call 17; refine (parseE c t _ Hr.out Htn.out htl HC.out).mono ?_; rintro e w4 ⟨vm, p4, k4, rfl, hA2, hb⟩; have HM := Lib.hid hA2; replace HA := Lib.hid (HA.out.below hb); replace HB := Lib.hid (HB.out.trans (hb.mono HB.out.size)); clear hA2 hb)
            | (go_at_call 11; with_reducible refine (law_refs c (.slice p1 c.length cap1) _ _ HA.out hcl Hcf.out).mono ?_; rintro e w5 ⟨vr, rfl, hO, hb⟩; have HR := Lib.hid hO.ents; replace HM := Lib.hid (HM.out.below hb); replace HA := Lib.hid (HA.out.below hb); replace HB := Lib.hid (HB.out.trans (hb.mono HB.out.size)); clear hO hb)
            | (go_at_call 11; with_reducible refine (law_refs c vm _ _ HM.out hcl Hcf.out).mono ?_; rintro e w6 ⟨vr2, rfl, hO, hb⟩; have HR2 := Lib.hid hO.ents; replace HR := Lib.hid (HR.out.below hb); replace HA := Lib.hid (HA.out.below hb); replace HB := Lib.hid (HB.out.trans (hb.mono HB.out.size)); clear hO hb)
            | (go_at_call 18; refine (ref15_same c c vr vr2 _ _ _ HR.out HR2.out).mono ?_; rintro e w7 ⟨rfl, hb⟩; replace HA := Lib.hid (HA.out.below hb); replace HB := Lib.hid (HB.out.trans (hb.mono HB.out.size)); rw [decide_eq_true (rfl : c = c)]; clear hb)
            | (go_at_call 12; refine (entry_right c (.slice p1 c.length cap1) _ _ HA.out HC.out.ok hcl).mono ?_; rw [Hr.out]; rintro e w8 ⟨rfl, hb⟩; replace HA := Lib.hid (HA.out.below hb); replace HB := Lib.hid (HB.out.trans (hb.mono HB.out.size)); clear hb)
            | (go_at_call 16; refine (law_fixed _).mono ?_; rintro e w9 ⟨rfl, hb⟩; replace HA := Lib.hid (HA.out.below hb); replace HB := Lib.hid (HB.out.trans (hb.mono HB.out.size)); clear hb))
          go_ret
          exact ⟨rfl, HB.out⟩
theorem walk2 (p : Option Addr) (cap : Nat) (l : List Ent.Ent) (s : List UInt8) (w : World) (h : l.length ≤ maxLen ∧ s.length ≤ maxLen) (hE : OEnt w p l) :
    Calls Tryd.prog 4 #[.slice p l.length cap, .string ⟨s.toArray⟩] w fun e w' => e = .returned (.bool true) ∧ Below w.heap.size w w' := walk p cap l s w hE h.1 h.2
end Go.Proofs.YtddgdfcgjjdlcaaDoor.lawEBack
