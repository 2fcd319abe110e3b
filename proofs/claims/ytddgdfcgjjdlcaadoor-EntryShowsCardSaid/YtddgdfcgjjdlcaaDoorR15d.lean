/- stetref15's Show: its walk. -/
import Derived.Test.YtddgdfcgjjdlcaaDoorR15c
set_option linter.unusedSimpArgs false
set_option linter.unusedVariables false
namespace Go.Proofs.YtddgdfcgjjdlcaaDoor
open Go.RowKit
set_option maxRecDepth 100000 in
set_option maxHeartbeats 3200000 in
theorem ref15_show (l : List Ent.Ent) (vo : Value) (S : Nat → Prop) (w : World) (hE : Ents S w vo l) (hok : ∀ x ∈ l, EntOk x) (hl : l.length ≤ 1000000000) (hlen : (Ent.showN l).length ≤ 1000000000) :
    Calls Tryd.prog 10 #[vo] w fun e w' => e = .returned (.tuple #[.string ⟨(Ent.shown l).1.toArray⟩, .int .i64 (Ent.shown l).2]) ∧ Below w.heap.size w w' := by
  have HRt := Lib.hid (fun w' (hb : Below w.heap.size w w') => ref15_rights l vo S w' (hE.below hb) hok hl)
  obtain ⟨p, cap, rfl, hle, hm, hat⟩ := hE
  have Hat := Lib.hid hat; have Hok := Lib.hid hok; clear hat hm hle hok
  have hsh : Ent.shown l = if Ent.right l then (Ent.showN l, 0) else ([], 5) := rfl
  have Hsh := Lib.hid hsh; clear hsh
  cases hr : Ent.right l
  · rw [hr] at Hsh HRt
    have Hr := Lib.hid hr; clear hr
    go_enter Tryd.func10, Tryd.ntmps10
    go_wp2_with (go_at_call 13; refine (HRt.out _ (Below.refl _ _)).mono ?_; rintro e w2 ⟨rfl, hb⟩)
    go_ret2
    rw [Hsh.out]
    exact ⟨rfl, hb⟩
  · rw [hr] at Hsh HRt
    have Hr := Lib.hid hr; clear hr
    go_enter Tryd.func10, Tryd.ntmps10
    go_wp2_with (go_at_call 13; refine (HRt.out _ (Below.refl _ _)).mono ?_; rintro e w2 ⟨rfl, hb⟩; have Hb := Lib.hid hb; clear hb)
    go_loopw [4, 5] (fun sv i wr => ∃ k : Nat, k ≤ l.length ∧ i = .int .i64 (k : Int) ∧ sv = .string ⟨(Ent.showN (l.take k)).toArray⟩ ∧ Below w.heap.size w wr) (fun _ i _ => l.length - (intOf i).toNat)
    case atStart => exact ⟨0, Nat.zero_le _, rfl, rfl, Hb.out⟩
    case round =>
      clear Hb
      obtain ⟨k, hk, rfl, rfl, hb⟩ := hrel
      have Hb := Lib.hid hb; clear hb
      by_cases hlt : k < l.length
      · obtain ⟨x, hx⟩ : ∃ x, l[k]? = some x := ⟨_, List.getElem?_eq_getElem hlt⟩
        obtain ⟨b, off, vs, rfl, hSb, hbw, hR, hc⟩ := Hat.out k x hx
        obtain ⟨vf, rfl, hF⟩ := hR
        have e0 : wr.cell? ⟨b, off + k * 3, none⟩ = some (.string ⟨x.kind.toArray⟩) := (Hb.out.cell (p := ⟨b, off + k * 3, none⟩) hbw).trans (hc 0 _ rfl)
        have e1 : wr.cell? ⟨b, off + k * 3 + 1, none⟩ = some (.string ⟨x.key.toArray⟩) := (Hb.out.cell (p := ⟨b, off + k * 3 + 1, none⟩) hbw).trans (hc 1 _ rfl)
        have h2 := hc 2 _ rfl
        have hlt' : (k : Int) < (l.length : Int) := by omega
        have hkl : (k : Int) + 1 ≤ 9223372036854775807 := by omega
        have hsn : Ent.showN (l.take (k + 1)) = Ent.showN (l.take k) ++ ([64] ++ x.kind ++ [123] ++ x.key ++ Ent.showF x.fields ++ [125, 10]) := by
          rw [List.take_add_one, hx]; exact Ent.showN_snoc _ _
        have hs1 := Ent.showN_le l (k + 1)
        rw [hsn] at hs1
        simp only [List.length_append, List.length_cons, List.length_nil] at hs1
        obtain ⟨acc, hacc⟩ : ∃ acc, Ent.showN (l.take k) = acc := ⟨_, rfl⟩
        rw [hacc] at hsn hs1 ⊢
        have q1 : acc.length ≤ 1000000000 := by omega
        have q2 : x.kind.length ≤ 1000000000 := by omega
        have q3 : x.key.length ≤ 1000000000 := by omega
        obtain ⟨pf, cf, rfl, hF2⟩ := hF
        have hfl0 : (x.fields.length : Int) ≤ 9223372036854775807 := by have := hF2; unfold maxLen at this; omega
        have HF2 := Lib.hid hF2; have Hs1 := Lib.hid hs1; have Hsn := Lib.hid hsn; have H2 := Lib.hid h2; have Hkl := Lib.hid hkl
        clear hc hx hF2 hs1 hsn hacc h2 hkl
        go_upto_region 7 with fail
        go_quiet (fail)
        obtain ⟨wo, hwo⟩ : ∃ wo, wo = wr.drewN nq := ⟨_, rfl⟩
        rw [← hwo]
        have hbo : Below w.heap.size w wo := by rw [hwo]; exact below_drewN Hb.out _
        have Hbo := Lib.hid hbo
        clear hwo hbo Hb e0 e1
        go_wp2_with fail
        go_loopw [4, 6] (fun sv jv wr => ∃ j : Nat, j ≤ x.fields.length ∧ jv = .int .i64 (j : Int) ∧ sv = .string ⟨(acc ++ ([64] ++ x.kind ++ [123] ++ x.key ++ Ent.showF (x.fields.take j))).toArray⟩ ∧ Below wo.heap.size wo wr) (fun _ jv _ => x.fields.length - (intOf jv).toNat)
        case atStart =>
          refine ⟨0, Nat.zero_le _, rfl, ?_, Below.refl _ _⟩
          have : ∀ l : List UInt8, (⟨#[64]⟩ : ByteArray) ++ ⟨l.toArray⟩ = ⟨([64] ++ l).toArray⟩ := fun l => append_data [64] l
          have h2 : ∀ l : List UInt8, (⟨l.toArray⟩ : ByteArray) ++ ⟨#[123]⟩ = ⟨(l ++ [123]).toArray⟩ := fun l => append_data l [123]
          rw [this, h2, append_data, append_data]
          simp [Ent.showF]
        case round =>
          obtain ⟨j, hj, rfl, rfl, hbj⟩ := hrel
          have Hbw := Lib.hid (Hbo.out.trans (hbj.mono Hbo.out.size)); have Hbj := Lib.hid hbj; clear hbj
          have e2 : wr.cell? ⟨b, off + k * 3 + 2, none⟩ = some (.slice pf x.fields.length cf) := (Hbw.out.cell (p := ⟨b, off + k * 3 + 2, none⟩) hbw).trans H2.out
          by_cases hjl : j < x.fields.length
          · obtain ⟨f1, hf1⟩ : ∃ f1, x.fields[j]? = some f1 := ⟨_, List.getElem?_eq_getElem hjl⟩
            obtain ⟨b3, off3, vs3, rfl, _, hbw3, hR3, hc3⟩ := HF2.out.2.2 j f1 hf1
            have hR3 : vs3 = _ := hR3
            subst hR3
            have a0 : wr.cell? ⟨b3, off3 + j * 2, none⟩ = some (.string ⟨f1.name.toArray⟩) := (Hbw.out.cell (p := ⟨b3, off3 + j * 2, none⟩) hbw3).trans (hc3 0 _ rfl)
            have a1 : wr.cell? ⟨b3, off3 + j * 2 + 1, none⟩ = some (.string ⟨f1.text.toArray⟩) := (Hbw.out.cell (p := ⟨b3, off3 + j * 2 + 1, none⟩) hbw3).trans (hc3 1 _ rfl)
            have hj1 : (j : Int) < (x.fields.length : Int) := by omega
            have hjk : (j : Int) + 1 ≤ 9223372036854775807 := by omega
            have hsf : Ent.showF (x.fields.take (j + 1)) = Ent.showF (x.fields.take j) ++ ([44, 10] ++ f1.name ++ [61, 123] ++ f1.text ++ [125]) := by
              rw [List.take_add_one, hf1]; exact Ent.showF_snoc _ _
            have hs2 := Ent.showF_le x.fields (j + 1)
            have hs1 := Hs1.out
            rw [hsf] at hs2
            simp only [List.length_append, List.length_cons, List.length_nil] at hs2
            obtain ⟨sf, hsf2⟩ : ∃ sf, Ent.showF (x.fields.take j) = sf := ⟨_, rfl⟩
            rw [hsf2] at hsf hs2 ⊢
            obtain ⟨pre, hpre⟩ : ∃ pre, acc ++ ([64] ++ x.kind ++ [123] ++ x.key ++ sf) = pre := ⟨_, rfl⟩
            have hpl : pre.length = acc.length + (1 + x.kind.length + 1 + x.key.length + sf.length) := by rw [← hpre]; simp only [List.length_append, List.length_cons, List.length_nil]
            rw [hpre]
            have r1 : pre.length ≤ 1000000000 := by omega
            have r2 : f1.name.length ≤ 1000000000 := by omega
            have r3 : f1.text.length ≤ 1000000000 := by omega
            have r4 : ¬ 9223372036854775807 < pre.length + (2 + f1.name.length + 2 + f1.text.length + 1) := by omega
            have Hsf := Lib.hid hsf; have Hpre := Lib.hid hpre; have Hjk := Lib.hid hjk
            clear hsf hs1 hs2 hsf2 hpl hc3 hf1 hpre hjk
            go_upto_region 11 with fail
            go_quiet (fail)
            have hjk := Hjk.out
            clear e2 a0 a1 r1 r2 r3 r4 hlt' hj1
            go_wp2_with fail
            go_roundw
            case rel =>
              refine ⟨j + 1, by omega, by go_num, ?_, below_drewN Hbj.out _⟩
              have g1 : ∀ l : List UInt8, (⟨#[44, 10]⟩ : ByteArray) ++ ⟨l.toArray⟩ = ⟨([44, 10] ++ l).toArray⟩ := fun l => append_data [44, 10] l
              have g2 : ∀ l : List UInt8, (⟨l.toArray⟩ : ByteArray) ++ ⟨#[61, 123]⟩ = ⟨(l ++ [61, 123]).toArray⟩ := fun l => append_data l [61, 123]
              have g3 : ∀ l : List UInt8, (⟨l.toArray⟩ : ByteArray) ++ ⟨#[125]⟩ = ⟨(l ++ [125]).toArray⟩ := fun l => append_data l [125]
              rw [g1, g2, append_data, g3, append_data, Hsf.out, ← Hpre.out]
              simp
            case measure => simp [intOf]; omega
          · have hpl : (Ent.showF (x.fields.take j)).length ≤ (Ent.showF x.fields).length := Ent.showF_le _ _
            have hs1 := Hs1.out
            have htk : x.fields.take j = x.fields := List.take_of_length_le (by omega)
            rw [htk]
            obtain ⟨pre, hpre⟩ : ∃ pre, acc ++ ([64] ++ x.kind ++ [123] ++ x.key ++ Ent.showF x.fields) = pre := ⟨_, rfl⟩
            have hpl : pre.length + 2 ≤ 1000000000 := by rw [← hpre]; simp only [List.length_append, List.length_cons, List.length_nil]; omega
            rw [hpre]
            have Hpre := Lib.hid hpre
            clear hs1 htk hpre
            have hkl := Hkl.out
            have hj1 : ¬ (j : Int) < (x.fields.length : Int) := by omega
            go_wp2_with fail
            go_roundw
            case rel =>
              refine ⟨k + 1, by omega, by go_num, ?_, Hbw.out⟩
              have g3 : ∀ l : List UInt8, (⟨l.toArray⟩ : ByteArray) ++ ⟨#[125, 10]⟩ = ⟨(l ++ [125, 10]).toArray⟩ := fun l => append_data l [125, 10]
              rw [g3, Hsn.out, ← Hpre.out]
              simp
            case measure => simp [intOf]; omega
      · have hlt' : ¬ (k : Int) < (l.length : Int) := by omega
        go_wp2_with fail
        go_ret2
        rw [Hsh.out, List.take_of_length_le (by omega)]
        exact ⟨rfl, Hb.out⟩
end Go.Proofs.YtddgdfcgjjdlcaaDoor
