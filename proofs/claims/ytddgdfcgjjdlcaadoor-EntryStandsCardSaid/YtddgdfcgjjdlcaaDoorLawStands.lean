/- EntryStands: the law's walk. -/
import Derived.Test.YtddgdfcgjjdlcaaDoorFixW
import Derived.Test.YtddgdfcgjjdlcaaDoorStQ
namespace Go.Proofs.YtddgdfcgjjdlcaaDoor.lawStands
open Go.RowKit
def nb (c : UInt8) : Bool := !(Ent.brace1 c)
def tof (l : List UInt8) : List UInt8 := l.filter nb
def quo (l : List UInt8) : Bool := (tof l).all (fun c => !(c == 34))
theorem tof_any (l : List UInt8) : (tof l).any Ent.brace1 = false := by
  rw [List.any_eq_false]
  intro x hx
  have := (List.mem_filter.1 hx).2
  unfold nb at this
  simpa using this
theorem tof_len (l : List UInt8) : (tof l).length ≤ l.length := List.length_filter_le _ _
/-- what is known of entries that are one alone -/
theorem one_ent {S : Nat → Prop} {w : World} {va : Value} {t : List UInt8} (h : Ents S w va [Ent.theX t]) : ∃ b off ca b3 off3 cf, va = .slice (some ⟨b, off, none⟩) 1 ca ∧ w.cell? ⟨b, off + 2, none⟩ = some (.slice (some ⟨b3, off3, none⟩) 2 cf) ∧
    w.cell? ⟨b3, off3 + 1, none⟩ = some (.string ⟨t.toArray⟩) ∧ w.cell? ⟨b3, off3 + 2 + 1, none⟩ = some (.string ⟨(t ++ [55]).toArray⟩) ∧ b < w.heap.size ∧ b3 < w.heap.size := by
  obtain ⟨p, cap, rfl, _, _, hat⟩ := h
  obtain ⟨b, off, vs, rfl, _, hb, ⟨vf, rfl, pf, cf, rfl, _, _, hf⟩, hc⟩ := hat 0 _ rfl
  obtain ⟨b3, off3, vs3, rfl, _, hb3, hR3, hc3⟩ := hf 0 _ rfl
  obtain ⟨b4, off4, vs4, he, _, _, hR4, hc4⟩ := hf 1 _ rfl
  injection he with he
  injection he with he1 he2
  subst he1
  subst he2
  have hR3 : vs3 = _ := hR3
  have hR4 : vs4 = _ := hR4
  subst hR3
  subst hR4
  refine ⟨b, off, cap, b3, off3, cf, rfl, ?_, ?_, ?_, hb, hb3⟩
  · have := hc 2 _ rfl
    show w.cell? ⟨b, off + 2, none⟩ = some (.slice (some ⟨b3, off3, none⟩) (Ent.theX t).fields.length cf)
    simpa using this
  · have := hc3 1 _ rfl
    simpa using this
  · have := hc4 1 _ rfl
    simpa [Nat.add_assoc] using this
theorem one_len (t : List UInt8) : [Ent.theX t].length ≤ 1000000000 := by show 1 ≤ 1000000000; omega
theorem one_flds (t : List UInt8) : ∀ x ∈ [Ent.theX t], x.fields.length ≤ 1000000000 := fun x hx => by rw [List.mem_singleton.1 hx]; show 2 ≤ 1000000000; omega
theorem parseA (t : List UInt8) (w : World) (ht : t.any Ent.brace1 = false) (hl : t.length ≤ 200) : Calls Tryd.prog 17 #[.string (((⟨#[64, 115, 116, 114, 105, 110, 103, 123, 108, 111, 110, 103, 45, 110, 97, 109, 101, 61, 123]⟩ : ByteArray) ++ ⟨t.toArray⟩) ++ ⟨#[125, 125, 32, 64, 120, 123, 107, 44, 102, 61, 76, 111, 110, 103, 45, 78, 97, 109, 101, 44, 103, 61, 108, 111, 110, 103, 45, 110, 97, 109, 101, 35, 55, 125]⟩)] w fun e w' => ∃ b off ca p c, e = .returned (.tuple #[.slice (some ⟨b, off, none⟩) 1 ca, .slice p 0 c]) ∧ Ents (fun _ => True) w' (.slice (some ⟨b, off, none⟩) 1 ca) [Ent.theX t] ∧ Below w.heap.size w w' := by
  have he : ((⟨#[64, 115, 116, 114, 105, 110, 103, 123, 108, 111, 110, 103, 45, 110, 97, 109, 101, 61, 123]⟩ : ByteArray) ++ ⟨t.toArray⟩) ++ ⟨#[125, 125, 32, 64, 120, 123, 107, 44, 102, 61, 76, 111, 110, 103, 45, 78, 97, 109, 101, 44, 103, 61, 108, 111, 110, 103, 45, 110, 97, 109, 101, 35, 55, 125]⟩ = ⟨([64, 115, 116, 114, 105, 110, 103, 123, 108, 111, 110, 103, 45, 110, 97, 109, 101, 61, 123] ++ (t ++ [125, 125, 32, 64, 120, 123, 107, 44, 102, 61, 76, 111, 110, 103, 45, 78, 97, 109, 101, 44, 103, 61, 108, 111, 110, 103, 45, 110, 97, 109, 101, 35, 55, 125])).toArray⟩ := by
    have h1 : (⟨#[64, 115, 116, 114, 105, 110, 103, 123, 108, 111, 110, 103, 45, 110, 97, 109, 101, 61, 123]⟩ : ByteArray) ++ ⟨t.toArray⟩ = ⟨([64, 115, 116, 114, 105, 110, 103, 123, 108, 111, 110, 103, 45, 110, 97, 109, 101, 61, 123] ++ t).toArray⟩ := append_data [64, 115, 116, 114, 105, 110, 103, 123, 108, 111, 110, 103, 45, 110, 97, 109, 101, 61, 123] t
    rw [h1, ← List.append_assoc]
    exact append_data ([64, 115, 116, 114, 105, 110, 103, 123, 108, 111, 110, 103, 45, 110, 97, 109, 101, 61, 123] ++ t) [125, 125, 32, 64, 120, 123, 107, 44, 102, 61, 76, 111, 110, 103, 45, 78, 97, 109, 101, 44, 103, 61, 108, 111, 110, 103, 45, 110, 97, 109, 101, 35, 55, 125]
  rw [he]
  refine (entry_parse _ w (by simp; omega)).mono ?_
  rintro e w' ⟨vo, vn, rfl, h1, h2, h3⟩
  rw [Ent.stands1 t ht hl] at h1 h2
  obtain ⟨p, c, rfl, _⟩ := h2
  obtain ⟨b, off, ca, _, _, _, rfl, _⟩ := one_ent h1
  exact ⟨b, off, ca, p, c, rfl, h1.wide, h3⟩
theorem parseB (t : List UInt8) (w : World) (ht : t.any Ent.brace1 = false) (hl : t.length ≤ 200) : Calls Tryd.prog 17 #[.string (((((⟨#[64, 120, 123, 107, 44, 102, 61, 123]⟩ : ByteArray) ++ ⟨t.toArray⟩) ++ ⟨#[125, 44, 103, 61, 123]⟩) ++ ⟨t.toArray⟩) ++ ⟨#[125, 35, 123, 55, 125, 125]⟩)] w fun e w' => ∃ va p c, e = .returned (.tuple #[va, .slice p 0 c]) ∧ Ents (fun _ => True) w' va [Ent.theX t] ∧ Below w.heap.size w w' := by
  have he : ((((⟨#[64, 120, 123, 107, 44, 102, 61, 123]⟩ : ByteArray) ++ ⟨t.toArray⟩) ++ ⟨#[125, 44, 103, 61, 123]⟩) ++ ⟨t.toArray⟩) ++ ⟨#[125, 35, 123, 55, 125, 125]⟩ = ⟨([64, 120, 123, 107, 44, 102, 61, 123] ++ (t ++ ([125, 44, 103, 61, 123] ++ (t ++ [125, 35, 123, 55, 125, 125])))).toArray⟩ := by
    have h1 : (⟨#[64, 120, 123, 107, 44, 102, 61, 123]⟩ : ByteArray) ++ ⟨t.toArray⟩ = ⟨([64, 120, 123, 107, 44, 102, 61, 123] ++ t).toArray⟩ := append_data [64, 120, 123, 107, 44, 102, 61, 123] t
    have h2 : (⟨([64, 120, 123, 107, 44, 102, 61, 123] ++ t).toArray⟩ : ByteArray) ++ ⟨#[125, 44, 103, 61, 123]⟩ = ⟨(([64, 120, 123, 107, 44, 102, 61, 123] ++ t) ++ [125, 44, 103, 61, 123]).toArray⟩ := append_data _ [125, 44, 103, 61, 123]
    have h3 : (⟨((([64, 120, 123, 107, 44, 102, 61, 123] ++ t) ++ [125, 44, 103, 61, 123]) ++ t).toArray⟩ : ByteArray) ++ ⟨#[125, 35, 123, 55, 125, 125]⟩ = ⟨(((([64, 120, 123, 107, 44, 102, 61, 123] ++ t) ++ [125, 44, 103, 61, 123]) ++ t) ++ [125, 35, 123, 55, 125, 125]).toArray⟩ := append_data _ [125, 35, 123, 55, 125, 125]
    rw [h1, h2, append_data (([64, 120, 123, 107, 44, 102, 61, 123] ++ t) ++ [125, 44, 103, 61, 123]) t, h3]
    simp only [List.append_assoc]
  rw [he]
  refine (entry_parse _ w (by simp; omega)).mono ?_
  rintro e w' ⟨vo, vn, rfl, h1, h2, h3⟩
  have h0 := Ent.stands2 t ht hl
  have h0' : Ent.parse ([64, 120, 123, 107, 44, 102, 61, 123] ++ (t ++ ([125, 44, 103, 61, 123] ++ (t ++ [125, 35, 123, 55, 125, 125])))) = ([Ent.theX t], []) := h0
  rw [h0'] at h1 h2
  obtain ⟨p, c, rfl, _⟩ := h2
  exact ⟨vo, p, c, rfl, h1.wide, h3⟩
theorem parseC (t : List UInt8) (w : World) (ht : t.all (fun c => !(c == 34)) = true) (hl : t.length ≤ 200) : Calls Tryd.prog 17 #[.string (((((⟨#[64, 120, 123, 107, 44, 102, 61, 34]⟩ : ByteArray) ++ ⟨t.toArray⟩) ++ ⟨#[34, 44, 103, 61, 34]⟩) ++ ⟨t.toArray⟩) ++ ⟨#[34, 35, 55, 125]⟩)] w fun e w' => ∃ va p c, e = .returned (.tuple #[va, .slice p 0 c]) ∧ Ents (fun _ => True) w' va [Ent.theX t] ∧ Below w.heap.size w w' := by
  have he : ((((⟨#[64, 120, 123, 107, 44, 102, 61, 34]⟩ : ByteArray) ++ ⟨t.toArray⟩) ++ ⟨#[34, 44, 103, 61, 34]⟩) ++ ⟨t.toArray⟩) ++ ⟨#[34, 35, 55, 125]⟩ = ⟨([64, 120, 123, 107, 44, 102, 61, 34] ++ (t ++ ([34, 44, 103, 61, 34] ++ (t ++ [34, 35, 55, 125])))).toArray⟩ := by
    have h1 : (⟨#[64, 120, 123, 107, 44, 102, 61, 34]⟩ : ByteArray) ++ ⟨t.toArray⟩ = ⟨([64, 120, 123, 107, 44, 102, 61, 34] ++ t).toArray⟩ := append_data [64, 120, 123, 107, 44, 102, 61, 34] t
    have h2 : (⟨([64, 120, 123, 107, 44, 102, 61, 34] ++ t).toArray⟩ : ByteArray) ++ ⟨#[34, 44, 103, 61, 34]⟩ = ⟨(([64, 120, 123, 107, 44, 102, 61, 34] ++ t) ++ [34, 44, 103, 61, 34]).toArray⟩ := append_data _ [34, 44, 103, 61, 34]
    have h3 : (⟨((([64, 120, 123, 107, 44, 102, 61, 34] ++ t) ++ [34, 44, 103, 61, 34]) ++ t).toArray⟩ : ByteArray) ++ ⟨#[34, 35, 55, 125]⟩ = ⟨(((([64, 120, 123, 107, 44, 102, 61, 34] ++ t) ++ [34, 44, 103, 61, 34]) ++ t) ++ [34, 35, 55, 125]).toArray⟩ := append_data _ [34, 35, 55, 125]
    rw [h1, h2, append_data (([64, 120, 123, 107, 44, 102, 61, 34] ++ t) ++ [34, 44, 103, 61, 34]) t, h3]
    simp only [List.append_assoc]
  rw [he]
  refine (entry_parse _ w (by simp; omega)).mono ?_
  rintro e w' ⟨vo, vn, rfl, h1, h2, h3⟩
  have h0 := Ent.stands3 t ht hl
  have h0' : Ent.parse ([64, 120, 123, 107, 44, 102, 61, 34] ++ (t ++ ([34, 44, 103, 61, 34] ++ (t ++ [34, 35, 55, 125])))) = ([Ent.theX t], []) := h0
  rw [h0'] at h1 h2
  obtain ⟨p, c, rfl, _⟩ := h2
  exact ⟨vo, p, c, rfl, h1.wide, h3⟩
theorem parseD (t : List UInt8) (w : World) (hl : t.length ≤ 200) : Calls Tryd.prog 17 #[.string (((((⟨#[64, 120, 123, 107, 44, 102, 61, 34]⟩ : ByteArray) ++ ⟨t.toArray⟩) ++ ⟨#[34, 44, 103, 61, 34]⟩) ++ ⟨t.toArray⟩) ++ ⟨#[34, 35, 55, 125]⟩)] w fun e w' => ∃ va vn, e = .returned (.tuple #[va, vn]) ∧ Below w.heap.size w w' := by
  have he : ((((⟨#[64, 120, 123, 107, 44, 102, 61, 34]⟩ : ByteArray) ++ ⟨t.toArray⟩) ++ ⟨#[34, 44, 103, 61, 34]⟩) ++ ⟨t.toArray⟩) ++ ⟨#[34, 35, 55, 125]⟩ = ⟨([64, 120, 123, 107, 44, 102, 61, 34] ++ (t ++ ([34, 44, 103, 61, 34] ++ (t ++ [34, 35, 55, 125])))).toArray⟩ := by
    have h1 : (⟨#[64, 120, 123, 107, 44, 102, 61, 34]⟩ : ByteArray) ++ ⟨t.toArray⟩ = ⟨([64, 120, 123, 107, 44, 102, 61, 34] ++ t).toArray⟩ := append_data [64, 120, 123, 107, 44, 102, 61, 34] t
    have h2 : (⟨([64, 120, 123, 107, 44, 102, 61, 34] ++ t).toArray⟩ : ByteArray) ++ ⟨#[34, 44, 103, 61, 34]⟩ = ⟨(([64, 120, 123, 107, 44, 102, 61, 34] ++ t) ++ [34, 44, 103, 61, 34]).toArray⟩ := append_data _ [34, 44, 103, 61, 34]
    have h3 : (⟨((([64, 120, 123, 107, 44, 102, 61, 34] ++ t) ++ [34, 44, 103, 61, 34]) ++ t).toArray⟩ : ByteArray) ++ ⟨#[34, 35, 55, 125]⟩ = ⟨(((([64, 120, 123, 107, 44, 102, 61, 34] ++ t) ++ [34, 44, 103, 61, 34]) ++ t) ++ [34, 35, 55, 125]).toArray⟩ := append_data _ [34, 35, 55, 125]
    rw [h1, h2, append_data (([64, 120, 123, 107, 44, 102, 61, 34] ++ t) ++ [34, 44, 103, 61, 34]) t, h3]
    simp only [List.append_assoc]
  rw [he]
  refine (entry_parse _ w (by simp; omega)).mono ?_
  rintro e w' ⟨vo, vn, rfl, h1, h2, h3⟩
  exact ⟨vo, vn, rfl, h3⟩
set_option maxRecDepth 100000 in
set_option maxHeartbeats 3200000 in
theorem walk (s : List UInt8) (w : World) (hs : s.length ≤ maxLen) : Calls Tryd.prog 7 #[.string ⟨s.toArray⟩] w fun e w' => e = .returned (.bool true) ∧ Below w.heap.size w w' := by
  have hsm : s.length ≤ 9223372036854775807 := by unfold maxLen at hs; omega
  go_enter Tryd.func7, Tryd.ntmps7
  go_wp2_with fail
  go_loop [3, 4, 5] (fun tv qv iv => ∃ k : Nat, k ≤ s.length ∧ k ≤ 200 ∧ iv = .int .i64 (k : Int) ∧ tv = .string ⟨(tof (s.take k)).toArray⟩ ∧ qv = .bool (quo (s.take k))) (fun _ _ iv => s.length - (intOf iv).toNat)
  case atStart => exact ⟨0, Nat.zero_le _, by omega, rfl, rfl, rfl⟩
  case round =>
    obtain ⟨k, hk, hk2, rfl, rfl, rfl⟩ := hrel
    have htl : (tof (s.take k)).length ≤ 200 := Nat.le_trans (tof_len _) (by rw [List.length_take]; omega)
    obtain ⟨t, ht⟩ : ∃ t, tof (s.take k) = t := ⟨_, rfl⟩
    obtain ⟨q, hq⟩ : ∃ q, quo (s.take k) = q := ⟨_, rfl⟩
    rw [ht] at htl ⊢
    rw [hq]
    have Ht := Lib.hid ht; have Hq := Lib.hid hq; clear ht hq
    by_cases hc : k < s.length ∧ k < 200
    · obtain ⟨hc1, hc2⟩ := hc
      obtain ⟨x, hx⟩ : ∃ x, s[k]? = some x := ⟨_, List.getElem?_eq_getElem hc1⟩
      have hb := byte_at s k x hx
      have hc1' : (k : Int) < (s.length : Int) := by omega
      have hc2' : (k : Int) < 200 := by omega
      have hkl : (k : Int) + 1 ≤ 9223372036854775807 := by omega
      have htk : s.take (k + 1) = s.take k ++ [x] := by rw [List.take_add_one, hx]; rfl
      have hex : (⟨s.toArray⟩ : ByteArray).extract k (k + 1) = ⟨[x].toArray⟩ := by
        rw [extract_any]
        congr 2
        obtain ⟨hk', e⟩ := List.getElem?_eq_some_iff.1 hx
        rw [List.drop_eq_getElem_cons hk', e, show k + 1 - k = 1 by omega]
        rfl
      have Htk := Lib.hid htk; clear htk hx
      have hx256 := x.toNat_lt
      have hto : tof (s.take (k + 1)) = t ++ (if nb x then [x] else []) := by
        rw [Htk.out]; unfold tof; rw [List.filter_append]
        have h := Ht.out
        unfold tof at h
        rw [h]
        cases hn : nb x <;> simp [hn]
      have hqo : quo (s.take (k + 1)) = (q && (if nb x then !(x == 34) else true)) := by
        have h := Hq.out
        unfold quo at h ⊢
        rw [hto, List.all_append]
        rw [Ht.out] at h
        rw [h]
        cases hn : nb x <;> simp
      have Hto := Lib.hid hto; have Hqo := Lib.hid hqo; clear hto hqo
      by_cases h1 : x = 123
      · have q1 : ((x.toNat : Int) != 123) = false := by rw [h1]; rfl
        have hn : nb x = false := by rw [h1]; rfl
        have Hn := Lib.hid hn; clear hn
        have H1 := Lib.hid h1; clear h1
        go_wp2_with fail
        go_round
        case rel => exact ⟨k + 1, by omega, by omega, by go_num, by rw [Hto.out, Hn.out]; simp, by rw [Hqo.out, Hn.out]; simp⟩
        case measure => simp [intOf]; omega
      · have q1 : ((x.toNat : Int) != 123) = true := by
          have : x.toNat ≠ 123 := fun e => h1 (UInt8.toNat_inj.1 e)
          simp; omega
        have H1 := Lib.hid h1; clear h1
        by_cases h2 : x = 125
        · have q2 : ((x.toNat : Int) != 125) = false := by rw [h2]; rfl
          have hn : nb x = false := by rw [h2]; rfl
          have Hn := Lib.hid hn; clear hn
          have H2 := Lib.hid h2; clear h2
          go_wp2_with fail
          go_round
          case rel => exact ⟨k + 1, by omega, by omega, by go_num, by rw [Hto.out, Hn.out]; simp, by rw [Hqo.out, Hn.out]; simp⟩
          case measure => simp [intOf]; omega
        · have q2 : ((x.toNat : Int) != 125) = true := by
            have : x.toNat ≠ 125 := fun e => h2 (UInt8.toNat_inj.1 e)
            simp; omega
          have hn : nb x = true := by unfold nb Ent.brace1; simp [H1.out, h2]
          have Hn := Lib.hid hn; have H2 := Lib.hid h2; clear hn h2
          cases q
          · go_wp2_with fail
            go_round
            case rel => exact ⟨k + 1, by omega, by omega, by go_num, by rw [Hto.out, Hn.out, append_data]; rfl, by rw [Hqo.out]; simp⟩
            case measure => simp [intOf]; omega
          · by_cases h3 : x = 34
            · have q3 : ((x.toNat : Int) != 34) = false := by rw [h3]; rfl
              have H3 := Lib.hid h3; clear h3
              go_wp2_with fail
              go_round
              case rel => exact ⟨k + 1, by omega, by omega, by go_num, by rw [Hto.out, Hn.out, append_data]; rfl, by rw [Hqo.out, Hn.out, H3.out]; rfl⟩
              case measure => simp [intOf]; omega
            · have q3 : ((x.toNat : Int) != 34) = true := by
                have : x.toNat ≠ 34 := fun e => h3 (UInt8.toNat_inj.1 e)
                simp; omega
              have H3 := Lib.hid h3; clear h3
              go_wp2_with fail
              go_round
              case rel => exact ⟨k + 1, by omega, by omega, by go_num, by rw [Hto.out, Hn.out, append_data]; rfl, by rw [Hqo.out, Hn.out]; simp [H3.out]⟩
              case measure => simp [intOf]; omega
    · have hg : ¬ ((k : Int) < (s.length : Int) ∧ (k : Int) < 200) := by omega
      have hta := tof_any (s.take k)
      rw [Ht.out] at hta
      have Hta := Lib.hid hta
      clear hta
      by_cases hc1 : k < s.length
      · have hk200 : k = 200 := by omega
        have d1 : (k : Int) < (s.length : Int) := by omega
        have d2 : decide ((k : Int) < 200) = false := by simp; omega
        clear hc hg hk200
        go_upto_region 8 with fail
        clear d1 d2 hc1 hk hk2
        go_upto_region 9 with (go_at_call 17; refine (parseA t _ Hta.out htl).mono ?_; rintro e w1 ⟨b, off, ca, p1, c1, rfl, hA, hb⟩; have HA := Lib.hid hA; have HB := Lib.hid hb; clear hA hb)
        go_upto_region 10 with (go_at_call 17; refine (parseB t _ Hta.out htl).mono ?_; rintro e w2 ⟨vb, p2, c2, rfl, hA2, hb⟩; have HA2 := Lib.hid hA2; replace HA := Lib.hid (HA.out.below hb); replace HB := Lib.hid (HB.out.trans (hb.mono HB.out.size)); clear hA2 hb)
        have happ : (⟨t.toArray⟩ : ByteArray) ++ ⟨#[55]⟩ = ⟨(t ++ [55]).toArray⟩ := append_data t [55]
        go_upto_region 12 with (first
          | (go_at_call 11; with_reducible refine (law_refs [Ent.theX t] (.slice (some ⟨b, off, none⟩) 1 ca) _ _ HA.out (one_len t) (one_flds t)).mono ?_; rintro e w3 ⟨vr, rfl, hO, hb⟩; have HR := Lib.hid hO.ents; replace HA2 := Lib.hid (HA2.out.below hb); replace HA := Lib.hid (HA.out.below hb); replace HB := Lib.hid (HB.out.trans (hb.mono HB.out.size)); clear hO hb)
          | (go_at_call 11; with_reducible refine (law_refs [Ent.theX t] vb _ _ HA2.out (one_len t) (one_flds t)).mono ?_; rintro e w4 ⟨vr2, rfl, hO, hb⟩; have HR2 := Lib.hid hO.ents; replace HR := Lib.hid (HR.out.below hb); replace HA := Lib.hid (HA.out.below hb); replace HB := Lib.hid (HB.out.trans (hb.mono HB.out.size)); clear hO hb)
          | (go_at_call 18; refine (ref15_same [Ent.theX t] [Ent.theX t] vr vr2 _ _ _ HR.out HR2.out).mono ?_; rintro e w5 ⟨rfl, hb⟩; replace HA := Lib.hid (HA.out.below hb); replace HB := Lib.hid (HB.out.trans (hb.mono HB.out.size)); rw [decide_eq_true (rfl : [Ent.theX t] = [Ent.theX t])]; obtain ⟨b', off', ca', b3, off3, cf, hv, m2, m3, m4, _, _⟩ := one_ent HA.out; injection hv with hv _ hca; injection hv with hv; injection hv with hv1 hv2; subst hv1; subst hv2; subst hca; clear hb))
        clear m2 m3 m4 happ
        cases q
        · go_wp2_with (first
            | (go_at_call 17; refine (parseD t _ htl).mono ?_; rintro e w6 ⟨vc, vn, rfl, hb⟩; replace HA := Lib.hid (HA.out.below hb); replace HB := Lib.hid (HB.out.trans (hb.mono HB.out.size)); clear hb)
            | (go_at_call 16; refine (law_fixed _).mono ?_; rintro e w7 ⟨rfl, hb⟩; replace HA := Lib.hid (HA.out.below hb); replace HB := Lib.hid (HB.out.trans (hb.mono HB.out.size)); clear hb))
          go_ret
          exact ⟨rfl, HB.out⟩
        · have hqa : t.all (fun c => !(c == 34)) = true := by have h := Hq.out; unfold quo at h; rw [Ht.out] at h; exact h
          have Hqa := Lib.hid hqa; clear hqa
          go_upto_region 13 with (go_at_call 17; refine (parseC t _ Hqa.out htl).mono ?_; rintro e w6 ⟨vc, p3, c3, rfl, hA3, hb⟩; have HA3 := Lib.hid hA3; replace HA := Lib.hid (HA.out.below hb); replace HB := Lib.hid (HB.out.trans (hb.mono HB.out.size)); clear hA3 hb)
          go_wp2_with (first
            | (go_at_call 11; with_reducible refine (law_refs [Ent.theX t] vc _ _ HA3.out (one_len t) (one_flds t)).mono ?_; rintro e w7 ⟨vr3, rfl, hO, hb⟩; have HR3 := Lib.hid hO.ents; replace HA := Lib.hid (HA.out.below hb); replace HB := Lib.hid (HB.out.trans (hb.mono HB.out.size)); clear hO hb)
            | (go_at_call 11; with_reducible refine (law_refs [Ent.theX t] (.slice (some ⟨b, off, none⟩) 1 ca) _ _ HA.out (one_len t) (one_flds t)).mono ?_; rintro e w8 ⟨vr4, rfl, hO, hb⟩; have HR4 := Lib.hid hO.ents; replace HR3 := Lib.hid (HR3.out.below hb); replace HA := Lib.hid (HA.out.below hb); replace HB := Lib.hid (HB.out.trans (hb.mono HB.out.size)); clear hO hb)
            | (go_at_call 18; refine (ref15_same [Ent.theX t] [Ent.theX t] vr3 vr4 _ _ _ HR3.out HR4.out).mono ?_; rintro e w9 ⟨rfl, hb⟩; replace HA := Lib.hid (HA.out.below hb); replace HB := Lib.hid (HB.out.trans (hb.mono HB.out.size)); rw [decide_eq_true (rfl : [Ent.theX t] = [Ent.theX t])]; clear hb)
            | (go_at_call 16; refine (law_fixed _).mono ?_; rintro e w10 ⟨rfl, hb⟩; replace HA := Lib.hid (HA.out.below hb); replace HB := Lib.hid (HB.out.trans (hb.mono HB.out.size)); clear hb))
          go_ret
          exact ⟨rfl, HB.out⟩
      · have d1 : ¬ (k : Int) < (s.length : Int) := by omega
        clear hc hg
        go_upto_region 8 with fail
        clear d1 hc1 hk hk2
        go_upto_region 9 with (go_at_call 17; refine (parseA t _ Hta.out htl).mono ?_; rintro e w1 ⟨b, off, ca, p1, c1, rfl, hA, hb⟩; have HA := Lib.hid hA; have HB := Lib.hid hb; clear hA hb)
        go_upto_region 10 with (go_at_call 17; refine (parseB t _ Hta.out htl).mono ?_; rintro e w2 ⟨vb, p2, c2, rfl, hA2, hb⟩; have HA2 := Lib.hid hA2; replace HA := Lib.hid (HA.out.below hb); replace HB := Lib.hid (HB.out.trans (hb.mono HB.out.size)); clear hA2 hb)
        have happ : (⟨t.toArray⟩ : ByteArray) ++ ⟨#[55]⟩ = ⟨(t ++ [55]).toArray⟩ := append_data t [55]
        go_upto_region 12 with (first
          | (go_at_call 11; with_reducible refine (law_refs [Ent.theX t] (.slice (some ⟨b, off, none⟩) 1 ca) _ _ HA.out (one_len t) (one_flds t)).mono ?_; rintro e w3 ⟨vr, rfl, hO, hb⟩; have HR := Lib.hid hO.ents; replace HA2 := Lib.hid (HA2.out.below hb); replace HA := Lib.hid (HA.out.below hb); replace HB := Lib.hid (HB.out.trans (hb.mono HB.out.size)); clear hO hb)
          | (go_at_call 11; with_reducible refine (law_refs [Ent.theX t] vb _ _ HA2.out (one_len t) (one_flds t)).mono ?_; rintro e w4 ⟨vr2, rfl, hO, hb⟩; have HR2 := Lib.hid hO.ents; replace HR := Lib.hid (HR.out.below hb); replace HA := Lib.hid (HA.out.below hb); replace HB := Lib.hid (HB.out.trans (hb.mono HB.out.size)); clear hO hb)
          | (go_at_call 18; refine (ref15_same [Ent.theX t] [Ent.theX t] vr vr2 _ _ _ HR.out HR2.out).mono ?_; rintro e w5 ⟨rfl, hb⟩; replace HA := Lib.hid (HA.out.below hb); replace HB := Lib.hid (HB.out.trans (hb.mono HB.out.size)); rw [decide_eq_true (rfl : [Ent.theX t] = [Ent.theX t])]; obtain ⟨b', off', ca', b3, off3, cf, hv, m2, m3, m4, _, _⟩ := one_ent HA.out; injection hv with hv _ hca; injection hv with hv; injection hv with hv1 hv2; subst hv1; subst hv2; subst hca; clear hb))
        clear m2 m3 m4 happ
        cases q
        · go_wp2_with (first
            | (go_at_call 17; refine (parseD t _ htl).mono ?_; rintro e w6 ⟨vc, vn, rfl, hb⟩; replace HA := Lib.hid (HA.out.below hb); replace HB := Lib.hid (HB.out.trans (hb.mono HB.out.size)); clear hb)
            | (go_at_call 16; refine (law_fixed _).mono ?_; rintro e w7 ⟨rfl, hb⟩; replace HA := Lib.hid (HA.out.below hb); replace HB := Lib.hid (HB.out.trans (hb.mono HB.out.size)); clear hb))
          go_ret
          exact ⟨rfl, HB.out⟩
        · have hqa : t.all (fun c => !(c == 34)) = true := by have h := Hq.out; unfold quo at h; rw [Ht.out] at h; exact h
          have Hqa := Lib.hid hqa; clear hqa
          go_upto_region 13 with (go_at_call 17; refine (parseC t _ Hqa.out htl).mono ?_; rintro e w6 ⟨vc, p3, c3, rfl, hA3, hb⟩; have HA3 := Lib.hid hA3; replace HA := Lib.hid (HA.out.below hb); replace HB := Lib.hid (HB.out.trans (hb.mono HB.out.size)); clear hA3 hb)
          go_wp2_with (first
            | (go_at_call 11; with_reducible refine (law_refs [Ent.theX t] vc _ _ HA3.out (one_len t) (one_flds t)).mono ?_; rintro e w7 ⟨vr3, rfl, hO, hb⟩; have HR3 := Lib.hid hO.ents; replace HA := Lib.hid (HA.out.below hb); replace HB := Lib.hid (HB.out.trans (hb.mono HB.out.size)); clear hO hb)
            | (go_at_call 11; with_reducible refine (law_refs [Ent.theX t] (.slice (some ⟨b, off, none⟩) 1 ca) _ _ HA.out (one_len t) (one_flds t)).mono ?_; rintro e w8 ⟨vr4, rfl, hO, hb⟩; have HR4 := Lib.hid hO.ents; replace HR3 := Lib.hid (HR3.out.below hb); replace HA := Lib.hid (HA.out.below hb); replace HB := Lib.hid (HB.out.trans (hb.mono HB.out.size)); clear hO hb)
            | (go_at_call 18; refine (ref15_same [Ent.theX t] [Ent.theX t] vr3 vr4 _ _ _ HR3.out HR4.out).mono ?_; rintro e w9 ⟨rfl, hb⟩; replace HA := Lib.hid (HA.out.below hb); replace HB := Lib.hid (HB.out.trans (hb.mono HB.out.size)); rw [decide_eq_true (rfl : [Ent.theX t] = [Ent.theX t])]; clear hb)
            | (go_at_call 16; refine (law_fixed _).mono ?_; rintro e w10 ⟨rfl, hb⟩; replace HA := Lib.hid (HA.out.below hb); replace HB := Lib.hid (HB.out.trans (hb.mono HB.out.size)); clear hb))
          go_ret
          exact ⟨rfl, HB.out⟩
end Go.Proofs.YtddgdfcgjjdlcaaDoor.lawStands
