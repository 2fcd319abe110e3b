/- The walks of package entry's reader: a value. -/
import Derived.Test.YtddgdfcgjjdlcaaDoorParW8
namespace Go.Proofs.YtddgdfcgjjdlcaaDoor
open Go.RowKit

namespace Ent
/-- what names stand for is short -/
def NamesOk (σ : RS) : Prop := ∀ x t, σ.names x = some t → t.length ≤ 1000
theorem takeWhile_len {α : Type} (p : α → Bool) (l : List α) : (l.takeWhile p).length ≤ l.length := List.Sublist.length_le (List.takeWhile_sublist _)
theorem quoted_tlen (l t : List UInt8) (h : (quoted l).1 = some t) : t.length ≤ l.length := by
  unfold quoted at h
  split at h
  · cases h
  · cases h; exact takeWhile_len _ _
theorem brace_tlen : ∀ (l : List UInt8) (d : Nat) (acc t : List UInt8), (brace d acc l).1 = some t → t.length ≤ acc.length + l.length
  | [], _, _, _, h => by simp [brace] at h
  | x :: r, d, acc, t, h => by
    unfold brace at h
    dsimp only at h
    generalize (if x == 123 then d + 1 else if x == 125 then d - 1 else d) = d' at h
    cases d' with
    | zero => simp at h; rw [← h]; omega
    | succ k =>
      have := brace_tlen r (k + 1) (acc ++ [x]) t (by simpa using h)
      simp at this ⊢
      omega
theorem mark_tlen (l t : List UInt8) (h : (mark l).1 = some t) : t.length ≤ l.length := by
  unfold mark at h
  dsimp only at h
  split at h
  · cases h
  · cases h; exact Nat.le_trans (takeWhile_len _ _) (bl_len l)
theorem part_names (σ : RS) : (part σ).2.names = σ.names := by
  unfold part
  split
  · rfl
  · split
    · rfl
    · split
      · rfl
      · split
        · rfl
        · split <;> rfl
theorem part_tlen (σ : RS) (hN : NamesOk σ) (t : List UInt8) (h : (part σ).1 = some t) : t.length ≤ σ.rest.length + 1000 := by
  unfold part at h
  have h1 := isL_len 34 σ.rest
  have h2 := isL_len 123 σ.rest
  split at h
  · have := quoted_tlen _ _ h; omega
  · split at h
    · have := brace_tlen _ _ _ _ h; simp at this; omega
    · split at h
      · cases h
      · rename_i m hm
        have h3 := mark_tlen _ _ hm
        split at h
        · cases h; unfold small; rw [List.length_map]; omega
        · split at h
          · rename_i t2 ht2
            cases h; have := hN _ _ ht2; omega
          · cases h; simp
theorem part_len (σ : RS) : (part σ).2.rest.length ≤ σ.rest.length := by
  unfold part
  have h1 := isL_len 34 σ.rest
  have h2 := isL_len 123 σ.rest
  have h3 := mark_len σ.rest
  split
  · exact Nat.le_trans (quoted_len _) h1
  · split
    · exact Nat.le_trans (brace_len _ _ _) h2
    · split
      · exact h3
      · split
        · exact h3
        · split
          · exact h3
          · exact h3
end Ent
theorem At.len {s : List UInt8} {r : Nat} {w : World} {l : List UInt8} (h : At s r w l) : s.length - placeOf r w = l.length := by
  obtain ⟨k, h1, h2, h3⟩ := h.place
  unfold placeOf
  rw [h3, ← h2]
  simp
def oneIf (v : Value) : Nat := match v with | .bool true => 1 | _ => 0

set_option maxRecDepth 100000 in
set_option maxHeartbeats 1600000 in
theorem reader_value (s : List UInt8) (r m b : Nat) (σ : Ent.RS) (v : Value) (w : World) (hs : s.length ≤ 1000000000) (hN : Ent.NamesOk σ) (hR : Rdr s r m b w σ v) :
    Calls Tryd.prog 37 #[.pointer (some ⟨r, 0, none⟩)] w fun e w' => After s r m b v w (Ent.value σ).1 (Ent.value σ).2 e w' := by
  have hsm : s.length ≤ maxLen := by unfold maxLen; omega
  obtain ⟨o, ho⟩ : ∃ o, Ent.value σ = o := ⟨_, rfl⟩
  rw [ho]
  have Ho := Lib.hid ho; have HR := Lib.hid hR; have HN := Lib.hid hN; clear ho hR hN
  go_enter Tryd.func37, Tryd.ntmps37
  go_wp2_with fail
  go_loopw [3, 4] (fun sv mv wr => ∃ (σ1 : Ent.RS) (acc : List UInt8) (v1 : Value) (more : Bool), sv = .string ⟨acc.toArray⟩ ∧ mv = .bool more ∧ Rdr s r m b wr σ1 v1 ∧ Step r m v v1 w wr ∧ acc.length ≤ 1000 ∧ Ent.NamesOk σ1 ∧
      (more = true → ∃ n, σ1.rest.length < n ∧ o = Ent.valueN n acc σ1) ∧ (more = false → o = (some acc, σ1))) (fun _ mv wr => (s.length - placeOf r wr) + oneIf mv)
  case atStart => exact ⟨σ, [], v, true, rfl, rfl, HR.out, Step.refl _ _ _ _, by simp, HN.out, fun _ => ⟨_, Nat.lt_succ_self _, Ho.out.symm⟩, fun h => by cases h⟩
  case round =>
    clear Ho HR HN
    obtain ⟨σ1, acc, v1, more, rfl, rfl, hR, hS, hacc, hN, ht, hf⟩ := hrel
    have HR := Lib.hid hR; have HS := Lib.hid hS; have HN := Lib.hid hN; clear hR hS hN
    cases more
    · have h1 := hf rfl
      have H1 := Lib.hid h1; clear ht hf h1
      go_wp2_with fail
      go_ret
      rw [H1.out]
      exact ⟨rfl, v1, HR.out, HS.out⟩
    · obtain ⟨n, hn, h1⟩ := ht rfl
      clear ht hf
      obtain ⟨n, rfl⟩ : ∃ k, n = k + 1 := ⟨n - 1, by omega⟩
      unfold Ent.valueN at h1
      have Hn := Lib.hid hn; clear hn
      cases hp : (Ent.part σ1).1 with
      | none =>
        rw [hp] at h1
        dsimp only at h1
        have H1 := Lib.hid h1; have Hp := Lib.hid hp; clear h1 hp
        go_wp2_with (go_at_call 46; refine (reader_part s r m b σ1 v1 _ hs HR.out).mono ?_; rintro e w2 ⟨he2, v2, hR2, hS2⟩; simp only [said, Hp.out] at he2; subst he2)
        refine ⟨rfl, ?_⟩
        rw [H1.out]
        exact ⟨rfl, v2, hR2, HS.out.trans hS2⟩
      | some t =>
        rw [hp] at h1
        dsimp only at h1
        have htl : t.length ≤ 1000001000 := by
          have h2 := Ent.part_tlen σ1 HN.out t hp
          obtain ⟨n, h4, _⟩ := HR.out.names
          omega
        obtain ⟨q, hq⟩ : ∃ q : Nat, q = min (acc ++ t).length 1000 := ⟨_, rfl⟩
        have hq1 : min ((acc.length : Int) + (t.length : Int)) 1000 = (q : Int) := by rw [hq, List.length_append]; omega
        have hq2 : q ≤ acc.length + t.length := by rw [hq, List.length_append]; exact Nat.min_le_left _ _
        have hex : ((⟨acc.toArray⟩ : ByteArray) ++ ⟨t.toArray⟩).extract 0 q = ⟨((acc ++ t).take 1000).toArray⟩ := by
          rw [append_data, extract_any, hq, List.drop_zero, Nat.sub_zero]
          congr 2
          by_cases h : (acc ++ t).length ≤ 1000
          · rw [Nat.min_eq_left h, List.take_of_length_le (Nat.le_refl _), List.take_of_length_le h]
          · rw [Nat.min_eq_right (by omega)]
        have hN2 : Ent.NamesOk (Ent.part σ1).2 := by unfold Ent.NamesOk; rw [Ent.part_names]; exact HN.out
        have hl2 := Ent.part_len σ1
        have hov : ¬ 9223372036854775807 < acc.length + t.length := by omega
        have Hp := Lib.hid hp; have HN2 := Lib.hid hN2; have Hl2 := Lib.hid hl2; clear hp hN2 hl2
        obtain ⟨a2, ha2⟩ : ∃ a2, (acc ++ t).take 1000 = a2 := ⟨_, rfl⟩
        rw [ha2] at hex h1
        have ha2l : a2.length ≤ 1000 := by rw [← ha2]; simp; omega
        have H1 := Lib.hid h1; have Ha2l := Lib.hid ha2l
        clear ha2 ha2l h1 hq
        cases hb : Ent.isB 35 (Ent.part σ1).2.rest
        · have Hb := Lib.hid hb; clear hb
          rw [Hb.out] at H1
          go_wp2_with (first
            | (go_at_call 46; refine (reader_part s r m b σ1 v1 _ hs HR.out).mono ?_; rintro e w2 ⟨he2, v2, hR2, hS2⟩; simp only [said, Hp.out] at he2; subst he2)
            | (go_at_call 38; refine (reader_isc s r _ 35 35 rfl _ hsm (by decide) hR2.at').mono ?_; rintro e w3 ⟨rfl, hA3, hM3⟩; rw [Hb.out]))
          go_roundw
          case rel =>
            refine ⟨_, a2, v2, false, rfl, rfl, hR2.moved hM3 hA3 ?_, HS.out.trans (hS2.trans (hM3.step m v2)), Ha2l.out, HN2.out, (fun h => by cases h), fun _ => H1.out⟩
            have := Ent.isL_len 35 (Ent.part σ1).2.rest
            omega
          case measure =>
            rw [hA3.len, HR.out.at'.len]
            have h1 := Ent.isL_len 35 (Ent.part σ1).2.rest
            have h2 := Hl2.out
            simp only [oneIf]
            omega
        · have Hb := Lib.hid hb; clear hb
          rw [Hb.out] at H1
          go_wp2_with (first
            | (go_at_call 46; refine (reader_part s r m b σ1 v1 _ hs HR.out).mono ?_; rintro e w2 ⟨he2, v2, hR2, hS2⟩; simp only [said, Hp.out] at he2; subst he2)
            | (go_at_call 38; refine (reader_isc s r _ 35 35 rfl _ hsm (by decide) hR2.at').mono ?_; rintro e w3 ⟨rfl, hA3, hM3⟩; rw [Hb.out]))
          have h3 := Ent.isL_lt 35 (Ent.part σ1).2.rest Hb.out
          have h2 := Hl2.out
          have h4 := Hn.out
          have H3 := Lib.hid h3; have H2 := Lib.hid h2; have H4 := Lib.hid h4; clear h2 h3 h4
          go_roundw
          case rel =>
            refine ⟨_, a2, v2, true, rfl, rfl, hR2.moved hM3 hA3 ?_, HS.out.trans (hS2.trans (hM3.step m v2)), Ha2l.out, HN2.out, (fun _ => ⟨n, ?_, H1.out⟩), fun h => by cases h⟩
            · have := H3.out; omega
            · show (Ent.isL 35 (Ent.part σ1).2.rest).length < n
              have := H3.out; have := H2.out; have := H4.out; omega
          case measure =>
            rw [hA3.len, HR.out.at'.len]
            have := H3.out; have := H2.out
            simp only [oneIf]
            omega
end Go.Proofs.YtddgdfcgjjdlcaaDoor
