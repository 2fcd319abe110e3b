/- The walks of package name, seventh part: whole, head, Key. -/
import Derived.Test.YtanbcokkfbidbaaGreatDoorNmW6
import Derived.Test.YtanbcokkfbidbaaGreatDoorEA
set_option linter.unusedSimpArgs false
set_option linter.unusedVariables false
namespace Go.Proofs.YtanbcokkfbidbaaGreatDoor
open Go.RowKit
set_option maxRecDepth 100000 in
theorem nm_whole (l : List (List UInt8)) (g n cap B : Nat) (w : World) (hO : OwnL B 9 1 RStr w (.slice (some ⟨g, 0, none⟩) n cap) l) (hn : n = l.length) (htl : Lb.tot l ≤ 2000000) :
    Calls Tryz.prog 68 #[.slice (some ⟨g, 0, none⟩) n cap] w fun e w' => e = .returned (.string ⟨(Lb.whole l).toArray⟩) ∧ Below B w w' := by
  have hBg : B ≤ w.heap.size := Nat.le_of_lt (Nat.lt_of_le_of_lt hO.bndS.1 hO.bndS.2)
  have HO := Lib.hid hO; have Hn := Lib.hid hn; have Htl := Lib.hid (Nat.le_trans (Lb.tot_full l) htl); have HB := Lib.hid hBg
  clear hO hn htl hBg
  go_enter Tryz.func68, Tryz.ntmps68
  go_wp2_with (first
    | (go_at_call 84; with_reducible refine (nm_del_whole1 l g n cap B _ HO.out Hn.out).mono ?_; rintro e w1 ⟨⟨v, rfl, rfl, hS⟩, hb⟩; have HS := Lib.hid hS; have Hb := Lib.hid hb; clear hS hb)
    | (go_at_call 56; refine (nm_join (Lb.full l) _ _ _ HS.out Htl.out).mono ?_; rintro e w2 ⟨rfl, hb2⟩; have Hb2 := Lib.hid hb2; clear hb2))
  go_ret
  exact ⟨rfl, Hb.out.trans (Hb2.out.mono (Nat.le_trans HB.out Hb.out.size))⟩
theorem nm_head (s : List UInt8) (n : Nat) (w : World) (hn : n ≤ 1000) :
    Calls Tryz.prog 72 #[.string ⟨s.toArray⟩, .int .i64 (n : Int)] w fun e w' => e = .returned (.string ⟨(s.take n).toArray⟩) ∧ Below w.heap.size w w' := by
  obtain ⟨q, h1, h2, h3, h4⟩ := cut_textN n s
  have h5 : min (n : Int) (s.length : Int) = (q : Int) := by omega
  have hsz : (⟨s.toArray⟩ : ByteArray).size = s.length := size_mk s
  have h0 : (0 : Int) ≤ (q : Int) := by omega
  go_enter Tryz.func72, Tryz.ntmps72
  go_wp2
  go_ret
  exact ⟨by first | rfl | (rw [h4]), Below.refl _ _⟩
theorem bytes_conv (l : List UInt8) (w : World) : ∃ cap W, (convert 9 76 (.string ⟨l.toArray⟩)).run Tryz.prog w = .ok (.slice (some ⟨w.heap.size, 0, none⟩) l.length cap) W ∧ ByteRow W w.heap.size l ∧ Below w.heap.size w W := by
  refine ⟨grownCap w l.length 0 5, w.drew.alloc (.cells (bytesRow ⟨l.toArray⟩ (grownCap w l.length 0 5)) 5 ((bytesRow ⟨l.toArray⟩ (grownCap w l.length 0 5)).size, (bytesRow ⟨l.toArray⟩ (grownCap w l.length 0 5)).size + 1)), ?_, ?_, ?_⟩
  · rw [run_bytes_of_string (P := Tryz.prog) w 9 76 5 ⟨l.toArray⟩ Tryz.underlying9 Tryz.underlying76 Tryz.underlying5, size_mk]
  · exact byteRow_new w l _ 5 (grownCap_ge w l.length 0 5)
  · exact ((Below.refl w.heap.size w).drew).alloc (Nat.le_refl _) _
theorem bytes_back (l : List UInt8) (g cap : Nat) (w : World) (h : ByteRow w g l) : (convert 76 9 (.slice (some ⟨g, 0, none⟩) l.length cap)).run Tryz.prog w = .ok (.string ⟨l.toArray⟩) w :=
  run_convert_bytes_back (P := Tryz.prog) w 76 9 5 ⟨g, 0, none⟩ cap l Tryz.underlying76 Tryz.underlying5 Tryz.underlying9 (fun j hj => by
    rw [Addr.add_lit, Nat.zero_add]
    exact h.cell j _ (List.getElem?_eq_getElem hj))
def keyText (p : Lb.Per) : List UInt8 := p.last ++ [32] ++ p.first ++ [32] ++ p.von ++ [32] ++ p.jr
set_option maxRecDepth 100000 in
set_option maxHeartbeats 800000 in
theorem nm_Key (p : Lb.Per) (w : World) (h1 : p.first.length ≤ 100000) (h2 : p.von.length ≤ 100000) (h3 : p.last.length ≤ 100000) (h4 : p.jr.length ≤ 100000) :
    Calls Tryz.prog 36 #[perV p] w fun e w' => e = .returned (.string ⟨(Lb.pkey p).toArray⟩) ∧ Below w.heap.size w w' := by
  have hkt : Lb.pkey p = Ent.small (Lb.join (Lb.words (keyText p))) := rfl
  have hkl : (keyText p).length ≤ 1000000 := by simp [keyText]; omega
  have htw := Lb.tot_words (keyText p)
  have hjl := Lb.join_le (Lb.words (keyText p))
  obtain ⟨l, hl⟩ : ∃ l, Lb.join (Lb.words (keyText p)) = l := ⟨_, rfl⟩
  rw [hl] at hkt hjl
  have hll : l.length ≤ 1000001 := by omega
  have hP := P4.new w 83 (.string ⟨p.first.toArray⟩) (.string ⟨p.von.toArray⟩) (.string ⟨p.last.toArray⟩) (.string ⟨p.jr.toArray⟩)
  have c0 := hP.c0; have c1 := hP.c1; have c2 := hP.c2; have c3 := hP.c3
  have hb0 := below_new w (.cells #[.string ⟨p.first.toArray⟩, .string ⟨p.von.toArray⟩, .string ⟨p.last.toArray⟩, .string ⟨p.jr.toArray⟩] 83)
  have s1 : (⟨p.last.toArray⟩ : ByteArray) ++ ⟨#[32]⟩ = ⟨(p.last ++ [32]).toArray⟩ := append_data p.last [32]
  have s2 := append_data (p.last ++ [32]) p.first
  have s3 : (⟨(p.last ++ [32] ++ p.first).toArray⟩ : ByteArray) ++ ⟨#[32]⟩ = ⟨(p.last ++ [32] ++ p.first ++ [32]).toArray⟩ := append_data (p.last ++ [32] ++ p.first) [32]
  have s4 := append_data (p.last ++ [32] ++ p.first ++ [32]) p.von
  have s5 : (⟨(p.last ++ [32] ++ p.first ++ [32] ++ p.von).toArray⟩ : ByteArray) ++ ⟨#[32]⟩ = ⟨(p.last ++ [32] ++ p.first ++ [32] ++ p.von ++ [32]).toArray⟩ := append_data (p.last ++ [32] ++ p.first ++ [32] ++ p.von) [32]
  have s6 : (⟨(p.last ++ [32] ++ p.first ++ [32] ++ p.von ++ [32]).toArray⟩ : ByteArray) ++ ⟨p.jr.toArray⟩ = ⟨(keyText p).toArray⟩ := append_data (p.last ++ [32] ++ p.first ++ [32] ++ p.von ++ [32]) p.jr
  have hsum : (⟨p.last.toArray⟩ : ByteArray) ++ ⟨#[32]⟩ ++ ⟨p.first.toArray⟩ ++ ⟨#[32]⟩ ++ ⟨p.von.toArray⟩ ++ ⟨#[32]⟩ ++ ⟨p.jr.toArray⟩ = ⟨(keyText p).toArray⟩ := by rw [s1, s2, s3, s4, s5, s6]
  have Hsum := Lib.hid hsum; have Hkt := Lib.hid hkt; have Htw := Lib.hid htw; have Hkl := Lib.hid hkl; have Hl := Lib.hid hl; have Hb0 := Lib.hid hb0
  clear hsum hkt htw hjl hkl hl hP hb0 s1 s2 s3 s4 s5 s6
  unfold perV
  go_enter Tryz.func36, Tryz.ntmps36
  go_wp2_with (first
    | (go_at_call 57; rw [show (_ : ByteArray) = ⟨(keyText p).toArray⟩ from Hsum.out]; refine (nm_Words (keyText p) _ Hkl.out).mono ?_; rintro e w1 ⟨⟨g, cap, rfl, hcp, hS1⟩, hb1⟩; have HS1 := Lib.hid hS1; have Hb1 := Lib.hid hb1; clear hS1 hb1)
    | (go_at_call 56; refine (nm_join _ _ _ _ HS1.out (by have := Htw.out; have := Hkl.out; omega)).mono ?_; rw [Hl.out]; rintro e w2 ⟨rfl, hb2⟩; have Hb2 := Lib.hid hb2; clear hb2; obtain ⟨cap2, W, hcv, hrow, hbW⟩ := bytes_conv l w2; have Hrow := Lib.hid hrow; have HbW := Lib.hid hbW; clear hrow hbW))
  obtain ⟨q, hq⟩ : ∃ q, w2.heap.size = q := ⟨_, rfl⟩
  have hw2 := bseq (bseq Hb0.out Hb1.out) Hb2.out
  have HQ := Lib.hid (show w.heap.size ≤ q by rw [← hq]; exact hw2.size)
  have HbW := Lib.hid (bseq hw2 HbW.out)
  rw [hq] at Hrow ⊢
  clear hcv hw2 hq Hb0 Hb1 Hb2 HS1 c0 c1 c2 c3 h1 h2 h3 h4
  go_loopw [25] (fun i wr => ∃ k : Nat, k ≤ l.length ∧ i = .int .i64 k ∧ ByteRow wr q (smallTo k l) ∧ Below w.heap.size w wr) (fun i _ => l.length - (intOf i).toNat)
  case atStart => exact ⟨0, Nat.zero_le _, rfl, by simpa [smallTo, Ent.small] using Hrow.out, HbW.out⟩
  case round =>
    clear Hrow HbW
    obtain ⟨k, hk, rfl, hrow, hb⟩ := hrel
    by_cases hlt : k < l.length
    · obtain ⟨x, hx⟩ : ∃ x, l[k]? = some x := ⟨_, List.getElem?_eq_getElem hlt⟩
      have e0 := hrow.cell k x (smallTo_get k l x hx)
      have f0 := hrow.free k (by rw [smallTo_length]; exact hlt)
      have hlt' : (k : Int) < (l.length : Int) := by omega
      have Hrow := Lib.hid hrow; have Hb := Lib.hid hb; have Hx := Lib.hid hx
      clear hrow hb hx
      have hx256 := x.toNat_lt
      by_cases hup : 65 ≤ x.toNat ∧ x.toNat ≤ 90
      · have g1 : (65 : Int) ≤ (x.toNat : Int) := by omega
        have g2 : (x.toNat : Int) ≤ 90 := by omega
        obtain ⟨c, hc⟩ : ∃ c : UInt8, c = x + 32 := ⟨_, rfl⟩
        have hlow : Ent.low x = c := by unfold Ent.low; rw [if_pos hup, hc]
        have hw0 : IntKind.u8.wrap ((x.toNat : Int) - 65) = (x.toNat : Int) - 65 := IntWalk.u8_in _ (by omega)
        have hw2 : IntKind.u8.wrap ((x.toNat : Int) - 65 + 97) = (c.toNat : Int) := by
          rw [IntWalk.u8_in _ (by omega), hc, UInt8.toNat_add]
          simp
          omega
        clear hc
        have Hlow := Lib.hid hlow
        clear hup hlow
        go_wp2_with fail
        go_roundw
        case rel =>
          refine ⟨k + 1, by omega, by go_num, ?_, ?_⟩
          · rw [smallTo_step k l x Hx.out, Hlow.out]
            exact Hrow.out.set k (by rw [smallTo_length]; exact hlt) c
          · exact Hb.out.setCell HQ.out _
        case measure => simp [intOf]; omega
      · have hlow : Ent.low x = x := by unfold Ent.low; rw [if_neg hup]
        have Hlow := Lib.hid hlow
        clear hlow
        have hsame : smallTo (k + 1) l = smallTo k l := by
          rw [smallTo_step k l x Hx.out, Hlow.out]
          have h := smallTo_get k l x Hx.out
          obtain ⟨h1, h2⟩ := List.getElem?_eq_some_iff.1 h
          rw [← h2]
          exact List.set_getElem_self h1
        have Hsame := Lib.hid hsame; clear hsame
        by_cases h65 : 65 ≤ x.toNat
        · have g1 : (65 : Int) ≤ (x.toNat : Int) := by omega
          have g2 : ¬ (x.toNat : Int) ≤ 90 := by omega
          clear hup
          go_wp2_with fail
          go_roundw
          case rel => exact ⟨k + 1, by omega, by go_num, by rw [Hsame.out]; exact Hrow.out, Hb.out⟩
          case measure => simp [intOf]; omega
        · have g1 : ¬ (65 : Int) ≤ (x.toNat : Int) := by omega
          clear hup
          go_wp2_with fail
          go_roundw
          case rel => exact ⟨k + 1, by omega, by go_num, by rw [Hsame.out]; exact Hrow.out, Hb.out⟩
          case measure => simp [intOf]; omega
    · have hkl : k = l.length := by omega
      have hst : smallTo k l = Ent.small l := by unfold smallTo; rw [hkl]; simp
      rw [hst] at hrow
      have hlen : (Ent.small l).length = l.length := by unfold Ent.small; simp
      have hback := bytes_back (Ent.small l) q cap2 wr hrow
      rw [hlen] at hback
      have Hb := Lib.hid hb; clear hb hrow hst
      go_wp2_with fail
      go_ret
      exact ⟨ret_str Hkt.out.symm, Hb.out⟩
set_option maxRecDepth 100000 in
set_option maxHeartbeats 800000 in
theorem lb_small (l : List UInt8) (w : World) (hl : l.length ≤ 1000000) :
    Calls Tryz.prog 38 #[.string ⟨l.toArray⟩] w fun e w' => e = .returned (.string ⟨(Ent.small l).toArray⟩) ∧ Below w.heap.size w w' := by
  obtain ⟨cap2, W, hcv, hrow, hbW⟩ := bytes_conv l w
  have Hrow := Lib.hid hrow; have HbW := Lib.hid hbW; clear hrow hbW
  go_enter Tryz.func38, Tryz.ntmps38
  go_wp2_with fail
  clear hcv
  have HQ := Lib.hid (Nat.le_refl w.heap.size)
  go_loopw [10] (fun i wr => ∃ k : Nat, k ≤ l.length ∧ i = .int .i64 k ∧ ByteRow wr w.heap.size (smallTo k l) ∧ Below w.heap.size w wr) (fun i _ => l.length - (intOf i).toNat)
  case atStart => exact ⟨0, Nat.zero_le _, rfl, by simpa [smallTo, Ent.small] using Hrow.out, HbW.out⟩
  case round =>
    clear Hrow HbW
    obtain ⟨k, hk, rfl, hrow, hb⟩ := hrel
    by_cases hlt : k < l.length
    · obtain ⟨x, hx⟩ : ∃ x, l[k]? = some x := ⟨_, List.getElem?_eq_getElem hlt⟩
      have e0 := hrow.cell k x (smallTo_get k l x hx)
      have f0 := hrow.free k (by rw [smallTo_length]; exact hlt)
      have hlt' : (k : Int) < (l.length : Int) := by omega
      have Hrow := Lib.hid hrow; have Hb := Lib.hid hb; have Hx := Lib.hid hx
      clear hrow hb hx
      have hx256 := x.toNat_lt
      by_cases hup : 65 ≤ x.toNat ∧ x.toNat ≤ 90
      · have g1 : (65 : Int) ≤ (x.toNat : Int) := by omega
        have g2 : (x.toNat : Int) ≤ 90 := by omega
        obtain ⟨c, hc⟩ : ∃ c : UInt8, c = x + 32 := ⟨_, rfl⟩
        have hlow : Ent.low x = c := by unfold Ent.low; rw [if_pos hup, hc]
        have hw0 : IntKind.u8.wrap ((x.toNat : Int) - 65) = (x.toNat : Int) - 65 := IntWalk.u8_in _ (by omega)
        have hw2 : IntKind.u8.wrap ((x.toNat : Int) - 65 + 97) = (c.toNat : Int) := by
          rw [IntWalk.u8_in _ (by omega), hc, UInt8.toNat_add]
          simp
          omega
        clear hc
        have Hlow := Lib.hid hlow
        clear hup hlow
        go_wp2_with fail
        go_roundw
        case rel =>
          refine ⟨k + 1, by omega, by go_num, ?_, ?_⟩
          · rw [smallTo_step k l x Hx.out, Hlow.out]
            exact Hrow.out.set k (by rw [smallTo_length]; exact hlt) c
          · exact Hb.out.setCell HQ.out _
        case measure => simp [intOf]; omega
      · have hlow : Ent.low x = x := by unfold Ent.low; rw [if_neg hup]
        have Hlow := Lib.hid hlow
        clear hlow
        have hsame : smallTo (k + 1) l = smallTo k l := by
          rw [smallTo_step k l x Hx.out, Hlow.out]
          have h := smallTo_get k l x Hx.out
          obtain ⟨h1, h2⟩ := List.getElem?_eq_some_iff.1 h
          rw [← h2]
          exact List.set_getElem_self h1
        have Hsame := Lib.hid hsame; clear hsame
        by_cases h65 : 65 ≤ x.toNat
        · have g1 : (65 : Int) ≤ (x.toNat : Int) := by omega
          have g2 : ¬ (x.toNat : Int) ≤ 90 := by omega
          clear hup
          go_wp2_with fail
          go_roundw
          case rel => exact ⟨k + 1, by omega, by go_num, by rw [Hsame.out]; exact Hrow.out, Hb.out⟩
          case measure => simp [intOf]; omega
        · have g1 : ¬ (65 : Int) ≤ (x.toNat : Int) := by omega
          clear hup
          go_wp2_with fail
          go_roundw
          case rel => exact ⟨k + 1, by omega, by go_num, by rw [Hsame.out]; exact Hrow.out, Hb.out⟩
          case measure => simp [intOf]; omega
    · have hkl : k = l.length := by omega
      have hst : smallTo k l = Ent.small l := by unfold smallTo; rw [hkl]; simp
      rw [hst] at hrow
      have hlen : (Ent.small l).length = l.length := by unfold Ent.small; simp
      have hback := bytes_back (Ent.small l) w.heap.size cap2 wr hrow
      rw [hlen] at hback
      have Hb := Lib.hid hb; clear hb hrow hst
      go_wp2_with fail
      go_ret
      exact ⟨rfl, Hb.out⟩
end Go.Proofs.YtanbcokkfbidbaaGreatDoor
