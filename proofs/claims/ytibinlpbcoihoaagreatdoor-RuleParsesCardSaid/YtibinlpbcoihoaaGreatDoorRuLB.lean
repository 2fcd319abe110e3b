/- The walk of the law RuleBack. -/
import Derived.Test.YtibinlpbcoihoaaGreatDoorRuLR
import Derived.Test.YtibinlpbcoihoaaGreatDoorRuC
set_option linter.unusedSimpArgs false
set_option linter.unusedVariables false
namespace Go.Proofs.YtibinlpbcoihoaaGreatDoor
open Go.RowKit
theorem Ru.text_len (x : Ru.Rl) (ha : x.a.length ≤ 40) (hb : x.b.length ≤ 40) : (Ru.text x).length ≤ 87 := by
  unfold Ru.text
  split
  · simp [Ru.wCopy]; omega
  · split
    · rename_i h
      rw [List.length_append, List.length_cons]
      have : (Ru.word x.kind).length ≤ 6 := by
        unfold Ru.word
        repeat' split
        all_goals decide
      omega
    · simp
theorem Ru.back_len : ∀ (l : List Ru.Rl), (∀ x ∈ l, x.a.length ≤ 40 ∧ x.b.length ≤ 40) → (Ru.back l).length ≤ 100 * l.length
  | [], _ => by simp [Ru.back]
  | x :: l, h => by
    have h1 := Ru.back_len l (fun y hy => h y (List.mem_cons_of_mem _ hy))
    have h2 := Ru.text_len x (h x (by simp)).1 (h x (by simp)).2
    have e : Ru.back (x :: l) = Ru.backOne x ++ Ru.back l := rfl
    rw [e, List.length_append, List.length_cons]
    have h3 : (Ru.backOne x).length = (Ru.text x).length + 13 := by simp [Ru.backOne, Ru.remark]
    omega
theorem Ru.back_snoc (l : List Ru.Rl) (x : Ru.Rl) : Ru.back (l ++ [x]) = Ru.back l ++ ([10, 35, 32, 114, 101, 109, 97, 114, 107, 10, 32] ++ Ru.text x ++ [9, 10]) := by
  unfold Ru.back
  rw [List.flatMap_append]
  simp [Ru.backOne, Ru.remark]
set_option maxRecDepth 100000 in
set_option maxHeartbeats 6400000 in
theorem lawBack_walk (p : Option Addr) (cap : Nat) (l : List Ru.Rl) (m : Int) (w : World) (hE : OSl 3 RRl w p l) (hlm : l.length ≤ maxLen) (hm : w.cell? ⟨0, 0, none⟩ = some (.int .i64 m)) (h0 : 0 < w.heap.size) :
    Calls Tryz.prog 4 #[.slice p l.length cap] w fun e w' => e = .returned (.bool true) ∧ Below w.heap.size w w' := by
  have HMx := Lib.hid (show ∀ W, Below w.heap.size w W → W.cell? ⟨0, 0, none⟩ = some (.int .i64 m) ∧ 0 < W.heap.size from fun W hW => ⟨(hW.cell (p := ⟨0, 0, none⟩) h0).trans hm, Nat.lt_of_lt_of_le h0 hW.size⟩)
  have HE := Lib.hid hE; have Hlm := Lib.hid hlm
  clear hm h0 hE hlm
  obtain ⟨L, hL⟩ : ∃ L, L = Ru.cutR l := ⟨_, rfl⟩
  have HL := Lib.hid hL; have HLn := Lib.hid (show L.length ≤ 14 by rw [hL]; exact Ru.cutR_len l); have HLe := Lib.hid (show ∀ x ∈ L, x.a.length ≤ 40 ∧ x.b.length ≤ 40 by rw [hL]; exact Ru.cutR_each l)
  clear hL
  go_enter Tryz.func4, Tryz.ntmps4
  go_upto_region 2 with (go_at_call 6; go_loud (refine (law22_cut p cap l w HE.out Hlm.out).mono ?_); rintro e w1 ⟨va, rfl, hO, hb⟩; rw [← HL.out] at hO; obtain ⟨pL, cL, rfl⟩ := hO.form; have SL := Lib.hid (hO.slice RRl.size (fun _ => True) (fun _ _ => trivial)); have B1 := Lib.hid hb; clear hO hb)
  clear HE Hlm
  go_wp2_with fail
  go_loopw [3, 4] (fun sv iv wr => ∃ k : Nat, k ≤ L.length ∧ iv = .int .i64 (k : Int) ∧ sv = .string ⟨(Ru.back (L.take k)).toArray⟩ ∧ Below w1.heap.size w1 wr) (fun _ iv _ => L.length - (intOf iv).toNat)
  case atStart => exact ⟨0, Nat.zero_le _, rfl, rfl, Below.refl _ _⟩
  case round =>
    obtain ⟨k, hk, rfl, rfl, hb⟩ := hrel
    by_cases hlt : k < L.length
    · obtain ⟨x, hx⟩ : ∃ x, L[k]? = some x := ⟨_, List.getElem?_eq_getElem hlt⟩
      have Hxe := Lib.hid (HLe.out x (List.mem_of_getElem? hx))
      obtain ⟨b, off, rfl⟩ := rl_some SL.out hx
      obtain ⟨c0, c1, c2⟩ := rl_cells (sliceBelow SL.out hb) hx
      have Hsn := Lib.hid (takeS L k x hx)
      obtain ⟨SB, hSB⟩ : ∃ SB, SB = Ru.back (L.take k) := ⟨_, rfl⟩
      have hsl : SB.length ≤ 1400 := by
        rw [hSB]
        have h1 := Ru.back_len (L.take k) (fun y hy => HLe.out y (List.mem_of_mem_take hy))
        have h2 : (L.take k).length ≤ 14 := by rw [List.length_take]; have := HLn.out; omega
        omega
      obtain ⟨T, hT⟩ : ∃ T, T = Ru.text x := ⟨_, rfl⟩
      have htl : T.length ≤ 87 := by rw [hT]; exact Ru.text_len x Hxe.out.1 Hxe.out.2
      rw [← hSB]
      have s1 : ¬ 9223372036854775807 < 11 + T.length := by omega
      have s2 : ¬ 9223372036854775807 < 11 + T.length + 2 := by omega
      have s3 : ¬ 9223372036854775807 < SB.length + (11 + T.length + 2) := by omega
      have hlt' : (k : Int) < (L.length : Int) := by omega
      have Hwk := Lib.hid (f2_w1 k (by have := HLn.out; omega))
      have HSB := Lib.hid hSB; have HT := Lib.hid hT; have Hb := Lib.hid hb; have Hlt := Lib.hid hlt; have Hxe' := Lib.hid (show x.a.length ≤ 100000 ∧ x.b.length ≤ 100000 by have := Hxe.out; omega)
      clear hSB hT hb hlt hk hx hsl htl
      go_wp2_with (go_at_call 13; have ho := rule_text x; unfold rlV at ho; rw [← HT.out] at ho; refine (ho _ Hxe'.out.1 Hxe'.out.2).mono ?_; clear ho; rintro e w2 ⟨rfl, hb2⟩; have Hb2 := Lib.hid (bseq Hb.out hb2); clear hb2)
      go_roundw
      case rel =>
        refine ⟨k + 1, by have := Hlt.out; omega, by first | rfl | rw [Hwk.out], ?_, Hb2.out⟩
        rw [Hsn.out, Ru.back_snoc, ← HSB.out, ← HT.out]
        first
          | rw [show (⟨#[10, 35, 32, 114, 101, 109, 97, 114, 107, 10, 32]⟩ : ByteArray) = ⟨[10, 35, 32, 114, 101, 109, 97, 114, 107, 10, 32].toArray⟩ from rfl, show (⟨#[9, 10]⟩ : ByteArray) = ⟨[9, 10].toArray⟩ from rfl, append_data, append_data, append_data]
          | simp
      case measure => have := Hlt.out; (try rw [Hwk.out]); simp [intOf]; omega
    · have he : k = L.length := by omega
      subst he
      rw [List.take_length]
      obtain ⟨SB, hSB⟩ : ∃ SB, SB = Ru.back L := ⟨_, rfl⟩
      have Hsl := Lib.hid (show SB.length ≤ 1400 by rw [hSB]; have h1 := Ru.back_len L HLe.out; have := HLn.out; omega)
      rw [← hSB]
      have HB := Lib.hid (bseq B1.out hb)
      have SL2 := Lib.hid (sliceBelow SL.out hb)
      obtain ⟨oA, hoA⟩ : ∃ o, o = Ru.parse SB := ⟨_, rfl⟩
      have HoA := Lib.hid hoA; have HSB := Lib.hid hSB
      clear hb hlt hk hSB hoA SL B1
      go_upto_region 8 with (go_at_call 7; go_loud (refine (rule_parse SB m wr (by have := Hsl.out; omega) (HMx.out _ HB.out).1 (HMx.out _ HB.out).2).mono ?_); intro e w2 hpp; have hg := hpp.get; rw [← HoA.out] at hg; obtain ⟨p1, c1, rfl, hq, hb⟩ := hg; have S1 := Lib.hid hq; have B2 := Lib.hid (bseq HB.out hb); have T := Lib.hid (sliceBelow SL2.out hb); clear SL2; have SL2 := T; clear T; clear hpp hq hb)
      have HA1 := Lib.hid (show (ruL oA).length ≤ 12 by rw [HoA.out]; exact ruL_len SB)
      have HLx := Lib.hid (show ∀ x ∈ L, x.a.length ≤ 100000 ∧ x.b.length ≤ 100000 from fun x hx => by have := HLe.out x hx; omega)
      cases hr : Ru.right L with
      | true =>
        have hpb : oA = some L := by rw [HoA.out, HSB.out]; exact Ru.parse_back L hr
        subst hpb
        have Hr := Lib.hid hr; clear hr
        rw [show ruL (some L) = L from rfl] at S1 HA1 ⊢
        rw [show Ru.errno (some L) = 0 from rfl]
        go_wp2_with first
          | (go_at_call 11; refine (rule_right L _ (fun _ => True) w2 SL2.out (by have := HLn.out; omega) HLx.out).mono ?_; rw [Hr.out]; rintro e u1 ⟨rfl, hb1⟩; have HU1 := Lib.hid hb1; clear hb1)
          | (go_at_call 10; with_reducible refine (law22_refs L (.slice p1 L.length c1) _ u1 (sliceBelow S1.out HU1.out) (by have := HLn.out; omega)).mono ?_; rintro e u2 ⟨x2, y2, rfl, hO2, hb2⟩; have HO2 := Lib.hid (hO2.slice RRl.size (fun _ => True) (fun _ _ => trivial)); have HU2 := Lib.hid (bseq HU1.out hb2); clear hO2 hb2)
          | (go_at_call 10; with_reducible refine (law22_refs L (.slice pL L.length cL) _ u2 (sliceBelow SL2.out HU2.out) (by have := HLn.out; omega)).mono ?_; rintro e u3 ⟨x3, y3, rfl, hO3, hb3⟩; have HO3 := Lib.hid (hO3.slice RRl.size (fun _ => True) (fun _ _ => trivial)); have HO2' := Lib.hid (sliceBelow HO2.out hb3); have HU3 := Lib.hid (bseq HU2.out hb3); clear hO3 hb3)
          | (go_at_call 9; refine (ref22_same L L _ _ _ _ u3 HO2'.out HO3.out).mono ?_; rw [decide_eq_true (Eq.refl L)]; rintro e u4 ⟨rfl, hb4⟩; have HU4 := Lib.hid (bseq HU3.out hb4); clear hb4)
          | (go_at_call 19; refine (law22_fixed m u4 (HMx.out _ (bseq B2.out HU4.out)).1 (HMx.out _ (bseq B2.out HU4.out)).2).mono ?_; rintro e u5 ⟨rfl, hb5⟩; have HU5 := Lib.hid (bseq HU4.out hb5); clear hb5)
        go_ret
        exact ⟨rfl, bseq B2.out HU5.out⟩
      | false =>
        have Hr := Lib.hid hr; clear hr
        cases oA with
        | none =>
          rw [show ruL none = [] from rfl] at S1 HA1 ⊢
          rw [show Ru.errno none = 16 from rfl]
          go_wp2_with first
            | (go_at_call 11; refine (rule_right L _ (fun _ => True) w2 SL2.out (by have := HLn.out; omega) HLx.out).mono ?_; rw [Hr.out]; rintro e u1 ⟨rfl, hb1⟩; have HU1 := Lib.hid hb1; clear hb1)
            | (go_at_call 19; refine (law22_fixed m u1 (HMx.out _ (bseq B2.out HU1.out)).1 (HMx.out _ (bseq B2.out HU1.out)).2).mono ?_; rintro e u5 ⟨rfl, hb5⟩; have HU5 := Lib.hid (bseq HU1.out hb5); clear hb5)
          go_ret
          exact ⟨rfl, bseq B2.out HU5.out⟩
        | some A =>
          have hne : decide (A = L) = false := by
            refine decide_eq_false fun e => ?_
            subst e
            exact Ru.parse_not SB A Hr.out HoA.out.symm
          have Hne := Lib.hid hne; clear hne
          rw [show ruL (some A) = A from rfl] at S1 HA1 ⊢
          rw [show Ru.errno (some A) = 0 from rfl]
          go_wp2_with first
            | (go_at_call 11; refine (rule_right L _ (fun _ => True) w2 SL2.out (by have := HLn.out; omega) HLx.out).mono ?_; rw [Hr.out]; rintro e u1 ⟨rfl, hb1⟩; have HU1 := Lib.hid hb1; clear hb1)
            | (go_at_call 10; with_reducible refine (law22_refs A (.slice p1 A.length c1) _ u1 (sliceBelow S1.out HU1.out) (by have := HA1.out; omega)).mono ?_; rintro e u2 ⟨x2, y2, rfl, hO2, hb2⟩; have HO2 := Lib.hid (hO2.slice RRl.size (fun _ => True) (fun _ _ => trivial)); have HU2 := Lib.hid (bseq HU1.out hb2); clear hO2 hb2)
            | (go_at_call 10; with_reducible refine (law22_refs L (.slice pL L.length cL) _ u2 (sliceBelow SL2.out HU2.out) (by have := HLn.out; omega)).mono ?_; rintro e u3 ⟨x3, y3, rfl, hO3, hb3⟩; have HO3 := Lib.hid (hO3.slice RRl.size (fun _ => True) (fun _ _ => trivial)); have HO2' := Lib.hid (sliceBelow HO2.out hb3); have HU3 := Lib.hid (bseq HU2.out hb3); clear hO3 hb3)
            | (go_at_call 9; refine (ref22_same A L _ _ _ _ u3 HO2'.out HO3.out).mono ?_; rw [Hne.out]; rintro e u4 ⟨rfl, hb4⟩; have HU4 := Lib.hid (bseq HU3.out hb4); clear hb4)
            | (go_at_call 19; refine (law22_fixed m u4 (HMx.out _ (bseq B2.out HU4.out)).1 (HMx.out _ (bseq B2.out HU4.out)).2).mono ?_; rintro e u5 ⟨rfl, hb5⟩; have HU5 := Lib.hid (bseq HU4.out hb5); clear hb5)
          go_ret
          exact ⟨rfl, bseq B2.out HU5.out⟩
theorem lawBack_walk2 (p : Option Addr) (cap : Nat) (l : List Ru.Rl) (w : World) (hL : ((∃ m, w.cell? ⟨0, 0, none⟩ = some (.int .i64 m)) ∧ 0 < w.heap.size) ∧ l.length ≤ maxLen) (hE : OSl 3 RRl w p l) :
    Calls Tryz.prog 4 #[.slice p l.length cap] w fun e w' => e = .returned (.bool true) ∧ Below w.heap.size w w' := by
  obtain ⟨⟨⟨m, hm⟩, h0⟩, hlm⟩ := hL
  exact lawBack_walk p cap l m w hE hlm hm h0
end Go.Proofs.YtibinlpbcoihoaaGreatDoor
