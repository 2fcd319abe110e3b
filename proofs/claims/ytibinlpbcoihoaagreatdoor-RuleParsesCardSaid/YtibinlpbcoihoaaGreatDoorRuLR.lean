/- The walk of the law RuleRemarks. -/
import Derived.Test.YtibinlpbcoihoaaGreatDoorRuF8
set_option linter.unusedSimpArgs false
set_option linter.unusedVariables false
namespace Go.Proofs.YtibinlpbcoihoaaGreatDoor
open Go.RowKit
def ruL (o : Option (List Ru.Rl)) : List Ru.Rl := o.getD []
/-- what 'Parse' tells, in one way -/
theorem PPost.get {t : TypeId} {s : List UInt8} {w w' : World} {e : Ending} (h : PPost t s w e w') : ∃ p c, e = .returned (.tuple #[.slice p (ruL (Ru.parse s)).length c, .int .i64 (Ru.errno (Ru.parse s))]) ∧ SliceIn (fun _ => True) 3 RRl w' (.slice p (ruL (Ru.parse s)).length c) (ruL (Ru.parse s)) ∧ Below w.heap.size w w' := by
  obtain ⟨hb, h⟩ := h
  cases hp : Ru.parse s with
  | none => rw [hp] at h; exact ⟨none, 0, h, SliceIn.nil _ _ _ _, hb⟩
  | some l => rw [hp] at h; obtain ⟨p, c, he, hO⟩ := h; exact ⟨p, c, he, hO.slice RRl.size _ (fun _ _ => trivial), hb⟩
theorem ruL_len (s : List UInt8) : (ruL (Ru.parse s)).length ≤ 12 := Ru.parse_len s
theorem ruL_each (s : List UInt8) : ∀ x ∈ ruL (Ru.parse s), x.a.length ≤ 100000 ∧ x.b.length ≤ 100000 := by
  intro x hx
  cases hp : Ru.parse s with
  | none => rw [hp] at hx; simp [ruL] at hx
  | some l =>
    rw [hp] at hx
    have hr := Ru.parse_right hp
    unfold Ru.right at hr
    simp only [Bool.and_eq_true, List.all_eq_true] at hr
    have h := hr.1 x hx
    unfold Ru.may at h
    split at h
    · simp only [Bool.and_eq_true] at h
      have h1 := h.1; have h2 := h.2.1
      unfold Ix.nameOk at h1 h2
      simp only [Bool.and_eq_true, decide_eq_true_eq] at h1 h2
      omega
    · simp only [Bool.and_eq_true] at h
      have h1 := h.2.1; have h2 := h.2.2
      unfold Ix.jobOk at h1
      simp only [Bool.and_eq_true, decide_eq_true_eq] at h1
      have : x.b = [] := List.isEmpty_iff.1 h2
      rw [this]
      exact ⟨by omega, by simp⟩
theorem rep_rules (l : List Ru.Rl) (fl : List Value) (h : RepRow RRl l fl) : fl = l.flatMap cRl := by
  induction l generalizing fl with
  | nil => exact h
  | cons x r ih =>
    obtain ⟨vs, rest, rfl, hx, hr⟩ := h
    have hx : vs = _ := hx
    rw [ih rest hr, hx, List.flatMap_cons]; rfl
theorem append_rules {B : Nat} {w : World} {v x : Value} {a b : List Ru.Rl} {S : Nat → Prop} (hO : OwnL B 36 3 RRl w v a) (hX : SliceIn S 3 RRl w x b) (hB : B ≤ w.heap.size) (hl : a.length + b.length ≤ 1000000) :
    ∃ v' w', (Builtin.append_ #[22, 22] 22 #[v, x]).run Tryz.prog w = .ok v' w' ∧ OwnL B 36 3 RRl w' v' (a ++ b) ∧ (∀ C w0, Below C w0 w → C ≤ B → Below C w0 w') := by
  obtain ⟨i0, hi, hz0, hz1, hz2⟩ := info_parts rule_info
  obtain ⟨fl, hown, hrep⟩ := hO
  obtain ⟨v3, w3, hrun, own3, g3, at3⟩ := run_append_slice (P := Tryz.prog) cRl RRl w B 22 22 36 i0 _ 3 40 Tryz.underlying22 hi hz0 hz1 hz2 (by decide) (by decide) v a.length fl hown x b S hX (fun _ _ h => h) (fun _ => rfl) (fun y u hu => by simp only [cRl, List.mem_cons, List.not_mem_nil, or_false] at hu; rcases hu with rfl | rfl | rfl <;> rfl) (by unfold maxLen; omega) (by omega) hB
  refine ⟨v3, w3, hrun, ⟨_, by rw [List.length_append]; exact own3, ?_⟩, fun C w0 hb hC => hb.grown g3 (Nat.le_trans hC hB) (fun q e => Nat.le_trans hC (World.ownsRow.lt hown q e).1)⟩
  rw [rep_rules _ _ hrep]
  have h := rep_flat (R := RRl) cRl (fun _ => rfl) (a ++ b)
  rw [List.flatMap_append] at h
  exact h
set_option maxRecDepth 100000 in
set_option maxHeartbeats 6400000 in
theorem lawRem_walk (s t : List UInt8) (m : Int) (w : World) (hm : w.cell? ⟨0, 0, none⟩ = some (.int .i64 m)) (h0 : 0 < w.heap.size) :
    Calls Tryz.prog 5 #[.string ⟨s.toArray⟩, .string ⟨t.toArray⟩] w fun e w' => e = .returned (.bool true) ∧ Below w.heap.size w w' := by
  have HMx := Lib.hid (show ∀ W, Below w.heap.size w W → W.cell? ⟨0, 0, none⟩ = some (.int .i64 m) ∧ 0 < W.heap.size from fun W hW => ⟨(hW.cell (p := ⟨0, 0, none⟩) h0).trans hm, Nat.lt_of_lt_of_le h0 hW.size⟩)
  clear hm h0
  obtain ⟨q1, a1, a2, a3, a4⟩ := cut_textN 150 s
  obtain ⟨q2, b1, b2, b3, b4⟩ := cut_textN 150 t
  have a1 : min (s.length : Int) 150 = (q1 : Int) := a1
  have b1 : min (t.length : Int) 150 = (q2 : Int) := b1
  obtain ⟨s0, hs0⟩ : ∃ s0, s0 = s.take 150 := ⟨_, rfl⟩
  obtain ⟨t0, ht0⟩ : ∃ t0, t0 = t.take 150 := ⟨_, rfl⟩
  rw [← hs0] at a4
  rw [← ht0] at b4
  have Hsl := Lib.hid (show s0.length ≤ 150 by rw [hs0, List.length_take]; omega)
  have Htl := Lib.hid (show t0.length ≤ 150 by rw [ht0, List.length_take]; omega)
  clear hs0 ht0 a2 b2
  go_enter Tryz.func5, Tryz.ntmps5
  go_upto_region 3 with fail
  clear a1 a3 a4 b1 b3 b4
  have s1 : ¬ 9223372036854775807 < 12 + s0.length := by have := Hsl.out; omega
  have s2 : ¬ 9223372036854775807 < 12 + s0.length + 6 := by have := Hsl.out; omega
  have s3 : ¬ 9223372036854775807 < s0.length + 1 := by have := Hsl.out; omega
  have s4 : ¬ 9223372036854775807 < s0.length + 1 + t0.length := by have := Hsl.out; have := Htl.out; omega
  have B0 := Lib.hid (Below.refl w.heap.size w)
  obtain ⟨oA, hoA⟩ : ∃ o, o = Ru.parse s0 := ⟨_, rfl⟩
  obtain ⟨oC, hoC⟩ : ∃ o, o = Ru.parse t0 := ⟨_, rfl⟩
  obtain ⟨oD, hoD⟩ : ∃ o, o = Ru.parse (s0 ++ 10 :: t0) := ⟨_, rfl⟩
  have HoA := Lib.hid hoA; have HoC := Lib.hid hoC; have HoD := Lib.hid hoD; clear hoA hoC hoD
  go_upto_region 4 with (go_at_call 7; go_loud (refine (rule_parse s0 m w (by have := Hsl.out; omega) (HMx.out _ B0.out).1 (HMx.out _ B0.out).2).mono ?_); intro e w1 hpp; have hg := hpp.get; rw [← HoA.out] at hg; obtain ⟨p1, c1, rfl, hq, hb⟩ := hg; have S1 := Lib.hid hq; have B1 := Lib.hid (bseq B0.out hb); clear hpp hq hb)
  have e2 : ((⟨#[35, 32, 109, 97, 114, 107, 117, 112, 32, 120, 10, 10]⟩ : ByteArray) ++ ⟨s0.toArray⟩) ++ ⟨#[10, 32, 9, 35, 120, 10]⟩ = ⟨(Ru.rem1 ++ (s0 ++ Ru.rem2)).toArray⟩ := by
    rw [show (⟨#[35, 32, 109, 97, 114, 107, 117, 112, 32, 120, 10, 10]⟩ : ByteArray) = ⟨Ru.rem1.toArray⟩ from rfl, show (⟨#[10, 32, 9, 35, 120, 10]⟩ : ByteArray) = ⟨Ru.rem2.toArray⟩ from rfl, append_data, append_data, List.append_assoc]
  have e4 : ((⟨s0.toArray⟩ : ByteArray) ++ ⟨#[10]⟩) ++ ⟨t0.toArray⟩ = ⟨(s0 ++ 10 :: t0).toArray⟩ := by
    rw [show (⟨#[10]⟩ : ByteArray) = ⟨[10].toArray⟩ from rfl, append_data, append_data]; simp
  have E2 := Lib.hid e2; have E4 := Lib.hid e4; clear e2 e4
  go_upto_region 5 with (go_at_call 7; first | rw [E2.out] | skip; go_loud (refine (rule_parse (Ru.rem1 ++ (s0 ++ Ru.rem2)) m w1 (by have := Hsl.out; simp [Ru.rem1, Ru.rem2]; omega) (HMx.out _ B1.out).1 (HMx.out _ B1.out).2).mono ?_); intro e w2 hpp; have hg := hpp.get; rw [Ru.parse_remarks] at hg; rw [← HoA.out] at hg; obtain ⟨p2, c2, rfl, hq, hb⟩ := hg; have S2 := Lib.hid hq; have B2 := Lib.hid (bseq B1.out hb); have T := Lib.hid (sliceBelow S1.out hb); clear S1; have S1 := T; clear T; clear hpp hq hb)
  go_upto_region 6 with (go_at_call 7; go_loud (refine (rule_parse t0 m w2 (by have := Htl.out; omega) (HMx.out _ B2.out).1 (HMx.out _ B2.out).2).mono ?_); intro e w3 hpp; have hg := hpp.get; rw [← HoC.out] at hg; obtain ⟨p3, c3, rfl, hq, hb⟩ := hg; have S3 := Lib.hid hq; have B3 := Lib.hid (bseq B2.out hb); have T := Lib.hid (sliceBelow S1.out hb); clear S1; have S1 := T; clear T; have T := Lib.hid (sliceBelow S2.out hb); clear S2; have S2 := T; clear T; clear hpp hq hb)
  go_upto_region 7 with (go_at_call 7; first | rw [E4.out] | skip; go_loud (refine (rule_parse (s0 ++ 10 :: t0) m w3 (by have := Hsl.out; have := Htl.out; simp; omega) (HMx.out _ B3.out).1 (HMx.out _ B3.out).2).mono ?_); intro e w4 hpp; have hg := hpp.get; rw [← HoD.out] at hg; obtain ⟨p4, c4, rfl, hq, hb⟩ := hg; have S4 := Lib.hid hq; have B4 := Lib.hid (bseq B3.out hb); have T := Lib.hid (sliceBelow S1.out hb); clear S1; have S1 := T; clear T; have T := Lib.hid (sliceBelow S2.out hb); clear S2; have S2 := T; clear T; have T := Lib.hid (sliceBelow S3.out hb); clear S3; have S3 := T; clear T; clear hpp hq hb)
  clear s1 s2 s3 s4 E2 E4
  have hoA := HoA.out; have hoC := HoC.out; have hoD := HoD.out
  clear HoA HoC HoD
  have HA1 := Lib.hid (show (ruL oA).length ≤ 12 ∧ ∀ x ∈ ruL oA, x.a.length ≤ 100000 ∧ x.b.length ≤ 100000 by rw [hoA]; exact ⟨ruL_len s0, ruL_each s0⟩)
  have HC1 := Lib.hid (show (ruL oC).length ≤ 12 ∧ ∀ x ∈ ruL oC, x.a.length ≤ 100000 ∧ x.b.length ≤ 100000 by rw [hoC]; exact ⟨ruL_len t0, ruL_each t0⟩)
  have HD1 := Lib.hid (show (ruL oD).length ≤ 12 by rw [hoD]; exact ruL_len _)
  have HAn := Lib.hid (show oA = none → oD = none by rw [hoA, hoD]; exact Ru.parse_none_l s0 t0)
  have HCn := Lib.hid (show oC = none → oD = none by rw [hoC, hoD]; exact Ru.parse_none_r s0 t0)
  have HAC := Lib.hid (show ∀ a c, oA = some a → oC = some c → oD = if Ru.right (a ++ c) then some (a ++ c) else none by rw [hoA, hoC, hoD]; exact fun a c ha hc => Ru.parse_two s0 t0 ha hc)
  clear hoA hoC hoD
  obtain ⟨A, hA⟩ : ∃ A, A = ruL oA := ⟨_, rfl⟩
  obtain ⟨C, hC⟩ : ∃ C, C = ruL oC := ⟨_, rfl⟩
  obtain ⟨D, hD⟩ : ∃ D, D = ruL oD := ⟨_, rfl⟩
  rw [← hA] at HA1 S1 S2 ⊢
  rw [← hC] at HC1 S3 ⊢
  rw [← hD] at HD1 S4 ⊢
  have HA := Lib.hid hA; have HC := Lib.hid hC; have HD := Lib.hid hD
  clear hA hC hD
  have hb5 := below_new w4 (.cells #[] 36)
  obtain ⟨v6, w6, hr6, hO6, hB6⟩ := append_rules (OwnL.made w4.heap.size 36 3 RRl w4 (Nat.le_refl _)) (sliceBelow S1.out hb5) hb5.size (by simp; have := HA1.out.1; omega)
  rw [List.nil_append] at hO6
  obtain ⟨p6, c6, rfl⟩ := hO6.form
  have B6 := Lib.hid (hB6 _ _ hb5 (Nat.le_refl _))
  obtain ⟨v7, w7, hr7, hO7, hB7⟩ := append_rules hO6 (sliceBelow S3.out B6.out) B6.out.size (by have := HA1.out.1; have := HC1.out.1; omega)
  obtain ⟨p7, c7, rfl⟩ := hO7.form
  have B7 := Lib.hid (hB7 _ _ B6.out (Nat.le_refl _))
  have Hr6 := Lib.hid hr6; have Hr7 := Lib.hid hr7; have S7 := Lib.hid (hO7.slice RRl.size (fun _ => True) (fun _ _ => trivial))
  clear hb5 hr6 hO6 hB6 hr7 hO7 hB7
  go_upto_region 9 with first
    | (at_builtin; refine wpList_append_run rfl (.tmp 49) (.tmp 50) 22 rfl rfl rfl Hr6.out ?_)
    | (at_builtin; refine wpList_append_run rfl (.tmp 52) (.tmp 53) 22 rfl rfl rfl Hr7.out ?_)
  have T1 := Lib.hid (sliceBelow S1.out B7.out); have T2 := Lib.hid (sliceBelow S2.out B7.out); have T4 := Lib.hid (sliceBelow S4.out B7.out)
  have HBw := Lib.hid (bseq B4.out B7.out)
  clear S1 S2 S3 S4 Hr6 Hr7 B0 B1 B2 B3 B6 B7 B4
  obtain ⟨E, hE⟩ : ∃ E, E = A ++ C := ⟨_, rfl⟩
  rw [← hE] at S7
  first | rw [← hE] | rw [show A.length + C.length = E.length by rw [hE, List.length_append]]
  have HE := Lib.hid (show E.length ≤ 24 ∧ ∀ x ∈ E, x.a.length ≤ 100000 ∧ x.b.length ≤ 100000 by
    rw [hE]; refine ⟨by rw [List.length_append]; have := HA1.out.1; have := HC1.out.1; omega, fun x hx => ?_⟩
    rcases List.mem_append.1 hx with h | h
    · exact HA1.out.2 x h
    · exact HC1.out.2 x h)
  have Heq := Lib.hid hE
  clear hE
  cases oA with
  | none =>
    have hd := HAn.out rfl
    subst hd
    cases oC with
    | none =>
      rw [show Ru.errno none = 16 from rfl]
      go_wp2_with first
        | (go_at_call 10; with_reducible refine (law22_refs A (.slice p1 A.length c1) _ w7 T1.out (by have := HA1.out.1; omega)).mono ?_; rintro e u1 ⟨x1, y1, rfl, hO1, hb1⟩; have HO1 := Lib.hid (hO1.slice RRl.size (fun _ => True) (fun _ _ => trivial)); have HU1 := Lib.hid hb1; clear hO1 hb1)
        | (go_at_call 10; with_reducible refine (law22_refs A (.slice p2 A.length c2) _ u1 (sliceBelow T2.out HU1.out) (by have := HA1.out.1; omega)).mono ?_; rintro e u2 ⟨x2, y2, rfl, hO2, hb2⟩; have HO2 := Lib.hid (hO2.slice RRl.size (fun _ => True) (fun _ _ => trivial)); have HO1' := Lib.hid (sliceBelow HO1.out hb2); have HU2 := Lib.hid (bseq HU1.out hb2); clear hO2 hb2)
        | (go_at_call 9; refine (ref22_same A A _ _ _ _ u2 HO1'.out HO2.out).mono ?_; rw [decide_eq_true (Eq.refl A)]; rintro e u3 ⟨rfl, hb3⟩; have HU := Lib.hid (bseq HU2.out hb3); clear hb3)
      go_wp2_with (go_at_call 19; refine (law22_fixed m u3 (HMx.out _ (bseq HBw.out HU.out)).1 (HMx.out _ (bseq HBw.out HU.out)).2).mono ?_; rintro e u4 ⟨rfl, hb4⟩; have HU4 := Lib.hid (bseq HU.out hb4); clear hb4)
      go_ret
      exact ⟨rfl, bseq HBw.out HU4.out⟩
    | some c =>
      rw [show Ru.errno none = 16 from rfl, show Ru.errno (some c) = 0 from rfl]
      go_wp2_with first
        | (go_at_call 10; with_reducible refine (law22_refs A (.slice p1 A.length c1) _ w7 T1.out (by have := HA1.out.1; omega)).mono ?_; rintro e u1 ⟨x1, y1, rfl, hO1, hb1⟩; have HO1 := Lib.hid (hO1.slice RRl.size (fun _ => True) (fun _ _ => trivial)); have HU1 := Lib.hid hb1; clear hO1 hb1)
        | (go_at_call 10; with_reducible refine (law22_refs A (.slice p2 A.length c2) _ u1 (sliceBelow T2.out HU1.out) (by have := HA1.out.1; omega)).mono ?_; rintro e u2 ⟨x2, y2, rfl, hO2, hb2⟩; have HO2 := Lib.hid (hO2.slice RRl.size (fun _ => True) (fun _ _ => trivial)); have HO1' := Lib.hid (sliceBelow HO1.out hb2); have HU2 := Lib.hid (bseq HU1.out hb2); clear hO2 hb2)
        | (go_at_call 9; refine (ref22_same A A _ _ _ _ u2 HO1'.out HO2.out).mono ?_; rw [decide_eq_true (Eq.refl A)]; rintro e u3 ⟨rfl, hb3⟩; have HU := Lib.hid (bseq HU2.out hb3); clear hb3)
      go_wp2_with (go_at_call 19; refine (law22_fixed m u3 (HMx.out _ (bseq HBw.out HU.out)).1 (HMx.out _ (bseq HBw.out HU.out)).2).mono ?_; rintro e u4 ⟨rfl, hb4⟩; have HU4 := Lib.hid (bseq HU.out hb4); clear hb4)
      go_ret
      exact ⟨rfl, bseq HBw.out HU4.out⟩
  | some a =>
    cases oC with
    | none =>
      have hd := HCn.out rfl
      subst hd
      rw [show Ru.errno none = 16 from rfl, show Ru.errno (some a) = 0 from rfl]
      go_wp2_with first
        | (go_at_call 10; with_reducible refine (law22_refs A (.slice p1 A.length c1) _ w7 T1.out (by have := HA1.out.1; omega)).mono ?_; rintro e u1 ⟨x1, y1, rfl, hO1, hb1⟩; have HO1 := Lib.hid (hO1.slice RRl.size (fun _ => True) (fun _ _ => trivial)); have HU1 := Lib.hid hb1; clear hO1 hb1)
        | (go_at_call 10; with_reducible refine (law22_refs A (.slice p2 A.length c2) _ u1 (sliceBelow T2.out HU1.out) (by have := HA1.out.1; omega)).mono ?_; rintro e u2 ⟨x2, y2, rfl, hO2, hb2⟩; have HO2 := Lib.hid (hO2.slice RRl.size (fun _ => True) (fun _ _ => trivial)); have HO1' := Lib.hid (sliceBelow HO1.out hb2); have HU2 := Lib.hid (bseq HU1.out hb2); clear hO2 hb2)
        | (go_at_call 9; refine (ref22_same A A _ _ _ _ u2 HO1'.out HO2.out).mono ?_; rw [decide_eq_true (Eq.refl A)]; rintro e u3 ⟨rfl, hb3⟩; have HU := Lib.hid (bseq HU2.out hb3); clear hb3)
      go_wp2_with (go_at_call 19; refine (law22_fixed m u3 (HMx.out _ (bseq HBw.out HU.out)).1 (HMx.out _ (bseq HBw.out HU.out)).2).mono ?_; rintro e u4 ⟨rfl, hb4⟩; have HU4 := Lib.hid (bseq HU.out hb4); clear hb4)
      go_ret
      exact ⟨rfl, bseq HBw.out HU4.out⟩
    | some c =>
      have hd := HAC.out a c rfl rfl
      have hac : E = a ++ c := by rw [Heq.out, HA.out, HC.out]; rfl
      cases hr : Ru.right (a ++ c) with
      | false =>
        have hd : oD = none := by rw [hd, hr]; rfl
        subst hd
        have Hr := Lib.hid (show Ru.right E = false by rw [hac]; exact hr)
        rw [show Ru.errno none = 16 from rfl, show Ru.errno (some a) = 0 from rfl, show Ru.errno (some c) = 0 from rfl]
        clear hr hac
        go_wp2_with first
          | (go_at_call 10; with_reducible refine (law22_refs A (.slice p1 A.length c1) _ w7 T1.out (by have := HA1.out.1; omega)).mono ?_; rintro e u1 ⟨x1, y1, rfl, hO1, hb1⟩; have HO1 := Lib.hid (hO1.slice RRl.size (fun _ => True) (fun _ _ => trivial)); have HU1 := Lib.hid hb1; clear hO1 hb1)
          | (go_at_call 10; with_reducible refine (law22_refs A (.slice p2 A.length c2) _ u1 (sliceBelow T2.out HU1.out) (by have := HA1.out.1; omega)).mono ?_; rintro e u2 ⟨x2, y2, rfl, hO2, hb2⟩; have HO2 := Lib.hid (hO2.slice RRl.size (fun _ => True) (fun _ _ => trivial)); have HO1' := Lib.hid (sliceBelow HO1.out hb2); have HU2 := Lib.hid (bseq HU1.out hb2); clear hO2 hb2)
          | (go_at_call 9; refine (ref22_same A A _ _ _ _ u2 HO1'.out HO2.out).mono ?_; rw [decide_eq_true (Eq.refl A)]; rintro e u3 ⟨rfl, hb3⟩; have HU := Lib.hid (bseq HU2.out hb3); clear hb3)
        go_wp2_with first
          | (go_at_call 11; refine (rule_right E _ (fun _ => True) u3 (sliceBelow S7.out HU.out) (by have := HE.out.1; omega) HE.out.2).mono ?_; rw [Hr.out]; rintro e u4 ⟨rfl, hb4⟩; have HU4 := Lib.hid (bseq HU.out hb4); clear hb4)
          | (go_at_call 19; refine (law22_fixed m u4 (HMx.out _ (bseq HBw.out HU4.out)).1 (HMx.out _ (bseq HBw.out HU4.out)).2).mono ?_; rintro e u5 ⟨rfl, hb5⟩; have HU5 := Lib.hid (bseq HU4.out hb5); clear hb5)
        go_ret
        exact ⟨rfl, bseq HBw.out HU5.out⟩
      | true =>
        have hd : oD = some (a ++ c) := by rw [hd, hr]; rfl
        subst hd
        have hDE : D = E := by rw [HD.out, hac]; rfl
        have Hr := Lib.hid (show Ru.right E = true by rw [hac]; exact hr)
        rw [show Ru.errno (some (a ++ c)) = 0 from rfl, show Ru.errno (some a) = 0 from rfl, show Ru.errno (some c) = 0 from rfl]
        have HDE := Lib.hid hDE
        clear hr hac hDE
        go_wp2_with first
          | (go_at_call 10; with_reducible refine (law22_refs A (.slice p1 A.length c1) _ w7 T1.out (by have := HA1.out.1; omega)).mono ?_; rintro e u1 ⟨x1, y1, rfl, hO1, hb1⟩; have HO1 := Lib.hid (hO1.slice RRl.size (fun _ => True) (fun _ _ => trivial)); have HU1 := Lib.hid hb1; clear hO1 hb1)
          | (go_at_call 10; with_reducible refine (law22_refs A (.slice p2 A.length c2) _ u1 (sliceBelow T2.out HU1.out) (by have := HA1.out.1; omega)).mono ?_; rintro e u2 ⟨x2, y2, rfl, hO2, hb2⟩; have HO2 := Lib.hid (hO2.slice RRl.size (fun _ => True) (fun _ _ => trivial)); have HO1' := Lib.hid (sliceBelow HO1.out hb2); have HU2 := Lib.hid (bseq HU1.out hb2); clear hO2 hb2)
          | (go_at_call 9; refine (ref22_same A A _ _ _ _ u2 HO1'.out HO2.out).mono ?_; rw [decide_eq_true (Eq.refl A)]; rintro e u3 ⟨rfl, hb3⟩; have HU := Lib.hid (bseq HU2.out hb3); clear hb3)
        go_wp2_with first
          | (go_at_call 11; refine (rule_right E _ (fun _ => True) u3 (sliceBelow S7.out HU.out) (by have := HE.out.1; omega) HE.out.2).mono ?_; rw [Hr.out]; rintro e u4 ⟨rfl, hb4⟩; have HU4 := Lib.hid (bseq HU.out hb4); clear hb4)
          | (go_at_call 10; with_reducible refine (law22_refs D (.slice p4 D.length c4) _ u4 (sliceBelow T4.out HU4.out) (by have := HD1.out; omega)).mono ?_; rintro e u5 ⟨x5, y5, rfl, hO5, hb5⟩; have HO5 := Lib.hid (hO5.slice RRl.size (fun _ => True) (fun _ _ => trivial)); have HU5 := Lib.hid (bseq HU4.out hb5); clear hO5 hb5)
          | (go_at_call 10; with_reducible refine (law22_refs E (.slice p7 E.length c7) _ u5 (sliceBelow S7.out HU5.out) (by have := HE.out.1; omega)).mono ?_; rintro e u6 ⟨x6, y6, rfl, hO6, hb6⟩; have HO6 := Lib.hid (hO6.slice RRl.size (fun _ => True) (fun _ _ => trivial)); have HO5' := Lib.hid (sliceBelow HO5.out hb6); have HU6 := Lib.hid (bseq HU5.out hb6); clear hO6 hb6)
          | (go_at_call 9; refine (ref22_same D E _ _ _ _ u6 HO5'.out HO6.out).mono ?_; rw [decide_eq_true HDE.out]; rintro e u7 ⟨rfl, hb7⟩; have HU7 := Lib.hid (bseq HU6.out hb7); clear hb7)
          | (go_at_call 19; refine (law22_fixed m u7 (HMx.out _ (bseq HBw.out HU7.out)).1 (HMx.out _ (bseq HBw.out HU7.out)).2).mono ?_; rintro e u8 ⟨rfl, hb8⟩; have HU8 := Lib.hid (bseq HU7.out hb8); clear hb8)
        go_ret
        exact ⟨rfl, bseq HBw.out HU8.out⟩
theorem lawRem_walk2 (s t : List UInt8) (w : World) (hL : (∃ m, w.cell? ⟨0, 0, none⟩ = some (.int .i64 m)) ∧ 0 < w.heap.size) :
    Calls Tryz.prog 5 #[.string ⟨s.toArray⟩, .string ⟨t.toArray⟩] w fun e w' => e = .returned (.bool true) ∧ Below w.heap.size w w' := by
  obtain ⟨⟨m, hm⟩, h0⟩ := hL
  exact lawRem_walk s t m w hm h0
end Go.Proofs.YtibinlpbcoihoaaGreatDoor
