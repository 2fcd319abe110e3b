/- The walks of package entry's reader: marks, texts in quotation marks and in braces. -/
import Derived.Test.YtddgdfcgjjdlcaaDoorParW3
namespace Go.Proofs.YtddgdfcgjjdlcaaDoor
open Go.RowKit

/-- what a call of the reader hands back: a text, or an end -/
abbrev said (o : Option (List UInt8) × List UInt8) (e : Ending) : Prop := e = match o.1 with | some m => .returned (.string ⟨m.toArray⟩) | none => wrongP o.2

theorem quiet_sign (c : UInt8) (w : World) (n : Nat) (b : Bool) (hb : Ent.sign c = b) :
    Calls Tryd.prog 30 #[.int .u8 (c.toNat : Int)] (w.drewN n) fun e w' => e = .returned (.bool b) ∧ ∃ m, w' = w.drewN m :=
  (entry_sign c _).mono (fun _ _ ⟨h1, h2⟩ => ⟨by rw [h1, hb], n, h2.symm⟩)

theorem mark_split (l1 m l2 : List UInt8) (h : l1 = m ++ l2) (hm : m.all Ent.sign = true) (hl : l2 = [] ∨ ∃ x l3, l2 = x :: l3 ∧ Ent.sign x = false) : l1.takeWhile Ent.sign = m ∧ l1.dropWhile Ent.sign = l2 := by
  have h1 : l2.takeWhile Ent.sign = [] ∧ l2.dropWhile Ent.sign = l2 := by
    rcases hl with rfl | ⟨x, l3, rfl, hx⟩
    · exact ⟨rfl, rfl⟩
    · simp [hx]
  have hm' : ∀ a ∈ m, Ent.sign a = true := List.all_eq_true.1 hm
  rw [h, List.takeWhile_append_of_pos hm', List.dropWhile_append_of_pos hm', h1.1, h1.2]
  simp
theorem place_split (s m l2 : List UInt8) (k0 k : Nat) (hk : k ≤ s.length) (h0 : s.drop k0 = m ++ l2) (h1 : s.drop k = l2) (hk0 : k0 ≤ s.length) : k = k0 + m.length ∧ (⟨s.toArray⟩ : ByteArray).extract k0 k = ⟨m.toArray⟩ := by
  have h2 : k = k0 + m.length := by
    have a := congrArg List.length h0
    have b := congrArg List.length h1
    simp at a b
    omega
  refine ⟨h2, ?_⟩
  rw [extract_any, h0, h2, Nat.add_sub_cancel_left, List.take_left]

set_option maxRecDepth 100000 in
set_option maxHeartbeats 800000 in
theorem reader_mark (s : List UInt8) (r : Nat) (l : List UInt8) (w : World) (hs : s.length ≤ maxLen) (hA : At s r w l) :
    Calls Tryd.prog 35 #[.pointer (some ⟨r, 0, none⟩)] w fun e w' => said (Ent.mark l) e ∧ At s r w' (Ent.mark l).2 ∧ Moved r w w' := by
  have HB := Lib.hid (reader_blanks s r l w hs hA)
  clear hA
  unfold maxLen at hs
  obtain ⟨l1, hl1⟩ : ∃ l1, Ent.bl l = l1 := ⟨_, rfl⟩
  obtain ⟨o, ho⟩ : ∃ o, Ent.mark l = o := ⟨_, rfl⟩
  rw [ho]
  unfold Ent.mark at ho
  rw [hl1] at HB ho
  have Ho := Lib.hid ho
  clear hl1 ho
  go_enter Tryd.func35, Tryd.ntmps35
  go_upto_region 2 with (go_at_call 44; refine HB.out.mono ?_; rintro e w2 ⟨rfl, hA2, hM2⟩)
  have e0 := hA2.text
  obtain ⟨k0, hk0, hd0, e1⟩ := hA2.place
  have HA := Lib.hid hA2; have HM := Lib.hid hM2; have Hd0 := Lib.hid hd0; clear hA2 hM2 hd0 HB
  go_wp2_with fail
  go_loopw [] (fun wr => ∃ l2, ((∃ m, l1 = m ++ l2 ∧ m.all Ent.sign = true)) ∧ At s r wr l2 ∧ Moved r w wr) (fun wr => s.length - placeOf r wr)
  case atStart => exact ⟨l1, ⟨[], rfl, rfl⟩, HA.out, HM.out⟩
  case round =>
    clear HA HM e0 e1
    obtain ⟨l2, hm, hA, hM⟩ := hrel
    obtain ⟨k, hk, hd, e1⟩ := hA.place
    have e0 := hA.text
    have f1 := hA.free
    have HA := Lib.hid hA; have HM := Lib.hid hM; have Hm := Lib.hid hm; clear hA hM hm
    cases hl2 : l2 with
    | nil =>
      have hkn : k = s.length := by
        have h := congrArg List.length hd
        rw [List.length_drop, hl2] at h
        simp at h; omega
      have g1 : decide ((k : Int) < (s.length : Int)) = false := by simp; omega
      have Hd := Lib.hid hd; have Hl2 := Lib.hid hl2; clear hd hl2
      go_wp2_with fail
      go_quiet (fail)
      have HA2 := Lib.hid (HA.out.drewN nq); have HM2 := Lib.hid (HM.out.drewN nq)
      clear HA HM hkn
      obtain ⟨m, hm1, hm2⟩ := Hm.out
      have h3 := mark_split l1 m l2 hm1 hm2 (.inl Hl2.out)
      have h4 := place_split s m l2 k0 k hk (Hd0.out.trans hm1) Hd.out hk0
      have h5 := h4.1
      have h6 := h4.2
      have hO : o = (if m.isEmpty then none else some m, l2) := by rw [← Ho.out, h3.1, h3.2]
      have HO := Lib.hid hO
      clear h3 h4 hm1 hm2 hO
      cases hmm : m with
      | nil =>
        rw [hmm] at HO
        have h7 : k0 = k := by rw [h5, hmm]; simp
        clear h5 h6 hmm
        subst h7
        go_wp2_with (go_at_call 45; refine (reader_fail _ _ _ _ HA2.out).mono ?_; rintro e w3 ⟨rfl, hA3, hM3⟩)
        refine ⟨rfl, ?_⟩
        rw [HO.out]
        exact ⟨rfl, hA3, HM2.out.trans hM3⟩
      | cons y m2 =>
        have g2 : ((k : Int) == (k0 : Int)) = false := by rw [h5, hmm]; simp; omega
        have g3 : (k0 : Int) ≤ (k : Int) := by omega
        have g4 : (k : Int) ≤ (s.length : Int) := by omega
        rw [hmm] at h6 HO
        clear h5 hmm
        go_wp2_with fail
        go_quiet (fail)
        go_wp2_with fail
        go_ret
        rw [HO.out]
        exact ⟨rfl, HA2.out.drewN _, HM2.out.drewN _⟩
    | cons x l3 =>
      obtain ⟨hx, hlt, hd2⟩ := drop_cons (hd.trans hl2)
      have g1 : (k : Int) < (s.length : Int) := by omega
      have hb := byte_at s k x hx
      have hkl : (k : Int) + 1 ≤ 9223372036854775807 := by omega
      have Hd := Lib.hid hd; have Hx := Lib.hid hx; have Hl2 := Lib.hid hl2; have Hd2 := Lib.hid hd2; clear hd hx hd2 hl2
      cases hsx : Ent.sign x
      · have Hsx := Lib.hid hsx; clear hsx
        go_wp2_with fail
        go_quiet (first | (go_at_call 30; exact quiet_sign _ _ _ _ Hsx.out))
        have HA2 := Lib.hid (HA.out.drewN nq); have HM2 := Lib.hid (HM.out.drewN nq)
        clear HA HM
        obtain ⟨m, hm1, hm2⟩ := Hm.out
        have h3 := mark_split l1 m l2 hm1 hm2 (.inr ⟨x, l3, Hl2.out, Hsx.out⟩)
        have h4 := place_split s m l2 k0 k hk (Hd0.out.trans hm1) Hd.out hk0
        have h5 := h4.1
        have h6 := h4.2
        have hO : o = (if m.isEmpty then none else some m, l2) := by rw [← Ho.out, h3.1, h3.2]
        have HO := Lib.hid hO
        clear h3 h4 hm1 hm2 hO
        cases hmm : m with
        | nil =>
          rw [hmm] at HO
          have h7 : k0 = k := by rw [h5, hmm]; simp
          clear h5 h6 hmm
          subst h7
          go_wp2_with (go_at_call 45; refine (reader_fail _ _ _ _ HA2.out).mono ?_; rintro e w3 ⟨rfl, hA3, hM3⟩)
          refine ⟨rfl, ?_⟩
          rw [HO.out]
          exact ⟨rfl, hA3, HM2.out.trans hM3⟩
        | cons y m2 =>
          have g2 : ((k : Int) == (k0 : Int)) = false := by rw [h5, hmm]; simp; omega
          have g3 : (k0 : Int) ≤ (k : Int) := by omega
          have g4 : (k : Int) ≤ (s.length : Int) := by omega
          rw [hmm] at h6 HO
          clear h5 hmm
          go_wp2_with fail
          go_quiet (fail)
          go_wp2_with fail
          go_ret
          rw [HO.out]
          exact ⟨rfl, HA2.out.drewN _, HM2.out.drewN _⟩
      · have Hsx := Lib.hid hsx; clear hsx
        go_wp2_with fail
        go_quiet (first | (go_at_call 30; exact quiet_sign _ _ _ _ Hsx.out))
        go_wp2_with fail
        have h2 := (HA.out.drewN nq).set (k := k + 1) (by omega) ((k : Int) + 1) (by omega)
        rw [Hd2.out] at h2
        refine ⟨⟨l3, ?_, h2, (HM.out.drewN nq).set _⟩, ?_⟩
        · obtain ⟨m, h3, h4⟩ := Hm.out
          exact ⟨m ++ [x], by rw [h3, Hl2.out]; simp, by rw [List.all_append, h4]; simp [Hsx.out]⟩
        have p1 : placeOf r wr = k := by unfold placeOf; rw [e1]; simp
        have p2 : placeOf r ((wr.drewN nq).setCell ⟨r, 1, none⟩ (.int .i64 ((k : Int) + 1))) = k + 1 := by
          unfold placeOf
          rw [World.cell?_setCell_same (wr.drewN nq) _ _ e1]
          simp
        rw [p1, p2]; omega
end Go.Proofs.YtddgdfcgjjdlcaaDoor
