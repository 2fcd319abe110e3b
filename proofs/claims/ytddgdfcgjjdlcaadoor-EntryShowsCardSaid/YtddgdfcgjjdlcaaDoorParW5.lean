/- The walks of package entry's reader: texts in quotation marks. -/
import Derived.Test.YtddgdfcgjjdlcaaDoorParW4
namespace Go.Proofs.YtddgdfcgjjdlcaaDoor
open Go.RowKit

theorem index_split (c : UInt8) : ∀ l : List UInt8, (l.dropWhile (fun x => !(x == c)) = [] ∧ Lib.indexByte l c = -1) ∨
    (∃ r, l.dropWhile (fun x => !(x == c)) = c :: r ∧ Lib.indexByte l c = ((l.takeWhile (fun x => !(x == c))).length : Int) ∧ l = l.takeWhile (fun x => !(x == c)) ++ c :: r)
  | [] => .inl ⟨rfl, rfl⟩
  | x :: l => by
    cases hx : (x == c)
    · rcases index_split c l with ⟨h1, h2⟩ | ⟨r, h1, h2, h3⟩
      · exact .inl ⟨by rw [List.dropWhile_cons, hx]; exact h1, by unfold Lib.indexByte; rw [hx, h2]; rfl⟩
      · refine .inr ⟨r, by rw [List.dropWhile_cons, hx]; exact h1, ?_, ?_⟩
        · unfold Lib.indexByte
          rw [hx, h2, List.takeWhile_cons, hx]
          have : (((l.takeWhile (fun x => !(x == c))).length : Int) == -1) = false := by simp
          rw [this]
          simp
        · rw [List.takeWhile_cons, hx]
          simpa using h3
    · have := eq_of_beq hx
      subst this
      exact .inr ⟨l, by simp, by simp [Lib.indexByte], by simp⟩
theorem quiet_find (l : List UInt8) (c : Int) (b : UInt8) (hc : c.toNat.toUInt8 = b) (w : World) (n : Nat) (v : Int) (hv : Lib.indexByte l b = v) :
    Calls Tryd.prog 27 #[.string ⟨l.toArray⟩, .int .u8 c] (w.drewN n) fun e w' => e = .returned (.int .i64 v) ∧ ∃ m, w' = w.drewN m := by
  refine (Tryd.strings_IndexByte _ _ _).mono (fun e w' ⟨h1, h2⟩ => ⟨?_, n, h2⟩)
  rw [h1, hc, hv]

set_option maxRecDepth 100000 in
set_option maxHeartbeats 800000 in
theorem reader_quoted (s : List UInt8) (r : Nat) (l : List UInt8) (w : World) (hs : s.length ≤ maxLen) (hA : At s r w l) :
    Calls Tryd.prog 50 #[.pointer (some ⟨r, 0, none⟩)] w fun e w' => said (Ent.quoted l) e ∧ At s r w' (Ent.quoted l).2 ∧ Moved r w w' := by
  unfold maxLen at hs
  obtain ⟨o, ho⟩ : ∃ o, Ent.quoted l = o := ⟨_, rfl⟩
  rw [ho]
  unfold Ent.quoted at ho
  have e0 := hA.text
  have f1 := hA.free
  obtain ⟨k, hk, hd, e1⟩ := hA.place
  have hx1 := extract_end s k
  rw [hd] at hx1
  have HA := Lib.hid hA; clear hA
  have g3 : (k : Int) ≤ (s.length : Int) := by omega
  rcases index_split 34 l with ⟨h1, h2⟩ | ⟨r2, h1, h2, h3⟩
  · rw [h1] at ho
    have Ho := Lib.hid ho.symm; have H2 := Lib.hid h2; clear ho h1 h2 hd
    go_enter Tryd.func50, Tryd.ntmps50
    go_wp2_with fail
    go_quiet (first | (go_at_call 27; exact quiet_find _ _ 34 rfl _ _ _ H2.out))
    go_wp2_with (go_at_call 53; refine (reader_end _ _ _ _ (HA.out.drewN nq)).mono ?_; rintro e w3 ⟨rfl, hA3, hM3⟩)
    refine ⟨rfl, ?_⟩
    rw [Ho.out]
    exact ⟨rfl, hA3, ((Moved.refl r w).drewN nq).trans hM3⟩
  · rw [h1] at ho
    dsimp only at ho
    obtain ⟨t, ht⟩ : ∃ t, l.takeWhile (fun x => !(x == 34)) = t := ⟨_, rfl⟩
    rw [ht] at h2 h3 ho
    have hlen : k + (t.length + 1) ≤ s.length := by
      have h := congrArg List.length hd
      rw [h3] at h
      simp at h; omega
    have hx2 : (⟨s.toArray⟩ : ByteArray).extract k (k + t.length) = ⟨t.toArray⟩ := by
      rw [extract_any, hd, h3, Nat.add_sub_cancel_left, List.take_left]
    have hx3 : s.drop (k + (t.length + 1)) = r2 := by
      rw [← List.drop_drop, hd, h3, ← List.drop_drop, List.drop_left]; rfl
    have g4 : IntKind.i64.wrap ((k : Int) + (t.length : Int)) = (k : Int) + (t.length : Int) := IntWalk.i64_in _ (by omega)
    have g5 : IntKind.i64.wrap ((t.length : Int) + 1) = (t.length : Int) + 1 := IntWalk.i64_in _ (by omega)
    have g6 : IntKind.i64.wrap ((k : Int) + ((t.length : Int) + 1)) = (k : Int) + ((t.length : Int) + 1) := IntWalk.i64_in _ (by omega)
    have g7 : (k : Int) + (t.length : Int) ≤ (s.length : Int) := by omega
    have Ho := Lib.hid ho.symm; have H2 := Lib.hid h2; have Hx3 := Lib.hid hx3; clear ho h1 h2 hd ht h3 hx3
    go_enter Tryd.func50, Tryd.ntmps50
    go_wp2_with fail
    go_quiet (first | (go_at_call 27; exact quiet_find _ _ 34 rfl _ _ _ H2.out))
    go_wp2_with fail
    go_quiet (fail)
    go_wp2_with fail
    go_ret
    rw [Ho.out]
    refine ⟨congrArg (fun z => Ending.returned (.string z)) hx2, ?_, ((Moved.refl r w).drewN _).set _⟩
    rw [← Hx3.out]
    exact (HA.out.drewN _).set hlen _ (by omega)
end Go.Proofs.YtddgdfcgjjdlcaaDoor
