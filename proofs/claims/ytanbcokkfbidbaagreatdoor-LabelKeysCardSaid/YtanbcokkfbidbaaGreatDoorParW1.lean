/- The walks of package entry's reader, first part: blanks, one byte, marks. -/
import Derived.Test.YtanbcokkfbidbaaGreatDoorParP
import Derived.BigQuiet
namespace Go.Proofs.YtanbcokkfbidbaaGreatDoor
open Go.RowKit

/-- the reader's place: its text, and what is left of it -/
structure At (s : List UInt8) (r : Nat) (w : World) (l : List UInt8) : Prop where
  text : w.cell? ⟨r, 0, none⟩ = some (.string ⟨s.toArray⟩)
  place : ∃ k : Nat, k ≤ s.length ∧ s.drop k = l ∧ w.cell? ⟨r, 1, none⟩ = some (.int .i64 (k : Int))
  free : w.frozen? ⟨r, 1, none⟩ = false
  lt : r < w.heap.size
theorem drop_cons {s l : List UInt8} {k : Nat} {x : UInt8} (h : s.drop k = x :: l) : s[k]? = some x ∧ k < s.length ∧ s.drop (k + 1) = l := by
  have h1 : s[k]? = some x := by rw [← List.head?_drop, h]; rfl
  refine ⟨h1, (List.getElem?_eq_some_iff.1 h1).1, ?_⟩
  rw [← List.drop_drop, h]; rfl
/-- nothing but the reader's place has turned -/
structure Moved (r : Nat) (w w' : World) : Prop where
  os : w'.os = w.os
  tape : w'.tape = w.tape
  output : w'.output = w.output
  size : w'.heap.size = w.heap.size
  block : ∀ k, k ≠ r → w'.heap[k]? = w.heap[k]?
  cell : ∀ i, i ≠ 1 → w'.cell? ⟨r, i, none⟩ = w.cell? ⟨r, i, none⟩
  frozen : ∀ i, w'.frozen? ⟨r, i, none⟩ = w.frozen? ⟨r, i, none⟩
theorem Moved.refl (r : Nat) (w : World) : Moved r w w := ⟨rfl, rfl, rfl, rfl, fun _ _ => rfl, fun _ _ => rfl, fun _ => rfl⟩
theorem Moved.trans {r : Nat} {a b c : World} (h : Moved r a b) (k : Moved r b c) : Moved r a c :=
  ⟨k.os.trans h.os, k.tape.trans h.tape, k.output.trans h.output, k.size.trans h.size, fun i hi => (k.block i hi).trans (h.block i hi), fun i hi => (k.cell i hi).trans (h.cell i hi), fun i => (k.frozen i).trans (h.frozen i)⟩
theorem Moved.drew {r : Nat} {a w : World} (h : Moved r a w) : Moved r a w.drew := ⟨h.os, h.tape, h.output, h.size, h.block, h.cell, h.frozen⟩
theorem Moved.drewN {r : Nat} {a w : World} (h : Moved r a w) (n : Nat) : Moved r a (w.drewN n) := by
  induction n with
  | zero => exact h
  | succ k ih => exact ih.drew
theorem Moved.set {r : Nat} {a w : World} (h : Moved r a w) (v : Value) : Moved r a (w.setCell ⟨r, 1, none⟩ v) :=
  h.trans ⟨rfl, rfl, rfl, by simp [World.setCell], fun k hk => Below.heap_setCell _ _ _ _ hk, fun i hi => World.cell?_setCell_other _ _ _ _ (fun e => hi (by cases e; rfl)), fun i => by simp⟩
theorem At.drewN {s : List UInt8} {r : Nat} {w : World} {l : List UInt8} (h : At s r w l) (n : Nat) : At s r (w.drewN n) l := ⟨h.text, h.place, h.free, h.lt⟩
theorem At.set {s : List UInt8} {r : Nat} {w : World} {l : List UInt8} (h : At s r w l) {k : Nat} (hk : k ≤ s.length) (n : Int) (hn : n = (k : Int)) : At s r (w.setCell ⟨r, 1, none⟩ (.int .i64 n)) (s.drop k) := by
  obtain ⟨h1, ⟨_, _, _, h2⟩, h3, h4⟩ := h
  refine ⟨by rw [World.cell?_setCell_other _ _ _ _ (by simp)]; exact h1, ⟨k, hk, rfl, ?_⟩, by simpa using h3, by simpa using h4⟩
  rw [World.cell?_setCell_same _ _ _ h2, hn]
def placeOf (r : Nat) (w : World) : Nat := match w.cell? ⟨r, 1, none⟩ with | some (.int _ n) => n.toNat | _ => 0

theorem index_blank (c : UInt8) : decide (0 ≤ Lib.indexByte [32, 9, 10] c) = Ent.blank c := by
  have := byte_all (fun c => decide (0 ≤ Lib.indexByte [32, 9, 10] c) == Ent.blank c) (by decide +kernel) c
  simpa using this

theorem quiet_index (l : List UInt8) (c : UInt8) (w : World) (n : Nat) (v : Int) (hv : Lib.indexByte l c = v) :
    Calls Tryz.prog 40 #[.string ⟨l.toArray⟩, .int .u8 (c.toNat : Int)] (w.drewN n) fun e w' => e = .returned (.int .i64 v) ∧ ∃ m, w' = w.drewN m := by
  refine (Tryz.strings_IndexByte _ _ _).mono (fun e w' ⟨h1, h2⟩ => ⟨?_, n, h2⟩)
  rw [h1, toU8, hv]

set_option maxRecDepth 100000 in
set_option maxHeartbeats 400000 in
theorem reader_blanks (s : List UInt8) (r : Nat) (l : List UInt8) (w : World) (hs : s.length ≤ maxLen) (hA : At s r w l) :
    Calls Tryz.prog 87 #[.pointer (some ⟨r, 0, none⟩)] w fun e w' => e = .returned (.int .u8 (Ent.hd (Ent.bl l))) ∧ At s r w' (Ent.bl l) ∧ Moved r w w' := by
  unfold maxLen at hs
  have HA := Lib.hid hA; clear hA
  go_enter Tryz.func87, Tryz.ntmps87
  go_wp2_with fail
  go_loopw [] (fun wr => ∃ l1, Ent.bl l1 = Ent.bl l ∧ At s r wr l1 ∧ Moved r w wr) (fun wr => s.length - placeOf r wr)
  case atStart => exact ⟨l, rfl, HA.out, Moved.refl _ _⟩
  case round =>
    clear HA
    obtain ⟨l1, hl, hA, hM⟩ := hrel
    obtain ⟨k, hk, hd, e1⟩ := hA.place
    have e0 := hA.text
    have f1 := hA.free
    have HA := Lib.hid hA; have HM := Lib.hid hM; have Hl := Lib.hid hl; clear hA hM hl
    cases hl1 : l1 with
    | nil =>
      have hkn : k = s.length := by
        have h := congrArg List.length hd
        rw [List.length_drop, hl1] at h
        simp at h; omega
      have g1 : decide ((k : Int) < (s.length : Int)) = false := by simp; omega
      have g2 : ((k : Int) == (s.length : Int)) = true := by rw [hkn]; simp
      go_wp2_with fail
      go_quiet (fail)
      have HA2 := Lib.hid (HA.out.drewN nq); have HM2 := Lib.hid (HM.out.drewN nq)
      clear HA HM
      go_wp2_with fail
      go_quiet (fail)
      go_wp2_with fail
      go_ret
      have h : Ent.bl l = [] := by rw [← Hl.out, hl1]; rfl
      rw [h]
      have h2 := HA2.out.drewN nq
      rw [hl1] at h2
      exact ⟨rfl, h2, HM2.out.drewN _⟩
    | cons x l2 =>
      obtain ⟨hx, hlt, hd2⟩ := drop_cons (hd.trans hl1)
      have g1 : (k : Int) < (s.length : Int) := by omega
      have hb := byte_at s k x hx
      have hkl : (k : Int) + 1 ≤ 9223372036854775807 := by omega
      obtain ⟨v, hv⟩ : ∃ v, Lib.indexByte [32, 9, 10] x = v := ⟨_, rfl⟩
      have hib := index_blank x
      rw [hv] at hib
      have Hv := Lib.hid hv; clear hv
      have Hd := Lib.hid hd; have Hx := Lib.hid hx; have Hl1 := Lib.hid hl1; have Hd2 := Lib.hid hd2; clear hd hx hd2 hl1
      cases hbl : Ent.blank x
      · have hi : decide ((0 : Int) ≤ v) = false := by rw [hbl] at hib; exact hib
        have Hbl := Lib.hid hbl
        clear hib hbl
        go_wp2_with fail
        go_quiet (first | (go_at_call 40; exact quiet_index _ _ _ _ _ Hv.out))
        go_wp2_with fail
        have HA2 := Lib.hid (HA.out.drewN nq); have HM2 := Lib.hid (HM.out.drewN nq)
        have g2 : ((k : Int) == (s.length : Int)) = false := by simp; omega
        clear HA HM
        go_quiet (fail)
        replace HA2 := Lib.hid (HA2.out.drewN nq); replace HM2 := Lib.hid (HM2.out.drewN nq)
        go_wp2_with fail
        go_quiet (fail)
        go_wp2_with fail
        go_ret
        have h : Ent.bl l = x :: l2 := by rw [← Hl.out, Hl1.out]; unfold Ent.bl; rw [List.dropWhile_cons, Hbl.out]; rfl
        rw [h]
        have h2 := HA2.out.drewN nq
        rw [Hl1.out] at h2
        exact ⟨rfl, h2, HM2.out.drewN _⟩
      · have hi : (0 : Int) ≤ v := by rw [hbl] at hib; simpa using hib
        have Hbl := Lib.hid hbl
        clear hib hbl
        go_wp2_with fail
        go_quiet (first | (go_at_call 40; exact quiet_index _ _ _ _ _ Hv.out))
        go_wp2_with fail
        have h2 := (HA.out.drewN nq).set (k := k + 1) (by omega) ((k : Int) + 1) (by omega)
        have h : Ent.bl l2 = Ent.bl l := by rw [← Hl.out, Hl1.out]; unfold Ent.bl; rw [List.dropWhile_cons, Hbl.out]; rfl
        rw [Hd2.out] at h2
        refine ⟨⟨l2, h, h2, (HM.out.drewN nq).set _⟩, ?_⟩
        have p1 : placeOf r wr = k := by unfold placeOf; rw [e1]; simp
        have p2 : placeOf r ((wr.drewN nq).setCell ⟨r, 1, none⟩ (.int .i64 ((k : Int) + 1))) = k + 1 := by
          unfold placeOf
          rw [World.cell?_setCell_same (wr.drewN nq) _ _ e1]
          simp
        rw [p1, p2]; omega
end Go.Proofs.YtanbcokkfbidbaaGreatDoor
