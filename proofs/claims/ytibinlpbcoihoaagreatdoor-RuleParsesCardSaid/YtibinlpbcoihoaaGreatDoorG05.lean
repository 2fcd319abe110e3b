/- What the files' texts use of the index's: numbers as text, texts compared, rows laid flat. The walks of a map of files: names, places, what a file holds. -/
import Derived.Test.YtibinlpbcoihoaaGreatDoorG03
import Derived.Shelf.Strings.CaseAny
import Derived.Test.YtibinlpbcoihoaaGreatDoorG04
import Derived.Test.YtibinlpbcoihoaaGreatDoorG00
import Derived.OwnWalk
import Derived.WalkMore
import Derived.Test.YtibinlpbcoihoaaGreatDoorG02
import Derived.BigQuiet
import Derived.OrdersHeld
import Derived.Deep.RegionHeld
import Derived.Lib.Join
set_option linter.unusedSimpArgs false
set_option linter.unusedVariables false
namespace Go.Proofs.YtibinlpbcoihoaaGreatDoor
open Go.RowKit
namespace Ix
end Ix
theorem ix_compare (a b : List UInt8) (w : World) : Calls Tryz.prog 135 #[.string ⟨a.toArray⟩, .string ⟨b.toArray⟩] w fun e w' => e = .returned (.int .i64 (Ix.cmpB a b)) ∧ w' = w := Tryz.strings_Compare ⟨a.toArray⟩ ⟨b.toArray⟩ w
attribute [local go_sem] Oper.semAt_some
namespace Ix
theorem take_snoc {α : Type} (l : List α) (k : Nat) (x : α) (h : l[k]? = some x) : l.take (k + 1) = l.take k ++ [x] := by rw [List.take_add_one, h]; rfl
end Ix
theorem OwnL.lower {α : Type} {B B' : Nat} {t : TypeId} {n : Nat} {R : α → List Value → Prop} {W : World} {v : Value} {l : List α} (h : OwnL B t n R W v l) (hb : B' ≤ B) : OwnL B' t n R W v l := by
  obtain ⟨fl, ⟨h0, h1⟩, h2⟩ := h
  refine ⟨fl, ⟨h0, ?_⟩, h2⟩
  rcases h1 with h1 | ⟨g, cap, cur, hv, hg, r⟩
  · exact .inl h1
  · exact .inr ⟨g, cap, cur, hv, Nat.le_trans hb hg, r⟩
theorem rep_flat {α : Type} {R : α → List Value → Prop} (c : α → List Value) (hR : ∀ x, R x (c x)) : ∀ l : List α, RepRow R l (l.flatMap c)
  | [] => rfl
  | x :: xs => ⟨c x, xs.flatMap c, by rw [List.flatMap_cons], hR x, rep_flat c hR xs⟩
theorem len_flat {α : Type} (c : α → List Value) (n : Nat) (hn : ∀ x, (c x).length = n) : ∀ l : List α, (l.flatMap c).length = l.length * n
  | [] => by simp
  | x :: xs => by rw [List.flatMap_cons, List.length_append, hn, len_flat c n hn xs, List.length_cons, Nat.succ_mul, Nat.add_comm]
def cF (x : List UInt8 × List UInt8) : List Value := [.string ⟨x.1.toArray⟩, .string ⟨x.2.toArray⟩]
end Go.Proofs.YtibinlpbcoihoaaGreatDoor
set_option linter.unusedSimpArgs false
set_option linter.unusedVariables false
namespace Go.Proofs.YtibinlpbcoihoaaGreatDoor
open Go.RowKit
def RFl (x : List UInt8 × List UInt8) (vs : List Value) : Prop := vs = [.string ⟨x.1.toArray⟩, .string ⟨x.2.toArray⟩]
theorem RFl.size (x : List UInt8 × List UInt8) (vs : List Value) (h : RFl x vs) : vs.length = 2 := by rw [h]; rfl
theorem Ix.nameB_iff (c : UInt8) : Ix.nameB c = decide (¬ Lib.indexByte Ix.alph c < 0) := rfl
theorem std_alph (c : UInt8) (w : World) : Calls Tryz.prog 60 #[.string ⟨#[97, 98, 99, 100, 101, 102, 103, 104, 105, 106, 107, 108, 109, 110, 111, 112, 113, 114, 115, 116, 117, 118, 119, 120, 121, 122, 48, 49, 50, 51, 52, 53, 54, 55, 56, 57, 45, 46]⟩, .int .u8 (c.toNat : Int)] w fun e w' => e = .returned (.int .i64 (Lib.indexByte Ix.alph c)) ∧ w' = w := by
  refine (Tryz.strings_IndexByte _ _ _).mono ?_
  rintro e w' ⟨rfl, rfl⟩
  refine ⟨?_, rfl⟩
  have h : ((c.toNat : Int)).toNat.toUInt8 = c := by simp
  rw [h]
  rfl
set_option maxRecDepth 100000 in
set_option maxHeartbeats 1600000 in
theorem files_name (s : List UInt8) (w : World) (hs : s.length ≤ 9223372036854775807) :
    Calls Tryz.prog 43 #[.string ⟨s.toArray⟩] w fun e w' => e = .returned (.bool (Ix.nameOk s)) ∧ w' = w := by
  have Hs := Lib.hid hs; clear hs
  go_enter Tryz.func43, Tryz.ntmps43
  go_wp2_with fail
  go_loopw [3, 6] (fun _ iv wr => ∃ k : Nat, k ≤ s.length ∧ iv = .int .i64 (k : Int) ∧ (s.take k).all Ix.nameB = true ∧ wr = w) (fun _ iv _ => s.length - (intOf iv).toNat)
  case atStart => exact ⟨0, Nat.zero_le _, rfl, rfl, rfl⟩
  case round =>
    obtain ⟨k, hk, rfl, ht, hw⟩ := hrel
    subst hw
    have Ht := Lib.hid ht; clear ht
    by_cases hlt : k < s.length
    · obtain ⟨c, hc⟩ : ∃ c, s[k]? = some c := ⟨_, List.getElem?_eq_getElem hlt⟩
      have hlt' : (k : Int) < (s.length : Int) := by omega
      have hby := byte_at s k c hc
      obtain ⟨v, hv⟩ : ∃ v, Lib.indexByte Ix.alph c = v := ⟨_, rfl⟩
      have Hv := Lib.hid hv; have Hc := Lib.hid hc
      clear hv hc
      by_cases hneg : v < 0
      · have hr : Ix.nameOk s = false := by
          have h1 : Ix.nameB c = false := by rw [Ix.nameB_iff, Hv.out]; simp [hneg]
          have h2 : s.all Ix.nameB = false := by
            rw [List.all_eq_false]
            exact ⟨c, List.mem_of_getElem? Hc.out, by rw [h1]; simp⟩
          unfold Ix.nameOk
          rw [h2]; rfl
        have Hr := Lib.hid hr; clear hr
        go_wp2_with (go_at_call 60; refine (std_alph c _).mono ?_; rw [Hv.out]; rintro e w' ⟨rfl, hw'⟩; have hw' := hw'.symm; subst hw')
        go_ret
        exact ⟨ret_bool Hr.out.symm, rfl⟩
      · have ht2 : (s.take (k + 1)).all Ix.nameB = true := by
          rw [List.take_add_one, Hc.out, List.all_append, Ht.out]
          have h1 : Ix.nameB c = true := by rw [Ix.nameB_iff, Hv.out]; simp [hneg]
          simp [h1]
        have hkl : (k : Int) + 1 ≤ 9223372036854775807 := by have := Hs.out; omega
        have Ht2 := Lib.hid ht2; clear ht2
        have hge : decide (v < 0) = false := decide_eq_false hneg
        clear hneg
        go_wp2_with (go_at_call 60; refine (std_alph c _).mono ?_; rw [Hv.out]; rintro e w' ⟨rfl, hw'⟩; have hw' := hw'.symm; subst hw')
        go_roundw
        case rel => exact ⟨k + 1, by omega, by go_num, Ht2.out, trivial⟩
        case measure => simp [intOf]; omega
    · have hlt' : ¬ (k : Int) < (s.length : Int) := by omega
      have ha : s.all Ix.nameB = true := by
        have h := Ht.out
        rwa [List.take_of_length_le (by omega)] at h
      have Ha := Lib.hid ha; clear ha
      by_cases h1 : 1 ≤ s.length
      · by_cases h2 : s.length ≤ 24
        · have g1 : (1 : Int) ≤ (s.length : Int) := by omega
          have g2 : (s.length : Int) ≤ 24 := by omega
          have Hr := Lib.hid (show Ix.nameOk s = true by unfold Ix.nameOk; rw [Ha.out]; simp [h1, h2])
          go_wp2_with fail
          go_ret
          exact ⟨ret_bool Hr.out.symm, rfl⟩
        · have g1 : (1 : Int) ≤ (s.length : Int) := by omega
          have g2 : ¬ (s.length : Int) ≤ 24 := by omega
          have Hr := Lib.hid (show Ix.nameOk s = false by unfold Ix.nameOk; simp [h2])
          go_wp2_with fail
          go_ret
          exact ⟨ret_bool Hr.out.symm, rfl⟩
      · have g1 : ¬ (1 : Int) ≤ (s.length : Int) := by omega
        have Hr := Lib.hid (show Ix.nameOk s = false by unfold Ix.nameOk; simp [h1])
        go_wp2_with fail
        go_ret
        exact ⟨ret_bool Hr.out.symm, rfl⟩
set_option maxRecDepth 100000 in
set_option maxHeartbeats 1600000 in
theorem markup_job (s : List UInt8) (w : World) (hs : s.length ≤ 9223372036854775807) :
    Calls Tryz.prog 44 #[.string ⟨s.toArray⟩] w fun e w' => e = .returned (.bool (Ix.jobOk s)) ∧ w' = w := by
  have Hs := Lib.hid hs; clear hs
  go_enter Tryz.func44, Tryz.ntmps44
  cases hn : Ix.nameOk s with
  | false =>
    have Hn := Lib.hid hn; clear hn
    go_wp2_with (go_at_call 43; refine (files_name s _ Hs.out).mono ?_; rw [Hn.out]; rintro e w' ⟨rfl, hw'⟩; have hw' := hw'.symm; subst hw')
    go_ret
    exact ⟨ret_bool (by unfold Ix.jobOk; rw [Hn.out]; rfl), rfl⟩
  | true =>
    have Hn := Lib.hid hn; clear hn
    by_cases h2 : s.length ≤ 20
    · have g2 : (s.length : Int) ≤ 20 := by omega
      go_wp2_with (go_at_call 43; refine (files_name s _ Hs.out).mono ?_; rw [Hn.out]; rintro e w' ⟨rfl, hw'⟩; have hw' := hw'.symm; subst hw')
      go_ret
      exact ⟨ret_bool (by unfold Ix.jobOk; rw [Hn.out]; simp [h2]), rfl⟩
    · have g2 : ¬ (s.length : Int) ≤ 20 := by omega
      go_wp2_with (go_at_call 43; refine (files_name s _ Hs.out).mono ?_; rw [Hn.out]; rintro e w' ⟨rfl, hw'⟩; have hw' := hw'.symm; subst hw')
      go_ret
      exact ⟨ret_bool (by unfold Ix.jobOk; rw [Hn.out]; simp [h2]; omega), rfl⟩
def flV (x : List UInt8 × List UInt8) : Value := .agg #[.string ⟨x.1.toArray⟩, .string ⟨x.2.toArray⟩]
theorem files_cmp (x : List UInt8 × List UInt8) (t : List UInt8) (w : World) :
    Calls Tryz.prog 134 #[flV x, .string ⟨t.toArray⟩] w fun e w' => e = .returned (.int .i64 (Ix.cmpB x.1 t)) ∧ Below w.heap.size w w' := by
  unfold flV
  go_enter Tryz.func134, Tryz.ntmps134
  go_wp2_with (go_at_call 135; refine (ix_compare x.1 t _).mono ?_; rintro e w' ⟨rfl, hw'⟩; have hw' := hw'.symm; subst hw')
  go_ret
  exact ⟨rfl, below_new _ _⟩
/-- names, each behind the one ahead of it -/
def Ix.Sorted (l : List (List UInt8 × List UInt8)) : Prop := l.Pairwise fun a b => Ix.cmpB a.1 b.1 < 0
/-- so many names are less, and the others are not -/
structure Ix.Low (l : List (List UInt8 × List UInt8)) (t : List UInt8) (i j : Nat) : Prop where
  lo : ∀ k x, k < i → l[k]? = some x → Ix.cmpB x.1 t < 0
  hi : ∀ k x, j ≤ k → l[k]? = some x → ¬ Ix.cmpB x.1 t < 0
def Ix.there (l : List (List UInt8 × List UInt8)) (t : List UInt8) (i : Nat) : Bool := match l[i]? with | some x => Ix.cmpB x.1 t == 0 | none => false
set_option maxRecDepth 100000 in
set_option maxHeartbeats 1600000 in
theorem files_search (l : List (List UInt8 × List UInt8)) (t : List UInt8) (v : Value) (S : Nat → Prop) (w : World) (hS : SliceIn S 2 RFl w v l) (hs : Ix.Sorted l) (hl : l.length ≤ 1000000) :
    Calls Tryz.prog 133 #[v, .string ⟨t.toArray⟩, .func (.func 134) #[] #[]] w fun e w' => ∃ i : Nat, i ≤ l.length ∧ Ix.Low l t i i ∧ e = .returned (.tuple #[.int .i64 (i : Int), .bool (Ix.there l t i)]) ∧ Below w.heap.size w w' := by
  obtain ⟨pa, cap, rfl, hle, hm, hat⟩ := hS
  have Hat := Lib.hid hat; have Hs := Lib.hid hs; have Hl := Lib.hid hl
  clear hat hs hl hle hm
  have at_ : ∀ (k : Nat) x (wr : World), l[k]? = some x → Below w.heap.size w wr → ∃ b off, pa = some ⟨b, off, none⟩ ∧ wr.cell? ⟨b, off + k * 2, none⟩ = some (.string ⟨x.1.toArray⟩) ∧ wr.cell? ⟨b, off + k * 2 + 1, none⟩ = some (.string ⟨x.2.toArray⟩) := by
    intro k x wr hx hb
    obtain ⟨b, off, vs, rfl, _, hbw, hR, hc⟩ := Hat.out k x hx
    have hR : vs = _ := hR
    subst hR
    exact ⟨b, off, rfl, (hb.cell (p := ⟨b, off + k * 2, none⟩) hbw).trans (hc 0 _ rfl), (hb.cell (p := ⟨b, off + k * 2 + 1, none⟩) hbw).trans (hc 1 _ rfl)⟩
  have At := Lib.hid at_
  clear at_
  go_enter Tryz.func133, Tryz.ntmps133
  go_wp2_with fail
  go_loopw [9, 10] (fun iv jv wr => ∃ i j : Nat, i ≤ j ∧ j ≤ l.length ∧ iv = .int .i64 (i : Int) ∧ jv = .int .i64 (j : Int) ∧ Ix.Low l t i j ∧ Below w.heap.size w wr) (fun iv jv _ => (intOf jv).toNat - (intOf iv).toNat)
  case atStart => exact ⟨0, l.length, Nat.zero_le _, Nat.le_refl _, rfl, rfl, ⟨fun k x h => absurd h (Nat.not_lt_zero _), fun k x h hx => by rw [List.getElem?_eq_none h] at hx; cases hx⟩, Below.refl _ _⟩
  case round =>
    obtain ⟨i, j, hij, hj, rfl, rfl, hlo, hb⟩ := hrel
    have Hlo := Lib.hid hlo; have Hb := Lib.hid hb
    clear hlo hb
    by_cases hlt : i < j
    · obtain ⟨h, hh⟩ : ∃ h, h = (i + j) / 2 := ⟨_, rfl⟩
      obtain ⟨x, hx⟩ : ∃ x, l[h]? = some x := ⟨_, List.getElem?_eq_getElem (by omega)⟩
      obtain ⟨b, off, rfl, c0, c1⟩ := At.out h x wr hx Hb.out
      have hlt' : (i : Int) < (j : Int) := by omega
      have Hh := Lib.hid hh; have Hx := Lib.hid hx
      clear hh hx
      have hc := files_cmp x t wr
      unfold flV at hc
      have Hc := Lib.hid hc; clear hc
      obtain ⟨m, hm⟩ : ∃ m, m = i + j := ⟨_, rfl⟩
      have hjl := Hl.out
      have hw1 : wrap64 ((i : Int) + (j : Int)) = (m : Int) := by unfold wrap64; omega
      have hw2 : IntKind.u64.wrap (m : Int) = (m : Int) := IntWalk.u64_in _ (by omega)
      have hw3 : wrap64 ((m : Int) / 2) = (h : Int) := by have := Hh.out; unfold wrap64; omega
      have hhl : (h : Int) < (l.length : Int) := by have := Hh.out; omega
      have hkl : (h : Int) + 1 ≤ 9223372036854775807 := by have := Hh.out; omega
      have Hm := Lib.hid hm
      clear hm hjl
      by_cases hneg : Ix.cmpB x.1 t < 0
      · have hlo2 : ∀ k y, k < h + 1 → l[k]? = some y → Ix.cmpB y.1 t < 0 := by
          intro k y hk hy
          rcases Nat.lt_or_ge k h with h1 | h1
          · have h2 : Ix.cmpB y.1 x.1 < 0 := by
              have hp := Hs.out
              unfold Ix.Sorted at hp
              obtain ⟨hk1, hk2⟩ := List.getElem?_eq_some_iff.1 hy
              obtain ⟨hx1, hx2⟩ := List.getElem?_eq_some_iff.1 Hx.out
              have := List.pairwise_iff_getElem.1 hp k h hk1 hx1 h1
              rwa [hk2, hx2] at this
            exact Ix.cmpB_trans _ _ _ h2 hneg
          · have hkh : k = h := by omega
            subst hkh
            rw [Hx.out] at hy
            cases hy
            exact hneg
        have Hlo2 := Lib.hid hlo2; clear hlo2
        go_wp2_with fail
        refine Hc.out.mono ?_
        rintro e w' ⟨rfl, hb'⟩
        have Hb' := Lib.hid hb'; clear hb'
        go_wp2_with fail
        go_roundw
        case rel => exact ⟨h + 1, j, by have := Hh.out; omega, hj, by go_num, rfl, ⟨Hlo2.out, Hlo.out.hi⟩, Hb.out.trans (Hb'.out.mono Hb.out.size)⟩
        case measure => have := Hh.out; simp [intOf]; omega
      · have hge : decide (Ix.cmpB x.1 t < 0) = false := decide_eq_false hneg
        have Hneg := Lib.hid hneg
        clear hneg
        have hhi2 : ∀ k y, h ≤ k → l[k]? = some y → ¬ Ix.cmpB y.1 t < 0 := by
          intro k y hk hy hlt3
          rcases Nat.lt_or_ge h k with h1 | h1
          · have h2 : Ix.cmpB x.1 y.1 < 0 := by
              have hp := Hs.out
              unfold Ix.Sorted at hp
              obtain ⟨hk1, hk2⟩ := List.getElem?_eq_some_iff.1 hy
              obtain ⟨hx1, hx2⟩ := List.getElem?_eq_some_iff.1 Hx.out
              have := List.pairwise_iff_getElem.1 hp h k hx1 hk1 h1
              rwa [hk2, hx2] at this
            exact Hneg.out (Ix.cmpB_trans _ _ _ h2 hlt3)
          · have hkh : k = h := by omega
            subst hkh
            rw [Hx.out] at hy
            cases hy
            exact Hneg.out hlt3
        have Hhi2 := Lib.hid hhi2; clear hhi2
        go_wp2_with fail
        refine Hc.out.mono ?_
        rintro e w' ⟨rfl, hb'⟩
        have Hb' := Lib.hid hb'; clear hb'
        go_wp2_with fail
        go_roundw
        case rel => exact ⟨i, h, by have := Hh.out; omega, by have := Hh.out; omega, rfl, rfl, ⟨Hlo.out.lo, fun k x h1 h2 => by have := Hhi2.out k x h1 h2; omega⟩, Hb.out.trans (Hb'.out.mono Hb.out.size)⟩
        case measure => have := Hh.out; simp [intOf]; omega
    · have hij' : i = j := by omega
      subst hij'
      have hlt' : ¬ (i : Int) < (i : Int) := by omega
      rcases Nat.lt_or_ge i l.length with hil | hil
      · obtain ⟨x, hx⟩ : ∃ x, l[i]? = some x := ⟨_, List.getElem?_eq_getElem hil⟩
        obtain ⟨b, off, rfl, c0, c1⟩ := At.out i x wr hx Hb.out
        have hil' : (i : Int) < (l.length : Int) := by omega
        have hc := files_cmp x t wr
        unfold flV at hc
        have Hc := Lib.hid hc; clear hc
        have Hx := Lib.hid hx; clear hx
        go_wp2_with fail
        refine Hc.out.mono ?_
        rintro e w' ⟨rfl, hb'⟩
        have Hb' := Lib.hid hb'; clear hb'
        go_wp2_with fail
        go_ret2
        refine ⟨i, by omega, Hlo.out, ?_, Hb.out.trans (Hb'.out.mono Hb.out.size)⟩
        unfold Ix.there
        rw [Hx.out]
        simp
      · have hil' : ¬ (i : Int) < (l.length : Int) := by omega
        go_wp2_with fail
        go_ret2
        refine ⟨i, by omega, Hlo.out, ?_, Hb.out⟩
        unfold Ix.there
        rw [List.getElem?_eq_none hil]
        simp
theorem files_place (l : List (List UInt8 × List UInt8)) (t : List UInt8) (v : Value) (S : Nat → Prop) (w : World) (hS : SliceIn S 2 RFl w v l) (hs : Ix.Sorted l) (hl : l.length ≤ 1000000) :
    Calls Tryz.prog 85 #[v, .string ⟨t.toArray⟩] w fun e w' => ∃ i : Nat, i ≤ l.length ∧ Ix.Low l t i i ∧ e = .returned (.tuple #[.int .i64 (i : Int), .bool (Ix.there l t i)]) ∧ Below w.heap.size w w' := by
  have Hc := Lib.hid (files_search l t v S w hS hs hl)
  clear hS
  go_enter Tryz.func85, Tryz.ntmps85
  go_wp2_with fail
  refine Hc.out.mono ?_
  rintro e w' ⟨i, hi, hlo, rfl, hb⟩
  have Hlo := Lib.hid hlo; have Hb := Lib.hid hb
  clear hlo hb
  go_wp2_with fail
  go_ret2
  exact ⟨i, hi, Hlo.out, by simp, Hb.out⟩
/-- what a file of a map holds -/
def Ix.get (l : List (List UInt8 × List UInt8)) (t : List UInt8) : Option (List UInt8) := (l.find? fun x => x.1 == t).map (·.2)
theorem Ix.get_of {l : List (List UInt8 × List UInt8)} (hs : Ix.Sorted l) {x : List UInt8 × List UInt8} (hx : x ∈ l) : Ix.get l x.1 = some x.2 := by
  unfold Ix.get
  cases hf : l.find? (fun y => y.1 == x.1) with
  | none =>
    have := List.find?_eq_none.1 hf x hx
    simp at this
  | some y =>
    have h1 := List.find?_some hf
    have h2 := List.mem_of_find?_eq_some hf
    have h1 : y.1 = x.1 := by simpa using h1
    obtain ⟨i, hi, hxi⟩ := List.getElem_of_mem hx
    obtain ⟨j, hj, hyj⟩ := List.getElem_of_mem h2
    have hp := List.pairwise_iff_getElem.1 hs
    rcases Nat.lt_trichotomy i j with h | h | h
    · have := hp i j hi hj h
      rw [hxi, hyj, h1, Ix.cmpB_refl] at this
      omega
    · subst h
      rw [hxi] at hyj
      rw [hyj]; rfl
    · have := hp j i hj hi h
      rw [hxi, hyj, h1, Ix.cmpB_refl] at this
      omega
theorem Ix.get_there {l : List (List UInt8 × List UInt8)} {t : List UInt8} {i : Nat} (hs : Ix.Sorted l) (hl : Ix.Low l t i i) : (Ix.there l t i = true → ∃ x, l[i]? = some x ∧ Ix.get l t = some x.2) ∧ (Ix.there l t i = false → Ix.get l t = none) := by
  constructor
  · intro h
    unfold Ix.there at h
    cases hx : l[i]? with
    | none => rw [hx] at h; cases h
    | some x =>
      rw [hx] at h
      have h : Ix.cmpB x.1 t = 0 := by simpa using h
      have h := Ix.cmpB_eq0 _ _ h
      exact ⟨x, rfl, by rw [← h]; exact Ix.get_of hs (List.mem_of_getElem? hx)⟩
  · intro h
    unfold Ix.get
    cases hf : l.find? (fun y => y.1 == t) with
    | none => rfl
    | some y =>
      exfalso
      have h1 := List.find?_some hf
      have h1 : y.1 = t := by simpa using h1
      obtain ⟨j, hj, hyj⟩ := List.getElem_of_mem (List.mem_of_find?_eq_some hf)
      have hyj' : l[j]? = some y := by rw [List.getElem?_eq_getElem hj, hyj]
      rcases Nat.lt_or_ge j i with hji | hji
      · have := hl.lo j y hji hyj'
        rw [h1, Ix.cmpB_refl] at this
        omega
      · rcases Nat.eq_or_lt_of_le hji with he | hlt
        · subst he
          unfold Ix.there at h
          rw [hyj'] at h
          simp only [h1, Ix.cmpB_refl] at h
          simp at h
        · have hx : ∃ x, l[i]? = some x := ⟨_, List.getElem?_eq_getElem (by omega)⟩
          obtain ⟨x, hx⟩ := hx
          have h2 := hl.hi i x (Nat.le_refl _) hx
          obtain ⟨hi1, hi2⟩ := List.getElem?_eq_some_iff.1 hx
          have := List.pairwise_iff_getElem.1 hs i j hi1 hj hlt
          rw [hi2, hyj, h1] at this
          exact h2 this
set_option maxRecDepth 100000 in
set_option maxHeartbeats 1600000 in
theorem files_get (l : List (List UInt8 × List UInt8)) (t : List UInt8) (v : Value) (S : Nat → Prop) (w : World) (hS : SliceIn S 2 RFl w v l) (hs : Ix.Sorted l) (hl : l.length ≤ 1000000) :
    Calls Tryz.prog 55 #[v, .string ⟨t.toArray⟩] w fun e w' => e = .returned (.tuple #[.string ⟨((Ix.get l t).getD []).toArray⟩, .bool (Ix.get l t).isSome]) ∧ Below w.heap.size w w' := by
  have Hc := Lib.hid (files_place l t v S w hS hs hl)
  have Hs := Lib.hid hs
  obtain ⟨pa, cap, rfl, hle, hm, hat⟩ := hS
  have Hat := Lib.hid hat
  clear hat hle hm hs
  go_enter Tryz.func55, Tryz.ntmps55
  go_wp2_with fail
  refine Hc.out.mono ?_
  rintro e w' ⟨i, hi, hlo, rfl, hb⟩
  have hg := Ix.get_there Hs.out hlo
  have Hb := Lib.hid hb
  clear hlo hb
  cases ht : Ix.there l t i with
  | false =>
    have Hg := Lib.hid (hg.2 ht); clear hg ht
    go_wp2_with fail
    go_ret2
    exact ⟨by rw [Hg.out]; simp, Hb.out⟩
  | true =>
    obtain ⟨x, hx, hg⟩ := hg.1 ht
    have Hg := Lib.hid hg; clear hg ht
    obtain ⟨b, off, vs, rfl, _, hbw, hR, hc⟩ := Hat.out i x hx
    have hR : vs = _ := hR
    subst hR
    have c1 : w'.cell? ⟨b, off + i * 2 + 1, none⟩ = some (.string ⟨x.2.toArray⟩) := (Hb.out.cell (p := ⟨b, off + i * 2 + 1, none⟩) hbw).trans (hc 1 _ rfl)
    have hil : (i : Int) < (l.length : Int) := by
      obtain ⟨h1, _⟩ := List.getElem?_eq_some_iff.1 hx
      omega
    clear hc hx
    go_wp2_with fail
    go_ret2
    exact ⟨by rw [Hg.out]; simp, Hb.out⟩
end Go.Proofs.YtibinlpbcoihoaaGreatDoor
