/- The walks of package side (layer 10), third part: keys. -/
import Derived.Test.YtimmmjmmjokdbaaGreatDoorSidW2
set_option linter.unusedSimpArgs false
set_option linter.unusedVariables false
namespace Go.Proofs.YtimmmjmmjokdbaaGreatDoor
open Go.RowKit
theorem ints1 (w : World) (a : Int) : SliceIn (fun _ => True) 1 RInt (w.alloc (.cells #[.int .i64 a] 3)) (.slice (some ⟨w.heap.size, 0, none⟩) 1 1) [a] :=
  built1 w 3 RInt 1 [a] [.int .i64 a] ⟨[.int .i64 a], [], rfl, rfl, rfl⟩ RInt.size (by unfold maxLen; simp)
theorem ints2 (w : World) (a b : Int) : SliceIn (fun _ => True) 1 RInt (w.alloc (.cells #[.int .i64 a, .int .i64 b] 3)) (.slice (some ⟨w.heap.size, 0, none⟩) 2 2) [a, b] :=
  built1 w 3 RInt 1 [a, b] [.int .i64 a, .int .i64 b] ⟨[.int .i64 a], [.int .i64 b], rfl, rfl, [.int .i64 b], [], rfl, rfl, rfl⟩ RInt.size (by unfold maxLen; simp)
theorem std_join1 (s : List UInt8) (b o c : Nat) (w : World) (h : w.cell? ⟨b, o, none⟩ = some (.string ⟨s.toArray⟩)) (hb : b < w.heap.size) (hc : 1 ≤ c) (hs : s.length ≤ 1000000) :
    Calls Tryz.prog 63 #[.slice (some ⟨b, o, none⟩) 1 c, .string ⟨#[32]⟩] w fun e w' => e = .returned (.string ⟨s.toArray⟩) ∧ Below w.heap.size w w' := by
  have hj : Lib.join ([(⟨s.toArray⟩ : ByteArray)].map (·.data.toList)) (⟨#[32]⟩ : ByteArray).data.toList = s := Lib.join_one s _
  have h1 := Tryz.strings_Join b o c [(⟨s.toArray⟩ : ByteArray)] ⟨#[32]⟩ w (fun j x hx => by
    cases j with
    | zero => simp at hx; subst hx; exact h
    | succ j => simp at hx) hb (by simp) (by simpa using hc) (by rw [hj]; omega)
  rw [hj] at h1
  exact h1
set_option maxRecDepth 100000 in
set_option maxHeartbeats 3200000 in
/-- a text of one word -/
theorem macro_flat1 (s : List UInt8) (w : World) (b : Nat) (c0 : w.cell? ⟨b, 0, none⟩ = some (.int .i64 1)) (c1 : w.cell? ⟨b, 1, none⟩ = some (.string ⟨s.toArray⟩)) (hs : s.length ≤ 1000000) :
    Calls Tryz.prog 49 #[.slice (some ⟨b, 0, none⟩) 1 1] w fun e w' => e = .returned (.string ⟨(Sd.sq s).toArray⟩) ∧ Below w.heap.size w w' := by
  obtain ⟨i0, hi, hz0, hz1, hz2⟩ := info_parts str_info
  have Hi := Lib.hid hi; have Hz0 := Lib.hid hz0; have Hz1 := Lib.hid hz1; have Hz2 := Lib.hid hz2; clear hi hz0 hz1 hz2
  go_enter Tryz.func49, Tryz.ntmps49
  go_upto_region 4 with fail
  refine wp_loop_rounds 2 ?_
  rw [rounds_succ]
  go_upto_region 6 with fail
  have he6 : ∀ (i : Nat) (u : Value), #[Value.int .i64 1, .string ⟨s.toArray⟩][i]? = some u → (w.alloc (.cells #[.int .i64 1, .string ⟨s.toArray⟩] 92)).cell? ⟨w.heap.size, i, none⟩ = some u := by
    intro i u hu
    rw [cell_of_row _ _ _ _ _ _ (heap_alloc_new w _)]
    exact hu
  have hb4 := below_new w (.cells #[.int .i64 1, .string ⟨s.toArray⟩] 92)
  have hz4 := lt_alloc w (.cells #[.int .i64 1, .string ⟨s.toArray⟩] 92)
  generalize w.alloc (.cells #[.int .i64 1, .string ⟨s.toArray⟩] 92) = w4 at he6 hb4 hz4 ⊢
  have e60 := he6 0 _ rfl; have e61 := he6 1 _ rfl
  have Hb4 := Lib.hid hb4
  clear he6 hb4 c0 c1
  go_upto_region 8 with (go_at_call 61; refine (macro_of [2, 3] _ 1 s false (fun _ => True) _ (ints2 w4 2 3) (by decide)).mono ?_; rintro e w5 ⟨rfl, hb5⟩)
  have hb45 : Below w4.heap.size w4 w5 := (below_new w4 _).trans (hb5.mono (Nat.le_of_lt (lt_alloc w4 _)))
  have e60 := (hb45.cell (p := ⟨w.heap.size, 0, none⟩) hz4).trans e60
  have e61 := (hb45.cell (p := ⟨w.heap.size, 1, none⟩) hz4).trans e61
  have hz5 : w.heap.size < w5.heap.size := Nat.lt_of_lt_of_le hz4 hb45.size
  have Hb5 := Lib.hid (Hb4.out.trans (hb45.mono Hb4.out.size))
  clear hb45 hb5 hz4 Hb4
  go_upto_region 10 with (go_at_call 61; refine (macro_of [1] _ 1 s true (fun _ => True) _ (ints1 w5 1) (by decide)).mono ?_; rintro e w6 ⟨rfl, hb6⟩)
  have hb56 : Below w5.heap.size w5 w6 := (below_new w5 _).trans (hb6.mono (Nat.le_of_lt (lt_alloc w5 _)))
  have e60 := (hb56.cell (p := ⟨w.heap.size, 0, none⟩) hz5).trans e60
  have e61 := (hb56.cell (p := ⟨w.heap.size, 1, none⟩) hz5).trans e61
  have hz6 : w.heap.size < w6.heap.size := Nat.lt_of_lt_of_le hz5 hb56.size
  have Hb6 := Lib.hid (Hb5.out.trans (hb56.mono Hb5.out.size))
  clear hb56 hb6 hz5 Hb5
  go_upto_region 11 with (go_at_call 61; refine (macro_of [1] _ 1 s true (fun _ => True) _ (ints1 w6 1) (by decide)).mono ?_; rintro e w7 ⟨rfl, hb7⟩)
  have hb67 : Below w6.heap.size w6 w7 := (below_new w6 _).trans (hb7.mono (Nat.le_of_lt (lt_alloc w6 _)))
  have e60 := (hb67.cell (p := ⟨w.heap.size, 0, none⟩) hz6).trans e60
  have e61 := (hb67.cell (p := ⟨w.heap.size, 1, none⟩) hz6).trans e61
  have hz7 : w.heap.size < w7.heap.size := Nat.lt_of_lt_of_le hz6 hb67.size
  have Hb7 := Lib.hid (Hb6.out.trans (hb67.mono Hb6.out.size))
  clear hb67 hb7 hz6 Hb6
  have hown : w7.ownsRow w.heap.size 9 1 (.slice none 0 0) 0 [] := ⟨by simp, .inl ⟨rfl, rfl⟩⟩
  have Hown := Lib.hid hown
  clear hown
  go_upto_region 12 with (at_builtin; go_loud (refine wpList_append1 rfl (.tmp 38) (.tmp 41) 24 rfl w.heap.size 9 i0 (.string ⟨#[]⟩) 1 16 Tryz.underlying24 Hi.out Hz0.out Hz1.out Hz2.out rfl (by decide) _ _ _ Hown.out rfl [.string ⟨s.toArray⟩] rfl (by simp) rfl (by simp [Value.oneCell']) (by unfold maxLen; omega) (by omega) Hb7.out.size ?_); intro v2 w2 own2 g2 at2)
  have hb2 := Lib.hid (Hb7.out.grown g2 Hb7.out.size (fun q e => (Hown.out.lt q e).1))
  have hO : OwnL w.heap.size 9 1 RStr w2 v2 [s] := ⟨_, own2, [.string ⟨s.toArray⟩], [], rfl, rfl, rfl⟩
  obtain ⟨p, cap, hv, hle, hm, hat⟩ := hO.slice RStr.size (fun _ => True) (fun _ _ => trivial)
  obtain ⟨b3, off3, vs, rfl, _, hbw, hR, hcc⟩ := hat 0 s rfl
  have hR : vs = _ := hR
  subst hR
  subst hv
  have e3 : w2.cell? ⟨b3, off3, none⟩ = some (.string ⟨s.toArray⟩) := by have := hcc 0 _ rfl; simpa using this
  have E3 := Lib.hid e3; have Hle := Lib.hid hle; have Hbw := Lib.hid hbw
  clear e60 e61 hz7 Hown hO own2 g2 at2 hat hcc e3 hle hm hbw
  go_upto_region 4 with fail
  rw [rounds_succ]
  go_wp2_with (first
    | (go_at_call 63; refine (std_join1 s b3 off3 cap _ E3.out Hbw.out Hle.out hs).mono ?_; rintro e w8 ⟨rfl, hb8⟩; have Hb8 := Lib.hid (hb2.out.trans (hb8.mono hb2.out.size)); clear hb8)
    | (go_at_call 62; refine (macro_squeezed s _ hs).mono ?_; rintro e w9 ⟨rfl, hb9⟩; have Hb9 := Lib.hid (Hb8.out.trans (hb9.mono Hb8.out.size)); clear hb9))
  go_ret
  exact ⟨rfl, Hb9.out⟩

set_option maxRecDepth 100000 in
set_option maxHeartbeats 1600000 in
theorem side_key (s : List UInt8) (w : World) (hs : s.length ≤ 1000000) :
    Calls Tryz.prog 34 #[.string ⟨s.toArray⟩] w fun e w' => e = .returned (.bool (Sd.key s)) ∧ Below w.heap.size w w' := by
  have hk : Sd.key s = (s != [] && decide (s.length ≤ 60) && Sd.sq s == s) := rfl
  by_cases h0 : s = []
  · subst h0
    go_enter Tryz.func34, Tryz.ntmps34
    go_wp2_with fail
    go_ret
    exact ⟨rfl, Below.refl _ _⟩
  · have hne : (s != []) = true := by simpa using h0
    rw [hne] at hk
    by_cases h60 : s.length ≤ 60
    · rw [decide_eq_true h60] at hk
      have h60' : (s.length : Int) ≤ 60 := by omega
      have Hk := Lib.hid hk
      clear hk
      have hb4 := below_new w (.cells #[.int .i64 1, .string ⟨s.toArray⟩] 92)
      have c0 : (w.alloc (.cells #[.int .i64 1, .string ⟨s.toArray⟩] 92)).cell? ⟨w.heap.size, 0, none⟩ = some (.int .i64 1) := by rw [cell_of_row _ _ _ _ _ _ (heap_alloc_new w _)]; rfl
      have c1 : (w.alloc (.cells #[.int .i64 1, .string ⟨s.toArray⟩] 92)).cell? ⟨w.heap.size, 1, none⟩ = some (.string ⟨s.toArray⟩) := by rw [cell_of_row _ _ _ _ _ _ (heap_alloc_new w _)]; rfl
      have Hb4 := Lib.hid hb4; have C0 := Lib.hid c0; have C1 := Lib.hid c1
      obtain ⟨u, hu⟩ : ∃ u, Sd.sq s = u := ⟨_, rfl⟩
      rw [hu] at Hk
      have Hu := Lib.hid hu
      clear hb4 c0 c1 hu
      cases hq : (u == s)
      · rw [hq] at Hk
        have hqn : u ≠ s := fun h => by rw [h] at hq; simp at hq
        go_enter Tryz.func34, Tryz.ntmps34
        go_wp2_with (go_at_call 49; refine (macro_flat1 s _ w.heap.size C0.out C1.out hs).mono ?_; rw [Hu.out]; rintro e w1 ⟨rfl, hb⟩; have Hb1 := Lib.hid (Hb4.out.trans (hb.mono Hb4.out.size)); clear hb)
        go_ret
        exact ⟨ret_bool (by rw [Hk.out]; rfl), Hb1.out⟩
      · rw [hq] at Hk
        obtain rfl := (eq_of_beq hq)
        clear hq
        go_enter Tryz.func34, Tryz.ntmps34
        go_wp2_with (go_at_call 49; refine (macro_flat1 u _ w.heap.size C0.out C1.out hs).mono ?_; rw [Hu.out]; rintro e w1 ⟨rfl, hb⟩; have Hb1 := Lib.hid (Hb4.out.trans (hb.mono Hb4.out.size)); clear hb)
        go_ret
        refine ⟨ret_bool ?_, Hb1.out⟩
        rw [Hk.out]
        cases u with
        | nil => exact absurd rfl h0
        | cons c r => rfl
    · rw [decide_eq_false h60] at hk
      have h60' : ¬ (s.length : Int) ≤ 60 := by omega
      have Hk := Lib.hid hk
      clear hk
      go_enter Tryz.func34, Tryz.ntmps34
      go_wp2_with fail
      go_ret
      exact ⟨ret_bool (by rw [Hk.out]; rfl), Below.refl _ _⟩
end Go.Proofs.YtimmmjmmjokdbaaGreatDoor
