/- The walks of stetref19's small functions: has, parts. What stetref19.rising does, one number at a time: plain. The walk of stetref19.rising. stetref15.Small, and stetref19.ahead: their walks. What stetref19.once does: plain. The walk of stetref19.once. -/
import Derived.Test.YthoblbdkmlggbaaGreatDoorIxK
import Derived.WalkMore
set_option linter.unusedSimpArgs false
set_option linter.unusedVariables false
namespace Go.Proofs.YthoblbdkmlggbaaGreatDoor
section
open Go.RowKit
set_option maxRecDepth 100000 in
set_option maxHeartbeats 1600000 in
theorem ref19_has (l : List Int) (n : Int) (v : Value) (S : Nat → Prop) (w : World) (hS : SliceIn S 1 RInt w v l) (hl : l.length ≤ 1000000) :
    Calls Tryz.prog 66 #[v, .int .i64 n] w fun e w' => e = .returned (.bool (decide (n ∈ l))) ∧ w' = w := by
  obtain ⟨pa, cap, rfl, hle, hm, hat⟩ := hS
  have Hat := Lib.hid hat; have Hl := Lib.hid hl
  clear hat hl hle hm
  go_enter Tryz.func66, Tryz.ntmps66
  go_wp2_with fail
  go_loopw [5] (fun iv wr => ∃ k : Nat, k ≤ l.length ∧ iv = .int .i64 (k : Int) ∧ n ∉ l.take k ∧ wr = w) (fun iv _ => l.length - (intOf iv).toNat)
  case atStart => exact ⟨0, Nat.zero_le _, rfl, by simp, rfl⟩
  case round =>
    obtain ⟨k, hk, rfl, hn, hw⟩ := hrel
    subst hw
    have Hn := Lib.hid hn; clear hn
    by_cases hlt : k < l.length
    · obtain ⟨x, hx⟩ : ∃ x, l[k]? = some x := ⟨_, List.getElem?_eq_getElem hlt⟩
      obtain ⟨b, off, vs, rfl, _, hbw, hR, hc⟩ := Hat.out k x hx
      have hR : vs = _ := hR
      subst hR
      have e0 : wr.cell? ⟨b, off + k, none⟩ = some (.int .i64 x) := by
        have := hc 0 _ rfl
        rwa [Nat.mul_one, Nat.add_zero] at this
      have hlt' : (k : Int) < (l.length : Int) := by omega
      have hkl : (k : Int) + 1 ≤ 9223372036854775807 := by have := Hl.out; omega
      have Hx := Lib.hid hx; have Hlt := Lib.hid hlt
      clear hc hx hlt
      cases hs : (x == n)
      · have hn2 : n ∉ l.take (k + 1) := by
          rw [List.take_add_one, Hx.out]
          intro h
          rcases List.mem_append.1 h with h | h
          · exact Hn.out h
          · simp at h
            rw [h] at hs
            simp at hs
        have Hn2 := Lib.hid hn2; clear hn2
        go_wp2_with fail
        go_roundw
        case rel => exact ⟨k + 1, by have := Hlt.out; omega, by go_num, Hn2.out, trivial⟩
        case measure => have := Hlt.out; simp [intOf]; omega
      · obtain rfl := eq_of_beq hs
        clear hs
        have Hm := Lib.hid (show decide (x ∈ l) = true from decide_eq_true (List.mem_of_getElem? Hx.out))
        go_wp2_with fail
        go_ret
        exact ⟨ret_bool Hm.out.symm, rfl⟩
    · have he : k = l.length := by omega
      subst he
      have hn := Hn.out
      rw [List.take_length] at hn
      have Hm := Lib.hid (show decide (n ∈ l) = false from decide_eq_false hn)
      clear hn hlt hk
      go_wp2_with fail
      go_ret
      exact ⟨ret_bool Hm.out.symm, rfl⟩
set_option maxRecDepth 100000 in
set_option maxHeartbeats 1600000 in
theorem ref19_parts (s : List UInt8) (w : World) (hs : s.length ≤ 1000000) :
    Calls Tryz.prog 29 #[.string ⟨s.toArray⟩] w fun e w' => e = .returned (.tuple #[.string ⟨(Ix.cut s).1.toArray⟩, .string ⟨(Ix.cut s).2.1.toArray⟩, .bool (Ix.cut s).2.2]) ∧ Below w.heap.size w w' := by
  have Hs := Lib.hid hs; clear hs
  go_enter Tryz.func29, Tryz.ntmps29
  go_wp2_with fail
  go_loopw [5] (fun iv wr => ∃ k : Nat, k ≤ s.length ∧ iv = .int .i64 (k : Int) ∧ (∀ c ∈ s.take k, c ≠ 33) ∧ wr = w) (fun iv _ => s.length - (intOf iv).toNat)
  case atStart => exact ⟨0, Nat.zero_le _, rfl, by simp, rfl⟩
  case round =>
    obtain ⟨k, hk, rfl, hn, hw⟩ := hrel
    subst hw
    have Hn := Lib.hid hn; clear hn
    by_cases hlt : k < s.length
    · obtain ⟨c, hc⟩ : ∃ c, s[k]? = some c := ⟨_, List.getElem?_eq_getElem hlt⟩
      have hby := byte_at s k c hc
      have hlt' : (k : Int) < (s.length : Int) := by omega
      have hkl : (k : Int) + 1 ≤ 9223372036854775807 := by have := Hs.out; omega
      have Hc := Lib.hid hc; have Hlt := Lib.hid hlt
      clear hc hlt
      by_cases h33 : c = 33
      · subst h33
        have hcut : Ix.cut s = (s.take k, s.drop (k + 1), true) := by
          have h1 : s = s.take k ++ 33 :: s.drop (k + 1) := by
            obtain ⟨h1, h2⟩ := List.getElem?_eq_some_iff.1 Hc.out
            have h3 := List.drop_eq_getElem_cons h1
            rw [h2] at h3
            rw [← h3, List.take_append_drop]
          conv => lhs; rw [h1]
          exact Ix.cut_of _ _ Hn.out
        have Hcut := Lib.hid hcut; clear hcut
        obtain ⟨k1, hk1⟩ : ∃ k1, k1 = k + 1 := ⟨_, rfl⟩
        have hwk : IntKind.i64.wrap ((k : Int) + 1) = (k1 : Int) := by rw [IntWalk.i64_in _ (by have := Hs.out; have := Hlt.out; omega)]; omega
        have hx1 : (⟨s.toArray⟩ : ByteArray).extract 0 k = ⟨(s.take k).toArray⟩ := by rw [extract_any]; simp
        have hx2 : (⟨s.toArray⟩ : ByteArray).extract k1 s.length = ⟨(s.drop k1).toArray⟩ := extract_end s k1
        have hk0 : (k : Int) ≤ (s.length : Int) := by omega
        have hk10 : (k1 : Int) ≤ (s.length : Int) := by have := Hlt.out; omega
        rw [← hk1] at Hcut
        clear hk1 hkl
        go_upto_region 5 with fail
        go_quiet (fail)
        go_wp2_with fail
        go_ret3
        exact ⟨by rw [Hcut.out]; simp, below_drewN (Below.refl _ _) _⟩
      · have hne : ((c.toNat : Int) == 33) = false := by
          simp
          intro h
          exact h33 (UInt8.toNat_inj.1 (by have : c.toNat = 33 := by omega
                                           rw [this]; rfl))
        have hn2 : ∀ d ∈ s.take (k + 1), d ≠ 33 := by
          rw [List.take_add_one, Hc.out]
          intro d hd
          rcases List.mem_append.1 hd with hd | hd
          · exact Hn.out d hd
          · simp at hd; rw [hd]; exact h33
        have Hn2 := Lib.hid hn2; clear hn2 h33
        go_wp2_with fail
        go_roundw
        case rel => exact ⟨k + 1, by have := Hlt.out; omega, by go_num, Hn2.out, trivial⟩
        case measure => have := Hlt.out; simp [intOf]; omega
    · have he : k = s.length := by omega
      subst he
      have hn := Hn.out
      rw [List.take_length] at hn
      have Hcut := Lib.hid (Ix.cut_plain s hn)
      clear hn hlt hk
      go_wp2_with fail
      go_ret3
      exact ⟨by rw [Hcut.out]; simp, Below.refl _ _⟩
end
section
open Go.RowKit
namespace Ix
/-- so many are less -/
def lessN (n : Int) (l : List Int) : Nat := (l.takeWhile fun x => decide (x < n)).length
theorem ins_mem (n : Int) : ∀ l : List Int, l.Pairwise (· < ·) → n ∈ l → ins n l = l
  | [], _, h => by simp at h
  | m :: r, hs, h => by
    rw [List.pairwise_cons] at hs
    unfold ins
    rcases List.mem_cons.1 h with rfl | h
    · rw [if_neg (by omega), if_pos rfl]
    · rw [if_pos (hs.1 n h), ins_mem n r hs.2 h]
theorem ins_split (n : Int) : ∀ l : List Int, l.Pairwise (· < ·) → n ∉ l → ins n l = l.take (lessN n l) ++ [n] ++ l.drop (lessN n l)
  | [], _, _ => rfl
  | m :: r, hs, h => by
    rw [List.pairwise_cons] at hs
    have hm : n ≠ m := fun e => h (by rw [e]; exact List.mem_cons_self ..)
    have hr : n ∉ r := fun e => h (List.mem_cons_of_mem _ e)
    unfold ins lessN
    rw [List.takeWhile_cons]
    by_cases hlt : m < n
    · rw [if_pos hlt, if_pos (by simpa using hlt), ins_split n r hs.2 hr]
      rfl
    · rw [if_neg hlt, if_neg hm, if_neg (by simpa using hlt)]
      rfl
theorem lessN_le (n : Int) (l : List Int) : lessN n l ≤ l.length := (List.takeWhile_prefix _).length_le
theorem lessN_lt (n : Int) (l : List Int) (k : Nat) (x : Int) (h : l[k]? = some x) (hk : k < lessN n l) : x < n := by
  have h1 : (l.takeWhile fun x => decide (x < n))[k]? = some x := by
    obtain ⟨t, ht⟩ := List.takeWhile_prefix (p := fun x => decide (x < n)) (l := l)
    rw [← ht] at h
    rwa [List.getElem?_append_left hk] at h
  have h2 := tw_mem2 (List.mem_of_getElem? h1)
  simpa using h2
where
  tw_mem2 {p : Int → Bool} {c : Int} : ∀ {l : List Int}, c ∈ l.takeWhile p → p c = true
  | [], h => by simp at h
  | x :: r, h => by
    rw [List.takeWhile_cons] at h
    split at h
    · next hx =>
      rcases List.mem_cons.1 h with rfl | h
      · exact hx
      · exact tw_mem2 h
    · simp at h
theorem lessN_ge (n : Int) : ∀ (l : List Int) (x : Int), l[lessN n l]? = some x → ¬ x < n
  | [], x, h => by simp at h
  | m :: r, x, h => by
    unfold lessN at h
    rw [List.takeWhile_cons] at h
    by_cases hlt : m < n
    · rw [if_pos (by simpa using hlt)] at h
      exact lessN_ge n r x (by simpa [lessN] using h)
    · rw [if_neg (by simpa using hlt)] at h
      simp at h
      rw [← h]; exact hlt
theorem rising_take (l : List Int) (k : Nat) (n : Int) (h : l[k]? = some n) : rising [] (l.take (k + 1)) = (if page n then ins n (rising [] (l.take k)) else rising [] (l.take k)) := by
  rw [List.take_add_one, h]
  have : ∀ (a b : List Int), rising a (b ++ [n]) = (if page n then ins n (rising a b) else rising a b) := by
    intro a b
    induction b generalizing a with
    | nil => rfl
    | cons x r ih => rw [List.cons_append, rising, rising, ih]
  exact this [] (l.take k)
end Ix
end
section
open Go.RowKit
theorem rep_ints : ∀ (l : List Int) (fl : List Value), RepRow RInt l fl → fl = l.map (Value.int .i64)
  | [], fl, h => h
  | x :: r, fl, h => by
    obtain ⟨vs, rest, rfl, hx, hr⟩ := h
    have hx : vs = _ := hx
    rw [rep_ints r rest hr, hx]
    rfl
set_option maxRecDepth 100000 in
set_option maxHeartbeats 3200000 in
theorem ref19_rising (l : List Int) (v : Value) (S : Nat → Prop) (w : World) (hS : SliceIn S 1 RInt w v l) (hl : l.length ≤ 100000) :
    Calls Tryz.prog 38 #[v] w fun e w' => ∃ va, e = .returned va ∧ OwnL w.heap.size 3 1 RInt w' va (Ix.rising [] l) ∧ Below w.heap.size w w' := by
  obtain ⟨i0, hi, hz0, hz1, hz2⟩ := info_parts int_info
  have Hi := Lib.hid hi; have Hz0 := Lib.hid hz0; have Hz1 := Lib.hid hz1; have Hz2 := Lib.hid hz2; clear hi hz0 hz1 hz2
  obtain ⟨pa, cap, rfl, hle, hm, hat⟩ := hS
  have Hat := Lib.hid hat; have Hl := Lib.hid hl
  clear hat hl hle hm
  have hO := Lib.hid (OwnL.made w.heap.size 3 1 RInt w (Nat.le_refl _))
  have hB := Lib.hid (below_new w (.cells #[] 3))
  go_enter Tryz.func38, Tryz.ntmps38
  go_wp2_with fail
  go_loopw [3, 4] (fun ov iv wr => ∃ (k g c : Nat), k ≤ l.length ∧ iv = .int .i64 (k : Int) ∧ ov = .slice (some ⟨g, 0, none⟩) (Ix.rising [] (l.take k)).length c ∧ OwnL w.heap.size 3 1 RInt wr ov (Ix.rising [] (l.take k)) ∧ Below w.heap.size w wr) (fun _ iv _ => l.length - (intOf iv).toNat)
  case atStart => exact ⟨0, _, _, Nat.zero_le _, rfl, rfl, hO.out, hB.out⟩
  case round =>
    clear hO hB
    obtain ⟨k, g, c, hk, rfl, rfl, hO, hb⟩ := hrel
    have HO := Lib.hid hO; have Hb := Lib.hid hb
    clear hO hb
    by_cases hlt : k < l.length
    · obtain ⟨n, hx⟩ : ∃ x, l[k]? = some x := ⟨_, List.getElem?_eq_getElem hlt⟩
      have hstep := Ix.rising_take l k n hx
      have hRs : (Ix.rising [] (l.take k)).Pairwise (· < ·) := Ix.rising_sorted _ _ List.Pairwise.nil
      have hRl : (Ix.rising [] (l.take k)).length ≤ 100000 := by have h1 := Ix.rising_length (l.take k) []; rw [List.length_take] at h1; simp at h1; have := Hl.out; omega
      obtain ⟨R, hR⟩ : ∃ R, R = Ix.rising [] (l.take k) := ⟨_, rfl⟩
      rw [← hR] at hstep hRs hRl HO ⊢
      obtain ⟨b, off, vs, rfl, _, hbw, hRv, hc⟩ := Hat.out k n hx
      have hRv : vs = _ := hRv
      subst hRv
      have e0 : wr.cell? ⟨b, off + k, none⟩ = some (.int .i64 n) := by
        have := (Hb.out.cell (p := ⟨b, off + (k * 1 + 0), none⟩) hbw).trans (hc 0 _ rfl)
        rwa [Nat.mul_one, Nat.add_zero] at this
      have hlt' : (k : Int) < (l.length : Int) := by omega
      have hkl : (k : Int) + 1 ≤ 9223372036854775807 := by have := Hl.out; omega
      have Hstep := Lib.hid hstep; have HRs := Lib.hid hRs; have HRl := Lib.hid hRl; have Hlt := Lib.hid hlt; have HSL := Lib.hid (HO.out.slice RInt.size (fun _ => True) (fun _ _ => trivial))
      clear hstep hRs hRl hR hc hx hlt hbw
      by_cases h1 : n < 1
      · have Hst := Lib.hid (show Ix.rising [] (l.take (k + 1)) = R by rw [Hstep.out, if_neg (by simp [Ix.page]; omega)])
        go_wp2_with fail
        go_roundw
        case rel => exact ⟨k + 1, g, c, by have := Hlt.out; omega, by go_num, by rw [Hst.out], by rw [Hst.out]; exact HO.out, Hb.out⟩
        case measure => have := Hlt.out; simp [intOf]; omega
      · have d1 : decide (n < 1) = false := decide_eq_false h1
        by_cases h2 : 999999 < n
        · have Hst := Lib.hid (show Ix.rising [] (l.take (k + 1)) = R by rw [Hstep.out, if_neg (by simp [Ix.page]; omega)])
          clear h1
          go_wp2_with fail
          go_roundw
          case rel => exact ⟨k + 1, g, c, by have := Hlt.out; omega, by go_num, by rw [Hst.out], by rw [Hst.out]; exact HO.out, Hb.out⟩
          case measure => have := Hlt.out; simp [intOf]; omega
        · have d2 : decide (999999 < n) = false := decide_eq_false h2
          have hpg := Lib.hid (show Ix.page n = true by simp [Ix.page]; omega)
          clear h1 h2
          cases hm : decide (n ∈ R) with
          | true =>
            have Hm := Lib.hid hm; clear hm
            have Hst := Lib.hid (show Ix.rising [] (l.take (k + 1)) = R by rw [Hstep.out, if_pos hpg.out, Ix.ins_mem n R HRs.out (of_decide_eq_true Hm.out)])
            go_wp2_with (go_at_call 66; refine (ref19_has R n _ _ _ HSL.out (by have := HRl.out; omega)).mono ?_; rw [Hm.out]; rintro e w' ⟨rfl, hw'⟩; have hw' := hw'.symm; subst hw')
            go_roundw
            case rel => exact ⟨k + 1, g, c, by have := Hlt.out; omega, by go_num, by rw [Hst.out], by rw [Hst.out]; exact HO.out, Hb.out⟩
            case measure => have := Hlt.out; simp [intOf]; omega
          | false =>
            have Hm := Lib.hid hm; clear hm
            have Hst := Lib.hid (show Ix.rising [] (l.take (k + 1)) = R.take (Ix.lessN n R) ++ [n] ++ R.drop (Ix.lessN n R) by rw [Hstep.out, if_pos hpg.out, Ix.ins_split n R HRs.out (of_decide_eq_false Hm.out)])
            go_wp2_with (go_at_call 66; refine (ref19_has R n _ _ _ HSL.out (by have := HRl.out; omega)).mono ?_; rw [Hm.out]; rintro e w' ⟨rfl, hw'⟩; have hw' := hw'.symm; subst hw')
            obtain ⟨u, rfl⟩ : ∃ u, u = wr := ⟨_, rfl⟩
            have hO2 := Lib.hid (OwnL.made u.heap.size 3 1 RInt u (Nat.le_refl _))
            have hB2 := Lib.hid (below_new u (.cells #[] 3))
            have hmle := Ix.lessN_le n R
            have hmlt := Lib.hid (Ix.lessN_lt n R)
            have hmge := Lib.hid (Ix.lessN_ge n R)
            obtain ⟨m, hm⟩ : ∃ m, m = Ix.lessN n R := ⟨_, rfl⟩
            rw [← hm] at hmle hmlt hmge Hst
            have Hmle := Lib.hid hmle
            clear hm hmle d1 d2
            go_loopw [6, 7] (fun nv jv wq => ∃ (j g2 c2 : Nat), j ≤ m ∧ jv = .int .i64 (j : Int) ∧ nv = .slice (some ⟨g2, 0, none⟩) j c2 ∧ OwnL u.heap.size 3 1 RInt wq nv (R.take j) ∧ Below u.heap.size u wq) (fun _ jv _ => R.length - (intOf jv).toNat)
            case atStart => exact ⟨0, _, _, Nat.zero_le _, rfl, rfl, hO2.out, hB2.out⟩
            case round =>
              clear hO2 hB2
              obtain ⟨j, g2, c2, hj, rfl, rfl, hO2, hb2⟩ := hrel
              have HO2 := Lib.hid hO2; have Hb2 := Lib.hid hb2
              clear hO2 hb2
              have cell_ : ∀ (q : Nat) (x : Int), R[q]? = some x → wr.cell? ⟨g, q, none⟩ = some (.int .i64 x) := by
                intro q x hq
                obtain ⟨p', c', hp', _, _, hat⟩ := HSL.out
                simp only [Value.slice.injEq] at hp'
                obtain ⟨rfl, -, rfl⟩ := hp'
                obtain ⟨b', off', vs', hbo, _, hbw', hR', hc'⟩ := hat q x hq
                simp only [Option.some.injEq, Addr.mk.injEq, and_true] at hbo
                obtain ⟨rfl, rfl⟩ := hbo
                have hR' : vs' = _ := hR'
                subst hR'
                have := (Hb2.out.cell (p := ⟨g, 0 + (q * 1 + 0), none⟩) hbw').trans (hc' 0 _ rfl)
                simpa using this
              have Cell := Lib.hid cell_; clear cell_
              have cell2_ : ∀ (q : Nat) (x : Int), R[q]? = some x → u.cell? ⟨g, q, none⟩ = some (.int .i64 x) ∧ g < u.heap.size := by
                intro q x hq
                obtain ⟨p', c', hp', _, _, hat⟩ := HSL.out
                simp only [Value.slice.injEq] at hp'
                obtain ⟨rfl, -, rfl⟩ := hp'
                obtain ⟨b', off', vs', hbo, _, hbw', hR', hc'⟩ := hat q x hq
                simp only [Option.some.injEq, Addr.mk.injEq, and_true] at hbo
                obtain ⟨rfl, rfl⟩ := hbo
                have hR' : vs' = _ := hR'
                subst hR'
                have := hc' 0 _ rfl
                exact ⟨by simpa using this, hbw'⟩
              have Cell2 := Lib.hid cell2_; clear cell2_
              by_cases hjm : j < m
              · obtain ⟨x, hx⟩ : ∃ x, R[j]? = some x := ⟨_, List.getElem?_eq_getElem (by have := Hmle.out; omega)⟩
                have e1 := Cell.out j x hx
                have hxn := hmlt.out j x hx hjm
                have hjR : (j : Int) < (R.length : Int) := by have := Hmle.out; omega
                have hjl : (j : Int) + 1 ≤ 9223372036854775807 := by have := HRl.out; omega
                obtain ⟨fl, hown, hrep⟩ := HO2.out
                rw [List.length_take, Nat.min_eq_left (by have := Hmle.out; omega)] at hown
                have Hown := Lib.hid hown; have Hrep := Lib.hid hrep
                have Hm1 := Lib.hid (show j + 1 ≤ maxLen by have := HRl.out; unfold maxLen; omega)
                have Hn1 := Lib.hid (show (j + 1) * 8 ≤ 140737488355328 by have := HRl.out; omega)
                have H0W := Lib.hid Hb2.out.size
                have Hsn := Lib.hid (show R.take (j + 1) = R.take j ++ [x] by rw [List.take_add_one, hx]; rfl)
                have Hjm := Lib.hid hjm
                clear hown hrep hx hjm
                go_wp2_with (at_builtin; go_loud (refine wpList_append1 rfl (.tmp 46) (.tmp 51) 22 rfl u.heap.size 3 i0 (.int .i64 0) 1 8 Tryz.underlying22 Hi.out Hz0.out Hz1.out Hz2.out rfl (by decide) _ _ _ Hown.out rfl [.int .i64 x] rfl (by simp) rfl (by simp [Value.oneCell']) Hm1.out Hn1.out H0W.out ?_); intro v2 w9 own2 g3 at2; obtain ⟨p2, cap2, hv2, _⟩ := own2.form (Nat.succ_pos _); subst hv2)
                go_roundw
                case rel =>
                  refine ⟨j + 1, p2, cap2, by have := Hjm.out; omega, by go_num, rfl, ?_, Hb2.out.grown g3 H0W.out (fun q e => (World.ownsRow.lt Hown.out q e).1)⟩
                  rw [Hsn.out]
                  exact ⟨_, by rw [List.length_append, List.length_take, Nat.min_eq_left (by have := Hmle.out; have := Hjm.out; omega)]; exact own2, RepRow.snoc (R := RInt) (vs := [.int .i64 x]) rfl Hrep.out⟩
                case measure => have := Hjm.out; have := Hmle.out; simp [intOf]; omega
              · have he : j = m := by omega
                subst he
                have Hcap := Lib.hid (show R.length ≤ c by
                  obtain ⟨p', c', hp', hle, _⟩ := HSL.out
                  simp only [Value.slice.injEq] at hp'
                  omega)
                by_cases hjl : j < R.length
                · obtain ⟨x, hx⟩ : ∃ x, R[j]? = some x := ⟨_, List.getElem?_eq_getElem hjl⟩
                  have e1 := Cell.out j x hx
                  have hxn : decide (x < n) = false := decide_eq_false (hmge.out x hx)
                  have hjR : (j : Int) < (R.length : Int) := by omega
                  clear hx
                  obtain ⟨fl, hown, hrep⟩ := HO2.out
                  rw [List.length_take, Nat.min_eq_left Hmle.out] at hown
                  have Hown := Lib.hid hown; have Hrep := Lib.hid hrep
                  have Hm1 := Lib.hid (show j + 1 ≤ maxLen by have := HRl.out; have := Hmle.out; unfold maxLen; omega)
                  have Hn1 := Lib.hid (show (j + 1) * 8 ≤ 140737488355328 by have := HRl.out; have := Hmle.out; omega)
                  have H0W := Lib.hid Hb2.out.size
                  clear hown hrep hjm hj hjl
                  go_upto_region 14 with (at_builtin; go_loud (refine wpList_append1 rfl (.tmp 55) (.tmp 57) 22 rfl u.heap.size 3 i0 (.int .i64 0) 1 8 Tryz.underlying22 Hi.out Hz0.out Hz1.out Hz2.out rfl (by decide) _ _ _ Hown.out rfl [.int .i64 n] rfl (by simp) rfl (by simp [Value.oneCell']) Hm1.out Hn1.out H0W.out ?_); intro v2 w9 own2 g3 at2; obtain ⟨p2, cap2, hv2, _⟩ := own2.form (Nat.succ_pos _); subst hv2)
                  clear e1 hxn
                  have Hj := Lib.hid hjR
                  clear hjR
                  have hb9 := Hb2.out.grown g3 H0W.out (fun q e => (World.ownsRow.lt Hown.out q e).1)
                  have HB9 := Lib.hid hb9
                  obtain ⟨v3, w10, hrun, own3, g4, _, _⟩ := run_append_own_at (P := Tryz.prog) w9 u.heap.size 22 22 3 i0 (.int .i64 0) 1 8 Tryz.underlying22 Hi.out Hz0.out Hz1.out Hz2.out rfl (by decide) _ _ _ own2 ⟨g, j, none⟩ (R.length - j) (c - j) ((R.drop j).map (Value.int .i64)) (by rw [List.length_map, List.length_drop, Nat.mul_one]) (fun q x hq => by
                      rw [List.getElem?_map] at hq
                      obtain ⟨z, hz, rfl⟩ := Option.map_eq_some_iff.1 hq
                      rw [List.getElem?_drop] at hz
                      have h1 := Cell2.out (j + q) z hz
                      rw [addG_cell]
                      have h2 := (HB9.out.cell (p := ⟨g, j + q, none⟩) h1.2).trans h1.1
                      cases q with
                      | zero => exact h2
                      | succ q => exact h2) (fun z hz => by obtain ⟨y, _, rfl⟩ := List.mem_map.1 hz; rfl) (by have := HRl.out; have := Hmle.out; unfold maxLen; omega) (by have := HRl.out; have := Hmle.out; omega) HB9.out.size
                  obtain ⟨p3, c3, hv3, _⟩ := own3.form (by omega)
                  subst hv3
                  have Hrun := Lib.hid hrun; have Own3 := Lib.hid own3; have HB10 := Lib.hid (hb9.grown g4 hb9.size (fun q e => (World.ownsRow.lt own2 q e).1))
                  have hcj : ¬ c = j := by have := Hcap.out; have := Hj.out; omega
                  have hjl0 : ¬ (j : Int) < 0 := by omega
                  have hjR2 : (j : Int) ≤ (R.length : Int) := by have := Hmle.out; omega
                  have hRc : (R.length : Int) ≤ (c : Int) := by have := Hcap.out; omega
                  clear hb9 hrun own3 g4 own2 g3 at2
                  go_wp2_with (at_builtin; refine wpList_append_run rfl (.tmp 59) (.tmp 62) 22 rfl rfl rfl Hrun.out ?_)
                  go_roundw
                  case rel =>
                    refine ⟨k + 1, p3, c3, by have := Hlt.out; omega, by go_num, ?_, ?_, Hb.out.trans (HB10.out.mono Hb.out.size)⟩
                    · rw [Hst.out]
                      have hh : (R.take j ++ [n] ++ R.drop j).length = j + 1 + (R.length - j) := by
                        rw [List.length_append, List.length_append, List.length_take, List.length_drop, Nat.min_eq_left Hmle.out]; rfl
                      rw [hh]
                    · rw [Hst.out]
                      have hh : (R.take j ++ [n] ++ R.drop j).length = j + 1 + (R.length - j) := by
                        rw [List.length_append, List.length_append, List.length_take, List.length_drop, Nat.min_eq_left Hmle.out]; rfl
                      have h1 := Own3.out
                      rw [rep_ints _ _ Hrep.out] at h1
                      have h2 : (R.take j).map (Value.int .i64) ++ [Value.int .i64 n] ++ (R.drop j).map (Value.int .i64) = (R.take j ++ [n] ++ R.drop j).map (Value.int .i64) := by simp
                      rw [h2, ← hh] at h1
                      exact OwnL.lower ⟨_, by rw [hh] at h1 ⊢; exact h1, ints_rep _⟩ Hb.out.size
                  case measure => have := Hlt.out; simp [intOf]; omega
                · obtain ⟨fl, hown, hrep⟩ := HO2.out
                  rw [List.length_take, Nat.min_eq_left Hmle.out] at hown
                  have Hown := Lib.hid hown; have Hrep := Lib.hid hrep
                  have Hm1 := Lib.hid (show j + 1 ≤ maxLen by have := HRl.out; have := Hmle.out; unfold maxLen; omega)
                  have Hn1 := Lib.hid (show (j + 1) * 8 ≤ 140737488355328 by have := HRl.out; have := Hmle.out; omega)
                  have H0W := Lib.hid Hb2.out.size
                  clear hown hrep hjm hj
                  go_upto_region 14 with (at_builtin; go_loud (refine wpList_append1 rfl (.tmp 55) (.tmp 57) 22 rfl u.heap.size 3 i0 (.int .i64 0) 1 8 Tryz.underlying22 Hi.out Hz0.out Hz1.out Hz2.out rfl (by decide) _ _ _ Hown.out rfl [.int .i64 n] rfl (by simp) rfl (by simp [Value.oneCell']) Hm1.out Hn1.out H0W.out ?_); intro v2 w9 own2 g3 at2; obtain ⟨p2, cap2, hv2, _⟩ := own2.form (Nat.succ_pos _); subst hv2)
                  have Hj := Lib.hid hjl
                  clear hjl
                  have hd : R.drop j = [] := List.drop_of_length_le (by have := Hj.out; omega)
                  have hb9 := Hb2.out.grown g3 H0W.out (fun q e => (World.ownsRow.lt Hown.out q e).1)
                  have HB9 := Lib.hid hb9
                  obtain ⟨v3, w10, hrun, own3, g4, _, _⟩ := run_append_own_at (P := Tryz.prog) w9 u.heap.size 22 22 3 i0 (.int .i64 0) 1 8 Tryz.underlying22 Hi.out Hz0.out Hz1.out Hz2.out rfl (by decide) _ _ _ own2 ⟨g, (if c = j then 0 else j), none⟩ (R.length - j) (c - j) ((R.drop j).map (Value.int .i64)) (by rw [List.length_map, List.length_drop, Nat.mul_one]) (fun q x hq => by rw [hd] at hq; simp at hq) (fun z hz => by obtain ⟨y, _, rfl⟩ := List.mem_map.1 hz; rfl) (by have := HRl.out; have := Hmle.out; unfold maxLen; omega) (by have := HRl.out; have := Hmle.out; omega) HB9.out.size
                  obtain ⟨p3, c3, hv3, _⟩ := own3.form (by omega)
                  subst hv3
                  have Hrun := Lib.hid hrun; have Own3 := Lib.hid own3; have HB10 := Lib.hid (hb9.grown g4 hb9.size (fun q e => (World.ownsRow.lt own2 q e).1))
                  have hjl0 : ¬ (j : Int) < 0 := by omega
                  have hjR2 : (j : Int) ≤ (R.length : Int) := by have := Hmle.out; omega
                  have hRc : (R.length : Int) ≤ (c : Int) := by have := Hcap.out; omega
                  have hjn : ¬ j < R.length := Hj.out
                  clear hb9 hrun own3 g4 own2 g3 at2 hd hjn hjl0
                  have hjl0 : ¬ (j : Int) < 0 := by omega
                  by_cases hcj : c = j
                  · rw [if_pos hcj] at Hrun
                    go_wp2_with (at_builtin; refine wpList_append_run rfl (.tmp 59) (.tmp 62) 22 rfl rfl rfl Hrun.out ?_)
                    go_roundw
                    case rel =>
                      refine ⟨k + 1, p3, c3, by have := Hlt.out; omega, by go_num, ?_, ?_, Hb.out.trans (HB10.out.mono Hb.out.size)⟩
                      · rw [Hst.out]
                        have hh : (R.take j ++ [n] ++ R.drop j).length = j + 1 + (R.length - j) := by
                          rw [List.length_append, List.length_append, List.length_take, List.length_drop, Nat.min_eq_left Hmle.out]; rfl
                        rw [hh]
                      · rw [Hst.out]
                        have hh : (R.take j ++ [n] ++ R.drop j).length = j + 1 + (R.length - j) := by
                          rw [List.length_append, List.length_append, List.length_take, List.length_drop, Nat.min_eq_left Hmle.out]; rfl
                        have h1 := Own3.out
                        rw [rep_ints _ _ Hrep.out] at h1
                        have h2 : (R.take j).map (Value.int .i64) ++ [Value.int .i64 n] ++ (R.drop j).map (Value.int .i64) = (R.take j ++ [n] ++ R.drop j).map (Value.int .i64) := by simp
                        rw [h2, ← hh] at h1
                        exact OwnL.lower ⟨_, by rw [hh] at h1 ⊢; exact h1, ints_rep _⟩ Hb.out.size
                    case measure => have := Hlt.out; simp [intOf]; omega
                  · rw [if_neg hcj] at Hrun
                    go_wp2_with (at_builtin; refine wpList_append_run rfl (.tmp 59) (.tmp 62) 22 rfl rfl rfl Hrun.out ?_)
                    go_roundw
                    case rel =>
                      refine ⟨k + 1, p3, c3, by have := Hlt.out; omega, by go_num, ?_, ?_, Hb.out.trans (HB10.out.mono Hb.out.size)⟩
                      · rw [Hst.out]
                        have hh : (R.take j ++ [n] ++ R.drop j).length = j + 1 + (R.length - j) := by
                          rw [List.length_append, List.length_append, List.length_take, List.length_drop, Nat.min_eq_left Hmle.out]; rfl
                        rw [hh]
                      · rw [Hst.out]
                        have hh : (R.take j ++ [n] ++ R.drop j).length = j + 1 + (R.length - j) := by
                          rw [List.length_append, List.length_append, List.length_take, List.length_drop, Nat.min_eq_left Hmle.out]; rfl
                        have h1 := Own3.out
                        rw [rep_ints _ _ Hrep.out] at h1
                        have h2 : (R.take j).map (Value.int .i64) ++ [Value.int .i64 n] ++ (R.drop j).map (Value.int .i64) = (R.take j ++ [n] ++ R.drop j).map (Value.int .i64) := by simp
                        rw [h2, ← hh] at h1
                        exact OwnL.lower ⟨_, by rw [hh] at h1 ⊢; exact h1, ints_rep _⟩ Hb.out.size
                    case measure => have := Hlt.out; simp [intOf]; omega
    · have he : k = l.length := by omega
      subst he
      clear hlt hk
      rw [List.take_length] at HO ⊢
      go_wp2_with fail
      go_ret
      exact ⟨_, rfl, HO.out, Hb.out⟩
end
section
open Go.RowKit
theorem small_snoc (l : List UInt8) (k : Nat) (x : UInt8) (h : l[k]? = some x) : Ent.small (l.take (k + 1)) = Ent.small (l.take k) ++ [Ent.low x] := by
  unfold Ent.small
  rw [List.take_add_one, h, List.map_append]; rfl
theorem low_at (x : UInt8) (h : 65 ≤ x.toNat ∧ x.toNat ≤ 90) : UInt8.ofNat ((x.toNat : Int) + 32).toNat = Ent.low x := by
  have := byte_all (fun c => !(decide (65 ≤ c.toNat ∧ c.toNat ≤ 90)) || (UInt8.ofNat ((c.toNat : Int) + 32).toNat == Ent.low c)) (by decide +kernel) x
  rw [decide_eq_true h] at this
  simpa using this
theorem low_out (x : UInt8) (h : ¬ (65 ≤ x.toNat ∧ x.toNat ≤ 90)) : UInt8.ofNat ((x.toNat : Int)).toNat = Ent.low x := by
  have := byte_all (fun c => (decide (65 ≤ c.toNat ∧ c.toNat ≤ 90)) || (UInt8.ofNat ((c.toNat : Int)).toNat == Ent.low c)) (by decide +kernel) x
  rw [decide_eq_false h] at this
  simpa using this

set_option maxRecDepth 100000 in
set_option maxHeartbeats 1600000 in
theorem ref15_small (l : List UInt8) (w : World) (hl : l.length ≤ maxLen) :
    Calls Tryz.prog 81 #[.string ⟨l.toArray⟩] w fun e w' => e = .returned (.string ⟨(Ent.small l).toArray⟩) ∧ Below w.heap.size w w' := by
  unfold maxLen at hl
  have Hl := Lib.hid hl; clear hl
  go_enter Tryz.func81, Tryz.ntmps81
  go_wp2_with fail
  go_loopw [3, 4] (fun tv iv wr => ∃ k : Nat, k ≤ l.length ∧ iv = .int .i64 (k : Int) ∧ tv = .string ⟨(Ent.small (l.take k)).toArray⟩ ∧ Below w.heap.size w wr) (fun _ iv _ => l.length - (intOf iv).toNat)
  case atStart => exact ⟨0, Nat.zero_le _, rfl, rfl, Below.refl _ _⟩
  case round =>
    obtain ⟨k, hk, rfl, rfl, hb⟩ := hrel
    have Hb := Lib.hid hb; clear hb
    by_cases hlt : k < l.length
    · obtain ⟨x, hx⟩ : ∃ x, l[k]? = some x := ⟨_, List.getElem?_eq_getElem hlt⟩
      have hby := byte_at l k x hx
      have Hsn := Lib.hid (small_snoc l k x hx)
      have hlt' : (k : Int) < (l.length : Int) := by have := Hl.out; omega
      have hl := Hl.out
      have hsl : (Ent.small (l.take k)).length = k := by unfold Ent.small; simp; omega
      obtain ⟨t, ht⟩ : ∃ t, Ent.small (l.take k) = t := ⟨_, rfl⟩
      rw [ht] at hsl Hsn ⊢
      have Hk := Lib.hid hk; have Hlt := Lib.hid hlt
      clear hx ht hk hlt
      have hx256 := x.toNat_lt
      have hcut : ∃ v : Int, UInt8.ofNat v.toNat = Ent.low x ∧ ((65 ≤ x.toNat ∧ x.toNat ≤ 90 ∧ v = (x.toNat : Int) + 32) ∨ (90 < x.toNat ∧ v = x.toNat) ∨ (x.toNat < 65 ∧ v = x.toNat)) := by
        by_cases h : 65 ≤ x.toNat ∧ x.toNat ≤ 90
        · exact ⟨_, low_at x h, Or.inl ⟨h.1, h.2, rfl⟩⟩
        · refine ⟨_, low_out x h, ?_⟩
          right
          omega
      obtain ⟨v, hv, hz⟩ := hcut
      have Hv := Lib.hid hv; clear hv
      obtain ⟨n, hn⟩ : ∃ n, x.toNat = n := ⟨_, rfl⟩
      rw [hn] at hz hx256
      have Hsl := Lib.hid hsl; have Hl2 := Lib.hid hl
      rcases hz with ⟨h1, h2, hv⟩ | ⟨h1, hv⟩ | ⟨h1, hv⟩
      · have g1 : (65 : Int) ≤ (n : Int) := by omega
        have g2 : (n : Int) ≤ 90 := by omega
        have hw2 : IntKind.u8.wrap ((n : Int) + 32) = v := by rw [hv]; exact IntWalk.u8_in _ (by omega)
        have Hvv := Lib.hid hv; clear hv
        go_upto_region 8 with fail
        skip
        clear h1 hx256 g1 g2 hw2 h2 hlt' hl hsl
        have hcv : ∀ W : World, (convert 40 9 (.slice (some ⟨W.heap.size, 0, none⟩) 1 1)).run Tryz.prog (W.alloc (.cells #[.int .u8 v] 5)) = .ok (.string ⟨[Ent.low x].toArray⟩) (W.alloc (.cells #[.int .u8 v] 5)) := fun W => by
          rw [← Hv.out]
          exact run_conv_one (P := Tryz.prog) 40 9 5 Tryz.underlying40 Tryz.underlying5 Tryz.underlying9 W v
        have hadd : ¬ 9223372036854775807 < t.length + 1 := by have := Hsl.out; have := Hl2.out; have := Hlt.out; omega
        go_upto_region 4 with fail
        clear hcv hadd
        have hkl : (k : Int) + 1 ≤ 9223372036854775807 := by have := Hlt.out; have := Hl2.out; omega
        go_wp2_with fail
        go_roundw
        case rel => exact ⟨k + 1, Hlt.out, by go_num, by rw [Hsn.out]; exact congrArg Value.string (append_data _ _), Hb.out.alloc Hb.out.size _⟩
        case measure => have := Hlt.out; simp [intOf]; omega
      · have g1 : (65 : Int) ≤ (n : Int) := by omega
        have g2 : ¬ (n : Int) ≤ 90 := by omega
        go_upto_region 8 with fail
        rw [← hv]
        clear h1 hx256 g1 g2 hv hlt' hl hsl
        have hcv : ∀ W : World, (convert 40 9 (.slice (some ⟨W.heap.size, 0, none⟩) 1 1)).run Tryz.prog (W.alloc (.cells #[.int .u8 v] 5)) = .ok (.string ⟨[Ent.low x].toArray⟩) (W.alloc (.cells #[.int .u8 v] 5)) := fun W => by
          rw [← Hv.out]
          exact run_conv_one (P := Tryz.prog) 40 9 5 Tryz.underlying40 Tryz.underlying5 Tryz.underlying9 W v
        have hadd : ¬ 9223372036854775807 < t.length + 1 := by have := Hsl.out; have := Hl2.out; have := Hlt.out; omega
        go_upto_region 4 with fail
        clear hcv hadd
        have hkl : (k : Int) + 1 ≤ 9223372036854775807 := by have := Hlt.out; have := Hl2.out; omega
        go_wp2_with fail
        go_roundw
        case rel => exact ⟨k + 1, Hlt.out, by go_num, by rw [Hsn.out]; exact congrArg Value.string (append_data _ _), Hb.out.alloc Hb.out.size _⟩
        case measure => have := Hlt.out; simp [intOf]; omega
      · have g1 : ¬ (65 : Int) ≤ (n : Int) := by omega
        go_upto_region 8 with fail
        rw [← hv]
        clear h1 hx256 g1 hv hlt' hl hsl
        have hcv : ∀ W : World, (convert 40 9 (.slice (some ⟨W.heap.size, 0, none⟩) 1 1)).run Tryz.prog (W.alloc (.cells #[.int .u8 v] 5)) = .ok (.string ⟨[Ent.low x].toArray⟩) (W.alloc (.cells #[.int .u8 v] 5)) := fun W => by
          rw [← Hv.out]
          exact run_conv_one (P := Tryz.prog) 40 9 5 Tryz.underlying40 Tryz.underlying5 Tryz.underlying9 W v
        have hadd : ¬ 9223372036854775807 < t.length + 1 := by have := Hsl.out; have := Hl2.out; have := Hlt.out; omega
        go_upto_region 4 with fail
        clear hcv hadd
        have hkl : (k : Int) + 1 ≤ 9223372036854775807 := by have := Hlt.out; have := Hl2.out; omega
        go_wp2_with fail
        go_roundw
        case rel => exact ⟨k + 1, Hlt.out, by go_num, by rw [Hsn.out]; exact congrArg Value.string (append_data _ _), Hb.out.alloc Hb.out.size _⟩
        case measure => have := Hlt.out; simp [intOf]; omega
    · have hlt' : ¬ (k : Int) < (l.length : Int) := by have := Hl.out; omega
      go_wp2_with fail
      go_ret
      rw [List.take_of_length_le (by omega)]
      exact ⟨rfl, Hb.out⟩

theorem less_cmp : ∀ a b : List UInt8, Op.bytesLess a b = decide (Ix.cmpB a b < 0)
  | [], [] => rfl
  | [], _ :: _ => rfl
  | _ :: _, [] => rfl
  | x :: a, y :: b => by
    rw [Ix.cmpB_cons, Op.bytesLess, less_cmp a b]
    by_cases h1 : x < y
    · simp [h1]
    · by_cases h2 : y < x
      · have h3 : x ≠ y := fun e => by rw [e] at h2; exact absurd h2 (UInt8.lt_irrefl _)
        simp [h1, h2, h3]
      · have h3 : x = y := UInt8.le_antisymm (UInt8.not_lt.1 h2) (UInt8.not_lt.1 h1)
        subst h3
        simp
set_option maxRecDepth 100000 in
set_option maxHeartbeats 1600000 in
theorem ref19_ahead (a b : List UInt8) (w : World) (ha : a.length ≤ maxLen) (hb : b.length ≤ maxLen) :
    Calls Tryz.prog 58 #[.string ⟨a.toArray⟩, .string ⟨b.toArray⟩] w fun e w' => e = .returned (.bool (decide (Ix.cl a b < 0))) ∧ Below w.heap.size w w' := by
  go_enter Tryz.func58, Tryz.ntmps58
  go_wp2_with fail
  refine (ref15_small a w ha).mono ?_
  rintro e w1 ⟨rfl, hb1⟩
  have B1 := Lib.hid hb1; clear hb1
  go_wp2_with fail
  refine (ref15_small b w1 hb).mono ?_
  rintro e w2 ⟨rfl, hb2⟩
  have B2 := Lib.hid (bseq B1.out hb2); clear hb2
  have hcl : ∀ v : Bool, (v = (Op.bytesLess (Ent.small a) (Ent.small b) || ((Ent.small a == Ent.small b) && Op.bytesLess a b))) → Ending.returned (.bool v) = .returned (.bool (decide (Ix.cl a b < 0))) := by
    rintro v rfl
    refine ret_bool ?_
    rw [less_cmp, less_cmp]
    unfold Ix.cl Ix.kl Ix.cmpL Ix.small
    by_cases h0 : Ix.cmpB (Ent.small a) (Ent.small b) = 0
    · have he := Ix.cmpB_eq0 _ _ h0
      rw [if_pos h0]
      unfold Ix.cmpL
      by_cases h1 : Ix.cmpB a b = 0
      · rw [if_pos h1]; simp [h0, h1, Ix.cmpL]
      · rw [if_neg h1]; simp [he, Ix.cmpB_refl]
    · rw [if_neg h0]
      have hne : (Ent.small a == Ent.small b) = false := by
        simp
        intro e
        rw [e, Ix.cmpB_refl] at h0
        exact h0 rfl
      rw [hne]
      simp
  have Hcl := Lib.hid hcl; clear hcl
  cases h1 : Op.bytesLess (Ent.small a) (Ent.small b) with
  | true =>
    have H1 := Lib.hid h1
    go_upto_region 2 with fail
    go_wp2_with fail
    go_ret
    exact ⟨Hcl.out _ (by rw [H1.out]; rfl), B2.out⟩
  | false =>
    have H1 := Lib.hid h1
    cases h2 : (Ent.small a == Ent.small b) with
    | false =>
      have H2 := Lib.hid h2
      go_upto_region 2 with fail
      go_wp2_with fail
      go_ret
      exact ⟨Hcl.out _ (by rw [H1.out, H2.out]; rfl), B2.out⟩
    | true =>
      have H2 := Lib.hid h2
      go_upto_region 2 with fail
      go_wp2_with fail
      go_ret
      exact ⟨Hcl.out _ (by rw [H1.out, H2.out]; rfl), B2.out⟩
end
section
open Go.RowKit
namespace Ix
/-- where a text goes: ahead of the first that it rises ahead of -/
def spot (s : List UInt8) (l : List (List UInt8)) : Nat := (l.takeWhile fun y => decide (¬ cl s y < 0)).length
theorem spot_le (s : List UInt8) (l : List (List UInt8)) : spot s l ≤ l.length := (List.takeWhile_prefix _).length_le
theorem once_mem (s : List UInt8) : ∀ l : List (List UInt8), Up cl l → s ∈ l → once cl s l = l
  | [], _, h => by simp at h
  | y :: r, hu, h => by
    unfold Up at hu
    rw [List.pairwise_cons] at hu
    unfold once
    rcases List.mem_cons.1 h with rfl | h
    · rw [if_neg (by rw [ordL.refl]; omega), if_neg (by rw [ordL.refl]; omega)]
    · rw [if_pos (hu.1 s h), once_mem s r hu.2 h]
theorem once_spot (s : List UInt8) : ∀ l : List (List UInt8), s ∉ l → once cl s l = l.take (spot s l) ++ [s] ++ l.drop (spot s l)
  | [], _ => rfl
  | y :: r, h => by
    have hy : s ≠ y := fun e => h (by rw [e]; exact List.mem_cons_self ..)
    have hr : s ∉ r := fun e => h (List.mem_cons_of_mem _ e)
    have ha := ordL.anti s y
    unfold once spot
    rw [List.takeWhile_cons]
    by_cases h1 : cl y s < 0
    · rw [if_pos h1, if_pos (by simp; omega), once_spot s r hr]
      rfl
    · by_cases h2 : cl s y < 0
      · rw [if_neg h1, if_pos h2, if_neg (by simpa using h2)]
        rfl
      · exact absurd (ordL.eq0 s y (by omega)) hy
theorem spot_lt (s : List UInt8) : ∀ (l : List (List UInt8)) (k : Nat) (x : List UInt8), l[k]? = some x → k < spot s l → ¬ cl s x < 0
  | [], k, x, h, _ => by simp at h
  | y :: r, k, x, h, hk => by
    unfold spot at hk
    rw [List.takeWhile_cons] at hk
    by_cases h2 : cl s y < 0
    · rw [if_neg (by simpa using h2)] at hk
      simp at hk
    · rw [if_pos (by simpa using h2)] at hk
      cases k with
      | zero => simp at h; rw [← h]; exact h2
      | succ k => exact spot_lt s r k x (by simpa using h) (by simpa [spot] using hk)
theorem spot_at (s : List UInt8) : ∀ (l : List (List UInt8)) (x : List UInt8), l[spot s l]? = some x → cl s x < 0
  | [], x, h => by simp at h
  | y :: r, x, h => by
    unfold spot at h
    rw [List.takeWhile_cons] at h
    by_cases h2 : cl s y < 0
    · rw [if_neg (by simpa using h2)] at h
      simp at h
      rw [← h]; exact h2
    · rw [if_pos (by simpa using h2)] at h
      exact spot_at s r x (by simpa [spot] using h)
end Ix
end
section
open Go.RowKit
def Ix.outK (s : List UInt8) (l : List (List UInt8)) (m k : Nat) : List (List UInt8) := if m < k then l.take m ++ [s] ++ (l.take k).drop m else l.take k
theorem Ix.outK_len (s : List UInt8) (l : List (List UInt8)) (m k : Nat) (hk : k ≤ l.length) (hm : m ≤ l.length) : (Ix.outK s l m k).length ≤ k + 1 := by
  unfold Ix.outK
  split
  · rw [List.length_append, List.length_append, List.length_take, List.length_drop, List.length_take]; simp; omega
  · rw [List.length_take]; omega
theorem Ix.outK_less (s : List UInt8) (l : List (List UInt8)) (m k : Nat) (x : List UInt8) (hx : l[k]? = some x) (h : k < m) : Ix.outK s l m (k + 1) = Ix.outK s l m k ++ [x] := by
  unfold Ix.outK
  rw [if_neg (by omega), if_neg (by omega), List.take_add_one, hx]
  rfl
theorem Ix.outK_at (s : List UInt8) (l : List (List UInt8)) (k : Nat) (x : List UInt8) (hx : l[k]? = some x) : Ix.outK s l k (k + 1) = Ix.outK s l k k ++ [s] ++ [x] := by
  have hk := (List.getElem?_eq_some_iff.1 hx).1
  unfold Ix.outK
  rw [if_pos (by omega), if_neg (by omega), List.take_add_one, hx]
  have : (l.take k ++ (some x).toList).drop k = [x] := by
    rw [List.drop_append, List.length_take, Nat.min_eq_left (by omega), List.drop_of_length_le (by rw [List.length_take]; omega), Nat.sub_self]
    rfl
  rw [this]
theorem Ix.outK_more (s : List UInt8) (l : List (List UInt8)) (m k : Nat) (x : List UInt8) (hx : l[k]? = some x) (h : m < k) : Ix.outK s l m (k + 1) = Ix.outK s l m k ++ [x] := by
  have hk := (List.getElem?_eq_some_iff.1 hx).1
  unfold Ix.outK
  rw [if_pos (by omega), if_pos h, List.take_add_one, hx, List.append_assoc _ _ [x]]
  congr 1
  rw [List.drop_append, List.length_take, Nat.min_eq_left (by omega), show m - k = 0 by omega]
  rfl
set_option maxRecDepth 100000 in
set_option maxHeartbeats 3200000 in
theorem ref19_once (l : List (List UInt8)) (s : List UInt8) (v : Value) (B : Nat) (w : World) (hO : OwnL B 9 1 RStr w v l) (hB : B ≤ w.heap.size) (hu : Ix.Up Ix.cl l) (hl : l.length ≤ 100000) (hs : s.length ≤ maxLen) (hw : ∀ x ∈ l, x.length ≤ maxLen) :
    Calls Tryz.prog 30 #[v, .string ⟨s.toArray⟩] w fun e w' => ∃ v', e = .returned v' ∧ OwnL B 9 1 RStr w' v' (Ix.once Ix.cl s l) ∧ (v' = v ∨ OwnL w.heap.size 9 1 RStr w' v' (Ix.once Ix.cl s l)) ∧ Below w.heap.size w w' := by
  obtain ⟨i0, hi, hz0, hz1, hz2⟩ := info_parts str_info
  have Hi := Lib.hid hi; have Hz0 := Lib.hid hz0; have Hz1 := Lib.hid hz1; have Hz2 := Lib.hid hz2; clear hi hz0 hz1 hz2
  obtain ⟨pa, cap, rfl⟩ := hO.form
  have S1 := Lib.hid (hO.slice RStr.size (fun _ => True) (fun _ _ => trivial))
  have HO := Lib.hid hO; have HB := Lib.hid hB; have Hu := Lib.hid hu; have Hl := Lib.hid hl; have Hs := Lib.hid hs; have Hw := Lib.hid hw
  clear hO hB hu hl hs hw
  have hmle := Ix.spot_le s l
  have Hlt0 := Lib.hid (Ix.spot_lt s l)
  have Hat0 := Lib.hid (Ix.spot_at s l)
  have Hsp := Lib.hid (Ix.once_spot s l)
  obtain ⟨m, hm⟩ : ∃ m, m = Ix.spot s l := ⟨_, rfl⟩
  rw [← hm] at hmle Hlt0 Hat0 Hsp
  have Hmle := Lib.hid hmle
  clear hm hmle
  have hO2 := Lib.hid (OwnL.made w.heap.size 9 1 RStr w (Nat.le_refl _))
  have hB2 := Lib.hid (below_new w (.cells #[] 9))
  go_enter Tryz.func30, Tryz.ntmps30
  go_wp2_with fail
  go_loopw [5, 6, 7] (fun ov fv iv wr => ∃ k : Nat, k ≤ l.length ∧ iv = .int .i64 (k : Int) ∧ fv = .bool (decide (m < k)) ∧ s ∉ l.take k ∧ OwnL w.heap.size 9 1 RStr wr ov (Ix.outK s l m k) ∧ Below w.heap.size w wr) (fun _ _ iv _ => l.length - (intOf iv).toNat)
  case atStart => exact ⟨0, Nat.zero_le _, rfl, by simp, by simp, by unfold Ix.outK; rw [if_neg (by omega)]; exact hO2.out, hB2.out⟩
  case round =>
    clear hO2 hB2
    obtain ⟨k, hk, rfl, rfl, hn, hOo, hb⟩ := hrel
    obtain ⟨po, co, rfl⟩ := hOo.form
    have HOo := Lib.hid hOo; have Hb := Lib.hid hb; have Hn := Lib.hid hn
    clear hOo hb hn
    by_cases hlt : k < l.length
    · obtain ⟨x, hx⟩ : ∃ x, l[k]? = some x := ⟨_, List.getElem?_eq_getElem hlt⟩
      obtain ⟨p', c', hp', _, _, hat⟩ := S1.out
      simp only [Value.slice.injEq] at hp'
      obtain ⟨rfl, -, rfl⟩ := hp'
      obtain ⟨b, off, vs, rfl, _, hbw, hR, hc⟩ := hat k x hx
      have hR := RStr.two hR
      subst hR
      have hcw : w.cell? ⟨b, off + k, none⟩ = some (.string ⟨x.toArray⟩) := by
        have := hc 0 _ rfl
        rwa [Nat.mul_one, Nat.add_zero] at this
      have e0 : wr.cell? ⟨b, off + k, none⟩ = some (.string ⟨x.toArray⟩) := (Hb.out.cell (p := ⟨b, off + k, none⟩) hbw).trans hcw
      have hlt' : (k : Int) < (l.length : Int) := by omega
      have hkl : (k : Int) + 1 ≤ 9223372036854775807 := by have := Hl.out; omega
      have Hx := Lib.hid hx; have Hlt := Lib.hid hlt; have Hbw := Lib.hid hbw; have Hcw := Lib.hid hcw
      clear hat hc hx hlt hbw hcw
      cases hxs : (x == s)
      · have Hn2' := Lib.hid (show s ∉ l.take (k + 1) by
          rw [List.take_add_one, Hx.out]
          intro h
          rcases List.mem_append.1 h with h | h
          · exact Hn.out h
          · simp at h
            rw [h] at hxs
            simp at hxs)
        rcases Nat.lt_trichotomy k m with hkm | hkm | hkm
        · have hah := Hlt0.out k x Hx.out hkm
          rw [show decide (m < k) = false from by simp; omega]
          have Hdn := Lib.hid (show decide (m < k + 1) = false by simp; omega)
          obtain ⟨fl, hown, hrep⟩ := HOo.out
          have hol := Ix.outK_len s l m k (by have := Hlt.out; omega) Hmle.out
          have Hrep := Lib.hid hrep
          have Hm1 := Lib.hid (show (Ix.outK s l m k).length + 1 ≤ maxLen by have := Hl.out; have := Hlt.out; unfold maxLen; omega)
          have Hn1 := Lib.hid (show ((Ix.outK s l m k).length + 1) * 16 ≤ 140737488355328 by have := Hl.out; have := Hlt.out; omega)
          have Hm2 := Lib.hid (show (Ix.outK s l m k).length + 1 + 1 ≤ maxLen by have := Hl.out; have := Hlt.out; unfold maxLen; omega)
          have Hn2 := Lib.hid (show ((Ix.outK s l m k).length + 1 + 1) * 16 ≤ 140737488355328 by have := Hl.out; have := Hlt.out; omega)
          have Hnx := Lib.hid (Ix.outK_less s l m k x Hx.out hkm)
          have Hah := Lib.hid (show decide (Ix.cl s x < 0) = false from decide_eq_false (by omega))
          have Hown := Lib.hid hown
          clear hrep hol hk hah hown hkm
          go_wp2_with fail
          refine (ref19_ahead s x _ Hs.out (Hw.out x (List.mem_of_getElem? Hx.out))).mono ?_
          rw [Hah.out]
          rintro e w4 ⟨rfl, hb4⟩
          have Own4 := Lib.hid (own_below9 Hown.out hb4)
          have Hb4 := Lib.hid (bseq Hb.out hb4)
          have e4 := (hb4.cell (p := ⟨b, off + k, none⟩) (Nat.lt_of_lt_of_le Hbw.out Hb.out.size)).trans e0
          have H0W4 := Lib.hid Hb4.out.size
          clear hb4 e0
          go_wp2_with (at_builtin; go_loud (refine wpList_append1 rfl (.tmp 36) (.tmp 41) 25 rfl w.heap.size 9 i0 (.string ⟨#[]⟩) 1 16 Tryz.underlying25 Hi.out Hz0.out Hz1.out Hz2.out rfl (by decide) _ _ _ Own4.out rfl [.string ⟨x.toArray⟩] rfl (by simp) rfl (by simp [Value.oneCell']) Hm1.out Hn1.out H0W4.out ?_); intro v2 w9 own2 g2 at2; obtain ⟨p2, cap2, hv2, _⟩ := own2.form (Nat.succ_pos _); subst hv2)
          go_roundw
          case rel =>
            refine ⟨k + 1, by have := Hlt.out; omega, by go_num, by rw [Hdn.out], Hn2'.out, ?_, Hb4.out.grown g2 H0W4.out (fun q e => (World.ownsRow.lt Own4.out q e).1)⟩
            rw [Hnx.out]
            exact ⟨_, by rw [List.length_append]; exact own2, RepRow.snoc (R := RStr) (vs := [.string ⟨x.toArray⟩]) rfl Hrep.out⟩
          case measure => have := Hlt.out; simp [intOf]; omega
        · subst hkm
          have hah := Hat0.out x Hx.out
          rw [show decide (k < k) = false from by simp]
          have Hdn := Lib.hid (show decide (k < k + 1) = true by simp)
          obtain ⟨fl, hown, hrep⟩ := HOo.out
          have hol := Ix.outK_len s l k k (by have := Hlt.out; omega) Hmle.out
          have Hrep := Lib.hid hrep
          have Hm1 := Lib.hid (show (Ix.outK s l k k).length + 1 ≤ maxLen by have := Hl.out; have := Hlt.out; unfold maxLen; omega)
          have Hn1 := Lib.hid (show ((Ix.outK s l k k).length + 1) * 16 ≤ 140737488355328 by have := Hl.out; have := Hlt.out; omega)
          have Hm2 := Lib.hid (show (Ix.outK s l k k).length + 1 + 1 ≤ maxLen by have := Hl.out; have := Hlt.out; unfold maxLen; omega)
          have Hn2 := Lib.hid (show ((Ix.outK s l k k).length + 1 + 1) * 16 ≤ 140737488355328 by have := Hl.out; have := Hlt.out; omega)
          have Hnx := Lib.hid (Ix.outK_at s l k x Hx.out)
          have Hah := Lib.hid (show decide (Ix.cl s x < 0) = true from decide_eq_true hah)
          have Hown := Lib.hid hown
          clear hrep hol hk hah hown
          go_wp2_with fail
          refine (ref19_ahead s x _ Hs.out (Hw.out x (List.mem_of_getElem? Hx.out))).mono ?_
          rw [Hah.out]
          rintro e w4 ⟨rfl, hb4⟩
          have Own4 := Lib.hid (own_below9 Hown.out hb4)
          have Hb4 := Lib.hid (bseq Hb.out hb4)
          have e4 := (hb4.cell (p := ⟨b, off + k, none⟩) (Nat.lt_of_lt_of_le Hbw.out Hb.out.size)).trans e0
          have H0W4 := Lib.hid Hb4.out.size
          clear hb4 e0
          go_wp2_with (first | (at_builtin; go_loud (refine wpList_append1 rfl (.tmp 32) (.tmp 34) 25 rfl w.heap.size 9 i0 (.string ⟨#[]⟩) 1 16 Tryz.underlying25 Hi.out Hz0.out Hz1.out Hz2.out rfl (by decide) _ _ _ Own4.out rfl [.string ⟨s.toArray⟩] rfl (by simp) rfl (by simp [Value.oneCell']) Hm1.out Hn1.out H0W4.out ?_); intro v1 w8 own1 g1 at1; obtain ⟨p1, cap1, hv1, _⟩ := own1.form (Nat.succ_pos _); subst hv1; have e2 : w8.cell? ⟨b, off + k, none⟩ = some (.string ⟨x.toArray⟩) := (((Hb4.out.grown g1 H0W4.out (fun q e => (World.ownsRow.lt Own4.out q e).1))).cell (p := ⟨b, off + k, none⟩) Hbw.out).trans Hcw.out; have Own1 := Lib.hid own1; have HB8 := Lib.hid (Hb4.out.grown g1 H0W4.out (fun q e => (World.ownsRow.lt Own4.out q e).1)); have H0W8 := Lib.hid HB8.out.size; clear own1 g1 at1) | (at_builtin; go_loud (refine wpList_append1 rfl (.tmp 36) (.tmp 41) 25 rfl w.heap.size 9 i0 (.string ⟨#[]⟩) 1 16 Tryz.underlying25 Hi.out Hz0.out Hz1.out Hz2.out rfl (by decide) _ _ _ Own1.out rfl [.string ⟨x.toArray⟩] rfl (by simp) rfl (by simp [Value.oneCell']) Hm2.out Hn2.out H0W8.out ?_); intro v2 w9 own2 g2 at2; obtain ⟨p2, cap2, hv2, _⟩ := own2.form (Nat.succ_pos _); subst hv2))
          go_roundw
          case rel =>
            refine ⟨k + 1, by have := Hlt.out; omega, by go_num, by rw [Hdn.out], Hn2'.out, ?_, HB8.out.grown g2 H0W8.out (fun q e => (World.ownsRow.lt Own1.out q e).1)⟩
            rw [Hnx.out]
            exact ⟨_, by rw [List.length_append, List.length_append]; exact own2, RepRow.snoc (R := RStr) (vs := [.string ⟨x.toArray⟩]) rfl (RepRow.snoc (R := RStr) (vs := [.string ⟨s.toArray⟩]) rfl Hrep.out)⟩
          case measure => have := Hlt.out; simp [intOf]; omega
        · obtain ⟨fl, hown, hrep⟩ := HOo.out
          have hol := Ix.outK_len s l m k (by have := Hlt.out; omega) Hmle.out
          have Hown := Lib.hid hown; have Hrep := Lib.hid hrep
          have Hm1 := Lib.hid (show (Ix.outK s l m k).length + 1 ≤ maxLen by have := Hl.out; have := Hlt.out; unfold maxLen; omega)
          have Hn1 := Lib.hid (show ((Ix.outK s l m k).length + 1) * 16 ≤ 140737488355328 by have := Hl.out; have := Hlt.out; omega)
          have Hm2 := Lib.hid (show (Ix.outK s l m k).length + 1 + 1 ≤ maxLen by have := Hl.out; have := Hlt.out; unfold maxLen; omega)
          have Hn2 := Lib.hid (show ((Ix.outK s l m k).length + 1 + 1) * 16 ≤ 140737488355328 by have := Hl.out; have := Hlt.out; omega)
          have H0W := Lib.hid Hb.out.size
          clear hown hrep hol
          have Hnx := Lib.hid (Ix.outK_more s l m k x Hx.out (by omega))
          rw [show decide (m < k) = true from by simp; omega]
          have Hdn := Lib.hid (show decide (m < k + 1) = true by simp; omega)
          clear hk hkm
          go_wp2_with (first | (at_builtin; go_loud (refine wpList_append1 rfl (.tmp 36) (.tmp 41) 25 rfl w.heap.size 9 i0 (.string ⟨#[]⟩) 1 16 Tryz.underlying25 Hi.out Hz0.out Hz1.out Hz2.out rfl (by decide) _ _ _ Hown.out rfl [.string ⟨x.toArray⟩] rfl (by simp) rfl (by simp [Value.oneCell']) Hm1.out Hn1.out H0W.out ?_); intro v2 w9 own2 g2 at2; obtain ⟨p2, cap2, hv2, _⟩ := own2.form (Nat.succ_pos _); subst hv2))
          go_roundw
          case rel =>
            refine ⟨k + 1, by have := Hlt.out; omega, by go_num, by rw [Hdn.out], Hn2'.out, ?_, Hb.out.grown g2 H0W.out (fun q e => (World.ownsRow.lt Hown.out q e).1)⟩
            rw [Hnx.out]
            exact ⟨_, by rw [List.length_append]; exact own2, RepRow.snoc (R := RStr) (vs := [.string ⟨x.toArray⟩]) rfl Hrep.out⟩
          case measure => have := Hlt.out; simp [intOf]; omega
      · obtain rfl := eq_of_beq hxs
        clear hxs
        have Hm := Lib.hid (Ix.once_mem x l Hu.out (List.mem_of_getElem? Hx.out))
        go_wp2_with fail
        go_ret
        exact ⟨_, rfl, by rw [Hm.out]; exact HO.out.below Hb.out, .inl rfl, Hb.out⟩
    · have he : k = l.length := by omega
      subst he
      have hn := Hn.out
      rw [List.take_length] at hn
      have Hr := Lib.hid (Hsp.out hn)
      by_cases hml : m < l.length
      · have Ho := Lib.hid (show Ix.outK s l m l.length = l.take m ++ [s] ++ l.drop m by unfold Ix.outK; rw [if_pos hml, List.take_length])
        rw [show decide (m < l.length) = true from decide_eq_true hml]
        clear hn hlt hk hml
        go_wp2_with fail
        go_ret
        exact ⟨_, rfl, by rw [Hr.out, ← Ho.out]; exact HOo.out.lower HB.out, .inr (by rw [Hr.out, ← Ho.out]; exact HOo.out), Hb.out⟩
      · have hme : m = l.length := by have := Hmle.out; omega
        subst hme
        have Ho := Lib.hid (show Ix.outK s l l.length l.length = l by unfold Ix.outK; rw [if_neg (by omega), List.take_length])
        rw [show decide (l.length < l.length) = false from by simp]
        rw [Ho.out] at HOo ⊢
        obtain ⟨fl, hown, hrep⟩ := HOo.out
        have Hown := Lib.hid hown; have Hrep := Lib.hid hrep
        have Hm1 := Lib.hid (show l.length + 1 ≤ maxLen by have := Hl.out; unfold maxLen; omega)
        have Hn1 := Lib.hid (show (l.length + 1) * 16 ≤ 140737488355328 by have := Hl.out; omega)
        have H0W := Lib.hid Hb.out.size
        clear hn hlt hk hml hown hrep
        go_wp2_with (at_builtin; go_loud (refine wpList_append1 rfl (.tmp 45) (.tmp 47) 25 rfl w.heap.size 9 i0 (.string ⟨#[]⟩) 1 16 Tryz.underlying25 Hi.out Hz0.out Hz1.out Hz2.out rfl (by decide) _ _ _ Hown.out rfl [.string ⟨s.toArray⟩] rfl (by simp) rfl (by simp [Value.oneCell']) Hm1.out Hn1.out H0W.out ?_); intro v2 w9 own2 g2 at2; obtain ⟨p2, cap2, hv2, _⟩ := own2.form (Nat.succ_pos _); subst hv2)
        go_ret
        have hfin : OwnL w.heap.size 9 1 RStr w9 (.slice (some ⟨p2, 0, none⟩) (l.length + 1) cap2) (Ix.once Ix.cl s l) := by
          rw [Hr.out, List.take_length, List.drop_length, List.append_nil]
          exact ⟨_, by rw [List.length_append]; exact own2, RepRow.snoc (R := RStr) (vs := [.string ⟨s.toArray⟩]) rfl Hrep.out⟩
        exact ⟨_, rfl, hfin.lower HB.out, .inr hfin, Hb.out.grown g2 H0W.out (fun q e => (World.ownsRow.lt Hown.out q e).1)⟩
end
end Go.Proofs.YthoblbdkmlggbaaGreatDoor
