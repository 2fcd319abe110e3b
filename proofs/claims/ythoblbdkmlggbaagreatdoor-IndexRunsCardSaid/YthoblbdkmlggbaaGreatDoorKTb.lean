/- The walk of stetref19.Pages. The walk of stetref19.subs. -/
import Derived.Test.YthoblbdkmlggbaaGreatDoorKTa
import Derived.Test.YthoblbdkmlggbaaGreatDoorRefA
import Derived.BigQuiet
set_option linter.unusedSimpArgs false
set_option linter.unusedVariables false
namespace Go.Proofs.YthoblbdkmlggbaaGreatDoor
section
open Go.RowKit
theorem ref19_dig (n : Int) (w : World) (h1 : 1 ≤ n) (h2 : n ≤ 999999) : Calls Tryz.prog 39 #[.int .i64 n] w fun e w' => e = .returned (.string ⟨(Ix.dig n).toArray⟩) ∧ Below w.heap.size w w' := by
  obtain ⟨m, hm, hc, hd⟩ := Ix.dig_eq n
  have hc2 : Cnt.cut n = n := by unfold Cnt.cut; (repeat' split) <;> omega
  have hmn : n = (m : Int) := by omega
  rw [hd, hmn]
  exact ref01_digits 6 m w (by omega) (by omega) (by omega)
namespace Ix
theorem join_snoc : ∀ (l : List (List UInt8)) (t : List UInt8), join (l ++ [t]) = if l = [] then t else join l ++ [44, 32] ++ t
  | [], t => rfl
  | [a], t => by simp [join]
  | a :: b :: r, t => by
    have h := join_snoc (b :: r) t
    rw [if_neg (by simp)] at h ⊢
    show a ++ 44 :: 32 :: join (b :: r ++ [t]) = a ++ 44 :: 32 :: join (b :: r) ++ [44, 32] ++ t
    rw [h]
    simp
theorem join_isEmpty (u : List UInt8) (us : List (List UInt8)) (h : u ≠ []) : (join (u :: us)).isEmpty = false := by
  have := join_ne u us h
  cases hj : join (u :: us) with
  | nil => exact absurd hj this
  | cons a r => rfl
end Ix
set_option maxRecDepth 100000 in
set_option maxHeartbeats 3200000 in
theorem ref19_Pages (l : List Int) (v : Value) (S : Nat → Prop) (w : World) (hS : SliceIn S 1 RInt w v l) (hl : l.length ≤ 100000) :
    Calls Tryz.prog 14 #[v] w fun e w' => e = .returned (.string ⟨(Ix.text l).toArray⟩) ∧ Below w.heap.size w w' := by
  have HS := Lib.hid hS; have Hl := Lib.hid hl
  clear hS hl
  go_enter Tryz.func14, Tryz.ntmps14
  go_wp2_with fail
  refine (ref19_rising l v S w HS.out Hl.out).mono ?_
  rintro e w1 ⟨va, rfl, hO, hb1⟩
  have hPl : (Ix.rising [] l).length ≤ 100000 := by have h1 := Ix.rising_length l []; simp at h1; have := Hl.out; omega
  have hPp := Ix.rising_page l
  obtain ⟨P, hP⟩ : ∃ P, P = Ix.rising [] l := ⟨_, rfl⟩
  have htx : Ix.text l = Ix.join (Ix.parts P) := by rw [hP]; rfl
  rw [← hP] at hPl hPp hO
  obtain ⟨pa, ca, rfl⟩ := hO.form
  have SP := Lib.hid (hO.slice RInt.size (fun _ => True) (fun _ _ => trivial))
  have HPl := Lib.hid hPl; have HPp := Lib.hid hPp; have Htx := Lib.hid htx; have B1 := Lib.hid hb1
  clear hPl hPp htx hP hO hb1
  go_wp2_with fail
  go_loopw [4, 5] (fun sv iv wr => ∃ (i : Nat) (done : List (List UInt8)), i ≤ P.length ∧ iv = .int .i64 (i : Int) ∧ sv = .string ⟨(Ix.join done).toArray⟩ ∧ done ++ Ix.parts (P.drop i) = Ix.parts P ∧ (Ix.join done).length ≤ 15 * i ∧ (∀ u ∈ done, u ≠ []) ∧ Below w1.heap.size w1 wr) (fun _ iv _ => P.length - (intOf iv).toNat)
  case atStart => exact ⟨0, [], Nat.zero_le _, rfl, rfl, rfl, by simp [Ix.join], by simp, Below.refl _ _⟩
  case round =>
    obtain ⟨i, done, hi, rfl, rfl, hd, hjl, hdne, hb⟩ := hrel
    have Hd := Lib.hid hd; have Hjl := Lib.hid hjl; have Hb := Lib.hid hb; have Hdne := Lib.hid hdne
    clear hd hjl hb hdne
    by_cases hlt : i < P.length
    · obtain ⟨u, rfl⟩ : ∃ u, u = wr := ⟨_, rfl⟩
      have cell_ : ∀ (q : Nat) (x : Int) (W : World), P[q]? = some x → Below w1.heap.size w1 W → ∃ b off, pa = some ⟨b, off, none⟩ ∧ W.cell? ⟨b, off + q, none⟩ = some (.int .i64 x) := by
        intro q x W hq hbW
        obtain ⟨p', c', hp', _, _, hat⟩ := SP.out
        simp only [Value.slice.injEq] at hp'
        obtain ⟨rfl, -, rfl⟩ := hp'
        obtain ⟨b', off', vs', rfl, _, hbw', hR', hc'⟩ := hat q x hq
        have hR' : vs' = _ := hR'
        subst hR'
        have := (hbW.cell (p := ⟨b', off' + (q * 1 + 0), none⟩) hbw').trans (hc' 0 _ rfl)
        rw [Nat.mul_one, Nat.add_zero] at this
        exact ⟨b', off', rfl, this⟩
      have Cell := Lib.hid cell_; clear cell_
      have hlt' : (i : Int) < (P.length : Int) := by omega
      have Hlt := Lib.hid hlt; clear hlt hi
      obtain ⟨b0, off0, hpa, _⟩ := Cell.out i P[i]! u (by rw [List.getElem!_eq_getElem?_getD, List.getElem?_eq_getElem Hlt.out]; rfl) Hb.out
      subst hpa
      obtain ⟨K, hK⟩ : ∃ K, K = Ix.runLen (P.drop i) := ⟨_, rfl⟩
      have hK1 : 1 ≤ K := by
        rw [hK]
        obtain ⟨h1, h2⟩ : ∃ a r, P.drop i = a :: r := ⟨_, _, List.drop_eq_getElem_cons Hlt.out⟩
        obtain ⟨h2, h3⟩ := h2
        rw [h3]; exact Ix.runLen_pos _ _
      have hKl : i + K ≤ P.length := by
        have h1 := Ix.runLen_le (P.drop i)
        rw [List.length_drop] at h1
        have := Hlt.out
        omega
      have HK := Lib.hid hK; have HK1 := Lib.hid hK1; have HKl := Lib.hid hKl
      clear hK hK1 hKl
      go_upto_block 2 with fail
      go_cut [5] from 16 to 35 (fun jv W => jv = .int .i64 (((i + K - 1 : Nat)) : Int) ∧ Below w1.heap.size w1 W)
      case first =>
        go_wp2_with fail
        go_loopw [5] (fun jv wr => ∃ j : Nat, i ≤ j ∧ j < P.length ∧ jv = .int .i64 (j : Int) ∧ Ix.Run (P.drop i) (j - i + 1) ∧ Below w1.heap.size w1 wr) (fun jv _ => P.length - (intOf jv).toNat)
        case atStart => exact ⟨i, Nat.le_refl _, Hlt.out, rfl, fun q hq => by omega, Hb.out⟩
        case round =>
          obtain ⟨j, hij, hjl, rfl, hrun, hb⟩ := hrel
          have Hrun := Lib.hid hrun; have Hbj := Lib.hid hb; have Hij := Lib.hid hij; have Hjl2 := Lib.hid hjl
          clear hrun hb
          obtain ⟨k2, hk2⟩ : ∃ k2, k2 = j + 1 := ⟨_, rfl⟩
          have hw3 : IntKind.i64.wrap ((j : Int) + 1) = (k2 : Int) := by rw [IntWalk.i64_in _ (by have := HPl.out; omega)]; omega
          have hjI : (j : Int) < (P.length : Int) := by omega
          obtain ⟨y, hy⟩ : ∃ y, P[j]? = some y := ⟨_, List.getElem?_eq_getElem hjl⟩
          obtain ⟨_, _, hpe, e1⟩ := Cell.out j y wr hy Hbj.out
          simp only [Option.some.injEq, Addr.mk.injEq, and_true] at hpe
          obtain ⟨rfl, rfl⟩ := hpe
          have hyb := HPp.out y (List.mem_of_getElem? hy)
          have hw2 : IntKind.i64.wrap (y + 1) = y + 1 := IntWalk.i64_in _ (by omega)
          have hex : ∀ (q : Nat), (P.drop i)[q]! = P[i + q]! := fun q => by
            rw [List.getElem!_eq_getElem?_getD, List.getElem!_eq_getElem?_getD, List.getElem?_drop]
          have hyg : P[j]! = y := by rw [List.getElem!_eq_getElem?_getD, hy]; rfl
          have Hk2 := Lib.hid hk2; have Hy := Lib.hid hy; have Hex := Lib.hid hex; have Hyg := Lib.hid hyg
          clear hk2 hy hex hyg hyb hij hjl
          by_cases hkl : k2 < P.length
          · obtain ⟨x, hx⟩ : ∃ x, P[k2]? = some x := ⟨_, List.getElem?_eq_getElem hkl⟩
            obtain ⟨_, _, hpe, e2⟩ := Cell.out k2 x wr hx Hbj.out
            simp only [Option.some.injEq, Addr.mk.injEq, and_true] at hpe
            obtain ⟨rfl, rfl⟩ := hpe
            have hxg : P[k2]! = x := by rw [List.getElem!_eq_getElem?_getD, hx]; rfl
            have hkI : (k2 : Int) < (P.length : Int) := by omega
            have Hxg := Lib.hid hxg; have Hkl := Lib.hid hkl
            clear hx hxg hkl
            cases hs : (x == y + 1)
            · have hne : x ≠ y + 1 := by simpa using hs
              have hKj := Lib.hid (show i + K - 1 = j by
                have h1 := Ix.runLen_of (P.drop i) (j - i + 1) (by omega) (by rw [List.length_drop]; have := Hij.out; have := Hjl2.out; omega) Hrun.out (.inr (by
                  have h2 := Hij.out
                  have h3 := Hk2.out
                  rw [Hex.out, Hex.out, show i + (j - i + 1) = k2 by omega, show i + (j - i + 1 - 1) = j by omega, Hxg.out, Hyg.out]
                  exact hne))
                have := HK.out
                have := Hij.out
                omega)
              clear hne
              go_upto_region 6 with fail
              go_quiet (fail)
              go_wp2_with fail
              go_meet
              exact ⟨by rw [hKj.out], below_drewN Hbj.out _⟩
            · have hxy := Lib.hid (eq_of_beq hs)
              go_upto_region 6 with fail
              go_quiet (fail)
              go_wp2_with fail
              go_roundw
              case rel =>
                refine ⟨k2, by have := Hk2.out; have := Hij.out; omega, Hkl.out, rfl, fun q hq => ?_, below_drewN Hbj.out _⟩
                have h2 := Hij.out
                have h3 := Hk2.out
                by_cases hqj : q + 1 < j - i + 1
                · exact Hrun.out q hqj
                · rw [Hex.out, Hex.out, show i + (q + 1) = k2 by omega, show i + q = j by omega, Hxg.out, Hyg.out]
                  exact hxy.out
              case measure => have := Hkl.out; have := Hk2.out; simp [intOf]; omega
          · have hKj := Lib.hid (show i + K - 1 = j by
              have h1 := Ix.runLen_of (P.drop i) (j - i + 1) (by omega) (by rw [List.length_drop]; have := Hij.out; have := Hjl2.out; omega) Hrun.out (.inl (by
                rw [List.length_drop]
                have := Hk2.out; have := Hij.out; have := Hjl2.out
                omega))
              have := HK.out
              have := Hij.out
              omega)
            go_upto_region 6 with fail
            go_quiet (fail)
            go_wp2_with fail
            go_meet
            exact ⟨by rw [hKj.out], below_drewN Hbj.out _⟩
      case rest =>
        obtain ⟨rfl, hbc⟩ := hcut
        have Hbc := Lib.hid hbc; clear hbc
        obtain ⟨a, ha⟩ : ∃ a, P[i]? = some a := ⟨_, List.getElem?_eq_getElem Hlt.out⟩
        obtain ⟨_, _, hpe, e1⟩ := Cell.out i a wc ha Hbc.out
        simp only [Option.some.injEq, Addr.mk.injEq, and_true] at hpe
        obtain ⟨rfl, rfl⟩ := hpe
        have Ha1 := Lib.hid (HPp.out a (List.mem_of_getElem? ha))
        have hdr : P.drop i = a :: P.drop (i + 1) := by
          obtain ⟨h1, h2⟩ := List.getElem?_eq_some_iff.1 ha
          rw [List.drop_eq_getElem_cons h1, h2]
        obtain ⟨D, hD⟩ : ∃ D, D = Ix.dig a := ⟨_, rfl⟩
        have HDl := Lib.hid (show D.length ≤ 6 by rw [hD]; exact Ix.dig_length a)
        have HD := Lib.hid hD
        have hK := HK.out; have hK1 := HK1.out; have hKl := HKl.out
        have hi2 : (i : Int) + 2 ≤ 9223372036854775807 := by have := HPl.out; have := Hlt.out; omega
        have hwi : IntKind.i64.wrap ((i : Int) + 2) = (i : Int) + 2 := IntWalk.i64_in _ (by omega)
        clear ha
        by_cases h3 : 3 ≤ K
        · obtain ⟨z, hz⟩ : ∃ z, P[i + K - 1]? = some z := ⟨_, List.getElem?_eq_getElem (by omega)⟩
          have hpr : Ix.parts (P.drop i) = (D ++ 45 :: Ix.dig z) :: Ix.parts (P.drop (i + K - 1 + 1)) := by
            rw [hdr] at hK ⊢
            rw [Ix.parts_run _ _ (by rw [← hK]; exact h3), ← hK, ← hD]
            congr 1
            · congr 3
              rw [← hdr, List.getD_eq_getElem?_getD, List.getElem?_drop, show i + (K - 1) = i + K - 1 by omega, hz]; rfl
            · rw [← hdr, List.drop_drop]; congr 2; omega
          obtain ⟨j2, hj2⟩ : ∃ j2, j2 = i + K - 1 := ⟨_, rfl⟩
          rw [← hj2] at hz hpr ⊢
          obtain ⟨E, hE⟩ : ∃ E, E = Ix.dig z := ⟨_, rfl⟩
          rw [← hE] at hpr
          have HEl := Lib.hid (show E.length ≤ 6 by rw [hE]; exact Ix.dig_length z)
          have HE := Lib.hid hE; have Hz1 := Lib.hid (HPp.out z (List.mem_of_getElem? hz)); have Hz := Lib.hid hz; have Hpr := Lib.hid hpr
          have hge : decide ((j2 : Int) < (i : Int) + 2) = false := decide_eq_false (by omega)
          have Hj2 := Lib.hid (show i + 2 ≤ j2 by omega); have Hj2l := Lib.hid (show j2 < P.length by omega)
          have hj2m : (j2 : Int) + 1 ≤ 9223372036854775807 := by have := HPl.out; omega
          clear hE hz hpr hdr hD hK hK1 hKl h3 hj2
          have hlI := hlt'
          by_cases hd0 : done = []
          · subst hd0
            have hj0 : Ix.join ([] : List (List UInt8)) = [] := rfl
            rw [hj0]
            clear hj0
            go_wp2_with fail
            refine (ref19_dig a _ Ha1.out.1 Ha1.out.2).mono ?_
            rw [← HD.out]
            rintro e wd ⟨rfl, hbd⟩
            have Hbd := Lib.hid (bseq Hbc.out hbd); clear hbd
            obtain ⟨B, hB⟩ : ∃ B, B = D := ⟨_, rfl⟩
            have HBl := Lib.hid (show B.length ≤ 3000000 by rw [hB]; have := HDl.out; omega)
            have hap5 : (⟨#[]⟩ : ByteArray) ++ ⟨D.toArray⟩ = ⟨B.toArray⟩ := by rw [hB]; exact append_data [] D
            have HBe := Lib.hid hB; clear hB
            have hq5 : ¬ 9223372036854775807 < D.length := by have := HDl.out; omega
            obtain ⟨_, _, hpe, ez⟩ := Cell.out j2 z wd Hz.out Hbd.out
            simp only [Option.some.injEq, Addr.mk.injEq, and_true] at hpe
            obtain ⟨rfl, rfl⟩ := hpe
            have hjI : (j2 : Int) < (P.length : Int) := by have := Hj2l.out; omega
            have hji : (i : Int) < (j2 : Int) := by have := Hj2.out; omega
            have hap3 : (⟨#[45]⟩ : ByteArray) ++ ⟨E.toArray⟩ = ⟨([45] ++ E).toArray⟩ := append_data [45] E
            obtain ⟨F, hF⟩ : ∃ F, F = [45] ++ E := ⟨_, rfl⟩
            rw [← hF] at hap3
            have HFl := Lib.hid (show F.length ≤ 7 by rw [hF, List.length_append]; simp; have := HEl.out; omega)
            have HF := Lib.hid hF; clear hF
            have hq3 : ¬ 9223372036854775807 < 1 + E.length := by have := HEl.out; omega
            have hq4 : ¬ 9223372036854775807 < B.length + F.length := by have := HBl.out; have := HFl.out; omega
            have hap4 : (⟨B.toArray⟩ : ByteArray) ++ ⟨F.toArray⟩ = ⟨(B ++ F).toArray⟩ := append_data B F
            go_wp2_with fail
            refine (ref19_dig z _ Hz1.out.1 Hz1.out.2).mono ?_
            rw [← HE.out]
            rintro e we ⟨rfl, hbe⟩
            have Hbe := Lib.hid (bseq Hbd.out hbe); clear hbe
            go_wp2_with fail
            go_roundw
            case rel =>
              refine ⟨j2 + 1, [] ++ [(D ++ 45 :: E)], by have := Hj2l.out; omega, by go_num, ?_, ?_, ?_, ?_, Hbe.out⟩
              · rw [HF.out, HBe.out]; rfl
              · have := Hd.out; rw [Hpr.out] at this; rw [← this, List.append_assoc]; rfl
              · show (Ix.join [(D ++ 45 :: E)]).length ≤ _; show ((D ++ 45 :: E)).length ≤ _; rw [List.length_append, List.length_cons]; have := HDl.out; have := HEl.out; have := Hj2.out; omega
              · intro u hu
                rcases List.mem_append.1 hu with hu | hu
                · simp at hu
                · simp only [List.mem_singleton] at hu; subst hu; simp
            case measure => have := Hlt.out; have := Hj2l.out; have := Hj2.out; simp [intOf]; omega
          · have Hdn := Lib.hid hd0
            have hje0 : (Ix.join done).isEmpty = false := by
              cases done with | nil => exact absurd rfl hd0 | cons u us => exact Ix.join_isEmpty u us (by have := Hdne.out; exact this u (List.mem_cons_self ..))
            obtain ⟨js, hjs⟩ : ∃ js, js = Ix.join done := ⟨_, rfl⟩
            have hjl := Hjl.out
            rw [← hjs] at hjl ⊢
            have hje : js.isEmpty = false := by rw [hjs]; exact hje0
            have hap1 : (⟨js.toArray⟩ : ByteArray) ++ ⟨#[44, 32]⟩ = ⟨(js ++ [44, 32]).toArray⟩ := append_data js [44, 32]
            have hq1 : ¬ 9223372036854775807 < js.length + 2 := by have := HPl.out; have := Hlt.out; omega
            obtain ⟨A, hA⟩ : ∃ A, A = js ++ [44, 32] := ⟨_, rfl⟩
            have hAl : A.length ≤ 2000000 := by rw [hA, List.length_append]; simp; have := HPl.out; have := Hlt.out; omega
            rw [← hA] at hap1
            have Hjs := Lib.hid hjs; have HA := Lib.hid hA; have HAl := Lib.hid hAl
            clear hjs hA hAl hjl hje0 hd0
            have hq2 : ¬ 9223372036854775807 < A.length + D.length := by have := HAl.out; have := HDl.out; omega
            have hap2 : (⟨A.toArray⟩ : ByteArray) ++ ⟨D.toArray⟩ = ⟨(A ++ D).toArray⟩ := append_data A D
            obtain ⟨B, hB⟩ : ∃ B, B = A ++ D := ⟨_, rfl⟩
            rw [← hB] at hap2
            have HBl := Lib.hid (show B.length ≤ 3000000 by rw [hB, List.length_append]; have := HAl.out; have := HDl.out; omega)
            have HBe := Lib.hid hB; clear hB
            go_wp2_with fail
            refine (ref19_dig a _ Ha1.out.1 Ha1.out.2).mono ?_
            rw [← HD.out]
            rintro e wd ⟨rfl, hbd⟩
            have Hbd := Lib.hid (bseq Hbc.out hbd); clear hbd
            obtain ⟨_, _, hpe, ez⟩ := Cell.out j2 z wd Hz.out Hbd.out
            simp only [Option.some.injEq, Addr.mk.injEq, and_true] at hpe
            obtain ⟨rfl, rfl⟩ := hpe
            have hjI : (j2 : Int) < (P.length : Int) := by have := Hj2l.out; omega
            have hji : (i : Int) < (j2 : Int) := by have := Hj2.out; omega
            have hap3 : (⟨#[45]⟩ : ByteArray) ++ ⟨E.toArray⟩ = ⟨([45] ++ E).toArray⟩ := append_data [45] E
            obtain ⟨F, hF⟩ : ∃ F, F = [45] ++ E := ⟨_, rfl⟩
            rw [← hF] at hap3
            have HFl := Lib.hid (show F.length ≤ 7 by rw [hF, List.length_append]; simp; have := HEl.out; omega)
            have HF := Lib.hid hF; clear hF
            have hq3 : ¬ 9223372036854775807 < 1 + E.length := by have := HEl.out; omega
            have hq4 : ¬ 9223372036854775807 < B.length + F.length := by have := HBl.out; have := HFl.out; omega
            have hap4 : (⟨B.toArray⟩ : ByteArray) ++ ⟨F.toArray⟩ = ⟨(B ++ F).toArray⟩ := append_data B F
            go_wp2_with fail
            refine (ref19_dig z _ Hz1.out.1 Hz1.out.2).mono ?_
            rw [← HE.out]
            rintro e we ⟨rfl, hbe⟩
            have Hbe := Lib.hid (bseq Hbd.out hbe); clear hbe
            go_wp2_with fail
            go_roundw
            case rel =>
              refine ⟨j2 + 1, done ++ [(D ++ 45 :: E)], by have := Hj2l.out; omega, by go_num, ?_, ?_, ?_, ?_, Hbe.out⟩
              · rw [Ix.join_snoc, if_neg Hdn.out, HF.out, HBe.out, HA.out, Hjs.out]; simp [List.append_assoc]
              · have := Hd.out; rw [Hpr.out] at this; rw [← this, List.append_assoc]; rfl
              · rw [Ix.join_snoc, if_neg Hdn.out, List.length_append, List.length_append, List.length_append]; have := Hjl.out; have := HDl.out; have := HEl.out; have := Hj2.out; simp only [List.length_cons, List.length_nil]; omega
              · intro u hu
                rcases List.mem_append.1 hu with hu | hu
                · exact Hdne.out u hu
                · simp only [List.mem_singleton] at hu; subst hu; simp
            case measure => have := Hlt.out; have := Hj2l.out; have := Hj2.out; simp [intOf]; omega
        · have hpr : Ix.parts (P.drop i) = D :: Ix.parts (P.drop (i + 1)) := by
            rw [hdr] at hK ⊢
            rw [Ix.parts_one _ _ (by rw [← hK]; exact h3), ← hD]
          obtain ⟨j2, hj2⟩ : ∃ j2, j2 = i + K - 1 := ⟨_, rfl⟩
          rw [← hj2]
          have Hpr := Lib.hid hpr
          have hge : (j2 : Int) < (i : Int) + 2 := by omega
          clear hpr hdr hD hK hK1 hKl h3 hj2
          by_cases hd0 : done = []
          · subst hd0
            have hj0 : Ix.join ([] : List (List UInt8)) = [] := rfl
            rw [hj0]
            clear hj0
            go_wp2_with fail
            refine (ref19_dig a _ Ha1.out.1 Ha1.out.2).mono ?_
            rw [← HD.out]
            rintro e wd ⟨rfl, hbd⟩
            have Hbd := Lib.hid (bseq Hbc.out hbd); clear hbd
            have hap5 : (⟨#[]⟩ : ByteArray) ++ ⟨D.toArray⟩ = ⟨D.toArray⟩ := append_data [] D
            have hq5 : ¬ 9223372036854775807 < D.length := by have := HDl.out; omega
            go_wp2_with fail
            go_roundw
            case rel =>
              refine ⟨i + 1, [] ++ [D], by have := Hlt.out; omega, by go_num, ?_, ?_, ?_, ?_, Hbd.out⟩
              · rfl
              · have := Hd.out; rw [Hpr.out] at this; rw [← this, List.append_assoc]; rfl
              · show (Ix.join [D]).length ≤ _; show (D).length ≤ _; have := HDl.out; omega
              · intro u hu
                rcases List.mem_append.1 hu with hu | hu
                · simp at hu
                · simp only [List.mem_singleton] at hu; subst hu; rw [HD.out]; exact Ix.dig_ne a
            case measure => have := Hlt.out; simp [intOf]; omega
          · have Hdn := Lib.hid hd0
            have hje0 : (Ix.join done).isEmpty = false := by
              cases done with | nil => exact absurd rfl hd0 | cons u us => exact Ix.join_isEmpty u us (by have := Hdne.out; exact this u (List.mem_cons_self ..))
            obtain ⟨js, hjs⟩ : ∃ js, js = Ix.join done := ⟨_, rfl⟩
            have hjl := Hjl.out
            rw [← hjs] at hjl ⊢
            have hje : js.isEmpty = false := by rw [hjs]; exact hje0
            have hap1 : (⟨js.toArray⟩ : ByteArray) ++ ⟨#[44, 32]⟩ = ⟨(js ++ [44, 32]).toArray⟩ := append_data js [44, 32]
            have hq1 : ¬ 9223372036854775807 < js.length + 2 := by have := HPl.out; have := Hlt.out; omega
            obtain ⟨A, hA⟩ : ∃ A, A = js ++ [44, 32] := ⟨_, rfl⟩
            have hAl : A.length ≤ 2000000 := by rw [hA, List.length_append]; simp; have := HPl.out; have := Hlt.out; omega
            rw [← hA] at hap1
            have Hjs := Lib.hid hjs; have HA := Lib.hid hA; have HAl := Lib.hid hAl
            clear hjs hA hAl hjl hje0 hd0
            have hq2 : ¬ 9223372036854775807 < A.length + D.length := by have := HAl.out; have := HDl.out; omega
            have hap2 : (⟨A.toArray⟩ : ByteArray) ++ ⟨D.toArray⟩ = ⟨(A ++ D).toArray⟩ := append_data A D
            obtain ⟨B, hB⟩ : ∃ B, B = A ++ D := ⟨_, rfl⟩
            rw [← hB] at hap2
            have HBl := Lib.hid (show B.length ≤ 3000000 by rw [hB, List.length_append]; have := HAl.out; have := HDl.out; omega)
            have HBe := Lib.hid hB; clear hB
            go_wp2_with fail
            refine (ref19_dig a _ Ha1.out.1 Ha1.out.2).mono ?_
            rw [← HD.out]
            rintro e wd ⟨rfl, hbd⟩
            have Hbd := Lib.hid (bseq Hbc.out hbd); clear hbd
            go_wp2_with fail
            go_roundw
            case rel =>
              refine ⟨i + 1, done ++ [D], by have := Hlt.out; omega, by go_num, ?_, ?_, ?_, ?_, Hbd.out⟩
              · rw [Ix.join_snoc, if_neg Hdn.out]; first | rw [HBe.out, HA.out, Hjs.out] | rw [HA.out, Hjs.out]
              · have := Hd.out; rw [Hpr.out] at this; rw [← this, List.append_assoc]; rfl
              · rw [Ix.join_snoc, if_neg Hdn.out, List.length_append, List.length_append]; have := Hjl.out; have := HDl.out; simp only [List.length_cons, List.length_nil]; omega
              · intro u hu
                rcases List.mem_append.1 hu with hu | hu
                · exact Hdne.out u hu
                · simp only [List.mem_singleton] at hu; subst hu; rw [HD.out]; exact Ix.dig_ne a
            case measure => have := Hlt.out; simp [intOf]; omega
    · have he : i = P.length := by omega
      subst he
      have hd := Hd.out
      rw [List.drop_length, Ix.parts_nil, List.append_nil] at hd
      subst hd
      clear hlt hi
      go_wp2_with fail
      go_ret
      exact ⟨by rw [Htx.out]; simp, B1.out.trans (Hb.out.mono B1.out.size)⟩
end
section
open Go.RowKit
namespace Ix
def namesG (G : List En) (m : List UInt8) : List (List UInt8) := onces cl [] ((G.filter fun x => (cut x.1).2.2 && (cut x.1).1 == m).map fun x => (cut x.1).2.1)
def pagesG (G : List En) (w : List UInt8) : List Int := (G.filter fun x => x.1 == w).map (·.2)
def subLinesG (G : List En) (m : List UInt8) : List (List UInt8) := (namesG G m).map fun s => 32 :: 32 :: s ++ 32 :: text (pagesG G (m ++ 33 :: s))
theorem subLines_eq (l : List En) (m : List UInt8) : subLines l m = subLinesG (good l) m := rfl
theorem onces_snoc (c : List UInt8 → List UInt8 → Int) (x : List UInt8) : ∀ (l a : List (List UInt8)), onces c a (l ++ [x]) = once c x (onces c a l)
  | [], a => rfl
  | y :: r, a => onces_snoc c x r _
theorem namesG_snoc (G : List En) (m : List UInt8) (k : Nat) (x : En) (h : G[k]? = some x) :
    namesG (G.take (k + 1)) m = if (cut x.1).2.2 && (cut x.1).1 == m then once cl (cut x.1).2.1 (namesG (G.take k) m) else namesG (G.take k) m := by
  unfold namesG
  rw [take_snoc G k x h, List.filter_append]
  by_cases hc : ((cut x.1).2.2 && (cut x.1).1 == m) = true
  · rw [if_pos hc, List.filter_cons, if_pos hc, List.map_append]
    exact onces_snoc _ _ _ _
  · rw [if_neg hc, List.filter_cons, if_neg hc]
    simp
theorem pagesG_snoc (G : List En) (w : List UInt8) (k : Nat) (x : En) (h : G[k]? = some x) : pagesG (G.take (k + 1)) w = if x.1 == w then pagesG (G.take k) w ++ [x.2] else pagesG (G.take k) w := by
  unfold pagesG
  rw [take_snoc G k x h, List.filter_append]
  by_cases hc : (x.1 == w) = true
  · rw [if_pos hc, List.filter_cons, if_pos hc, List.map_append]; rfl
  · rw [if_neg hc, List.filter_cons, if_neg hc]; simp
theorem pagesG_len (G : List En) (w : List UInt8) : (pagesG G w).length ≤ G.length := by unfold pagesG; rw [List.length_map]; exact List.length_filter_le _ _
theorem namesG_len (G : List En) (m : List UInt8) : (namesG G m).length ≤ G.length := by
  have h1 := onces_length cl ((G.filter fun x => (cut x.1).2.2 && (cut x.1).1 == m).map fun x => (cut x.1).2.1) []
  rw [List.length_map] at h1
  have h2 := List.length_filter_le (fun x : En => (cut x.1).2.2 && (cut x.1).1 == m) G
  unfold namesG
  simp at h1
  omega
theorem namesG_up (G : List En) (m : List UInt8) : Up cl (namesG G m) := onces_up ordL _ _ (nil_up _)
theorem cut_len2 (w : List UInt8) : (cut w).1.length ≤ w.length ∧ (cut w).2.1.length ≤ w.length := by
  unfold cut
  refine ⟨(List.takeWhile_sublist _).length_le, ?_⟩
  rw [List.length_drop]
  have := (List.dropWhile_sublist (fun c : UInt8 => c != 33) (l := w)).length_le
  omega
theorem namesG_small (G : List En) (m : List UInt8) (n : Nat) (h : ∀ x ∈ G, x.1.length ≤ n) : ∀ s ∈ namesG G m, s.length ≤ n := by
  intro s hs
  unfold namesG at hs
  rw [mem_onces ordL] at hs
  simp only [List.not_mem_nil, false_or, List.mem_map, List.mem_filter] at hs
  obtain ⟨x, ⟨hx, _⟩, rfl⟩ := hs
  have := (cut_len2 x.1).2
  have := h x hx
  omega
end Ix
theorem OwnL.cellT {B g n cap : Nat} {W : World} {c : List (List UInt8)} (h : OwnL B 9 1 RStr W (.slice (some ⟨g, 0, none⟩) n cap) c) {i : Nat} {x : List UInt8} (hx : c[i]? = some x) : W.cell? ⟨g, i, none⟩ = some (.string ⟨x.toArray⟩) := by
  obtain ⟨p, cp, hv, _, _, hat⟩ := OwnL.slice h RStr.size (fun _ => True) (fun _ _ => trivial)
  obtain ⟨b, off, vs, hp, _, _, hR, hc⟩ := hat i x hx
  simp only [Value.slice.injEq] at hv
  obtain ⟨rfl, _, _⟩ := hv
  simp only [Option.some.injEq, Addr.mk.injEq, and_true] at hp
  obtain ⟨rfl, rfl⟩ := hp
  have hR : vs = _ := hR
  subst hR
  have := hc 0 _ rfl
  simpa using this
set_option maxRecDepth 100000 in
set_option maxHeartbeats 6400000 in
theorem ref19_subs (G : List Ix.En) (m : List UInt8) (v : Value) (S : Nat → Prop) (w : World) (hS : SliceIn S 2 REn w v G) (hl : G.length ≤ 10000) (hw : ∀ x ∈ G, x.1.length ≤ 10000) (hm : m.length ≤ 10000) :
    Calls Tryz.prog 31 #[v, .string ⟨m.toArray⟩] w fun e w' => ∃ va, e = .returned va ∧ OwnL w.heap.size 9 1 RStr w' va (Ix.subLinesG G m) ∧ Below w.heap.size w w' := by
  obtain ⟨i0, hi, hz0, hz1, hz2⟩ := info_parts str_info
  have Hi := Lib.hid hi; have Hz0 := Lib.hid hz0; have Hz1 := Lib.hid hz1; have Hz2 := Lib.hid hz2; clear hi hz0 hz1 hz2
  obtain ⟨ii, hii, hj0, hj1, hj2⟩ := info_parts int_info
  have Hii := Lib.hid hii; have Hj0 := Lib.hid hj0; have Hj1 := Lib.hid hj1; have Hj2 := Lib.hid hj2; clear hii hj0 hj1 hj2
  obtain ⟨pa, cap, rfl, hle, hmx, hat⟩ := hS
  have Hat := Lib.hid hat; have Hl := Lib.hid hl; have Hw := Lib.hid hw; have Hm := Lib.hid hm
  clear hat hl hle hmx hw hm
  have hsz1 : (w.alloc (.cells #[] 9)).heap.size = w.heap.size + 1 := by simp
  have O5 := Lib.hid ((OwnL.made w.heap.size 9 1 RStr w (Nat.le_refl _)).below (below_new (w.alloc (.cells #[] 9)) (.cells #[] 9)))
  have O6 := OwnL.made w.heap.size 9 1 RStr (w.alloc (.cells #[] 9)) (by rw [hsz1]; omega)
  rw [hsz1] at O6
  have O6 := Lib.hid O6
  have B0 := Lib.hid ((below_new w (.cells #[] 9)).trans ((below_new (w.alloc (.cells #[] 9)) (.cells #[] 9)).mono (by rw [hsz1]; omega)))
  clear hsz1
  go_enter Tryz.func31, Tryz.ntmps31
  go_wp2_with fail
  go_loopw [5, 7] (fun nv iv wr => ∃ k g c : Nat, k ≤ G.length ∧ iv = .int .i64 (k : Int) ∧ nv = .slice (some ⟨g, 0, none⟩) (Ix.namesG (G.take k) m).length c ∧ g ≠ w.heap.size + 1 ∧ OwnL w.heap.size 9 1 RStr wr nv (Ix.namesG (G.take k) m) ∧ OwnL w.heap.size 9 1 RStr wr (.slice (some ⟨w.heap.size + 1, 0, none⟩) 0 0) [] ∧ Below w.heap.size w wr) (fun _ iv _ => G.length - (intOf iv).toNat)
  case atStart => exact ⟨0, _, _, Nat.zero_le _, rfl, rfl, by omega, O5.out, O6.out, B0.out⟩
  case round =>
    clear O5 O6 B0
    obtain ⟨k, g, c, hk, rfl, rfl, hgn, hO, hO6, hb⟩ := hrel
    have HO := Lib.hid hO; have HO6 := Lib.hid hO6; have Hb := Lib.hid hb; have Hgn := Lib.hid hgn
    clear hO hO6 hb hgn
    by_cases hlt : k < G.length
    · obtain ⟨x, hx⟩ : ∃ x, G[k]? = some x := ⟨_, List.getElem?_eq_getElem hlt⟩
      have hsn := Ix.namesG_snoc G m k x hx
      have hup := Ix.namesG_up (G.take k) m
      have hnl : (Ix.namesG (G.take k) m).length ≤ 10000 := by have := Ix.namesG_len (G.take k) m; rw [List.length_take] at this; have := Hl.out; omega
      have hns := Ix.namesG_small (G.take k) m 10000 (fun y hy => Hw.out y (List.mem_of_mem_take hy))
      obtain ⟨N, hN⟩ : ∃ N, N = Ix.namesG (G.take k) m := ⟨_, rfl⟩
      rw [← hN] at hsn hup hnl hns HO ⊢
      have hxl := Hw.out x (List.mem_of_getElem? hx)
      obtain ⟨b, off, vs, rfl, _, hbw, hR, hc⟩ := Hat.out k x hx
      have hR : vs = _ := hR
      subst hR
      have e0 : wr.cell? ⟨b, off + k * 2, none⟩ = some (.string ⟨x.1.toArray⟩) := (Hb.out.cell (p := ⟨b, off + k * 2, none⟩) hbw).trans (hc 0 _ rfl)
      have hlt' : (k : Int) < (G.length : Int) := by omega
      have hcl := Ix.cut_len2 x.1
      obtain ⟨C, hC⟩ : ∃ C, C = Ix.cut x.1 := ⟨_, rfl⟩
      rw [← hC] at hsn hcl
      have Hsn := Lib.hid hsn; have Hup := Lib.hid hup; have Hnl := Lib.hid hnl; have Hns := Lib.hid hns; have Hx := Lib.hid hx; have Hxl := Lib.hid hxl; have HC := Lib.hid hC; have Hcl := Lib.hid hcl; have Hlt := Lib.hid hlt
      obtain ⟨xw, xp⟩ := x
      simp only at e0 hxl
      clear hsn hup hnl hns hx hC hcl hlt hN hc hbw
      have hkl : (k : Int) + 1 ≤ 9223372036854775807 := by have := Hl.out; have := Hlt.out; omega
      go_wp2_with fail
      refine (ref19_parts xw _ (by omega)).mono ?_
      rw [show Ix.cut xw = C from HC.out.symm]
      rintro e w2 ⟨rfl, hb2⟩
      have Hb2 := Lib.hid (bseq Hb.out hb2)
      have HO2 := Lib.hid (HO.out.below hb2); have HO62 := Lib.hid (HO6.out.below hb2)
      obtain ⟨cm, cs, ci⟩ := C
      clear hb2 HO HO6 Hb e0 hxl
      cases ci with
      | false =>
        have Hst := Lib.hid (show Ix.namesG (G.take (k + 1)) m = N by rw [Hsn.out]; simp)
        go_wp2_with fail
        go_roundw
        case rel => exact ⟨k + 1, g, c, by have := Hlt.out; omega, by go_num, by rw [Hst.out], Hgn.out, by rw [Hst.out]; exact HO2.out, HO62.out, Hb2.out⟩
        case measure => have := Hlt.out; simp [intOf]; omega
      | true =>
        cases hcm : (cm == m) with
        | false =>
          have Hst := Lib.hid (show Ix.namesG (G.take (k + 1)) m = N by rw [Hsn.out]; simp only [hcm]; simp)
          go_wp2_with fail
          go_roundw
          case rel => exact ⟨k + 1, g, c, by have := Hlt.out; omega, by go_num, by rw [Hst.out], Hgn.out, by rw [Hst.out]; exact HO2.out, HO62.out, Hb2.out⟩
          case measure => have := Hlt.out; simp [intOf]; omega
        | true =>
          have Hst := Lib.hid (show Ix.namesG (G.take (k + 1)) m = Ix.once Ix.cl cs N by rw [Hsn.out]; simp only [hcm]; simp)
          obtain rfl := eq_of_beq hcm
          clear hcm
          go_wp2_with fail
          refine (ref19_once N cs _ w.heap.size w2 HO2.out Hb2.out.size Hup.out (by have := Hnl.out; omega) (by have := Hcl.out.2; have := Hxl.out; unfold maxLen; omega) (fun y hy => by have := Hns.out y hy; unfold maxLen; omega)).mono ?_
          rw [← Hst.out]
          rintro e w3 ⟨v3, rfl, hO3, hor, hb3⟩
          have Hb3 := Lib.hid (bseq Hb2.out hb3)
          have HO63 := Lib.hid (HO62.out.below hb3)
          have hv3 : ∃ g3 c3 : Nat, v3 = .slice (some ⟨g3, 0, none⟩) (Ix.namesG (G.take (k + 1)) cm).length c3 ∧ g3 ≠ w.heap.size + 1 := by
            obtain ⟨p3, c3, hf⟩ := hO3.form
            rcases hor with h | h
            · rw [h] at hf
              simp only [Value.slice.injEq] at hf
              exact ⟨g, c, by rw [h, hf.2.1], Hgn.out⟩
            · have hpos : 0 < (Ix.namesG (G.take (k + 1)) cm).length := by
                rw [Hst.out]
                have : cs ∈ Ix.once Ix.cl cs N := (Ix.mem_once Ix.ordL cs cs N).2 (.inl rfl)
                exact List.length_pos_of_mem this
              obtain ⟨fl, hown, _⟩ := h
              obtain ⟨g3, c4, hv, hge, _⟩ := hown.form hpos
              have h1 : w.heap.size + 1 < w2.heap.size := by
                obtain ⟨fl6, hown6, _⟩ := HO62.out
                exact (World.ownsRow.lt hown6 _ rfl).2
              exact ⟨g3, c4, hv, by omega⟩
          obtain ⟨g3, c3, rfl, hg3⟩ := hv3
          have HO3 := Lib.hid hO3; have Hg3 := Lib.hid hg3
          clear hO3 hor hb3 hg3
          go_wp2_with fail
          go_roundw
          case rel => exact ⟨k + 1, g3, c3, by have := Hlt.out; omega, by go_num, rfl, Hg3.out, HO3.out, HO63.out, Hb3.out⟩
          case measure => have := Hlt.out; simp [intOf]; omega
    · have he : k = G.length := by omega
      subst he
      rw [List.take_length] at HO ⊢
      have hnl : (Ix.namesG G m).length ≤ 10000 := by have := Ix.namesG_len G m; have := Hl.out; omega
      have hns := Ix.namesG_small G m 10000 Hw.out
      obtain ⟨N, hN⟩ : ∃ N, N = Ix.namesG G m := ⟨_, rfl⟩
      rw [← hN] at hnl hns HO ⊢
      have hsub : Ix.subLinesG G m = N.map fun s => 32 :: 32 :: s ++ 32 :: Ix.text (Ix.pagesG G (m ++ 33 :: s)) := by rw [hN]; rfl
      have Hnl := Lib.hid hnl; have Hns := Lib.hid hns; have Hsub := Lib.hid hsub
      clear hnl hns hN hsub hlt hk
      go_wp2_with fail
      go_loopw [6, 11] (fun ov iv wr => ∃ k h ch : Nat, k ≤ N.length ∧ iv = .int .i64 (k : Int) ∧ ov = .slice (some ⟨h, 0, none⟩) k ch ∧ h ≠ g ∧ OwnL w.heap.size 9 1 RStr wr ov ((Ix.subLinesG G m).take k) ∧ OwnL w.heap.size 9 1 RStr wr (.slice (some ⟨g, 0, none⟩) N.length c) N ∧ Below w.heap.size w wr) (fun _ iv _ => N.length - (intOf iv).toNat)
      case atStart => exact ⟨0, _, _, Nat.zero_le _, rfl, rfl, fun e => Hgn.out e.symm, HO6.out, HO.out, Hb.out⟩
      case round =>
        clear HO HO6 Hb Hgn
        obtain ⟨k, h, ch, hk, rfl, rfl, hhg, hO6, hO, hb⟩ := hrel
        have HO := Lib.hid hO; have HO6 := Lib.hid hO6; have Hb := Lib.hid hb; have Hhg := Lib.hid hhg
        clear hO hO6 hb hhg
        by_cases hlt : k < N.length
        · obtain ⟨s, hs⟩ : ∃ s, N[k]? = some s := ⟨_, List.getElem?_eq_getElem hlt⟩
          have hsl := Hns.out s (List.mem_of_getElem? hs)
          have hsub1 : (Ix.subLinesG G m).take (k + 1) = (Ix.subLinesG G m).take k ++ [32 :: 32 :: s ++ 32 :: Ix.text (Ix.pagesG G (m ++ 33 :: s))] := by
            refine Ix.take_snoc _ k _ ?_
            rw [Hsub.out, List.getElem?_map, hs]; rfl
          have hlt' : (k : Int) < (N.length : Int) := by omega
          obtain ⟨T, hT⟩ : ∃ T, T = (Ix.subLinesG G m).take k := ⟨_, rfl⟩
          have hTl : T.length = k := by rw [hT, List.length_take, Hsub.out, List.length_map]; omega
          rw [← hT] at HO6 hsub1
          obtain ⟨M, hM⟩ : ∃ M, M = m ++ 33 :: s := ⟨_, rfl⟩
          rw [← hM] at hsub1
          have hMl : M.length ≤ 20001 := by rw [hM, List.length_append, List.length_cons]; have := Hm.out; omega
          have U0 := Lib.hid (OwnL.made wr.heap.size 3 1 RInt wr (Nat.le_refl _))
          have UB := Lib.hid (below_new wr (.cells #[] 3))
          have Hs := Lib.hid hs; have Hsl := Lib.hid hsl; have Hsub1 := Lib.hid hsub1; have HTl := Lib.hid hTl; have HM := Lib.hid hM; have HMl := Lib.hid hMl; have Hlt := Lib.hid hlt
          clear hs hsl hsub1 hT hTl hM hMl hlt
          obtain ⟨u, rfl⟩ : ∃ u, u = wr := ⟨_, rfl⟩
          go_wp2_with fail
          go_loopw [12, 13] (fun pv jv wr => ∃ j : Nat, j ≤ G.length ∧ jv = .int .i64 (j : Int) ∧ OwnL u.heap.size 3 1 RInt wr pv (Ix.pagesG (G.take j) M) ∧ Below u.heap.size u wr) (fun _ jv _ => G.length - (intOf jv).toNat)
          case atStart => exact ⟨0, Nat.zero_le _, rfl, U0.out, UB.out⟩
          case round =>
            clear U0 UB
            obtain ⟨j, hj, rfl, hP, hbz⟩ := hrel
            obtain ⟨pp, cp, rfl⟩ := hP.form
            have HP := Lib.hid hP; have Hbz := Lib.hid hbz
            clear hP hbz
            have en_ : ∀ W, Below u.heap.size u W → W.cell? ⟨g, k, none⟩ = some (.string ⟨s.toArray⟩) := by
              intro W hW
              have h1 := OwnL.cellT (OwnL.below HO.out hW) Hs.out
              exact h1
            have En := Lib.hid en_; clear en_
            by_cases hjl : j < G.length
            · obtain ⟨y, hy⟩ : ∃ y, G[j]? = some y := ⟨_, List.getElem?_eq_getElem hjl⟩
              have hsn := Ix.pagesG_snoc G M j y hy
              have hpl : (Ix.pagesG (G.take j) M).length ≤ 10000 := by have := Ix.pagesG_len (G.take j) M; rw [List.length_take] at this; have := Hl.out; omega
              obtain ⟨P, hPe⟩ : ∃ P, P = Ix.pagesG (G.take j) M := ⟨_, rfl⟩
              rw [← hPe] at hsn hpl HP ⊢
              obtain ⟨b, off, vs, rfl, _, hbw, hR, hc⟩ := Hat.out j y hy
              have hR : vs = _ := hR
              subst hR
              obtain ⟨yw, yp⟩ := y
              have cc_ : ∀ W, Below u.heap.size u W → W.cell? ⟨b, off + j * 2, none⟩ = some (.string ⟨yw.toArray⟩) ∧ W.cell? ⟨b, off + j * 2 + 1, none⟩ = some (.int .i64 yp) := by
                intro W hW
                have h1 := bseq Hb.out hW
                exact ⟨(h1.cell (p := ⟨b, off + j * 2, none⟩) hbw).trans (hc 0 _ rfl), (h1.cell (p := ⟨b, off + j * 2 + 1, none⟩) hbw).trans (hc 1 _ rfl)⟩
              have Cc := Lib.hid cc_; clear cc_
              have hjG : (j : Int) < (G.length : Int) := by omega
              have Hsn := Lib.hid hsn; have Hpl := Lib.hid hpl; have Hjl := Lib.hid hjl
              clear hsn hpl hc hbw hy hPe hjl
              have e0 := (Cc.out wr Hbz.out).1
              have en := En.out wr Hbz.out
              have hq1 : ¬ 9223372036854775807 < m.length + 1 := by have := Hm.out; omega
              have hap1 : (⟨m.toArray⟩ : ByteArray) ++ ⟨#[33]⟩ = ⟨(m ++ [33]).toArray⟩ := append_data m [33]
              obtain ⟨m1, hm1⟩ : ∃ m1, m1 = m ++ [33] := ⟨_, rfl⟩
              have hq2 : ¬ 9223372036854775807 < m1.length + s.length := by rw [hm1, List.length_append]; simp; have := Hm.out; have := Hsl.out; omega
              have hap2 : (⟨m1.toArray⟩ : ByteArray) ++ ⟨s.toArray⟩ = ⟨M.toArray⟩ := by rw [append_data, hm1, HM.out]; simp
              rw [← hm1] at hap1
              have Hm1 := Lib.hid hm1; clear hm1
              obtain ⟨bb, hbb⟩ : ∃ bb, (yw == M) = bb := ⟨_, rfl⟩
              go_upto_region 15 with fail
              go_cut [66] from 54 to 66 (fun v W => v = .bool bb ∧ Below wr.heap.size wr W)
              case first =>
                go_quiet (fail)
                go_wp2_with fail
                go_meet
                exact ⟨by first | rfl | rw [← hbb] | simp [← hbb], below_drewN (Below.refl _ _) _⟩
              case rest =>
                obtain ⟨rfl, hbc⟩ := hcut
                have Hbc := Lib.hid (bseq Hbz.out hbc)
                obtain ⟨fl, hown, hrep⟩ := HP.out.below hbc
                have Hown := Lib.hid hown; have Hrep := Lib.hid hrep
                clear hbc e0 en hown hrep hap1 hap2 hq1 hq2
                have hjk : (j : Int) + 1 ≤ 9223372036854775807 := by have := Hl.out; have := Hjl.out; omega
                cases bb with
                | false =>
                  have Hst := Lib.hid (show Ix.pagesG (G.take (j + 1)) M = P by rw [Hsn.out]; simp only [hbb]; simp)
                  clear hbb
                  go_wp2_with fail
                  go_roundw
                  case rel => exact ⟨j + 1, by have := Hjl.out; omega, by go_num, by rw [Hst.out]; exact ⟨_, Hown.out, Hrep.out⟩, Hbc.out⟩
                  case measure => have := Hjl.out; simp [intOf]; omega
                | true =>
                  have Hst := Lib.hid (show Ix.pagesG (G.take (j + 1)) M = P ++ [yp] by rw [Hsn.out]; simp only [hbb]; simp)
                  clear hbb
                  have e1 := (Cc.out wc Hbc.out).2
                  have Hm1 := Lib.hid (show P.length + 1 ≤ maxLen by have := Hpl.out; unfold maxLen; omega)
                  have Hn1 := Lib.hid (show (P.length + 1) * 8 ≤ 140737488355328 by have := Hpl.out; omega)
                  have H0W := Lib.hid Hbc.out.size
                  go_wp2_with (at_builtin; go_loud (refine wpList_append1 rfl (.tmp 67) (.tmp 73) 22 rfl u.heap.size 3 ii (.int .i64 0) 1 8 Tryz.underlying22 Hii.out Hj0.out Hj1.out Hj2.out rfl (by decide) _ _ _ Hown.out rfl [.int .i64 yp] rfl (by simp) rfl (by simp [Value.oneCell']) Hm1.out Hn1.out H0W.out ?_); intro v2 w9 own2 g2 at2; obtain ⟨p2, cap2, hv2, _⟩ := own2.form (Nat.succ_pos _); subst hv2)
                  go_roundw
                  case rel =>
                    refine ⟨j + 1, by have := Hjl.out; omega, by go_num, ?_, Hbc.out.grown g2 H0W.out (fun q e => (World.ownsRow.lt Hown.out q e).1)⟩
                    rw [Hst.out]
                    exact ⟨_, by rw [List.length_append]; exact own2, RepRow.snoc (R := RInt) (vs := [.int .i64 yp]) rfl Hrep.out⟩
                  case measure => have := Hjl.out; simp [intOf]; omega
            · have he : j = G.length := by omega
              subst he
              rw [List.take_length] at HP ⊢
              have hpl := Ix.pagesG_len G M
              have hP2 := HP.out.slice RInt.size (fun _ => True) (fun _ _ => trivial)
              obtain ⟨P, hPe⟩ : ∃ P, P = Ix.pagesG G M := ⟨_, rfl⟩
              rw [← hPe] at hpl hP2 Hsub1 ⊢
              have hpt := Ix.text_length P
              obtain ⟨X, hX⟩ : ∃ X, X = Ix.text P := ⟨_, rfl⟩
              rw [← hX] at hpt Hsub1
              have hwt := HO.out.below Hbz.out
              have hw6 := HO6.out.below Hbz.out
              have HX := Lib.hid hX; have HP2 := Lib.hid hP2; have HXl := Lib.hid (show X.length ≤ 300000 by have := Hl.out; omega); have HPl := Lib.hid (show P.length ≤ 100000 by have := Hl.out; omega)
              clear hpl hPe hP2 hpt hX HP hj hjl
              obtain ⟨fl, hown, hrep⟩ := hw6
              rw [HTl.out] at hown
              have hap1 : (⟨#[32, 32]⟩ : ByteArray) ++ ⟨s.toArray⟩ = ⟨([32, 32] ++ s).toArray⟩ := append_data [32, 32] s
              obtain ⟨A, hA⟩ : ∃ A, A = [32, 32] ++ s := ⟨_, rfl⟩
              have hap2 : (⟨A.toArray⟩ : ByteArray) ++ ⟨#[32]⟩ = ⟨(A ++ [32]).toArray⟩ := append_data A [32]
              obtain ⟨B, hB⟩ : ∃ B, B = A ++ [32] := ⟨_, rfl⟩
              have hap3 : (⟨B.toArray⟩ : ByteArray) ++ ⟨X.toArray⟩ = ⟨(B ++ X).toArray⟩ := append_data B X
              obtain ⟨D, hD⟩ : ∃ D, D = B ++ X := ⟨_, rfl⟩
              have hAl : A.length = s.length + 2 := by rw [hA]; simp
              have hBl : B.length = s.length + 3 := by rw [hB, List.length_append, hAl]; simp
              have hq1 : ¬ 9223372036854775807 < 2 + s.length := by have := Hsl.out; omega
              have hq2 : ¬ 9223372036854775807 < A.length + 1 := by have := Hsl.out; omega
              have hq3 : ¬ 9223372036854775807 < B.length + X.length := by have := Hsl.out; have := HXl.out; omega
              rw [← hA] at hap1; rw [← hB] at hap2; rw [← hD] at hap3
              have HDe := Lib.hid (show D = 32 :: 32 :: s ++ 32 :: X by rw [hD, hB, hA]; simp)
              have Hown := Lib.hid hown; have Hrep := Lib.hid hrep; have HOn := Lib.hid hwt
              have Hm1 := Lib.hid (show k + 1 ≤ maxLen by have := Hnl.out; have := Hlt.out; unfold maxLen; omega)
              have Hn1 := Lib.hid (show (k + 1) * 16 ≤ 140737488355328 by have := Hnl.out; have := Hlt.out; omega)
              have H0W := Lib.hid (show w.heap.size ≤ wr.heap.size by have := Hb.out.size; have := Hbz.out.size; omega)
              clear hA hB hD hAl hBl hown hrep hwt
              have hkl : (k : Int) + 1 ≤ 9223372036854775807 := by have := Hnl.out; have := Hlt.out; omega
              go_upto_region 17 with fail
              refine wp_region_any (by kernel_rfl) ?_
              change wpAny _ _ _ _ _ _ _ (World.drew _)
              have hdr : Below wr.heap.size wr wr.drew := (Below.refl _ _).drew
              have HOW := Lib.hid (own_below9 Hown.out hdr)
              have HON := Lib.hid (HOn.out.below hdr)
              have HPD := Lib.hid (SliceIn.below2 HP2.out hdr)
              have HBd := Lib.hid (bseq Hbz.out hdr)
              have H0D := Lib.hid (Nat.le_trans H0W.out hdr.size)
              have F0 := Lib.hid (En.out _ HBd.out)
              clear Hown HOn HP2 hdr H0W
              generalize wr.drew = wd' at *
              refine wpAny_of_held (S := fun W => W.cell? ⟨g, k, none⟩ = some (.string ⟨s.toArray⟩)) _ _ _ _ ?_
              have hS1 : (fun W : World => W.cell? ⟨g, k, none⟩ = some (.string ⟨s.toArray⟩)) wd' := F0.out
              dsimp only at hS1
              refine wpAnyH_take (i := 0) (v := .slice (some ⟨h, 0, none⟩) k ch) rfl (by kernel_rfl) (by kernel_rfl) (by kernel_rfl) (fun _ _ _ h => h) (Or.inl ⟨by kernel_rfl, fun W hW => by kernel_rfl⟩) (by assumption) ?_
              try simp only [Act.put, List.getElem_toArray, List.getElem_cons_zero, List.getElem_cons_succ, List.setIfInBounds_toArray, List.set_cons_zero, List.set_cons_succ]
              refine wpAnyH_take (i := 1) (v := .slice (some ⟨g, 0, none⟩) N.length c) rfl (by kernel_rfl) (by kernel_rfl) (by kernel_rfl) (fun _ _ _ h => h) (Or.inl ⟨by kernel_rfl, fun W hW => by kernel_rfl⟩) (by assumption) ?_
              try simp only [Act.put, List.getElem_toArray, List.getElem_cons_zero, List.getElem_cons_succ, List.setIfInBounds_toArray, List.set_cons_zero, List.set_cons_succ]
              refine wpAnyH_take (i := 2) (v := .int .i64 (k : Int)) rfl (by kernel_rfl) (by kernel_rfl) (by kernel_rfl) (fun _ _ _ h => h) (Or.inl ⟨by kernel_rfl, fun W hW => by kernel_rfl⟩) (by assumption) ?_
              try simp only [Act.put, List.getElem_toArray, List.getElem_cons_zero, List.getElem_cons_succ, List.setIfInBounds_toArray, List.set_cons_zero, List.set_cons_succ]
              refine wpAnyH_take (i := 3) (v := .pointer (some ⟨g, k, none⟩)) rfl (by kernel_rfl) (by kernel_rfl) (by kernel_rfl) (fun _ _ _ h => h) (Or.inl ⟨by kernel_rfl, fun W hW => by go_simp⟩) (by assumption) ?_
              try simp only [Act.put, List.getElem_toArray, List.getElem_cons_zero, List.getElem_cons_succ, List.setIfInBounds_toArray, List.set_cons_zero, List.set_cons_succ]
              refine wpAnyH_take (i := 4) (v := .string ⟨s.toArray⟩) rfl (by kernel_rfl) (by kernel_rfl) (by kernel_rfl) (fun _ _ _ h => h) (Or.inl ⟨by kernel_rfl, fun W hW => by (have hW := hW; go_simp)⟩) (by assumption) ?_
              try simp only [Act.put, List.getElem_toArray, List.getElem_cons_zero, List.getElem_cons_succ, List.setIfInBounds_toArray, List.set_cons_zero, List.set_cons_succ]
              refine wpAnyH_take (i := 5) (v := .string ⟨A.toArray⟩) rfl (by kernel_rfl) (by kernel_rfl) (by kernel_rfl) (fun _ _ _ h => h) (Or.inl ⟨by kernel_rfl, fun W hW => by go_simp⟩) (by assumption) ?_
              try simp only [Act.put, List.getElem_toArray, List.getElem_cons_zero, List.getElem_cons_succ, List.setIfInBounds_toArray, List.set_cons_zero, List.set_cons_succ]
              refine wpAnyH_take (i := 6) (v := .string ⟨B.toArray⟩) rfl (by kernel_rfl) (by kernel_rfl) (by kernel_rfl) (fun _ _ _ h => h) (Or.inl ⟨by kernel_rfl, fun W hW => by go_simp⟩) (by assumption) ?_
              try simp only [Act.put, List.getElem_toArray, List.getElem_cons_zero, List.getElem_cons_succ, List.setIfInBounds_toArray, List.set_cons_zero, List.set_cons_succ]
              refine wpAnyH_take (i := 7) (v := .slice pp P.length cp) rfl (by kernel_rfl) (by kernel_rfl) (by kernel_rfl) (fun _ _ _ h => h) (Or.inl ⟨by kernel_rfl, fun W hW => by kernel_rfl⟩) (by assumption) ?_
              try simp only [Act.put, List.getElem_toArray, List.getElem_cons_zero, List.getElem_cons_succ, List.setIfInBounds_toArray, List.set_cons_zero, List.set_cons_succ]
              refine wpAnyH_ready (rs := [8]) (by kernel_rfl) (by simp) ?_
              refine AllReadyH.cons rfl (fun K hK => ?_) AllReadyH.nil
              go_simp
              go_wp2_with (go_at_call 14; refine (ref19_Pages P _ _ _ HPD.out HPl.out).mono ?_; rw [← HX.out]; rintro e wq1 ⟨rfl, hq⟩; have Hq := Lib.hid hq; clear hq)
              refine hK.out _ _ (En.out _ (bseq HBd.out Hq.out)) (fun _ => ?_)
              clear K hK
              try simp only [Act.put, List.getElem_toArray, List.getElem_cons_zero, List.getElem_cons_succ, List.setIfInBounds_toArray, List.set_cons_zero, List.set_cons_succ]
              refine wpAnyH_take (i := 9) (v := .string ⟨D.toArray⟩) rfl (by kernel_rfl) (by kernel_rfl) (by kernel_rfl) (fun _ _ _ h => h) (Or.inl ⟨by kernel_rfl, fun W hW => by go_simp⟩) (by assumption) ?_
              try simp only [Act.put, List.getElem_toArray, List.getElem_cons_zero, List.getElem_cons_succ, List.setIfInBounds_toArray, List.set_cons_zero, List.set_cons_succ]
              have HOW1 := Lib.hid (own_below9 HOW.out Hq.out)
              have H0Q := Lib.hid (Nat.le_trans H0D.out Hq.out.size)
              refine wpAnyH_ready (rs := [10]) (by kernel_rfl) (by simp) ?_
              refine AllReadyH.cons rfl (fun K hK => ?_) AllReadyH.nil
              go_simp
              have hbn := below_new wq1 (.cells #[.string ⟨D.toArray⟩] 9)
              refine hK.out _ _ (En.out _ (bseq (bseq HBd.out Hq.out) hbn)) (fun _ => ?_)
              clear K hK
              try simp only [Act.put, List.getElem_toArray, List.getElem_cons_zero, List.getElem_cons_succ, List.setIfInBounds_toArray, List.set_cons_zero, List.set_cons_succ]
              refine wpAnyH_ready (rs := [11]) (by kernel_rfl) (by simp) ?_
              refine AllReadyH.cons rfl (fun K hK => ?_) AllReadyH.nil
              try rw [if_pos (by rfl)]
              refine op_append1 (.tmp 75) (.tmp 85) 25 rfl w.heap.size 9 i0 (.string ⟨#[]⟩) 1 16 Tryz.underlying25 Hi.out Hz0.out Hz1.out Hz2.out rfl (by decide) _ _ _ HOW1.out rfl [.string ⟨D.toArray⟩] rfl rfl rfl (by simp [Value.oneCell']) Hm1.out Hn1.out H0Q.out ?_
              intro v2 w2 own2 g2 at2
              obtain ⟨p2, cap2, hv2, _⟩ := own2.form (Nat.succ_pos _)
              subst hv2
              have hON2 : OwnL w.heap.size 9 1 RStr w2 (.slice (some ⟨g, 0, none⟩) N.length c) N := by
                obtain ⟨fn, h1, h2⟩ := HON.out.below Hq.out
                exact ⟨fn, h1.kept g2 (.inr (fun e => Hhg.out (by simpa [Value.ownBlock] using e.symm))), h2⟩
              have HON2 := Lib.hid hON2; clear hON2
              have HB9 := Lib.hid ((bseq Hb.out (bseq HBd.out Hq.out)).grown g2 H0Q.out (fun q e => (World.ownsRow.lt HOW1.out q e).1))
              have hgl := Lib.hid (OwnL.cellT HON2.out Hs.out)
              have hp2 := Lib.hid (show p2 ≠ g by
                have hgs : g < wq1.heap.size := by obtain ⟨fn, h1, _⟩ := HON.out.below Hq.out; exact (World.ownsRow.lt h1 g rfl).2
                rcases at2 with h | h
                · simp only [Value.ownBlock, Option.some.injEq] at h; rw [h]; exact Hhg.out
                · simp only [Value.ownBlock, Option.some.injEq] at h; omega)
              refine hK.out _ _ hgl.out (fun _ => ?_)
              clear K hK
              try simp only [Act.put, List.getElem_toArray, List.getElem_cons_zero, List.getElem_cons_succ, List.setIfInBounds_toArray, List.set_cons_zero, List.set_cons_succ]
              refine wpAnyH_take (i := 12) (v := .slice (some ⟨p2, 0, none⟩) (k + 1) cap2) rfl (by kernel_rfl) (by kernel_rfl) (by kernel_rfl) (fun _ _ _ h => h) (Or.inl ⟨by kernel_rfl, fun W hW => by kernel_rfl⟩) (by assumption) ?_
              try simp only [Act.put, List.getElem_toArray, List.getElem_cons_zero, List.getElem_cons_succ, List.setIfInBounds_toArray, List.set_cons_zero, List.set_cons_succ]
              refine wpAnyH_done (by kernel_rfl) ?_ _
              clear hS1 hbn
              go_wp2_with fail
              go_roundw
              case rel =>
                refine ⟨k + 1, p2, cap2, by have := Hlt.out; omega, by go_num, rfl, hp2.out, ?_, HON2.out, HB9.out⟩
                rw [Hsub1.out, ← HDe.out]
                exact ⟨_, by rw [List.length_append, HTl.out]; exact own2, RepRow.snoc (R := RStr) (vs := [.string ⟨D.toArray⟩]) rfl Hrep.out⟩
              case measure => have := Hlt.out; simp [intOf]; omega
        · have he : k = N.length := by omega
          subst he
          have hall : (Ix.subLinesG G m).take N.length = Ix.subLinesG G m := List.take_of_length_le (by rw [Hsub.out, List.length_map]; exact Nat.le_refl _)
          rw [hall] at HO6
          clear hall hlt hk
          go_wp2_with fail
          go_ret
          exact ⟨_, rfl, HO6.out, Hb.out⟩
end
end Go.Proofs.YthoblbdkmlggbaaGreatDoor
