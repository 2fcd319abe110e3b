/- The walk of stetref15.Same. -/
import Derived.Test.YtanbcokkfbidbaaGreatDoorNotesW
namespace Go.Proofs.YtanbcokkfbidbaaGreatDoor
open Go.RowKit
instance : DecidableEq Ent.Fld := fun a b => decidable_of_iff (a.name = b.name ∧ a.text = b.text) ⟨fun ⟨h1, h2⟩ => by cases a; cases b; simp_all, fun h => by rw [h]; exact ⟨rfl, rfl⟩⟩
instance : DecidableEq Ent.Ent := fun a b => decidable_of_iff (a.kind = b.kind ∧ a.key = b.key ∧ a.fields = b.fields) ⟨fun ⟨h1, h2, h3⟩ => by cases a; cases b; simp_all, fun h => by rw [h]; exact ⟨rfl, rfl, rfl⟩⟩

set_option maxRecDepth 100000 in
set_option maxHeartbeats 3200000 in
theorem ref15_same (A B : List Ent.Ent) (va vb : Value) (S S' : Nat → Prop) (w : World) (hA : Ents S w va A) (hB : Ents S' w vb B) :
    Calls Tryz.prog 11 #[va, vb] w fun e w' => e = .returned (.bool (decide (A = B))) ∧ Below w.heap.size w w' := by
  obtain ⟨p, cap, rfl, hle, hm, hat⟩ := hA
  obtain ⟨p2, cap2, rfl, hle2, hm2, hat2⟩ := hB
  have hAm : A.length ≤ 9223372036854775807 := by unfold maxLen at hm; omega
  have hBm : B.length ≤ 9223372036854775807 := by unfold maxLen at hm2; omega
  have Hat := Lib.hid hat; have Hat2 := Lib.hid hat2; clear hat hm hle hat2 hm2 hle2
  by_cases hl : A.length = B.length
  · have hl' : ((A.length : Int) != (B.length : Int)) = false := by simp [hl]
    have Hl := Lib.hid hl; clear hl
    go_enter Tryz.func11, Tryz.ntmps11
    go_wp2_with fail
    go_loopw [5] (fun i wr => ∃ k : Nat, k ≤ A.length ∧ i = .int .i64 (k : Int) ∧ A.take k = B.take k ∧ Below w.heap.size w wr) (fun i _ => A.length - (intOf i).toNat)
    case atStart => exact ⟨0, Nat.zero_le _, rfl, rfl, Below.refl _ _⟩
    case round =>
      obtain ⟨k, hk, rfl, ht, hb⟩ := hrel
      have Ht := Lib.hid ht; have Hb := Lib.hid hb; clear ht hb
      by_cases hlt : k < A.length
      · obtain ⟨x, hx⟩ : ∃ x, A[k]? = some x := ⟨_, List.getElem?_eq_getElem hlt⟩
        have hlt2 : k < B.length := by have := Hl.out; omega
        obtain ⟨y, hy⟩ : ∃ y, B[k]? = some y := ⟨_, List.getElem?_eq_getElem hlt2⟩
        obtain ⟨b, off, vs, rfl, _, hbw, hR, hc⟩ := Hat.out k x hx
        obtain ⟨b2, off2, vs2, rfl, _, hbw2, hR2, hc2⟩ := Hat2.out k y hy
        obtain ⟨vf, rfl, hF⟩ := hR
        obtain ⟨vf2, rfl, hF2⟩ := hR2
        obtain ⟨pf, cf, rfl, hFr⟩ := hF
        obtain ⟨pf2, cf2, rfl, hFr2⟩ := hF2
        have e0 : wr.cell? ⟨b, off + k * 3, none⟩ = some (.string ⟨x.kind.toArray⟩) := (Hb.out.cell (p := ⟨b, off + k * 3, none⟩) hbw).trans (hc 0 _ rfl)
        have e1 : wr.cell? ⟨b, off + k * 3 + 1, none⟩ = some (.string ⟨x.key.toArray⟩) := (Hb.out.cell (p := ⟨b, off + k * 3 + 1, none⟩) hbw).trans (hc 1 _ rfl)
        have e2 : wr.cell? ⟨b, off + k * 3 + 2, none⟩ = some (.slice pf x.fields.length cf) := (Hb.out.cell (p := ⟨b, off + k * 3 + 2, none⟩) hbw).trans (hc 2 _ rfl)
        have e3 : wr.cell? ⟨b2, off2 + k * 3, none⟩ = some (.string ⟨y.kind.toArray⟩) := (Hb.out.cell (p := ⟨b2, off2 + k * 3, none⟩) hbw2).trans (hc2 0 _ rfl)
        have e4 : wr.cell? ⟨b2, off2 + k * 3 + 1, none⟩ = some (.string ⟨y.key.toArray⟩) := (Hb.out.cell (p := ⟨b2, off2 + k * 3 + 1, none⟩) hbw2).trans (hc2 1 _ rfl)
        have e5 : wr.cell? ⟨b2, off2 + k * 3 + 2, none⟩ = some (.slice pf2 y.fields.length cf2) := (Hb.out.cell (p := ⟨b2, off2 + k * 3 + 2, none⟩) hbw2).trans (hc2 2 _ rfl)
        have hlt' : (k : Int) < (A.length : Int) := by omega
        have hlt2' : (k : Int) < (B.length : Int) := by omega
        have hkl : (k : Int) + 1 ≤ 9223372036854775807 := by omega
        have Hx := Lib.hid hx; have Hy := Lib.hid hy; have HFr := Lib.hid hFr; have HFr2 := Lib.hid hFr2
        have hneq : x ≠ y → decide (A = B) = false := fun h => by
          simp; intro h2
          have h1 := Hx.out; rw [h2, Hy.out] at h1; injection h1 with h1; exact h h1.symm
        have Hneq := Lib.hid hneq
        clear hc hc2 hx hy hFr hFr2 hneq
        obtain ⟨xk, xy, xf⟩ := x
        obtain ⟨yk, yy, yf⟩ := y
        dsimp only at e0 e1 e2 e3 e4 e5
        cases hs : (xk == yk)
        · have Hne := Lib.hid (Hneq.out (fun h => by injection h with h; rw [h] at hs; simp at hs))
          go_wp2_with fail
          go_quiet (fail)
          go_wp2_with fail
          go_ret
          exact ⟨ret_bool Hne.out.symm, below_drewN Hb.out _⟩
        · obtain rfl := eq_of_beq hs
          clear hs
          cases hs : (xy == yy)
          · have Hne := Lib.hid (Hneq.out (fun h => by injection h with _ h; rw [h] at hs; simp at hs))
            go_wp2_with fail
            go_quiet (fail)
            go_wp2_with fail
            go_ret
            exact ⟨ret_bool Hne.out.symm, below_drewN Hb.out _⟩
          · obtain rfl := eq_of_beq hs
            clear hs
            by_cases hfl : xf.length = yf.length
            · have hfl' : ((xf.length : Int) != (yf.length : Int)) = false := by simp [hfl]
              have Hfl := Lib.hid hfl
              have hxm : xf.length ≤ 9223372036854775807 := by have := HFr.out; unfold maxLen at this; exact Nat.le_trans this.1 this.2.1
              have hym : yf.length ≤ 9223372036854775807 := by omega
              go_wp2_with fail
              go_quiet (fail)
              clear hfl hfl'
              obtain ⟨wq, hwq⟩ : ∃ wq, wq = wr.drewN nq := ⟨_, rfl⟩
              rw [← hwq]
              have hbq : Below w.heap.size w wq := by rw [hwq]; exact below_drewN Hb.out _
              have m2 : wq.cell? ⟨b, off + k * 3 + 2, none⟩ = some (.slice pf xf.length cf) := by rw [hwq]; exact e2
              have m5 : wq.cell? ⟨b2, off2 + k * 3 + 2, none⟩ = some (.slice pf2 yf.length cf2) := by rw [hwq]; exact e5
              have Hbq := Lib.hid hbq
              clear hwq hbq
              obtain ⟨wo, hwo⟩ : ∃ wo, wo = wr := ⟨_, rfl⟩
              subst hwo
              have Ht0 := Lib.hid (rfl : xf.take 0 = yf.take 0)
              go_wp2_with fail
              go_loopw [6] (fun jv wr => ∃ j : Nat, j ≤ xf.length ∧ jv = .int .i64 (j : Int) ∧ xf.take j = yf.take j ∧ Below wq.heap.size wq wr) (fun jv _ => xf.length - (intOf jv).toNat)
              case atStart => exact ⟨0, Nat.zero_le _, rfl, rfl, Below.refl _ _⟩
              case round =>
                obtain ⟨j, hj, rfl, htj, hbj⟩ := hrel
                have Htj := Lib.hid htj; have Hbj := Lib.hid hbj
                have e2 := (hbj.cell (p := ⟨b, off + k * 3 + 2, none⟩) (Nat.lt_of_lt_of_le hbw Hbq.out.size)).trans m2
                have e5 := (hbj.cell (p := ⟨b2, off2 + k * 3 + 2, none⟩) (Nat.lt_of_lt_of_le hbw2 Hbq.out.size)).trans m5
                have Hbw := Lib.hid (Hbq.out.trans (hbj.mono Hbq.out.size))
                clear htj hbj Ht0
                by_cases hjl : j < xf.length
                · have hjl2 : j < yf.length := by have := Hfl.out; omega
                  obtain ⟨f1, hf1⟩ : ∃ f1, xf[j]? = some f1 := ⟨_, List.getElem?_eq_getElem hjl⟩
                  obtain ⟨f2, hf2⟩ : ∃ f2, yf[j]? = some f2 := ⟨_, List.getElem?_eq_getElem hjl2⟩
                  obtain ⟨b3, off3, vs3, rfl, _, hbw3, hR3, hc3⟩ := HFr.out.2.2 j f1 hf1
                  obtain ⟨b4, off4, vs4, rfl, _, hbw4, hR4, hc4⟩ := HFr2.out.2.2 j f2 hf2
                  have hR3 : vs3 = _ := hR3
                  have hR4 : vs4 = _ := hR4
                  subst hR3
                  subst hR4
                  have a0 : wr.cell? ⟨b3, off3 + j * 2, none⟩ = some (.string ⟨f1.name.toArray⟩) := (Hbw.out.cell (p := ⟨b3, off3 + j * 2, none⟩) hbw3).trans (hc3 0 _ rfl)
                  have a1 : wr.cell? ⟨b3, off3 + j * 2 + 1, none⟩ = some (.string ⟨f1.text.toArray⟩) := (Hbw.out.cell (p := ⟨b3, off3 + j * 2 + 1, none⟩) hbw3).trans (hc3 1 _ rfl)
                  have a2 : wr.cell? ⟨b4, off4 + j * 2, none⟩ = some (.string ⟨f2.name.toArray⟩) := (Hbw.out.cell (p := ⟨b4, off4 + j * 2, none⟩) hbw4).trans (hc4 0 _ rfl)
                  have a3 : wr.cell? ⟨b4, off4 + j * 2 + 1, none⟩ = some (.string ⟨f2.text.toArray⟩) := (Hbw.out.cell (p := ⟨b4, off4 + j * 2 + 1, none⟩) hbw4).trans (hc4 1 _ rfl)
                  have hj1 : (j : Int) < (xf.length : Int) := by omega
                  have hj2 : (j : Int) < (yf.length : Int) := by omega
                  have hneq2 : f1 ≠ f2 → decide (A = B) = false := fun h => Hneq.out (fun h2 => by
                    injection h2 with _ _ h2
                    rw [h2, hf2] at hf1; injection hf1 with hf1; exact h hf1.symm)
                  have ht2 : f1 = f2 → xf.take (j + 1) = yf.take (j + 1) := fun h => by rw [List.take_add_one, List.take_add_one, Htj.out, hf1, hf2, h]
                  have Hneq2 := Lib.hid hneq2; have Ht2 := Lib.hid ht2
                  clear hc3 hc4 hf1 hf2 hneq2 ht2
                  obtain ⟨fn, ft⟩ := f1
                  obtain ⟨gn, gt⟩ := f2
                  dsimp only at a0 a1 a2 a3
                  cases hs : (fn == gn)
                  · have Hne := Lib.hid (Hneq2.out (fun h => by injection h with h; rw [h] at hs; simp at hs))
                    cases hs2 : (ft == gt)
                    · go_wp2_with fail
                      go_quiet (fail)
                      go_wp2_with fail
                      go_ret
                      exact ⟨ret_bool Hne.out.symm, below_drewN Hbw.out _⟩
                    · obtain rfl := eq_of_beq hs2
                      go_wp2_with fail
                      go_quiet (fail)
                      go_wp2_with fail
                      go_ret
                      exact ⟨ret_bool Hne.out.symm, below_drewN Hbw.out _⟩
                  · obtain rfl := eq_of_beq hs
                    clear hs
                    cases hs2 : (ft == gt)
                    · have Hne := Lib.hid (Hneq2.out (fun h => by injection h with _ h; rw [h] at hs2; simp at hs2))
                      go_wp2_with fail
                      go_quiet (fail)
                      go_wp2_with fail
                      go_ret
                      exact ⟨ret_bool Hne.out.symm, below_drewN Hbw.out _⟩
                    · obtain rfl := eq_of_beq hs2
                      have Ht3 := Lib.hid (Ht2.out rfl)
                      clear hs2
                      go_wp2_with fail
                      go_quiet (fail)
                      go_wp2_with fail
                      go_roundw
                      case rel => exact ⟨j + 1, by omega, by go_num, Ht3.out, below_drewN Hbj.out _⟩
                      case measure => simp [intOf]; omega
                · have hxy : xf = yf := by
                    have h := Htj.out
                    rw [List.take_of_length_le (by omega), List.take_of_length_le (by have := Hfl.out; omega)] at h
                    exact h
                  have ht2 : A.take (k + 1) = B.take (k + 1) := by rw [List.take_add_one, List.take_add_one, Ht.out, Hx.out, Hy.out, hxy]
                  have Ht2 := Lib.hid ht2
                  clear hxy ht2
                  go_wp2_with fail
                  go_roundw
                  case rel => exact ⟨k + 1, by omega, by go_num, Ht2.out, Hbw.out⟩
                  case measure => simp [intOf]; omega
            · have hfl' : ((xf.length : Int) != (yf.length : Int)) = true := by simp; omega
              have Hne := Lib.hid (Hneq.out (fun h => by injection h with _ _ h; rw [h] at hfl; exact hfl rfl))
              clear hfl
              go_wp2_with fail
              go_quiet (fail)
              go_wp2_with fail
              go_ret
              exact ⟨ret_bool Hne.out.symm, below_drewN Hb.out _⟩
      · go_wp2_with fail
        go_ret
        refine ⟨ret_bool ?_, Hb.out⟩
        have h := Ht.out
        rw [List.take_of_length_le (by omega), List.take_of_length_le (by have := Hl.out; omega)] at h
        simp [h]
  · have hl' : ((A.length : Int) != (B.length : Int)) = true := by simp; omega
    have hne : decide (A = B) = false := by simp; intro h; rw [h] at hl; exact hl rfl
    have Hne := Lib.hid hne; clear hne
    go_enter Tryz.func11, Tryz.ntmps11
    go_wp2_with fail
    go_ret
    exact ⟨ret_bool Hne.out.symm, Below.refl _ _⟩
end Go.Proofs.YtanbcokkfbidbaaGreatDoor
