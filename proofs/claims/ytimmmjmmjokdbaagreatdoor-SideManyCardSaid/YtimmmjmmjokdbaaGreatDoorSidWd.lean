/- The walks of stetlaw10's own functions, second part: the same sides. -/
import Derived.Test.YtimmmjmmjokdbaaGreatDoorSidWc
set_option linter.unusedSimpArgs false
set_option linter.unusedVariables false
namespace Go.Proofs.YtimmmjmmjokdbaaGreatDoor
open Go.RowKit
theorem neq_lab (a b a' b' : List UInt8) (c c' : Int) (w : World) : (binOp .neq 45 (.agg #[.string ⟨a.toArray⟩, .string ⟨b.toArray⟩, .int .i64 c]) (.agg #[.string ⟨a'.toArray⟩, .string ⟨b'.toArray⟩, .int .i64 c'])).run Tryz.prog w = .ok (.bool (!((a == a') && (b == b') && (c == c')))) w := by
  cases h1 : (a == a') <;> cases h2 : (b == b') <;> cases h3 : (c == c') <;> go_simp
theorem neq_hd (l l' : Int) (a b a' b' : List UInt8) (c c' : Int) (w : World) : (binOp .neq 65 (.agg #[.int .i64 l, .string ⟨a.toArray⟩, .string ⟨b.toArray⟩, .int .i64 c]) (.agg #[.int .i64 l', .string ⟨a'.toArray⟩, .string ⟨b'.toArray⟩, .int .i64 c'])).run Tryz.prog w = .ok (.bool (!((l == l') && (a == a') && (b == b') && (c == c')))) w := by
  cases h0 : (l == l') <;> cases h1 : (a == a') <;> cases h2 : (b == b') <;> cases h3 : (c == c') <;> go_simp
theorem lab_beq (x y : Sd.Lab) : ((x.key == y.key) && (x.num == y.num) && (x.page == y.page)) = decide (x = y) := by
  obtain ⟨a, b, c⟩ := x
  obtain ⟨a', b', c'⟩ := y
  rw [Bool.eq_iff_iff]
  simp [and_assoc]
theorem hd_beq (x y : Sd.Hd) : ((x.level == y.level) && (x.num == y.num) && (x.title == y.title) && (x.page == y.page)) = decide (x = y) := by
  obtain ⟨l, a, b, c⟩ := x
  obtain ⟨l', a', b', c'⟩ := y
  rw [Bool.eq_iff_iff]
  simp [and_assoc]
theorem side_eq (x y : Sd.Side) : decide (x = y) = (decide (x.labs = y.labs) && decide (x.heads = y.heads) && decide (x.cites = y.cites) && decide (x.bibs = y.bibs)) := by
  obtain ⟨a, b, c, d⟩ := x
  obtain ⟨a', b', c', d'⟩ := y
  rw [Bool.eq_iff_iff]
  simp [and_assoc]
set_option maxRecDepth 100000 in
set_option maxHeartbeats 3200000 in
theorem law10_same (x y : Sd.Side) (vx vy : Value) (S S' : Nat → Prop) (w : World) (hX : SideIn S w vx x) (hY : SideIn S' w vy y) :
    Calls Tryz.prog 19 #[vx, vy] w fun e w' => e = .returned (.bool (decide (x = y))) ∧ Below w.heap.size w w' := by
  have hse := side_eq x y
  obtain ⟨vl, vh, vc, vb, rfl, hL, hH, hC, hB⟩ := hX
  obtain ⟨vl2, vh2, vc2, vb2, rfl, hL2, hH2, hC2, hB2⟩ := hY
  have n1 := hL.bound; have n2 := hH.bound; have n3 := hL2.bound; have n4 := hH2.bound
  have HC := Lib.hid hC; have HC2 := Lib.hid hC2; have HBb := Lib.hid hB; have HBb2 := Lib.hid hB2; have Hse := Lib.hid hse
  obtain ⟨pc, cc, rfl, _⟩ := hC
  obtain ⟨pc2, cc2, rfl, _⟩ := hC2
  obtain ⟨pb, cb, rfl, _⟩ := hB
  obtain ⟨pb2, cb2, rfl, _⟩ := hB2
  obtain ⟨pl, cl, rfl, _, _, hl⟩ := hL
  obtain ⟨pl2, cl2, rfl, _, _, hl2⟩ := hL2
  obtain ⟨ph, ch, rfl, _, _, hh⟩ := hH
  obtain ⟨ph2, ch2, rfl, _, _, hh2⟩ := hH2
  have Hl := Lib.hid hl; have Hl2 := Lib.hid hl2; have Hh := Lib.hid hh; have Hh2 := Lib.hid hh2
  clear hl hl2 hh hh2 hse
  have N1 := Lib.hid n1; have N2 := Lib.hid n2
  go_enter Tryz.func19, Tryz.ntmps19
  go_upto_region 1 with fail
  obtain ⟨W1, hW1⟩ : ∃ W1, W1 = w.alloc (.cells #[.slice pl x.labs.length cl, .slice ph x.heads.length ch, .slice pc x.cites.length cc, .slice pb x.bibs.length cb] 35) := ⟨_, rfl⟩
  have hs1 : W1.heap.size = w.heap.size + 1 := by rw [hW1]; simp
  obtain ⟨W2, hW2⟩ : ∃ W2, W2 = W1.alloc (.cells #[.slice pl2 y.labs.length cl2, .slice ph2 y.heads.length ch2, .slice pc2 y.cites.length cc2, .slice pb2 y.bibs.length cb2] 35) := ⟨_, rfl⟩
  have hb1 : Below w.heap.size w W1 := by rw [hW1]; exact below_new w _
  have hb2 : Below w.heap.size w W2 := by rw [hW2]; exact hb1.alloc hb1.size _
  have hs2 : W2.heap.size = w.heap.size + 2 := by rw [hW2]; simp [hs1]
  have hx1 : ∀ (i : Nat) (u : Value), #[Value.slice pl2 y.labs.length cl2, .slice ph2 y.heads.length ch2, .slice pc2 y.cites.length cc2, .slice pb2 y.bibs.length cb2][i]? = some u → W2.cell? ⟨w.heap.size + 1, i, none⟩ = some u := by
    intro i u hu
    rw [← hs1, hW2, cell_of_row _ _ _ _ _ _ (heap_alloc_new W1 _)]
    exact hu
  have hx0 : ∀ (i : Nat) (u : Value), #[Value.slice pl x.labs.length cl, .slice ph x.heads.length ch, .slice pc x.cites.length cc, .slice pb x.bibs.length cb][i]? = some u → W2.cell? ⟨w.heap.size, i, none⟩ = some u := by
    intro i u hu
    rw [hW2, World.cell?_alloc_lt _ _ ⟨w.heap.size, i, none⟩ (by rw [hs1]; show w.heap.size < _; omega), hW1, cell_of_row _ _ _ _ _ _ (heap_alloc_new w _)]
    exact hu
  first
    | rw [← hW1, ← hW2]
    | (rw [← hW1, hs1] at *; rw [← hW2])
  have Hx0 := Lib.hid hx0; have Hx1 := Lib.hid hx1; have Hb2 := Lib.hid hb2; have Hs2 := Lib.hid hs2
  have c0 := hx0 0 _ rfl; have c1 := hx0 1 _ rfl; have d0 := hx1 0 _ rfl; have d1 := hx1 1 _ rfl
  clear hx0 hx1 hb1 hb2 hW1 hW2 hs1 hs2
  by_cases hll : x.labs.length = y.labs.length
  rotate_left
  · have h1 : ((x.labs.length : Int) != (y.labs.length : Int)) = true := by simp; omega
    have Hr := Lib.hid (show decide (x = y) = false from decide_eq_false (fun h => hll (by rw [h])))
    clear hll
    go_wp2_with fail
    go_ret
    exact ⟨ret_bool Hr.out.symm, Hb2.out⟩
  by_cases hlh : x.heads.length = y.heads.length
  rotate_left
  · have h1 : ((x.labs.length : Int) != (y.labs.length : Int)) = false := by simp; omega
    have h2 : ((x.heads.length : Int) != (y.heads.length : Int)) = true := by simp; omega
    have Hr := Lib.hid (show decide (x = y) = false from decide_eq_false (fun h => hlh (by rw [h])))
    clear hlh hll
    go_wp2_with fail
    go_ret
    exact ⟨ret_bool Hr.out.symm, Hb2.out⟩
  have h1 : ((x.labs.length : Int) != (y.labs.length : Int)) = false := by simp; omega
  have h2 : ((x.heads.length : Int) != (y.heads.length : Int)) = false := by simp; omega
  have Hll := Lib.hid hll; have Hlh := Lib.hid hlh
  clear hll hlh
  go_upto_region 3 with fail
  clear c0 c1 d0 d1 h1 h2
  go_wp2_with fail
  go_loopw [5] (fun iv wr => ∃ k : Nat, k ≤ x.labs.length ∧ iv = .int .i64 (k : Int) ∧ x.labs.take k = y.labs.take k ∧ Below W2.heap.size W2 wr) (fun iv _ => x.labs.length - (intOf iv).toNat)
  case atStart => exact ⟨0, Nat.zero_le _, rfl, rfl, Below.refl _ _⟩
  case round =>
    obtain ⟨k, hk, rfl, ht, hb⟩ := hrel
    have Ht := Lib.hid ht; have Hb := Lib.hid hb; have HB := Lib.hid (Hb2.out.trans (hb.mono Hb2.out.size))
    have c0 := (hb.cell (p := ⟨w.heap.size, 0, none⟩) (by rw [Hs2.out]; show w.heap.size < _; omega)).trans (Hx0.out 0 _ rfl)
    have d0 := (hb.cell (p := ⟨w.heap.size + 1, 0, none⟩) (by rw [Hs2.out]; show w.heap.size + 1 < _; omega)).trans (Hx1.out 0 _ rfl)
    have c1 := (hb.cell (p := ⟨w.heap.size, 1, none⟩) (by rw [Hs2.out]; show w.heap.size < _; omega)).trans (Hx0.out 1 _ rfl)
    have d1 := (hb.cell (p := ⟨w.heap.size + 1, 1, none⟩) (by rw [Hs2.out]; show w.heap.size + 1 < _; omega)).trans (Hx1.out 1 _ rfl)
    have c2 := (hb.cell (p := ⟨w.heap.size, 2, none⟩) (by rw [Hs2.out]; show w.heap.size < _; omega)).trans (Hx0.out 2 _ rfl)
    have d2 := (hb.cell (p := ⟨w.heap.size + 1, 2, none⟩) (by rw [Hs2.out]; show w.heap.size + 1 < _; omega)).trans (Hx1.out 2 _ rfl)
    have c3 := (hb.cell (p := ⟨w.heap.size, 3, none⟩) (by rw [Hs2.out]; show w.heap.size < _; omega)).trans (Hx0.out 3 _ rfl)
    have d3 := (hb.cell (p := ⟨w.heap.size + 1, 3, none⟩) (by rw [Hs2.out]; show w.heap.size + 1 < _; omega)).trans (Hx1.out 3 _ rfl)
    clear ht hb
    by_cases hlt : k < x.labs.length
    · obtain ⟨p, hp⟩ : ∃ p, x.labs[k]? = some p := ⟨_, List.getElem?_eq_getElem hlt⟩
      obtain ⟨q, hq⟩ : ∃ q, y.labs[k]? = some q := ⟨_, List.getElem?_eq_getElem (by have := Hll.out; omega)⟩
      obtain ⟨b1, o1, vs1, rfl, _, hw1, hR1, hc1⟩ := Hl.out k p hp
      obtain ⟨b2, o2, vs2, rfl, _, hw2, hR2, hc2⟩ := Hl2.out k q hq
      have hR1 : vs1 = _ := hR1
      have hR2 : vs2 = _ := hR2
      subst hR1 hR2
      have e0 : wr.cell? ⟨b1, o1 + k * 3, none⟩ = some (.string ⟨p.key.toArray⟩) := (HB.out.cell (p := ⟨b1, o1 + k * 3, none⟩) hw1).trans (hc1 0 _ rfl)
      have f0 : wr.cell? ⟨b2, o2 + k * 3, none⟩ = some (.string ⟨q.key.toArray⟩) := (HB.out.cell (p := ⟨b2, o2 + k * 3, none⟩) hw2).trans (hc2 0 _ rfl)
      have e1 : wr.cell? ⟨b1, o1 + k * 3 + 1, none⟩ = some (.string ⟨p.num.toArray⟩) := (HB.out.cell (p := ⟨b1, o1 + k * 3 + 1, none⟩) hw1).trans (hc1 1 _ rfl)
      have f1 : wr.cell? ⟨b2, o2 + k * 3 + 1, none⟩ = some (.string ⟨q.num.toArray⟩) := (HB.out.cell (p := ⟨b2, o2 + k * 3 + 1, none⟩) hw2).trans (hc2 1 _ rfl)
      have e2 : wr.cell? ⟨b1, o1 + k * 3 + 2, none⟩ = some (.int .i64 p.page) := (HB.out.cell (p := ⟨b1, o1 + k * 3 + 2, none⟩) hw1).trans (hc1 2 _ rfl)
      have f2 : wr.cell? ⟨b2, o2 + k * 3 + 2, none⟩ = some (.int .i64 q.page) := (HB.out.cell (p := ⟨b2, o2 + k * 3 + 2, none⟩) hw2).trans (hc2 2 _ rfl)
      have hlt' : (k : Int) < (x.labs.length : Int) := by omega
      have hltb : (k : Int) < (y.labs.length : Int) := by have := Hll.out; omega
      have hkl : (k : Int) + 1 ≤ 9223372036854775807 := by omega
      have hnq : ∀ W, (binOp .neq 45 (.agg #[.string ⟨p.key.toArray⟩, .string ⟨p.num.toArray⟩, .int .i64 p.page]) (.agg #[.string ⟨q.key.toArray⟩, .string ⟨q.num.toArray⟩, .int .i64 q.page])).run Tryz.prog W = .ok (.bool (!decide (p = q))) W := fun W => by rw [← lab_beq]; exact neq_lab _ _ _ _ _ _ W
      have Hp := Lib.hid hp; have Hq := Lib.hid hq; have Hkl := Lib.hid hkl; have Hlt := Lib.hid hlt
      clear hc1 hc2 hp hq hkl
      by_cases hs : p = q
      · have Ht2 := Lib.hid (take_snoc_eq Ht.out Hp.out (by rw [hs]; exact Hq.out))
        rw [decide_eq_true hs] at hnq
        clear hs
        go_upto_region 6 with fail
        go_quiet (fail)
        have hkl := Hkl.out
        clear e0 f0 e1 f1 e2 f2 hltb c0 c1 c2 c3 d0 d1 d2 d3 hnq
        go_wp2_with fail
        go_roundw
        case rel => exact ⟨k + 1, by omega, by go_num, Ht2.out, below_drewN' Hb.out _⟩
        case measure => simp [intOf]; omega
      · have Hr := Lib.hid (show decide (x = y) = false from decide_eq_false (fun h => hs (by
          have h1 := Hp.out
          rw [h, Hq.out] at h1
          exact (Option.some.inj h1).symm)))
        rw [decide_eq_false hs] at hnq
        clear hs
        go_upto_region 6 with fail
        go_quiet (fail)
        go_wp2_with fail
        go_ret
        exact ⟨ret_bool Hr.out.symm, below_drewN' HB.out _⟩
    · have hlt' : ¬ (k : Int) < (x.labs.length : Int) := by omega
      have Heqlabs := Lib.hid (show x.labs = y.labs by have h := Ht.out; rwa [List.take_of_length_le (by omega), List.take_of_length_le (by have := Hll.out; omega)] at h)
      clear hlt hk
      go_wp2_with fail
      have Hbl := Lib.hid Hb.out
      clear c0 c1 c2 c3 d0 d1 d2 d3 HB Ht hlt'
      go_loopw [6] (fun iv wr => ∃ k : Nat, k ≤ x.heads.length ∧ iv = .int .i64 (k : Int) ∧ x.heads.take k = y.heads.take k ∧ Below W2.heap.size W2 wr) (fun iv _ => x.heads.length - (intOf iv).toNat)
      case atStart => exact ⟨0, Nat.zero_le _, rfl, rfl, Hbl.out⟩
      case round =>
        obtain ⟨k, hk, rfl, ht, hb⟩ := hrel
        have Ht := Lib.hid ht; have Hb := Lib.hid hb; have HB := Lib.hid (Hb2.out.trans (hb.mono Hb2.out.size))
        have c0 := (hb.cell (p := ⟨w.heap.size, 0, none⟩) (by rw [Hs2.out]; show w.heap.size < _; omega)).trans (Hx0.out 0 _ rfl)
        have d0 := (hb.cell (p := ⟨w.heap.size + 1, 0, none⟩) (by rw [Hs2.out]; show w.heap.size + 1 < _; omega)).trans (Hx1.out 0 _ rfl)
        have c1 := (hb.cell (p := ⟨w.heap.size, 1, none⟩) (by rw [Hs2.out]; show w.heap.size < _; omega)).trans (Hx0.out 1 _ rfl)
        have d1 := (hb.cell (p := ⟨w.heap.size + 1, 1, none⟩) (by rw [Hs2.out]; show w.heap.size + 1 < _; omega)).trans (Hx1.out 1 _ rfl)
        have c2 := (hb.cell (p := ⟨w.heap.size, 2, none⟩) (by rw [Hs2.out]; show w.heap.size < _; omega)).trans (Hx0.out 2 _ rfl)
        have d2 := (hb.cell (p := ⟨w.heap.size + 1, 2, none⟩) (by rw [Hs2.out]; show w.heap.size + 1 < _; omega)).trans (Hx1.out 2 _ rfl)
        have c3 := (hb.cell (p := ⟨w.heap.size, 3, none⟩) (by rw [Hs2.out]; show w.heap.size < _; omega)).trans (Hx0.out 3 _ rfl)
        have d3 := (hb.cell (p := ⟨w.heap.size + 1, 3, none⟩) (by rw [Hs2.out]; show w.heap.size + 1 < _; omega)).trans (Hx1.out 3 _ rfl)
        clear ht hb
        by_cases hlt : k < x.heads.length
        · obtain ⟨p, hp⟩ : ∃ p, x.heads[k]? = some p := ⟨_, List.getElem?_eq_getElem hlt⟩
          obtain ⟨q, hq⟩ : ∃ q, y.heads[k]? = some q := ⟨_, List.getElem?_eq_getElem (by have := Hlh.out; omega)⟩
          obtain ⟨b1, o1, vs1, rfl, _, hw1, hR1, hc1⟩ := Hh.out k p hp
          obtain ⟨b2, o2, vs2, rfl, _, hw2, hR2, hc2⟩ := Hh2.out k q hq
          have hR1 : vs1 = _ := hR1
          have hR2 : vs2 = _ := hR2
          subst hR1 hR2
          have e0 : wr.cell? ⟨b1, o1 + k * 4, none⟩ = some (.int .i64 p.level) := (HB.out.cell (p := ⟨b1, o1 + k * 4, none⟩) hw1).trans (hc1 0 _ rfl)
          have f0 : wr.cell? ⟨b2, o2 + k * 4, none⟩ = some (.int .i64 q.level) := (HB.out.cell (p := ⟨b2, o2 + k * 4, none⟩) hw2).trans (hc2 0 _ rfl)
          have e1 : wr.cell? ⟨b1, o1 + k * 4 + 1, none⟩ = some (.string ⟨p.num.toArray⟩) := (HB.out.cell (p := ⟨b1, o1 + k * 4 + 1, none⟩) hw1).trans (hc1 1 _ rfl)
          have f1 : wr.cell? ⟨b2, o2 + k * 4 + 1, none⟩ = some (.string ⟨q.num.toArray⟩) := (HB.out.cell (p := ⟨b2, o2 + k * 4 + 1, none⟩) hw2).trans (hc2 1 _ rfl)
          have e2 : wr.cell? ⟨b1, o1 + k * 4 + 2, none⟩ = some (.string ⟨p.title.toArray⟩) := (HB.out.cell (p := ⟨b1, o1 + k * 4 + 2, none⟩) hw1).trans (hc1 2 _ rfl)
          have f2 : wr.cell? ⟨b2, o2 + k * 4 + 2, none⟩ = some (.string ⟨q.title.toArray⟩) := (HB.out.cell (p := ⟨b2, o2 + k * 4 + 2, none⟩) hw2).trans (hc2 2 _ rfl)
          have e3 : wr.cell? ⟨b1, o1 + k * 4 + 3, none⟩ = some (.int .i64 p.page) := (HB.out.cell (p := ⟨b1, o1 + k * 4 + 3, none⟩) hw1).trans (hc1 3 _ rfl)
          have f3 : wr.cell? ⟨b2, o2 + k * 4 + 3, none⟩ = some (.int .i64 q.page) := (HB.out.cell (p := ⟨b2, o2 + k * 4 + 3, none⟩) hw2).trans (hc2 3 _ rfl)
          have hlt' : (k : Int) < (x.heads.length : Int) := by omega
          have hltb : (k : Int) < (y.heads.length : Int) := by have := Hlh.out; omega
          have hkl : (k : Int) + 1 ≤ 9223372036854775807 := by omega
          have hnq : ∀ W, (binOp .neq 65 (.agg #[.int .i64 p.level, .string ⟨p.num.toArray⟩, .string ⟨p.title.toArray⟩, .int .i64 p.page]) (.agg #[.int .i64 q.level, .string ⟨q.num.toArray⟩, .string ⟨q.title.toArray⟩, .int .i64 q.page])).run Tryz.prog W = .ok (.bool (!decide (p = q))) W := fun W => by rw [← hd_beq]; exact neq_hd _ _ _ _ _ _ _ _ W
          have Hp := Lib.hid hp; have Hq := Lib.hid hq; have Hkl := Lib.hid hkl; have Hlt := Lib.hid hlt
          clear hc1 hc2 hp hq hkl
          by_cases hs : p = q
          · have Ht2 := Lib.hid (take_snoc_eq Ht.out Hp.out (by rw [hs]; exact Hq.out))
            rw [decide_eq_true hs] at hnq
            clear hs
            go_upto_region 11 with fail
            go_quiet (fail)
            have hkl := Hkl.out
            clear e0 f0 e1 f1 e2 f2 e3 f3 hltb c0 c1 c2 c3 d0 d1 d2 d3 hnq
            go_wp2_with fail
            go_roundw
            case rel => exact ⟨k + 1, by omega, by go_num, Ht2.out, below_drewN' Hb.out _⟩
            case measure => simp [intOf]; omega
          · have Hr := Lib.hid (show decide (x = y) = false from decide_eq_false (fun h => hs (by
              have h1 := Hp.out
              rw [h, Hq.out] at h1
              exact (Option.some.inj h1).symm)))
            rw [decide_eq_false hs] at hnq
            clear hs
            go_upto_region 11 with fail
            go_quiet (fail)
            go_wp2_with fail
            go_ret
            exact ⟨ret_bool Hr.out.symm, below_drewN' HB.out _⟩
        · have hlt' : ¬ (k : Int) < (x.heads.length : Int) := by omega
          have Heqheads := Lib.hid (show x.heads = y.heads by have h := Ht.out; rwa [List.take_of_length_le (by omega), List.take_of_length_le (by have := Hlh.out; omega)] at h)
          clear hlt hk
          go_upto_region 13 with fail
          by_cases hcc : x.cites = y.cites
          · have Hcc := Lib.hid (decide_eq_true hcc)
            have Hr := Lib.hid (show decide (x = y) = decide (x.bibs = y.bibs) by rw [Hse.out, decide_eq_true Heqlabs.out, decide_eq_true Heqheads.out, Hcc.out]; simp)
            obtain ⟨rb, hrb⟩ : ∃ rb, decide (x.bibs = y.bibs) = rb := ⟨_, rfl⟩
            have Hrb := Lib.hid hrb
            clear hcc hrb
            go_wp2_with (first
              | (go_at_call 38; with_reducible refine (ref02_words x.cites y.cites _ _ _ _ _ (HC.out.below' HB.out) (HC2.out.below' HB.out)).mono ?_; rw [Hcc.out]; rintro e w8 ⟨rfl, hb8⟩; have HB8 := Lib.hid (HB.out.trans (hb8.mono HB.out.size)); have hz8 : w.heap.size + 1 < wr.heap.size := (by have h1 := Hb.out.size; have h2 := Hs2.out; omega); have c3 := (hb8.cell (p := ⟨w.heap.size, 3, none⟩) (show w.heap.size < _ by omega)).trans c3; have d3 := (hb8.cell (p := ⟨w.heap.size + 1, 3, none⟩) hz8).trans d3; clear hb8 hz8)
              | (go_at_call 38; with_reducible refine (ref02_words x.bibs y.bibs _ _ _ _ _ (HBb.out.below' HB8.out) (HBb2.out.below' HB8.out)).mono ?_; rw [Hrb.out]; rintro e w9 ⟨rfl, hb9⟩; have HB9 := Lib.hid (HB8.out.trans (hb9.mono HB8.out.size)); clear hb9))
            go_ret
            exact ⟨ret_bool (by rw [Hr.out, Hrb.out]), HB9.out⟩
          · have Hcc := Lib.hid (decide_eq_false hcc)
            have Hr := Lib.hid (show decide (x = y) = false by rw [Hse.out, Hcc.out]; simp)
            clear hcc
            go_wp2_with (go_at_call 38; refine (ref02_words x.cites y.cites _ _ _ _ _ (HC.out.below' HB.out) (HC2.out.below' HB.out)).mono ?_; rw [Hcc.out]; rintro e w8 ⟨rfl, hb8⟩; have HB8 := Lib.hid (HB.out.trans (hb8.mono HB.out.size)); clear hb8)
            go_ret
            exact ⟨ret_bool Hr.out.symm, HB8.out⟩
end Go.Proofs.YtimmmjmmjokdbaaGreatDoor
