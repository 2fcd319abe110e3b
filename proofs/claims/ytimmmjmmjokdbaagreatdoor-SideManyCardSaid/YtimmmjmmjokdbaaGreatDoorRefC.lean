/- The walks of the reference of layer 1, third part: roman. -/
import Derived.Test.YtimmmjmmjokdbaaGreatDoorRefB
namespace Go.Proofs.YtimmmjmmjokdbaaGreatDoor
open Go.RowKit

theorem tenS_length (d : Nat) (one five ten : List UInt8) (h1 : one.length ≤ 1) (h5 : five.length ≤ 1) (h10 : ten.length ≤ 1) : (tenS d one five ten).length ≤ 4 := by
  unfold tenS tenR
  split <;> (try simp) <;> omega
/-- a slice of the call's own that holds some texts -/
def OwnStrs (B : Nat) (w : World) (v : Value) (ls : List (List UInt8)) : Prop := w.ownsRow B 9 1 v ls.length (ls.map fun l => Value.string ⟨l.toArray⟩)
theorem string_info : (Tryz.prog.info? 9).map (fun i => (i.zero, i.size, i.bytes)) = some (some (.string ⟨#[]⟩), 1, 16) := by kernel_rfl
/-- the reference's numeral by signs -/
def romanS (n : Nat) (g : List UInt8) : List UInt8 :=
  tenS (n / 1000) [g[6]!] [] [] ++ tenS (n / 100) [g[4]!] [g[5]!] [g[6]!] ++ tenS (n / 10) [g[2]!] [g[3]!] [g[4]!] ++ tenS n [g[0]!] [g[1]!] [g[2]!]

/-- seven texts of one byte each in a row, of the call's own -/
abbrev Seven (w W : World) (g : Nat) (c0 c1 c2 c3 c4 c5 c6 : UInt8) : Prop :=
  W.cell? ⟨g, 0, none⟩ = some (.string ⟨[c0].toArray⟩) ∧ W.cell? ⟨g, 1, none⟩ = some (.string ⟨[c1].toArray⟩) ∧ W.cell? ⟨g, 2, none⟩ = some (.string ⟨[c2].toArray⟩) ∧ W.cell? ⟨g, 3, none⟩ = some (.string ⟨[c3].toArray⟩) ∧ W.cell? ⟨g, 4, none⟩ = some (.string ⟨[c4].toArray⟩) ∧ W.cell? ⟨g, 5, none⟩ = some (.string ⟨[c5].toArray⟩) ∧ W.cell? ⟨g, 6, none⟩ = some (.string ⟨[c6].toArray⟩) ∧ g < W.heap.size ∧ Below w.heap.size w W
theorem seven_below {w W W' : World} {g : Nat} {c0 c1 c2 c3 c4 c5 c6 : UInt8} (h : Seven w W g c0 c1 c2 c3 c4 c5 c6) (b : Below W.heap.size W W') : Seven w W' g c0 c1 c2 c3 c4 c5 c6 := by
  obtain ⟨h0, h1, h2, h3, h4, h5, h6, hl, hb⟩ := h
  exact ⟨(b.cell hl).trans h0, (b.cell hl).trans h1, (b.cell hl).trans h2, (b.cell hl).trans h3, (b.cell hl).trans h4, (b.cell hl).trans h5, (b.cell hl).trans h6, Nat.lt_of_lt_of_le hl b.size, bseq hb b⟩

set_option maxRecDepth 100000 in
set_option maxHeartbeats 1000000 in
theorem ref01_roman (n : Nat) (c0 c1 c2 c3 c4 c5 c6 : UInt8) (l : List UInt8) (w : World) (hn : n ≤ 3999) (hl7 : l = [c0, c1, c2, c3, c4, c5, c6]) :
    Calls Tryz.prog 79 #[.int .i64 (n : Int), .string ⟨l.toArray⟩] w fun e w' => e = .returned (.string ⟨(romanS n l).toArray⟩) ∧ Below w.heap.size w w' := by
  obtain ⟨i0, hi, hz0, hz1, hz2⟩ := info_parts string_info
  have hl : l.length = 7 := by rw [hl7]; rfl
  have Hl7 := Lib.hid hl7; clear hl7
  have Hi := Lib.hid hi; have Hz0 := Lib.hid hz0; have Hz1 := Lib.hid hz1; have Hz2 := Lib.hid hz2; clear hi hz0 hz1 hz2
  go_enter Tryz.func79, Tryz.ntmps79
  go_wp2_with fail
  go_loopw [5, 6] (fun v i wr => ∃ k : Nat, k ≤ 7 ∧ i = .int .i64 k ∧ OwnStrs w.heap.size wr v ((l.take k).map fun c => [c]) ∧ Below w.heap.size w wr) (fun _ i _ => 7 - (intOf i).toNat)
  case atStart =>
    refine ⟨0, by omega, rfl, ?_, (Below.refl _ _).alloc (Nat.le_refl _) _⟩
    exact own_built w _ _ 1 0 [] (Nat.le_refl _) rfl (by unfold maxLen; omega)
  case round =>
    obtain ⟨k, hk, rfl, hown, hb⟩ := hrel
    have Hown := Lib.hid hown; clear hown
    by_cases hlt : k < 7
    · obtain ⟨x, hx⟩ : ∃ x, l[k]? = some x := ⟨_, List.getElem?_eq_getElem (by omega)⟩
      have hex : (⟨l.toArray⟩ : ByteArray).extract k (k + 1) = ⟨[x].toArray⟩ := by
        rw [extract_any]
        congr 2
        obtain ⟨hk', e⟩ := List.getElem?_eq_some_iff.1 hx
        rw [List.drop_eq_getElem_cons hk', e, show k + 1 - k = 1 by omega]
        rfl
      have Hx := Lib.hid hx; clear hx
      have hli : (l.length : Int) = 7 := by omega
      have hlt' : (k : Int) < 7 := by omega
      go_wp2_with (at_builtin; go_loud (refine wpList_append1 rfl (.tmp 14) (.tmp 20) 24 rfl w.heap.size 9 i0 (.string ⟨#[]⟩) 1 16 Tryz.underlying24 Hi.out Hz0.out Hz1.out Hz2.out rfl (by decide) _ _ _ Hown.out rfl [.string ⟨[x].toArray⟩] rfl (by simp) rfl (by simp [Value.oneCell']) (by simp [maxLen]; omega) (by simp; omega) hb.size ?_); intro v2 w2 own2 g2 at2)
      go_roundw
      case rel =>
        refine ⟨k + 1, by omega, by go_num, ?_, below_grown hb g2 Hown.out hb.size (Nat.le_refl _)⟩
        unfold OwnStrs
        rw [List.take_add_one, Hx.out]
        simpa using own2
      case measure => simp [intOf]; omega
    · have hk7 : k = 7 := by omega
      subst hk7
      have hl7 := Hl7.out
      clear Hl7
      subst hl7
      obtain ⟨g, cap, hv, hgB, hgl⟩ := World.ownsRow.form Hown.out (by simp)
      simp at hv
      subst hv
      have hS : Seven w wr g c0 c1 c2 c3 c4 c5 c6 := by
        have h := fun k hk => World.ownsRow.cellAt Hown.out k hk
        simp at h
        exact ⟨h 0 (by omega), h 1 (by omega), h 2 (by omega), h 3 (by omega), h 4 (by omega), h 5 (by omega), h 6 (by omega), hgl, hb⟩
      clear Hown
      obtain ⟨s0, s1, s2, s3, s4, s5, s6, -, -⟩ := id hS
      obtain ⟨q3, hq3⟩ : ∃ q, q = n / 1000 := ⟨_, rfl⟩
      obtain ⟨q2, hq2⟩ : ∃ q, q = n / 100 := ⟨_, rfl⟩
      obtain ⟨q1, hq1⟩ : ∃ q, q = n / 10 := ⟨_, rfl⟩
      have l3 : q3 ≤ 4000 := by omega
      have l2 : q2 ≤ 4000 := by omega
      have l1 : q1 ≤ 4000 := by omega
      have l0 : n ≤ 4000 := by omega
      have hw3 : IntKind.i64.wrap ((n : Int) / 1000) = (q3 : Int) := by rw [IntWalk.i64_in _ (by omega)]; omega
      have hw2 : IntKind.i64.wrap ((n : Int) / 100) = (q2 : Int) := by rw [IntWalk.i64_in _ (by omega)]; omega
      have hw1 : IntKind.i64.wrap ((n : Int) / 10) = (q1 : Int) := by rw [IntWalk.i64_in _ (by omega)]; omega
      have t1 := tenS_length q3 [c6] [] [] (by simp) (by simp) (by simp)
      have t2 := tenS_length q2 [c4] [c5] [c6] (by simp) (by simp) (by simp)
      have t3 := tenS_length q1 [c2] [c3] [c4] (by simp) (by simp) (by simp)
      have t4 := tenS_length n [c0] [c1] [c2] (by simp) (by simp) (by simp)
      have n1 : ¬ (9223372036854775807 < (tenS q3 [c6] [] []).length + (tenS q2 [c4] [c5] [c6]).length) := by omega
      have n2 : ¬ (9223372036854775807 < (tenS q3 [c6] [] []).length + (tenS q2 [c4] [c5] [c6]).length + (tenS q1 [c2] [c3] [c4]).length) := by omega
      have n3 : ¬ (9223372036854775807 < (tenS q3 [c6] [] []).length + (tenS q2 [c4] [c5] [c6]).length + (tenS q1 [c2] [c3] [c4]).length + (tenS n [c0] [c1] [c2]).length) := by omega
      have Hq : romanS n [c0, c1, c2, c3, c4, c5, c6] = tenS q3 [c6] [] [] ++ tenS q2 [c4] [c5] [c6] ++ tenS q1 [c2] [c3] [c4] ++ tenS n [c0] [c1] [c2] := by rw [hq1, hq2, hq3]; rfl
      have HQ := Lib.hid Hq
      clear Hq hq1 hq2 hq3
      have hbd : Below w.heap.size w wr.drew := hb.trans ⟨rfl, rfl, rfl, Nat.le_refl _, fun _ _ => rfl⟩
      go_wp2_with fail
      go_region_held3 (fun W => W.cell? ⟨g, 0, none⟩ = some (.string ⟨[c0].toArray⟩) ∧ W.cell? ⟨g, 1, none⟩ = some (.string ⟨[c1].toArray⟩) ∧ W.cell? ⟨g, 2, none⟩ = some (.string ⟨[c2].toArray⟩) ∧ W.cell? ⟨g, 3, none⟩ = some (.string ⟨[c3].toArray⟩) ∧ W.cell? ⟨g, 4, none⟩ = some (.string ⟨[c4].toArray⟩) ∧ W.cell? ⟨g, 5, none⟩ = some (.string ⟨[c5].toArray⟩) ∧ W.cell? ⟨g, 6, none⟩ = some (.string ⟨[c6].toArray⟩) ∧ g < W.heap.size ∧ Below w.heap.size w W)
        (first | exact hS | exact seven_below ‹_› b2 | go_keep)
        ((go_at_call 97; with_reducible refine (ref01_ten _ _ _ _ _ ?_ ?_ ?_ ?_).mono ?_; (assumption); (simp only [List.length_cons, List.length_nil]; omega); (simp only [List.length_cons, List.length_nil]; omega); (simp only [List.length_cons, List.length_nil]; omega); rintro e w2 ⟨rfl, b2⟩))
      go_wp2
      go_ret
      refine ⟨?_, ?_⟩
      · rw [HQ.out]
        simp only [append_data]
        rfl
      · have hE : Seven w w2 g c0 c1 c2 c3 c4 c5 c6 := by assumption
        exact hE.2.2.2.2.2.2.2.2
end Go.Proofs.YtimmmjmmjokdbaaGreatDoor
