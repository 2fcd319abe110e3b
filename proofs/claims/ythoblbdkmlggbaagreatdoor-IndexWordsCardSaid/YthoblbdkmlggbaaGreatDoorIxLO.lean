/- The law IndexOrder: its plain half, and its walk. -/
import Derived.Test.YthoblbdkmlggbaaGreatDoorIxK
set_option linter.unusedSimpArgs false
set_option linter.unusedVariables false
namespace Go.Proofs.YthoblbdkmlggbaaGreatDoor
open Go.RowKit
namespace Ix
theorem mem_good (l : List En) (x : En) : x ∈ good l ↔ x ∈ l ∧ (bad x).isNone = true := by unfold good; rw [List.mem_filter]
theorem has_same (l m : List En) (h : ∀ x, x ∈ l ↔ x ∈ m) (p : Pl) : has l p ↔ has m p := by
  unfold has
  constructor
  · rintro ⟨x, hx, hc⟩
    exact ⟨x, by rw [mem_good] at hx ⊢; exact ⟨(h x).1 hx.1, hx.2⟩, hc⟩
  · rintro ⟨x, hx, hc⟩
    exact ⟨x, by rw [mem_good] at hx ⊢; exact ⟨(h x).2 hx.1, hx.2⟩, hc⟩
theorem line_same (l m : List En) (h : ∀ x, x ∈ l ↔ x ∈ m) (p : Pl) : line l p = line m p := by
  unfold line
  rw [text_same (pagesAt l p) (pagesAt m p) (fun n hn => by
    rw [mem_pagesAt l p n hn, mem_pagesAt m p n hn]
    constructor
    · rintro ⟨x, hx, hc⟩
      exact ⟨x, by rw [mem_good] at hx ⊢; exact ⟨(h x).1 hx.1, hx.2⟩, hc⟩
    · rintro ⟨x, hx, hc⟩
      exact ⟨x, by rw [mem_good] at hx ⊢; exact ⟨(h x).2 hx.1, hx.2⟩, hc⟩)]
theorem places_same (l m : List En) (h : ∀ x, x ∈ l ↔ x ∈ m) : places l = places m :=
  Up.unique ordP _ _ (places_up l) (places_up m) (fun p => by rw [mem_places, mem_places, has_same l m h])
theorem lines_same (l m : List En) (h : ∀ x, x ∈ l ↔ x ∈ m) : lines l = lines m := by
  rw [lines_places, lines_places, places_same l m h]
  exact List.map_congr_left fun p _ => line_same l m h p
/-- turned round, each one twice -/
def turned (l : List En) : List En := l.reverse.flatMap fun x => [x, x]
theorem mem_turned (l : List En) (x : En) : x ∈ turned l ↔ x ∈ l := by
  unfold turned
  rw [List.mem_flatMap]
  constructor
  · rintro ⟨y, hy, hx⟩
    simp at hx
    rw [hx]; exact List.mem_reverse.1 hy
  · intro hx
    exact ⟨x, List.mem_reverse.2 hx, by simp⟩
theorem turned_cons (x : En) (r : List En) : turned (x :: r) = turned r ++ [x] ++ [x] := by
  unfold turned
  rw [List.reverse_cons, List.flatMap_append]
  simp
theorem turned_length : ∀ l : List En, (turned l).length = 2 * l.length
  | [] => rfl
  | x :: r => by rw [turned_cons, List.length_append, List.length_append, turned_length r]; simp; omega
theorem lines_turned (l : List En) : lines (turned l) = lines l := lines_same _ _ (mem_turned l)
theorem notes_turned : ∀ l : List En, (notes (turned l)).length = 2 * (notes l).length
  | [] => rfl
  | x :: r => by
    have h := notes_turned r
    rw [turned_cons, notes_snoc, notes_snoc, List.length_append, List.length_append, h]
    unfold notes
    rw [List.filterMap_cons]
    cases hb : bad x with
    | none => simp
    | some e => simp; omega
end Ix
set_option maxRecDepth 100000 in
set_option maxHeartbeats 3200000 in
theorem lawIxOrd_walk (p : Option Addr) (cap : Nat) (l : List Ix.En) (w : World) (hH : Laid10 w ∧ l.length ≤ maxLen) (hE : OSl 2 IEn w p l) :
    Calls Tryz.prog 4 #[.slice p l.length cap] w fun e w' => e = .returned (.bool true) ∧ Below w.heap.size w w' := by
  obtain ⟨i0, hi, hz0, hz1, hz2⟩ := info_parts en_info
  have Hi := Lib.hid hi; have Hz0 := Lib.hid hz0; have Hz1 := Lib.hid hz1; have Hz2 := Lib.hid hz2; clear hi hz0 hz1 hz2
  have HL := Lib.hid hH.1
  have Hc := Lib.hid (law19_cut p cap l w hE hH.2)
  clear hH hE
  go_enter Tryz.func4, Tryz.ntmps4
  go_wp2_with fail
  refine Hc.out.mono ?_
  rintro e w1 ⟨va, rfl, hO, hb1⟩
  obtain ⟨L, hL⟩ : ∃ L, L = Ix.cutE l := ⟨_, rfl⟩
  have hLn : L.length ≤ 30 := by rw [hL]; exact Ix.cutE_len l
  have hLw : ∀ x ∈ L, x.1.length ≤ 60 := by rw [hL]; exact Ix.cutE_word l
  rw [← hL] at hO
  obtain ⟨pa, ca, rfl⟩ := hO.form
  have S1 := Lib.hid (hO.slice REn.size (fun _ => True) (fun _ _ => trivial))
  have HLn := Lib.hid hLn; have HLw := Lib.hid hLw; have B1 := Lib.hid hb1
  clear hLn hLw hb1 hO hL Hc
  go_wp2_with fail
  refine (ix_Lines L _ _ w1 S1.out (by have := HLn.out; omega) (fun x hx => by have := HLw.out x hx; omega) (HL.out.below B1.out).cnt).mono ?_
  rintro e w2 ⟨vl, vn, rfl, hLi, hNo, hb2⟩
  obtain ⟨pl, cl, rfl⟩ := hLi.form
  obtain ⟨pn, cn, rfl⟩ := hNo.form
  have S1' := Lib.hid (SliceIn.below2 S1.out hb2); clear S1; have S1 := S1'; clear S1'
  have S2 := Lib.hid (hLi.slice RStr.size (fun _ => True) (fun _ _ => trivial))
  have B2 := Lib.hid (bseq B1.out hb2); clear B1 hLi hNo hb2
  have O0 := Lib.hid (OwnL.made w2.heap.size 38 2 REn w2 (Nat.le_refl _))
  have Bm := Lib.hid (below_new w2 (.cells #[] 38))
  go_wp2_with fail
  go_loopw [5, 6] (fun ov iv wr => ∃ k : Nat, k ≤ L.length ∧ iv = .int .i64 ((k : Int) - 1) ∧ OwnL w2.heap.size 38 2 REn wr ov (Ix.turned (L.drop k)) ∧ Below w2.heap.size w2 wr) (fun _ iv _ => (intOf iv + 1).toNat)
  case atStart =>
    refine ⟨L.length, Nat.le_refl _, ?_, ?_, Bm.out⟩
    · have := HLn.out
      exact congrArg (Value.int .i64) (by unfold wrap64; omega)
    · rw [List.drop_length]; exact O0.out
  case round =>
    clear O0 Bm
    obtain ⟨k, hk, rfl, hO, hb⟩ := hrel
    obtain ⟨T, hT⟩ : ∃ T, T = Ix.turned (L.drop k) := ⟨_, rfl⟩
    rw [← hT] at hO
    obtain ⟨po, co, rfl⟩ := hO.form
    have HO := Lib.hid hO; have Hb := Lib.hid hb
    clear hO hb
    cases k with
    | succ j =>
      obtain ⟨x, hx⟩ : ∃ x, L[j]? = some x := ⟨_, List.getElem?_eq_getElem (by omega)⟩
      obtain ⟨pa', ca', hpa, _, _, hat⟩ := S1.out
      simp only [Value.slice.injEq] at hpa
      obtain ⟨rfl, _, rfl⟩ := hpa
      obtain ⟨b, off, vs, rfl, _, hbw, hR, hc⟩ := hat j x hx
      have hR : vs = _ := hR
      subst hR
      have e0 : wr.cell? ⟨b, off + j * 2, none⟩ = some (.string ⟨x.1.toArray⟩) := (Hb.out.cell (p := ⟨b, off + j * 2, none⟩) hbw).trans (hc 0 _ rfl)
      have e1 : wr.cell? ⟨b, off + j * 2 + 1, none⟩ = some (.int .i64 x.2) := (Hb.out.cell (p := ⟨b, off + j * 2 + 1, none⟩) hbw).trans (hc 1 _ rfl)
      have hjl : (j : Int) < (L.length : Int) := by omega
      have hd : L.drop j = x :: L.drop (j + 1) := by
        obtain ⟨h1, h2⟩ := List.getElem?_eq_some_iff.1 hx
        rw [List.drop_eq_getElem_cons h1, h2]
      have hTn : Ix.turned (L.drop j) = T ++ [x] ++ [x] := by rw [hd, Ix.turned_cons, hT]
      have hTl : T.length ≤ 60 := by
        rw [hT, Ix.turned_length, List.length_drop]
        have := HLn.out
        omega
      have hi1 : ((j + 1 : Nat) : Int) - 1 = (j : Int) := by omega
      rw [hi1]
      obtain ⟨fl, hown, hrep⟩ := HO.out
      have Hown := Lib.hid hown; have Hrep := Lib.hid hrep; have HTn := Lib.hid hTn; have Hx := Lib.hid hx; have Hbw := Lib.hid hbw; have Hc0 := Lib.hid (hc 0 _ rfl); have Hc1 := Lib.hid (hc 1 _ rfl)
      have Hm1 := Lib.hid (show T.length + 1 ≤ maxLen by unfold maxLen; omega)
      have Hn1 := Lib.hid (show (T.length + 1) * 24 ≤ 140737488355328 by omega)
      have Hm2 := Lib.hid (show T.length + 1 + 1 ≤ maxLen by unfold maxLen; omega)
      have Hn2 := Lib.hid (show (T.length + 1 + 1) * 24 ≤ 140737488355328 by omega)
      have H0W := Lib.hid Hb.out.size
      obtain ⟨xw, xp⟩ := x
      simp only at e0 e1
      clear hown hrep hTn hx hat hc hd hT hTl hbw
      have hge : (0 : Int) ≤ (j : Int) := by omega
      have hwk : wrap64 ((j : Int) - 1) = (j : Int) - 1 := by unfold wrap64; have := HLn.out; omega
      go_wp2_with (first
        | (at_builtin; go_loud (refine wpList_append1 rfl (.tmp 24) (.tmp 29) 23 rfl w2.heap.size 38 i0 (.agg #[.string ⟨#[]⟩, .int .i64 0]) 2 24 Tryz.underlying23 Hi.out Hz0.out Hz1.out Hz2.out rfl (by decide) _ _ _ Hown.out rfl [.string ⟨xw.toArray⟩, .int .i64 xp] rfl (by simp) rfl (by simp [Value.oneCell']) Hm1.out Hn1.out H0W.out ?_); intro v2 w9 own2 g2 at2; obtain ⟨p2, cap2, hv2, _⟩ := own2.form (Nat.succ_pos _); subst hv2; have hb9 := Hb.out.grown g2 H0W.out (fun q e => (World.ownsRow.lt Hown.out q e).1); have f0 : w9.cell? ⟨b, off + j * 2, none⟩ = some (.string ⟨xw.toArray⟩) := (hb9.cell (p := ⟨b, off + j * 2, none⟩) Hbw.out).trans Hc0.out; have f1 : w9.cell? ⟨b, off + j * 2 + 1, none⟩ = some (.int .i64 xp) := (hb9.cell (p := ⟨b, off + j * 2 + 1, none⟩) Hbw.out).trans Hc1.out; have Hown2 := Lib.hid own2; have Hb9 := Lib.hid hb9; have H0W2 := Lib.hid hb9.size; clear own2 g2 at2 hb9)
        | (at_builtin; go_loud (refine wpList_append1 rfl (.tmp 31) (.tmp 36) 23 rfl w2.heap.size 38 i0 (.agg #[.string ⟨#[]⟩, .int .i64 0]) 2 24 Tryz.underlying23 Hi.out Hz0.out Hz1.out Hz2.out rfl (by decide) _ _ _ Hown2.out rfl [.string ⟨xw.toArray⟩, .int .i64 xp] rfl (by simp) rfl (by simp [Value.oneCell']) Hm2.out Hn2.out H0W2.out ?_); intro v3 w10 own3 g3 at3; obtain ⟨p3, cap3, hv3, _⟩ := own3.form (Nat.succ_pos _); subst hv3))
      go_roundw
      case rel =>
        refine ⟨j, by omega, by first | rfl | rw [hwk], ?_, Hb9.out.grown g3 H0W2.out (fun q e => (World.ownsRow.lt Hown2.out q e).1)⟩
        rw [HTn.out]
        exact ⟨_, by rw [List.length_append, List.length_append]; exact own3, RepRow.snoc (R := REn) (x := (xw, xp)) (vs := [.string ⟨xw.toArray⟩, .int .i64 xp]) rfl (RepRow.snoc (R := REn) (x := (xw, xp)) (vs := [.string ⟨xw.toArray⟩, .int .i64 xp]) rfl Hrep.out)⟩
      case measure => simp [intOf]; omega
    | zero =>
      have hT' : T = Ix.turned L := hT
      have hTm : ∀ x ∈ T, x.1.length ≤ 60 := by rw [hT']; intro x hx; exact HLw.out x ((Ix.mem_turned L x).1 hx)
      have hTl : T.length ≤ 60 := by rw [hT', Ix.turned_length]; have := HLn.out; omega
      have hlin := Ix.lines_turned L
      have hnot := Ix.notes_turned L
      rw [← hT'] at hlin hnot
      have ST := Lib.hid (HO.out.slice REn.size (fun _ => True) (fun _ _ => trivial))
      have HTm := Lib.hid hTm; have HTl := Lib.hid hTl; have Hlin := Lib.hid hlin; have Hnot := Lib.hid hnot
      clear hT hT' hTm hTl hlin hnot hk
      go_wp2_with fail
      refine (ix_Lines T _ _ wr ST.out (by have := HTl.out; omega) (fun x hx => by have := HTm.out x hx; omega) (HL.out.below (bseq B2.out Hb.out)).cnt).mono ?_
      rw [Hlin.out]
      rintro e w3 ⟨vl2, vn2, rfl, hLi2, hNo2, hb3⟩
      obtain ⟨pn2, cn2, rfl⟩ := hNo2.form
      rw [Hnot.out]
      have S2' := Lib.hid (SliceIn.below2 (SliceIn.below2 S2.out Hb.out) hb3); clear S2; have S2 := S2'; clear S2'
      have S3 := Lib.hid (hLi2.slice RStr.size (fun _ => True) (fun _ _ => trivial))
      have B3 := Lib.hid (bseq (bseq B2.out Hb.out) hb3)
      clear hLi2 hNo2 hb3
      go_wp2_with fail
      have hnl : (Ix.notes L).length ≤ 30 := by have := Ix.notes_length L; have := HLn.out; omega
      obtain ⟨N, hN⟩ : ∃ N, N = (Ix.notes L).length := ⟨_, rfl⟩
      rw [← hN] at hnl ⊢
      have Hnl := Lib.hid hnl
      clear hnl hN
      refine (ref02_words (Ix.lines L) (Ix.lines L) _ _ _ _ w3 S2.out S3.out).mono ?_
      rw [decide_eq_true (Eq.refl (Ix.lines L))]
      rintro e w4 ⟨rfl, hb4⟩
      have B4 := Lib.hid (bseq B3.out hb4); clear hb4
      have hw2 : wrap64 (2 * (N : Int)) = ((2 * N : Nat) : Int) := by unfold wrap64; have := Hnl.out; omega
      go_wp2_with fail
      refine (law19_fixed w4 (HL.out.below B4.out)).mono ?_
      rintro e w5 ⟨rfl, hb5⟩
      have B5 := Lib.hid (bseq B4.out hb5); clear hb5
      go_wp2_with fail
      go_ret
      exact ⟨rfl, B5.out⟩
end Go.Proofs.YthoblbdkmlggbaaGreatDoor
