/- The walk of stetref19.Lines. -/
import Derived.Test.YthoblbdkmlggbaaGreatDoorKTb
set_option linter.unusedSimpArgs false
set_option linter.unusedVariables false
namespace Go.Proofs.YthoblbdkmlggbaaGreatDoor
open Go.RowKit
theorem ta_w1 (i : Nat) (h : i ≤ 9223372036854775806) : wrap64 ((i : Int) + 1) = ((i + 1 : Nat) : Int) := by unfold wrap64; omega
theorem rent_info : (Tryz.prog.info? 71).map (fun i => (i.zero, i.size, i.bytes)) = some (some (.agg #[.string ⟨#[]⟩, .int .i64 0]), 2, 24) := by kernel_rfl
namespace Ix
def mainLineG (G : List En) (m : List UInt8) : List UInt8 := if pagesG G m = [] then m else m ++ 32 :: text (pagesG G m)
def linesG (G : List En) (ms : List (List UInt8)) : List (List UInt8) := ms.flatMap fun m => mainLineG G m :: subLinesG G m
theorem lines_eqG (l : List En) : lines l = linesG (good l) (mainsOf l) := rfl
theorem linesG_snoc (G : List En) (M : List (List UInt8)) (k : Nat) (m : List UInt8) (h : M[k]? = some m) : linesG G (M.take (k + 1)) = linesG G (M.take k) ++ [mainLineG G m] ++ subLinesG G m := by
  unfold linesG
  rw [take_snoc M k m h, List.flatMap_append]
  simp
theorem subLinesG_len (G : List En) (m : List UInt8) : (subLinesG G m).length ≤ G.length := by unfold subLinesG; rw [List.length_map]; exact namesG_len G m
theorem linesG_len (G : List En) : ∀ M : List (List UInt8), (linesG G M).length ≤ M.length * (G.length + 1)
  | [] => by simp [linesG]
  | m :: r => by
    have h1 := linesG_len G r
    have h2 := subLinesG_len G m
    unfold linesG at h1 ⊢
    rw [List.flatMap_cons, List.length_append, List.length_cons, List.length_cons, Nat.succ_mul]
    omega
theorem mainsOf_snoc (l : List En) (k : Nat) (x : En) (h : l[k]? = some x) : mainsOf (l.take (k + 1)) = if (bad x).isNone then once cl (cut x.1).1 (mainsOf (l.take k)) else mainsOf (l.take k) := by
  unfold mainsOf good
  rw [take_snoc l k x h, List.filter_append]
  by_cases hc : (bad x).isNone = true
  · rw [if_pos hc, List.filter_cons, if_pos hc, List.map_append]
    exact onces_snoc _ _ _ _
  · rw [if_neg hc, List.filter_cons, if_neg hc]; simp
theorem good_snoc2 (l : List En) (k : Nat) (x : En) (h : l[k]? = some x) : good (l.take (k + 1)) = if (bad x).isNone then good (l.take k) ++ [x] else good (l.take k) := by
  unfold good
  rw [take_snoc l k x h, List.filter_append]
  by_cases hc : (bad x).isNone = true
  · rw [if_pos hc, List.filter_cons, if_pos hc]; rfl
  · rw [if_neg hc, List.filter_cons, if_neg hc]; simp
theorem notes_snoc2 (l : List En) (k : Nat) (x : En) (h : l[k]? = some x) : notes (l.take (k + 1)) = match bad x with | some e => notes (l.take k) ++ [(e, x.1)] | none => notes (l.take k) := by
  unfold notes
  rw [take_snoc l k x h, List.filterMap_append]
  cases hb : bad x <;> simp [hb]
theorem good_len (l : List En) : (good l).length ≤ l.length := by unfold good; exact List.length_filter_le _ _
theorem notes_len2 (l : List En) : (notes l).length ≤ l.length := by unfold notes; exact List.length_filterMap_le _ _
theorem mainsOf_len (l : List En) : (mainsOf l).length ≤ l.length := by
  have h1 := onces_length cl ((good l).map fun x => (cut x.1).1) []
  rw [List.length_map] at h1
  have h2 := good_len l
  unfold mainsOf
  simp at h1
  omega
theorem mainsOf_up (l : List En) : Up cl (mainsOf l) := onces_up ordL _ _ (nil_up _)
theorem mainsOf_small (l : List En) (n : Nat) (h : ∀ x ∈ l, x.1.length ≤ n) : ∀ s ∈ mainsOf l, s.length ≤ n := by
  intro s hs
  obtain ⟨x, hx, rfl⟩ := (mem_mainsOf l s).1 hs
  have := (cut_len2 x.1).1
  have := h x ((mem_good2 l x) hx)
  omega
where
  mem_good2 (l : List En) (x : En) : x ∈ good l → x ∈ l := fun h => (List.mem_filter.1 h).1
end Ix
theorem RepRow.app {α : Type} {R : α → List Value → Prop} : ∀ {a b : List α} {fa fb : List Value}, RepRow R a fa → RepRow R b fb → RepRow R (a ++ b) (fa ++ fb)
  | [], b, fa, fb, ha, hb => by
    have : fa = [] := ha
    subst this
    exact hb
  | x :: a, b, fa, fb, ha, hb => by
    obtain ⟨vs, rest, rfl, h1, h2⟩ := ha
    exact ⟨vs, rest ++ fb, by simp, h1, RepRow.app h2 hb⟩
theorem strs_row : ∀ (c : List (List UInt8)), RepRow RStr c (c.map fun s => (Value.string ⟨s.toArray⟩))
  | [] => rfl
  | x :: c => ⟨[.string ⟨x.toArray⟩], _, rfl, rfl, strs_row c⟩
set_option maxRecDepth 100000 in
set_option maxHeartbeats 6400000 in
theorem ref19_Lines (L : List Ix.En) (v : Value) (S : Nat → Prop) (w : World) (hS : SliceIn S 2 REn w v L) (hl : L.length ≤ 10000) (hw : ∀ x ∈ L, x.1.length ≤ 10000) :
    Calls Tryz.prog 11 #[v] w fun e w' => ∃ va vn, e = .returned (.tuple #[va, vn]) ∧ OwnL w.heap.size 9 1 RStr w' va (Ix.lines L) ∧ OwnL w.heap.size 67 2 RNote w' vn (Ix.notes L) ∧ Below w.heap.size w w' := by
  obtain ⟨i0, hi, hz0, hz1, hz2⟩ := info_parts str_info
  have Hi := Lib.hid hi; have Hz0 := Lib.hid hz0; have Hz1 := Lib.hid hz1; have Hz2 := Lib.hid hz2; clear hi hz0 hz1 hz2
  obtain ⟨ii, hii, hj0, hj1, hj2⟩ := info_parts int_info
  have Hii := Lib.hid hii; have Hj0 := Lib.hid hj0; have Hj1 := Lib.hid hj1; have Hj2 := Lib.hid hj2; clear hii hj0 hj1 hj2
  obtain ⟨ie, hie, he0, he1, he2⟩ := info_parts rent_info
  have Hie := Lib.hid hie; have He0 := Lib.hid he0; have He1 := Lib.hid he1; have He2 := Lib.hid he2; clear hie he0 he1 he2
  obtain ⟨ino, hin, hn0, hn1, hn2⟩ := info_parts note_info
  have Hin := Lib.hid hin; have Hn0 := Lib.hid hn0; have Hn1 := Lib.hid hn1; have Hn2 := Lib.hid hn2; clear hin hn0 hn1 hn2
  obtain ⟨pa, cap, rfl, hle, hmx, hat⟩ := hS
  have Hat := Lib.hid hat; have Hl := Lib.hid hl; have Hw := Lib.hid hw
  clear hat hl hle hmx hw
  have start_ : ∃ W4, W4 = (((w.alloc (.cells #[] 71)).alloc (.cells #[] 67)).alloc (.cells #[] 9)).alloc (.cells #[] 9) ∧
      OwnL w.heap.size 71 2 REn W4 (.slice (some ⟨w.heap.size, 0, none⟩) 0 0) [] ∧ OwnL w.heap.size 67 2 RNote W4 (.slice (some ⟨w.heap.size + 1, 0, none⟩) 0 0) [] ∧
      OwnL w.heap.size 9 1 RStr W4 (.slice (some ⟨w.heap.size + 1 + 1, 0, none⟩) 0 0) [] ∧ OwnL w.heap.size 9 1 RStr W4 (.slice (some ⟨w.heap.size + 1 + 1 + 1, 0, none⟩) 0 0) [] ∧ Below w.heap.size w W4 := by
    obtain ⟨w1, hw1⟩ : ∃ W, W = w.alloc (.cells #[] 71) := ⟨_, rfl⟩
    obtain ⟨w2, hw2⟩ : ∃ W, W = w1.alloc (.cells #[] 67) := ⟨_, rfl⟩
    obtain ⟨w3, hw3⟩ : ∃ W, W = w2.alloc (.cells #[] 9) := ⟨_, rfl⟩
    obtain ⟨w4, hw4⟩ : ∃ W, W = w3.alloc (.cells #[] 9) := ⟨_, rfl⟩
    have s1 : w1.heap.size = w.heap.size + 1 := by rw [hw1]; simp
    have s2 : w2.heap.size = w.heap.size + 1 + 1 := by rw [hw2, ← s1]; simp
    have s3 : w3.heap.size = w.heap.size + 1 + 1 + 1 := by rw [hw3, ← s2]; simp
    have b2 : Below w1.heap.size w1 w2 := by rw [hw2]; exact below_new _ _
    have b3 : Below w2.heap.size w2 w3 := by rw [hw3]; exact below_new _ _
    have b4 : Below w3.heap.size w3 w4 := by rw [hw4]; exact below_new _ _
    have o1 := OwnL.made w.heap.size 71 2 REn w (Nat.le_refl _)
    rw [← hw1] at o1
    have o2 := OwnL.made w.heap.size 67 2 RNote w1 (by omega)
    rw [← hw2, s1] at o2
    have o3 := OwnL.made w.heap.size 9 1 RStr w2 (by omega)
    rw [← hw3, s2] at o3
    have o4 := OwnL.made w.heap.size 9 1 RStr w3 (by omega)
    rw [← hw4, s3] at o4
    have b1 : Below w.heap.size w w1 := by rw [hw1]; exact below_new _ _
    exact ⟨w4, by rw [hw4, hw3, hw2, hw1], ((o1.below b2).below b3).below b4, (o2.below b3).below b4, o3.below b4, o4, bseq (bseq (bseq b1 b2) b3) b4⟩
  obtain ⟨W4, hW4, o1, o2, o3, o4, ob⟩ := start_
  have O1 := Lib.hid o1; have O2 := Lib.hid o2; have O3 := Lib.hid o3; have O4 := Lib.hid o4; have B0 := Lib.hid ob
  clear o1 o2 o3 o4 ob
  go_enter Tryz.func11, Tryz.ntmps11
  go_wp2_with fail
  rw [← hW4]
  clear hW4
  go_loopw [4, 5, 6, 8] (fun gv nv mv iv wr => ∃ k g c : Nat, k ≤ L.length ∧ iv = .int .i64 (k : Int) ∧ mv = .slice (some ⟨g, 0, none⟩) (Ix.mainsOf (L.take k)).length c ∧ g ≠ w.heap.size + 1 + 1 + 1 ∧ OwnL w.heap.size 71 2 REn wr gv (Ix.good (L.take k)) ∧ OwnL w.heap.size 67 2 RNote wr nv (Ix.notes (L.take k)) ∧ OwnL w.heap.size 9 1 RStr wr mv (Ix.mainsOf (L.take k)) ∧ OwnL w.heap.size 9 1 RStr wr (.slice (some ⟨w.heap.size + 1 + 1 + 1, 0, none⟩) 0 0) [] ∧ Below w.heap.size w wr) (fun _ _ _ iv _ => L.length - (intOf iv).toNat)
  case atStart => exact ⟨0, _, _, Nat.zero_le _, rfl, rfl, by omega, O1.out, O2.out, O3.out, O4.out, B0.out⟩
  case round =>
    clear O1 O2 O3 O4 B0
    obtain ⟨k, g, c, hk, rfl, rfl, hgn, hG, hN, hM, hO, hb⟩ := hrel
    have HG := Lib.hid hG; have HN := Lib.hid hN; have HM := Lib.hid hM; have HO := Lib.hid hO; have Hb := Lib.hid hb; have Hgn := Lib.hid hgn
    obtain ⟨pg, cg, rfl⟩ := hG.form
    obtain ⟨pn, cn, rfl⟩ := hN.form
    clear hG hN hM hO hb hgn
    by_cases hlt : k < L.length
    · obtain ⟨x, hx⟩ : ∃ x, L[k]? = some x := ⟨_, List.getElem?_eq_getElem hlt⟩
      have hsn1 := Ix.good_snoc2 L k x hx
      have hsn2 := Ix.notes_snoc2 L k x hx
      have hsn3 := Ix.mainsOf_snoc L k x hx
      have hup := Ix.mainsOf_up (L.take k)
      have htk : (L.take k).length ≤ 10000 := by rw [List.length_take]; have := Hl.out; omega
      have hgl : (Ix.good (L.take k)).length ≤ 10000 := by have := Ix.good_len (L.take k); omega
      have hnl : (Ix.notes (L.take k)).length ≤ 10000 := by have := Ix.notes_len2 (L.take k); omega
      have hml : (Ix.mainsOf (L.take k)).length ≤ 10000 := by have := Ix.mainsOf_len (L.take k); omega
      have hms := Ix.mainsOf_small (L.take k) 10000 (fun y hy => Hw.out y (List.mem_of_mem_take hy))
      obtain ⟨GG, hGG⟩ : ∃ N, N = Ix.good (L.take k) := ⟨_, rfl⟩
      obtain ⟨NN, hNN⟩ : ∃ N, N = Ix.notes (L.take k) := ⟨_, rfl⟩
      obtain ⟨MM, hMM⟩ : ∃ N, N = Ix.mainsOf (L.take k) := ⟨_, rfl⟩
      rw [← hGG] at hsn1 hgl HG ⊢
      rw [← hNN] at hsn2 hnl HN ⊢
      rw [← hMM] at hsn3 hup hml hms HM ⊢
      have hxl := Hw.out x (List.mem_of_getElem? hx)
      obtain ⟨b, off, vs, rfl, _, hbw, hR, hc⟩ := Hat.out k x hx
      have hR : vs = _ := hR
      subst hR
      have Cc := Lib.hid (show ∀ W, Below w.heap.size w W → W.cell? ⟨b, off + k * 2, none⟩ = some (.string ⟨x.1.toArray⟩) ∧ W.cell? ⟨b, off + k * 2 + 1, none⟩ = some (.int .i64 x.2) from fun W hW => ⟨(hW.cell (p := ⟨b, off + k * 2, none⟩) hbw).trans (hc 0 _ rfl), (hW.cell (p := ⟨b, off + k * 2 + 1, none⟩) hbw).trans (hc 1 _ rfl)⟩)
      have e0 := (Cc.out wr Hb.out).1
      have hlt' : (k : Int) < (L.length : Int) := by omega
      have hcl := Ix.cut_len2 x.1
      have hbx : Ix.bad x = if Ix.page x.2 then (if (Ix.cut x.1).1 = [] ∨ ((Ix.cut x.1).2.2 = true ∧ (Ix.cut x.1).2.1 = []) then some 2 else none) else some 5 := rfl
      obtain ⟨C, hC⟩ : ∃ C, C = Ix.cut x.1 := ⟨_, rfl⟩
      rw [← hC] at hsn3 hcl hbx
      have Hsn1 := Lib.hid hsn1; have Hsn2 := Lib.hid hsn2; have Hsn3 := Lib.hid hsn3; have Hup := Lib.hid hup; have Hgl := Lib.hid hgl; have Hnl := Lib.hid hnl; have Hml := Lib.hid hml; have Hms := Lib.hid hms; have Hx := Lib.hid hx; have Hxl := Lib.hid hxl; have HC := Lib.hid hC; have Hcl := Lib.hid hcl; have Hlt := Lib.hid hlt; have Hbx := Lib.hid hbx
      obtain ⟨xw, xp⟩ := x
      simp only at e0 hxl
      clear hsn1 hsn2 hsn3 hup hgl hnl hml hms hx hC hcl hlt hGG hNN hMM hc hbw htk hbx
      have hkl : (k : Int) + 1 ≤ 9223372036854775807 := by have := Hl.out; have := Hlt.out; omega
      go_wp2_with fail
      refine (ref19_parts xw _ (by omega)).mono ?_
      rw [show Ix.cut xw = C from HC.out.symm]
      rintro e w2 ⟨rfl, hb2⟩
      have Hb2 := Lib.hid (bseq Hb.out hb2)
      have HG2 := Lib.hid (HG.out.below hb2); have HN2 := Lib.hid (HN.out.below hb2); have HM2 := Lib.hid (HM.out.below hb2); have HO2 := Lib.hid (HO.out.below hb2)
      have e0 := (Cc.out w2 Hb2.out).1
      have e1 := (Cc.out w2 Hb2.out).2
      obtain ⟨cm, cs, ci⟩ := C
      clear hb2 HG HN HM HO Hb hxl
      obtain ⟨fg, hog, hrg⟩ := HG2.out
      obtain ⟨fn, hon, hrn⟩ := HN2.out
      have Hog := Lib.hid hog; have Hrg := Lib.hid hrg; have Hon := Lib.hid hon; have Hrn := Lib.hid hrn
      have Gm := Lib.hid (show GG.length + 1 ≤ maxLen by have := Hgl.out; unfold maxLen; omega)
      have Gn := Lib.hid (show (GG.length + 1) * 24 ≤ 140737488355328 by have := Hgl.out; omega)
      have Nm := Lib.hid (show NN.length + 1 ≤ maxLen by have := Hnl.out; unfold maxLen; omega)
      have Nn := Lib.hid (show (NN.length + 1) * 24 ≤ 140737488355328 by have := Hnl.out; omega)
      have H0W := Lib.hid Hb2.out.size
      clear hog hrg hon hrn
      by_cases h1 : xp < 1
      · have hbd := Lib.hid (show Ix.bad (xw, xp) = some 5 by rw [Hbx.out]; simp [Ix.page]; omega)
        have q1 := Lib.hid (show Ix.good (L.take (k + 1)) = GG by rw [Hsn1.out, hbd.out]; rfl)
        have q2 := Lib.hid (show Ix.notes (L.take (k + 1)) = NN ++ [(5, xw)] by rw [Hsn2.out, hbd.out])
        have q3 := Lib.hid (show Ix.mainsOf (L.take (k + 1)) = MM by rw [Hsn3.out, hbd.out]; rfl)
        go_wp2_with (at_builtin; go_loud (refine wpList_append1 rfl (.tmp 50) (.tmp 57) 26 rfl w.heap.size 67 ino (.agg #[.int .i64 0, .string ⟨#[]⟩]) 2 24 Tryz.underlying26 Hin.out Hn0.out Hn1.out Hn2.out rfl (by decide) _ _ _ Hon.out rfl [.int .i64 5, .string ⟨xw.toArray⟩] rfl (by simp) rfl (by simp [Value.oneCell']) Nm.out Nn.out H0W.out ?_); intro v2 w9 own2 g2 at2; obtain ⟨p2, cap2, hv2, _⟩ := own2.form (Nat.succ_pos _); subst hv2)
        go_roundw
        case rel =>
          refine ⟨k + 1, g, c, by have := Hlt.out; omega, by go_num, by rw [q3.out], Hgn.out, ?_, ?_, ?_, ?_, Hb2.out.grown g2 H0W.out (fun q e => (World.ownsRow.lt Hon.out q e).1)⟩
          · rw [q1.out]; exact ⟨fg, Hog.out.kept g2 (own_apart Hog.out Hon.out (by decide)), Hrg.out⟩
          · rw [q2.out]; exact ⟨_, by rw [List.length_append]; exact own2, RepRow.snoc (R := RNote) (x := ((5 : Int), xw)) (vs := [.int .i64 5, .string ⟨xw.toArray⟩]) rfl Hrn.out⟩
          · rw [q3.out]; obtain ⟨fq, h1, h2⟩ := HM2.out; exact ⟨fq, h1.kept g2 (own_apart h1 Hon.out (by decide)), h2⟩
          · obtain ⟨fq, h1, h2⟩ := HO2.out; exact ⟨fq, h1.kept g2 (own_apart h1 Hon.out (by decide)), h2⟩
        case measure => have := Hlt.out; simp [intOf]; omega
      · have d1 : decide (xp < 1) = false := decide_eq_false h1
        by_cases h2 : 999999 < xp
        · have hbd := Lib.hid (show Ix.bad (xw, xp) = some 5 by rw [Hbx.out]; simp [Ix.page]; omega)
          clear h1
          have q1 := Lib.hid (show Ix.good (L.take (k + 1)) = GG by rw [Hsn1.out, hbd.out]; rfl)
          have q2 := Lib.hid (show Ix.notes (L.take (k + 1)) = NN ++ [(5, xw)] by rw [Hsn2.out, hbd.out])
          have q3 := Lib.hid (show Ix.mainsOf (L.take (k + 1)) = MM by rw [Hsn3.out, hbd.out]; rfl)
          go_wp2_with (at_builtin; go_loud (refine wpList_append1 rfl (.tmp 50) (.tmp 57) 26 rfl w.heap.size 67 ino (.agg #[.int .i64 0, .string ⟨#[]⟩]) 2 24 Tryz.underlying26 Hin.out Hn0.out Hn1.out Hn2.out rfl (by decide) _ _ _ Hon.out rfl [.int .i64 5, .string ⟨xw.toArray⟩] rfl (by simp) rfl (by simp [Value.oneCell']) Nm.out Nn.out H0W.out ?_); intro v2 w9 own2 g2 at2; obtain ⟨p2, cap2, hv2, _⟩ := own2.form (Nat.succ_pos _); subst hv2)
          go_roundw
          case rel =>
            refine ⟨k + 1, g, c, by have := Hlt.out; omega, by go_num, by rw [q3.out], Hgn.out, ?_, ?_, ?_, ?_, Hb2.out.grown g2 H0W.out (fun q e => (World.ownsRow.lt Hon.out q e).1)⟩
            · rw [q1.out]; exact ⟨fg, Hog.out.kept g2 (own_apart Hog.out Hon.out (by decide)), Hrg.out⟩
            · rw [q2.out]; exact ⟨_, by rw [List.length_append]; exact own2, RepRow.snoc (R := RNote) (x := ((5 : Int), xw)) (vs := [.int .i64 5, .string ⟨xw.toArray⟩]) rfl Hrn.out⟩
            · rw [q3.out]; obtain ⟨fq, h1, h2⟩ := HM2.out; exact ⟨fq, h1.kept g2 (own_apart h1 Hon.out (by decide)), h2⟩
            · obtain ⟨fq, h1, h2⟩ := HO2.out; exact ⟨fq, h1.kept g2 (own_apart h1 Hon.out (by decide)), h2⟩
          case measure => have := Hlt.out; simp [intOf]; omega
        · have d2 : decide (999999 < xp) = false := decide_eq_false h2
          have Hpg := Lib.hid (show Ix.page xp = true by simp [Ix.page]; omega)
          clear h1 h2
          cases cm with
          | nil =>
            have hbd := Lib.hid (show Ix.bad (xw, xp) = some 2 by rw [Hbx.out]; rw [if_pos Hpg.out]; simp)
            have q1 := Lib.hid (show Ix.good (L.take (k + 1)) = GG by rw [Hsn1.out, hbd.out]; rfl)
            have q2 := Lib.hid (show Ix.notes (L.take (k + 1)) = NN ++ [(2, xw)] by rw [Hsn2.out, hbd.out])
            have q3 := Lib.hid (show Ix.mainsOf (L.take (k + 1)) = MM by rw [Hsn3.out, hbd.out]; rfl)
            go_wp2_with (at_builtin; go_loud (refine wpList_append1 rfl (.tmp 68) (.tmp 75) 26 rfl w.heap.size 67 ino (.agg #[.int .i64 0, .string ⟨#[]⟩]) 2 24 Tryz.underlying26 Hin.out Hn0.out Hn1.out Hn2.out rfl (by decide) _ _ _ Hon.out rfl [.int .i64 2, .string ⟨xw.toArray⟩] rfl (by simp) rfl (by simp [Value.oneCell']) Nm.out Nn.out H0W.out ?_); intro v2 w9 own2 g2 at2; obtain ⟨p2, cap2, hv2, _⟩ := own2.form (Nat.succ_pos _); subst hv2)
            go_roundw
            case rel =>
              refine ⟨k + 1, g, c, by have := Hlt.out; omega, by go_num, by rw [q3.out], Hgn.out, ?_, ?_, ?_, ?_, Hb2.out.grown g2 H0W.out (fun q e => (World.ownsRow.lt Hon.out q e).1)⟩
              · rw [q1.out]; exact ⟨fg, Hog.out.kept g2 (own_apart Hog.out Hon.out (by decide)), Hrg.out⟩
              · rw [q2.out]; exact ⟨_, by rw [List.length_append]; exact own2, RepRow.snoc (R := RNote) (x := ((2 : Int), xw)) (vs := [.int .i64 2, .string ⟨xw.toArray⟩]) rfl Hrn.out⟩
              · rw [q3.out]; obtain ⟨fq, h1, h2⟩ := HM2.out; exact ⟨fq, h1.kept g2 (own_apart h1 Hon.out (by decide)), h2⟩
              · obtain ⟨fq, h1, h2⟩ := HO2.out; exact ⟨fq, h1.kept g2 (own_apart h1 Hon.out (by decide)), h2⟩
            case measure => have := Hlt.out; simp [intOf]; omega
          | cons c0 cr =>
            have hne : (c0 :: cr).isEmpty = false := rfl
            obtain ⟨cm, hcm⟩ : ∃ cm, cm = c0 :: cr := ⟨_, rfl⟩
            rw [← hcm] at hne Hcl Hsn3 Hbx HC ⊢
            have Hne := Lib.hid (show cm ≠ [] by rw [hcm]; simp)
            clear hcm
            cases ci with
            | false =>
              have hbd0 : Ix.bad (xw, xp) = none := by rw [Hbx.out]; simp [Hpg.out, Hne.out]
              have hbd := Lib.hid hbd0; clear hbd0
              have q1 := Lib.hid (show Ix.good (L.take (k + 1)) = GG ++ [(xw, xp)] by rw [Hsn1.out, hbd.out]; rfl)
              have q2 := Lib.hid (show Ix.notes (L.take (k + 1)) = NN by rw [Hsn2.out, hbd.out])
              have q3 := Lib.hid (show Ix.mainsOf (L.take (k + 1)) = Ix.once Ix.cl cm MM by rw [Hsn3.out, hbd.out]; rfl)
              go_wp2_with (at_builtin; go_loud (refine wpList_append1 rfl (.tmp 77) (.tmp 82) 30 rfl w.heap.size 71 ie (.agg #[.string ⟨#[]⟩, .int .i64 0]) 2 24 Tryz.underlying30 Hie.out He0.out He1.out He2.out rfl (by decide) _ _ _ Hog.out rfl [.string ⟨xw.toArray⟩, .int .i64 xp] rfl (by simp) rfl (by simp [Value.oneCell']) Gm.out Gn.out H0W.out ?_); intro v2 w9 own2 g2 at2; obtain ⟨p2, cap2, hv2, _⟩ := own2.form (Nat.succ_pos _); subst hv2)
              have hB9 := Hb2.out.grown g2 H0W.out (fun q e => (World.ownsRow.lt Hog.out q e).1)
              have hN9 : OwnL w.heap.size 67 2 RNote w9 (.slice pn NN.length cn) NN := ⟨fn, Hon.out.kept g2 (own_apart Hon.out Hog.out (by decide)), Hrn.out⟩
              have hM9 : OwnL w.heap.size 9 1 RStr w9 (.slice (some ⟨g, 0, none⟩) MM.length c) MM := by obtain ⟨fq, h1, h2⟩ := HM2.out; exact ⟨fq, h1.kept g2 (own_apart h1 Hog.out (by decide)), h2⟩
              have hO9 : OwnL w.heap.size 9 1 RStr w9 (.slice (some ⟨w.heap.size + 1 + 1 + 1, 0, none⟩) 0 0) [] := by obtain ⟨fq, h1, h2⟩ := HO2.out; exact ⟨fq, h1.kept g2 (own_apart h1 Hog.out (by decide)), h2⟩
              have hG9 : OwnL w.heap.size 71 2 REn w9 (.slice (some ⟨p2, 0, none⟩) (GG.length + 1) cap2) (GG ++ [(xw, xp)]) := ⟨_, by rw [List.length_append]; exact own2, RepRow.snoc (R := REn) (x := (xw, xp)) (vs := [.string ⟨xw.toArray⟩, .int .i64 xp]) rfl Hrg.out⟩
              refine (ref19_once MM cm _ w.heap.size w9 hM9 hB9.size Hup.out (by have := Hml.out; omega) (by have := Hcl.out.1; have := Hxl.out; unfold maxLen; omega) (fun y hy => by have := Hms.out y hy; unfold maxLen; omega)).mono ?_
              rw [← q3.out]
              rintro e w3 ⟨v3, rfl, hO3, hor, hb3⟩
              have hv3 : ∃ g3 c3 : Nat, v3 = .slice (some ⟨g3, 0, none⟩) (Ix.mainsOf (L.take (k + 1))).length c3 ∧ g3 ≠ w.heap.size + 1 + 1 + 1 := by
                obtain ⟨p3, c3, hf⟩ := hO3.form
                rcases hor with h | h
                · rw [h] at hf
                  simp only [Value.slice.injEq] at hf
                  exact ⟨g, c, by rw [h, hf.2.1], Hgn.out⟩
                · have hpos : 0 < (Ix.mainsOf (L.take (k + 1))).length := by
                    rw [q3.out]
                    exact List.length_pos_of_mem ((Ix.mem_once Ix.ordL cm cm MM).2 (.inl rfl))
                  obtain ⟨fl, hown, _⟩ := h
                  obtain ⟨g3, c4, hv, hge, _⟩ := hown.form hpos
                  have h1 : w.heap.size + 1 + 1 + 1 < w9.heap.size := by
                    obtain ⟨fl6, hown6, _⟩ := hO9
                    exact (World.ownsRow.lt hown6 _ rfl).2
                  exact ⟨g3, c4, hv, by omega⟩
              obtain ⟨g3, c3, rfl, hg3⟩ := hv3
              have HG4 := Lib.hid (hG9.below hb3); have HN4 := Lib.hid (hN9.below hb3); have HM4 := Lib.hid hO3; have HO4 := Lib.hid (hO9.below hb3); have Hb4 := Lib.hid (bseq hB9 hb3); have Hg3 := Lib.hid hg3
              clear hO3 hor hb3 hg3 hG9 hN9 hM9 hO9 hB9 own2 g2 at2 e0 e1
              go_wp2_with fail
              go_roundw
              case rel => exact ⟨k + 1, g3, c3, by have := Hlt.out; omega, by go_num, rfl, Hg3.out, by rw [q1.out]; exact HG4.out, by rw [q2.out]; exact HN4.out, HM4.out, HO4.out, Hb4.out⟩
              case measure => have := Hlt.out; simp [intOf]; omega
            | true =>
              cases cs with
              | nil =>
                have hbd := Lib.hid (show Ix.bad (xw, xp) = some 2 by rw [Hbx.out]; rw [if_pos Hpg.out]; simp)
                have q1 := Lib.hid (show Ix.good (L.take (k + 1)) = GG by rw [Hsn1.out, hbd.out]; rfl)
                have q2 := Lib.hid (show Ix.notes (L.take (k + 1)) = NN ++ [(2, xw)] by rw [Hsn2.out, hbd.out])
                have q3 := Lib.hid (show Ix.mainsOf (L.take (k + 1)) = MM by rw [Hsn3.out, hbd.out]; rfl)
                go_wp2_with (at_builtin; go_loud (refine wpList_append1 rfl (.tmp 68) (.tmp 75) 26 rfl w.heap.size 67 ino (.agg #[.int .i64 0, .string ⟨#[]⟩]) 2 24 Tryz.underlying26 Hin.out Hn0.out Hn1.out Hn2.out rfl (by decide) _ _ _ Hon.out rfl [.int .i64 2, .string ⟨xw.toArray⟩] rfl (by simp) rfl (by simp [Value.oneCell']) Nm.out Nn.out H0W.out ?_); intro v2 w9 own2 g2 at2; obtain ⟨p2, cap2, hv2, _⟩ := own2.form (Nat.succ_pos _); subst hv2)
                go_roundw
                case rel =>
                  refine ⟨k + 1, g, c, by have := Hlt.out; omega, by go_num, by rw [q3.out], Hgn.out, ?_, ?_, ?_, ?_, Hb2.out.grown g2 H0W.out (fun q e => (World.ownsRow.lt Hon.out q e).1)⟩
                  · rw [q1.out]; exact ⟨fg, Hog.out.kept g2 (own_apart Hog.out Hon.out (by decide)), Hrg.out⟩
                  · rw [q2.out]; exact ⟨_, by rw [List.length_append]; exact own2, RepRow.snoc (R := RNote) (x := ((2 : Int), xw)) (vs := [.int .i64 2, .string ⟨xw.toArray⟩]) rfl Hrn.out⟩
                  · rw [q3.out]; obtain ⟨fq, h1, h2⟩ := HM2.out; exact ⟨fq, h1.kept g2 (own_apart h1 Hon.out (by decide)), h2⟩
                  · obtain ⟨fq, h1, h2⟩ := HO2.out; exact ⟨fq, h1.kept g2 (own_apart h1 Hon.out (by decide)), h2⟩
                case measure => have := Hlt.out; simp [intOf]; omega
              | cons s0 sr =>
                have hse : (s0 :: sr).isEmpty = false := rfl
                have hbd0 : Ix.bad (xw, xp) = none := by rw [Hbx.out]; simp [Hpg.out, Hne.out]
                obtain ⟨cs, hcs⟩ : ∃ cs, cs = s0 :: sr := ⟨_, rfl⟩
                rw [← hcs] at hse Hcl Hsn3 Hbx HC ⊢
                clear hcs
                have hbd := Lib.hid hbd0; clear hbd0
                have q1 := Lib.hid (show Ix.good (L.take (k + 1)) = GG ++ [(xw, xp)] by rw [Hsn1.out, hbd.out]; rfl)
                have q2 := Lib.hid (show Ix.notes (L.take (k + 1)) = NN by rw [Hsn2.out, hbd.out])
                have q3 := Lib.hid (show Ix.mainsOf (L.take (k + 1)) = Ix.once Ix.cl cm MM by rw [Hsn3.out, hbd.out]; rfl)
                go_wp2_with (at_builtin; go_loud (refine wpList_append1 rfl (.tmp 77) (.tmp 82) 30 rfl w.heap.size 71 ie (.agg #[.string ⟨#[]⟩, .int .i64 0]) 2 24 Tryz.underlying30 Hie.out He0.out He1.out He2.out rfl (by decide) _ _ _ Hog.out rfl [.string ⟨xw.toArray⟩, .int .i64 xp] rfl (by simp) rfl (by simp [Value.oneCell']) Gm.out Gn.out H0W.out ?_); intro v2 w9 own2 g2 at2; obtain ⟨p2, cap2, hv2, _⟩ := own2.form (Nat.succ_pos _); subst hv2)
                have hB9 := Hb2.out.grown g2 H0W.out (fun q e => (World.ownsRow.lt Hog.out q e).1)
                have hN9 : OwnL w.heap.size 67 2 RNote w9 (.slice pn NN.length cn) NN := ⟨fn, Hon.out.kept g2 (own_apart Hon.out Hog.out (by decide)), Hrn.out⟩
                have hM9 : OwnL w.heap.size 9 1 RStr w9 (.slice (some ⟨g, 0, none⟩) MM.length c) MM := by obtain ⟨fq, h1, h2⟩ := HM2.out; exact ⟨fq, h1.kept g2 (own_apart h1 Hog.out (by decide)), h2⟩
                have hO9 : OwnL w.heap.size 9 1 RStr w9 (.slice (some ⟨w.heap.size + 1 + 1 + 1, 0, none⟩) 0 0) [] := by obtain ⟨fq, h1, h2⟩ := HO2.out; exact ⟨fq, h1.kept g2 (own_apart h1 Hog.out (by decide)), h2⟩
                have hG9 : OwnL w.heap.size 71 2 REn w9 (.slice (some ⟨p2, 0, none⟩) (GG.length + 1) cap2) (GG ++ [(xw, xp)]) := ⟨_, by rw [List.length_append]; exact own2, RepRow.snoc (R := REn) (x := (xw, xp)) (vs := [.string ⟨xw.toArray⟩, .int .i64 xp]) rfl Hrg.out⟩
                refine (ref19_once MM cm _ w.heap.size w9 hM9 hB9.size Hup.out (by have := Hml.out; omega) (by have := Hcl.out.1; have := Hxl.out; unfold maxLen; omega) (fun y hy => by have := Hms.out y hy; unfold maxLen; omega)).mono ?_
                rw [← q3.out]
                rintro e w3 ⟨v3, rfl, hO3, hor, hb3⟩
                have hv3 : ∃ g3 c3 : Nat, v3 = .slice (some ⟨g3, 0, none⟩) (Ix.mainsOf (L.take (k + 1))).length c3 ∧ g3 ≠ w.heap.size + 1 + 1 + 1 := by
                  obtain ⟨p3, c3, hf⟩ := hO3.form
                  rcases hor with h | h
                  · rw [h] at hf
                    simp only [Value.slice.injEq] at hf
                    exact ⟨g, c, by rw [h, hf.2.1], Hgn.out⟩
                  · have hpos : 0 < (Ix.mainsOf (L.take (k + 1))).length := by
                      rw [q3.out]
                      exact List.length_pos_of_mem ((Ix.mem_once Ix.ordL cm cm MM).2 (.inl rfl))
                    obtain ⟨fl, hown, _⟩ := h
                    obtain ⟨g3, c4, hv, hge, _⟩ := hown.form hpos
                    have h1 : w.heap.size + 1 + 1 + 1 < w9.heap.size := by
                      obtain ⟨fl6, hown6, _⟩ := hO9
                      exact (World.ownsRow.lt hown6 _ rfl).2
                    exact ⟨g3, c4, hv, by omega⟩
                obtain ⟨g3, c3, rfl, hg3⟩ := hv3
                have HG4 := Lib.hid (hG9.below hb3); have HN4 := Lib.hid (hN9.below hb3); have HM4 := Lib.hid hO3; have HO4 := Lib.hid (hO9.below hb3); have Hb4 := Lib.hid (bseq hB9 hb3); have Hg3 := Lib.hid hg3
                clear hO3 hor hb3 hg3 hG9 hN9 hM9 hO9 hB9 own2 g2 at2 e0 e1
                go_wp2_with fail
                go_roundw
                case rel => exact ⟨k + 1, g3, c3, by have := Hlt.out; omega, by go_num, rfl, Hg3.out, by rw [q1.out]; exact HG4.out, by rw [q2.out]; exact HN4.out, HM4.out, HO4.out, Hb4.out⟩
                case measure => have := Hlt.out; simp [intOf]; omega
    · have he : k = L.length := by omega
      subst he
      rw [List.take_length] at HG HN HM ⊢
      have hwg : ∀ x ∈ Ix.good L, x.1.length ≤ 10000 := fun x hx => Hw.out x (List.mem_filter.1 hx).1
      have hgl : (Ix.good L).length ≤ 10000 := by have := Ix.good_len L; have := Hl.out; omega
      have hml : (Ix.mainsOf L).length ≤ 10000 := by have := Ix.mainsOf_len L; have := Hl.out; omega
      have hms := Ix.mainsOf_small L 10000 Hw.out
      have hlin := Ix.lines_eqG L
      obtain ⟨G, hGe⟩ : ∃ G, G = Ix.good L := ⟨_, rfl⟩
      obtain ⟨M, hMe⟩ : ∃ G, G = Ix.mainsOf L := ⟨_, rfl⟩
      rw [← hGe] at hwg hgl hlin HG ⊢
      rw [← hMe] at hml hms hlin HM ⊢
      have Hwg := Lib.hid hwg; have Hgl := Lib.hid hgl; have Hml := Lib.hid hml; have Hms := Lib.hid hms; have Hlin := Lib.hid hlin
      clear hwg hgl hml hms hlin hGe hMe hlt hk
      go_wp2_with fail
      go_loopw [7, 12] (fun ov iv wr => ∃ k h ch : Nat, k ≤ M.length ∧ iv = .int .i64 (k : Int) ∧ ov = .slice (some ⟨h, 0, none⟩) (Ix.linesG G (M.take k)).length ch ∧ h ≠ g ∧ OwnL w.heap.size 9 1 RStr wr ov (Ix.linesG G (M.take k)) ∧ OwnL w.heap.size 9 1 RStr wr (.slice (some ⟨g, 0, none⟩) M.length c) M ∧ OwnL w.heap.size 71 2 REn wr (.slice pg G.length cg) G ∧ OwnL w.heap.size 67 2 RNote wr (.slice pn (Ix.notes L).length cn) (Ix.notes L) ∧ Below w.heap.size w wr) (fun _ iv _ => M.length - (intOf iv).toNat)
      case atStart => exact ⟨0, _, _, Nat.zero_le _, rfl, rfl, fun e => Hgn.out e.symm, HO.out, HM.out, HG.out, HN.out, Hb.out⟩
      case round =>
        clear HO HM HG HN Hb Hgn
        obtain ⟨k, h, ch, hk, rfl, rfl, hhg, hO, hM, hG, hN, hb⟩ := hrel
        have HO := Lib.hid hO; have HM := Lib.hid hM; have HG := Lib.hid hG; have HN := Lib.hid hN; have Hb := Lib.hid hb; have Hhg := Lib.hid hhg
        clear hO hM hG hN hb hhg
        by_cases hlt : k < M.length
        · obtain ⟨s, hs⟩ : ∃ s, M[k]? = some s := ⟨_, List.getElem?_eq_getElem hlt⟩
          have hsl := Hms.out s (List.mem_of_getElem? hs)
          have hsn := Ix.linesG_snoc G M k s hs
          have hlt' : (k : Int) < (M.length : Int) := by omega
          have hTl : (Ix.linesG G (M.take k)).length ≤ 100020000 := by
            have h1 := Ix.linesG_len G (M.take k)
            have h2 : (M.take k).length ≤ 10000 := by rw [List.length_take]; have := Hml.out; omega
            have h3 := Nat.mul_le_mul h2 (show G.length + 1 ≤ 10001 by have := Hgl.out; omega)
            omega
          obtain ⟨T, hT⟩ : ∃ T, T = Ix.linesG G (M.take k) := ⟨_, rfl⟩
          rw [← hT] at HO hsn hTl ⊢
          have Hs := Lib.hid hs; have Hsl := Lib.hid hsl; have Hsn := Lib.hid hsn; have HTl := Lib.hid hTl; have Hlt := Lib.hid hlt
          clear hs hsl hsn hT hTl hlt hk
          obtain ⟨u, rfl⟩ : ∃ u, u = wr := ⟨_, rfl⟩
          have En := Lib.hid (show ∀ W, Below u.heap.size u W → W.cell? ⟨g, k, none⟩ = some (.string ⟨s.toArray⟩) from fun W hW => OwnL.cellT (OwnL.below HM.out hW) Hs.out)
          go_upto_region 15 with fail
          go_cut [13, 14] from 93 to 97 (fun pv lv W => lv = .string ⟨s.toArray⟩ ∧ OwnL u.heap.size 3 1 RInt W pv [] ∧ Below u.heap.size u W)
          case first =>
            refine wp_region_any (by kernel_rfl) ?_
            change wpAny _ _ _ _ _ _ _ (World.drew _)
            have HBd := Lib.hid (show Below u.heap.size u u.drew from (Below.refl _ _).drew)
            have F0 := Lib.hid (En.out _ HBd.out)
            have hsz : u.drew.heap.size = u.heap.size := rfl
            have Hsz := Lib.hid hsz; clear hsz
            generalize u.drew = wd' at *
            refine wpAny_of_held (S := fun W => W.cell? ⟨g, k, none⟩ = some (.string ⟨s.toArray⟩)) _ _ _ _ ?_
            have hS1 : (fun W : World => W.cell? ⟨g, k, none⟩ = some (.string ⟨s.toArray⟩)) wd' := F0.out
            dsimp only at hS1
            refine wpAnyH_take (i := 1) (v := .slice (some ⟨g, 0, none⟩) M.length c) rfl (by kernel_rfl) (by kernel_rfl) (by kernel_rfl) (fun _ _ _ h => h) (Or.inl ⟨by kernel_rfl, fun W hW => by kernel_rfl⟩) (by assumption) ?_
            try simp only [Act.put, List.getElem_toArray, List.getElem_cons_zero, List.getElem_cons_succ, List.setIfInBounds_toArray, List.set_cons_zero, List.set_cons_succ]
            refine wpAnyH_take (i := 2) (v := .int .i64 (k : Int)) rfl (by kernel_rfl) (by kernel_rfl) (by kernel_rfl) (fun _ _ _ h => h) (Or.inl ⟨by kernel_rfl, fun W hW => by kernel_rfl⟩) (by assumption) ?_
            try simp only [Act.put, List.getElem_toArray, List.getElem_cons_zero, List.getElem_cons_succ, List.setIfInBounds_toArray, List.set_cons_zero, List.set_cons_succ]
            refine wpAnyH_take (i := 3) (v := .pointer (some ⟨g, k, none⟩)) rfl (by kernel_rfl) (by kernel_rfl) (by kernel_rfl) (fun _ _ _ h => h) (Or.inl ⟨by kernel_rfl, fun W hW => by go_simp⟩) (by assumption) ?_
            try simp only [Act.put, List.getElem_toArray, List.getElem_cons_zero, List.getElem_cons_succ, List.setIfInBounds_toArray, List.set_cons_zero, List.set_cons_succ]
            refine wpAnyH_take (i := 4) (v := .string ⟨s.toArray⟩) rfl (by kernel_rfl) (by kernel_rfl) (by kernel_rfl) (fun _ _ _ h => h) (Or.inl ⟨by kernel_rfl, fun W hW => by (have hW := hW; go_simp)⟩) (by assumption) ?_
            try simp only [Act.put, List.getElem_toArray, List.getElem_cons_zero, List.getElem_cons_succ, List.setIfInBounds_toArray, List.set_cons_zero, List.set_cons_succ]
            refine wpAnyH_ready (rs := [0]) (by kernel_rfl) (by simp) ?_
            refine AllReadyH.cons rfl (fun K hK => ?_) AllReadyH.nil
            go_simp
            have hbn := below_new wd' (.cells #[] 3)
            have hO0 := OwnL.made u.heap.size 3 1 RInt wd' (by have := Hsz.out; omega)
            refine hK.out _ _ (En.out _ (bseq HBd.out hbn)) (fun _ => ?_)
            clear K hK
            try simp only [Act.put, List.getElem_toArray, List.getElem_cons_zero, List.getElem_cons_succ, List.setIfInBounds_toArray, List.set_cons_zero, List.set_cons_succ]
            refine wpAnyH_take (i := 5) (v := .slice (some ⟨wd'.heap.size, 0, none⟩) 0 0) rfl (by kernel_rfl) (by kernel_rfl) (by kernel_rfl) (fun _ _ _ h => h) (Or.inl ⟨by kernel_rfl, fun W hW => by kernel_rfl⟩) (by assumption) ?_
            try simp only [Act.put, List.getElem_toArray, List.getElem_cons_zero, List.getElem_cons_succ, List.setIfInBounds_toArray, List.set_cons_zero, List.set_cons_succ]
            refine wpAnyH_take (i := 6) (v := .string ⟨s.toArray⟩) rfl (by kernel_rfl) (by kernel_rfl) (by kernel_rfl) (fun _ _ _ h => h) (Or.inl ⟨by kernel_rfl, fun W hW => by kernel_rfl⟩) (by assumption) ?_
            try simp only [Act.put, List.getElem_toArray, List.getElem_cons_zero, List.getElem_cons_succ, List.setIfInBounds_toArray, List.set_cons_zero, List.set_cons_succ]
            refine wpAnyH_done (by kernel_rfl) ?_ _
            have HO0 := Lib.hid hO0; have HBn := Lib.hid (bseq HBd.out hbn)
            clear hS1 hbn hO0
            go_wp2_with fail
            go_meet
            exact ⟨rfl, HO0.out, HBn.out⟩
          case rest =>
            obtain ⟨rfl, hP0, hbc⟩ := hcut
            obtain ⟨pp0, cp0, rfl⟩ := hP0.form
            have U0 := Lib.hid hP0; have UB := Lib.hid hbc
            clear hP0 hbc
            have Hat2 := Lib.hid (OwnL.slice HG.out REn.size (fun _ => True) (fun _ _ => trivial))
            go_wp2_with fail
            go_loopw [13, 15] (fun pv jv wr => ∃ j : Nat, j ≤ G.length ∧ jv = .int .i64 (j : Int) ∧ OwnL u.heap.size 3 1 RInt wr pv (Ix.pagesG (G.take j) s) ∧ Below u.heap.size u wr) (fun _ jv _ => G.length - (intOf jv).toNat)
            case atStart => exact ⟨0, Nat.zero_le _, rfl, U0.out, UB.out⟩
            case round =>
              clear U0 UB
              obtain ⟨j, hj, rfl, hP, hbz⟩ := hrel
              obtain ⟨pp, cp, rfl⟩ := hP.form
              have HP := Lib.hid hP; have Hbz := Lib.hid hbz
              clear hP hbz
              by_cases hjl : j < G.length
              · obtain ⟨y, hy⟩ : ∃ y, G[j]? = some y := ⟨_, List.getElem?_eq_getElem hjl⟩
                have hsn := Ix.pagesG_snoc G s j y hy
                have hpl : (Ix.pagesG (G.take j) s).length ≤ 10000 := by have := Ix.pagesG_len (G.take j) s; rw [List.length_take] at this; have := Hgl.out; omega
                obtain ⟨P, hPe⟩ : ∃ P, P = Ix.pagesG (G.take j) s := ⟨_, rfl⟩
                rw [← hPe] at hsn hpl HP ⊢
                obtain ⟨pa', ca', hpa', _, _, hat2⟩ := Hat2.out
                simp only [Value.slice.injEq] at hpa'
                obtain ⟨rfl, _, rfl⟩ := hpa'
                obtain ⟨b, off, vs, rfl, _, hbw, hR, hc⟩ := hat2 j y hy
                have hR : vs = _ := hR
                subst hR
                obtain ⟨yw, yp⟩ := y
                have cc_ : ∀ W, Below u.heap.size u W → W.cell? ⟨b, off + j * 2, none⟩ = some (.string ⟨yw.toArray⟩) ∧ W.cell? ⟨b, off + j * 2 + 1, none⟩ = some (.int .i64 yp) := by
                  intro W hW
                  exact ⟨(hW.cell (p := ⟨b, off + j * 2, none⟩) hbw).trans (hc 0 _ rfl), (hW.cell (p := ⟨b, off + j * 2 + 1, none⟩) hbw).trans (hc 1 _ rfl)⟩
                have Cc := Lib.hid cc_; clear cc_
                have hjG : (j : Int) < (G.length : Int) := by omega
                have Hsn := Lib.hid hsn; have Hpl := Lib.hid hpl; have Hjl := Lib.hid hjl
                clear hsn hpl hc hbw hy hPe hjl hat2
                have e0 := (Cc.out wr Hbz.out).1
                have en := En.out wr Hbz.out
                obtain ⟨bb, hbb⟩ : ∃ bb, (yw == s) = bb := ⟨_, rfl⟩
                go_upto_region 19 with fail
                go_cut [113] from 104 to 113 (fun v W => v = .bool bb ∧ Below wr.heap.size wr W)
                case first =>
                  go_quiet (fail)
                  go_wp2_with fail
                  go_meet
                  exact ⟨by first | rfl | rw [← hbb] | simp [← hbb], below_drewN (Below.refl _ _) _⟩
                case rest =>
                  obtain ⟨rfl, hbc⟩ := hcut
                  have Hbc := Lib.hid (bseq Hbz.out hbc)
                  obtain ⟨fl, hown, hrep⟩ := HP.out.below hbc
                  have Hown := Lib.hid hown; have Hrep := Lib.hid hrep
                  clear hbc e0 en hown hrep
                  have hjk : (j : Int) + 1 ≤ 9223372036854775807 := by have := Hgl.out; have := Hjl.out; omega
                  cases bb with
                  | false =>
                    have Hst := Lib.hid (show Ix.pagesG (G.take (j + 1)) s = P by rw [Hsn.out]; simp only [hbb]; simp)
                    clear hbb
                    go_wp2_with fail
                    go_roundw
                    case rel => exact ⟨j + 1, by have := Hjl.out; omega, by go_num, by rw [Hst.out]; exact ⟨_, Hown.out, Hrep.out⟩, Hbc.out⟩
                    case measure => have := Hjl.out; simp [intOf]; omega
                  | true =>
                    have Hst := Lib.hid (show Ix.pagesG (G.take (j + 1)) s = P ++ [yp] by rw [Hsn.out]; simp only [hbb]; simp)
                    clear hbb
                    have e1 := (Cc.out wc Hbc.out).2
                    have Hm1 := Lib.hid (show P.length + 1 ≤ maxLen by have := Hpl.out; unfold maxLen; omega)
                    have Hn1 := Lib.hid (show (P.length + 1) * 8 ≤ 140737488355328 by have := Hpl.out; omega)
                    have H0W := Lib.hid Hbc.out.size
                    go_wp2_with (at_builtin; go_loud (refine wpList_append1 rfl (.tmp 114) (.tmp 120) 22 rfl u.heap.size 3 ii (.int .i64 0) 1 8 Tryz.underlying22 Hii.out Hj0.out Hj1.out Hj2.out rfl (by decide) _ _ _ Hown.out rfl [.int .i64 yp] rfl (by simp) rfl (by simp [Value.oneCell']) Hm1.out Hn1.out H0W.out ?_); intro v2 w9 own2 g2 at2; obtain ⟨p2, cap2, hv2, _⟩ := own2.form (Nat.succ_pos _); subst hv2)
                    go_roundw
                    case rel =>
                      refine ⟨j + 1, by have := Hjl.out; omega, by go_num, ?_, Hbc.out.grown g2 H0W.out (fun q e => (World.ownsRow.lt Hown.out q e).1)⟩
                      rw [Hst.out]
                      exact ⟨_, by rw [List.length_append]; exact own2, RepRow.snoc (R := RInt) (vs := [.int .i64 yp]) rfl Hrep.out⟩
                    case measure => have := Hjl.out; simp [intOf]; omega
              · have he : j = G.length := by omega
                subst he
                rw [List.take_length] at HP ⊢
                have hpl := Ix.pagesG_len G s
                have hP2 := HP.out.slice RInt.size (fun _ => True) (fun _ _ => trivial)
                have hml : Ix.mainLineG G s = if Ix.pagesG G s = [] then s else s ++ 32 :: Ix.text (Ix.pagesG G s) := rfl
                obtain ⟨P, hPe⟩ : ∃ P, P = Ix.pagesG G s := ⟨_, rfl⟩
                rw [← hPe] at hpl hP2 hml ⊢
                have hpt := Ix.text_length P
                obtain ⟨X, hX⟩ : ∃ X, X = Ix.text P := ⟨_, rfl⟩
                rw [← hX] at hpt hml
                obtain ⟨ML, hMLe⟩ : ∃ ML, ML = Ix.mainLineG G s := ⟨_, rfl⟩
                rw [← hMLe] at hml Hsn
                have HX := Lib.hid hX; have HP2 := Lib.hid hP2; have HXl := Lib.hid (show X.length ≤ 300000 by have := Hgl.out; omega); have HPl := Lib.hid (show P.length ≤ 100000 by have := Hgl.out; omega); have HML := Lib.hid hml
                clear hpl hPe hP2 hpt hX HP hj hjl hml hMLe
                go_upto_if 124 with fail
                go_cut [13, 14] from 122 to 130 (fun _ lv W => lv = .string ⟨ML.toArray⟩ ∧ Below wr.heap.size wr W)
                case first =>
                  by_cases hPc : P = []
                  · have hme : ML = s := by rw [HML.out, if_pos hPc]
                    have Hme := Lib.hid hme
                    have hp0 : P.length = 0 := by rw [hPc]; rfl
                    clear hme hPc
                    go_wp2_with fail
                    go_meet
                    exact ⟨by rw [Hme.out], Below.refl _ _⟩
                  · have hme : ML = s ++ ([32] ++ X) := by rw [HML.out, if_neg hPc]; rfl
                    have hp0 : (0 : Int) < (P.length : Int) := by have := List.length_pos_iff.2 hPc; omega
                    have Hme := Lib.hid hme
                    clear hme hPc
                    have hap1 : (⟨#[32]⟩ : ByteArray) ++ ⟨X.toArray⟩ = ⟨([32] ++ X).toArray⟩ := append_data [32] X
                    obtain ⟨A, hA⟩ : ∃ A, A = [32] ++ X := ⟨_, rfl⟩
                    have hap2 : (⟨s.toArray⟩ : ByteArray) ++ ⟨A.toArray⟩ = ⟨(s ++ A).toArray⟩ := append_data s A
                    rw [← hA] at hap1 Hme
                    have hAl : A.length = X.length + 1 := by rw [hA]; simp
                    have hq1 : ¬ 9223372036854775807 < 1 + X.length := by have := HXl.out; omega
                    have hq2 : ¬ 9223372036854775807 < s.length + A.length := by have := HXl.out; have := Hsl.out; omega
                    rw [← Hme.out] at hap2
                    clear hA hAl
                    go_wp2_with fail
                    refine (ref19_Pages P _ _ _ HP2.out HPl.out).mono ?_
                    rw [← HX.out]
                    rintro e wq1 ⟨rfl, hq⟩
                    have Hq := Lib.hid hq; clear hq
                    go_wp2_with fail
                    go_meet
                    exact ⟨rfl, Hq.out⟩
                case rest =>
                  obtain ⟨rfl, hbc⟩ := hcut
                  have hbu := bseq Hbz.out hbc
                  have Hbu := Lib.hid hbu
                  obtain ⟨fo, hoo, hro⟩ := HO.out.below hbu
                  obtain ⟨fm, hom, hrm⟩ := HM.out.below hbu
                  obtain ⟨fg, hog, hrg⟩ := HG.out.below hbu
                  obtain ⟨fn, hon, hrn⟩ := HN.out.below hbu
                  have Hoo := Lib.hid hoo; have Hro := Lib.hid hro; have Hom := Lib.hid hom; have Hrm := Lib.hid hrm; have Hog := Lib.hid hog; have Hrg := Lib.hid hrg; have Hon := Lib.hid hon; have Hrn := Lib.hid hrn
                  have Hm1 := Lib.hid (show T.length + 1 ≤ maxLen by have := HTl.out; unfold maxLen; omega)
                  have Hn1 := Lib.hid (show (T.length + 1) * 16 ≤ 140737488355328 by have := HTl.out; omega)
                  have H0W := Lib.hid (show w.heap.size ≤ wc.heap.size by have := Hb.out.size; have := hbu.size; omega)
                  clear hbc hbu hoo hro hom hrm hog hrg hon hrn HP2 HX HML
                  go_wp2_with (at_builtin; go_loud (refine wpList_append1 rfl (.tmp 130) (.tmp 132) 25 rfl w.heap.size 9 i0 (.string ⟨#[]⟩) 1 16 Tryz.underlying25 Hi.out Hz0.out Hz1.out Hz2.out rfl (by decide) _ _ _ Hoo.out rfl [.string ⟨ML.toArray⟩] rfl (by simp) rfl (by simp [Value.oneCell']) Hm1.out Hn1.out H0W.out ?_); intro v2 w9 own2 g2 at2; obtain ⟨p2, cap2, hv2, _⟩ := own2.form (Nat.succ_pos _); subst hv2; have HB9 := Lib.hid ((bseq Hb.out Hbu.out).grown g2 H0W.out (fun q e => (World.ownsRow.lt Hoo.out q e).1)); have HM9 := Lib.hid (show OwnL w.heap.size 9 1 RStr w9 (.slice (some ⟨g, 0, none⟩) M.length c) M from ⟨fm, Hom.out.kept g2 (.inr (fun e => Hhg.out (by simpa [Value.ownBlock] using e.symm))), Hrm.out⟩); have HG9 := Lib.hid (show OwnL w.heap.size 71 2 REn w9 (.slice pg G.length cg) G from ⟨fg, Hog.out.kept g2 (own_apart Hog.out Hoo.out (by decide)), Hrg.out⟩); have HN9 := Lib.hid (show OwnL w.heap.size 67 2 RNote w9 (.slice pn (Ix.notes L).length cn) (Ix.notes L) from ⟨fn, Hon.out.kept g2 (own_apart Hon.out Hoo.out (by decide)), Hrn.out⟩); have e9 := OwnL.cellT HM9.out Hs.out; have Hp2 := Lib.hid (show p2 ≠ g by have hgs : g < wc.heap.size := (World.ownsRow.lt Hom.out g rfl).2; rcases at2 with e | e; (· simp only [Value.ownBlock, Option.some.injEq] at e; rw [e]; exact Hhg.out); (· simp only [Value.ownBlock, Option.some.injEq] at e; omega)); have Own2 := Lib.hid own2; clear own2 g2 at2)
                  refine (ref19_subs G s _ _ w9 (OwnL.slice HG9.out REn.size (fun _ => True) (fun _ _ => trivial)) Hgl.out Hwg.out Hsl.out).mono ?_
                  rintro e w8 ⟨vs, rfl, hSub, hb8⟩
                  have HSub := Lib.hid hSub
                  obtain ⟨SL, hSL⟩ : ∃ SL, SL = Ix.subLinesG G s := ⟨_, rfl⟩
                  have hSLl := Ix.subLinesG_len G s
                  rw [← hSL] at HSub Hsn hSLl
                  have HSLl := Lib.hid hSLl
                  clear hSL hSLl hSub
                  have h10 := own_below9 Own2.out hb8
                  have HB8 := Lib.hid (bseq HB9.out hb8)
                  have HM8 := Lib.hid (OwnL.below HM9.out hb8); have HG8 := Lib.hid (OwnL.below HG9.out hb8); have HN8 := Lib.hid (OwnL.below HN9.out hb8)
                  have H9s := Lib.hid hb8.size
                  obtain ⟨fs, hfs, hrs⟩ := HSub.out
                  obtain ⟨k1, hk1⟩ : ∃ k1, k1 = k + 1 := ⟨_, rfl⟩
                  have hwk : wrap64 ((k : Int) + 1) = (k1 : Int) := by rw [hk1]; exact ta_w1 k (by have := Hml.out; have := Hlt.out; omega)
                  have Hwk := Lib.hid hwk; have Hk1 := Lib.hid hk1
                  clear hwk hk1
                  rcases id hfs.2 with ⟨rfl, h0⟩ | ⟨gs, cs, cur, rfl, hbs, hgs, hle, hmx, hcs, hcur⟩
                  · have hS0 : SL = [] := List.length_eq_zero_iff.1 h0
                    have Hrun := Lib.hid (run_append_owned_none (P := Tryz.prog) (w := w8) w.heap.size 25 25 9 i0 1 Tryz.underlying25 Hi.out _ _ _ h10)
                    have H10 := Lib.hid h10; have HS0 := Lib.hid hS0
                    clear h10 hS0 hfs hrs h0
                    go_wp2_with (at_builtin; refine wpList_append_run rfl (.tmp 134) (.tmp 140) 25 rfl rfl rfl Hrun.out ?_)
                    go_roundw
                    case rel =>
                      have hh : (Ix.linesG G (M.take (k + 1))).length = T.length + 1 := by rw [Hsn.out, HS0.out, List.length_append, List.length_append]; rfl
                      refine ⟨k1, p2, cap2, by have := Hlt.out; have := Hk1.out; omega, by first | rfl | rw [Hwk.out], by rw [Hk1.out, hh], Hp2.out, ?_, HM8.out, HG8.out, HN8.out, HB8.out⟩
                      rw [Hk1.out, Hsn.out, HS0.out, List.append_nil]
                      exact ⟨_, by rw [List.length_append]; exact H10.out, RepRow.snoc (R := RStr) (vs := [.string ⟨ML.toArray⟩]) rfl Hro.out⟩
                    case measure => have := Hlt.out; have := Hk1.out; (try rw [Hwk.out]); simp [intOf]; omega
                  · have hcell : ∀ (q : Nat) (x : Value), (SL.map fun s => (Value.string ⟨s.toArray⟩))[q]? = some x → w8.cell? ((⟨gs, 0, none⟩ : Addr).add q) = some x := by
                      intro q x hq
                      rw [List.getElem?_map] at hq
                      cases hz : SL[q]? with
                      | none => rw [hz] at hq; cases hq
                      | some z =>
                        rw [hz] at hq
                        cases hq
                        have := OwnL.cellT HSub.out hz
                        rw [Addr.add_lit]
                        simpa using this
                    obtain ⟨v3, w10, hrun, own3, g4, _, at4⟩ := run_append_own_at (P := Tryz.prog) w8 w.heap.size 25 25 9 i0 (.string ⟨#[]⟩) 1 16 Tryz.underlying25 Hi.out Hz0.out Hz1.out Hz2.out rfl (by decide) _ _ _ h10 ⟨gs, 0, none⟩ SL.length cs (SL.map fun s => (Value.string ⟨s.toArray⟩)) (by rw [List.length_map, Nat.mul_one]) hcell (fun z hz => by obtain ⟨y, _, rfl⟩ := List.mem_map.1 hz; rfl) (by have := HTl.out; have := HSLl.out; have := Hgl.out; unfold maxLen; omega) (by have := HTl.out; have := HSLl.out; have := Hgl.out; omega) HB8.out.size
                    obtain ⟨p3, c3, hv3, _⟩ := own3.form (by omega)
                    subst hv3
                    have Hrun := Lib.hid hrun; have Own3 := Lib.hid own3; have HB10 := Lib.hid (HB8.out.grown g4 HB8.out.size (fun q e => (World.ownsRow.lt h10 q e).1))
                    have HM10 := Lib.hid (show OwnL w.heap.size 9 1 RStr w10 (.slice (some ⟨g, 0, none⟩) M.length c) M by
                      obtain ⟨fq, h1, h2⟩ := HM8.out
                      exact ⟨fq, h1.kept g4 (.inr (fun e => Hp2.out (by simpa [Value.ownBlock] using e.symm))), h2⟩)
                    have HG10 := Lib.hid (show OwnL w.heap.size 71 2 REn w10 (.slice pg G.length cg) G by
                      obtain ⟨fq, h1, h2⟩ := HG8.out
                      exact ⟨fq, h1.kept g4 (own_apart h1 h10 (by decide)), h2⟩)
                    have HN10 := Lib.hid (show OwnL w.heap.size 67 2 RNote w10 (.slice pn (Ix.notes L).length cn) (Ix.notes L) by
                      obtain ⟨fq, h1, h2⟩ := HN8.out
                      exact ⟨fq, h1.kept g4 (own_apart h1 h10 (by decide)), h2⟩)
                    have hp3 := Lib.hid (show p3 ≠ g by
                      have hgs2 : g < w8.heap.size := by obtain ⟨fq, h1, _⟩ := HM8.out; exact (World.ownsRow.lt h1 g rfl).2
                      rcases at4 with e | e
                      · simp only [Value.ownBlock, Option.some.injEq] at e; rw [e]; exact Hp2.out
                      · simp only [Value.ownBlock, Option.some.injEq] at e; omega)
                    clear hrun own3 g4 at4 h10 hcell hfs hrs hbs hgs hle hmx hcs hcur
                    go_wp2_with (at_builtin; go_loud (refine wpList_append_run rfl (.tmp 134) (.tmp 140) 25 rfl rfl rfl Hrun.out ?_))
                    go_roundw
                    case rel =>
                      have hh : (Ix.linesG G (M.take (k + 1))).length = T.length + 1 + SL.length := by rw [Hsn.out, List.length_append, List.length_append]; rfl
                      refine ⟨k1, p3, c3, by have := Hlt.out; have := Hk1.out; omega, by first | rfl | rw [Hwk.out], by rw [Hk1.out, hh], hp3.out, ?_, HM10.out, HG10.out, HN10.out, HB10.out⟩
                      rw [Hk1.out, Hsn.out]
                      exact ⟨_, by rw [List.length_append, List.length_append]; exact Own3.out, RepRow.app (RepRow.snoc (R := RStr) (vs := [.string ⟨ML.toArray⟩]) rfl Hro.out) (strs_row SL)⟩
                    case measure => have := Hlt.out; have := Hk1.out; (try rw [Hwk.out]); simp [intOf]; omega
        · have he : k = M.length := by omega
          subst he
          rw [List.take_length] at HO ⊢
          have Hlin2 := Lib.hid (show Ix.lines L = Ix.linesG G M from Hlin.out)
          clear hlt hk
          go_wp2_with fail
          go_ret2
          exact ⟨.slice (some ⟨h, 0, none⟩) (Ix.linesG G M).length ch, .slice pn (Ix.notes L).length cn, by simp, by rw [Hlin2.out]; exact HO.out, HN.out, Hb.out⟩
end Go.Proofs.YthoblbdkmlggbaaGreatDoor
