/- The document's maps of files: a map of any files (stetref02.Map): plain, and its walk. The walks of stetref14.Job and Log, stetref03.All (with its error), stetref19.Entries. The walk of stetref19.Run. The walks of files.Right over a map of files, and of the law IndexRuns. -/
import Derived.Test.YthoblbdkmlggbaaGreatDoorKF
import Derived.Test.YthoblbdkmlggbaaGreatDoorKTa
import Derived.Test.YthoblbdkmlggbaaGreatDoorIxTa
import Derived.Test.YthoblbdkmlggbaaGreatDoorR3W
import Derived.Test.YthoblbdkmlggbaaGreatDoorKRa
import Derived.Test.YthoblbdkmlggbaaGreatDoorIxO
import Derived.Test.YthoblbdkmlggbaaGreatDoorIxK
set_option linter.unusedSimpArgs false
set_option linter.unusedVariables false
namespace Go.Proofs.YthoblbdkmlggbaaGreatDoor
section
open Go.RowKit
namespace Ix
def cutF (b : Nat) (x : Fl) : Fl := (x.1, x.2.take b)
def putM (out : List Fl) (f : Fl) : List Fl := if putE out f = 0 then putL out f else out
def mapF (l : List Fl) (most b : Nat) : List Fl := ((l.take most).map (cutF b)).foldl putM []
theorem putM_len (out : List Fl) (f : Fl) : (putM out f).length ≤ out.length + 1 := by
  unfold putM
  split
  · exact putL_len out f
  · omega
theorem foldl_len : ∀ (q out : List Fl), (q.foldl putM out).length ≤ out.length + q.length
  | [], out => by simp
  | f :: r, out => by
    have h1 := foldl_len r (putM out f)
    have h2 := putM_len out f
    rw [List.foldl_cons, List.length_cons]
    omega
theorem mapF_len (l : List Fl) (most b : Nat) : (mapF l most b).length ≤ most := by
  have := foldl_len ((l.take most).map (cutF b)) []
  rw [List.length_map, List.length_take, List.length_nil] at this
  unfold mapF
  omega
theorem mapF_snoc (l : List Fl) (most b k : Nat) (x : Fl) (h : l[k]? = some x) (hk : k < most) : mapF (l.take (k + 1)) most b = putM (mapF (l.take k) most b) (cutF b x) := by
  unfold mapF
  rw [List.take_take, List.take_take, show min most (k + 1) = k + 1 by omega, show min most k = k by omega, take_snoc l k x h, List.map_append, List.foldl_append]
  rfl
theorem mapF_take (l : List Fl) (most b k : Nat) (h : k = most ∨ k = l.length) : mapF (l.take k) most b = mapF l most b := by
  unfold mapF
  rw [List.take_take]
  rcases h with rfl | rfl
  · rw [Nat.min_self]
  · rcases Nat.le_total most l.length with h | h
    · rw [Nat.min_eq_left h]
    · rw [Nat.min_eq_right h, List.take_length, List.take_of_length_le h]
/-- what a map of files is, and stays -/
structure MapOk (b : Nat) (m : List Fl) : Prop where
  up : Sorted m
  small : ∀ x ∈ m, x.2.length ≤ b
  name : ∀ x ∈ m, nameOk x.1 = true
theorem less_tr {a b c : List UInt8} (h : Op.bytesLess a b = true) (k : Op.bytesLess b c = true) : Op.bytesLess a c = true := by
  rw [less_cmp] at h k ⊢
  exact decide_eq_true (cmpB_trans a b c (of_decide_eq_true h) (of_decide_eq_true k))
theorem mem_drop {l : List Fl} {n : List UInt8} {x : Fl} (h : x ∈ drop l n) : x ∈ l ∧ x.1 ≠ n := by
  unfold drop at h
  have := List.mem_filter.1 h
  exact ⟨this.1, by simpa using this.2⟩
theorem MapOk.put {b : Nat} {m : List Fl} (h : MapOk b m) (f : Fl) (hf : f.2.length ≤ b) : MapOk b (putM m f) := by
  unfold putM
  split
  · next he =>
    have hn : nameOk f.1 = true := by
      cases hn : nameOk f.1 with
      | true => rfl
      | false => unfold putE at he; rw [hn] at he; simp at he
    have hup : Sorted (drop m f.1) := List.Pairwise.sublist List.filter_sublist h.up
    have hmem : ∀ x ∈ putL m f, x ∈ drop m f.1 ∨ x = f := by
      intro x hx
      unfold putL at hx
      rcases List.mem_append.1 hx with hx | hx
      · rcases List.mem_append.1 hx with hx | hx
        · exact .inl (List.mem_of_mem_take hx)
        · exact .inr (by simpa using hx)
      · exact .inl (List.mem_of_mem_drop hx)
    refine ⟨?_, fun x hx => ?_, fun x hx => ?_⟩
    · obtain ⟨R, hR⟩ : ∃ R, R = drop m f.1 := ⟨_, rfl⟩
      have hne : ∀ x ∈ R, x.1 ≠ f.1 := fun x hx => by rw [hR] at hx; exact (mem_drop hx).2
      rw [← hR] at hup
      have hlt := aheadN_lt f.1 R
      have hat := aheadN_at f.1 R
      have hform : putL m f = R.take (aheadN R f.1) ++ [f] ++ R.drop (aheadN R f.1) := by rw [hR]; rfl
      rw [hform]
      generalize aheadN R f.1 = k at hlt hat
      have h1 : ∀ x ∈ R.take k, cmpB x.1 f.1 < 0 := by
        intro x hx
        obtain ⟨i, hi⟩ := List.mem_iff_getElem?.1 hx
        rw [List.getElem?_take] at hi
        split at hi
        · next hk =>
          have := hlt i x hi hk
          rw [less_cmp] at this
          exact of_decide_eq_true this
        · cases hi
      have h2 : ∀ x ∈ R.drop k, cmpB f.1 x.1 < 0 := by
        cases hd : R.drop k with
        | nil => intro x hx; simp at hx
        | cons y r =>
          have hy : R[k]? = some y := by
            have : (R.drop k)[0]? = some y := by rw [hd]; rfl
            rwa [List.getElem?_drop, Nat.add_zero] at this
          have hyf : cmpB f.1 y.1 < 0 := by
            have h3 := hat y hy
            rw [less_cmp] at h3
            have h4 := of_decide_eq_false h3
            have h5 := cmpB_anti f.1 y.1
            have h6 : cmpB f.1 y.1 ≠ 0 := fun e => hne y (List.mem_of_getElem? hy) (cmpB_eq0 _ _ e).symm
            omega
          have hs : Sorted (y :: r) := by rw [← hd]; exact List.Pairwise.sublist (List.drop_sublist _ _) hup
          intro x hx
          rcases List.mem_cons.1 hx with rfl | hx
          · exact hyf
          · exact cmpB_trans _ _ _ hyf ((List.pairwise_cons.1 hs).1 x hx)
      have hsplit : (R.take k).Pairwise (fun x y => cmpB x.1 y.1 < 0) ∧ (R.drop k).Pairwise (fun x y => cmpB x.1 y.1 < 0) := ⟨List.Pairwise.sublist (List.take_sublist _ _) hup, List.Pairwise.sublist (List.drop_sublist _ _) hup⟩
      unfold Sorted
      rw [List.append_assoc]
      refine List.pairwise_append.2 ⟨hsplit.1, ?_, ?_⟩
      · exact List.pairwise_cons.2 ⟨h2, hsplit.2⟩
      · intro x hx y hy
        rcases List.mem_cons.1 hy with rfl | hy
        · exact h1 x hx
        · exact cmpB_trans _ _ _ (h1 x hx) (h2 y hy)
    · rcases hmem x hx with hx | rfl
      · exact h.small x (mem_drop hx).1
      · exact hf
    · rcases hmem x hx with hx | rfl
      · exact h.name x (mem_drop hx).1
      · exact hn
  · exact h
theorem mapF_ok (l : List Fl) (most b : Nat) : MapOk b (mapF l most b) := by
  have : ∀ (q out : List Fl), MapOk b out → (∀ f ∈ q, f.2.length ≤ b) → MapOk b (q.foldl putM out) := by
    intro q
    induction q with
    | nil => intro out h _; exact h
    | cons f r ih =>
      intro out h hq
      exact ih _ (h.put f (hq f (by simp))) (fun g hg => hq g (List.mem_cons_of_mem _ hg))
  refine this _ [] ⟨List.Pairwise.nil, by simp, by simp⟩ (fun f hf => ?_)
  obtain ⟨x, _, rfl⟩ := List.mem_map.1 hf
  show (x.2.take b).length ≤ b
  rw [List.length_take]; omega
end Ix
def IFl (x : Ix.Fl) (vs : List Value) : Prop := vs = [.string ⟨x.1.toArray⟩, .string ⟨x.2.toArray⟩] ∧ x.1.length ≤ maxLen ∧ x.2.length ≤ maxLen
set_option maxRecDepth 100000 in
set_option maxHeartbeats 6400000 in
theorem ref02_map (p : Option Addr) (cap : Nat) (l : List Ix.Fl) (most b : Nat) (w : World) (hE : OSl 2 IFl w p l) (hl : l.length ≤ maxLen) (hm : most ≤ 1000) (hb : b ≤ 100000) :
    Calls Tryz.prog 22 #[.slice p l.length cap, .int .i64 (most : Int), .int .i64 (b : Int)] w fun e w' => ∃ va, e = .returned va ∧ OwnL w.heap.size 53 2 RFl w' va (Ix.mapF l most b) ∧ Below w.heap.size w w' := by
  have Hat := Lib.hid hE
  have Hlm := Lib.hid hl; have Hm := Lib.hid hm; have Hb9 := Lib.hid hb
  clear hE hl hm hb
  have hO := Lib.hid (OwnL.made w.heap.size 53 2 RFl w (Nat.le_refl _))
  have hB := Lib.hid (below_new w (.cells #[] 53))
  go_enter Tryz.func22, Tryz.ntmps22
  go_wp2_with fail
  go_loopw [7, 8] (fun ov iv wr => ∃ k : Nat, k ≤ l.length ∧ k ≤ most ∧ iv = .int .i64 (k : Int) ∧ OwnL w.heap.size 53 2 RFl wr ov (Ix.mapF (l.take k) most b) ∧ Below w.heap.size w wr) (fun _ iv _ => l.length - (intOf iv).toNat)
  case atStart =>
    have h0 : Ix.mapF (l.take 0) most b = [] := by unfold Ix.mapF; simp
    exact ⟨0, Nat.zero_le _, Nat.zero_le _, rfl, by rw [h0]; exact hO.out, hB.out⟩
  case round =>
    clear hO hB
    obtain ⟨k, hk, hkm, rfl, hO, hb⟩ := hrel
    obtain ⟨po, co, rfl⟩ := hO.form
    have HO := Lib.hid hO; have Hb := Lib.hid hb
    clear hO hb
    have more_ : k < l.length ∧ k < most ∨ (k = most ∨ k = l.length) := by omega
    rcases more_ with ⟨hlt, hkm2⟩ | hend
    · obtain ⟨x, hx⟩ : ∃ x, l[k]? = some x := ⟨_, List.getElem?_eq_getElem hlt⟩
      have hsn := Ix.mapF_snoc l most b k x hx hkm2
      have hLn := Ix.mapF_len (l.take k) most b
      obtain ⟨L, hL⟩ : ∃ L, L = Ix.mapF (l.take k) most b := ⟨_, rfl⟩
      rw [← hL] at HO hsn hLn ⊢
      obtain ⟨a, bk, o, sp, vs, rfl, hadr, hbw, hR, hc⟩ := Hat.out k x hx
      obtain ⟨hR, hx1, hx2⟩ := hR
      subst hR
      obtain ⟨xn, xt⟩ := x
      have e0 : wr.cell? ⟨bk, o, sp⟩ = some (.string ⟨xn.toArray⟩) := (Hb.out.cell (p := ⟨bk, o, sp⟩) hbw).trans (hc 0 _ rfl)
      have e1 : wr.cell? ⟨bk, o + 1, none⟩ = some (.string ⟨xt.toArray⟩) := (Hb.out.cell (p := ⟨bk, o + 1, none⟩) hbw).trans (hc 1 _ rfl)
      have hlt' : (k : Int) < (l.length : Int) := by omega
      have hkm' : (k : Int) < (most : Int) := by omega
      have Hwk := Lib.hid (f2_w1 k (by have := Hm.out; omega))
      have Hsn := Lib.hid hsn; have HLn := Lib.hid hLn; have Hlt := Lib.hid hlt; have Hkm := Lib.hid hkm2; have Hx1 := Lib.hid hx1; have Hx2 := Lib.hid hx2
      clear hsn hLn hlt hkm2 hk hkm hx hL hc hbw hx1 hx2
      go_upto_region 5 with fail
      clear hlt' hkm'
      have hk' : (k : Int) < (l.length : Int) := by have := Hlt.out; omega
      go_cut [9] from 24 to 28 (fun pv W => pv = .pointer (some ⟨wr.heap.size, 0, none⟩) ∧ W.cell? ⟨wr.heap.size, 0, none⟩ = some (.string ⟨xn.toArray⟩) ∧ W.cell? ⟨wr.heap.size, 1, none⟩ = some (.string ⟨xt.toArray⟩) ∧ W.frozen? ⟨wr.heap.size, 1, none⟩ = false ∧ Below wr.heap.size wr W)
      case first =>
        go_wp2_with fail
        go_meet
        exact ⟨rfl, by rw [cell_of_row _ _ _ _ _ _ (heap_alloc_new wr _)]; rfl, by rw [cell_of_row _ _ _ _ _ _ (heap_alloc_new wr _)]; rfl, frozen_of_row _ _ _ _ _ (heap_alloc_new wr _), below_new _ _⟩
      case rest =>
        obtain ⟨rfl, c0, c1, f1, hbc⟩ := hcut
        obtain ⟨g, hg⟩ : ∃ g, g = wr.heap.size := ⟨_, rfl⟩
        rw [← hg] at c0 c1 f1 ⊢
        have HgB := Lib.hid (show w.heap.size ≤ g by have := Hb.out.size; omega)
        have HOc := Lib.hid (HO.out.below hbc)
        have Hbc := Lib.hid (Hb.out.trans (hbc.mono Hb.out.size))
        have HgW := Lib.hid (World.block_lt_of_cell? wc _ c0)
        have Hc0 := Lib.hid c0; have Hc1 := Lib.hid c1
        have HOg := Lib.hid (show OwnL w.heap.size 53 2 RFl (wc.setCell ⟨g, 1, none⟩ (.string ⟨(xt.take b).toArray⟩)) (.slice po L.length co) L from by
          obtain ⟨fl, h1, h2⟩ := HO.out
          have hne : ∀ q, (Value.slice po L.length co).ownBlock = some q → q < g := fun q e => by rw [hg]; exact (World.ownsRow.lt h1 q e).2
          obtain ⟨fl', h1', h2'⟩ := HOc.out
          exact ⟨fl', own_at h1' (fun q e => Below.heap_setCell _ _ _ _ (by first | exact Nat.ne_of_lt (hne q e) | exact Nat.ne_of_gt (hne q e))), h2'⟩)
        clear e0 e1 hadr hk' hbc hg
        obtain ⟨q, h1, h2, h3, h4⟩ := cut_textN b xt
        have hq0 : (0 : Int) ≤ (q : Int) := by omega
        clear h2
        go_upto_region 7 with fail
        have d0 : (wc.setCell ⟨g, 1, none⟩ (.string ⟨(xt.take b).toArray⟩)).cell? ⟨g, 0, none⟩ = some (.string ⟨xn.toArray⟩) := (World.cell?_setCell_other _ _ _ _ (by simp)).trans Hc0.out
        have d1 : (wc.setCell ⟨g, 1, none⟩ (.string ⟨(xt.take b).toArray⟩)).cell? ⟨g, 1, none⟩ = some (.string ⟨(xt.take b).toArray⟩) := World.cell?_setCell_same _ _ _ Hc1.out
        have hb7 : Below w.heap.size w (wc.setCell ⟨g, 1, none⟩ (.string ⟨(xt.take b).toArray⟩)) := Hbc.out.setCell (p := ⟨g, 1, none⟩) HgB.out _
        have hcf : Ix.cutF b (xn, xt) = (xn, xt.take b) := rfl
        have hxb : (xt.take b).length ≤ b := by rw [List.length_take]; omega
        rw [hcf] at Hsn
        obtain ⟨xb, hxbe⟩ : ∃ z, z = xt.take b := ⟨_, rfl⟩
        rw [← hxbe] at d0 d1 hb7 HOg Hsn hxb ⊢
        have Hb7 := Lib.hid hb7; have Hxb := Lib.hid hxb
        generalize wc.setCell ⟨g, 1, none⟩ (.string ⟨xb.toArray⟩) = w7 at *
        clear c0 c1 f1 h1 h3 h4 hq0 hb7 hcf hxbe hxb Hc0 Hc1 HOc
        go_wp2_with fail
        refine (ref02_put L xn xb _ (fun _ => True) w7 (OwnL.slice HOg.out RFl.size _ (fun _ _ => trivial)) (by have := HLn.out; have := Hm.out; omega) (by have := Hx1.out; unfold maxLen at this; omega) (by have := Hxb.out; have := Hb9.out; omega)).mono ?_
        have hsn := Hsn.out
        unfold Ix.putM at hsn
        rintro e w8 ⟨va, rfl, hres, hb8⟩
        obtain ⟨pe, hpe⟩ : ∃ z, z = Ix.putE L (xn, xb) := ⟨_, rfl⟩
        rw [← hpe] at hsn hres ⊢
        have Hres := Lib.hid hres; have Hsn2 := Lib.hid hsn; have Hb8 := Lib.hid (Hb7.out.trans (hb8.mono Hb7.out.size)); have HO8 := Lib.hid (HOg.out.below hb8); have H78 := Lib.hid Hb7.out.size
        clear hres hsn hb8 hpe d0 d1 Hsn
        by_cases hz : pe = 0
        · subst hz
          have Hst := Lib.hid (show Ix.mapF (l.take (k + 1)) most b = Ix.putL L (xn, xb) by rw [Hsn2.out, if_pos rfl])
          go_wp2_with fail
          go_roundw
          case rel => exact ⟨k + 1, by have := Hlt.out; omega, by have := Hkm.out; omega, by first | rfl | rw [Hwk.out], by rw [Hst.out]; exact OwnL.lower (Hres.out (by first | rfl | trivial)) H78.out, Hb8.out⟩
          case measure => have := Hlt.out; (try rw [Hwk.out]); simp [intOf]; omega
        · have Hst := Lib.hid (show Ix.mapF (l.take (k + 1)) most b = L by rw [Hsn2.out, if_neg hz])
          have hz' : (pe == 0) = false := by simpa using hz
          clear hz
          go_wp2_with fail
          go_roundw
          case rel => exact ⟨k + 1, by have := Hlt.out; omega, by have := Hkm.out; omega, by first | rfl | rw [Hwk.out], by rw [Hst.out]; exact HO8.out, Hb8.out⟩
          case measure => have := Hlt.out; (try rw [Hwk.out]); simp [intOf]; omega
    · have ht := Ix.mapF_take l most b k hend
      rw [ht] at HO ⊢
      obtain ⟨M, hM⟩ : ∃ M, M = Ix.mapF l most b := ⟨_, rfl⟩
      rw [← hM] at HO ⊢
      have HM := Lib.hid hM
      have hcond : decide ((k : Int) < (l.length : Int)) = false ∨ ((k : Int) < (l.length : Int) ∧ decide ((k : Int) < (most : Int)) = false) := by
        by_cases h : k < l.length
        · exact .inr ⟨by omega, decide_eq_false (by omega)⟩
        · exact .inl (decide_eq_false (by omega))
      obtain ⟨kk, hkk⟩ : ∃ z : Int, z = (k : Int) := ⟨_, rfl⟩
      rw [← hkk] at hcond ⊢
      clear hkk hM ht hend hk hkm
      rcases hcond with hcond | ⟨hcond, hc2⟩
      · go_wp2_with fail
        go_ret
        exact ⟨_, rfl, by rw [← HM.out]; exact HO.out, Hb.out⟩
      · go_wp2_with fail
        go_ret
        exact ⟨_, rfl, by rw [← HM.out]; exact HO.out, Hb.out⟩
end
section
open Go.RowKit
theorem ref14_job (s : List UInt8) (w : World) (hs : s.length ≤ 9223372036854775807) :
    Calls Tryz.prog 48 #[.string ⟨s.toArray⟩] w fun e w' => e = .returned (.bool (Ix.jobOk s)) ∧ w' = w := by
  have hj : Ix.jobOk s = (Ix.nameOk s && decide (s.length ≤ 20)) := rfl
  have Hj := Lib.hid hj; clear hj
  go_enter Tryz.func48, Tryz.ntmps48
  go_wp2_with fail
  refine (ref02_name s w hs).mono ?_
  rintro e w' ⟨rfl, hw'⟩
  have hw' := hw'.symm
  subst hw'
  cases hn : Ix.nameOk s with
  | false =>
    have Hv := Lib.hid (show Ix.jobOk s = false by rw [Hj.out, hn]; rfl)
    clear hn
    go_wp2_with fail
    go_ret
    exact ⟨ret_bool Hv.out.symm, rfl⟩
  | true =>
    by_cases h : s.length ≤ 20
    · have g : decide ((s.length : Int) ≤ 20) = true := decide_eq_true (by omega)
      have Hv := Lib.hid (show Ix.jobOk s = true by rw [Hj.out, hn]; simp [h])
      clear hn h
      go_wp2_with fail
      go_ret
      exact ⟨ret_bool Hv.out.symm, rfl⟩
    · have g : decide ((s.length : Int) ≤ 20) = false := decide_eq_false (by omega)
      have Hv := Lib.hid (show Ix.jobOk s = false by rw [Hj.out, hn]; simp; omega)
      clear hn h
      go_wp2_with fail
      go_ret
      exact ⟨ret_bool Hv.out.symm, rfl⟩
set_option maxRecDepth 100000 in
set_option maxHeartbeats 3200000 in
theorem ref14_log (ns : List (Int × List UInt8)) (v : Value) (S : Nat → Prop) (w : World) (hS : SliceIn S 2 RNote w v ns) (hl : ns.length ≤ 100000) (hx : ∀ x ∈ ns, 1 ≤ x.1 ∧ x.1 ≤ 999999 ∧ x.2.length ≤ 100000) :
    Calls Tryz.prog 52 #[v] w fun e w' => e = .returned (.string ⟨(Ix.logText ns).toArray⟩) ∧ Below w.heap.size w w' := by
  obtain ⟨pa, cap, rfl, hle, hmx, hat⟩ := hS
  have Hat := Lib.hid hat; have Hl := Lib.hid hl; have Hx := Lib.hid hx
  clear hat hl hle hmx hx
  go_enter Tryz.func52, Tryz.ntmps52
  go_wp2_with fail
  go_loopw [3, 4] (fun tv iv wr => ∃ k : Nat, k ≤ ns.length ∧ iv = .int .i64 (k : Int) ∧ tv = .string ⟨(Ix.logText (ns.take k)).toArray⟩ ∧ Below w.heap.size w wr) (fun _ iv _ => ns.length - (intOf iv).toNat)
  case atStart => exact ⟨0, Nat.zero_le _, rfl, rfl, Below.refl _ _⟩
  case round =>
    obtain ⟨k, hk, rfl, rfl, hb⟩ := hrel
    by_cases hlt : k < ns.length
    · obtain ⟨x, hx⟩ : ∃ x, ns[k]? = some x := ⟨_, List.getElem?_eq_getElem hlt⟩
      have hsn : Ix.logText (ns.take (k + 1)) = Ix.logText (ns.take k) ++ ((Ix.dig x.1 ++ [32] ++ x.2) ++ [10]) := by rw [Ix.take_snoc ns k x hx, Ix.logText_snoc]
      have hxb := Hx.out x (List.mem_of_getElem? hx)
      obtain ⟨P, hP⟩ : ∃ P, P = Ix.logText (ns.take k) := ⟨_, rfl⟩
      have hPl : P.length ≤ 10001000000 := by
        have h1 := Ix.logText_length (ns.take k) (fun y hy => (Hx.out y (List.mem_of_mem_take hy)).2.2)
        have h2 : (ns.take k).length ≤ 100000 := by rw [List.length_take]; have := Hl.out; omega
        rw [hP]
        exact Nat.le_trans h1 (Nat.mul_le_mul h2 (Nat.le_refl 100010))
      rw [← hP] at hsn ⊢
      obtain ⟨b, off, vs, rfl, _, hbw, hR, hc⟩ := Hat.out k x hx
      have hR : vs = _ := hR
      subst hR
      obtain ⟨xe, xs⟩ := x
      have Cc := Lib.hid (show ∀ W, Below w.heap.size w W → W.cell? ⟨b, off + k * 2, none⟩ = some (.int .i64 xe) ∧ W.cell? ⟨b, off + k * 2 + 1, none⟩ = some (.string ⟨xs.toArray⟩) from fun W hW => ⟨(hW.cell (p := ⟨b, off + k * 2, none⟩) hbw).trans (hc 0 _ rfl), (hW.cell (p := ⟨b, off + k * 2 + 1, none⟩) hbw).trans (hc 1 _ rfl)⟩)
      have hlt' : (k : Int) < (ns.length : Int) := by omega
      have Hwk := Lib.hid (f2_w1 k (by have := Hl.out; omega))
      obtain ⟨D, hD⟩ : ∃ D, D = Ix.dig xe := ⟨_, rfl⟩
      have hDl : D.length ≤ 6 := by rw [hD]; exact Ix.dig_length xe
      simp only at hsn hxb
      rw [← hD] at hsn
      obtain ⟨A, hA⟩ : ∃ A, A = D ++ [32] := ⟨_, rfl⟩
      obtain ⟨E, hE⟩ : ∃ E, E = A ++ xs := ⟨_, rfl⟩
      obtain ⟨F, hF⟩ : ∃ F, F = E ++ [10] := ⟨_, rfl⟩
      rw [← hA, ← hE, ← hF] at hsn
      have hap1 : (⟨D.toArray⟩ : ByteArray) ++ ⟨#[32]⟩ = ⟨A.toArray⟩ := by rw [hA]; exact append_data D [32]
      have hap2 : (⟨A.toArray⟩ : ByteArray) ++ ⟨xs.toArray⟩ = ⟨E.toArray⟩ := by rw [hE]; exact append_data A xs
      have hap3 : (⟨E.toArray⟩ : ByteArray) ++ ⟨#[10]⟩ = ⟨F.toArray⟩ := by rw [hF]; exact append_data E [10]
      have hap4 : (⟨P.toArray⟩ : ByteArray) ++ ⟨F.toArray⟩ = ⟨(P ++ F).toArray⟩ := append_data P F
      have hAl : A.length = D.length + 1 := by rw [hA]; simp
      have hEl : E.length = D.length + 1 + xs.length := by rw [hE, List.length_append, hAl]
      have hFl : F.length = D.length + 1 + xs.length + 1 := by rw [hF, List.length_append, hEl]; simp
      have hq1 : ¬ 9223372036854775807 < D.length + 1 := by omega
      have hq2 : ¬ 9223372036854775807 < A.length + xs.length := by have := hxb.2.2; omega
      have hq3 : ¬ 9223372036854775807 < E.length + 1 := by have := hxb.2.2; omega
      have hq4 : ¬ 9223372036854775807 < P.length + F.length := by have := hxb.2.2; omega
      have Hb := Lib.hid hb; have Hsn := Lib.hid hsn; have HD := Lib.hid hD; have Hlt := Lib.hid hlt; have Hxb := Lib.hid hxb
      clear hc hx hbw hsn hD hA hE hF hP hPl hDl hAl hEl hFl hlt hk hb hxb
      go_upto_region 5 with fail
      refine wp_region_any (by kernel_rfl) ?_
      change wpAny _ _ _ _ _ _ _ (World.drew _)
      have HBd := Lib.hid (Hb.out.drew)
      have F0 := Lib.hid (Cc.out _ HBd.out)
      clear Hb
      generalize wr.drew = wd' at *
      refine wpAny_of_held (S := fun W => W.cell? ⟨b, off + k * 2, none⟩ = some (.int .i64 xe) ∧ W.cell? ⟨b, off + k * 2 + 1, none⟩ = some (.string ⟨xs.toArray⟩)) _ _ _ _ ?_
      have hS1 : (fun W : World => W.cell? ⟨b, off + k * 2, none⟩ = some (.int .i64 xe) ∧ W.cell? ⟨b, off + k * 2 + 1, none⟩ = some (.string ⟨xs.toArray⟩)) wd' := F0.out
      dsimp only at hS1
      refine wpAnyH_take (i := 0) (v := .string ⟨P.toArray⟩) rfl (by kernel_rfl) (by kernel_rfl) (by kernel_rfl) (fun _ _ _ h => h) (Or.inl ⟨by kernel_rfl, fun W hW => by kernel_rfl⟩) (by assumption) ?_
      try simp only [Act.put, List.getElem_toArray, List.getElem_cons_zero, List.getElem_cons_succ, List.setIfInBounds_toArray, List.set_cons_zero, List.set_cons_succ]
      refine wpAnyH_take (i := 1) (v := .slice (some ⟨b, off, none⟩) ns.length cap) rfl (by kernel_rfl) (by kernel_rfl) (by kernel_rfl) (fun _ _ _ h => h) (Or.inl ⟨by kernel_rfl, fun W hW => by kernel_rfl⟩) (by assumption) ?_
      try simp only [Act.put, List.getElem_toArray, List.getElem_cons_zero, List.getElem_cons_succ, List.setIfInBounds_toArray, List.set_cons_zero, List.set_cons_succ]
      refine wpAnyH_take (i := 2) (v := .int .i64 (k : Int)) rfl (by kernel_rfl) (by kernel_rfl) (by kernel_rfl) (fun _ _ _ h => h) (Or.inl ⟨by kernel_rfl, fun W hW => by kernel_rfl⟩) (by assumption) ?_
      try simp only [Act.put, List.getElem_toArray, List.getElem_cons_zero, List.getElem_cons_succ, List.setIfInBounds_toArray, List.set_cons_zero, List.set_cons_succ]
      refine wpAnyH_take (i := 3) (v := .pointer (some ⟨b, off + k * 2, none⟩)) rfl (by kernel_rfl) (by kernel_rfl) (by kernel_rfl) (fun _ _ _ h => h) (Or.inl ⟨by kernel_rfl, fun W hW => by go_simp⟩) (by assumption) ?_
      try simp only [Act.put, List.getElem_toArray, List.getElem_cons_zero, List.getElem_cons_succ, List.setIfInBounds_toArray, List.set_cons_zero, List.set_cons_succ]
      refine wpAnyH_take (i := 4) (v := .pointer (some ⟨b, off + k * 2, none⟩)) rfl (by kernel_rfl) (by kernel_rfl) (by kernel_rfl) (fun _ _ _ h => h) (Or.inl ⟨by kernel_rfl, fun W hW => by go_simp⟩) (by assumption) ?_
      try simp only [Act.put, List.getElem_toArray, List.getElem_cons_zero, List.getElem_cons_succ, List.setIfInBounds_toArray, List.set_cons_zero, List.set_cons_succ]
      refine wpAnyH_take (i := 5) (v := .int .i64 xe) rfl (by kernel_rfl) (by kernel_rfl) (by kernel_rfl) (fun _ _ _ h => h) (Or.inl ⟨by kernel_rfl, fun W hW => by (obtain ⟨hW0, hW1⟩ := hW; go_simp)⟩) (by assumption) ?_
      try simp only [Act.put, List.getElem_toArray, List.getElem_cons_zero, List.getElem_cons_succ, List.setIfInBounds_toArray, List.set_cons_zero, List.set_cons_succ]
      refine wpAnyH_take (i := 8) (v := .slice (some ⟨b, off, none⟩) ns.length cap) rfl (by kernel_rfl) (by kernel_rfl) (by kernel_rfl) (fun _ _ _ h => h) (Or.inl ⟨by kernel_rfl, fun W hW => by kernel_rfl⟩) (by assumption) ?_
      try simp only [Act.put, List.getElem_toArray, List.getElem_cons_zero, List.getElem_cons_succ, List.setIfInBounds_toArray, List.set_cons_zero, List.set_cons_succ]
      refine wpAnyH_take (i := 9) (v := .int .i64 (k : Int)) rfl (by kernel_rfl) (by kernel_rfl) (by kernel_rfl) (fun _ _ _ h => h) (Or.inl ⟨by kernel_rfl, fun W hW => by kernel_rfl⟩) (by assumption) ?_
      try simp only [Act.put, List.getElem_toArray, List.getElem_cons_zero, List.getElem_cons_succ, List.setIfInBounds_toArray, List.set_cons_zero, List.set_cons_succ]
      refine wpAnyH_take (i := 10) (v := .pointer (some ⟨b, off + k * 2, none⟩)) rfl (by kernel_rfl) (by kernel_rfl) (by kernel_rfl) (fun _ _ _ h => h) (Or.inl ⟨by kernel_rfl, fun W hW => by go_simp⟩) (by assumption) ?_
      try simp only [Act.put, List.getElem_toArray, List.getElem_cons_zero, List.getElem_cons_succ, List.setIfInBounds_toArray, List.set_cons_zero, List.set_cons_succ]
      refine wpAnyH_take (i := 11) (v := .pointer (some ⟨b, off + k * 2 + 1, none⟩)) rfl (by kernel_rfl) (by kernel_rfl) (by kernel_rfl) (fun _ _ _ h => h) (Or.inl ⟨by kernel_rfl, fun W hW => by go_simp⟩) (by assumption) ?_
      try simp only [Act.put, List.getElem_toArray, List.getElem_cons_zero, List.getElem_cons_succ, List.setIfInBounds_toArray, List.set_cons_zero, List.set_cons_succ]
      refine wpAnyH_take (i := 12) (v := .string ⟨xs.toArray⟩) rfl (by kernel_rfl) (by kernel_rfl) (by kernel_rfl) (fun _ _ _ h => h) (Or.inl ⟨by kernel_rfl, fun W hW => by (obtain ⟨hW0, hW1⟩ := hW; go_simp)⟩) (by assumption) ?_
      try simp only [Act.put, List.getElem_toArray, List.getElem_cons_zero, List.getElem_cons_succ, List.setIfInBounds_toArray, List.set_cons_zero, List.set_cons_succ]
      refine wpAnyH_ready (rs := [6]) (by kernel_rfl) (by simp) ?_
      refine AllReadyH.cons rfl (fun K hK => ?_) AllReadyH.nil
      go_simp
      go_wp2_with (go_at_call 39; refine (ref19_dig xe _ Hxb.out.1 Hxb.out.2.1).mono ?_; rw [← HD.out]; rintro e wq1 ⟨rfl, hq⟩; have Hq := Lib.hid (HBd.out.trans (hq.mono HBd.out.size)); clear hq)
      refine hK.out _ _ (Cc.out _ Hq.out) (fun _ => ?_)
      clear K hK
      try simp only [Act.put, List.getElem_toArray, List.getElem_cons_zero, List.getElem_cons_succ, List.setIfInBounds_toArray, List.set_cons_zero, List.set_cons_succ]
      refine wpAnyH_take (i := 7) (v := .string ⟨A.toArray⟩) rfl (by kernel_rfl) (by kernel_rfl) (by kernel_rfl) (fun _ _ _ h => h) (Or.inl ⟨by kernel_rfl, fun W hW => by go_simp⟩) (by assumption) ?_
      try simp only [Act.put, List.getElem_toArray, List.getElem_cons_zero, List.getElem_cons_succ, List.setIfInBounds_toArray, List.set_cons_zero, List.set_cons_succ]
      refine wpAnyH_take (i := 13) (v := .string ⟨E.toArray⟩) rfl (by kernel_rfl) (by kernel_rfl) (by kernel_rfl) (fun _ _ _ h => h) (Or.inl ⟨by kernel_rfl, fun W hW => by go_simp⟩) (by assumption) ?_
      try simp only [Act.put, List.getElem_toArray, List.getElem_cons_zero, List.getElem_cons_succ, List.setIfInBounds_toArray, List.set_cons_zero, List.set_cons_succ]
      refine wpAnyH_take (i := 14) (v := .string ⟨F.toArray⟩) rfl (by kernel_rfl) (by kernel_rfl) (by kernel_rfl) (fun _ _ _ h => h) (Or.inl ⟨by kernel_rfl, fun W hW => by go_simp⟩) (by assumption) ?_
      try simp only [Act.put, List.getElem_toArray, List.getElem_cons_zero, List.getElem_cons_succ, List.setIfInBounds_toArray, List.set_cons_zero, List.set_cons_succ]
      refine wpAnyH_take (i := 15) (v := .string ⟨(P ++ F).toArray⟩) rfl (by kernel_rfl) (by kernel_rfl) (by kernel_rfl) (fun _ _ _ h => h) (Or.inl ⟨by kernel_rfl, fun W hW => by go_simp⟩) (by assumption) ?_
      try simp only [Act.put, List.getElem_toArray, List.getElem_cons_zero, List.getElem_cons_succ, List.setIfInBounds_toArray, List.set_cons_zero, List.set_cons_succ]
      refine wpAnyH_take (i := 16) (v := .string ⟨(P ++ F).toArray⟩) rfl (by kernel_rfl) (by kernel_rfl) (by kernel_rfl) (fun _ _ _ h => h) (Or.inl ⟨by kernel_rfl, fun W hW => by kernel_rfl⟩) (by assumption) ?_
      try simp only [Act.put, List.getElem_toArray, List.getElem_cons_zero, List.getElem_cons_succ, List.setIfInBounds_toArray, List.set_cons_zero, List.set_cons_succ]
      refine wpAnyH_done (by kernel_rfl) ?_ _
      clear hS1
      go_wp2_with fail
      go_roundw
      case rel => exact ⟨k + 1, by have := Hlt.out; omega, by first | rfl | rw [Hwk.out], by rw [Hsn.out], Hq.out⟩
      case measure => have := Hlt.out; (try rw [Hwk.out]); simp [intOf]; omega
    · have he : k = ns.length := by omega
      subst he
      rw [List.take_length]
      obtain ⟨P, hP⟩ : ∃ P, P = Ix.logText ns := ⟨_, rfl⟩
      rw [← hP]
      have HP := Lib.hid hP; have Hb := Lib.hid hb
      clear hlt hk hP hb
      go_wp2_with fail
      go_ret
      exact ⟨by rw [HP.out]; first | done | rfl | simp, Hb.out⟩
def RAll2 (s : List UInt8) (w : World) (e : Ending) (w' : World) : Prop :=
  Below w.heap.size w w' ∧ ∃ (v : Value) (er : Int), OwnL w.heap.size 9 1 RStr w' v ((Sd.all s).getD []) ∧ (∀ t ∈ (Sd.all s).getD [], t.length ≤ s.length) ∧ ((Sd.all s).getD []).length ≤ s.length ∧ ((er = 0) ↔ (Sd.all s).isSome = true) ∧ e = .returned (.tuple #[v, .int .i64 er])
set_option maxRecDepth 100000 in
set_option maxHeartbeats 3200000 in
theorem ref03_all2 (s : List UInt8) (w : World) (hs : s.length ≤ 1000000) :
    Calls Tryz.prog 74 #[.string ⟨s.toArray⟩] w (RAll2 s w) := by
  obtain ⟨i0, hi, hz0, hz1, hz2⟩ := info_parts str_info
  have Hi := Lib.hid hi; have Hz0 := Lib.hid hz0; have Hz1 := Lib.hid hz1; have Hz2 := Lib.hid hz2; clear hi hz0 hz1 hz2
  go_enter Tryz.func74, Tryz.ntmps74
  go_wp2_with fail
  go_loopw [4, 5] (fun vo iv wr => ∃ (k : Nat) (out : List (List UInt8)), k ≤ s.length ∧ iv = .int .i64 (k : Int) ∧ OwnL w.heap.size 9 1 RStr wr vo out ∧ Sd.all s = (Sd.all (s.drop k)).map (out ++ ·) ∧ (∀ t ∈ out, t.length ≤ s.length) ∧ out.length ≤ k ∧ Below w.heap.size w wr) (fun _ iv _ => s.length - (intOf iv).toNat)
  case atStart => exact ⟨0, [], Nat.zero_le _, rfl, OwnL.made _ _ _ _ _ (Nat.le_refl _), by simp, by simp, Nat.le_refl _, below_new w _⟩
  case round =>
    obtain ⟨k, out, hk, rfl, hO, hall, hsm, hol, hb⟩ := hrel
    have HO := Lib.hid hO; have Hall := Lib.hid hall; have Hsm := Lib.hid hsm; have Hb := Lib.hid hb
    clear hO hall hsm hb
    by_cases hlt : k < s.length
    · have hlt' : (k : Int) < (s.length : Int) := by omega
      have hne : s.drop k ≠ [] := by intro h; have := congrArg List.length h; rw [List.length_drop] at this; simp at this; omega
      cases hg : Sd.get (s.drop k) with
      | none =>
        have ha := all_bad _ hne hg
        have Hr := Lib.hid (show Sd.all s = none by rw [Hall.out, ha]; rfl)
        have Hg := Lib.hid hg
        clear hg hne ha
        go_wp2_with (go_at_call 109; refine (ref03_get s k _ (by omega) hk).mono ?_; rintro e w1 ⟨rfl, hm⟩; rw [Hg.out] at hm; obtain ⟨er, h1, h2, rfl⟩ := hm; have her : (er != 0) = true := (by simp; omega))
        go_ret2
        refine ⟨Hb.out, _, er, ?_, ?_, ?_, ?_, rfl⟩
        · rw [Hr.out]; exact OwnL.nil _ _ _ _ _
        · rw [Hr.out]; intro t ht; cases ht
        · rw [Hr.out]; exact Nat.zero_le _
        · rw [Hr.out]; simp; omega
      | some o =>
        obtain ⟨t, r⟩ := o
        have ha := all_eq _ _ _ hg
        have Hr := Lib.hid (show Sd.all s = (Sd.all r).map ((out ++ [t]) ++ ·) by rw [Hall.out, ha, Option.map_map]; congr 1; funext l; simp)
        have Hg := Lib.hid hg
        clear hg hne ha
        obtain ⟨fl, hown, hrep⟩ := HO.out
        have Hown := Lib.hid hown; have Hrep := Lib.hid hrep
        clear hown hrep
        have hout : out.length ≤ 1000000 := by omega
        go_wp2_with (first
          | (go_at_call 109; refine (ref03_get s k _ (by omega) hk).mono ?_; rintro e w1 ⟨rfl, hm⟩; rw [Hg.out] at hm; obtain ⟨k2, hak, hk2, hr, ht, rfl⟩ := hm)
          | (at_builtin; go_loud (refine wpList_append1 rfl (.tmp 24) (.tmp 26) 25 rfl w.heap.size 9 i0 (.string ⟨#[]⟩) 1 16 Tryz.underlying25 Hi.out Hz0.out Hz1.out Hz2.out rfl (by decide) _ _ _ Hown.out rfl [.string ⟨t.toArray⟩] rfl (by simp) rfl (by simp [Value.oneCell']) (by unfold maxLen; omega) (by omega) Hb.out.size ?_); intro v2 w2 own2 g2 at2))
        go_roundw
        case rel =>
          refine ⟨k2, out ++ [t], hk2, rfl, OwnL.more Hrep.out rfl own2, by rw [← hr]; exact Hr.out, ?_, by rw [List.length_append, List.length_singleton]; omega, Hb.out.grown g2 Hb.out.size (fun q e => (Hown.out.lt q e).1)⟩
          intro u hu
          rcases List.mem_append.1 hu with h | h
          · exact Hsm.out u h
          · rw [List.mem_singleton] at h; rw [h]; exact ht
        case measure => simp [intOf]; omega
    · have hlt' : ¬ (k : Int) < (s.length : Int) := by omega
      have hd : s.drop k = [] := List.drop_of_length_le (by omega)
      have Hr := Lib.hid (show Sd.all s = some out by rw [Hall.out, hd, all_nil]; simp)
      go_wp2_with fail
      go_ret2
      refine ⟨Hb.out, _, 0, ?_, ?_, ?_, ?_, rfl⟩
      · rw [Hr.out]; exact HO.out
      · rw [Hr.out]; exact Hsm.out
      · rw [Hr.out]; show out.length ≤ _; omega
      · rw [Hr.out]; simp
def RecOk (t : List UInt8) (x : Ix.En) : Prop := Ix.recE t = some x
theorem recE_some (t a b : List UInt8) (h : Sd.all t = some [a, b]) : Ix.recE t = if (Cnt.value b 0).2 = 0 then some (a, (Cnt.value b 0).1) else none := by unfold Ix.recE; rw [h]
theorem recE_none (t : List UInt8) (h : Sd.all t = none) : Ix.recE t = none := by unfold Ix.recE; rw [h]
theorem recE_len (t : List UInt8) (ts : List (List UInt8)) (h : Sd.all t = some ts) (hl : ts.length ≠ 2) : Ix.recE t = none := by
  unfold Ix.recE
  rw [h]
  match ts, hl with
  | [], _ => rfl
  | [_], _ => rfl
  | [_, _], hl => exact absurd rfl hl
  | _ :: _ :: _ :: _, _ => rfl
theorem recsE_bad (ts : List (List UInt8)) (k : Nat) (t : List UInt8) (out : List Ix.En) (h : ts[k]? = some t) (ho : Ix.recsE (ts.take k) = some out) (hr : Ix.recE t = none) : Ix.recsE ts = none := by
  have hs : ts = ts.take k ++ t :: ts.drop (k + 1) := by
    obtain ⟨h1, h2⟩ := List.getElem?_eq_some_iff.1 h
    rw [← h2, ← List.drop_eq_getElem_cons h1, List.take_append_drop]
  rw [hs, Ix.recsE_split _ _ _ ho]
  unfold Ix.recsE
  rw [hr]
  rfl
theorem recsE_next (ts : List (List UInt8)) (k : Nat) (t : List UInt8) (x : Ix.En) (out : List Ix.En) (h : ts[k]? = some t) (ho : Ix.recsE (ts.take k) = some out) (hr : Ix.recE t = some x) : Ix.recsE (ts.take (k + 1)) = some (out ++ [x]) := by
  rw [Ix.take_snoc ts k t h, Ix.recsE_split _ _ _ ho]
  unfold Ix.recsE
  rw [hr]
  rfl
set_option maxRecDepth 100000 in
set_option maxHeartbeats 3200000 in
theorem ref19_entries (s : List UInt8) (w : World) (hs : s.length ≤ 100000) :
    Calls Tryz.prog 50 #[.string ⟨s.toArray⟩] w fun e w' => ∃ va, e = .returned (.tuple #[va, .bool (Ix.entries s).isSome]) ∧ OwnL w.heap.size 71 2 REn w' va ((Ix.entries s).getD []) ∧ Below w.heap.size w w' := by
  obtain ⟨i0, hi, hz0, hz1, hz2⟩ := info_parts rent_info
  have Hi := Lib.hid hi; have Hz0 := Lib.hid hz0; have Hz1 := Lib.hid hz1; have Hz2 := Lib.hid hz2; clear hi hz0 hz1 hz2
  have Hs := Lib.hid hs; clear hs
  have hent : Ix.entries s = match Sd.all s with | none => none | some ts => Ix.recsE ts := rfl
  have Hent := Lib.hid hent; clear hent
  go_enter Tryz.func50, Tryz.ntmps50
  go_wp2_with fail
  refine (ref03_all2 s w (by have := Hs.out; omega)).mono ?_
  rintro e w1 ⟨hb1, v1, er, hO1, hsm, hln, her, rfl⟩
  obtain ⟨ts, hts⟩ : ∃ ts, ts = (Sd.all s).getD [] := ⟨_, rfl⟩
  rw [← hts] at hO1 hsm hln
  obtain ⟨p1, c1, rfl⟩ := hO1.form
  have S1 := Lib.hid (hO1.slice RStr.size (fun _ => True) (fun _ _ => trivial))
  have Hsm := Lib.hid hsm; have Hln := Lib.hid hln; have Her := Lib.hid her; have Hts := Lib.hid hts; have B1 := Lib.hid hb1
  clear hO1 hsm hln her hts hb1
  have hO := Lib.hid (OwnL.made w1.heap.size 71 2 REn w1 (Nat.le_refl _))
  have hB := Lib.hid (below_new w1 (.cells #[] 71))
  go_wp2_with fail
  go_loopw [6, 7] (fun ov iv wr => ∃ (k : Nat) (out : List Ix.En), k ≤ ts.length ∧ iv = .int .i64 (k : Int) ∧ out.length ≤ k ∧ Ix.recsE (ts.take k) = some out ∧ OwnL w1.heap.size 71 2 REn wr ov out ∧ Below w1.heap.size w1 wr) (fun _ iv _ => ts.length - (intOf iv).toNat)
  case atStart => exact ⟨0, [], Nat.zero_le _, rfl, Nat.zero_le _, by rw [List.take_zero]; rfl, hO.out, hB.out⟩
  case round =>
    clear hO hB
    obtain ⟨k, out, hk, rfl, hol, hrec, hO, hb⟩ := hrel
    obtain ⟨po, co, rfl⟩ := hO.form
    have HO := Lib.hid hO; have Hb := Lib.hid hb; have Hrec := Lib.hid hrec; have Hol := Lib.hid hol
    clear hO hb hrec hol
    by_cases hlt : k < ts.length
    · obtain ⟨t, ht⟩ : ∃ t, ts[k]? = some t := ⟨_, List.getElem?_eq_getElem hlt⟩
      have htl := Hsm.out t (List.mem_of_getElem? ht)
      obtain ⟨p', c', hp', _, _, hat⟩ := S1.out
      simp only [Value.slice.injEq] at hp'
      obtain ⟨rfl, _, rfl⟩ := hp'
      obtain ⟨b, off, vs, rfl, _, hbw, hR, hc⟩ := hat k t ht
      have hR : vs = _ := hR
      subst hR
      have e0 : wr.cell? ⟨b, off + k, none⟩ = some (.string ⟨t.toArray⟩) := by
        have := (Hb.out.cell (p := ⟨b, off + (k * 1 + 0), none⟩) hbw).trans (hc 0 _ rfl)
        rwa [Nat.mul_one, Nat.add_zero] at this
      have hlt' : (k : Int) < (ts.length : Int) := by omega
      have Hwk := Lib.hid (f2_w1 k (by have := Hln.out; have := Hs.out; omega))
      have Hlt := Lib.hid hlt; have Ht := Lib.hid ht; have Htl := Lib.hid htl
      clear hlt hk ht htl hat hc hbw
      go_wp2_with fail
      refine (ref03_all2 t wr (by have := Htl.out; have := Hs.out; omega)).mono ?_
      rintro e w3 ⟨hb3, v3, e3, hO3, hsm3, hln3, her3, rfl⟩
      obtain ⟨xs, hxs⟩ : ∃ xs, xs = (Sd.all t).getD [] := ⟨_, rfl⟩
      rw [← hxs] at hO3 hsm3 hln3
      obtain ⟨p3, c3, rfl⟩ := hO3.form
      have S3 := Lib.hid (hO3.slice RStr.size (fun _ => True) (fun _ _ => trivial))
      have Hsm3 := Lib.hid hsm3; have Her3 := Lib.hid her3; have Hxs := Lib.hid hxs; have B3 := Lib.hid (bseq Hb.out hb3)
      have HO3 := Lib.hid (HO.out.below hb3)
      clear hO3 hsm3 hln3 her3 hxs hb3 e0 Hb HO
      have bad_ : Ix.recE t = none → Ix.entries s = none := fun h => by
        rw [Hent.out]
        have h2 := recsE_bad ts k t out Ht.out Hrec.out h
        cases ha : Sd.all s with
        | none => rfl
        | some us => have : ts = us := by rw [Hts.out, ha]; rfl
                     rw [← this]; exact h2
      have Bad := Lib.hid bad_; clear bad_
      by_cases hz3 : e3 = 0
      · subst hz3
        obtain ⟨us, hus⟩ : ∃ us, Sd.all t = some us := Option.isSome_iff_exists.1 (Her3.out.1 rfl)
        have hxu : xs = us := by rw [Hxs.out, hus]; rfl
        rw [← hxu] at hus
        clear hxu
        by_cases hl2 : xs.length = 2
        · obtain ⟨xa, xb, hab⟩ : ∃ a b, xs = [a, b] := by
            match xs, hl2 with
            | [a, b], _ => exact ⟨a, b, rfl⟩
          rw [hab] at hus
          have hrE := recE_some t xa xb hus
          have S3' := S3.out
          rw [hab] at S3' ⊢
          have hxbl : xb.length ≤ t.length := Hsm3.out xb (by rw [hab]; simp)
          obtain ⟨p', c', hp', _, _, hat⟩ := S3'
          simp only [Value.slice.injEq] at hp'
          obtain ⟨rfl, _, rfl⟩ := hp'
          obtain ⟨b2, off2, vs, hb2o, _, hbw, hR, hc⟩ := hat 1 xb rfl
          have hR : vs = _ := hR
          subst hR
          obtain ⟨b3, off3, vs, hb3o, _, hbw0, hR0, hc0⟩ := hat 0 xa rfl
          have hR0 : vs = _ := hR0
          subst hR0
          rw [hb2o] at hb3o
          simp only [Option.some.injEq, Addr.mk.injEq, and_true] at hb3o
          obtain ⟨rfl, rfl⟩ := hb3o
          subst hb2o
          have Cc := Lib.hid (show ∀ W, Below w3.heap.size w3 W → W.cell? ⟨b2, off2, none⟩ = some (.string ⟨xa.toArray⟩) ∧ W.cell? ⟨b2, off2 + 1, none⟩ = some (.string ⟨xb.toArray⟩) from fun W hW => ⟨by
              have := (hW.cell (p := ⟨b2, off2 + (0 * 1 + 0), none⟩) hbw0).trans (hc0 0 _ rfl)
              simpa using this, by
              have := (hW.cell (p := ⟨b2, off2 + (1 * 1 + 0), none⟩) hbw).trans (hc 0 _ rfl)
              simpa using this⟩)
          have e1 := (Cc.out w3 (Below.refl _ _)).2
          have HrE := Lib.hid hrE; have Hxbl := Lib.hid hxbl
          clear hrE hxbl hat hc hc0 hbw hbw0 hus hab hl2 S3
          go_wp2_with fail
          refine (ref01_value xb 0 w3 (by have := Hxbl.out; have := Htl.out; have := Hs.out; omega)).mono ?_
          rintro e w4 ⟨rfl, hb4⟩
          have e2 := (Cc.out w4 hb4).1
          obtain ⟨nv, ev, hval⟩ : ∃ n e, Cnt.value xb 0 = (n, e) := ⟨_, _, rfl⟩
          rw [hval] at HrE ⊢
          have B4 := Lib.hid (bseq B3.out hb4)
          obtain ⟨fl, hown, hrep⟩ := HO3.out.below hb4
          have Hown := Lib.hid hown; have Hrep := Lib.hid hrep
          have Hm1 := Lib.hid (show out.length + 1 ≤ maxLen by have := Hol.out; have := Hlt.out; have := Hln.out; have := Hs.out; unfold maxLen; omega)
          have Hn1 := Lib.hid (show (out.length + 1) * 24 ≤ 140737488355328 by have := Hol.out; have := Hlt.out; have := Hln.out; have := Hs.out; omega)
          have H0W := Lib.hid B4.out.size
          clear hval hown hrep hb4 e1
          simp only at HrE
          by_cases hev : ev = 0
          · subst hev
            have Hst := Lib.hid (show Ix.recsE (ts.take (k + 1)) = some (out ++ [(xa, nv)]) from recsE_next ts k t (xa, nv) out Ht.out Hrec.out (by rw [HrE.out]; rfl))
            go_wp2_with (at_builtin; go_loud (refine wpList_append1 rfl (.tmp 48) (.tmp 54) 30 rfl w1.heap.size 71 i0 (.agg #[.string ⟨#[]⟩, .int .i64 0]) 2 24 Tryz.underlying30 Hi.out Hz0.out Hz1.out Hz2.out rfl (by decide) _ _ _ Hown.out rfl [.string ⟨xa.toArray⟩, .int .i64 nv] rfl (by simp) rfl (by simp [Value.oneCell']) Hm1.out Hn1.out H0W.out ?_); intro v2 w9 own2 g2 at2; obtain ⟨p2, cap2, hv2, _⟩ := own2.form (Nat.succ_pos _); subst hv2)
            go_roundw
            case rel =>
              refine ⟨k + 1, out ++ [(xa, nv)], by have := Hlt.out; omega, by first | rfl | rw [Hwk.out], by rw [List.length_append]; have := Hol.out; simp; omega, Hst.out, ?_, B4.out.grown g2 H0W.out (fun q e => (World.ownsRow.lt Hown.out q e).1)⟩
              exact ⟨_, by rw [List.length_append]; exact own2, RepRow.snoc (R := REn) (x := (xa, nv)) (vs := [.string ⟨xa.toArray⟩, .int .i64 nv]) rfl Hrep.out⟩
            case measure => have := Hlt.out; (try rw [Hwk.out]); simp [intOf]; omega
          · have hev' : (ev != 0) = true := by simpa using hev
            have Hn := Lib.hid (Bad.out (by rw [HrE.out, if_neg hev]))
            clear hev
            go_wp2_with fail
            go_ret2
            exact ⟨.slice none 0 0, by rw [Hn.out]; rfl, by rw [Hn.out]; exact OwnL.nil _ _ _ _ _, bseq B1.out B4.out⟩
        · have hl2' : ((xs.length : Int) != 2) = true := by simp; omega
          have Hn := Lib.hid (Bad.out (recE_len t xs hus hl2))
          clear hl2 hus
          go_wp2_with fail
          go_ret2
          exact ⟨.slice none 0 0, by rw [Hn.out]; rfl, by rw [Hn.out]; exact OwnL.nil _ _ _ _ _, bseq B1.out B3.out⟩
      · have hz3' : (e3 != 0) = true := by simpa using hz3
        have hno : Sd.all t = none := by
          cases ha : Sd.all t with
          | none => rfl
          | some us => exact absurd (Her3.out.2 (by rw [ha]; rfl)) hz3
        have Hn := Lib.hid (Bad.out (recE_none t hno))
        clear hz3 hno
        go_wp2_with fail
        go_ret2
        exact ⟨.slice none 0 0, by rw [Hn.out]; rfl, by rw [Hn.out]; exact OwnL.nil _ _ _ _ _, bseq B1.out B3.out⟩
    · have he : k = ts.length := by omega
      subst he
      have hrec := Hrec.out
      rw [List.take_length] at hrec
      have hfin : (Ix.entries s).isSome = (er == 0) ∧ (Ix.entries s).getD [] = out := by
        rw [Hent.out]
        cases ha : Sd.all s with
        | none =>
          have h0 : ¬ er = 0 := fun e => by have := Her.out.1 e; rw [ha] at this; cases this
          have ht0 : ts = [] := by rw [Hts.out, ha]; rfl
          rw [ht0] at hrec
          have : out = [] := by unfold Ix.recsE at hrec; cases hrec; rfl
          rw [this]
          exact ⟨by simp; exact h0, rfl⟩
        | some us =>
          have h0 : er = 0 := Her.out.2 (by rw [ha]; rfl)
          have : ts = us := by rw [Hts.out, ha]; rfl
          rw [← this, h0]
          simp only [hrec]
          exact ⟨rfl, rfl⟩
      have Hfin := Lib.hid hfin
      clear hlt hk hrec hfin
      go_wp2_with fail
      go_ret2
      exact ⟨.slice po out.length co, by rw [Hfin.out.1]; first | done | rfl | simp, by rw [Hfin.out.2]; exact OwnL.lower HO.out B1.out.size, bseq B1.out Hb.out⟩
end
section
open Go.RowKit
theorem notes_err (es : List Ix.En) : ∀ x ∈ Ix.notes es, (1 ≤ x.1 ∧ x.1 ≤ 999999) ∧ ∃ y ∈ es, y.1 = x.2 := by
  intro x hx
  unfold Ix.notes at hx
  obtain ⟨y, hy, hxy⟩ := List.mem_filterMap.1 hx
  cases hb : Ix.bad y with
  | none => rw [hb] at hxy; cases hxy
  | some e =>
    rw [hb] at hxy
    cases hxy
    refine ⟨?_, y, hy, rfl⟩
    unfold Ix.bad at hb
    split at hb
    · split at hb
      · cases hb; exact ⟨by simp, by simp⟩
      · cases hb
    · cases hb; exact ⟨by simp, by simp⟩
set_option maxRecDepth 100000 in
set_option maxHeartbeats 6400000 in
theorem ref19_run (l : List Ix.Fl) (job : List UInt8) (v : Value) (S : Nat → Prop) (w : World) (hS : SliceIn S 2 RFl w v l) (hl : l.length ≤ 100000) (ht : ∀ x ∈ l, x.2.length ≤ 10000) (hj : job.length ≤ 9223372036854775807) :
    Calls Tryz.prog 23 #[v, .string ⟨job.toArray⟩] w (RunPost l job w) := by
  have HS := Lib.hid hS; have Hl := Lib.hid hl; have Ht := Lib.hid ht; have Hj := Lib.hid hj
  clear hS hl ht hj
  obtain ⟨i0, hi, hz0, hz1, hz2⟩ := info_parts note_info
  have Hi := Lib.hid hi; have Hz0 := Lib.hid hz0; have Hz1 := Lib.hid hz1; have Hz2 := Lib.hid hz2; clear hi hz0 hz1 hz2
  cases hjb : Ix.jobOk job with
  | false =>
    have HR := Lib.hid (show Ix.run l job = none by unfold Ix.run; rw [hjb]; rfl)
    have Hjb := Lib.hid hjb; clear hjb
    go_enter Tryz.func23, Tryz.ntmps23
    go_wp2_with fail
    refine (ref14_job job _ Hj.out).mono ?_
    rw [Hjb.out]
    rintro e w' ⟨rfl, hw'⟩
    have hw' := hw'.symm
    subst hw'
    go_wp2_with fail
    go_ret3
    refine ⟨Below.refl _ _, ?_⟩
    rw [HR.out]
    simp
  | true =>
    obtain ⟨tx, htx⟩ : ∃ t, t = (Ix.get l (job ++ Ix.idx)).getD [] := ⟨_, rfl⟩
    have HR := Lib.hid (show Ix.run l job = some (Ix.filesOf tx job) by unfold Ix.run; rw [hjb, htx]; rfl)
    have htl : tx.length ≤ 10000 := by
      rw [htx]
      cases hg : Ix.get l (job ++ Ix.idx) with
      | none => simp
      | some s =>
        obtain ⟨x, hx, rfl⟩ := Ix.get_mem hg
        exact Ht.out x hx
    have hj20 : job.length ≤ 20 := by
      unfold Ix.jobOk at hjb
      simp at hjb
      exact hjb.2
    have Hjb := Lib.hid hjb; have Htx := Lib.hid htx; have Htl := Lib.hid htl; have Hj20 := Lib.hid hj20
    clear hjb htx htl hj20
    have hap : (⟨job.toArray⟩ : ByteArray) ++ ⟨#[46, 105, 100, 120]⟩ = ⟨(job ++ Ix.idx).toArray⟩ := append_data job Ix.idx
    have hap3 : (⟨job.toArray⟩ : ByteArray) ++ ⟨#[46, 105, 110, 100]⟩ = ⟨(job ++ Ix.ind).toArray⟩ := append_data job Ix.ind
    have hap4 : (⟨job.toArray⟩ : ByteArray) ++ ⟨#[46, 105, 108, 103]⟩ = ⟨(job ++ Ix.ilg).toArray⟩ := append_data job Ix.ilg
    have hq1 : ¬ 9223372036854775807 < job.length + 4 := by have := Hj20.out; omega
    go_enter Tryz.func23, Tryz.ntmps23
    go_wp2_with fail
    refine (ref14_job job _ Hj.out).mono ?_
    rw [Hjb.out]
    rintro e w' ⟨rfl, hw'⟩
    have hw' := hw'.symm
    subst hw'
    go_wp2_with fail
    refine (ref02_get l (job ++ Ix.idx) v S w HS.out Hl.out).mono ?_
    rw [← Htx.out]
    rintro e w' ⟨rfl, hw'⟩
    have hw' := hw'.symm
    subst hw'
    obtain ⟨isg, hisg⟩ : ∃ b, b = (Ix.get l (job ++ Ix.idx)).isSome := ⟨_, rfl⟩
    rw [← hisg]
    clear hisg
    go_wp2_with fail
    refine (ref19_entries tx w (by have := Htl.out; omega)).mono ?_
    rintro e w2 ⟨ve, rfl, hE, hb2⟩
    obtain ⟨es, hes⟩ : ∃ es, es = (Ix.entries tx).getD [] := ⟨_, rfl⟩
    have hesl : es.length ≤ 10000 ∧ ∀ x ∈ es, x.1.length ≤ 10000 := by
      have h := Ix.entries_small tx
      rw [← hes] at h
      have := Htl.out
      exact ⟨by omega, fun x hx => by have := h.2 x hx; omega⟩
    rw [← hes] at hE
    obtain ⟨ok, hok⟩ : ∃ ok, ok = (Ix.entries tx).isSome := ⟨_, rfl⟩
    rw [← hok]
    have HE := Lib.hid hE; have Hb2 := Lib.hid hb2; have Hes := Lib.hid hes; have Hesl := Lib.hid hesl; have Hok := Lib.hid hok
    clear hE hb2 hes hesl hok
    go_wp2_with fail
    refine (ref19_Lines es ve (fun _ => True) w2 (HE.out.slice REn.size (fun _ => True) (fun _ _ => trivial)) Hesl.out.1 Hesl.out.2).mono ?_
    rintro e w3 ⟨vl, vn, rfl, hLn, hNt, hb3⟩
    obtain ⟨pl, cl, rfl⟩ := hLn.form
    obtain ⟨pn, cn, rfl⟩ := hNt.form
    have hLn := hLn.lower (B' := w.heap.size) Hb2.out.size
    have hNt := hNt.lower (B' := w.heap.size) Hb2.out.size
    have HLn := Lib.hid hLn; have HNt := Lib.hid hNt; have Hb3 := Lib.hid (bseq Hb2.out hb3)
    clear hLn hNt hb3
    go_upto_if 37 with fail
    go_cut [12] from 36 to 42 (fun nv W => ∃ p c, nv = .slice p (Ix.notes1 tx job).length c ∧ OwnL w.heap.size 67 2 RNote W nv (Ix.notes1 tx job) ∧ OwnL w.heap.size 9 1 RStr W (.slice pl (Ix.lines es).length cl) (Ix.lines es) ∧ Below w.heap.size w W)
    case first =>
      cases ok with
      | true =>
        have hn1 : Ix.notes1 tx job = Ix.notes es := by unfold Ix.notes1; rw [← Hok.out, ← Hes.out]; simp
        have Hn1 := Lib.hid hn1; clear hn1
        go_wp2_with fail
        go_meet
        rw [Hn1.out]
        exact ⟨_, _, rfl, HNt.out, HLn.out, Hb3.out⟩
      | false =>
        have hen : Ix.entries tx = none := by
          cases h : Ix.entries tx with
          | none => rfl
          | some o => have := Hok.out; rw [h] at this; cases this
        have hn1 : Ix.notes1 tx job = [(5, job ++ Ix.idx)] := by unfold Ix.notes1; rw [hen]; rfl
        have Hn1 := Lib.hid hn1; clear hn1 hen
        have hob := own_built w3 w.heap.size 67 2 1 [.int .i64 5, .string ⟨(job ++ Ix.idx).toArray⟩] Hb3.out.size rfl (by unfold maxLen; omega)
        have hbn := below_new w3 (.cells #[.int .i64 5, .string ⟨(job ++ Ix.idx).toArray⟩] 67)
        have Hob := Lib.hid hob; have Hbn := Lib.hid hbn
        clear hob hbn
        go_wp2_with fail
        go_meet
        rw [Hn1.out]
        exact ⟨_, _, rfl, ⟨_, Hob.out, ⟨[.int .i64 5, .string ⟨(job ++ Ix.idx).toArray⟩], [], by simp, rfl, rfl⟩⟩, HLn.out.below Hbn.out, bseq Hb3.out Hbn.out⟩
    case rest =>
      obtain ⟨p1, c1, rfl, hN1, hL1, hbc⟩ := hcut
      have hN0 : (Ix.notes1 tx job).length ≤ 10001 := by
        unfold Ix.notes1
        rw [← Hes.out, List.length_append]
        have h1 := Ix.notes_length es
        have h2 := Hesl.out.1
        have h3 : (if (Ix.entries tx).isSome = true then ([] : List (Int × List UInt8)) else [(5, job ++ Ix.idx)]).length ≤ 1 := by split <;> simp
        omega
      have HN1 := Lib.hid hN1; have HN0 := Lib.hid hN0
      have HC := Lib.hid hbc
      have HLat := Lib.hid (hL1.slice (fun _ _ h => by rw [RStr.two h]; rfl) (fun _ => True) (fun _ _ => trivial))
      have Hll := Lib.hid (Ix.line_length es Hesl.out.1 Hesl.out.2)
      have Hln := Lib.hid (show (Ix.lines es).length ≤ 20000 by have := Ix.lines_length es; have := Hesl.out.1; omega)
      clear hN1 hL1 hbc hN0
      go_wp2_with fail
      go_loopw [13, 14] (fun sv iv wr => ∃ k : Nat, k ≤ (Ix.lines es).length ∧ iv = .int .i64 (k : Int) ∧ sv = .string ⟨(Ix.putsOut ((Ix.lines es).take k)).toArray⟩ ∧ Below wc.heap.size wc wr) (fun _ iv _ => (Ix.lines es).length - (intOf iv).toNat)
      case atStart => exact ⟨0, Nat.zero_le _, rfl, rfl, Below.refl _ _⟩
      case round =>
        obtain ⟨k, hk, rfl, rfl, hb⟩ := hrel
        have Hb := Lib.hid hb; clear hb
        by_cases hlt : k < (Ix.lines es).length
        · obtain ⟨t, ht⟩ : ∃ t, (Ix.lines es)[k]? = some t := ⟨_, List.getElem?_eq_getElem hlt⟩
          obtain ⟨p', c', hp', _, _, hat⟩ := HLat.out
          simp only [Value.slice.injEq] at hp'
          obtain ⟨rfl, _, rfl⟩ := hp'
          obtain ⟨b, off, vs, rfl, _, hbw, hR, hc⟩ := hat k t ht
          have hR := RStr.two hR
          subst hR
          have e0 : wr.cell? ⟨b, off + k, none⟩ = some (.string ⟨t.toArray⟩) := by
            have := (Hb.out.cell (p := ⟨b, off + (k * 1 + 0), none⟩) hbw).trans (hc 0 _ rfl)
            rwa [Nat.mul_one, Nat.add_zero] at this
          have hlt' : (k : Int) < ((Ix.lines es).length : Int) := by omega
          have htl1 := Hll.out t (List.mem_of_getElem? ht)
          obtain ⟨P, hP⟩ : ∃ P, P = Ix.putsOut ((Ix.lines es).take k) := ⟨_, rfl⟩
          have hPl : P.length ≤ 6200360000 := by
            have h1 := Ix.putsOut_length ((Ix.lines es).take k) (fun y hy => Hll.out y (List.mem_of_mem_take hy))
            have h2 : ((Ix.lines es).take k).length ≤ 20000 := by rw [List.length_take]; have := Hln.out; omega
            have h3 : ((Ix.lines es).take k).length * 310018 ≤ 6200360000 := by omega
            rw [hP]
            exact Nat.le_trans h1 h3
          have hnext : Ix.putsOut ((Ix.lines es).take (k + 1)) = P ++ Sd.put t := by rw [Ix.take_snoc _ k t ht, Ix.putsOut_snoc, hP]
          have hpl := Sd.put_le t (by omega)
          obtain ⟨pt, hpt⟩ : ∃ pt, pt = Sd.put t := ⟨_, rfl⟩
          rw [← hpt] at hnext hpl
          have hq2 : ¬ 9223372036854775807 < P.length + pt.length := by omega
          have hap2 : (⟨P.toArray⟩ : ByteArray) ++ ⟨pt.toArray⟩ = ⟨(P ++ pt).toArray⟩ := append_data P pt
          have Hwk := Lib.hid (f2_w1 k (by have := Hln.out; omega))
          rw [← hP]
          have Hnext := Lib.hid hnext; have Hpt := Lib.hid hpt; have Htl1 := Lib.hid htl1; have Hlt := Lib.hid hlt
          clear hnext hpt htl1 hPl hpl hP ht hat hc hlt
          go_wp2_with fail
          refine (ref03_put t _ (by have := Htl1.out; omega)).mono ?_
          rw [← Hpt.out]
          rintro e w5 ⟨rfl, hb5⟩
          have Hb5 := Lib.hid hb5; clear hb5
          go_wp2_with fail
          go_roundw
          case rel => exact ⟨k + 1, by have := Hlt.out; omega, by first | rfl | rw [Hwk.out], by rw [Hnext.out], bseq Hb.out Hb5.out⟩
          case measure => have := Hlt.out; (try rw [Hwk.out]); simp [intOf]; omega
        · have he : k = (Ix.lines es).length := by omega
          subst he
          rw [List.take_length]
          have hout : Ix.putsOut (Ix.lines es) = Ix.outOf tx := by unfold Ix.outOf; rw [← Hes.out]
          have hol : (Ix.outOf tx).length ≤ 6200360000 := by
            rw [← hout]
            have h1 := Ix.putsOut_length (Ix.lines es) Hll.out
            have h2 := Hln.out
            have h3 : (Ix.lines es).length * 310018 ≤ 6200360000 := by omega
            exact Nat.le_trans h1 h3
          rw [hout]
          obtain ⟨out, houte⟩ : ∃ o, o = Ix.outOf tx := ⟨_, rfl⟩
          rw [← houte] at hol ⊢
          have Hout := Lib.hid houte; have Hol := Lib.hid hol
          clear hlt hk hout houte hol
          go_upto_if 57 with fail
          go_cut [12] from 55 to 64 (fun nv W => ∃ p c, nv = .slice p (Ix.notes2 tx job).length c ∧ OwnL w.heap.size 67 2 RNote W nv (Ix.notes2 tx job) ∧ Below w.heap.size w W)
          case first =>
            by_cases h4 : 4000 < out.length
            · have hn2 : Ix.notes2 tx job = Ix.notes1 tx job ++ [(3, job ++ Ix.ind)] := by unfold Ix.notes2; rw [← Hout.out, if_pos h4]
              have Hn2 := Lib.hid hn2; clear hn2
              obtain ⟨fl, hown, hrep⟩ := HN1.out.below (bseq (Below.refl _ wc) Hb.out)
              have Hown := Lib.hid hown; have Hrep := Lib.hid hrep
              clear hown hrep
              have Hom := Lib.hid (show (Ix.notes1 tx job).length + 1 ≤ maxLen by have := HN0.out; unfold maxLen; omega)
              have Ho24 := Lib.hid (show ((Ix.notes1 tx job).length + 1) * 24 ≤ 140737488355328 by have := HN0.out; omega)
              have H0W := Lib.hid (show w.heap.size ≤ wr.heap.size by have := HC.out.size; have := Hb.out.size; omega)
              go_wp2_with (at_builtin; go_loud (refine wpList_append1 rfl (.tmp 58) (.tmp 62) 26 rfl w.heap.size 67 i0 (.agg #[.int .i64 0, .string ⟨#[]⟩]) 2 24 Tryz.underlying26 Hi.out Hz0.out Hz1.out Hz2.out rfl (by decide) _ _ _ Hown.out rfl [.int .i64 3, .string ⟨(job ++ Ix.ind).toArray⟩] rfl (by simp) rfl (by simp [Value.oneCell']) Hom.out Ho24.out H0W.out ?_); intro v2 w9 own2 g2 at2; obtain ⟨p2, cap2, hv2, _⟩ := own2.form (Nat.succ_pos _); subst hv2)
              go_meet
              rw [Hn2.out]
              exact ⟨_, _, by rw [List.length_append]; rfl, ⟨_, by rw [List.length_append]; exact own2, RepRow.snoc (R := RNote) (x := ((3 : Int), job ++ Ix.ind)) (vs := [.int .i64 3, .string ⟨(job ++ Ix.ind).toArray⟩]) rfl Hrep.out⟩, (HC.out.trans (Hb.out.mono HC.out.size)).grown g2 H0W.out (fun q e => (World.ownsRow.lt Hown.out q e).1)⟩
            · have hn2 : Ix.notes2 tx job = Ix.notes1 tx job := by unfold Ix.notes2; rw [← Hout.out, if_neg h4, List.append_nil]
              have Hn2 := Lib.hid hn2; clear hn2
              go_wp2_with fail
              go_meet
              rw [Hn2.out]
              exact ⟨_, _, rfl, HN1.out.below (bseq (Below.refl _ wc) Hb.out), HC.out.trans (Hb.out.mono HC.out.size)⟩
          case rest =>
            obtain ⟨p2, c2, rfl, hN2, hb2⟩ := hcut
            have hnl : (Ix.notes2 tx job).length ≤ 10002 := by
              unfold Ix.notes2
              rw [List.length_append]
              have h1 := HN0.out
              have h3 : (if 4000 < (Ix.outOf tx).length then [((3 : Int), job ++ Ix.ind)] else []).length ≤ 1 := by split <;> simp
              omega
            have hnx : ∀ x ∈ Ix.notes2 tx job, 1 ≤ x.1 ∧ x.1 ≤ 999999 ∧ x.2.length ≤ 100000 := by
              intro x hx
              have hjl := Hj20.out
              unfold Ix.notes2 Ix.notes1 at hx
              rw [← Hes.out] at hx
              rcases List.mem_append.1 hx with hx | hx
              · rcases List.mem_append.1 hx with hx | hx
                · obtain ⟨h1, y, hy, he⟩ := notes_err es x hx
                  have := Hesl.out.2 y hy
                  exact ⟨h1.1, h1.2, by rw [← he]; omega⟩
                · split at hx
                  · simp at hx
                  · rw [List.mem_singleton] at hx
                    subst hx
                    refine ⟨by simp, by simp, ?_⟩
                    show (job ++ Ix.idx).length ≤ 100000
                    rw [List.length_append]
                    show job.length + 4 ≤ 100000
                    omega
              · split at hx
                · rw [List.mem_singleton] at hx
                  subst hx
                  refine ⟨by simp, by simp, ?_⟩
                  show (job ++ Ix.ind).length ≤ 100000
                  rw [List.length_append]
                  show job.length + 4 ≤ 100000
                  omega
                · simp at hx
            have HN2 := Lib.hid (hN2.slice RNote.size (fun _ => True) (fun _ _ => trivial))
            have Hb2' := Lib.hid hb2; have Hnl := Lib.hid hnl; have Hnx := Lib.hid hnx
            clear hN2 hb2 hnl hnx
            go_wp2_with fail
            refine (ref14_log (Ix.notes2 tx job) _ _ wc HN2.out (by have := Hnl.out; omega) Hnx.out).mono ?_
            rintro e w6 ⟨rfl, hb6⟩
            have Hb6 := Lib.hid (bseq Hb2'.out hb6); clear hb6
            obtain ⟨lt, hlt⟩ : ∃ t, t = Ix.logText (Ix.notes2 tx job) := ⟨_, rfl⟩
            rw [← hlt]
            have Hlt := Lib.hid hlt; clear hlt
            obtain ⟨q1, k1, k2, k3, k4⟩ := cut_textN 4000 lt
            obtain ⟨q2, m1, m2, m3, m4⟩ := cut_textN 4000 out
            have hk0 : (0 : Int) ≤ (q1 : Int) := by omega
            have hm0 : (0 : Int) ≤ (q2 : Int) := by omega
            have k5 : min (lt.length : Int) 4000 = (q1 : Int) := by simpa using k1
            have m5 : min (out.length : Int) 4000 = (q2 : Int) := by simpa using m1
            clear k1 k2 m1 m2
            go_upto_region 16 with fail
            refine wp_region_any (by kernel_rfl) ?_
            change wpAny _ _ _ _ _ _ _ (World.drew _)
            have HBd := Lib.hid (Hb6.out.drew)
            clear Hb6
            generalize w6.drew = wd' at *
            refine wpAny_of_held (S := fun _ => True) _ _ _ _ ?_
            have hS1 : (fun _ : World => True) wd' := trivial
            dsimp only at hS1
            refine wpAnyH_take (i := 0) (v := .string ⟨job.toArray⟩) rfl (by kernel_rfl) (by kernel_rfl) (by kernel_rfl) (fun _ _ _ h => h) (Or.inl ⟨by kernel_rfl, fun W hW => by kernel_rfl⟩) (by assumption) ?_
            try simp only [Act.put, List.getElem_toArray, List.getElem_cons_zero, List.getElem_cons_succ, List.setIfInBounds_toArray, List.set_cons_zero, List.set_cons_succ]
            refine wpAnyH_take (i := 1) (v := .string ⟨(job ++ Ix.ilg).toArray⟩) rfl (by kernel_rfl) (by kernel_rfl) (by kernel_rfl) (fun _ _ _ h => h) (Or.inl ⟨by kernel_rfl, fun W hW => by go_simp⟩) (by assumption) ?_
            try simp only [Act.put, List.getElem_toArray, List.getElem_cons_zero, List.getElem_cons_succ, List.setIfInBounds_toArray, List.set_cons_zero, List.set_cons_succ]
            refine wpAnyH_take (i := 2) (v := .string ⟨lt.toArray⟩) rfl (by kernel_rfl) (by kernel_rfl) (by kernel_rfl) (fun _ _ _ h => h) (Or.inl ⟨by kernel_rfl, fun W hW => by kernel_rfl⟩) (by assumption) ?_
            try simp only [Act.put, List.getElem_toArray, List.getElem_cons_zero, List.getElem_cons_succ, List.setIfInBounds_toArray, List.set_cons_zero, List.set_cons_succ]
            refine wpAnyH_take (i := 3) (v := .string ⟨lt.toArray⟩) rfl (by kernel_rfl) (by kernel_rfl) (by kernel_rfl) (fun _ _ _ h => h) (Or.inl ⟨by kernel_rfl, fun W hW => by kernel_rfl⟩) (by assumption) ?_
            try simp only [Act.put, List.getElem_toArray, List.getElem_cons_zero, List.getElem_cons_succ, List.setIfInBounds_toArray, List.set_cons_zero, List.set_cons_succ]
            refine wpAnyH_take (i := 4) (v := .int .i64 (lt.length : Int)) rfl (by kernel_rfl) (by kernel_rfl) (by kernel_rfl) (fun _ _ _ h => h) (Or.inl ⟨by kernel_rfl, fun W hW => by go_simp⟩) (by assumption) ?_
            try simp only [Act.put, List.getElem_toArray, List.getElem_cons_zero, List.getElem_cons_succ, List.setIfInBounds_toArray, List.set_cons_zero, List.set_cons_succ]
            refine wpAnyH_take (i := 5) (v := .int .i64 (q1 : Int)) rfl (by kernel_rfl) (by kernel_rfl) (by kernel_rfl) (fun _ _ _ h => h) (Or.inl ⟨by kernel_rfl, fun W hW => by go_simp⟩) (by assumption) ?_
            try simp only [Act.put, List.getElem_toArray, List.getElem_cons_zero, List.getElem_cons_succ, List.setIfInBounds_toArray, List.set_cons_zero, List.set_cons_succ]
            refine wpAnyH_take (i := 6) (v := .string ⟨(lt.take 4000).toArray⟩) rfl (by kernel_rfl) (by kernel_rfl) (by kernel_rfl) (fun _ _ _ h => h) (Or.inl ⟨by kernel_rfl, fun W hW => by go_simp⟩) (by assumption) ?_
            try simp only [Act.put, List.getElem_toArray, List.getElem_cons_zero, List.getElem_cons_succ, List.setIfInBounds_toArray, List.set_cons_zero, List.set_cons_succ]
            refine wpAnyH_take (i := 7) (v := .agg #[.string ⟨(job ++ Ix.ilg).toArray⟩, .string ⟨(lt.take 4000).toArray⟩]) rfl (by kernel_rfl) (by kernel_rfl) (by kernel_rfl) (fun _ _ _ h => h) (Or.inl ⟨by kernel_rfl, fun W hW => by kernel_rfl⟩) (by assumption) ?_
            try simp only [Act.put, List.getElem_toArray, List.getElem_cons_zero, List.getElem_cons_succ, List.setIfInBounds_toArray, List.set_cons_zero, List.set_cons_succ]
            refine wpAnyH_take (i := 8) (v := .string ⟨job.toArray⟩) rfl (by kernel_rfl) (by kernel_rfl) (by kernel_rfl) (fun _ _ _ h => h) (Or.inl ⟨by kernel_rfl, fun W hW => by kernel_rfl⟩) (by assumption) ?_
            try simp only [Act.put, List.getElem_toArray, List.getElem_cons_zero, List.getElem_cons_succ, List.setIfInBounds_toArray, List.set_cons_zero, List.set_cons_succ]
            refine wpAnyH_take (i := 9) (v := .string ⟨(job ++ Ix.ind).toArray⟩) rfl (by kernel_rfl) (by kernel_rfl) (by kernel_rfl) (fun _ _ _ h => h) (Or.inl ⟨by kernel_rfl, fun W hW => by go_simp⟩) (by assumption) ?_
            try simp only [Act.put, List.getElem_toArray, List.getElem_cons_zero, List.getElem_cons_succ, List.setIfInBounds_toArray, List.set_cons_zero, List.set_cons_succ]
            refine wpAnyH_take (i := 10) (v := .string ⟨out.toArray⟩) rfl (by kernel_rfl) (by kernel_rfl) (by kernel_rfl) (fun _ _ _ h => h) (Or.inl ⟨by kernel_rfl, fun W hW => by kernel_rfl⟩) (by assumption) ?_
            try simp only [Act.put, List.getElem_toArray, List.getElem_cons_zero, List.getElem_cons_succ, List.setIfInBounds_toArray, List.set_cons_zero, List.set_cons_succ]
            refine wpAnyH_take (i := 11) (v := .string ⟨out.toArray⟩) rfl (by kernel_rfl) (by kernel_rfl) (by kernel_rfl) (fun _ _ _ h => h) (Or.inl ⟨by kernel_rfl, fun W hW => by kernel_rfl⟩) (by assumption) ?_
            try simp only [Act.put, List.getElem_toArray, List.getElem_cons_zero, List.getElem_cons_succ, List.setIfInBounds_toArray, List.set_cons_zero, List.set_cons_succ]
            refine wpAnyH_take (i := 12) (v := .int .i64 (out.length : Int)) rfl (by kernel_rfl) (by kernel_rfl) (by kernel_rfl) (fun _ _ _ h => h) (Or.inl ⟨by kernel_rfl, fun W hW => by go_simp⟩) (by assumption) ?_
            try simp only [Act.put, List.getElem_toArray, List.getElem_cons_zero, List.getElem_cons_succ, List.setIfInBounds_toArray, List.set_cons_zero, List.set_cons_succ]
            refine wpAnyH_take (i := 13) (v := .int .i64 (q2 : Int)) rfl (by kernel_rfl) (by kernel_rfl) (by kernel_rfl) (fun _ _ _ h => h) (Or.inl ⟨by kernel_rfl, fun W hW => by go_simp⟩) (by assumption) ?_
            try simp only [Act.put, List.getElem_toArray, List.getElem_cons_zero, List.getElem_cons_succ, List.setIfInBounds_toArray, List.set_cons_zero, List.set_cons_succ]
            refine wpAnyH_take (i := 14) (v := .string ⟨(out.take 4000).toArray⟩) rfl (by kernel_rfl) (by kernel_rfl) (by kernel_rfl) (fun _ _ _ h => h) (Or.inl ⟨by kernel_rfl, fun W hW => by go_simp⟩) (by assumption) ?_
            try simp only [Act.put, List.getElem_toArray, List.getElem_cons_zero, List.getElem_cons_succ, List.setIfInBounds_toArray, List.set_cons_zero, List.set_cons_succ]
            refine wpAnyH_take (i := 15) (v := .agg #[.string ⟨(job ++ Ix.ind).toArray⟩, .string ⟨(out.take 4000).toArray⟩]) rfl (by kernel_rfl) (by kernel_rfl) (by kernel_rfl) (fun _ _ _ h => h) (Or.inl ⟨by kernel_rfl, fun W hW => by kernel_rfl⟩) (by assumption) ?_
            try simp only [Act.put, List.getElem_toArray, List.getElem_cons_zero, List.getElem_cons_succ, List.setIfInBounds_toArray, List.set_cons_zero, List.set_cons_succ]
            refine wpAnyH_take (i := 17) (v := .string ⟨job.toArray⟩) rfl (by kernel_rfl) (by kernel_rfl) (by kernel_rfl) (fun _ _ _ h => h) (Or.inl ⟨by kernel_rfl, fun W hW => by kernel_rfl⟩) (by assumption) ?_
            try simp only [Act.put, List.getElem_toArray, List.getElem_cons_zero, List.getElem_cons_succ, List.setIfInBounds_toArray, List.set_cons_zero, List.set_cons_succ]
            refine wpAnyH_take (i := 18) (v := .string ⟨(job ++ Ix.idx).toArray⟩) rfl (by kernel_rfl) (by kernel_rfl) (by kernel_rfl) (fun _ _ _ h => h) (Or.inl ⟨by kernel_rfl, fun W hW => by go_simp⟩) (by assumption) ?_
            try simp only [Act.put, List.getElem_toArray, List.getElem_cons_zero, List.getElem_cons_succ, List.setIfInBounds_toArray, List.set_cons_zero, List.set_cons_succ]
            refine wpAnyH_ready (rs := [16, 19]) (by kernel_rfl) (by simp) ?_
            refine AllReadyH.cons rfl (fun K hK => ?_) (AllReadyH.cons rfl (fun K hK => ?_) AllReadyH.nil)
            · go_simp
              obtain ⟨wA, hwA⟩ : ∃ W, W = wd'.alloc (.cells #[.string ⟨(job ++ Ix.ilg).toArray⟩, .string ⟨(lt.take 4000).toArray⟩, .string ⟨(job ++ Ix.ind).toArray⟩, .string ⟨(out.take 4000).toArray⟩] 53) := ⟨_, rfl⟩
              obtain ⟨gA, hgA⟩ : ∃ z, z = wd'.heap.size := ⟨_, rfl⟩
              have hA := own_built wd' w.heap.size 53 2 2 [.string ⟨(job ++ Ix.ilg).toArray⟩, .string ⟨(lt.take 4000).toArray⟩, .string ⟨(job ++ Ix.ind).toArray⟩, .string ⟨(out.take 4000).toArray⟩] HBd.out.size rfl (by unfold maxLen; omega)
              have hbA : Below wd'.heap.size wd' wA := by rw [hwA]; exact below_new _ _
              rw [← hwA, ← hgA] at hA
              rw [← hwA, ← hgA]
              have HA := Lib.hid hA; have HbA := Lib.hid (bseq HBd.out hbA)
              clear hA hbA hwA hgA
              refine hK.out _ _ trivial (fun _ => ?_)
              clear K hK
              try simp only [Act.put, List.getElem_toArray, List.getElem_cons_zero, List.getElem_cons_succ, List.setIfInBounds_toArray, List.set_cons_zero, List.set_cons_succ]
              refine wpAnyH_take (i := 20) (v := .slice (some ⟨gA, 0, none⟩) 2 2) rfl (by kernel_rfl) (by kernel_rfl) (by kernel_rfl) (fun _ _ _ h => h) (Or.inl ⟨by kernel_rfl, fun W hW => by kernel_rfl⟩) (by assumption) ?_
              try simp only [Act.put, List.getElem_toArray, List.getElem_cons_zero, List.getElem_cons_succ, List.setIfInBounds_toArray, List.set_cons_zero, List.set_cons_succ]
              refine wpAnyH_ready (rs := [19]) (by kernel_rfl) (by simp) ?_
              refine AllReadyH.cons rfl (fun K hK => ?_) AllReadyH.nil
              go_simp
              obtain ⟨wB, hwB⟩ : ∃ W, W = wA.alloc (.cells #[.string ⟨(job ++ Ix.idx).toArray⟩] 9) := ⟨_, rfl⟩
              obtain ⟨gB, hgB⟩ : ∃ z, z = wA.heap.size := ⟨_, rfl⟩
              have hB := own_built wA w.heap.size 9 1 1 [.string ⟨(job ++ Ix.idx).toArray⟩] HbA.out.size rfl (by unfold maxLen; omega)
              have hbB : Below wA.heap.size wA wB := by rw [hwB]; exact below_new _ _
              rw [← hwB, ← hgB] at hB
              rw [← hwB, ← hgB]
              have HBo := Lib.hid hB; have HbB := Lib.hid (bseq HbA.out hbB); have HA2 := Lib.hid (own_below9 HA.out hbB)
              clear hB hbB hwB hgB
              refine hK.out _ _ trivial (fun _ => ?_)
              clear K hK
              try simp only [Act.put, List.getElem_toArray, List.getElem_cons_zero, List.getElem_cons_succ, List.setIfInBounds_toArray, List.set_cons_zero, List.set_cons_succ]
              refine wpAnyH_take (i := 21) (v := .slice (some ⟨gB, 0, none⟩) 1 1) rfl (by kernel_rfl) (by kernel_rfl) (by kernel_rfl) (fun _ _ _ h => h) (Or.inl ⟨by kernel_rfl, fun W hW => by kernel_rfl⟩) (by assumption) ?_
              try simp only [Act.put, List.getElem_toArray, List.getElem_cons_zero, List.getElem_cons_succ, List.setIfInBounds_toArray, List.set_cons_zero, List.set_cons_succ]
              refine wpAnyH_take (i := 22) (v := .int .i64 0) rfl (by kernel_rfl) (by kernel_rfl) (by kernel_rfl) (fun _ _ _ h => h) (Or.inl ⟨by kernel_rfl, fun W hW => by kernel_rfl⟩) (by assumption) ?_
              try simp only [Act.put, List.getElem_toArray, List.getElem_cons_zero, List.getElem_cons_succ, List.setIfInBounds_toArray, List.set_cons_zero, List.set_cons_succ]
              refine wpAnyH_done (by kernel_rfl) ?_ _
              clear hS1
              go_wp2_with fail
              go_ret3
              refine ⟨HbB.out, ?_⟩
              rw [HR.out]
              refine ⟨.slice (some ⟨gA, 0, none⟩) 2 2, .slice (some ⟨gB, 0, none⟩) 1 1, by simp, ?_, ?_⟩
              · unfold Ix.filesOf
                rw [← Hlt.out, ← Hout.out]
                exact ⟨_, HA2.out, ⟨_, _, rfl, rfl, _, _, rfl, rfl, rfl⟩⟩
              · exact ⟨_, HBo.out, ⟨_, _, rfl, rfl, rfl⟩⟩
            · go_simp
              obtain ⟨wA, hwA⟩ : ∃ W, W = wd'.alloc (.cells #[.string ⟨(job ++ Ix.idx).toArray⟩] 9) := ⟨_, rfl⟩
              obtain ⟨gA, hgA⟩ : ∃ z, z = wd'.heap.size := ⟨_, rfl⟩
              have hA := own_built wd' w.heap.size 9 1 1 [.string ⟨(job ++ Ix.idx).toArray⟩] HBd.out.size rfl (by unfold maxLen; omega)
              have hbA : Below wd'.heap.size wd' wA := by rw [hwA]; exact below_new _ _
              rw [← hwA, ← hgA] at hA
              rw [← hwA, ← hgA]
              have HA := Lib.hid hA; have HbA := Lib.hid (bseq HBd.out hbA)
              clear hA hbA hwA hgA
              refine hK.out _ _ trivial (fun _ => ?_)
              clear K hK
              try simp only [Act.put, List.getElem_toArray, List.getElem_cons_zero, List.getElem_cons_succ, List.setIfInBounds_toArray, List.set_cons_zero, List.set_cons_succ]
              refine wpAnyH_ready (rs := [16]) (by kernel_rfl) (by simp) ?_
              refine AllReadyH.cons rfl (fun K hK => ?_) AllReadyH.nil
              go_simp
              obtain ⟨wB, hwB⟩ : ∃ W, W = wA.alloc (.cells #[.string ⟨(job ++ Ix.ilg).toArray⟩, .string ⟨(lt.take 4000).toArray⟩, .string ⟨(job ++ Ix.ind).toArray⟩, .string ⟨(out.take 4000).toArray⟩] 53) := ⟨_, rfl⟩
              obtain ⟨gB, hgB⟩ : ∃ z, z = wA.heap.size := ⟨_, rfl⟩
              have hB := own_built wA w.heap.size 53 2 2 [.string ⟨(job ++ Ix.ilg).toArray⟩, .string ⟨(lt.take 4000).toArray⟩, .string ⟨(job ++ Ix.ind).toArray⟩, .string ⟨(out.take 4000).toArray⟩] HbA.out.size rfl (by unfold maxLen; omega)
              have hbB : Below wA.heap.size wA wB := by rw [hwB]; exact below_new _ _
              rw [← hwB, ← hgB] at hB
              rw [← hwB, ← hgB]
              have HBo := Lib.hid hB; have HbB := Lib.hid (bseq HbA.out hbB); have HA2 := Lib.hid (own_below9 HA.out hbB)
              clear hB hbB hwB hgB
              refine hK.out _ _ trivial (fun _ => ?_)
              clear K hK
              try simp only [Act.put, List.getElem_toArray, List.getElem_cons_zero, List.getElem_cons_succ, List.setIfInBounds_toArray, List.set_cons_zero, List.set_cons_succ]
              refine wpAnyH_take (i := 20) (v := .slice (some ⟨gB, 0, none⟩) 2 2) rfl (by kernel_rfl) (by kernel_rfl) (by kernel_rfl) (fun _ _ _ h => h) (Or.inl ⟨by kernel_rfl, fun W hW => by kernel_rfl⟩) (by assumption) ?_
              try simp only [Act.put, List.getElem_toArray, List.getElem_cons_zero, List.getElem_cons_succ, List.setIfInBounds_toArray, List.set_cons_zero, List.set_cons_succ]
              refine wpAnyH_take (i := 21) (v := .slice (some ⟨gA, 0, none⟩) 1 1) rfl (by kernel_rfl) (by kernel_rfl) (by kernel_rfl) (fun _ _ _ h => h) (Or.inl ⟨by kernel_rfl, fun W hW => by kernel_rfl⟩) (by assumption) ?_
              try simp only [Act.put, List.getElem_toArray, List.getElem_cons_zero, List.getElem_cons_succ, List.setIfInBounds_toArray, List.set_cons_zero, List.set_cons_succ]
              refine wpAnyH_take (i := 22) (v := .int .i64 0) rfl (by kernel_rfl) (by kernel_rfl) (by kernel_rfl) (fun _ _ _ h => h) (Or.inl ⟨by kernel_rfl, fun W hW => by kernel_rfl⟩) (by assumption) ?_
              try simp only [Act.put, List.getElem_toArray, List.getElem_cons_zero, List.getElem_cons_succ, List.setIfInBounds_toArray, List.set_cons_zero, List.set_cons_succ]
              refine wpAnyH_done (by kernel_rfl) ?_ _
              clear hS1
              go_wp2_with fail
              go_ret3
              refine ⟨HbB.out, ?_⟩
              rw [HR.out]
              refine ⟨.slice (some ⟨gB, 0, none⟩) 2 2, .slice (some ⟨gA, 0, none⟩) 1 1, by simp, ?_, ?_⟩
              · unfold Ix.filesOf
                rw [← Hlt.out, ← Hout.out]
                exact ⟨_, HBo.out, ⟨_, _, rfl, rfl, _, _, rfl, rfl, rfl⟩⟩
              · exact ⟨_, HA2.out, ⟨_, _, rfl, rfl, rfl⟩⟩
end
section
open Go.RowKit
namespace Ix
theorem cmpB_pre : ∀ (p a b : List UInt8), cmpB (p ++ a) (p ++ b) = cmpB a b
  | [], a, b => rfl
  | x :: p, a, b => by
    rw [List.cons_append, List.cons_append, cmpB_cons, if_neg (UInt8.lt_irrefl x), if_neg (UInt8.lt_irrefl x)]
    exact cmpB_pre p a b
/-- what files.Right asks of a list -/
structure RightOk (l : List Fl) : Prop where
  each : ∀ x ∈ l, nameOk x.1 = true ∧ x.2.length ≤ 4000
  up : ∀ k x y, l[k]? = some x → l[k + 1]? = some y → Op.bytesLess x.1 y.1 = true
  len : l.length ≤ 32
theorem name_more (job e : List UInt8) (h : jobOk job = true) (he : e.all nameB = true) (hl : e.length = 4) : nameOk (job ++ e) = true := by
  unfold jobOk nameOk at h
  simp only [Bool.and_eq_true, decide_eq_true_eq] at h
  unfold nameOk
  rw [List.all_append, h.1.1, he, List.length_append, hl]
  simp
  omega
theorem filesOf_right (tx job : List UInt8) (h : jobOk job = true) : RightOk (filesOf tx job) := by
  have h1 := name_more job ilg h (by decide +kernel) rfl
  have h2 := name_more job ind h (by decide +kernel) rfl
  refine ⟨fun x hx => ?_, fun k x y hx hy => ?_, by unfold filesOf; simp⟩
  · unfold filesOf at hx
    simp only [List.mem_cons, List.not_mem_nil, or_false] at hx
    rcases hx with rfl | rfl
    · exact ⟨h1, by show (List.take 4000 _).length ≤ 4000; rw [List.length_take]; omega⟩
    · exact ⟨h2, by show (List.take 4000 _).length ≤ 4000; rw [List.length_take]; omega⟩
  · unfold filesOf at hx hy
    cases k with
    | zero =>
      simp at hx hy
      subst hx; subst hy
      show Op.bytesLess (job ++ ilg) (job ++ ind) = true
      rw [less_cmp, cmpB_pre]
      decide
    | succ k => simp at hy
end Ix
set_option maxRecDepth 100000 in
set_option maxHeartbeats 3200000 in
theorem files_right (l : List Ix.Fl) (v : Value) (S : Nat → Prop) (w : World) (hS : SliceIn S 2 RFl w v l) (hR : Ix.RightOk l) :
    Calls Tryz.prog 25 #[v] w fun e w' => e = .returned (.bool true) ∧ Below w.heap.size w w' := by
  obtain ⟨pa, cap, rfl, hle, hmx, hat⟩ := hS
  have Hat := Lib.hid hat; have HR := Lib.hid hR
  clear hat hR hle hmx
  go_enter Tryz.func25, Tryz.ntmps25
  go_wp2_with fail
  go_loopw [7] (fun iv wr => ∃ k : Nat, k ≤ l.length ∧ iv = .int .i64 (k : Int) ∧ Below w.heap.size w wr) (fun iv _ => l.length - (intOf iv).toNat)
  case atStart => exact ⟨0, Nat.zero_le _, rfl, Below.refl _ _⟩
  case round =>
    obtain ⟨k, hk, rfl, hb⟩ := hrel
    by_cases hlt : k < l.length
    · obtain ⟨x, hx⟩ : ∃ x, l[k]? = some x := ⟨_, List.getElem?_eq_getElem hlt⟩
      obtain ⟨hx1, hx2⟩ := HR.out.each x (List.mem_of_getElem? hx)
      have hup : ∀ k0 y, k = k0 + 1 → l[k0]? = some y → Op.bytesLess y.1 x.1 = true := fun k0 y e hy => HR.out.up k0 y x hy (by rw [← e]; exact hx)
      obtain ⟨b, off, vs, rfl, _, hbw, hRv, hc⟩ := Hat.out k x hx
      have hRv : vs = _ := hRv
      subst hRv
      obtain ⟨xn, xt⟩ := x
      have e0 : wr.cell? ⟨b, off + k * 2, none⟩ = some (.string ⟨xn.toArray⟩) := (hb.cell (p := ⟨b, off + k * 2, none⟩) hbw).trans (hc 0 _ rfl)
      have e1 : wr.cell? ⟨b, off + k * 2 + 1, none⟩ = some (.string ⟨xt.toArray⟩) := (hb.cell (p := ⟨b, off + k * 2 + 1, none⟩) hbw).trans (hc 1 _ rfl)
      have hlt' : (k : Int) < (l.length : Int) := by omega
      have Hwk := Lib.hid (f2_w1 k (by have := HR.out.len; omega))
      simp only at hx1 hx2 hup
      have hnl : xn.length ≤ 24 := by unfold Ix.nameOk at hx1; simp at hx1; exact hx1.2.2
      have Hb := Lib.hid hb; have Hlt := Lib.hid hlt; have Hx1 := Lib.hid hx1; have Hx2 := Lib.hid hx2; have Hup := Lib.hid hup; have Hnl := Lib.hid hnl
      clear hb hlt hk hx1 hx2 hup hx hc hbw hnl
      go_upto_region 4 with fail
      obtain ⟨wa, hwa⟩ : ∃ W, W = wr.alloc (.cells #[.string ⟨xn.toArray⟩, .string ⟨xt.toArray⟩] 53) := ⟨_, rfl⟩
      have f0 : wa.cell? ⟨wr.heap.size, 0, none⟩ = some (.string ⟨xn.toArray⟩) := by rw [hwa, cell_of_row _ _ _ _ _ _ (heap_alloc_new wr _)]; rfl
      have f1 : wa.cell? ⟨wr.heap.size, 1, none⟩ = some (.string ⟨xt.toArray⟩) := by rw [hwa, cell_of_row _ _ _ _ _ _ (heap_alloc_new wr _)]; rfl
      have hba : Below wr.heap.size wr wa := by rw [hwa]; exact below_new _ _
      obtain ⟨g, hg⟩ : ∃ g, g = wr.heap.size := ⟨_, rfl⟩
      rw [← hg] at f0 f1
      rw [← hwa, ← hg]
      have Hba := Lib.hid (bseq Hb.out hba)
      clear hwa hg hba e0 e1 hlt'
      have h4 : ¬ 4000 < xt.length := by have := Hx2.out; omega
      cases k with
      | zero =>
        go_cut [36] from 12 to 36 (fun v W => v = .bool false ∧ Below wa.heap.size wa W)
        case first =>
          refine wp_region_any (by kernel_rfl) ?_
          change wpAny _ _ _ _ _ _ _ (World.drew _)
          have HBd := Lib.hid (show Below wa.heap.size wa wa.drew from (Below.refl _ _).drew)
          have F0 := Lib.hid (show (fun W : World => W.cell? ⟨g, 0, none⟩ = some (.string ⟨xn.toArray⟩) ∧ W.cell? ⟨g, 1, none⟩ = some (.string ⟨xt.toArray⟩)) wa.drew from ⟨f0, f1⟩)
          generalize wa.drew = wd' at *
          refine wpAny_of_held (S := fun W => W.cell? ⟨g, 0, none⟩ = some (.string ⟨xn.toArray⟩) ∧ W.cell? ⟨g, 1, none⟩ = some (.string ⟨xt.toArray⟩)) _ _ _ _ ?_
          have hS1 : (fun W : World => W.cell? ⟨g, 0, none⟩ = some (.string ⟨xn.toArray⟩) ∧ W.cell? ⟨g, 1, none⟩ = some (.string ⟨xt.toArray⟩)) wd' := F0.out
          dsimp only at hS1
          refine wpAnyH_take (i := 0) (v := .pointer (some ⟨g, 0, none⟩)) rfl (by kernel_rfl) (by kernel_rfl) (by kernel_rfl) (fun _ _ _ h => h) (Or.inl ⟨by kernel_rfl, fun W hW => by go_simp⟩) (by assumption) ?_
          try simp only [Act.put, List.getElem_toArray, List.getElem_cons_zero, List.getElem_cons_succ, List.setIfInBounds_toArray, List.set_cons_zero, List.set_cons_succ]
          refine wpAnyH_take (i := 1) (v := .string ⟨xn.toArray⟩) rfl (by kernel_rfl) (by kernel_rfl) (by kernel_rfl) (fun _ _ _ h => h) (Or.inl ⟨by kernel_rfl, fun W hW => by (obtain ⟨hW0, hW1⟩ := hW; go_simp)⟩) (by assumption) ?_
          try simp only [Act.put, List.getElem_toArray, List.getElem_cons_zero, List.getElem_cons_succ, List.setIfInBounds_toArray, List.set_cons_zero, List.set_cons_succ]
          refine wpAnyH_ready (rs := [2]) (by kernel_rfl) (by simp) ?_
          refine AllReadyH.cons rfl (fun K hK => ?_) AllReadyH.nil
          go_simp
          go_wp2_with (go_at_call 53; refine (files_name xn _ (by have := Hnl.out; omega)).mono ?_; rw [Hx1.out]; rintro e w' ⟨rfl, hw'⟩; have hw' := hw'.symm; subst hw')
          refine hK.out _ _ (hS1) (fun _ => ?_)
          clear K hK
          try simp only [Act.put, List.getElem_toArray, List.getElem_cons_zero, List.getElem_cons_succ, List.setIfInBounds_toArray, List.set_cons_zero, List.set_cons_succ]
          refine wpAnyH_take (i := 3) (v := .bool false) rfl (by kernel_rfl) (by kernel_rfl) (by kernel_rfl) (fun _ _ _ h => h) (Or.inl ⟨by kernel_rfl, fun W hW => by go_simp⟩) (by assumption) ?_
          try simp only [Act.put, List.getElem_toArray, List.getElem_cons_zero, List.getElem_cons_succ, List.setIfInBounds_toArray, List.set_cons_zero, List.set_cons_succ]
          refine wpAnyH_take (i := 4) (v := .bool false) rfl (by kernel_rfl) (by kernel_rfl) (by kernel_rfl) (fun _ _ _ h => h) (Or.inl ⟨by kernel_rfl, fun W hW => by go_simp⟩) (by assumption) ?_
          try simp only [Act.put, List.getElem_toArray, List.getElem_cons_zero, List.getElem_cons_succ, List.setIfInBounds_toArray, List.set_cons_zero, List.set_cons_succ]
          refine wpAnyH_take (i := 5) (v := .pointer (some ⟨g, 1, none⟩)) rfl (by kernel_rfl) (by kernel_rfl) (by kernel_rfl) (fun _ _ _ h => h) (Or.inl ⟨by kernel_rfl, fun W hW => by go_simp⟩) (by assumption) ?_
          try simp only [Act.put, List.getElem_toArray, List.getElem_cons_zero, List.getElem_cons_succ, List.setIfInBounds_toArray, List.set_cons_zero, List.set_cons_succ]
          refine wpAnyH_take (i := 6) (v := .string ⟨xt.toArray⟩) rfl (by kernel_rfl) (by kernel_rfl) (by kernel_rfl) (fun _ _ _ h => h) (Or.inl ⟨by kernel_rfl, fun W hW => by (obtain ⟨hW0, hW1⟩ := hW; go_simp)⟩) (by assumption) ?_
          try simp only [Act.put, List.getElem_toArray, List.getElem_cons_zero, List.getElem_cons_succ, List.setIfInBounds_toArray, List.set_cons_zero, List.set_cons_succ]
          refine wpAnyH_take (i := 7) (v := .int .i64 (xt.length : Int)) rfl (by kernel_rfl) (by kernel_rfl) (by kernel_rfl) (fun _ _ _ h => h) (Or.inl ⟨by kernel_rfl, fun W hW => by go_simp⟩) (by assumption) ?_
          try simp only [Act.put, List.getElem_toArray, List.getElem_cons_zero, List.getElem_cons_succ, List.setIfInBounds_toArray, List.set_cons_zero, List.set_cons_succ]
          refine wpAnyH_take (i := 8) (v := .bool false) rfl (by kernel_rfl) (by kernel_rfl) (by kernel_rfl) (fun _ _ _ h => h) (Or.inl ⟨by kernel_rfl, fun W hW => by (go_simp; have := Hx2.out; omega)⟩) (by assumption) ?_
          try simp only [Act.put, List.getElem_toArray, List.getElem_cons_zero, List.getElem_cons_succ, List.setIfInBounds_toArray, List.set_cons_zero, List.set_cons_succ]
          refine wpAnyH_take (i := 9) (v := .bool false) rfl (by kernel_rfl) (by kernel_rfl) (by kernel_rfl) (fun _ _ _ h => h) (Or.inl ⟨by kernel_rfl, fun W hW => by go_simp⟩) (by assumption) ?_
          try simp only [Act.put, List.getElem_toArray, List.getElem_cons_zero, List.getElem_cons_succ, List.setIfInBounds_toArray, List.set_cons_zero, List.set_cons_succ]
          refine wpAnyH_take (i := 10) (v := .bool false) rfl (by kernel_rfl) (by kernel_rfl) (by kernel_rfl) (fun _ _ _ h => h) (Or.inl ⟨by kernel_rfl, fun W hW => by go_simp⟩) (by assumption) ?_
          try simp only [Act.put, List.getElem_toArray, List.getElem_cons_zero, List.getElem_cons_succ, List.setIfInBounds_toArray, List.set_cons_zero, List.set_cons_succ]
          refine wpAnyH_take (i := 11) (v := .int .i64 0) rfl (by kernel_rfl) (by kernel_rfl) (by kernel_rfl) (fun _ _ _ h => h) (Or.inl ⟨by kernel_rfl, fun W hW => by go_simp⟩) (by assumption) ?_
          try simp only [Act.put, List.getElem_toArray, List.getElem_cons_zero, List.getElem_cons_succ, List.setIfInBounds_toArray, List.set_cons_zero, List.set_cons_succ]
          refine wpAnyH_take (i := 12) (v := .bool false) rfl (by kernel_rfl) (by kernel_rfl) (by kernel_rfl) (fun _ _ _ h => h) (Or.inl ⟨by kernel_rfl, fun W hW => by go_simp⟩) (by assumption) ?_
          try simp only [Act.put, List.getElem_toArray, List.getElem_cons_zero, List.getElem_cons_succ, List.setIfInBounds_toArray, List.set_cons_zero, List.set_cons_succ]
          refine wpAnyH_take (i := 13) (v := .bool false) rfl (by kernel_rfl) (by kernel_rfl) (by kernel_rfl) (fun _ _ _ h => h) (Or.inl ⟨by kernel_rfl, fun W hW => by go_simp⟩) (by assumption) ?_
          try simp only [Act.put, List.getElem_toArray, List.getElem_cons_zero, List.getElem_cons_succ, List.setIfInBounds_toArray, List.set_cons_zero, List.set_cons_succ]
          refine wpAnyH_take (i := 14) (v := undef) rfl (by kernel_rfl) (by kernel_rfl) (by kernel_rfl) (fun _ _ _ h => h) (Or.inr ⟨by kernel_rfl, rfl⟩) (by assumption) ?_
          try simp only [Act.put, List.getElem_toArray, List.getElem_cons_zero, List.getElem_cons_succ, List.setIfInBounds_toArray, List.set_cons_zero, List.set_cons_succ]
          refine wpAnyH_take (i := 15) (v := undef) rfl (by kernel_rfl) (by kernel_rfl) (by kernel_rfl) (fun _ _ _ h => h) (Or.inr ⟨by kernel_rfl, rfl⟩) (by assumption) ?_
          try simp only [Act.put, List.getElem_toArray, List.getElem_cons_zero, List.getElem_cons_succ, List.setIfInBounds_toArray, List.set_cons_zero, List.set_cons_succ]
          refine wpAnyH_take (i := 16) (v := undef) rfl (by kernel_rfl) (by kernel_rfl) (by kernel_rfl) (fun _ _ _ h => h) (Or.inr ⟨by kernel_rfl, rfl⟩) (by assumption) ?_
          try simp only [Act.put, List.getElem_toArray, List.getElem_cons_zero, List.getElem_cons_succ, List.setIfInBounds_toArray, List.set_cons_zero, List.set_cons_succ]
          refine wpAnyH_take (i := 17) (v := undef) rfl (by kernel_rfl) (by kernel_rfl) (by kernel_rfl) (fun _ _ _ h => h) (Or.inr ⟨by kernel_rfl, rfl⟩) (by assumption) ?_
          try simp only [Act.put, List.getElem_toArray, List.getElem_cons_zero, List.getElem_cons_succ, List.setIfInBounds_toArray, List.set_cons_zero, List.set_cons_succ]
          refine wpAnyH_take (i := 18) (v := undef) rfl (by kernel_rfl) (by kernel_rfl) (by kernel_rfl) (fun _ _ _ h => h) (Or.inr ⟨by kernel_rfl, rfl⟩) (by assumption) ?_
          try simp only [Act.put, List.getElem_toArray, List.getElem_cons_zero, List.getElem_cons_succ, List.setIfInBounds_toArray, List.set_cons_zero, List.set_cons_succ]
          refine wpAnyH_take (i := 19) (v := undef) rfl (by kernel_rfl) (by kernel_rfl) (by kernel_rfl) (fun _ _ _ h => h) (Or.inr ⟨by kernel_rfl, rfl⟩) (by assumption) ?_
          try simp only [Act.put, List.getElem_toArray, List.getElem_cons_zero, List.getElem_cons_succ, List.setIfInBounds_toArray, List.set_cons_zero, List.set_cons_succ]
          refine wpAnyH_take (i := 20) (v := undef) rfl (by kernel_rfl) (by kernel_rfl) (by kernel_rfl) (fun _ _ _ h => h) (Or.inr ⟨by kernel_rfl, rfl⟩) (by assumption) ?_
          try simp only [Act.put, List.getElem_toArray, List.getElem_cons_zero, List.getElem_cons_succ, List.setIfInBounds_toArray, List.set_cons_zero, List.set_cons_succ]
          refine wpAnyH_take (i := 21) (v := undef) rfl (by kernel_rfl) (by kernel_rfl) (by kernel_rfl) (fun _ _ _ h => h) (Or.inr ⟨by kernel_rfl, rfl⟩) (by assumption) ?_
          try simp only [Act.put, List.getElem_toArray, List.getElem_cons_zero, List.getElem_cons_succ, List.setIfInBounds_toArray, List.set_cons_zero, List.set_cons_succ]
          refine wpAnyH_take (i := 22) (v := undef) rfl (by kernel_rfl) (by kernel_rfl) (by kernel_rfl) (fun _ _ _ h => h) (Or.inr ⟨by kernel_rfl, rfl⟩) (by assumption) ?_
          try simp only [Act.put, List.getElem_toArray, List.getElem_cons_zero, List.getElem_cons_succ, List.setIfInBounds_toArray, List.set_cons_zero, List.set_cons_succ]
          refine wpAnyH_take (i := 23) (v := .bool false) rfl (by kernel_rfl) (by kernel_rfl) (by kernel_rfl) (fun _ _ _ h => h) (Or.inl ⟨by kernel_rfl, fun W hW => by go_simp⟩) (by assumption) ?_
          try simp only [Act.put, List.getElem_toArray, List.getElem_cons_zero, List.getElem_cons_succ, List.setIfInBounds_toArray, List.set_cons_zero, List.set_cons_succ]
          refine wpAnyH_take (i := 24) (v := .bool false) rfl (by kernel_rfl) (by kernel_rfl) (by kernel_rfl) (fun _ _ _ h => h) (Or.inl ⟨by kernel_rfl, fun W hW => by go_simp⟩) (by assumption) ?_
          try simp only [Act.put, List.getElem_toArray, List.getElem_cons_zero, List.getElem_cons_succ, List.setIfInBounds_toArray, List.set_cons_zero, List.set_cons_succ]
          refine wpAnyH_done (by kernel_rfl) ?_ _
          clear hS1
          go_wp2_with fail
          go_meet
          exact ⟨rfl, HBd.out⟩
        case rest =>
          obtain ⟨rfl, hbc⟩ := hcut
          have Hbc := Lib.hid (bseq Hba.out hbc)
          clear hbc f0 f1 h4
          go_wp2_with fail
          go_roundw
          case rel => exact ⟨0 + 1, by have := Hlt.out; omega, by first | rfl | rw [Hwk.out] | go_num, Hbc.out⟩
          case measure => have := Hlt.out; (try rw [Hwk.out]); simp [intOf]; omega
      | succ k0 =>
        obtain ⟨y, hy⟩ : ∃ y, l[k0]? = some y := ⟨_, List.getElem?_eq_getElem (by have := Hlt.out; omega)⟩
        have hyl := Hup.out k0 y rfl hy
        obtain ⟨b', off', vs, hbo, _, hbw, hRv, hc⟩ := Hat.out k0 y hy
        simp only [Option.some.injEq, Addr.mk.injEq, and_true] at hbo
        obtain ⟨rfl, rfl⟩ := hbo
        have hRv : vs = _ := hRv
        subst hRv
        obtain ⟨yn, yt⟩ := y
        have e2 : wa.cell? ⟨b, off + k0 * 2, none⟩ = some (.string ⟨yn.toArray⟩) := (Hba.out.cell (p := ⟨b, off + k0 * 2, none⟩) hbw).trans (hc 0 _ rfl)
        simp only at hyl
        obtain ⟨kz, hkz⟩ : ∃ z, z = k0 + 1 := ⟨_, rfl⟩
        rw [← hkz] at Hwk Hlt ⊢
        have hpos : (0 : Int) < (kz : Int) := by omega
        have hw0 : IntKind.i64.wrap ((kz : Int) - 1) = (k0 : Int) := by rw [IntWalk.i64_in _ (by have := HR.out.len; have := Hlt.out; omega)]; omega
        have hk0l : (k0 : Int) < (l.length : Int) := by have := Hlt.out; omega
        have Hkz := Lib.hid hkz
        clear hy hc hbw hkz
        go_cut [36] from 12 to 36 (fun v W => v = .bool false ∧ Below wa.heap.size wa W)
        case first =>
          refine wp_region_any (by kernel_rfl) ?_
          change wpAny _ _ _ _ _ _ _ (World.drew _)
          have HBd := Lib.hid (show Below wa.heap.size wa wa.drew from (Below.refl _ _).drew)
          have F0 := Lib.hid (show (fun W : World => W.cell? ⟨g, 0, none⟩ = some (.string ⟨xn.toArray⟩) ∧ W.cell? ⟨g, 1, none⟩ = some (.string ⟨xt.toArray⟩) ∧ W.cell? ⟨b, off + k0 * 2, none⟩ = some (.string ⟨yn.toArray⟩)) wa.drew from ⟨f0, f1, e2⟩)
          generalize wa.drew = wd' at *
          refine wpAny_of_held (S := fun W => W.cell? ⟨g, 0, none⟩ = some (.string ⟨xn.toArray⟩) ∧ W.cell? ⟨g, 1, none⟩ = some (.string ⟨xt.toArray⟩) ∧ W.cell? ⟨b, off + k0 * 2, none⟩ = some (.string ⟨yn.toArray⟩)) _ _ _ _ ?_
          have hS1 : (fun W : World => W.cell? ⟨g, 0, none⟩ = some (.string ⟨xn.toArray⟩) ∧ W.cell? ⟨g, 1, none⟩ = some (.string ⟨xt.toArray⟩) ∧ W.cell? ⟨b, off + k0 * 2, none⟩ = some (.string ⟨yn.toArray⟩)) wd' := F0.out
          dsimp only at hS1
          refine wpAnyH_take (i := 0) (v := .pointer (some ⟨g, 0, none⟩)) rfl (by kernel_rfl) (by kernel_rfl) (by kernel_rfl) (fun _ _ _ h => h) (Or.inl ⟨by kernel_rfl, fun W hW => by go_simp⟩) (by assumption) ?_
          try simp only [Act.put, List.getElem_toArray, List.getElem_cons_zero, List.getElem_cons_succ, List.setIfInBounds_toArray, List.set_cons_zero, List.set_cons_succ]
          refine wpAnyH_take (i := 1) (v := .string ⟨xn.toArray⟩) rfl (by kernel_rfl) (by kernel_rfl) (by kernel_rfl) (fun _ _ _ h => h) (Or.inl ⟨by kernel_rfl, fun W hW => by (obtain ⟨hW0, hW1, hW2⟩ := hW; go_simp)⟩) (by assumption) ?_
          try simp only [Act.put, List.getElem_toArray, List.getElem_cons_zero, List.getElem_cons_succ, List.setIfInBounds_toArray, List.set_cons_zero, List.set_cons_succ]
          refine wpAnyH_ready (rs := [2]) (by kernel_rfl) (by simp) ?_
          refine AllReadyH.cons rfl (fun K hK => ?_) AllReadyH.nil
          go_simp
          go_wp2_with (go_at_call 53; refine (files_name xn _ (by have := Hnl.out; omega)).mono ?_; rw [Hx1.out]; rintro e w' ⟨rfl, hw'⟩; have hw' := hw'.symm; subst hw')
          refine hK.out _ _ (hS1) (fun _ => ?_)
          clear K hK
          try simp only [Act.put, List.getElem_toArray, List.getElem_cons_zero, List.getElem_cons_succ, List.setIfInBounds_toArray, List.set_cons_zero, List.set_cons_succ]
          refine wpAnyH_take (i := 3) (v := .bool false) rfl (by kernel_rfl) (by kernel_rfl) (by kernel_rfl) (fun _ _ _ h => h) (Or.inl ⟨by kernel_rfl, fun W hW => by go_simp⟩) (by assumption) ?_
          try simp only [Act.put, List.getElem_toArray, List.getElem_cons_zero, List.getElem_cons_succ, List.setIfInBounds_toArray, List.set_cons_zero, List.set_cons_succ]
          refine wpAnyH_take (i := 4) (v := .bool false) rfl (by kernel_rfl) (by kernel_rfl) (by kernel_rfl) (fun _ _ _ h => h) (Or.inl ⟨by kernel_rfl, fun W hW => by go_simp⟩) (by assumption) ?_
          try simp only [Act.put, List.getElem_toArray, List.getElem_cons_zero, List.getElem_cons_succ, List.setIfInBounds_toArray, List.set_cons_zero, List.set_cons_succ]
          refine wpAnyH_take (i := 5) (v := .pointer (some ⟨g, 1, none⟩)) rfl (by kernel_rfl) (by kernel_rfl) (by kernel_rfl) (fun _ _ _ h => h) (Or.inl ⟨by kernel_rfl, fun W hW => by go_simp⟩) (by assumption) ?_
          try simp only [Act.put, List.getElem_toArray, List.getElem_cons_zero, List.getElem_cons_succ, List.setIfInBounds_toArray, List.set_cons_zero, List.set_cons_succ]
          refine wpAnyH_take (i := 6) (v := .string ⟨xt.toArray⟩) rfl (by kernel_rfl) (by kernel_rfl) (by kernel_rfl) (fun _ _ _ h => h) (Or.inl ⟨by kernel_rfl, fun W hW => by (obtain ⟨hW0, hW1, hW2⟩ := hW; go_simp)⟩) (by assumption) ?_
          try simp only [Act.put, List.getElem_toArray, List.getElem_cons_zero, List.getElem_cons_succ, List.setIfInBounds_toArray, List.set_cons_zero, List.set_cons_succ]
          refine wpAnyH_take (i := 7) (v := .int .i64 (xt.length : Int)) rfl (by kernel_rfl) (by kernel_rfl) (by kernel_rfl) (fun _ _ _ h => h) (Or.inl ⟨by kernel_rfl, fun W hW => by go_simp⟩) (by assumption) ?_
          try simp only [Act.put, List.getElem_toArray, List.getElem_cons_zero, List.getElem_cons_succ, List.setIfInBounds_toArray, List.set_cons_zero, List.set_cons_succ]
          refine wpAnyH_take (i := 8) (v := .bool false) rfl (by kernel_rfl) (by kernel_rfl) (by kernel_rfl) (fun _ _ _ h => h) (Or.inl ⟨by kernel_rfl, fun W hW => by (go_simp; have := Hx2.out; omega)⟩) (by assumption) ?_
          try simp only [Act.put, List.getElem_toArray, List.getElem_cons_zero, List.getElem_cons_succ, List.setIfInBounds_toArray, List.set_cons_zero, List.set_cons_succ]
          refine wpAnyH_take (i := 9) (v := .bool false) rfl (by kernel_rfl) (by kernel_rfl) (by kernel_rfl) (fun _ _ _ h => h) (Or.inl ⟨by kernel_rfl, fun W hW => by go_simp⟩) (by assumption) ?_
          try simp only [Act.put, List.getElem_toArray, List.getElem_cons_zero, List.getElem_cons_succ, List.setIfInBounds_toArray, List.set_cons_zero, List.set_cons_succ]
          refine wpAnyH_take (i := 10) (v := .bool false) rfl (by kernel_rfl) (by kernel_rfl) (by kernel_rfl) (fun _ _ _ h => h) (Or.inl ⟨by kernel_rfl, fun W hW => by go_simp⟩) (by assumption) ?_
          try simp only [Act.put, List.getElem_toArray, List.getElem_cons_zero, List.getElem_cons_succ, List.setIfInBounds_toArray, List.set_cons_zero, List.set_cons_succ]
          refine wpAnyH_take (i := 11) (v := .int .i64 (kz : Int)) rfl (by kernel_rfl) (by kernel_rfl) (by kernel_rfl) (fun _ _ _ h => h) (Or.inl ⟨by kernel_rfl, fun W hW => by go_simp⟩) (by assumption) ?_
          try simp only [Act.put, List.getElem_toArray, List.getElem_cons_zero, List.getElem_cons_succ, List.setIfInBounds_toArray, List.set_cons_zero, List.set_cons_succ]
          refine wpAnyH_take (i := 12) (v := .bool true) rfl (by kernel_rfl) (by kernel_rfl) (by kernel_rfl) (fun _ _ _ h => h) (Or.inl ⟨by kernel_rfl, fun W hW => by (go_simp; omega)⟩) (by assumption) ?_
          try simp only [Act.put, List.getElem_toArray, List.getElem_cons_zero, List.getElem_cons_succ, List.setIfInBounds_toArray, List.set_cons_zero, List.set_cons_succ]
          refine wpAnyH_take (i := 13) (v := .bool true) rfl (by kernel_rfl) (by kernel_rfl) (by kernel_rfl) (fun _ _ _ h => h) (Or.inl ⟨by kernel_rfl, fun W hW => by go_simp⟩) (by assumption) ?_
          try simp only [Act.put, List.getElem_toArray, List.getElem_cons_zero, List.getElem_cons_succ, List.setIfInBounds_toArray, List.set_cons_zero, List.set_cons_succ]
          refine wpAnyH_take (i := 14) (v := .slice (some ⟨b, off, none⟩) l.length cap) rfl (by kernel_rfl) (by kernel_rfl) (by kernel_rfl) (fun _ _ _ h => h) (Or.inl ⟨by kernel_rfl, fun W hW => by go_simp⟩) (by assumption) ?_
          try simp only [Act.put, List.getElem_toArray, List.getElem_cons_zero, List.getElem_cons_succ, List.setIfInBounds_toArray, List.set_cons_zero, List.set_cons_succ]
          refine wpAnyH_take (i := 15) (v := .int .i64 (kz : Int)) rfl (by kernel_rfl) (by kernel_rfl) (by kernel_rfl) (fun _ _ _ h => h) (Or.inl ⟨by kernel_rfl, fun W hW => by go_simp⟩) (by assumption) ?_
          try simp only [Act.put, List.getElem_toArray, List.getElem_cons_zero, List.getElem_cons_succ, List.setIfInBounds_toArray, List.set_cons_zero, List.set_cons_succ]
          refine wpAnyH_take (i := 16) (v := .int .i64 (k0 : Int)) rfl (by kernel_rfl) (by kernel_rfl) (by kernel_rfl) (fun _ _ _ h => h) (Or.inl ⟨by kernel_rfl, fun W hW => by go_simp⟩) (by assumption) ?_
          try simp only [Act.put, List.getElem_toArray, List.getElem_cons_zero, List.getElem_cons_succ, List.setIfInBounds_toArray, List.set_cons_zero, List.set_cons_succ]
          refine wpAnyH_take (i := 17) (v := .pointer (some ⟨b, off + k0 * 2, none⟩)) rfl (by kernel_rfl) (by kernel_rfl) (by kernel_rfl) (fun _ _ _ h => h) (Or.inl ⟨by kernel_rfl, fun W hW => by go_simp⟩) (by assumption) ?_
          try simp only [Act.put, List.getElem_toArray, List.getElem_cons_zero, List.getElem_cons_succ, List.setIfInBounds_toArray, List.set_cons_zero, List.set_cons_succ]
          refine wpAnyH_take (i := 18) (v := .pointer (some ⟨b, off + k0 * 2, none⟩)) rfl (by kernel_rfl) (by kernel_rfl) (by kernel_rfl) (fun _ _ _ h => h) (Or.inl ⟨by kernel_rfl, fun W hW => by go_simp⟩) (by assumption) ?_
          try simp only [Act.put, List.getElem_toArray, List.getElem_cons_zero, List.getElem_cons_succ, List.setIfInBounds_toArray, List.set_cons_zero, List.set_cons_succ]
          refine wpAnyH_take (i := 19) (v := .string ⟨yn.toArray⟩) rfl (by kernel_rfl) (by kernel_rfl) (by kernel_rfl) (fun _ _ _ h => h) (Or.inl ⟨by kernel_rfl, fun W hW => by (obtain ⟨hW0, hW1, hW2⟩ := hW; go_simp)⟩) (by assumption) ?_
          try simp only [Act.put, List.getElem_toArray, List.getElem_cons_zero, List.getElem_cons_succ, List.setIfInBounds_toArray, List.set_cons_zero, List.set_cons_succ]
          refine wpAnyH_take (i := 20) (v := .pointer (some ⟨g, 0, none⟩)) rfl (by kernel_rfl) (by kernel_rfl) (by kernel_rfl) (fun _ _ _ h => h) (Or.inl ⟨by kernel_rfl, fun W hW => by go_simp⟩) (by assumption) ?_
          try simp only [Act.put, List.getElem_toArray, List.getElem_cons_zero, List.getElem_cons_succ, List.setIfInBounds_toArray, List.set_cons_zero, List.set_cons_succ]
          refine wpAnyH_take (i := 21) (v := .string ⟨xn.toArray⟩) rfl (by kernel_rfl) (by kernel_rfl) (by kernel_rfl) (fun _ _ _ h => h) (Or.inl ⟨by kernel_rfl, fun W hW => by (obtain ⟨hW0, hW1, hW2⟩ := hW; go_simp)⟩) (by assumption) ?_
          try simp only [Act.put, List.getElem_toArray, List.getElem_cons_zero, List.getElem_cons_succ, List.setIfInBounds_toArray, List.set_cons_zero, List.set_cons_succ]
          refine wpAnyH_take (i := 22) (v := .bool false) rfl (by kernel_rfl) (by kernel_rfl) (by kernel_rfl) (fun _ _ _ h => h) (Or.inl ⟨by kernel_rfl, fun W hW => by go_simp⟩) (by assumption) ?_
          try simp only [Act.put, List.getElem_toArray, List.getElem_cons_zero, List.getElem_cons_succ, List.setIfInBounds_toArray, List.set_cons_zero, List.set_cons_succ]
          refine wpAnyH_take (i := 23) (v := .bool false) rfl (by kernel_rfl) (by kernel_rfl) (by kernel_rfl) (fun _ _ _ h => h) (Or.inl ⟨by kernel_rfl, fun W hW => by go_simp⟩) (by assumption) ?_
          try simp only [Act.put, List.getElem_toArray, List.getElem_cons_zero, List.getElem_cons_succ, List.setIfInBounds_toArray, List.set_cons_zero, List.set_cons_succ]
          refine wpAnyH_take (i := 24) (v := .bool false) rfl (by kernel_rfl) (by kernel_rfl) (by kernel_rfl) (fun _ _ _ h => h) (Or.inl ⟨by kernel_rfl, fun W hW => by go_simp⟩) (by assumption) ?_
          try simp only [Act.put, List.getElem_toArray, List.getElem_cons_zero, List.getElem_cons_succ, List.setIfInBounds_toArray, List.set_cons_zero, List.set_cons_succ]
          refine wpAnyH_done (by kernel_rfl) ?_ _
          clear hS1
          go_wp2_with fail
          go_meet
          exact ⟨rfl, HBd.out⟩
        case rest =>
          obtain ⟨rfl, hbc⟩ := hcut
          have Hbc := Lib.hid (bseq Hba.out hbc)
          clear hbc f0 f1 h4 e2 hyl hpos hw0 hk0l
          go_wp2_with fail
          go_roundw
          case rel => exact ⟨kz + 1, by have := Hlt.out; omega, by first | rfl | rw [Hwk.out], Hbc.out⟩
          case measure => have := Hlt.out; have := Hkz.out; (try rw [Hwk.out]); simp [intOf]; omega
    · have he : k = l.length := by omega
      subst he
      have Hb := Lib.hid hb
      have h32 : l.length ≤ 32 := HR.out.len
      have g32 : decide ((l.length : Int) ≤ 32) = true := decide_eq_true (by omega)
      clear hlt hk hb h32
      go_wp2_with fail
      go_ret
      exact ⟨by first | rfl | simp, Hb.out⟩
set_option maxRecDepth 100000 in
set_option maxHeartbeats 3200000 in
theorem lawIxRun_walk (p : Option Addr) (cap : Nat) (l : List Ix.Fl) (job : List UInt8) (w : World) (hH : Laid10 w ∧ l.length ≤ maxLen ∧ (⟨job.toArray⟩ : ByteArray).size ≤ 9223372036854775807) (hE : OSl 2 IFl w p l) :
    Calls Tryz.prog 8 #[.slice p l.length cap, .string ⟨job.toArray⟩] w fun e w' => e = .returned (.bool true) ∧ Below w.heap.size w w' := by
  have HL := Lib.hid hH.1
  have hjl : job.length ≤ 9223372036854775807 := by have := hH.2.2; rwa [size_mk] at this
  have Hjl := Lib.hid hjl
  have Hc := Lib.hid (ref02_map p cap l 4 600 w hE hH.2.1 (by omega) (by omega))
  clear hH hE hjl
  go_enter Tryz.func8, Tryz.ntmps8
  go_wp2_with fail
  refine Hc.out.mono ?_
  rintro e w1 ⟨va, rfl, hO, hb1⟩
  have hok := Ix.mapF_ok l 4 600
  have hml := Ix.mapF_len l 4 600
  obtain ⟨M, hM⟩ : ∃ M, M = Ix.mapF l 4 600 := ⟨_, rfl⟩
  rw [← hM] at hO hok hml
  obtain ⟨pm, cm, rfl⟩ := hO.form
  have S1 := Lib.hid (hO.slice RFl.size (fun _ => True) (fun _ _ => trivial))
  have Hok := Lib.hid hok; have Hml := Lib.hid hml; have B1 := Lib.hid hb1
  clear hok hml hb1 hO hM Hc
  go_wp2_with fail
  refine (ix_Run M job _ _ w1 S1.out Hok.out.up (by have := Hml.out; omega) (fun x hx => by have := Hok.out.small x hx; omega) Hjl.out (HL.out.below B1.out)).mono ?_
  unfold RunPost
  cases hrun : Ix.run M job with
  | none =>
    rintro e w2 ⟨hb2, rfl⟩
    have B2 := Lib.hid (bseq B1.out hb2)
    have S1' := Lib.hid (SliceIn.below2 S1.out hb2); clear S1; have S1 := S1'; clear S1'
    clear hb2
    go_wp2_with fail
    refine (ref19_run M job _ _ w2 S1.out (by have := Hml.out; omega) (fun x hx => by have := Hok.out.small x hx; omega) Hjl.out).mono ?_
    unfold RunPost
    rw [hrun]
    rintro e w3 ⟨hb3, rfl⟩
    have B3 := Lib.hid (bseq B2.out hb3)
    clear hb3
    go_wp2_with fail
    refine (law14_equal [] [] _ _ (fun _ => True) (fun _ => True) w3 (SliceIn.nil _ _ _ _) (SliceIn.nil _ _ _ _)).mono ?_
    rw [decide_eq_true (Eq.refl ([] : List Ix.Fl))]
    rintro e w4 ⟨rfl, hb4⟩
    have B4 := Lib.hid (bseq B3.out hb4)
    clear hb4
    go_wp2_with fail
    refine (ref02_words [] [] _ _ (fun _ => True) (fun _ => True) w4 (SliceIn.nil _ _ _ _) (SliceIn.nil _ _ _ _)).mono ?_
    rw [decide_eq_true (Eq.refl ([] : List (List UInt8)))]
    rintro e w5 ⟨rfl, hb5⟩
    have B5 := Lib.hid (bseq B4.out hb5)
    clear hb5
    go_wp2_with fail
    refine (law19_fixed w5 (HL.out.below B5.out)).mono ?_
    rintro e w6 ⟨rfl, hb6⟩
    have B6 := Lib.hid (bseq B5.out hb6)
    clear hb6
    go_wp2_with fail
    go_ret
    exact ⟨rfl, B6.out⟩
  | some fs =>
    have hright : Ix.RightOk fs ∧ fs.length = 2 := by
      unfold Ix.run at hrun
      cases hj : Ix.jobOk job with
      | false => rw [hj] at hrun; cases hrun
      | true =>
        rw [hj] at hrun
        cases hrun
        exact ⟨Ix.filesOf_right _ _ hj, rfl⟩
    rintro e w2 ⟨hb2, va, vr, rfl, hF, hW⟩
    have Hright := Lib.hid hright
    have hf2 : (fs.length : Int) = 2 := by rw [hright.2]; rfl
    obtain ⟨pf, cf, rfl⟩ := hF.form
    obtain ⟨pw, cw, rfl⟩ := hW.form
    have F2 := Lib.hid (hF.slice RFl.size (fun _ => True) (fun _ _ => trivial)); have W2 := Lib.hid (hW.slice RStr.size (fun _ => True) (fun _ _ => trivial))
    have B2 := Lib.hid (bseq B1.out hb2)
    have S1' := Lib.hid (SliceIn.below2 S1.out hb2); clear S1; have S1 := S1'; clear S1'
    have Hf2 := Lib.hid hf2
    clear hb2 hF hW hright hf2
    go_wp2_with fail
    refine (ref19_run M job _ _ w2 S1.out (by have := Hml.out; omega) (fun x hx => by have := Hok.out.small x hx; omega) Hjl.out).mono ?_
    unfold RunPost
    rw [hrun]
    rintro e w3 ⟨hb3, va3, vr3, rfl, hF3, hW3⟩
    obtain ⟨pf3, cf3, rfl⟩ := hF3.form
    obtain ⟨pw3, cw3, rfl⟩ := hW3.form
    have F3 := Lib.hid (hF3.slice RFl.size (fun _ => True) (fun _ _ => trivial)); have W3 := Lib.hid (hW3.slice RStr.size (fun _ => True) (fun _ _ => trivial))
    have F2' := Lib.hid (SliceIn.below2 F2.out hb3); clear F2; have F2 := F2'; clear F2'
    have W2' := Lib.hid (SliceIn.below2 W2.out hb3); clear W2; have W2 := W2'; clear W2'
    have B3 := Lib.hid (bseq B2.out hb3)
    clear hb3 hF3 hW3 S1 hrun
    go_wp2_with fail
    refine (law14_equal fs fs _ _ _ _ w3 F2.out F3.out).mono ?_
    rw [decide_eq_true (Eq.refl fs)]
    rintro e w4 ⟨rfl, hb4⟩
    have B4 := Lib.hid (bseq B3.out hb4)
    have F2' := Lib.hid (SliceIn.below2 F2.out hb4); clear F2; have F2 := F2'; clear F2'
    have W2' := Lib.hid (SliceIn.below2 W2.out hb4); clear W2; have W2 := W2'; clear W2'
    have W3' := Lib.hid (SliceIn.below2 W3.out hb4); clear W3; have W3 := W3'; clear W3'
    clear hb4 F3
    go_wp2_with fail
    refine (ref02_words [job ++ Ix.idx] [job ++ Ix.idx] _ _ _ _ w4 W2.out W3.out).mono ?_
    rw [decide_eq_true (Eq.refl [job ++ Ix.idx])]
    rintro e w5 ⟨rfl, hb5⟩
    have B5 := Lib.hid (bseq B4.out hb5)
    have F2' := Lib.hid (SliceIn.below2 F2.out hb5); clear F2; have F2 := F2'; clear F2'
    clear hb5 W2 W3
    have hf2 := Hf2.out
    go_wp2_with fail
    refine (files_right fs _ _ w5 F2.out Hright.out.1).mono ?_
    rintro e w6 ⟨rfl, hb6⟩
    have B6 := Lib.hid (bseq B5.out hb6)
    clear hb6 F2
    go_wp2_with fail
    refine (law19_fixed w6 (HL.out.below B6.out)).mono ?_
    rintro e w7 ⟨rfl, hb7⟩
    have B7 := Lib.hid (bseq B6.out hb7)
    clear hb7
    go_wp2_with fail
    go_ret
    exact ⟨rfl, B7.out⟩
end
end Go.Proofs.YthoblbdkmlggbaaGreatDoor
