/- The walk of stetlaw19.fixed. -/
import Derived.Test.YthoblbdkmlggbaaGreatDoorIxO
set_option linter.unusedSimpArgs false
set_option linter.unusedVariables false
namespace Go.Proofs.YthoblbdkmlggbaaGreatDoor
open Go.RowKit
theorem rep_flat {α : Type} {R : α → List Value → Prop} (c : α → List Value) (hR : ∀ x, R x (c x)) : ∀ l : List α, RepRow R l (l.flatMap c)
  | [] => rfl
  | x :: xs => ⟨c x, xs.flatMap c, by rw [List.flatMap_cons], hR x, rep_flat c hR xs⟩
theorem len_flat {α : Type} (c : α → List Value) (n : Nat) (hn : ∀ x, (c x).length = n) : ∀ l : List α, (l.flatMap c).length = l.length * n
  | [] => by simp
  | x :: xs => by rw [List.flatMap_cons, List.length_append, hn, len_flat c n hn xs, List.length_cons, Nat.succ_mul, Nat.add_comm]
theorem lit_in {α : Type} {R : α → List Value → Prop} (c : α → List Value) (hR : ∀ x, R x (c x)) (n : Nat) (hn : ∀ x, (c x).length = n) (hs : ∀ x vs, R x vs → vs.length = n) (t : TypeId) (l : List α) (w : World) (hm : l.length ≤ maxLen) :
    SliceIn (fun _ => True) n R (w.alloc (.cells (l.flatMap c).toArray t)) (.slice (some ⟨w.heap.size, 0, none⟩) l.length l.length) l := by
  have h : OwnL w.heap.size t n R (w.alloc (.cells (l.flatMap c).toArray t)) (.slice (some ⟨w.heap.size, 0, none⟩) l.length l.length) l :=
    ⟨l.flatMap c, own_built w w.heap.size t n l.length _ (Nat.le_refl _) (len_flat c n hn l) hm, rep_flat c hR l⟩
  exact h.slice hs (fun _ => True) (fun _ _ => trivial)
def cE (x : Ix.En) : List Value := [.string ⟨x.1.toArray⟩, .int .i64 x.2]
def cF (x : List UInt8 × List UInt8) : List Value := [.string ⟨x.1.toArray⟩, .string ⟨x.2.toArray⟩]
def cS (x : List UInt8) : List Value := [.string ⟨x.toArray⟩]
def cI (x : Int) : List Value := [.int .i64 x]
def cN (x : Int × List UInt8) : List Value := [.int .i64 x.1, .string ⟨x.2.toArray⟩]
theorem RFl.size (x : List UInt8 × List UInt8) (vs : List Value) (h : RFl x vs) : vs.length = 2 := by rw [h]; rfl
theorem inE (l : List Ix.En) (w : World) (hm : l.length ≤ maxLen) : SliceIn (fun _ => True) 2 REn (w.alloc (.cells (l.flatMap cE).toArray 38)) (.slice (some ⟨w.heap.size, 0, none⟩) l.length l.length) l :=
  lit_in (R := REn) cE (fun _ => rfl) 2 (fun _ => rfl) REn.size 38 l w hm
theorem inF (l : List (List UInt8 × List UInt8)) (w : World) (hm : l.length ≤ maxLen) : SliceIn (fun _ => True) 2 RFl (w.alloc (.cells (l.flatMap cF).toArray 53)) (.slice (some ⟨w.heap.size, 0, none⟩) l.length l.length) l :=
  lit_in (R := RFl) cF (fun _ => rfl) 2 (fun _ => rfl) RFl.size 53 l w hm
theorem inS (l : List (List UInt8)) (w : World) (hm : l.length ≤ maxLen) : SliceIn (fun _ => True) 1 RStr (w.alloc (.cells (l.flatMap cS).toArray 9)) (.slice (some ⟨w.heap.size, 0, none⟩) l.length l.length) l :=
  lit_in (R := RStr) cS (fun _ => rfl) 1 (fun _ => rfl) RStr.size 9 l w hm
theorem inI (l : List Int) (w : World) (hm : l.length ≤ maxLen) : SliceIn (fun _ => True) 1 RInt (w.alloc (.cells (l.flatMap cI).toArray 3)) (.slice (some ⟨w.heap.size, 0, none⟩) l.length l.length) l :=
  lit_in (R := RInt) cI (fun _ => rfl) 1 (fun _ => rfl) RInt.size 3 l w hm
theorem inN (l : List (Int × List UInt8)) (w : World) (hm : l.length ≤ maxLen) : SliceIn (fun _ => True) 2 RNote (w.alloc (.cells (l.flatMap cN).toArray 67)) (.slice (some ⟨w.heap.size, 0, none⟩) l.length l.length) l :=
  lit_in (R := RNote) cN (fun _ => rfl) 2 (fun _ => rfl) RNote.size 67 l w hm
namespace Ix
def l7 : List En := [([98], 2), ([97, 33, 99], 1), ([97, 33, 99], 2), ([65], 7), ([120], 0), ([33, 121], 1), ([122, 33], 1)]
def w7 : List (List UInt8) := [[65, 32, 55], [97], [32, 32, 99, 32, 49, 44, 32, 50], [98, 32, 50]]
def n7 : List (Int × List UInt8) := [(5, [120]), (2, [33, 121]), (2, [122, 33])]
def nmX : List UInt8 := [109, 46, 105, 100, 120]
def fA : List (List UInt8 × List UInt8) := [(nmX, [57, 58, 50, 58, 98, 99, 44, 49, 58, 51, 44, 44])]
def fB : List (List UInt8 × List UInt8) := [(nmX, [57, 58, 50, 58, 98, 99, 44, 49, 58, 120, 44, 44])]
def gA : List (List UInt8 × List UInt8) := [([109, 46, 105, 108, 103], []), ([109, 46, 105, 110, 100], [52, 58, 98, 99, 32, 51, 44])]
def gB : List (List UInt8 × List UInt8) := [([109, 46, 105, 108, 103], [53, 32, 109, 46, 105, 100, 120, 10]), ([109, 46, 105, 110, 100], [])]
theorem fx_lines : lines l7 = w7 := by kernel_rfl
theorem fx_notes : notes l7 = n7 := by kernel_rfl
theorem fx_t1 : text [5, 1, 3, 4, 9] = [49, 44, 32, 51, 45, 53, 44, 32, 57] := by kernel_rfl
theorem fx_t2 : text [2, 1, 2] = [49, 44, 32, 50] := by kernel_rfl
theorem fx_t3 : text [0, -1, 1000000] = [] := by kernel_rfl
theorem fx_a : run fA [109] = some gA := by kernel_rfl
theorem fx_b : run fB [109] = some gB := by kernel_rfl
theorem fx_c : run [] [] = none := by kernel_rfl
end Ix
theorem SliceIn.below2 {α : Type} {n : Nat} {R : α → List Value → Prop} {w w' : World} {v : Value} {l : List α} (h : SliceIn (fun _ => True) n R w v l) (hb : Below w.heap.size w w') : SliceIn (fun _ => True) n R w' v l :=
  h.kept (fun _ h => h) hb.size (fun b _ hl => hb.block b hl) (fun _ _ _ h => h)
set_option maxRecDepth 100000 in
set_option maxHeartbeats 6400000 in
theorem law19_fixed (w : World) (hL : Laid10 w) :
    Calls Tryz.prog 17 #[] w fun e w' => e = .returned (.bool true) ∧ Below w.heap.size w w' := by
  have HL := Lib.hid hL
  clear hL
  go_enter Tryz.func17, Tryz.ntmps17
  go_wp2_with fail
  have B1 := Lib.hid (Below.refl w.heap.size w)
  have ha := below_new w (.cells (Ix.l7.flatMap cE).toArray 38)
  refine (ix_Lines Ix.l7 _ _ (w.alloc (.cells (Ix.l7.flatMap cE).toArray 38)) (inE Ix.l7 w (by decide)) (by decide) (by decide) (HL.out.below (bseq B1.out ha)).cnt).mono ?_
  rw [Ix.fx_lines, Ix.fx_notes]
  rintro e w1 ⟨va, vn, rfl, hLn, hNt, hb⟩
  have S1 := Lib.hid (hLn.slice RStr.size (fun _ => True) (fun _ _ => trivial)); have S2 := Lib.hid (hNt.slice RNote.size (fun _ => True) (fun _ _ => trivial))
  have B1' := Lib.hid (bseq B1.out (bseq ha hb)); clear B1; have B1 := B1'; clear B1'
  clear hLn hNt hb ha
  go_wp2_with fail
  have ha := below_new w1 (.cells (Ix.fA.flatMap cF).toArray 53)
  refine (ix_Run Ix.fA [109] _ _ (w1.alloc (.cells (Ix.fA.flatMap cF).toArray 53)) (inF Ix.fA w1 (by decide)) (by unfold Ix.Sorted; exact List.pairwise_singleton _ _) (by decide) (by decide) (by decide) (HL.out.below (bseq B1.out ha))).mono ?_
  unfold RunPost
  rw [Ix.fx_a]
  rintro e w2 ⟨hb, va1, vr1, rfl, hF, hR⟩
  have F1 := Lib.hid (hF.slice RFl.size (fun _ => True) (fun _ _ => trivial)); have R1 := Lib.hid (hR.slice RStr.size (fun _ => True) (fun _ _ => trivial))
  have B1' := Lib.hid (bseq B1.out (bseq ha hb)); clear B1; have B1 := B1'; clear B1'
  have S1' := Lib.hid (SliceIn.below2 S1.out (bseq ha hb)); clear S1; have S1 := S1'; clear S1'
  have S2' := Lib.hid (SliceIn.below2 S2.out (bseq ha hb)); clear S2; have S2 := S2'; clear S2'
  clear hF hR hb ha
  go_wp2_with fail
  have ha := below_new w2 (.cells (Ix.fB.flatMap cF).toArray 53)
  refine (ix_Run Ix.fB [109] _ _ (w2.alloc (.cells (Ix.fB.flatMap cF).toArray 53)) (inF Ix.fB w2 (by decide)) (by unfold Ix.Sorted; exact List.pairwise_singleton _ _) (by decide) (by decide) (by decide) (HL.out.below (bseq B1.out ha))).mono ?_
  unfold RunPost
  rw [Ix.fx_b]
  rintro e w3 ⟨hb, va2, vr2, rfl, hF, hR⟩
  have F2 := Lib.hid (hF.slice RFl.size (fun _ => True) (fun _ _ => trivial)); have R2 := Lib.hid (hR.slice RStr.size (fun _ => True) (fun _ _ => trivial))
  have B1' := Lib.hid (bseq B1.out (bseq ha hb)); clear B1; have B1 := B1'; clear B1'
  have S1' := Lib.hid (SliceIn.below2 S1.out (bseq ha hb)); clear S1; have S1 := S1'; clear S1'
  have S2' := Lib.hid (SliceIn.below2 S2.out (bseq ha hb)); clear S2; have S2 := S2'; clear S2'
  have F1' := Lib.hid (SliceIn.below2 F1.out (bseq ha hb)); clear F1; have F1 := F1'; clear F1'
  have R1' := Lib.hid (SliceIn.below2 R1.out (bseq ha hb)); clear R1; have R1 := R1'; clear R1'
  clear hF hR hb ha
  go_wp2_with fail
  refine (ix_Run [] [] _ (fun _ => True) w3 (SliceIn.nil _ _ _ _) List.Pairwise.nil (by decide) (by simp) (by decide) (HL.out.below B1.out)).mono ?_
  unfold RunPost
  rw [Ix.fx_c]
  rintro e w4 ⟨hb, rfl⟩
  have B1' := Lib.hid (bseq B1.out hb); clear B1; have B1 := B1'; clear B1'
  have S1' := Lib.hid (SliceIn.below2 S1.out hb); clear S1; have S1 := S1'; clear S1'
  have S2' := Lib.hid (SliceIn.below2 S2.out hb); clear S2; have S2 := S2'; clear S2'
  have F1' := Lib.hid (SliceIn.below2 F1.out hb); clear F1; have F1 := F1'; clear F1'
  have R1' := Lib.hid (SliceIn.below2 R1.out hb); clear R1; have R1 := R1'; clear R1'
  have F2' := Lib.hid (SliceIn.below2 F2.out hb); clear F2; have F2 := F2'; clear F2'
  have R2' := Lib.hid (SliceIn.below2 R2.out hb); clear R2; have R2 := R2'; clear R2'
  clear hb
  go_wp2_with fail
  have ha := below_new w4 (.cells (([5, 1, 3, 4, 9] : List Int).flatMap cI).toArray 3)
  refine (ix_Pages [5, 1, 3, 4, 9] _ _ (w4.alloc (.cells (([5, 1, 3, 4, 9] : List Int).flatMap cI).toArray 3)) (inI [5, 1, 3, 4, 9] w4 (by decide)) (by decide) (HL.out.below (bseq B1.out ha)).cnt).mono ?_
  rw [Ix.fx_t1]
  rintro e w5 ⟨rfl, hb⟩
  have B1' := Lib.hid (bseq B1.out (bseq ha hb)); clear B1; have B1 := B1'; clear B1'
  have S1' := Lib.hid (SliceIn.below2 S1.out (bseq ha hb)); clear S1; have S1 := S1'; clear S1'
  have S2' := Lib.hid (SliceIn.below2 S2.out (bseq ha hb)); clear S2; have S2 := S2'; clear S2'
  have F1' := Lib.hid (SliceIn.below2 F1.out (bseq ha hb)); clear F1; have F1 := F1'; clear F1'
  have R1' := Lib.hid (SliceIn.below2 R1.out (bseq ha hb)); clear R1; have R1 := R1'; clear R1'
  have F2' := Lib.hid (SliceIn.below2 F2.out (bseq ha hb)); clear F2; have F2 := F2'; clear F2'
  have R2' := Lib.hid (SliceIn.below2 R2.out (bseq ha hb)); clear R2; have R2 := R2'; clear R2'
  clear hb ha
  go_wp2_with fail
  have ha := below_new w5 (.cells (([2, 1, 2] : List Int).flatMap cI).toArray 3)
  refine (ix_Pages [2, 1, 2] _ _ (w5.alloc (.cells (([2, 1, 2] : List Int).flatMap cI).toArray 3)) (inI [2, 1, 2] w5 (by decide)) (by decide) (HL.out.below (bseq B1.out ha)).cnt).mono ?_
  rw [Ix.fx_t2]
  rintro e w6 ⟨rfl, hb⟩
  have B1' := Lib.hid (bseq B1.out (bseq ha hb)); clear B1; have B1 := B1'; clear B1'
  have S1' := Lib.hid (SliceIn.below2 S1.out (bseq ha hb)); clear S1; have S1 := S1'; clear S1'
  have S2' := Lib.hid (SliceIn.below2 S2.out (bseq ha hb)); clear S2; have S2 := S2'; clear S2'
  have F1' := Lib.hid (SliceIn.below2 F1.out (bseq ha hb)); clear F1; have F1 := F1'; clear F1'
  have R1' := Lib.hid (SliceIn.below2 R1.out (bseq ha hb)); clear R1; have R1 := R1'; clear R1'
  have F2' := Lib.hid (SliceIn.below2 F2.out (bseq ha hb)); clear F2; have F2 := F2'; clear F2'
  have R2' := Lib.hid (SliceIn.below2 R2.out (bseq ha hb)); clear R2; have R2 := R2'; clear R2'
  clear hb ha
  go_wp2_with fail
  have ha := below_new w6 (.cells (([0, -1, 1000000] : List Int).flatMap cI).toArray 3)
  refine (ix_Pages [0, -1, 1000000] _ _ (w6.alloc (.cells (([0, -1, 1000000] : List Int).flatMap cI).toArray 3)) (inI [0, -1, 1000000] w6 (by decide)) (by decide) (HL.out.below (bseq B1.out ha)).cnt).mono ?_
  rw [Ix.fx_t3]
  rintro e w7 ⟨rfl, hb⟩
  have B1' := Lib.hid (bseq B1.out (bseq ha hb)); clear B1; have B1 := B1'; clear B1'
  have S1' := Lib.hid (SliceIn.below2 S1.out (bseq ha hb)); clear S1; have S1 := S1'; clear S1'
  have S2' := Lib.hid (SliceIn.below2 S2.out (bseq ha hb)); clear S2; have S2 := S2'; clear S2'
  have F1' := Lib.hid (SliceIn.below2 F1.out (bseq ha hb)); clear F1; have F1 := F1'; clear F1'
  have R1' := Lib.hid (SliceIn.below2 R1.out (bseq ha hb)); clear R1; have R1 := R1'; clear R1'
  have F2' := Lib.hid (SliceIn.below2 F2.out (bseq ha hb)); clear F2; have F2 := F2'; clear F2'
  have R2' := Lib.hid (SliceIn.below2 R2.out (bseq ha hb)); clear R2; have R2 := R2'; clear R2'
  clear hb ha
  go_wp2_with fail
  have ha := below_new w7 (.cells (Ix.w7.flatMap cS).toArray 9)
  refine (ref02_words Ix.w7 Ix.w7 _ _ _ _ (w7.alloc (.cells (Ix.w7.flatMap cS).toArray 9)) (S1.out.below2 ha) (inS Ix.w7 w7 (by decide))).mono ?_
  rw [show decide (Ix.w7 = Ix.w7) = true from by decide]
  rintro e w8 ⟨rfl, hb⟩
  have B1' := Lib.hid (bseq B1.out (bseq ha hb)); clear B1; have B1 := B1'; clear B1'
  have S1' := Lib.hid (SliceIn.below2 S1.out (bseq ha hb)); clear S1; have S1 := S1'; clear S1'
  have S2' := Lib.hid (SliceIn.below2 S2.out (bseq ha hb)); clear S2; have S2 := S2'; clear S2'
  have F1' := Lib.hid (SliceIn.below2 F1.out (bseq ha hb)); clear F1; have F1 := F1'; clear F1'
  have R1' := Lib.hid (SliceIn.below2 R1.out (bseq ha hb)); clear R1; have R1 := R1'; clear R1'
  have F2' := Lib.hid (SliceIn.below2 F2.out (bseq ha hb)); clear F2; have F2 := F2'; clear F2'
  have R2' := Lib.hid (SliceIn.below2 R2.out (bseq ha hb)); clear R2; have R2 := R2'; clear R2'
  clear hb ha
  go_wp2_with fail
  have ha := below_new w8 (.cells (Ix.n7.flatMap cN).toArray 67)
  refine (ref08_notes Ix.n7 Ix.n7 _ _ _ _ (w8.alloc (.cells (Ix.n7.flatMap cN).toArray 67)) (S2.out.below2 ha) (inN Ix.n7 w8 (by decide))).mono ?_
  rw [show decide (Ix.n7 = Ix.n7) = true from by decide]
  rintro e w9 ⟨rfl, hb⟩
  have B1' := Lib.hid (bseq B1.out (bseq ha hb)); clear B1; have B1 := B1'; clear B1'
  have S1' := Lib.hid (SliceIn.below2 S1.out (bseq ha hb)); clear S1; have S1 := S1'; clear S1'
  have S2' := Lib.hid (SliceIn.below2 S2.out (bseq ha hb)); clear S2; have S2 := S2'; clear S2'
  have F1' := Lib.hid (SliceIn.below2 F1.out (bseq ha hb)); clear F1; have F1 := F1'; clear F1'
  have R1' := Lib.hid (SliceIn.below2 R1.out (bseq ha hb)); clear R1; have R1 := R1'; clear R1'
  have F2' := Lib.hid (SliceIn.below2 F2.out (bseq ha hb)); clear F2; have F2 := F2'; clear F2'
  have R2' := Lib.hid (SliceIn.below2 R2.out (bseq ha hb)); clear R2; have R2 := R2'; clear R2'
  clear hb ha
  go_wp2_with fail
  have ha := below_new w9 (.cells (Ix.gA.flatMap cF).toArray 53)
  refine (law14_equal Ix.gA Ix.gA _ _ _ _ (w9.alloc (.cells (Ix.gA.flatMap cF).toArray 53)) (F1.out.below2 ha) (inF Ix.gA w9 (by decide))).mono ?_
  rw [show decide (Ix.gA = Ix.gA) = true from by decide]
  rintro e w10 ⟨rfl, hb⟩
  have B1' := Lib.hid (bseq B1.out (bseq ha hb)); clear B1; have B1 := B1'; clear B1'
  have S1' := Lib.hid (SliceIn.below2 S1.out (bseq ha hb)); clear S1; have S1 := S1'; clear S1'
  have S2' := Lib.hid (SliceIn.below2 S2.out (bseq ha hb)); clear S2; have S2 := S2'; clear S2'
  have F1' := Lib.hid (SliceIn.below2 F1.out (bseq ha hb)); clear F1; have F1 := F1'; clear F1'
  have R1' := Lib.hid (SliceIn.below2 R1.out (bseq ha hb)); clear R1; have R1 := R1'; clear R1'
  have F2' := Lib.hid (SliceIn.below2 F2.out (bseq ha hb)); clear F2; have F2 := F2'; clear F2'
  have R2' := Lib.hid (SliceIn.below2 R2.out (bseq ha hb)); clear R2; have R2 := R2'; clear R2'
  clear hb ha
  go_wp2_with fail
  have ha := below_new w10 (.cells ([Ix.nmX].flatMap cS).toArray 9)
  refine (ref02_words [Ix.nmX] [Ix.nmX] _ _ _ _ (w10.alloc (.cells ([Ix.nmX].flatMap cS).toArray 9)) (R1.out.below2 ha) (inS [Ix.nmX] w10 (by decide))).mono ?_
  rw [show decide ([Ix.nmX] = [Ix.nmX]) = true from by decide]
  rintro e w11 ⟨rfl, hb⟩
  have B1' := Lib.hid (bseq B1.out (bseq ha hb)); clear B1; have B1 := B1'; clear B1'
  have S1' := Lib.hid (SliceIn.below2 S1.out (bseq ha hb)); clear S1; have S1 := S1'; clear S1'
  have S2' := Lib.hid (SliceIn.below2 S2.out (bseq ha hb)); clear S2; have S2 := S2'; clear S2'
  have F1' := Lib.hid (SliceIn.below2 F1.out (bseq ha hb)); clear F1; have F1 := F1'; clear F1'
  have R1' := Lib.hid (SliceIn.below2 R1.out (bseq ha hb)); clear R1; have R1 := R1'; clear R1'
  have F2' := Lib.hid (SliceIn.below2 F2.out (bseq ha hb)); clear F2; have F2 := F2'; clear F2'
  have R2' := Lib.hid (SliceIn.below2 R2.out (bseq ha hb)); clear R2; have R2 := R2'; clear R2'
  clear hb ha
  go_wp2_with fail
  have ha := below_new w11 (.cells (Ix.gB.flatMap cF).toArray 53)
  refine (law14_equal Ix.gB Ix.gB _ _ _ _ (w11.alloc (.cells (Ix.gB.flatMap cF).toArray 53)) (F2.out.below2 ha) (inF Ix.gB w11 (by decide))).mono ?_
  rw [show decide (Ix.gB = Ix.gB) = true from by decide]
  rintro e w12 ⟨rfl, hb⟩
  have B1' := Lib.hid (bseq B1.out (bseq ha hb)); clear B1; have B1 := B1'; clear B1'
  have S1' := Lib.hid (SliceIn.below2 S1.out (bseq ha hb)); clear S1; have S1 := S1'; clear S1'
  have S2' := Lib.hid (SliceIn.below2 S2.out (bseq ha hb)); clear S2; have S2 := S2'; clear S2'
  have F1' := Lib.hid (SliceIn.below2 F1.out (bseq ha hb)); clear F1; have F1 := F1'; clear F1'
  have R1' := Lib.hid (SliceIn.below2 R1.out (bseq ha hb)); clear R1; have R1 := R1'; clear R1'
  have F2' := Lib.hid (SliceIn.below2 F2.out (bseq ha hb)); clear F2; have F2 := F2'; clear F2'
  have R2' := Lib.hid (SliceIn.below2 R2.out (bseq ha hb)); clear R2; have R2 := R2'; clear R2'
  clear hb ha
  go_wp2_with fail
  go_ret
  exact ⟨rfl, B1.out⟩
end Go.Proofs.YthoblbdkmlggbaaGreatDoor
