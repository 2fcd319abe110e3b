/- The walk of stetlaw22.fixed. -/
import Derived.Test.YtibinlpbcoihoaaGreatDoorG27
import Derived.Test.YtibinlpbcoihoaaGreatDoorRuG
import Derived.OrdersHeld
set_option linter.unusedSimpArgs false
set_option linter.unusedVariables false
namespace Go.Proofs.YtibinlpbcoihoaaGreatDoor
open Go.RowKit
namespace Ru
def fxL : List Rl := [⟨1, [109, 97, 105, 110], []⟩, ⟨4, [97], [98]⟩]
def fxM : List (List UInt8 × List UInt8) := [([97], [120])]
def fxW : Rec := ⟨[99, 111, 112, 121, 32, 97, 32, 98], [⟨[97], true, [120]⟩], [([98], [120])]⟩
theorem fx_p1 : parse [35, 32, 97, 32, 114, 101, 109, 97, 114, 107, 10, 109, 97, 114, 107, 117, 112, 32, 109, 97, 105, 110, 10, 10, 32, 99, 111, 112, 121, 32, 97, 32, 98, 10] = some fxL := by decide +kernel
theorem fx_p2 : parse [109, 97, 114, 107, 117, 112, 32, 109, 97, 105, 110, 10, 99, 111, 112, 121, 32, 97, 32, 109, 97, 105, 110, 46, 97, 117, 120] = none := by decide +kernel
theorem fx_p3 : parse [115, 101, 116, 32, 109, 97, 105, 110] = none := by decide +kernel
theorem fx_p4 : parse [98, 105, 98, 32, 97, 32, 98] = none := by decide +kernel
theorem fx_look : look fxM [[97]] = [⟨[97], true, [120]⟩] := by decide +kernel
theorem fx_get : (Ix.get fxM [97]).getD [] = [120] := by decide +kernel
theorem fx_may1 : may ⟨4, [97], [98]⟩ = true := by decide +kernel
theorem fx_may2 : may ⟨4, [97], [114, 117, 108, 101, 115]⟩ = false := by decide +kernel
theorem fx_may3 : may ⟨2, [97], []⟩ = true := by decide +kernel
theorem fx_t1 : text ⟨4, [97], [98]⟩ = [99, 111, 112, 121, 32, 97, 32, 98] := rfl
theorem fx_t2 : text ⟨1, [109, 97, 105, 110], []⟩ = [109, 97, 114, 107, 117, 112, 32, 109, 97, 105, 110] := rfl
theorem fx_w : writes ⟨3, [109], []⟩ = [[109, 46, 105, 108, 103], [109, 46, 105, 110, 100]] := rfl
theorem fx_s : Ix.Sorted fxM := by unfold Ix.Sorted fxM; exact List.pairwise_singleton _ _
end Ru
def cRl (x : Ru.Rl) : List Value := [.int .i64 x.kind, .string ⟨x.a.toArray⟩, .string ⟨x.b.toArray⟩]
theorem inF (l : List (List UInt8 × List UInt8)) (w : World) (hm : l.length ≤ maxLen) : SliceIn (fun _ => True) 2 RFl (w.alloc (.cells (l.flatMap cF).toArray 60)) (.slice (some ⟨w.heap.size, 0, none⟩) l.length l.length) l :=
  lit_in (R := RFl) cF (fun _ => rfl) 2 (fun _ => rfl) RFl.size 60 l w hm
theorem inRl (l : List Ru.Rl) (w : World) (hm : l.length ≤ maxLen) : SliceIn (fun _ => True) 3 RRl (w.alloc (.cells (l.flatMap cRl).toArray 38)) (.slice (some ⟨w.heap.size, 0, none⟩) l.length l.length) l :=
  lit_in (R := RRl) cRl (fun _ => rfl) 3 (fun _ => rfl) RRl.size 38 l w hm
def cSn (x : Ru.Sn) : List Value := [.string ⟨x.name.toArray⟩, .bool x.is, .string ⟨x.text.toArray⟩]
theorem inSn (l : List Ru.Sn) (w : World) (hm : l.length ≤ maxLen) : SliceIn (fun _ => True) 3 RSn (w.alloc (.cells (l.flatMap cSn).toArray 72)) (.slice (some ⟨w.heap.size, 0, none⟩) l.length l.length) l :=
  lit_in (R := RSn) cSn (fun _ => rfl) 3 (fun _ => rfl) RSn.size 72 l w hm
def cRec (p : RecV) : List Value := [.string ⟨p.1.rule.toArray⟩, p.2.1, p.2.2]
theorem inRec (t : TypeId) (p : RecV) (w : World) (h : PartsIn w p) : RecsIn (w.alloc (.cells (cRec p).toArray t)) (.slice (some ⟨w.heap.size, 0, none⟩) 1 1) [p] :=
  ⟨lit_in (R := RRec) cRec (fun _ => rfl) 3 (fun _ => rfl) RRec.size t [p] w (show 1 ≤ maxLen by decide), fun q hq => by rw [List.mem_singleton.1 hq]; exact h.below (below_new _ _)⟩
set_option maxRecDepth 100000 in
set_option maxHeartbeats 3200000 in
theorem law22_fixed (m : Int) (w : World) (hm : w.cell? ⟨0, 0, none⟩ = some (.int .i64 m)) (h0 : 0 < w.heap.size) :
    Calls Tryz.prog 19 #[] w fun e w' => e = .returned (.bool true) ∧ Below w.heap.size w w' := by
  have HMx := Lib.hid (show ∀ W, Below w.heap.size w W → W.cell? ⟨0, 0, none⟩ = some (.int .i64 m) ∧ 0 < W.heap.size from fun W hW => ⟨(hW.cell (p := ⟨0, 0, none⟩) h0).trans hm, Nat.lt_of_lt_of_le h0 hW.size⟩)
  clear hm h0
  go_enter Tryz.func19, Tryz.ntmps19
  have B0 := Lib.hid (Below.refl w.heap.size w)
  go_upto_region 2 with (go_at_call 7; refine (rule_parse [35, 32, 97, 32, 114, 101, 109, 97, 114, 107, 10, 109, 97, 114, 107, 117, 112, 32, 109, 97, 105, 110, 10, 10, 32, 99, 111, 112, 121, 32, 97, 32, 98, 10] m w (by decide) (HMx.out _ B0.out).1 (HMx.out _ B0.out).2).mono ?_; unfold PPost; rw [Ru.fx_p1]; dsimp only; rw [show Ru.fxL.length = 2 from rfl]; rintro e w1 ⟨hb, p1, c1, rfl, hO⟩; have HP1 := Lib.hid (hO.slice RRl.size (fun _ => True) (fun _ _ => trivial)); clear hO; have B1 := Lib.hid (bseq B0.out hb); clear hb)
  go_upto_region 3 with (go_at_call 7; refine (rule_parse [109, 97, 114, 107, 117, 112, 32, 109, 97, 105, 110, 10, 99, 111, 112, 121, 32, 97, 32, 109, 97, 105, 110, 46, 97, 117, 120] m w1 (by decide) (HMx.out _ B1.out).1 (HMx.out _ B1.out).2).mono ?_; unfold PPost; rw [Ru.fx_p2]; rintro e w2 ⟨hb, rfl⟩; have B2 := Lib.hid (bseq B1.out hb); have HPn := Lib.hid (sliceBelow HP1.out hb); clear HP1; have HP1 := HPn; clear HPn; clear hb)
  go_upto_region 4 with (go_at_call 7; refine (rule_parse [115, 101, 116, 32, 109, 97, 105, 110] m w2 (by decide) (HMx.out _ B2.out).1 (HMx.out _ B2.out).2).mono ?_; unfold PPost; rw [Ru.fx_p3]; rintro e w3 ⟨hb, rfl⟩; have B3 := Lib.hid (bseq B2.out hb); have HPn := Lib.hid (sliceBelow HP1.out hb); clear HP1; have HP1 := HPn; clear HPn; clear hb)
  go_upto_region 5 with (go_at_call 7; refine (rule_parse [98, 105, 98, 32, 97, 32, 98] m w3 (by decide) (HMx.out _ B3.out).1 (HMx.out _ B3.out).2).mono ?_; unfold PPost; rw [Ru.fx_p4]; rintro e w4 ⟨hb, rfl⟩; have B4 := Lib.hid (bseq B3.out hb); have HPn := Lib.hid (sliceBelow HP1.out hb); clear HP1; have HP1 := HPn; clear HPn; clear hb)
  go_upto_region 6 with fail
  have ha := below_new w4 (.cells (Ru.fxM.flatMap cF).toArray 60)
  have HM := Lib.hid (inF Ru.fxM w4 (by decide))
  have HP1' := Lib.hid (sliceBelow HP1.out ha); clear HP1; have HP1 := HP1'; clear HP1'
  have B5 := Lib.hid (bseq B4.out ha)
  clear ha
  have e5 : w4.alloc (.cells (Ru.fxM.flatMap cF).toArray 60) = w4.alloc (.cells #[.string ⟨#[97]⟩, .string ⟨#[120]⟩] 60) := rfl
  rw [e5] at HM HP1 B5
  clear e5
  generalize w4.alloc (.cells #[.string ⟨#[97]⟩, .string ⟨#[120]⟩] 60) = w5 at *
  generalize w4.heap.size = gm at *
  go_upto_region 7 with fail
  have ha := below_new w5 (.cells #[.int .i64 9, .int .i64 9, .int .i64 9, .int .i64 99, .int .i64 0] 65)
  have HC := Lib.hid (show ∀ W, Below (w5.alloc (.cells #[.int .i64 9, .int .i64 9, .int .i64 9, .int .i64 99, .int .i64 0] 65)).heap.size (w5.alloc (.cells #[.int .i64 9, .int .i64 9, .int .i64 9, .int .i64 99, .int .i64 0] 65)) W → (W.cell? ⟨w5.heap.size, 0, none⟩ = some (.int .i64 9) ∧ W.cell? ⟨w5.heap.size, 1, none⟩ = some (.int .i64 9)) ∧ (W.cell? ⟨w5.heap.size, 2, none⟩ = some (.int .i64 9) ∧ W.cell? ⟨w5.heap.size, 3, none⟩ = some (.int .i64 99)) ∧ W.cell? ⟨w5.heap.size, 4, none⟩ = some (.int .i64 0) from fun W hW => ⟨⟨cells_kept hW 0 _ rfl, cells_kept hW 1 _ rfl⟩, ⟨cells_kept hW 2 _ rfl, cells_kept hW 3 _ rfl⟩, cells_kept hW 4 _ rfl⟩)
  have HP1' := Lib.hid (sliceBelow HP1.out ha); clear HP1; have HP1 := HP1'; clear HP1'
  have HM' := Lib.hid (sliceBelow HM.out ha); clear HM; have HM := HM'; clear HM'
  have B6 := Lib.hid (bseq B5.out ha)
  clear ha
  generalize w5.alloc (.cells #[.int .i64 9, .int .i64 9, .int .i64 9, .int .i64 99, .int .i64 0] 65) = w6 at *
  generalize w5.heap.size = gc at *
  obtain ⟨⟨k0, k1⟩, ⟨k2, k3⟩, k4⟩ := HC.out w6 (Below.refl _ _)
  go_upto_region 8 with (go_at_call 31; have ho := rule_run_copy ⟨4, [97], [98]⟩ Ru.fxM (.slice (some ⟨gm, 0, none⟩) 1 1) _ 0 w6 rfl Ru.fx_may1 (by decide) (by decide) HM.out Ru.fx_s (by decide); unfold RunPost rlV recV at ho; dsimp only at ho; rw [Ru.fx_look, Ru.fx_get, Ru.fx_t1] at ho; refine ho.mono ?_; clear ho; rintro e w7 ⟨pr, pw, cr, cw, rfl, hr7, hw7, hb7⟩; have HR := Lib.hid hr7; have HW := Lib.hid hw7; have B7 := Lib.hid (bseq B6.out hb7); have HPn := Lib.hid (sliceBelow HP1.out hb7); clear HP1; have HP1 := HPn; clear HPn; have HMn := Lib.hid (sliceBelow HM.out hb7); clear HM; have HM := HMn; clear HMn; have H67 := Lib.hid hb7; clear hr7 hw7 hb7 k0 k1 k2 k3 k4)
  have ha := below_new w7 (.cells #[.string ⟨#[99, 111, 112, 121, 32, 97, 32, 98]⟩, .slice pr 1 cr, .slice pw 1 cw] 68)
  have HG := Lib.hid (show ∀ W, Below (w7.alloc (.cells #[.string ⟨#[99, 111, 112, 121, 32, 97, 32, 98]⟩, .slice pr 1 cr, .slice pw 1 cw] 68)).heap.size (w7.alloc (.cells #[.string ⟨#[99, 111, 112, 121, 32, 97, 32, 98]⟩, .slice pr 1 cr, .slice pw 1 cw] 68)) W → W.cell? ⟨w7.heap.size, 0, none⟩ = some (.string ⟨#[99, 111, 112, 121, 32, 97, 32, 98]⟩) ∧ W.cell? ⟨w7.heap.size, 1, none⟩ = some (.slice pr 1 cr) ∧ W.cell? ⟨w7.heap.size, 2, none⟩ = some (.slice pw 1 cw) from fun W hW => ⟨cells_kept hW 0 _ rfl, cells_kept hW 1 _ rfl, cells_kept hW 2 _ rfl⟩)
  have HP1' := Lib.hid (sliceBelow HP1.out ha); clear HP1; have HP1 := HP1'; clear HP1'
  have HM' := Lib.hid (sliceBelow HM.out ha); clear HM; have HM := HM'; clear HM'
  have HR' := Lib.hid (sliceBelow HR.out ha); clear HR; have HR := HR'; clear HR'
  have HW' := Lib.hid (sliceBelow HW.out ha); clear HW; have HW := HW'; clear HW'
  have B8 := Lib.hid (bseq B7.out ha)
  obtain ⟨⟨k0, k1⟩, ⟨k2, k3⟩, k4⟩ := HC.out _ (bseq H67.out ha)
  clear ha H67
  generalize w7.alloc (.cells #[.string ⟨#[99, 111, 112, 121, 32, 97, 32, 98]⟩, .slice pr 1 cr, .slice pw 1 cw] 68) = w8 at *
  generalize w7.heap.size = gr at *
  go_upto_region 9 with (go_at_call 31; have ho := rule_run_bad ⟨4, [97], [114, 117, 108, 101, 115]⟩ (.slice (some ⟨gm, 0, none⟩) 1 1) 9 9 9 99 0 w8 Ru.fx_may2 (by decide) (by decide); unfold rlV recV at ho; refine ho.mono ?_; clear ho; rintro e w9 ⟨rfl, hb9⟩; have H89 := Lib.hid hb9; clear hb9 k0 k1 k2 k3 k4)
  have ha := bseq H89.out (below_new w9 (.cells #[.string ⟨#[]⟩, .slice none 0 0, .slice none 0 0] 68))
  have HP1' := Lib.hid (sliceBelow HP1.out ha); clear HP1; have HP1 := HP1'; clear HP1'
  have HR' := Lib.hid (sliceBelow HR.out ha); clear HR; have HR := HR'; clear HR'
  have HW' := Lib.hid (sliceBelow HW.out ha); clear HW; have HW := HW'; clear HW'
  have B10 := Lib.hid (bseq B8.out ha)
  have HGn := Lib.hid (show ∀ W, Below (w9.alloc (.cells #[.string ⟨#[]⟩, .slice none 0 0, .slice none 0 0] 68)).heap.size (w9.alloc (.cells #[.string ⟨#[]⟩, .slice none 0 0, .slice none 0 0] 68)) W → W.cell? ⟨gr, 0, none⟩ = some (.string ⟨#[99, 111, 112, 121, 32, 97, 32, 98]⟩) ∧ W.cell? ⟨gr, 1, none⟩ = some (.slice pr 1 cr) ∧ W.cell? ⟨gr, 2, none⟩ = some (.slice pw 1 cw) from fun W hW => HG.out W (bseq ha hW)); clear HG; have HG := HGn; clear HGn
  clear ha H89
  generalize w9.alloc (.cells #[.string ⟨#[]⟩, .slice none 0 0, .slice none 0 0] 68) = w10 at *
  go_upto_region 10 with (go_at_call 31; have ho := rule_run_arg ⟨2, [97], []⟩ (.slice (some ⟨gm, 0, none⟩) 1 1) w10 Ru.fx_may3 (by decide) (by decide); unfold rlV recV at ho; refine ho.mono ?_; clear ho; rintro e w11 ⟨rfl, hb11⟩; have H1011 := Lib.hid hb11; clear hb11)
  have ha := bseq H1011.out (below_new w11 (.cells #[.string ⟨#[]⟩, .slice none 0 0, .slice none 0 0] 68))
  have HP1' := Lib.hid (sliceBelow HP1.out ha); clear HP1; have HP1 := HP1'; clear HP1'
  have HR' := Lib.hid (sliceBelow HR.out ha); clear HR; have HR := HR'; clear HR'
  have HW' := Lib.hid (sliceBelow HW.out ha); clear HW; have HW := HW'; clear HW'
  have B12 := Lib.hid (bseq B10.out ha)
  have HGn := Lib.hid (show ∀ W, Below (w11.alloc (.cells #[.string ⟨#[]⟩, .slice none 0 0, .slice none 0 0] 68)).heap.size (w11.alloc (.cells #[.string ⟨#[]⟩, .slice none 0 0, .slice none 0 0] 68)) W → W.cell? ⟨gr, 0, none⟩ = some (.string ⟨#[99, 111, 112, 121, 32, 97, 32, 98]⟩) ∧ W.cell? ⟨gr, 1, none⟩ = some (.slice pr 1 cr) ∧ W.cell? ⟨gr, 2, none⟩ = some (.slice pw 1 cw) from fun W hW => HG.out W (bseq ha hW)); clear HG; have HG := HGn; clear HGn
  clear ha H1011
  generalize w11.alloc (.cells #[.string ⟨#[]⟩, .slice none 0 0, .slice none 0 0] 68) = w12 at *
  go_upto_region 11 with fail
  have a1 := below_new w12 (.cells #[.string ⟨#[97]⟩, .bool true, .string ⟨#[120]⟩] 72)
  have i1 := Lib.hid (show SliceIn (fun _ => True) 3 RSn (w12.alloc (.cells #[.string ⟨#[97]⟩, .bool true, .string ⟨#[120]⟩] 72)) (.slice (some ⟨w12.heap.size, 0, none⟩) 1 1) [⟨[97], true, [120]⟩] from inSn [⟨[97], true, [120]⟩] w12 (by decide))
  have HP1' := Lib.hid (sliceBelow HP1.out a1); clear HP1; have HP1 := HP1'; clear HP1'
  have HR' := Lib.hid (sliceBelow HR.out a1); clear HR; have HR := HR'; clear HR'
  have HW' := Lib.hid (sliceBelow HW.out a1); clear HW; have HW := HW'; clear HW'
  have z1 : (w12.alloc (.cells #[.string ⟨#[97]⟩, .bool true, .string ⟨#[120]⟩] 72)).heap.size = w12.heap.size + 1 := by simp
  have a2 := below_new (w12.alloc (.cells #[.string ⟨#[97]⟩, .bool true, .string ⟨#[120]⟩] 72)) (.cells #[.string ⟨#[98]⟩, .string ⟨#[120]⟩] 60)
  have i2 := Lib.hid (show SliceIn (fun _ => True) 2 RFl ((w12.alloc (.cells #[.string ⟨#[97]⟩, .bool true, .string ⟨#[120]⟩] 72)).alloc (.cells #[.string ⟨#[98]⟩, .string ⟨#[120]⟩] 60)) (.slice (some ⟨(w12.alloc (.cells #[.string ⟨#[97]⟩, .bool true, .string ⟨#[120]⟩] 72)).heap.size, 0, none⟩) 1 1) [([98], [120])] from inF [([98], [120])] (w12.alloc (.cells #[.string ⟨#[97]⟩, .bool true, .string ⟨#[120]⟩] 72)) (by decide))
  rw [z1] at i2
  have HP1' := Lib.hid (sliceBelow HP1.out a2); clear HP1; have HP1 := HP1'; clear HP1'
  have HR' := Lib.hid (sliceBelow HR.out a2); clear HR; have HR := HR'; clear HR'
  have HW' := Lib.hid (sliceBelow HW.out a2); clear HW; have HW := HW'; clear HW'
  have i1' := Lib.hid (sliceBelow i1.out a2); clear i1; have i1 := i1'; clear i1'
  have z2 : ((w12.alloc (.cells #[.string ⟨#[97]⟩, .bool true, .string ⟨#[120]⟩] 72)).alloc (.cells #[.string ⟨#[98]⟩, .string ⟨#[120]⟩] 60)).heap.size = w12.heap.size + 1 + 1 := by simp
  have a3 := below_new ((w12.alloc (.cells #[.string ⟨#[97]⟩, .bool true, .string ⟨#[120]⟩] 72)).alloc (.cells #[.string ⟨#[98]⟩, .string ⟨#[120]⟩] 60)) (.cells #[.string ⟨#[99, 111, 112, 121, 32, 97, 32, 98]⟩, .slice (some ⟨w12.heap.size, 0, none⟩) 1 1, .slice (some ⟨w12.heap.size + 1, 0, none⟩) 1 1] 75)
  have HP1' := Lib.hid (sliceBelow HP1.out a3); clear HP1; have HP1 := HP1'; clear HP1'
  have HR' := Lib.hid (sliceBelow HR.out a3); clear HR; have HR := HR'; clear HR'
  have HW' := Lib.hid (sliceBelow HW.out a3); clear HW; have HW := HW'; clear HW'
  have i1' := Lib.hid (sliceBelow i1.out a3); clear i1; have i1 := i1'; clear i1'
  have i2' := Lib.hid (sliceBelow i2.out a3); clear i2; have i2 := i2'; clear i2'
  have B15 := Lib.hid (bseq B12.out (bseq (bseq a1 a2) a3))
  have HGn := Lib.hid (show ∀ W, Below (((w12.alloc (.cells #[.string ⟨#[97]⟩, .bool true, .string ⟨#[120]⟩] 72)).alloc (.cells #[.string ⟨#[98]⟩, .string ⟨#[120]⟩] 60)).alloc (.cells #[.string ⟨#[99, 111, 112, 121, 32, 97, 32, 98]⟩, .slice (some ⟨w12.heap.size, 0, none⟩) 1 1, .slice (some ⟨w12.heap.size + 1, 0, none⟩) 1 1] 75)).heap.size (((w12.alloc (.cells #[.string ⟨#[97]⟩, .bool true, .string ⟨#[120]⟩] 72)).alloc (.cells #[.string ⟨#[98]⟩, .string ⟨#[120]⟩] 60)).alloc (.cells #[.string ⟨#[99, 111, 112, 121, 32, 97, 32, 98]⟩, .slice (some ⟨w12.heap.size, 0, none⟩) 1 1, .slice (some ⟨w12.heap.size + 1, 0, none⟩) 1 1] 75)) W → (W.cell? ⟨gr, 0, none⟩ = some (.string ⟨#[99, 111, 112, 121, 32, 97, 32, 98]⟩) ∧ W.cell? ⟨gr, 1, none⟩ = some (.slice pr 1 cr) ∧ W.cell? ⟨gr, 2, none⟩ = some (.slice pw 1 cw)) ∧ W.cell? ⟨w12.heap.size + 1 + 1, 0, none⟩ = some (.string ⟨#[99, 111, 112, 121, 32, 97, 32, 98]⟩) ∧ W.cell? ⟨w12.heap.size + 1 + 1, 1, none⟩ = some (.slice (some ⟨w12.heap.size, 0, none⟩) 1 1) ∧ W.cell? ⟨w12.heap.size + 1 + 1, 2, none⟩ = some (.slice (some ⟨w12.heap.size + 1, 0, none⟩) 1 1) from fun W hW => ⟨HG.out W (bseq (bseq (bseq a1 a2) a3) hW), by rw [← z2]; exact cells_kept hW 0 _ rfl, by rw [← z2]; exact cells_kept hW 1 _ rfl, by rw [← z2]; exact cells_kept hW 2 _ rfl⟩); clear HG; have HG := HGn; clear HGn
  clear a1 a2 a3 z1 z2
  generalize ((w12.alloc (.cells #[.string ⟨#[97]⟩, .bool true, .string ⟨#[120]⟩] 72)).alloc (.cells #[.string ⟨#[98]⟩, .string ⟨#[120]⟩] 60)).alloc (.cells #[.string ⟨#[99, 111, 112, 121, 32, 97, 32, 98]⟩, .slice (some ⟨w12.heap.size, 0, none⟩) 1 1, .slice (some ⟨w12.heap.size + 1, 0, none⟩) 1 1] 75) = w15 at *
  generalize w12.heap.size = gs at *
  have HRec := Lib.hid (show PartsIn w15 (Ru.fxW, .slice pr 1 cr, .slice pw 1 cw) from ⟨HR.out, HW.out⟩)
  have HWant := Lib.hid (show PartsIn w15 (Ru.fxW, .slice (some ⟨gs, 0, none⟩) 1 1, .slice (some ⟨gs + 1, 0, none⟩) 1 1) from ⟨i1.out, i2.out⟩)
  clear HR HW i1 i2 HM B0 B1 B2 B3 B4 B5 B6 B7 B8 B10 B12 HC HMx
  obtain ⟨bp, op, rfl⟩ := row_some HP1.out (show Ru.fxL[0]? = some ⟨1, [109, 97, 105, 110], []⟩ from rfl)
  have HX := Lib.hid (show ∀ W, Below w15.heap.size w15 W → W.cell? ⟨bp, op, none⟩ = some (.int .i64 1) ∧ W.cell? ⟨bp, op + 1, none⟩ = some (.string ⟨#[109, 97, 105, 110]⟩) ∧ W.cell? ⟨bp, op + 2, none⟩ = some (.string ⟨#[]⟩) from fun W hW => by have := rl_cells (sliceBelow HP1.out hW) (show Ru.fxL[0]? = some ⟨1, [109, 97, 105, 110], []⟩ from rfl); simpa using this)
  refine wp_region_any (by kernel_rfl) ?_
  change wpAny _ _ _ _ _ _ _ (World.drew _)
  have hS1 : Below w15.heap.size w15 w15.drew := (Below.refl _ _).drew
  generalize w15.drew = wd at *
  have hS2 : (fun W => Below w15.heap.size w15 W) wd := hS1
  refine wpAny_of_held (S := fun W => Below w15.heap.size w15 W) _ _ _ _ ?_
  refine wpAnyH_take (i := 0) (v := ?v1) rfl (by kernel_rfl) (by kernel_rfl) (by kernel_rfl) (fun _ _ _ h => h) (Or.inl ⟨by kernel_rfl, fun W hW => ?h1⟩) (by assumption) ?_
  case h1 => (go_simp; rfl)
  refine wpAnyH_take (i := 2) (v := ?v2) rfl (by kernel_rfl) (by kernel_rfl) (by kernel_rfl) (fun _ _ _ h => h) (Or.inl ⟨by kernel_rfl, fun W hW => ?h2⟩) (by assumption) ?_
  case h2 => (go_simp; rfl)
  refine wpAnyH_take (i := 3) (v := ?v3) rfl (by kernel_rfl) (by kernel_rfl) (by kernel_rfl) (fun _ _ _ h => h) (Or.inl ⟨by kernel_rfl, fun W hW => ?h3⟩) (by assumption) ?_
  case h3 => (go_simp; rfl)
  refine wpAnyH_two (i := 1) (j := 4) rfl rfl (by kernel_rfl) (by kernel_rfl) (by kernel_rfl) rfl (by kernel_rfl) (fun v u W => ∃ g1 d1 g4 : Nat, v = .slice (some ⟨g1, 0, none⟩) 2 d1 ∧ u = .slice (some ⟨g4, 0, none⟩) 2 2 ∧ SliceIn (fun _ => True) 3 RRl W v Ru.fxL ∧ SliceIn (fun _ => True) 3 RRl W u Ru.fxL) ?_ ?_ ?_
  · intro K hK
    unfold opStep
    try simp only [Act.put, List.getElem_toArray, List.getElem_cons_zero, List.getElem_cons_succ, List.setIfInBounds_toArray, List.set_cons_zero, List.set_cons_succ]
    go_simp
    go_wp2_with (go_at_call 10; refine (law22_refs Ru.fxL _ _ wd (sliceBelow HP1.out hS1) (by decide)).mono ?_; rw [show Ru.fxL.length = 2 from rfl]; rintro e u1 ⟨g1, d1, rfl, hA1, k1⟩)
    refine hK.out _ _ ((bseq hS1 k1)) (fun _ K2 hK2 => ?_)
    clear K hK
    unfold opStep
    try simp only [Act.put, List.getElem_toArray, List.getElem_cons_zero, List.getElem_cons_succ, List.setIfInBounds_toArray, List.set_cons_zero, List.set_cons_succ]
    go_simp
    have k2 := below_new u1 (.cells #[.int .i64 1, .string ⟨#[109, 97, 105, 110]⟩, .string ⟨#[]⟩, .int .i64 4, .string ⟨#[97]⟩, .string ⟨#[98]⟩] 38)
    have hA4 := Lib.hid (show SliceIn (fun _ => True) 3 RRl (u1.alloc (.cells #[.int .i64 1, .string ⟨#[109, 97, 105, 110]⟩, .string ⟨#[]⟩, .int .i64 4, .string ⟨#[97]⟩, .string ⟨#[98]⟩] 38)) (.slice (some ⟨u1.heap.size, 0, none⟩) 2 2) Ru.fxL from inRl Ru.fxL u1 (by decide))
    generalize u1.alloc (.cells #[.int .i64 1, .string ⟨#[109, 97, 105, 110]⟩, .string ⟨#[]⟩, .int .i64 4, .string ⟨#[97]⟩, .string ⟨#[98]⟩] 38) = u2 at *
    exact hK2.out _ _ ((bseq hS1 (bseq k1 k2))) ⟨.slice (some ⟨g1, 0, none⟩) 2 d1, .slice (some ⟨u1.heap.size, 0, none⟩) 2 2, by kernel_rfl, g1, d1, u1.heap.size, rfl, rfl, (sliceBelow (hA1.slice RRl.size (fun _ => True) (fun _ _ => trivial)) k2), (sliceBelow hA4.out (Below.refl _ _))⟩
  · intro K hK
    unfold opStep
    try simp only [Act.put, List.getElem_toArray, List.getElem_cons_zero, List.getElem_cons_succ, List.setIfInBounds_toArray, List.set_cons_zero, List.set_cons_succ]
    go_simp
    have k1 := below_new wd (.cells #[.int .i64 1, .string ⟨#[109, 97, 105, 110]⟩, .string ⟨#[]⟩, .int .i64 4, .string ⟨#[97]⟩, .string ⟨#[98]⟩] 38)
    have hA4 := Lib.hid (show SliceIn (fun _ => True) 3 RRl (wd.alloc (.cells #[.int .i64 1, .string ⟨#[109, 97, 105, 110]⟩, .string ⟨#[]⟩, .int .i64 4, .string ⟨#[97]⟩, .string ⟨#[98]⟩] 38)) (.slice (some ⟨wd.heap.size, 0, none⟩) 2 2) Ru.fxL from inRl Ru.fxL wd (by decide))
    generalize wd.alloc (.cells #[.int .i64 1, .string ⟨#[109, 97, 105, 110]⟩, .string ⟨#[]⟩, .int .i64 4, .string ⟨#[97]⟩, .string ⟨#[98]⟩] 38) = u1 at *
    refine hK.out _ _ ((bseq hS1 k1)) (fun _ K2 hK2 => ?_)
    clear K hK
    unfold opStep
    try simp only [Act.put, List.getElem_toArray, List.getElem_cons_zero, List.getElem_cons_succ, List.setIfInBounds_toArray, List.set_cons_zero, List.set_cons_succ]
    go_simp
    go_wp2_with (go_at_call 10; refine (law22_refs Ru.fxL _ _ u1 (sliceBelow HP1.out (bseq hS1 k1)) (by decide)).mono ?_; rw [show Ru.fxL.length = 2 from rfl]; rintro e u2 ⟨g1, d1, rfl, hA1, k2⟩)
    exact hK2.out _ _ ((bseq hS1 (bseq k1 k2))) ⟨.slice (some ⟨g1, 0, none⟩) 2 d1, .slice (some ⟨wd.heap.size, 0, none⟩) 2 2, by kernel_rfl, g1, d1, wd.heap.size, rfl, rfl, (sliceBelow (hA1.slice RRl.size (fun _ => True) (fun _ _ => trivial)) (Below.refl _ _)), (sliceBelow hA4.out k2)⟩
  intro v u W1 hSm1 hF
  obtain ⟨g1, d1, g4, rfl, rfl, hF1, hF4⟩ := hF
  try simp only [Act.put, List.getElem_toArray, List.getElem_cons_zero, List.getElem_cons_succ, List.setIfInBounds_toArray, List.set_cons_zero, List.set_cons_succ]
  refine wpAnyH_ready (rs := [5]) (by kernel_rfl) (by simp) ?_
  refine AllReadyH.cons rfl (fun K hK => ?_) AllReadyH.nil
  try simp only [Act.put, List.getElem_toArray, List.getElem_cons_zero, List.getElem_cons_succ, List.setIfInBounds_toArray, List.set_cons_zero, List.set_cons_succ]
  go_simp
  go_wp2_with (go_at_call 9; refine (ref22_same Ru.fxL Ru.fxL _ _ _ _ W1 (sliceBelow hF1 (Below.refl _ _)) (sliceBelow hF4 (Below.refl _ _))).mono ?_; rw [show decide (Ru.fxL = Ru.fxL) = true from by decide]; rintro e u1 ⟨rfl, k1⟩)
  refine hK.out _ _ ((bseq hSm1 k1)) (fun _ => ?_)
  clear K hK
  try simp only [Act.put, List.getElem_toArray, List.getElem_cons_zero, List.getElem_cons_succ, List.setIfInBounds_toArray, List.set_cons_zero, List.set_cons_succ]
  refine wpAnyH_take (i := 6) (v := ?v4) rfl (by kernel_rfl) (by kernel_rfl) (by kernel_rfl) (fun _ _ _ h => h) (Or.inl ⟨by kernel_rfl, fun W hW => ?h4⟩) (by assumption) ?_
  case h4 => (go_simp; rfl)
  refine wpAnyH_take (i := 7) (v := ?v5) rfl (by kernel_rfl) (by kernel_rfl) (by kernel_rfl) (fun _ _ _ h => h) (Or.inl ⟨by kernel_rfl, fun W hW => ?h5⟩) (by assumption) ?_
  case h5 => (go_simp; rfl)
  refine wpAnyH_take (i := 8) (v := ?v6) rfl (by kernel_rfl) (by kernel_rfl) (by kernel_rfl) (fun _ _ _ h => h) (Or.inl ⟨by kernel_rfl, fun W hW => ?h6⟩) (by assumption) ?_
  case h6 => (go_simp; rfl)
  refine wpAnyH_take (i := 9) (v := ?v7) rfl (by kernel_rfl) (by kernel_rfl) (by kernel_rfl) (fun _ _ _ h => h) (Or.inl ⟨by kernel_rfl, fun W hW => ?h7⟩) (by assumption) ?_
  case h7 => (go_simp; rfl)
  refine wpAnyH_take (i := 10) (v := ?v8) rfl (by kernel_rfl) (by kernel_rfl) (by kernel_rfl) (fun _ _ _ h => h) (Or.inl ⟨by kernel_rfl, fun W hW => ?h8⟩) (by assumption) ?_
  case h8 => (go_simp; rfl)
  refine wpAnyH_take (i := 11) (v := ?v9) rfl (by kernel_rfl) (by kernel_rfl) (by kernel_rfl) (fun _ _ _ h => h) (Or.inl ⟨by kernel_rfl, fun W hW => ?h9⟩) (by assumption) ?_
  case h9 => (go_simp; rfl)
  refine wpAnyH_take (i := 12) (v := ?v10) rfl (by kernel_rfl) (by kernel_rfl) (by kernel_rfl) (fun _ _ _ h => h) (Or.inl ⟨by kernel_rfl, fun W hW => ?h10⟩) (by assumption) ?_
  case h10 => (go_simp; rfl)
  refine wpAnyH_take (i := 13) (v := ?v11) rfl (by kernel_rfl) (by kernel_rfl) (by kernel_rfl) (fun _ _ _ h => h) (Or.inl ⟨by kernel_rfl, fun W hW => ?h11⟩) (by assumption) ?_
  case h11 => (go_simp; rfl)
  refine wpAnyH_take (i := 14) (v := ?v12) rfl (by kernel_rfl) (by kernel_rfl) (by kernel_rfl) (fun _ _ _ h => h) (Or.inl ⟨by kernel_rfl, fun W hW => ?h12⟩) (by assumption) ?_
  case h12 => (go_simp; rfl)
  refine wpAnyH_take (i := 15) (v := ?v13) rfl (by kernel_rfl) (by kernel_rfl) (by kernel_rfl) (fun _ _ _ h => h) (Or.inl ⟨by kernel_rfl, fun W hW => ?h13⟩) (by assumption) ?_
  case h13 => (go_simp; rfl)
  refine wpAnyH_take (i := 16) (v := ?v14) rfl (by kernel_rfl) (by kernel_rfl) (by kernel_rfl) (fun _ _ _ h => h) (Or.inl ⟨by kernel_rfl, fun W hW => ?h14⟩) (by assumption) ?_
  case h14 => (go_simp; rfl)
  refine wpAnyH_take (i := 17) (v := ?v15) rfl (by kernel_rfl) (by kernel_rfl) (by kernel_rfl) (fun _ _ _ h => h) (Or.inl ⟨by kernel_rfl, fun W hW => ?h15⟩) (by assumption) ?_
  case h15 => (go_simp; rfl)
  refine wpAnyH_take (i := 18) (v := ?v16) rfl (by kernel_rfl) (by kernel_rfl) (by kernel_rfl) (fun _ _ _ h => h) (Or.inl ⟨by kernel_rfl, fun W hW => ?h16⟩) (by assumption) ?_
  case h16 => (go_simp; rfl)
  refine wpAnyH_take (i := 19) (v := ?v17) rfl (by kernel_rfl) (by kernel_rfl) (by kernel_rfl) (fun _ _ _ h => h) (Or.inl ⟨by kernel_rfl, fun W hW => ?h17⟩) (by assumption) ?_
  case h17 => (go_simp; rfl)
  refine wpAnyH_take (i := 20) (v := ?v18) rfl (by kernel_rfl) (by kernel_rfl) (by kernel_rfl) (fun _ _ _ h => h) (Or.inl ⟨by kernel_rfl, fun W hW => ?h18⟩) (by assumption) ?_
  case h18 => (go_simp; rfl)
  refine wpAnyH_take (i := 21) (v := ?v19) rfl (by kernel_rfl) (by kernel_rfl) (by kernel_rfl) (fun _ _ _ h => h) (Or.inl ⟨by kernel_rfl, fun W hW => ?h19⟩) (by assumption) ?_
  case h19 => (go_simp; rfl)
  refine wpAnyH_take (i := 22) (v := ?v20) rfl (by kernel_rfl) (by kernel_rfl) (by kernel_rfl) (fun _ _ _ h => h) (Or.inl ⟨by kernel_rfl, fun W hW => ?h20⟩) (by assumption) ?_
  case h20 => (go_simp; rfl)
  refine wpAnyH_take (i := 23) (v := ?v21) rfl (by kernel_rfl) (by kernel_rfl) (by kernel_rfl) (fun _ _ _ h => h) (Or.inl ⟨by kernel_rfl, fun W hW => ?h21⟩) (by assumption) ?_
  case h21 => (obtain ⟨⟨g0, g1', g2'⟩, v0, v1, v2⟩ := HG.out W hW; obtain ⟨x0, x1, x2⟩ := HX.out W hW; go_simp; rfl)
  refine wpAnyH_take (i := 26) (v := ?v22) rfl (by kernel_rfl) (by kernel_rfl) (by kernel_rfl) (fun _ _ _ h => h) (Or.inl ⟨by kernel_rfl, fun W hW => ?h22⟩) (by assumption) ?_
  case h22 => (obtain ⟨⟨g0, g1', g2'⟩, v0, v1, v2⟩ := HG.out W hW; obtain ⟨x0, x1, x2⟩ := HX.out W hW; go_simp; rfl)
  refine wpAnyH_three (i := 24) (k := 25) (j := 27) rfl rfl rfl (by kernel_rfl) (by kernel_rfl) (by kernel_rfl) (by kernel_rfl) (by kernel_rfl) (by kernel_rfl) rfl (by kernel_rfl) (by kernel_rfl) (fun v t u W => ∃ (g25 d25 g27 : Nat) (A25 : List RecV), t = .slice (some ⟨g25, 0, none⟩) A25.length d25 ∧ u = .slice (some ⟨g27, 0, none⟩) 1 1 ∧ A25.map (·.1) = ([(Ru.fxW, .slice pr 1 cr, .slice pw 1 cw)] : List RecV).map (·.1) ∧ RecsIn W t A25 ∧ RecsIn W u [(Ru.fxW, .slice (some ⟨gs, 0, none⟩) 1 1, .slice (some ⟨gs + 1, 0, none⟩) 1 1)]) ?_ ?_ ?_
  · intro K hK
    unfold opStep
    try simp only [Act.put, List.getElem_toArray, List.getElem_cons_zero, List.getElem_cons_succ, List.setIfInBounds_toArray, List.set_cons_zero, List.set_cons_succ]
    go_simp
    have k2 := below_new u1 (.cells #[.string ⟨#[99, 111, 112, 121, 32, 97, 32, 98]⟩, .slice pr 1 cr, .slice pw 1 cw] 68)
    have hA24 := Lib.hid (show RecsIn (u1.alloc (.cells #[.string ⟨#[99, 111, 112, 121, 32, 97, 32, 98]⟩, .slice pr 1 cr, .slice pw 1 cw] 68)) (.slice (some ⟨u1.heap.size, 0, none⟩) 1 1) [(Ru.fxW, .slice pr 1 cr, .slice pw 1 cw)] from inRec _ _ u1 (HRec.out.below (bseq hSm1 k1)))
    generalize u1.alloc (.cells #[.string ⟨#[99, 111, 112, 121, 32, 97, 32, 98]⟩, .slice pr 1 cr, .slice pw 1 cw] 68) = u2 at *
    refine hK.out _ _ ((bseq hSm1 (bseq k1 k2))) (fun _ K2 hK2 => ?_) (fun _ K2 hK2 => ?_)
    · clear K hK
      unfold opStep
      try simp only [Act.put, List.getElem_toArray, List.getElem_cons_zero, List.getElem_cons_succ, List.setIfInBounds_toArray, List.set_cons_zero, List.set_cons_succ]
      go_simp
      go_wp2_with (go_at_call 33; refine (law20_refs [(Ru.fxW, .slice pr 1 cr, .slice pw 1 cw)] _ u2 (hA24.out.below (Below.refl _ _)) (by simp) (by intro p hp; rw [List.mem_singleton.1 hp]; exact (by decide : Ru.fxW.reads.length ≤ 100000))).mono ?_; rintro e u3 ⟨g25, d25, A25, rfl, hm25, hA25, k3⟩)
      refine hK2.out _ _ ((bseq hSm1 (bseq (bseq k1 k2) k3))) (fun _ K3 hK3 => ?_)
      clear K2 hK2
      unfold opStep
      try simp only [Act.put, List.getElem_toArray, List.getElem_cons_zero, List.getElem_cons_succ, List.setIfInBounds_toArray, List.set_cons_zero, List.set_cons_succ]
      go_simp
      have k4 := below_new u3 (.cells #[.string ⟨#[99, 111, 112, 121, 32, 97, 32, 98]⟩, .slice (some ⟨gs, 0, none⟩) 1 1, .slice (some ⟨gs + 1, 0, none⟩) 1 1] 75)
      have hA27 := Lib.hid (show RecsIn (u3.alloc (.cells #[.string ⟨#[99, 111, 112, 121, 32, 97, 32, 98]⟩, .slice (some ⟨gs, 0, none⟩) 1 1, .slice (some ⟨gs + 1, 0, none⟩) 1 1] 75)) (.slice (some ⟨u3.heap.size, 0, none⟩) 1 1) [(Ru.fxW, .slice (some ⟨gs, 0, none⟩) 1 1, .slice (some ⟨gs + 1, 0, none⟩) 1 1)] from inRec _ _ u3 (HWant.out.below (bseq hSm1 (bseq (bseq k1 k2) k3))))
      generalize u3.alloc (.cells #[.string ⟨#[99, 111, 112, 121, 32, 97, 32, 98]⟩, .slice (some ⟨gs, 0, none⟩) 1 1, .slice (some ⟨gs + 1, 0, none⟩) 1 1] 75) = u4 at *
      exact hK3.out _ _ ((bseq hSm1 (bseq (bseq (bseq k1 k2) k3) k4))) ⟨.slice (some ⟨u1.heap.size, 0, none⟩) 1 1, .slice (some ⟨g25, 0, none⟩) A25.length d25, .slice (some ⟨u3.heap.size, 0, none⟩) 1 1, by kernel_rfl, g25, d25, u3.heap.size, A25, rfl, rfl, hm25, (hA25.below k4), (hA27.out.below (Below.refl _ _))⟩
    · clear K hK
      unfold opStep
      try simp only [Act.put, List.getElem_toArray, List.getElem_cons_zero, List.getElem_cons_succ, List.setIfInBounds_toArray, List.set_cons_zero, List.set_cons_succ]
      go_simp
      have k3 := below_new u2 (.cells #[.string ⟨#[99, 111, 112, 121, 32, 97, 32, 98]⟩, .slice (some ⟨gs, 0, none⟩) 1 1, .slice (some ⟨gs + 1, 0, none⟩) 1 1] 75)
      have hA27 := Lib.hid (show RecsIn (u2.alloc (.cells #[.string ⟨#[99, 111, 112, 121, 32, 97, 32, 98]⟩, .slice (some ⟨gs, 0, none⟩) 1 1, .slice (some ⟨gs + 1, 0, none⟩) 1 1] 75)) (.slice (some ⟨u2.heap.size, 0, none⟩) 1 1) [(Ru.fxW, .slice (some ⟨gs, 0, none⟩) 1 1, .slice (some ⟨gs + 1, 0, none⟩) 1 1)] from inRec _ _ u2 (HWant.out.below (bseq hSm1 (bseq k1 k2))))
      generalize u2.alloc (.cells #[.string ⟨#[99, 111, 112, 121, 32, 97, 32, 98]⟩, .slice (some ⟨gs, 0, none⟩) 1 1, .slice (some ⟨gs + 1, 0, none⟩) 1 1] 75) = u3 at *
      refine hK2.out _ _ ((bseq hSm1 (bseq (bseq k1 k2) k3))) (fun _ K3 hK3 => ?_)
      clear K2 hK2
      unfold opStep
      try simp only [Act.put, List.getElem_toArray, List.getElem_cons_zero, List.getElem_cons_succ, List.setIfInBounds_toArray, List.set_cons_zero, List.set_cons_succ]
      go_simp
      go_wp2_with (go_at_call 33; refine (law20_refs [(Ru.fxW, .slice pr 1 cr, .slice pw 1 cw)] _ u3 (hA24.out.below k3) (by simp) (by intro p hp; rw [List.mem_singleton.1 hp]; exact (by decide : Ru.fxW.reads.length ≤ 100000))).mono ?_; rintro e u4 ⟨g25, d25, A25, rfl, hm25, hA25, k4⟩)
      exact hK3.out _ _ ((bseq hSm1 (bseq (bseq (bseq k1 k2) k3) k4))) ⟨.slice (some ⟨u1.heap.size, 0, none⟩) 1 1, .slice (some ⟨g25, 0, none⟩) A25.length d25, .slice (some ⟨u2.heap.size, 0, none⟩) 1 1, by kernel_rfl, g25, d25, u2.heap.size, A25, rfl, rfl, hm25, (hA25.below (Below.refl _ _)), (hA27.out.below k4)⟩
  · intro K hK
    unfold opStep
    try simp only [Act.put, List.getElem_toArray, List.getElem_cons_zero, List.getElem_cons_succ, List.setIfInBounds_toArray, List.set_cons_zero, List.set_cons_succ]
    go_simp
    have k2 := below_new u1 (.cells #[.string ⟨#[99, 111, 112, 121, 32, 97, 32, 98]⟩, .slice (some ⟨gs, 0, none⟩) 1 1, .slice (some ⟨gs + 1, 0, none⟩) 1 1] 75)
    have hA27 := Lib.hid (show RecsIn (u1.alloc (.cells #[.string ⟨#[99, 111, 112, 121, 32, 97, 32, 98]⟩, .slice (some ⟨gs, 0, none⟩) 1 1, .slice (some ⟨gs + 1, 0, none⟩) 1 1] 75)) (.slice (some ⟨u1.heap.size, 0, none⟩) 1 1) [(Ru.fxW, .slice (some ⟨gs, 0, none⟩) 1 1, .slice (some ⟨gs + 1, 0, none⟩) 1 1)] from inRec _ _ u1 (HWant.out.below (bseq hSm1 k1)))
    generalize u1.alloc (.cells #[.string ⟨#[99, 111, 112, 121, 32, 97, 32, 98]⟩, .slice (some ⟨gs, 0, none⟩) 1 1, .slice (some ⟨gs + 1, 0, none⟩) 1 1] 75) = u2 at *
    refine hK.out _ _ ((bseq hSm1 (bseq k1 k2))) (fun _ K2 hK2 => ?_)
    clear K hK
    unfold opStep
    try simp only [Act.put, List.getElem_toArray, List.getElem_cons_zero, List.getElem_cons_succ, List.setIfInBounds_toArray, List.set_cons_zero, List.set_cons_succ]
    go_simp
    have k3 := below_new u2 (.cells #[.string ⟨#[99, 111, 112, 121, 32, 97, 32, 98]⟩, .slice pr 1 cr, .slice pw 1 cw] 68)
    have hA24 := Lib.hid (show RecsIn (u2.alloc (.cells #[.string ⟨#[99, 111, 112, 121, 32, 97, 32, 98]⟩, .slice pr 1 cr, .slice pw 1 cw] 68)) (.slice (some ⟨u2.heap.size, 0, none⟩) 1 1) [(Ru.fxW, .slice pr 1 cr, .slice pw 1 cw)] from inRec _ _ u2 (HRec.out.below (bseq hSm1 (bseq k1 k2))))
    generalize u2.alloc (.cells #[.string ⟨#[99, 111, 112, 121, 32, 97, 32, 98]⟩, .slice pr 1 cr, .slice pw 1 cw] 68) = u3 at *
    refine hK2.out _ _ ((bseq hSm1 (bseq (bseq k1 k2) k3))) (fun _ K3 hK3 => ?_)
    clear K2 hK2
    unfold opStep
    try simp only [Act.put, List.getElem_toArray, List.getElem_cons_zero, List.getElem_cons_succ, List.setIfInBounds_toArray, List.set_cons_zero, List.set_cons_succ]
    go_simp
    go_wp2_with (go_at_call 33; refine (law20_refs [(Ru.fxW, .slice pr 1 cr, .slice pw 1 cw)] _ u3 (hA24.out.below (Below.refl _ _)) (by simp) (by intro p hp; rw [List.mem_singleton.1 hp]; exact (by decide : Ru.fxW.reads.length ≤ 100000))).mono ?_; rintro e u4 ⟨g25, d25, A25, rfl, hm25, hA25, k4⟩)
    exact hK3.out _ _ ((bseq hSm1 (bseq (bseq (bseq k1 k2) k3) k4))) ⟨.slice (some ⟨u2.heap.size, 0, none⟩) 1 1, .slice (some ⟨g25, 0, none⟩) A25.length d25, .slice (some ⟨u1.heap.size, 0, none⟩) 1 1, by kernel_rfl, g25, d25, u1.heap.size, A25, rfl, rfl, hm25, (hA25.below (Below.refl _ _)), (hA27.out.below (bseq k3 k4))⟩
  intro v t u W2 hSm2 hF
  obtain ⟨g25, d25, g27, A25, rfl, rfl, hm25, hF25, hF27⟩ := hF
  try simp only [Act.put, List.getElem_toArray, List.getElem_cons_zero, List.getElem_cons_succ, List.setIfInBounds_toArray, List.set_cons_zero, List.set_cons_succ]
  refine wpAnyH_ready (rs := [28]) (by kernel_rfl) (by simp) ?_
  refine AllReadyH.cons rfl (fun K hK => ?_) AllReadyH.nil
  try simp only [Act.put, List.getElem_toArray, List.getElem_cons_zero, List.getElem_cons_succ, List.setIfInBounds_toArray, List.set_cons_zero, List.set_cons_succ]
  go_simp
  go_wp2_with (go_at_call 32; refine (ref20_same_eq A25 [(Ru.fxW, .slice (some ⟨gs, 0, none⟩) 1 1, .slice (some ⟨gs + 1, 0, none⟩) 1 1)] _ _ W2 (hF25.below (Below.refl _ _)) (hF27.below (Below.refl _ _)) hm25).mono ?_; rintro e u1 ⟨rfl, k1⟩)
  refine hK.out _ _ ((bseq hSm2 k1)) (fun _ => ?_)
  clear K hK
  try simp only [Act.put, List.getElem_toArray, List.getElem_cons_zero, List.getElem_cons_succ, List.setIfInBounds_toArray, List.set_cons_zero, List.set_cons_succ]
  refine wpAnyH_take (i := 29) (v := ?v23) rfl (by kernel_rfl) (by kernel_rfl) (by kernel_rfl) (fun _ _ _ h => h) (Or.inl ⟨by kernel_rfl, fun W hW => ?h23⟩) (by assumption) ?_
  case h23 => (go_simp; rfl)
  refine wpAnyH_take (i := 30) (v := ?v24) rfl (by kernel_rfl) (by kernel_rfl) (by kernel_rfl) (fun _ _ _ h => h) (Or.inl ⟨by kernel_rfl, fun W hW => ?h24⟩) (by assumption) ?_
  case h24 => (go_simp; rfl)
  refine wpAnyH_take (i := 31) (v := ?v25) rfl (by kernel_rfl) (by kernel_rfl) (by kernel_rfl) (fun _ _ _ h => h) (Or.inl ⟨by kernel_rfl, fun W hW => ?h25⟩) (by assumption) ?_
  case h25 => (go_simp; rfl)
  refine wpAnyH_take (i := 32) (v := ?v26) rfl (by kernel_rfl) (by kernel_rfl) (by kernel_rfl) (fun _ _ _ h => h) (Or.inl ⟨by kernel_rfl, fun W hW => ?h26⟩) (by assumption) ?_
  case h26 => (go_simp; rfl)
  refine wpAnyH_take (i := 33) (v := ?v27) rfl (by kernel_rfl) (by kernel_rfl) (by kernel_rfl) (fun _ _ _ h => h) (Or.inl ⟨by kernel_rfl, fun W hW => ?h27⟩) (by assumption) ?_
  case h27 => (go_simp; rfl)
  refine wpAnyH_take (i := 34) (v := ?v28) rfl (by kernel_rfl) (by kernel_rfl) (by kernel_rfl) (fun _ _ _ h => h) (Or.inl ⟨by kernel_rfl, fun W hW => ?h28⟩) (by assumption) ?_
  case h28 => (go_simp; rfl)
  refine wpAnyH_take (i := 35) (v := ?v29) rfl (by kernel_rfl) (by kernel_rfl) (by kernel_rfl) (fun _ _ _ h => h) (Or.inl ⟨by kernel_rfl, fun W hW => ?h29⟩) (by assumption) ?_
  case h29 => (go_simp; rfl)
  refine wpAnyH_take (i := 36) (v := ?v30) rfl (by kernel_rfl) (by kernel_rfl) (by kernel_rfl) (fun _ _ _ h => h) (Or.inl ⟨by kernel_rfl, fun W hW => ?h30⟩) (by assumption) ?_
  case h30 => (go_simp; rfl)
  refine wpAnyH_take (i := 37) (v := ?v31) rfl (by kernel_rfl) (by kernel_rfl) (by kernel_rfl) (fun _ _ _ h => h) (Or.inl ⟨by kernel_rfl, fun W hW => ?h31⟩) (by assumption) ?_
  case h31 => (go_simp; rfl)
  refine wpAnyH_take (i := 38) (v := ?v32) rfl (by kernel_rfl) (by kernel_rfl) (by kernel_rfl) (fun _ _ _ h => h) (Or.inl ⟨by kernel_rfl, fun W hW => ?h32⟩) (by assumption) ?_
  case h32 => (go_simp; rfl)
  refine wpAnyH_take (i := 39) (v := ?v33) rfl (by kernel_rfl) (by kernel_rfl) (by kernel_rfl) (fun _ _ _ h => h) (Or.inl ⟨by kernel_rfl, fun W hW => ?h33⟩) (by assumption) ?_
  case h33 => (go_simp; rfl)
  refine wpAnyH_take (i := 40) (v := ?v34) rfl (by kernel_rfl) (by kernel_rfl) (by kernel_rfl) (fun _ _ _ h => h) (Or.inl ⟨by kernel_rfl, fun W hW => ?h34⟩) (by assumption) ?_
  case h34 => (go_simp; rfl)
  refine wpAnyH_take (i := 41) (v := ?v35) rfl (by kernel_rfl) (by kernel_rfl) (by kernel_rfl) (fun _ _ _ h => h) (Or.inl ⟨by kernel_rfl, fun W hW => ?h35⟩) (by assumption) ?_
  case h35 => (go_simp; rfl)
  refine wpAnyH_take (i := 42) (v := ?v36) rfl (by kernel_rfl) (by kernel_rfl) (by kernel_rfl) (fun _ _ _ h => h) (Or.inl ⟨by kernel_rfl, fun W hW => ?h36⟩) (by assumption) ?_
  case h36 => (go_simp; rfl)
  refine wpAnyH_take (i := 43) (v := ?v37) rfl (by kernel_rfl) (by kernel_rfl) (by kernel_rfl) (fun _ _ _ h => h) (Or.inl ⟨by kernel_rfl, fun W hW => ?h37⟩) (by assumption) ?_
  case h37 => (go_simp; rfl)
  refine wpAnyH_take (i := 44) (v := ?v38) rfl (by kernel_rfl) (by kernel_rfl) (by kernel_rfl) (fun _ _ _ h => h) (Or.inl ⟨by kernel_rfl, fun W hW => ?h38⟩) (by assumption) ?_
  case h38 => (go_simp; rfl)
  refine wpAnyH_take (i := 45) (v := ?v39) rfl (by kernel_rfl) (by kernel_rfl) (by kernel_rfl) (fun _ _ _ h => h) (Or.inl ⟨by kernel_rfl, fun W hW => ?h39⟩) (by assumption) ?_
  case h39 => (obtain ⟨⟨g0, g1', g2'⟩, v0, v1, v2⟩ := HG.out W hW; obtain ⟨x0, x1, x2⟩ := HX.out W hW; go_simp; rfl)
  refine wpAnyH_ready (rs := [46]) (by kernel_rfl) (by simp) ?_
  refine AllReadyH.cons rfl (fun K hK => ?_) AllReadyH.nil
  try simp only [Act.put, List.getElem_toArray, List.getElem_cons_zero, List.getElem_cons_succ, List.setIfInBounds_toArray, List.set_cons_zero, List.set_cons_succ]
  go_simp
  go_wp2_with (go_at_call 13; have ho := rule_text ⟨1, [109, 97, 105, 110], []⟩ u1 (by decide) (by decide); unfold rlV at ho; dsimp only at ho; rw [Ru.fx_t2] at ho; refine ho.mono ?_; clear ho; rintro e u2 ⟨rfl, k2⟩)
  refine hK.out _ _ ((bseq hSm2 (bseq k1 k2))) (fun _ => ?_)
  clear K hK
  try simp only [Act.put, List.getElem_toArray, List.getElem_cons_zero, List.getElem_cons_succ, List.setIfInBounds_toArray, List.set_cons_zero, List.set_cons_succ]
  refine wpAnyH_take (i := 47) (v := ?v40) rfl (by kernel_rfl) (by kernel_rfl) (by kernel_rfl) (fun _ _ _ h => h) (Or.inl ⟨by kernel_rfl, fun W hW => ?h40⟩) (by assumption) ?_
  case h40 => (go_simp; rfl)
  refine wpAnyH_take (i := 48) (v := ?v41) rfl (by kernel_rfl) (by kernel_rfl) (by kernel_rfl) (fun _ _ _ h => h) (Or.inl ⟨by kernel_rfl, fun W hW => ?h41⟩) (by assumption) ?_
  case h41 => (go_simp; rfl)
  refine wpAnyH_take (i := 49) (v := ?v42) rfl (by kernel_rfl) (by kernel_rfl) (by kernel_rfl) (fun _ _ _ h => h) (Or.inl ⟨by kernel_rfl, fun W hW => ?h42⟩) (by assumption) ?_
  case h42 => (go_simp; rfl)
  refine wpAnyH_take (i := 50) (v := ?v43) rfl (by kernel_rfl) (by kernel_rfl) (by kernel_rfl) (fun _ _ _ h => h) (Or.inl ⟨by kernel_rfl, fun W hW => ?h43⟩) (by assumption) ?_
  case h43 => (go_simp; rfl)
  refine wpAnyH_two (i := 51) (j := 52) rfl rfl (by kernel_rfl) (by kernel_rfl) (by kernel_rfl) rfl (by kernel_rfl) (fun v u W => ∃ (p51 : Option Addr) (d51 g52 : Nat), v = .slice p51 2 d51 ∧ u = .slice (some ⟨g52, 0, none⟩) 2 2 ∧ SliceIn (fun _ => True) 1 RStr W v [[109, 46, 105, 108, 103], [109, 46, 105, 110, 100]] ∧ SliceIn (fun _ => True) 1 RStr W u [[109, 46, 105, 108, 103], [109, 46, 105, 110, 100]]) ?_ ?_ ?_
  · intro K hK
    unfold opStep
    try simp only [Act.put, List.getElem_toArray, List.getElem_cons_zero, List.getElem_cons_succ, List.setIfInBounds_toArray, List.set_cons_zero, List.set_cons_succ]
    go_simp
    go_wp2_with (go_at_call 17; have ho := rule_writes ⟨3, [109], []⟩ u2 (by decide) (by decide); unfold rlV at ho; dsimp only at ho; rw [Ru.fx_w] at ho; refine ho.mono ?_; clear ho; rintro e u3 ⟨p51, d51, rfl, hA51, k3⟩)
    refine hK.out _ _ ((bseq hSm2 (bseq (bseq k1 k2) k3))) (fun _ K2 hK2 => ?_)
    clear K hK
    unfold opStep
    try simp only [Act.put, List.getElem_toArray, List.getElem_cons_zero, List.getElem_cons_succ, List.setIfInBounds_toArray, List.set_cons_zero, List.set_cons_succ]
    go_simp
    have k4 := below_new u3 (.cells #[.string ⟨#[109, 46, 105, 108, 103]⟩, .string ⟨#[109, 46, 105, 110, 100]⟩] 9)
    have hA52 := Lib.hid (show SliceIn (fun _ => True) 1 RStr (u3.alloc (.cells #[.string ⟨#[109, 46, 105, 108, 103]⟩, .string ⟨#[109, 46, 105, 110, 100]⟩] 9)) (.slice (some ⟨u3.heap.size, 0, none⟩) 2 2) [[109, 46, 105, 108, 103], [109, 46, 105, 110, 100]] from inS [[109, 46, 105, 108, 103], [109, 46, 105, 110, 100]] u3 (by decide))
    generalize u3.alloc (.cells #[.string ⟨#[109, 46, 105, 108, 103]⟩, .string ⟨#[109, 46, 105, 110, 100]⟩] 9) = u4 at *
    exact hK2.out _ _ ((bseq hSm2 (bseq (bseq (bseq k1 k2) k3) k4))) ⟨.slice p51 2 d51, .slice (some ⟨u3.heap.size, 0, none⟩) 2 2, by kernel_rfl, p51, d51, u3.heap.size, rfl, rfl, (sliceBelow (hA51.slice RStr.size (fun _ => True) (fun _ _ => trivial)) k4), (sliceBelow hA52.out (Below.refl _ _))⟩
  · intro K hK
    unfold opStep
    try simp only [Act.put, List.getElem_toArray, List.getElem_cons_zero, List.getElem_cons_succ, List.setIfInBounds_toArray, List.set_cons_zero, List.set_cons_succ]
    go_simp
    have k3 := below_new u2 (.cells #[.string ⟨#[109, 46, 105, 108, 103]⟩, .string ⟨#[109, 46, 105, 110, 100]⟩] 9)
    have hA52 := Lib.hid (show SliceIn (fun _ => True) 1 RStr (u2.alloc (.cells #[.string ⟨#[109, 46, 105, 108, 103]⟩, .string ⟨#[109, 46, 105, 110, 100]⟩] 9)) (.slice (some ⟨u2.heap.size, 0, none⟩) 2 2) [[109, 46, 105, 108, 103], [109, 46, 105, 110, 100]] from inS [[109, 46, 105, 108, 103], [109, 46, 105, 110, 100]] u2 (by decide))
    generalize u2.alloc (.cells #[.string ⟨#[109, 46, 105, 108, 103]⟩, .string ⟨#[109, 46, 105, 110, 100]⟩] 9) = u3 at *
    refine hK.out _ _ ((bseq hSm2 (bseq (bseq k1 k2) k3))) (fun _ K2 hK2 => ?_)
    clear K hK
    unfold opStep
    try simp only [Act.put, List.getElem_toArray, List.getElem_cons_zero, List.getElem_cons_succ, List.setIfInBounds_toArray, List.set_cons_zero, List.set_cons_succ]
    go_simp
    go_wp2_with (go_at_call 17; have ho := rule_writes ⟨3, [109], []⟩ u3 (by decide) (by decide); unfold rlV at ho; dsimp only at ho; rw [Ru.fx_w] at ho; refine ho.mono ?_; clear ho; rintro e u4 ⟨p51, d51, rfl, hA51, k4⟩)
    exact hK2.out _ _ ((bseq hSm2 (bseq (bseq (bseq k1 k2) k3) k4))) ⟨.slice p51 2 d51, .slice (some ⟨u2.heap.size, 0, none⟩) 2 2, by kernel_rfl, p51, d51, u2.heap.size, rfl, rfl, (sliceBelow (hA51.slice RStr.size (fun _ => True) (fun _ _ => trivial)) (Below.refl _ _)), (sliceBelow hA52.out k4)⟩
  intro v u W3 hSm3 hF
  obtain ⟨p51, d51, g52, rfl, rfl, hF51, hF52⟩ := hF
  try simp only [Act.put, List.getElem_toArray, List.getElem_cons_zero, List.getElem_cons_succ, List.setIfInBounds_toArray, List.set_cons_zero, List.set_cons_succ]
  refine wpAnyH_ready (rs := [53]) (by kernel_rfl) (by simp) ?_
  refine AllReadyH.cons rfl (fun K hK => ?_) AllReadyH.nil
  try simp only [Act.put, List.getElem_toArray, List.getElem_cons_zero, List.getElem_cons_succ, List.setIfInBounds_toArray, List.set_cons_zero, List.set_cons_succ]
  go_simp
  go_wp2_with (go_at_call 16; refine (ref02_words [[109, 46, 105, 108, 103], [109, 46, 105, 110, 100]] [[109, 46, 105, 108, 103], [109, 46, 105, 110, 100]] _ _ _ _ W3 (sliceBelow hF51 (Below.refl _ _)) (sliceBelow hF52 (Below.refl _ _))).mono ?_; rw [show decide (([[109, 46, 105, 108, 103], [109, 46, 105, 110, 100]] : List (List UInt8)) = [[109, 46, 105, 108, 103], [109, 46, 105, 110, 100]]) = true from by decide]; rintro e u1 ⟨rfl, k1⟩)
  refine hK.out _ _ ((bseq hSm3 k1)) (fun _ => ?_)
  clear K hK
  try simp only [Act.put, List.getElem_toArray, List.getElem_cons_zero, List.getElem_cons_succ, List.setIfInBounds_toArray, List.set_cons_zero, List.set_cons_succ]
  refine wpAnyH_take (i := 54) (v := ?v44) rfl (by kernel_rfl) (by kernel_rfl) (by kernel_rfl) (fun _ _ _ h => h) (Or.inl ⟨by kernel_rfl, fun W hW => ?h44⟩) (by assumption) ?_
  case h44 => (go_simp; rfl)
  refine wpAnyH_take (i := 55) (v := ?v45) rfl (by kernel_rfl) (by kernel_rfl) (by kernel_rfl) (fun _ _ _ h => h) (Or.inl ⟨by kernel_rfl, fun W hW => ?h45⟩) (by assumption) ?_
  case h45 => (go_simp; rfl)
  refine wpAnyH_take (i := 56) (v := ?v46) rfl (by kernel_rfl) (by kernel_rfl) (by kernel_rfl) (fun _ _ _ h => h) (Or.inl ⟨by kernel_rfl, fun W hW => ?h46⟩) (by assumption) ?_
  case h46 => (go_simp; rfl)
  refine wpAnyH_take (i := 57) (v := ?v47) rfl (by kernel_rfl) (by kernel_rfl) (by kernel_rfl) (fun _ _ _ h => h) (Or.inl ⟨by kernel_rfl, fun W hW => ?h47⟩) (by assumption) ?_
  case h47 => (go_simp; rfl)
  refine wpAnyH_done (by kernel_rfl) ?_ _
  try simp only [Act.put, List.getElem_toArray, List.getElem_cons_zero, List.getElem_cons_succ, List.setIfInBounds_toArray, List.set_cons_zero, List.set_cons_succ]
  go_wp2_with fail
  go_ret
  exact ⟨rfl, bseq B15.out (bseq hSm3 k1)⟩
end Go.Proofs.YtibinlpbcoihoaaGreatDoor
