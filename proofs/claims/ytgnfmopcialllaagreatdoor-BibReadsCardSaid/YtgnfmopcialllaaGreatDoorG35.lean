/- The walks of what holds two answers together: notes, words, files. The walk of stetlaw18.fixed. The walk of files.Right over a map of files. What a run of package bib reads is all that it hangs on. Plain Lean. The walk of the law BibReads. -/
import Derived.Test.YtgnfmopcialllaaGreatDoorTk
import Derived.Test.YtgnfmopcialllaaGreatDoorG31
import Derived.Test.YtgnfmopcialllaaGreatDoorG05
import Derived.Test.YtgnfmopcialllaaGreatDoorG06
import Derived.BigQuiet
import Derived.Test.YtgnfmopcialllaaGreatDoorBbR
import Derived.Test.YtgnfmopcialllaaGreatDoorG27
import Derived.Test.YtgnfmopcialllaaGreatDoorG07
import Derived.Test.YtgnfmopcialllaaGreatDoorG32
import Derived.OrdersHeld
import Derived.Deep.RegionHeld
set_option linter.unusedSimpArgs false
set_option linter.unusedVariables false
namespace Go.Proofs.YtgnfmopcialllaaGreatDoor
open Go.RowKit
def RFile (x:List UInt8 × List UInt8) (vs:List Value):Prop:=vs=[.string ⟨x.1.toArray⟩,.string ⟨x.2.toArray⟩]
theorem RFile.size (x:List UInt8 × List UInt8) (vs:List Value) (h:RFile x vs):vs.length=2:=by rw [h];rfl
set_option maxRecDepth 100000 in
set_option maxHeartbeats 1600000 in
theorem law14_equal (A B:List (List UInt8 × List UInt8)) (va vb:Value) (S S':Nat→Prop) (w:World) (hA:SliceIn S 2 RFile w va A) (hB:SliceIn S' 2 RFile w vb B) :
  Calls Tryz.prog 8 #[va,vb] w fun e w'=>e = .returned (.bool (decide (A=B)))∧Below w.heap.size w w':=by
 obtain ⟨p,cap,rfl,hle,hm,hat⟩:=hA
 obtain ⟨p2,cap2,rfl,hle2,hm2,hat2⟩:=hB
 have hAm:A.length≤9223372036854775807:=by unfold maxLen at hm;omega
 have hBm:B.length≤9223372036854775807:=by unfold maxLen at hm2;omega
 have Hat:=η hat;have Hat2:=η hat2;clear hat hm hle hat2 hm2 hle2
 by_cases hl:A.length=B.length
 ·
  have hl':((A.length:Int) != (B.length:Int))=false:=by simp [hl]
  have hlI:(A.length:Int)=(B.length:Int):=by omega
  have Hl:=η hl;clear hl hlI
  go_enter Tryz.func8, Tryz.ntmps8
  go_wp2_with fail
  go_loopw [5] (fun i wr=>∃k:Nat,k≤A.length∧i = .int .i64 (k:Int)∧A.take k=B.take k∧Below w.heap.size w wr) (fun i _=>A.length - (intOf i).toNat)
  case atStart=>exact ⟨0,Nat.zero_le _,rfl,rfl,Below.refl _ _⟩
  case round =>
   obtain ⟨k,hk,rfl,ht,hb⟩:=hrel
   have Ht:=η ht;have Hb:=η hb;clear ht hb
   by_cases hlt:k<A.length
   ·
    obtain ⟨x,hx⟩:∃x,A[k]? = some x:=⟨_,List.getElem?_eq_getElem hlt⟩
    have hlt2:k<B.length:=by have:=Hl.out;omega
    obtain ⟨y,hy⟩:∃y,B[k]? = some y:=⟨_,List.getElem?_eq_getElem hlt2⟩
    obtain ⟨b,off,vs,rfl,_,hbw,hR,hc⟩:=Hat.out k x hx
    obtain ⟨b2,off2,vs2,rfl,_,hbw2,hR2,hc2⟩:=Hat2.out k y hy
    subst hR
    subst hR2
    have e0:wr.cell? ⟨b,off+k*2,none⟩=some (.string ⟨x.1.toArray⟩):=(Hb.out.cell (p:=⟨b,off+k*2,none⟩) hbw).trans (hc 0 _ rfl)
    have e1:wr.cell? ⟨b,off+k*2+1,none⟩=some (.string ⟨x.2.toArray⟩):=(Hb.out.cell (p:=⟨b,off+k*2+1,none⟩) hbw).trans (hc 1 _ rfl)
    have e2:wr.cell? ⟨b2,off2+k*2,none⟩=some (.string ⟨y.1.toArray⟩):=(Hb.out.cell (p:=⟨b2,off2+k*2,none⟩) hbw2).trans (hc2 0 _ rfl)
    have e3:wr.cell? ⟨b2,off2+k*2+1,none⟩=some (.string ⟨y.2.toArray⟩):=(Hb.out.cell (p:=⟨b2,off2+k*2+1,none⟩) hbw2).trans (hc2 1 _ rfl)
    have hlt':(k:Int)<(A.length:Int):=by omega
    have hlt2':(k:Int)<(B.length:Int):=by omega
    have hkl:(k:Int)+1≤9223372036854775807:=by omega
    have Hx:=η hx;have Hy:=η hy
    clear hc hc2 hx hy
    obtain ⟨xe,xs⟩:=x
    obtain ⟨ye,ys⟩:=y
    dsimp only at e0 e1 e2 e3
    cases hs:(xs == ys)
    ·
     have hne:A≠B:=fun h=>by
      have h1:=Hx.out;rw [h,Hy.out] at h1;injection h1 with h1;injection h1 with _ h1;rw [h1] at hs;simp at hs
     have Hne:=η hne;clear hne
     cases he:(xe == ye)
     ·
      go_wp2_with fail
      go_quiet (fail)
      go_wp2_with fail
      go_ret
      exact ⟨ret_bool (by simp [Hne.out]),below_drewN Hb.out _⟩
     ·
      obtain rfl:=eq_of_beq he
      go_wp2_with fail
      go_quiet (fail)
      go_wp2_with fail
      go_ret
      exact ⟨ret_bool (by simp [Hne.out]),below_drewN Hb.out _⟩
    ·
     obtain rfl:=eq_of_beq hs
     clear hs
     cases he:(xe == ye)
     ·
      have hne:A≠B:=fun h=>by
       have h1:=Hx.out;rw [h,Hy.out] at h1;injection h1 with h1;injection h1 with h1 _;rw [h1] at he;simp at he
      have Hne:=η hne;clear hne
      go_wp2_with fail
      go_quiet (fail)
      go_wp2_with fail
      go_ret
      exact ⟨ret_bool (by simp [Hne.out]),below_drewN Hb.out _⟩
     ·
      obtain rfl:=eq_of_beq he
      clear he
      have ht2:A.take (k+1)=B.take (k+1):=by rw [List.take_add_one,List.take_add_one,Ht.out,Hx.out,Hy.out]
      have Ht2:=η ht2;clear ht2
      go_wp2_with fail
      go_quiet (fail)
      go_wp2_with fail
      go_roundw
      case rel=>exact ⟨k+1,by omega,by go_num,Ht2.out,below_drewN Hb.out _⟩
      case measure=>simp [intOf];omega
   ·
    go_wp2_with fail
    go_ret
    refine ⟨ret_bool ?_,Hb.out⟩
    have h:=Ht.out
    rw [List.take_of_length_le (by omega),List.take_of_length_le (by have:=Hl.out;omega)] at h
    simp [h]
 ·
  have hl':((A.length:Int) != (B.length:Int))=true:=by simp;omega
  have hne:decide (A=B)=false:=by simp;intro h;rw [h] at hl;exact hl rfl
  have Hne:=η hne;clear hne
  go_enter Tryz.func8, Tryz.ntmps8
  go_wp2_with fail
  go_ret
  exact ⟨ret_bool Hne.out.symm,Below.refl _ _⟩
end Go.Proofs.YtgnfmopcialllaaGreatDoor
set_option linter.unusedSimpArgs false
set_option linter.unusedVariables false
namespace Go.Proofs.YtgnfmopcialllaaGreatDoor
open Go.RowKit
theorem lit_in {α:Type} {R:α→List Value→Prop} (c:α→List Value) (hR:∀x,R x (c x)) (n:Nat) (hn:∀x,(c x).length=n) (hs:∀x vs,R x vs→vs.length=n) (t:TypeId) (l:List α) (w:World) (hm:l.length≤maxLen) :
  SliceIn (fun _=>True) n R (w.alloc (.cells (l.flatMap c).toArray t)) (.slice (some ⟨w.heap.size,0,none⟩) l.length l.length) l:=by
 have h:OwnL w.heap.size t n R (w.alloc (.cells (l.flatMap c).toArray t)) (.slice (some ⟨w.heap.size,0,none⟩) l.length l.length) l :=
  ⟨l.flatMap c,own_built w w.heap.size t n l.length _ (Nat.le_refl _) (len_flat c n hn l) hm,rep_flat c hR l⟩
 exact h.slice hs (fun _=>True) (fun _ _=>trivial)
def cS (x:List UInt8):List Value:=[.string ⟨x.toArray⟩]
theorem inF (l:List (List UInt8 × List UInt8)) (w:World) (hm:l.length≤maxLen):SliceIn (fun _=>True) 2 RFl (w.alloc (.cells (l.flatMap cF).toArray 33)) (.slice (some ⟨w.heap.size,0,none⟩) l.length l.length) l :=
 lit_in (R:=RFl) cF (fun _=>rfl) 2 (fun _=>rfl) RFl.size 33 l w hm
theorem inS (l:List (List UInt8)) (w:World) (hm:l.length≤maxLen):SliceIn (fun _=>True) 1 RStr (w.alloc (.cells (l.flatMap cS).toArray 9)) (.slice (some ⟨w.heap.size,0,none⟩) l.length l.length) l :=
 lit_in (R:=RStr) cS (fun _=>rfl) 1 (fun _=>rfl) RStr.size 9 l w hm
theorem SliceIn.below2 {α:Type} {n:Nat} {R:α→List Value→Prop} {w w':World} {v:Value} {l:List α} (h:SliceIn (fun _=>True) n R w v l) (hb:Below w.heap.size w w'):SliceIn (fun _=>True) n R w' v l :=
 h.kept (fun _ h=>h) hb.size (fun b _ hl=>hb.block b hl) (fun _ _ _ h=>h)
namespace Bb
def fxX:Sd.Side:=⟨[],[],[[107],[110,111]],[[114],[110,111,110,101]]⟩
def fxB:List UInt8:=[49,49,58,52,58,99,105,116,101,44,49,58,107,44,44,49,50,58,52,58,99,105,116,101,44,50,58,110,111,44,44,49,48,58,51,58,98,105,98,44,49,58,114,44,44,49,51,58,51,58,98,105,98,44,52,58,110,111,110,101,44,44]
def fA:Fls:=[([109,46,97,117,120],fxB),([114,46,98,105,98],[64,98,111,111,107,123,107,44,116,105,116,108,101,61,123,84,125,44,121,101,97,114,61,49,125,64])]
def gA:Fls:=[([109,46,98,98,108],[49,58,107,44,49,58,49,44,53,58,84,46,32,49,46,44]),([109,46,98,108,103],[54,32,10,52,32,110,111,110,101,46,98,105,98,10,49,52,32,110,111,10])]
def rA:List (List UInt8):=[[109,46,97,117,120],[114,46,98,105,98],[110,111,110,101,46,98,105,98]]
def gB:Fls:=[([109,46,98,98,108],[]),([109,46,98,108,103],[])]
def rB:List (List UInt8):=[[109,46,97,117,120]]
def fC:Fls:=[([109,46,97,117,120],[120])]
def gC:Fls:=[([109,46,98,98,108],[]),([109,46,98,108,103],[53,32,109,46,97,117,120,10])]
theorem fx_e:Sd.enc fxX=(fxB,0):=by decide +kernel
theorem fx_a:run fA [109] 0=some (gA,rA):=by kernel_rfl
theorem fx_b:run [] [109] 0=some (gB,rB):=by decide +kernel
theorem fx_g:run [] [77] 0=none:=by decide +kernel
theorem fx_c:run fC [109] 0=some (gC,rB):=by decide +kernel
theorem fx_s:Ix.Sorted fA:=by unfold Ix.Sorted fA;simp;decide +kernel
theorem fx_ta:∀x ∈ fA,x.2.length≤500:=by decide +kernel
theorem fx_tb:∀x ∈ ([]:Fls),x.2.length≤500:=by simp
theorem fx_tc:∀x ∈ fC,x.2.length≤500:=by decide +kernel
theorem fx_sm:SideSm fxX:=⟨by decide,by decide,by decide,by decide,by decide,by decide,by decide,by decide⟩
end Bb
set_option maxRecDepth 100000 in
set_option maxHeartbeats 6400000 in
theorem law18_fixed (m:Int) (w:World) (hL:Laid10 w) (hm:w.cell? ⟨2, 0,none⟩=some (.int .i64 m)) (h0 : 2 < w.heap.size) :
  Calls Tryz.prog 10 #[] w fun e w'=>e = .returned (.bool true)∧Below w.heap.size w w':=by
 have HLb:=η (show ∀W,Below w.heap.size w W→Laid10 W∧W.cell? ⟨2, 0,none⟩=some (.int .i64 m) ∧ 2 < W.heap.size from fun W hW=>⟨hL.below hW,keptM hm h0 hW⟩)
 clear hL hm h0
 go_enter Tryz.func10, Tryz.ntmps10
 go_wp2_with fail
 have B1:=η (Below.refl w.heap.size w)
 have ha:=below_new w (.cells (Bb.fxX.cites.flatMap cS).toArray 9)
 have ha2:=below_new (w.alloc (.cells (Bb.fxX.cites.flatMap cS).toArray 9)) (.cells (Bb.fxX.bibs.flatMap cS).toArray 9)
 have hz:(w.alloc (.cells (Bb.fxX.cites.flatMap cS).toArray 9)).heap.size=w.heap.size+1:=by simp
 have h2:=inS Bb.fxX.bibs (w.alloc (.cells (Bb.fxX.cites.flatMap cS).toArray 9)) (by decide)
 rw [hz] at h2
 have hX:SideIn (fun _=>True) ((w.alloc (.cells (Bb.fxX.cites.flatMap cS).toArray 9)).alloc (.cells (Bb.fxX.bibs.flatMap cS).toArray 9)) (.agg #[.slice none 0 0,.slice none 0 0,.slice (some ⟨w.heap.size,0,none⟩) 2 2,.slice (some ⟨w.heap.size+1,0,none⟩) 2 2]) Bb.fxX:=⟨_,_,_,_,rfl,SliceIn.nil _ _ _ _,SliceIn.nil _ _ _ _,(inS Bb.fxX.cites w (by decide)).below2 ha2,h2⟩
 refine (side_encode Bb.fxX _ (fun _=>True) ((w.alloc (.cells (Bb.fxX.cites.flatMap cS).toArray 9)).alloc (.cells (Bb.fxX.bibs.flatMap cS).toArray 9)) (HLb.out _ (bseq ha ha2)).1 hX Bb.fx_sm).mono ?_
 clear hX h2 hz
 rw [Bb.fx_e]
 rintro e w1 ⟨rfl,hb⟩
 have B1':=η (bseq B1.out (bseq (bseq ha ha2) hb));clear B1;have B1:=B1';clear B1'
 clear hb ha ha2
 go_wp2_with fail
 have ha:=below_new w1 (.cells (Bb.fA.flatMap cF).toArray 33)
 refine (bb_Run Bb.fA [109] 0 m _ _ (w1.alloc (.cells (Bb.fA.flatMap cF).toArray 33)) (inF Bb.fA w1 (by decide)) Bb.fx_s (by decide) Bb.fx_ta (by decide) (HLb.out _ (bseq B1.out ha)).1 (HLb.out _ (bseq B1.out ha)).2.1 (HLb.out _ (bseq B1.out ha)).2.2).mono ?_
 unfold BbPost
 rw [Bb.fx_a]
 rintro e w2 ⟨hb,va1,vr1,rfl,hF,hR⟩
 have F1:=η (hF.slice RFl.size (fun _=>True) (fun _ _=>trivial));have R1:=η (hR.slice RStr.size (fun _=>True) (fun _ _=>trivial))
 have B1':=η (bseq B1.out (bseq ha hb));clear B1;have B1:=B1';clear B1'
 clear hF hR hb ha
 go_wp2_with fail
 refine (bb_Run [] [109] 0 m _ _ w2 (SliceIn.nil (fun _=>True) _ _ _) List.Pairwise.nil (by decide) Bb.fx_tb (by decide) (HLb.out _ B1.out).1 (HLb.out _ B1.out).2.1 (HLb.out _ B1.out).2.2).mono ?_
 unfold BbPost
 rw [Bb.fx_b]
 rintro e w3 ⟨hb,va2,vr2,rfl,hF,hR⟩
 have F2:=η (hF.slice RFl.size (fun _=>True) (fun _ _=>trivial));have R2:=η (hR.slice RStr.size (fun _=>True) (fun _ _=>trivial))
 have B1':=η (bseq B1.out hb);clear B1;have B1:=B1';clear B1'
 have F1':=η (SliceIn.below2 F1.out hb);clear F1;have F1:=F1';clear F1'
 have R1':=η (SliceIn.below2 R1.out hb);clear R1;have R1:=R1';clear R1'
 clear hF hR hb
 go_wp2_with fail
 refine (bb_Run [] [77] 0 m _ _ w3 (SliceIn.nil (fun _=>True) _ _ _) List.Pairwise.nil (by decide) Bb.fx_tb (by decide) (HLb.out _ B1.out).1 (HLb.out _ B1.out).2.1 (HLb.out _ B1.out).2.2).mono ?_
 unfold BbPost
 rw [Bb.fx_g]
 rintro e w4 ⟨hb,rfl⟩
 have B1':=η (bseq B1.out hb);clear B1;have B1:=B1';clear B1'
 have F1':=η (SliceIn.below2 F1.out hb);clear F1;have F1:=F1';clear F1'
 have R1':=η (SliceIn.below2 R1.out hb);clear R1;have R1:=R1';clear R1'
 have F2':=η (SliceIn.below2 F2.out hb);clear F2;have F2:=F2';clear F2'
 have R2':=η (SliceIn.below2 R2.out hb);clear R2;have R2:=R2';clear R2'
 clear hb
 go_wp2_with fail
 have ha:=below_new w4 (.cells (Bb.fC.flatMap cF).toArray 33)
 refine (bb_Run Bb.fC [109] 0 m _ _ (w4.alloc (.cells (Bb.fC.flatMap cF).toArray 33)) (inF Bb.fC w4 (by decide)) (List.pairwise_singleton _ _) (by decide) Bb.fx_tc (by decide) (HLb.out _ (bseq B1.out ha)).1 (HLb.out _ (bseq B1.out ha)).2.1 (HLb.out _ (bseq B1.out ha)).2.2).mono ?_
 unfold BbPost
 rw [Bb.fx_c]
 rintro e w5 ⟨hb,va4,vr4,rfl,hF,hR⟩
 have F4:=η (hF.slice RFl.size (fun _=>True) (fun _ _=>trivial));have R4:=η (hR.slice RStr.size (fun _=>True) (fun _ _=>trivial))
 have B1':=η (bseq B1.out (bseq ha hb));clear B1;have B1:=B1';clear B1'
 have F1':=η (SliceIn.below2 F1.out (bseq ha hb));clear F1;have F1:=F1';clear F1'
 have R1':=η (SliceIn.below2 R1.out (bseq ha hb));clear R1;have R1:=R1';clear R1'
 have F2':=η (SliceIn.below2 F2.out (bseq ha hb));clear F2;have F2:=F2';clear F2'
 have R2':=η (SliceIn.below2 R2.out (bseq ha hb));clear R2;have R2:=R2';clear R2'
 clear hF hR hb ha
 go_wp2_with fail
 have ha:=below_new w5 (.cells (Bb.gA.flatMap cF).toArray 33)
 refine (law14_equal Bb.gA Bb.gA _ _ _ _ (w5.alloc (.cells (Bb.gA.flatMap cF).toArray 33)) (F1.out.below2 ha) (inF Bb.gA w5 (by decide))).mono ?_
 rw [show decide (Bb.gA=Bb.gA)=true from by decide]
 rintro e w6 ⟨rfl,hb⟩
 have B1':=η (bseq B1.out (bseq ha hb));clear B1;have B1:=B1';clear B1'
 have F1':=η (SliceIn.below2 F1.out (bseq ha hb));clear F1;have F1:=F1';clear F1'
 have R1':=η (SliceIn.below2 R1.out (bseq ha hb));clear R1;have R1:=R1';clear R1'
 have F2':=η (SliceIn.below2 F2.out (bseq ha hb));clear F2;have F2:=F2';clear F2'
 have R2':=η (SliceIn.below2 R2.out (bseq ha hb));clear R2;have R2:=R2';clear R2'
 have F4':=η (SliceIn.below2 F4.out (bseq ha hb));clear F4;have F4:=F4';clear F4'
 have R4':=η (SliceIn.below2 R4.out (bseq ha hb));clear R4;have R4:=R4';clear R4'
 clear hb ha
 go_wp2_with fail
 have ha:=below_new w6 (.cells (Bb.rA.flatMap cS).toArray 9)
 refine (ref02_words Bb.rA Bb.rA _ _ _ _ (w6.alloc (.cells (Bb.rA.flatMap cS).toArray 9)) (R1.out.below2 ha) (inS Bb.rA w6 (by decide))).mono ?_
 rw [show decide (Bb.rA=Bb.rA)=true from by decide]
 rintro e w7 ⟨rfl,hb⟩
 have B1':=η (bseq B1.out (bseq ha hb));clear B1;have B1:=B1';clear B1'
 have F1':=η (SliceIn.below2 F1.out (bseq ha hb));clear F1;have F1:=F1';clear F1'
 have R1':=η (SliceIn.below2 R1.out (bseq ha hb));clear R1;have R1:=R1';clear R1'
 have F2':=η (SliceIn.below2 F2.out (bseq ha hb));clear F2;have F2:=F2';clear F2'
 have R2':=η (SliceIn.below2 R2.out (bseq ha hb));clear R2;have R2:=R2';clear R2'
 have F4':=η (SliceIn.below2 F4.out (bseq ha hb));clear F4;have F4:=F4';clear F4'
 have R4':=η (SliceIn.below2 R4.out (bseq ha hb));clear R4;have R4:=R4';clear R4'
 clear hb ha
 go_wp2_with fail
 have ha:=below_new w7 (.cells (Bb.gB.flatMap cF).toArray 33)
 refine (law14_equal Bb.gB Bb.gB _ _ _ _ (w7.alloc (.cells (Bb.gB.flatMap cF).toArray 33)) (F2.out.below2 ha) (inF Bb.gB w7 (by decide))).mono ?_
 rw [show decide (Bb.gB=Bb.gB)=true from by decide]
 rintro e w8 ⟨rfl,hb⟩
 have B1':=η (bseq B1.out (bseq ha hb));clear B1;have B1:=B1';clear B1'
 have F1':=η (SliceIn.below2 F1.out (bseq ha hb));clear F1;have F1:=F1';clear F1'
 have R1':=η (SliceIn.below2 R1.out (bseq ha hb));clear R1;have R1:=R1';clear R1'
 have F2':=η (SliceIn.below2 F2.out (bseq ha hb));clear F2;have F2:=F2';clear F2'
 have R2':=η (SliceIn.below2 R2.out (bseq ha hb));clear R2;have R2:=R2';clear R2'
 have F4':=η (SliceIn.below2 F4.out (bseq ha hb));clear F4;have F4:=F4';clear F4'
 have R4':=η (SliceIn.below2 R4.out (bseq ha hb));clear R4;have R4:=R4';clear R4'
 clear hb ha
 go_wp2_with fail
 have ha:=below_new w8 (.cells (Bb.rB.flatMap cS).toArray 9)
 refine (ref02_words Bb.rB Bb.rB _ _ _ _ (w8.alloc (.cells (Bb.rB.flatMap cS).toArray 9)) (R2.out.below2 ha) (inS Bb.rB w8 (by decide))).mono ?_
 rw [show decide (Bb.rB=Bb.rB)=true from by decide]
 rintro e w9 ⟨rfl,hb⟩
 have B1':=η (bseq B1.out (bseq ha hb));clear B1;have B1:=B1';clear B1'
 have F1':=η (SliceIn.below2 F1.out (bseq ha hb));clear F1;have F1:=F1';clear F1'
 have R1':=η (SliceIn.below2 R1.out (bseq ha hb));clear R1;have R1:=R1';clear R1'
 have F2':=η (SliceIn.below2 F2.out (bseq ha hb));clear F2;have F2:=F2';clear F2'
 have R2':=η (SliceIn.below2 R2.out (bseq ha hb));clear R2;have R2:=R2';clear R2'
 have F4':=η (SliceIn.below2 F4.out (bseq ha hb));clear F4;have F4:=F4';clear F4'
 have R4':=η (SliceIn.below2 R4.out (bseq ha hb));clear R4;have R4:=R4';clear R4'
 clear hb ha
 go_wp2_with fail
 have ha:=below_new w9 (.cells (Bb.gC.flatMap cF).toArray 33)
 refine (law14_equal Bb.gC Bb.gC _ _ _ _ (w9.alloc (.cells (Bb.gC.flatMap cF).toArray 33)) (F4.out.below2 ha) (inF Bb.gC w9 (by decide))).mono ?_
 rw [show decide (Bb.gC=Bb.gC)=true from by decide]
 rintro e w10 ⟨rfl,hb⟩
 have B1':=η (bseq B1.out (bseq ha hb));clear B1;have B1:=B1';clear B1'
 have F1':=η (SliceIn.below2 F1.out (bseq ha hb));clear F1;have F1:=F1';clear F1'
 have R1':=η (SliceIn.below2 R1.out (bseq ha hb));clear R1;have R1:=R1';clear R1'
 have F2':=η (SliceIn.below2 F2.out (bseq ha hb));clear F2;have F2:=F2';clear F2'
 have R2':=η (SliceIn.below2 R2.out (bseq ha hb));clear R2;have R2:=R2';clear R2'
 have F4':=η (SliceIn.below2 F4.out (bseq ha hb));clear F4;have F4:=F4';clear F4'
 have R4':=η (SliceIn.below2 R4.out (bseq ha hb));clear R4;have R4:=R4';clear R4'
 clear hb ha
 go_wp2_with fail
 go_ret
 exact ⟨rfl,B1.out⟩
end Go.Proofs.YtgnfmopcialllaaGreatDoor
set_option linter.unusedSimpArgs false
set_option linter.unusedVariables false
namespace Go.Proofs.YtgnfmopcialllaaGreatDoor
open Go.RowKit
namespace Ix
structure RightOk (l:List Fl):Prop where
 each:∀x ∈ l,nameOk x.1=true∧x.2.length≤4000
 up:∀k x y,l[k]? = some x→l[k+1]? = some y→Op.bytesLess x.1 y.1=true
 len:l.length≤32
end Ix
set_option maxRecDepth 100000 in
set_option maxHeartbeats 3200000 in
theorem files_right (l:List Ix.Fl) (v:Value) (S:Nat→Prop) (w:World) (hS:SliceIn S 2 RFl w v l) (hR:Ix.RightOk l) :
  Calls Tryz.prog 11 #[v] w fun e w'=>e = .returned (.bool true)∧Below w.heap.size w w':=by
 obtain ⟨pa,cap,rfl,hle,hmx,hat⟩:=hS
 have Hat:=η hat;have HR:=η hR
 clear hat hR hle hmx
 go_enter Tryz.func11, Tryz.ntmps11
 go_wp2_with fail
 go_loopw [7] (fun iv wr=>∃k:Nat,k≤l.length∧iv = .int .i64 (k:Int)∧Below w.heap.size w wr) (fun iv _=>l.length - (intOf iv).toNat)
 case atStart=>exact ⟨0,Nat.zero_le _,rfl,Below.refl _ _⟩
 case round =>
  obtain ⟨k,hk,rfl,hb⟩:=hrel
  by_cases hlt:k<l.length
  ·
   obtain ⟨x,hx⟩:∃x,l[k]? = some x:=⟨_,List.getElem?_eq_getElem hlt⟩
   obtain ⟨hx1,hx2⟩:=HR.out.each x (List.mem_of_getElem? hx)
   have hup:∀k0 y,k=k0+1→l[k0]? = some y→Op.bytesLess y.1 x.1=true:=fun k0 y e hy=>HR.out.up k0 y x hy (by rw [←e];exact hx)
   obtain ⟨b,off,vs,rfl,_,hbw,hRv,hc⟩:=Hat.out k x hx
   have hRv:vs=_:=hRv
   subst hRv
   obtain ⟨xn,xt⟩:=x
   have e0:wr.cell? ⟨b,off+k*2,none⟩=some (.string ⟨xn.toArray⟩):=(hb.cell (p:=⟨b,off+k*2,none⟩) hbw).trans (hc 0 _ rfl)
   have e1:wr.cell? ⟨b,off+k*2+1,none⟩=some (.string ⟨xt.toArray⟩):=(hb.cell (p:=⟨b,off+k*2+1,none⟩) hbw).trans (hc 1 _ rfl)
   have hlt':(k:Int)<(l.length:Int):=by omega
   have Hwk:=η (f2_w1 k (by have:=HR.out.len;omega))
   simp only at hx1 hx2 hup
   have hnl:xn.length≤24:=by unfold Ix.nameOk at hx1;simp at hx1;exact hx1.2.2
   have Hb:=η hb;have Hlt:=η hlt;have Hx1:=η hx1;have Hx2:=η hx2;have Hup:=η hup;have Hnl:=η hnl
   clear hb hlt hk hx1 hx2 hup hx hc hbw hnl
   go_upto_region 4 with fail
   obtain ⟨wa,hwa⟩:∃W,W=wr.alloc (.cells #[.string ⟨xn.toArray⟩,.string ⟨xt.toArray⟩] 33):=⟨_,rfl⟩
   have f0:wa.cell? ⟨wr.heap.size,0,none⟩=some (.string ⟨xn.toArray⟩):=by rw [hwa,cell_of_row _ _ _ _ _ _ (heap_alloc_new wr _)];rfl
   have f1:wa.cell? ⟨wr.heap.size,1,none⟩=some (.string ⟨xt.toArray⟩):=by rw [hwa,cell_of_row _ _ _ _ _ _ (heap_alloc_new wr _)];rfl
   have hba:Below wr.heap.size wr wa:=by rw [hwa];exact below_new _ _
   obtain ⟨g,hg⟩:∃g,g=wr.heap.size:=⟨_,rfl⟩
   rw [←hg] at f0 f1
   rw [←hwa,←hg]
   have Hba:=η (bseq Hb.out hba)
   clear hwa hg hba e0 e1 hlt'
   have h4:¬4000<xt.length:=by have:=Hx2.out;omega
   cases k with
   | zero =>
    go_cut [36] from 12 to 36 (fun v W=>v = .bool false∧Below wa.heap.size wa W)
    case first =>
     refine wp_region_any (by kernel_rfl) ?_
     change wpAny _ _ _ _ _ _ _ (World.drew _)
     have HBd:=η (show Below wa.heap.size wa wa.drew from (Below.refl _ _).drew)
     have F0:=η (show (fun W:World=>W.cell? ⟨g,0,none⟩=some (.string ⟨xn.toArray⟩)∧W.cell? ⟨g,1,none⟩=some (.string ⟨xt.toArray⟩)) wa.drew from ⟨f0,f1⟩)
     generalize wa.drew=wd' at *
     refine wpAny_of_held (S:=fun W=>W.cell? ⟨g,0,none⟩=some (.string ⟨xn.toArray⟩)∧W.cell? ⟨g,1,none⟩=some (.string ⟨xt.toArray⟩)) _ _ _ _ ?_
     have hS1:(fun W:World=>W.cell? ⟨g,0,none⟩=some (.string ⟨xn.toArray⟩)∧W.cell? ⟨g,1,none⟩=some (.string ⟨xt.toArray⟩)) wd':=F0.out
     dsimp only at hS1
     refine tk 0 (.pointer (some ⟨g,0,none⟩)) rfl (hy:=fun W hW=>by go_simp) (h:=?_)
     refine tk 1 (.string ⟨xn.toArray⟩) rfl (hy:=fun W hW=>by (obtain ⟨hW0,hW1⟩:=hW;go_simp)) (h:=?_)
     try simp only [Act.put,π1,π2,π3,π4,π5,π6]
     refine tr 2 rfl (h:=fun K hK=>?_)
     go_simp
     go_wp2_with (go_at_call 29; refine (files_name xn _ (by have:=Hnl.out;omega)).mono ?_;rw [Hx1.out];rintro e w' ⟨rfl,hw'⟩;have hw':=hw'.symm;subst hw')
     refine hK.out _ _ (hS1) (fun _=>?_)
     clear K hK
     refine tk 3 (.bool false) rfl (hy:=fun W hW=>by go_simp) (h:=?_)
     refine tk 4 (.bool false) rfl (hy:=fun W hW=>by go_simp) (h:=?_)
     refine tk 5 (.pointer (some ⟨g,1,none⟩)) rfl (hy:=fun W hW=>by go_simp) (h:=?_)
     refine tk 6 (.string ⟨xt.toArray⟩) rfl (hy:=fun W hW=>by (obtain ⟨hW0,hW1⟩:=hW;go_simp)) (h:=?_)
     refine tk 7 (.int .i64 (xt.length:Int)) rfl (hy:=fun W hW=>by go_simp) (h:=?_)
     refine tk 8 (.bool false) rfl (hy:=fun W hW=>by (go_simp;have:=Hx2.out;omega)) (h:=?_)
     refine tk 9 (.bool false) rfl (hy:=fun W hW=>by go_simp) (h:=?_)
     refine tk 10 (.bool false) rfl (hy:=fun W hW=>by go_simp) (h:=?_)
     refine tk 11 (.int .i64 0) rfl (hy:=fun W hW=>by go_simp) (h:=?_)
     refine tk 12 (.bool false) rfl (hy:=fun W hW=>by go_simp) (h:=?_)
     refine tk 13 (.bool false) rfl (hy:=fun W hW=>by go_simp) (h:=?_)
     refine ts 14 rfl (h:=?_)
     refine ts 15 rfl (h:=?_)
     refine ts 16 rfl (h:=?_)
     refine ts 17 rfl (h:=?_)
     refine ts 18 rfl (h:=?_)
     refine ts 19 rfl (h:=?_)
     refine ts 20 rfl (h:=?_)
     refine ts 21 rfl (h:=?_)
     refine ts 22 rfl (h:=?_)
     refine tk 23 (.bool false) rfl (hy:=fun W hW=>by go_simp) (h:=?_)
     refine tk 24 (.bool false) rfl (hy:=fun W hW=>by go_simp) (h:=?_)
     try simp only [Act.put,π1,π2,π3,π4,π5,π6]
     refine wpAnyH_done (by kernel_rfl) ?_ _
     clear hS1
     go_wp2_with fail
     go_meet
     exact ⟨rfl,HBd.out⟩
    case rest =>
     obtain ⟨rfl,hbc⟩:=hcut
     have Hbc:=η (bseq Hba.out hbc)
     clear hbc f0 f1 h4
     go_wp2_with fail
     go_roundw
     case rel=>exact ⟨0+1,by have:=Hlt.out;omega,by first | rfl | rw [Hwk.out] | go_num,Hbc.out⟩
     case measure=>have:=Hlt.out;(try rw [Hwk.out]);simp [intOf];omega
   | succ k0 =>
    obtain ⟨y,hy⟩:∃y,l[k0]? = some y:=⟨_,List.getElem?_eq_getElem (by have:=Hlt.out;omega)⟩
    have hyl:=Hup.out k0 y rfl hy
    obtain ⟨b',off',vs,hbo,_,hbw,hRv,hc⟩:=Hat.out k0 y hy
    simp only [Option.some.injEq,Addr.mk.injEq,and_true] at hbo
    obtain ⟨rfl,rfl⟩:=hbo
    have hRv:vs=_:=hRv
    subst hRv
    obtain ⟨yn,yt⟩:=y
    have e2:wa.cell? ⟨b,off+k0*2,none⟩=some (.string ⟨yn.toArray⟩):=(Hba.out.cell (p:=⟨b,off+k0*2,none⟩) hbw).trans (hc 0 _ rfl)
    simp only at hyl
    obtain ⟨kz,hkz⟩:∃z,z=k0+1:=⟨_,rfl⟩
    rw [←hkz] at Hwk Hlt ⊢
    have hpos:(0:Int)<(kz:Int):=by omega
    have hw0:IntKind.i64.wrap ((kz:Int) - 1)=(k0:Int):=by rw [IntWalk.i64_in _ (by have:=HR.out.len;have:=Hlt.out;omega)];omega
    have hk0l:(k0:Int)<(l.length:Int):=by have:=Hlt.out;omega
    have Hkz:=η hkz
    clear hy hc hbw hkz
    go_cut [36] from 12 to 36 (fun v W=>v = .bool false∧Below wa.heap.size wa W)
    case first =>
     refine wp_region_any (by kernel_rfl) ?_
     change wpAny _ _ _ _ _ _ _ (World.drew _)
     have HBd:=η (show Below wa.heap.size wa wa.drew from (Below.refl _ _).drew)
     have F0:=η (show (fun W:World=>W.cell? ⟨g,0,none⟩=some (.string ⟨xn.toArray⟩)∧W.cell? ⟨g,1,none⟩=some (.string ⟨xt.toArray⟩)∧W.cell? ⟨b,off+k0*2,none⟩=some (.string ⟨yn.toArray⟩)) wa.drew from ⟨f0,f1,e2⟩)
     generalize wa.drew=wd' at *
     refine wpAny_of_held (S:=fun W=>W.cell? ⟨g,0,none⟩=some (.string ⟨xn.toArray⟩)∧W.cell? ⟨g,1,none⟩=some (.string ⟨xt.toArray⟩)∧W.cell? ⟨b,off+k0*2,none⟩=some (.string ⟨yn.toArray⟩)) _ _ _ _ ?_
     have hS1:(fun W:World=>W.cell? ⟨g,0,none⟩=some (.string ⟨xn.toArray⟩)∧W.cell? ⟨g,1,none⟩=some (.string ⟨xt.toArray⟩)∧W.cell? ⟨b,off+k0*2,none⟩=some (.string ⟨yn.toArray⟩)) wd':=F0.out
     dsimp only at hS1
     refine tk 0 (.pointer (some ⟨g,0,none⟩)) rfl (hy:=fun W hW=>by go_simp) (h:=?_)
     refine tk 1 (.string ⟨xn.toArray⟩) rfl (hy:=fun W hW=>by (obtain ⟨hW0,hW1,hW2⟩:=hW;go_simp)) (h:=?_)
     try simp only [Act.put,π1,π2,π3,π4,π5,π6]
     refine tr 2 rfl (h:=fun K hK=>?_)
     go_simp
     go_wp2_with (go_at_call 29; refine (files_name xn _ (by have:=Hnl.out;omega)).mono ?_;rw [Hx1.out];rintro e w' ⟨rfl,hw'⟩;have hw':=hw'.symm;subst hw')
     refine hK.out _ _ (hS1) (fun _=>?_)
     clear K hK
     refine tk 3 (.bool false) rfl (hy:=fun W hW=>by go_simp) (h:=?_)
     refine tk 4 (.bool false) rfl (hy:=fun W hW=>by go_simp) (h:=?_)
     refine tk 5 (.pointer (some ⟨g,1,none⟩)) rfl (hy:=fun W hW=>by go_simp) (h:=?_)
     refine tk 6 (.string ⟨xt.toArray⟩) rfl (hy:=fun W hW=>by (obtain ⟨hW0,hW1,hW2⟩:=hW;go_simp)) (h:=?_)
     refine tk 7 (.int .i64 (xt.length:Int)) rfl (hy:=fun W hW=>by go_simp) (h:=?_)
     refine tk 8 (.bool false) rfl (hy:=fun W hW=>by (go_simp;have:=Hx2.out;omega)) (h:=?_)
     refine tk 9 (.bool false) rfl (hy:=fun W hW=>by go_simp) (h:=?_)
     refine tk 10 (.bool false) rfl (hy:=fun W hW=>by go_simp) (h:=?_)
     refine tk 11 (.int .i64 (kz:Int)) rfl (hy:=fun W hW=>by go_simp) (h:=?_)
     refine tk 12 (.bool true) rfl (hy:=fun W hW=>by (go_simp;omega)) (h:=?_)
     refine tk 13 (.bool true) rfl (hy:=fun W hW=>by go_simp) (h:=?_)
     refine tk 14 (.slice (some ⟨b,off,none⟩) l.length cap) rfl (hy:=fun W hW=>by go_simp) (h:=?_)
     refine tk 15 (.int .i64 (kz:Int)) rfl (hy:=fun W hW=>by go_simp) (h:=?_)
     refine tk 16 (.int .i64 (k0:Int)) rfl (hy:=fun W hW=>by go_simp) (h:=?_)
     refine tk 17 (.pointer (some ⟨b,off+k0*2,none⟩)) rfl (hy:=fun W hW=>by go_simp) (h:=?_)
     refine tk 18 (.pointer (some ⟨b,off+k0*2,none⟩)) rfl (hy:=fun W hW=>by go_simp) (h:=?_)
     refine tk 19 (.string ⟨yn.toArray⟩) rfl (hy:=fun W hW=>by (obtain ⟨hW0,hW1,hW2⟩:=hW;go_simp)) (h:=?_)
     refine tk 20 (.pointer (some ⟨g,0,none⟩)) rfl (hy:=fun W hW=>by go_simp) (h:=?_)
     refine tk 21 (.string ⟨xn.toArray⟩) rfl (hy:=fun W hW=>by (obtain ⟨hW0,hW1,hW2⟩:=hW;go_simp)) (h:=?_)
     refine tk 22 (.bool false) rfl (hy:=fun W hW=>by go_simp) (h:=?_)
     refine tk 23 (.bool false) rfl (hy:=fun W hW=>by go_simp) (h:=?_)
     refine tk 24 (.bool false) rfl (hy:=fun W hW=>by go_simp) (h:=?_)
     try simp only [Act.put,π1,π2,π3,π4,π5,π6]
     refine wpAnyH_done (by kernel_rfl) ?_ _
     clear hS1
     go_wp2_with fail
     go_meet
     exact ⟨rfl,HBd.out⟩
    case rest =>
     obtain ⟨rfl,hbc⟩:=hcut
     have Hbc:=η (bseq Hba.out hbc)
     clear hbc f0 f1 h4 e2 hyl hpos hw0 hk0l
     go_wp2_with fail
     go_roundw
     case rel=>exact ⟨kz+1,by have:=Hlt.out;omega,by first | rfl | rw [Hwk.out],Hbc.out⟩
     case measure=>have:=Hlt.out;have:=Hkz.out;(try rw [Hwk.out]);simp [intOf];omega
  ·
   have he:k=l.length:=by omega
   subst he
   have Hb:=η hb
   have h32:l.length≤32:=HR.out.len
   have g32:decide ((l.length:Int)≤32)=true:=decide_eq_true (by omega)
   clear hlt hk hb h32
   go_wp2_with fail
   go_ret
   exact ⟨by first | rfl | simp,Hb.out⟩
end Go.Proofs.YtgnfmopcialllaaGreatDoor
set_option linter.unusedSimpArgs false
set_option linter.unusedVariables false
namespace Go.Proofs.YtgnfmopcialllaaGreatDoor.Bb
theorem mem_see (rs:List (List UInt8)) (m n:List UInt8):n ∈ see rs m ↔ n ∈ rs∨n=m:=by
 unfold see
 split
 ·
  rename_i h
  obtain ⟨y,hy,he⟩:=List.any_eq_true.1 h
  have he:y=m:=by simpa using he
  constructor
  ·
   exact .inl
  ·
   rintro (h1 | h1)
   ·
    exact h1
   ·
    rw [h1,←he];exact hy
 ·
  simp
theorem nodup_see (rs:List (List UInt8)) (m:List UInt8) (h:rs.Nodup):(see rs m).Nodup:=by
 unfold see
 split
 ·
  exact h
 ·
  rename_i hn
  have hn:m ∉ rs:=fun hm=>hn (List.any_eq_true.2 ⟨m,hm,by simp⟩)
  rw [List.nodup_append]
  exact ⟨h,by simp,fun a ha b hb=>by rw [List.mem_singleton.1 hb];exact fun e=>hn (e ▸ ha)⟩
theorem base1_rs (l:Fls) (σ:St) (b:List UInt8):(base1 l σ b).rs=see σ.rs (b++bibW):=by
 unfold base1
 cases Ix.get l (b++bibW) <;> rfl
theorem bases_rs (l:Fls):∀(bs:List (List UInt8)) (σ:St),σ.rs.Nodup→(bases l σ bs).rs.Nodup∧(∀n ∈ σ.rs,n ∈ (bases l σ bs).rs)∧∀b ∈ bs,b++bibW ∈ (bases l σ bs).rs
 | [],σ,h=>⟨h,fun n hn=>hn,fun b hb=>by cases hb⟩
 | b::bs,σ,h=>by
  have h1:(base1 l σ b).rs.Nodup:=by rw [base1_rs];exact nodup_see _ _ h
  obtain ⟨q1,q2,q3⟩:=bases_rs l bs (base1 l σ b) h1
  refine ⟨q1,fun n hn=>q2 n (by rw [base1_rs,mem_see];exact .inl hn),fun c hc=>?_⟩
  rcases List.mem_cons.1 hc with rfl | hc
  ·
   exact q2 _ (by rw [base1_rs,mem_see];exact .inr rfl)
  ·
   exact q3 c hc
theorem bases_congr (K M:Fls):∀(bs:List (List UInt8)) (σ:St),(∀b ∈ bs,Ix.get K (b++bibW)=Ix.get M (b++bibW))→bases K σ bs=bases M σ bs
 | [],σ,_=>rfl
 | b::bs,σ,h=>by
  have e:base1 K σ b=base1 M σ b:=by unfold base1;rw [h b (by simp)]
  show bases K (base1 K σ b) bs=bases M (base1 M σ b) bs
  rw [e]
  exact bases_congr K M bs _ (fun c hc=>h c (List.mem_cons_of_mem _ hc))
def g1 (rs:List (List UInt8)) (x:List UInt8 × List UInt8):Fls:=(rs.filter fun r=>r == x.1).map fun _=>x
def cutTo (M:Fls) (rs:List (List UInt8)):Fls:=M.flatMap (g1 rs)
theorem filter_none (a:List UInt8):∀rs:List (List UInt8),a ∉ rs→rs.filter (fun r=>r == a)=[]
 | [],_=>rfl
 | r::rs,h=>by
  have h1:¬r=a:=fun e=>h (by rw [e];simp)
  rw [List.filter_cons_of_neg (by simpa using h1)]
  exact filter_none a rs (fun h2=>h (List.mem_cons_of_mem _ h2))
theorem g1_of (x:List UInt8 × List UInt8):∀rs:List (List UInt8),rs.Nodup→g1 rs x=if x.1 ∈ rs then [x] else []
 | [],_=>by simp [g1]
 | r::rs,h=>by
  rw [List.nodup_cons] at h
  unfold g1
  by_cases e:r=x.1
  ·
   rw [List.filter_cons_of_pos (by simpa using e),filter_none x.1 rs (by rw [←e];exact h.1),if_pos (by rw [e];simp)]
   rfl
  ·
   rw [List.filter_cons_of_neg (by simpa using e)]
   have ih:=g1_of x rs h.2
   unfold g1 at ih
   rw [ih]
   by_cases h2:x.1 ∈ rs
   ·
    rw [if_pos h2,if_pos (List.mem_cons_of_mem _ h2)]
   ·
    rw [if_neg h2,if_neg (fun h3=>(List.mem_cons.1 h3).elim (fun h4=>e h4.symm) h2)]
theorem cutTo_filter (rs:List (List UInt8)) (h:rs.Nodup):∀M:Fls,cutTo M rs=M.filter fun x=>decide (x.1 ∈ rs)
 | []=>rfl
 | x::M=>by
  have ih:=cutTo_filter rs h M
  unfold cutTo at ih ⊢
  rw [List.flatMap_cons,ih,g1_of x rs h]
  by_cases h2:x.1 ∈ rs
  ·
   rw [if_pos h2,List.filter_cons_of_pos (by simpa using h2)];rfl
  ·
   rw [if_neg h2,List.filter_cons_of_neg (by simpa using h2)];rfl
theorem get_filter (M:Fls) (rs:List (List UInt8)) (n:List UInt8) (hn:n ∈ rs):Ix.get (M.filter fun x=>decide (x.1 ∈ rs)) n=Ix.get M n:=by
 unfold Ix.get
 rw [List.find?_filter]
 congr 1
 congr 1
 funext x
 by_cases h:x.1=n
 ·
  rw [h];simp [hn]
 ·
  have:(x.1 == n)=false:=by simpa using h
  rw [this];simp
theorem st1_rs (M:Fls) (job:List UInt8):(st1 M job).rs.Nodup∧job++auxW ∈ (st1 M job).rs∧∀b ∈ (sideOf (text M job)).bibs,b++bibW ∈ (st1 M job).rs:=by
 obtain ⟨q1,q2,q3⟩:=bases_rs M (sideOf (text M job)).bibs (st0 M job) (by show [job++auxW].Nodup;simp)
 exact ⟨q1,q2 _ (by show job++auxW ∈ [job++auxW];simp),q3⟩
theorem run_cut (M:Fls) (job:List UInt8) (style:Int):run (cutTo M (st1 M job).rs) job style=run M job style:=by
 obtain ⟨q1,q2,q3⟩:=st1_rs M job
 rw [cutTo_filter _ q1]
 have hg:=fun n hn=>get_filter M (st1 M job).rs n hn
 generalize hK:M.filter (fun x=>decide (x.1 ∈ (st1 M job).rs))=K at hg
 have ht:text K job=text M job:=by unfold text;rw [hg _ q2]
 have hs:st1 K job=st1 M job:=by
  have h0:st0 K job=st0 M job:=by unfold st0;rw [ht]
  unfold st1
  rw [ht,h0]
  exact bases_congr K M _ _ (fun b hb=>hg _ (q3 b hb))
 have hc:cited K job style=cited M job style:=by unfold cited;rw [hs,ht]
 unfold run filesOf notesB notesA bblT
 rw [hs,hc]
theorem cut_sub (M:Fls) (job:List UInt8):(cutTo M (st1 M job).rs).Sublist M:=by
 rw [cutTo_filter _ (st1_rs M job).1]
 exact List.filter_sublist
def mainW:List UInt8:=[109,97,105,110]
theorem run_main (M:Fls) (style:Int):run M mainW style=some (filesOf M mainW style,(st1 M mainW).rs):=by
 unfold run
 rw [show Ix.jobOk mainW=true by decide +kernel]
 rfl
theorem main_right (M:Fls) (style:Int):Ix.RightOk (filesOf M mainW style):=by
 have h1:Ix.nameOk (mainW++bblW)=true:=by decide +kernel
 have h2:Ix.nameOk (mainW++blgW)=true:=by decide +kernel
 refine ⟨fun x hx=>?_,fun k x y hx hy=>?_,by unfold filesOf;simp⟩
 ·
  unfold filesOf at hx
  simp only [List.mem_cons,List.not_mem_nil,or_false] at hx
  rcases hx with rfl | rfl
  ·
   exact ⟨h1,by show (List.take 4000 _).length≤4000;rw [List.length_take];omega⟩
  ·
   exact ⟨h2,by show (List.take 4000 _).length≤4000;rw [List.length_take];omega⟩
 ·
  unfold filesOf at hx hy
  cases k with
  | zero =>
   simp at hx hy
   subst hx;subst hy
   show Op.bytesLess (mainW++bblW) (mainW++blgW)=true
   decide +kernel
  | succ k=>simp at hy
theorem cut_take (M:Fls) (rs:List (List UInt8)) (k:Nat) (x:List UInt8 × List UInt8) (h:M[k]? = some x):cutTo (M.take (k+1)) rs=cutTo (M.take k) rs++g1 rs x:=by
 unfold cutTo
 rw [Ix.take_snoc M k x h,List.flatMap_append];simp
theorem g1_take (rs:List (List UInt8)) (x:List UInt8 × List UInt8) (j:Nat) (r:List UInt8) (h:rs[j]? = some r):g1 (rs.take (j+1)) x=g1 (rs.take j) x++if r=x.1 then [x] else []:=by
 unfold g1
 rw [Ix.take_snoc rs j r h,List.filter_append,List.map_append]
 by_cases e:r=x.1
 ·
  rw [if_pos e,List.filter_cons_of_pos (by simpa using e)];rfl
 ·
  rw [if_neg e,List.filter_cons_of_neg (by simpa using e)];rfl
theorem cut_len (M:Fls) (rs:List (List UInt8)):(cutTo M rs).length≤M.length*rs.length:=by
 unfold cutTo
 induction M with
 | nil=>simp
 | cons x M ih =>
  rw [List.flatMap_cons,List.length_append,List.length_cons,Nat.succ_mul]
  have:(g1 rs x).length≤rs.length:=by unfold g1;rw [List.length_map];exact List.length_filter_le _ _
  omega
end Go.Proofs.YtgnfmopcialllaaGreatDoor.Bb
set_option linter.unusedSimpArgs false
set_option linter.unusedVariables false
namespace Go.Proofs.YtgnfmopcialllaaGreatDoor
open Go.RowKit
theorem Bb.st1_len (l:Bb.Fls) (hl:∀x ∈ l,x.2.length≤500) (job:List UInt8) (hj:job.length≤20):(Bb.st1 l job).rs.length≤9:=by
 have hs:=Bb.side_small (Bb.text l job) (Bb.text_le l hl _)
 have h:=Bb.bases_b l hl (Bb.sideOf (Bb.text l job)).bibs 0 (Bb.st0 l job) (Bb.st0_b l job hj) hs.bib
 have h1:=h.rs
 have h2:=hs.bibs
 unfold Bb.st1
 omega
set_option maxRecDepth 100000 in
set_option maxHeartbeats 6400000 in
theorem lawBbRd_walk (p:Option Addr) (cap:Nat) (l:List Ix.Fl) (style m:Int) (w:World) (hH:Laid10 w∧w.cell? ⟨2, 0,none⟩=some (.int .i64 m) ∧ 2 < w.heap.size∧l.length≤maxLen) (hE:OSl 2 IFl w p l) :
  Calls Tryz.prog 4 #[.slice p l.length cap,.int .i64 style] w fun e w'=>e = .returned (.bool true)∧Below w.heap.size w w':=by
 obtain ⟨iF,hiF,hF0,hF1,hF2⟩:=info_parts file_info
 have HiF:=η hiF;have HF0:=η hF0;have HF1:=η hF1;have HF2:=η hF2
 have HLb:=η (show ∀W,Below w.heap.size w W→Laid10 W∧W.cell? ⟨2, 0,none⟩=some (.int .i64 m) ∧ 2 < W.heap.size from fun W hW=>⟨hH.1.below hW,keptM hH.2.1 hH.2.2.1 hW⟩)
 have Hc:=η (ref02_map p cap l 8 500 w hE hH.2.2.2 (by omega) (by omega))
 clear hH hE hiF hF0 hF1 hF2
 go_enter Tryz.func4, Tryz.ntmps4
 go_wp2_with fail
 refine Hc.out.mono ?_
 rintro e w1 ⟨vm,rfl,hO,hb1⟩
 have hok:=Ix.mapF_ok l 8 500
 have hml:=Ix.mapF_len l 8 500
 obtain ⟨M,hM⟩:∃M,M=Ix.mapF l 8 500:=⟨_,rfl⟩
 rw [←hM] at hO hok hml
 obtain ⟨pm,cm,rfl⟩:=hO.form
 have S1:=η (hO.slice RFl.size (fun _=>True) (fun _ _=>trivial))
 have Hok:=η hok;have Hml:=η hml;have B1:=η hb1
 clear hok hml hb1 hO hM Hc
 go_wp2_with fail
 refine (bb_Run M Bb.mainW style m _ _ w1 S1.out Hok.out.up (by have:=Hml.out;omega) Hok.out.small (by decide) (HLb.out _ B1.out).1 (HLb.out _ B1.out).2.1 (HLb.out _ B1.out).2.2).mono ?_
 unfold BbPost
 rw [Bb.run_main]
 rintro e w2 ⟨hb2,va,vr,rfl,hF,hR⟩
 obtain ⟨fs,hfs⟩:∃fs,Bb.filesOf M Bb.mainW style=fs:=⟨_,rfl⟩
 obtain ⟨rs,hrs⟩:∃rs,(Bb.st1 M Bb.mainW).rs=rs:=⟨_,rfl⟩
 have hright:=Bb.main_right M style
 rw [hfs] at hright hF
 rw [hrs] at hR
 have hf2:fs.length=2:=by rw [←hfs];rfl
 have h0:∃t,fs[0]? = some (Bb.mainW++Bb.bblW,t):=by rw [←hfs];exact ⟨_,rfl⟩
 have h1:∃t,fs[1]? = some (Bb.mainW++Bb.blgW,t):=by rw [←hfs];exact ⟨_,rfl⟩
 obtain ⟨t0,h0⟩:=h0
 obtain ⟨t1,h1⟩:=h1
 have hFs:=hF.slice RFl.size (fun _=>True) (fun _ _=>trivial)
 have hRs:=hR.slice RStr.size (fun _=>True) (fun _ _=>trivial)
 obtain ⟨pf,cf,hva,_,_,hat⟩:=id hFs
 subst hva
 obtain ⟨b,off,vs,rfl,_,hbw,hv,hc⟩:=hat 0 _ h0
 have hv:vs=[.string ⟨(Bb.mainW++Bb.bblW).toArray⟩,.string ⟨t0.toArray⟩]:=hv
 subst hv
 have e0:=hc 0 _ rfl
 obtain ⟨b',off',vs',hp',_,_,hv',hc'⟩:=hat 1 _ h1
 have hv':vs'=[.string ⟨(Bb.mainW++Bb.blgW).toArray⟩,.string ⟨t1.toArray⟩]:=hv'
 subst hv'
 simp only [Option.some.injEq,Addr.mk.injEq,and_true] at hp'
 obtain ⟨rfl,rfl⟩:=hp'
 have e1:=hc' 0 _ rfl
 rw [show off+(0*2+0)=off by omega,show (Bb.mainW++Bb.bblW).toArray = #[109,97,105,110,46,98,98,108] from rfl] at e0
 rw [show off+(1*2+0)=off+2 by omega,show (Bb.mainW++Bb.blgW).toArray = #[109,97,105,110,46,98,108,103] from rfl] at e1
 obtain ⟨pr,cr,hvr⟩:=SliceIn.shape2 hRs
 subst hvr
 rw [hf2]
 have F1:=η hFs;have R1:=η hRs;have B2:=η (bseq B1.out hb2);have S2:=η (SliceIn.below2 S1.out hb2)
 have Hfs:=η hfs;have Hrs:=η hrs;have Hright:=η hright;have Hf2:=η hf2
 clear hF hR hb2 hfs hrs hright hFs hRs hat hc hc' h0 h1 hf2 S1 B1
 go_wp2_with fail
 have hR9:=files_right fs _ _ w2 F1.out Hright.out
 rw [Hf2.out] at hR9
 refine hR9.mono ?_
 rintro e w3 ⟨rfl,hb3⟩
 have F1':=η (SliceIn.below2 F1.out hb3);clear F1;have F1:=F1';clear F1'
 have R1':=η (SliceIn.below2 R1.out hb3);clear R1;have R1:=R1';clear R1'
 have S2':=η (SliceIn.below2 S2.out hb3);clear S2;have S2:=S2';clear S2'
 have B3:=η (bseq B2.out hb3)
 have hrl:rs.length≤9:=by rw [←Hrs.out];exact Bb.st1_len M Hok.out.small Bb.mainW (by decide)
 have Hrl:=η hrl
 clear hb3 hR9 B2 e0 e1 hrl
 have hown0:=own_built w3 w3.heap.size 33 2 0 [] (Nat.le_refl _) rfl (by unfold maxLen;omega)
 have Hown0:=η (show OwnL w3.heap.size 33 2 RFl (w3.alloc (.cells #[] 33)) (.slice (some ⟨w3.heap.size,0,none⟩) 0 0) ([]:List Ix.Fl) from ⟨[],hown0,rfl⟩)
 have Hb0:=η (below_new w3 (.cells #[] 33))
 clear hown0
 go_wp2_with fail
 go_loopw [9,10,11] (fun kv iv _ wr=>∃i:Nat,i≤M.length∧iv = .int .i64 (i:Int)∧(∃p n c,kv = .slice p n c)∧OwnL w3.heap.size 33 2 RFl wr kv (Bb.cutTo (M.take i) rs)∧Below w3.heap.size w3 wr) (fun _ iv _ _=>M.length - (intOf iv).toNat)
 case atStart=>exact ⟨0,Nat.zero_le _,rfl,⟨_,_,_,rfl⟩,Hown0.out,Hb0.out⟩
 case round =>
  clear Hown0 Hb0
  obtain ⟨i,hi,rfl,⟨pk,nk,ck,rfl⟩,hO,hbr⟩:=hrel
  have HO:=η hO;have Hbr:=η hbr;have Hi:=η hi
  clear hO hbr hi
  by_cases hlt:i<M.length
  ·
   obtain ⟨⟨xn,xt⟩,hx⟩:∃x,M[i]? = some x:=⟨_,List.getElem?_eq_getElem hlt⟩
   have hlt':(i:Int)<(M.length:Int):=by omega
   obtain ⟨i1,hi1⟩:∃i1,i1=i+1:=⟨_,rfl⟩
   have hil:i≤39:=by have:=Hml.out;omega
   have hnext:=Bb.cut_take M rs i _ hx
   have Hx:=η hx;have Hi1:=η hi1;have Hlt:=η hlt;have Hnext:=η hnext
   have hwi:=wrap_succ i i1 hi1 hil
   clear hx hi1 hlt hil hnext
   go_wp2_with fail
   go_loopw [9,11] (fun kv jv wq=>∃j:Nat,j≤rs.length∧jv = .int .i64 (j:Int)∧(∃p n c,kv = .slice p n c)∧OwnL w3.heap.size 33 2 RFl wq kv (Bb.cutTo (M.take i) rs++Bb.g1 (rs.take j) (xn,xt))∧Below w3.heap.size w3 wq) (fun _ jv _=>rs.length - (intOf jv).toNat)
   case atStart=>exact ⟨0,Nat.zero_le _,rfl,⟨_,_,_,rfl⟩,by rw [List.take_zero,show Bb.g1 [] (xn,xt)=[] from rfl,List.append_nil];exact HO.out,Hbr.out⟩
   case round =>
    clear HO Hbr
    obtain ⟨j,hj,rfl,⟨pk2,nk2,ck2,rfl⟩,hO,hbr⟩:=hrel
    have HO:=η hO;have Hbr:=η hbr;have Hj:=η hj
    clear hO hbr hj
    by_cases hlt2:j<rs.length
    ·
     obtain ⟨r,hr⟩:∃r,rs[j]? = some r:=⟨_,List.getElem?_eq_getElem hlt2⟩
     have hlt2':(j:Int)<(rs.length:Int):=by omega
     obtain ⟨j1,hj1⟩:∃j1,j1=j+1:=⟨_,rfl⟩
     have hjl:j≤39:=by have:=Hrl.out;omega
     have hnext2:=Bb.g1_take rs (xn,xt) j r hr
     obtain ⟨p',c',hp',_,_,hatR⟩:=R1.out
     simp only [Value.slice.injEq] at hp'
     obtain ⟨rfl,_,rfl⟩:=hp'
     obtain ⟨br,offr,vs,rfl,_,hbwr,hv,hcr⟩:=hatR j r hr
     have hv:vs=[.string ⟨r.toArray⟩]:=hv
     subst hv
     obtain ⟨p',c',hp',_,_,hatM⟩:=S2.out
     simp only [Value.slice.injEq] at hp'
     obtain ⟨rfl,_,rfl⟩:=hp'
     obtain ⟨bm,offm,vs,rfl,_,hbwm,hv,hcm⟩:=hatM i (xn,xt) Hx.out
     have hv:vs=[.string ⟨xn.toArray⟩,.string ⟨xt.toArray⟩]:=hv
     subst hv
     have q0:=(Hbr.out.cell (p:=⟨br,offr+(j*1+0),none⟩) hbwr).trans (hcr 0 _ rfl)
     have m0:=(Hbr.out.cell (p:=⟨bm,offm+(i*2+0),none⟩) hbwm).trans (hcm 0 _ rfl)
     have m1:=(Hbr.out.cell (p:=⟨bm,offm+(i*2+1),none⟩) hbwm).trans (hcm 1 _ rfl)
     rw [Nat.mul_one,Nat.add_zero] at q0
     rw [Nat.add_zero] at m0
     rw [←Nat.add_assoc] at m1
     have Hj1:=η hj1;have Hlt2:=η hlt2;have Hnext2:=η hnext2
     have hwj:=wrap_succ j j1 hj1 hjl
     clear hr hj1 hlt2 hjl hnext2 hatR hcr hatM hcm
     by_cases e:r=xn
     ·
      subst e
      go_upto_region 12 with fail
      go_quiet (fail)
      obtain ⟨Wd,hWd⟩:∃Wd,Wd=wr.drewN nq:=⟨_,rfl⟩
      have hbd:Below wr.heap.size wr Wd:=by rw [hWd];exact below_drewN (Below.refl _ _) nq
      have z0:=(hbd.cell (p:=⟨bm,offm+i*2,none⟩) (Nat.lt_of_lt_of_le hbwm Hbr.out.size)).trans m0
      have z1:=(hbd.cell (p:=⟨bm,offm+i*2+1,none⟩) (Nat.lt_of_lt_of_le hbwm Hbr.out.size)).trans m1
      have hOd:=HO.out.below hbd
      have HOd:=η hOd;have Hbd:=η (Hbr.out.trans (hbd.mono Hbr.out.size))
      obtain ⟨fl,hown,hrep⟩:=hOd
      have Hown:=η hown;have Hrep:=η hrep
      have hkl:(Bb.cutTo (M.take i) rs++Bb.g1 (rs.take j) (r,xt)).length≤1000:=by
       rw [List.length_append]
       have h1:=Bb.cut_len (M.take i) rs
       have h2:(Bb.g1 (rs.take j) (r,xt)).length≤rs.length:=by
        unfold Bb.g1
        rw [List.length_map]
        exact Nat.le_trans (List.length_filter_le _ _) (by rw [List.length_take];exact Nat.min_le_right _ _)
       have h3:(M.take i).length≤8:=by rw [List.length_take];exact Nat.le_trans (Nat.min_le_right _ _) Hml.out
       have h4:=Hrl.out
       have h5:(M.take i).length*rs.length≤8*9:=Nat.mul_le_mul h3 h4
       omega
      have Hom:=η (show (Bb.cutTo (M.take i) rs++Bb.g1 (rs.take j) (r,xt)).length+1≤maxLen by unfold maxLen;omega)
      have Ho32:=η (show ((Bb.cutTo (M.take i) rs++Bb.g1 (rs.take j) (r,xt)).length+1)*32≤140737488355328 by omega)
      have H0W:=η (show w3.heap.size≤Wd.heap.size from Hbd.out.size)
      rw [←hWd]
      clear q0 m0 m1 hWd hbd hown hrep hkl HO Hbr
      go_wp2_with (at_builtin;go_loud (refine wpList_append1 rfl (.tmp 73) (.tmp 78) 22 rfl w3.heap.size 33 iF (.agg #[.string ⟨#[]⟩,.string ⟨#[]⟩]) 2 32 Tryz.underlying22 HiF.out HF0.out HF1.out HF2.out rfl (by decide) _ _ _ Hown.out rfl [.string ⟨r.toArray⟩,.string ⟨xt.toArray⟩] rfl (by simp) rfl (by simp [Value.oneCell']) Hom.out Ho32.out H0W.out ?_);intro v2 w9 own2 g2 at2;obtain ⟨p2,cap2,hv2,_⟩:=own2.form (Nat.succ_pos _);subst hv2)
      go_roundw
      case rel =>
       refine ⟨j1,by have:=Hlt2.out;have:=Hj1.out;omega,by rw [hwj],⟨_,_,_,rfl⟩,?_,Hbd.out.grown g2 H0W.out (fun q e=>(World.ownsRow.lt Hown.out q e).1)⟩
       have h:=OwnL.more Hrep.out (x:=(r,xt)) rfl own2
       rw [List.length_append] at h
       rw [Hj1.out,Hnext2.out,if_pos rfl,←List.append_assoc]
       exact h
      case measure=>have:=Hlt2.out;have:=Hj1.out;rw [hwj];simp [intOf];omega
     ·
      have e1:(r == xn)=false:=by simpa using e
      have He:=η e
      clear e
      go_upto_region 12 with fail
      go_quiet (fail)
      have HOd:=η (HO.out.below (below_drewN (Below.refl _ _) nq));have Hbd:=η (below_drewN Hbr.out nq)
      clear q0 m0 m1 HO Hbr
      go_wp2_with fail
      go_roundw
      case rel =>
       refine ⟨j1,by have:=Hlt2.out;have:=Hj1.out;omega,by rw [hwj],⟨_,_,_,rfl⟩,?_,Hbd.out⟩
       rw [Hj1.out,Hnext2.out,if_neg He.out,List.append_nil]
       exact HOd.out
      case measure=>have:=Hlt2.out;have:=Hj1.out;rw [hwj];simp [intOf];omega
    ·
     have he:j=rs.length:=by have:=Hj.out;omega
     subst he
     have hlt2':¬(rs.length:Int)<(rs.length:Int):=Int.lt_irrefl _
     clear hlt2
     go_wp2_with fail
     go_roundw
     case rel =>
      refine ⟨i1,by have:=Hlt.out;have:=Hi1.out;omega,by rw [hwi],⟨_,_,_,rfl⟩,?_,Hbr.out⟩
      rw [Hi1.out,Hnext.out]
      have h:=HO.out
      rw [List.take_length] at h
      exact h
     case measure=>have:=Hlt.out;have:=Hi1.out;rw [hwi];simp [intOf];omega
  ·
   have he:i=M.length:=by have:=Hi.out;omega
   subst he
   have hlt':¬(M.length:Int)<(M.length:Int):=Int.lt_irrefl _
   have hO:=HO.out
   rw [List.take_length] at hO
   have hsub:=Bb.cut_sub M Bb.mainW
   have hrun:=Bb.run_cut M Bb.mainW style
   rw [Hrs.out] at hsub hrun
   rw [Bb.run_main M,Hfs.out,Hrs.out] at hrun
   obtain ⟨K,hK⟩:∃K,Bb.cutTo M rs=K:=⟨_,rfl⟩
   rw [hK] at hO hsub hrun
   have hKl:=hsub.length_le
   have hKs:Ix.Sorted K:=List.Pairwise.sublist hsub Hok.out.up
   have hKt:∀x ∈ K,x.2.length≤500:=fun x hx=>Hok.out.small x (hsub.subset hx)
   have K1:=η (hO.slice RFl.size (fun _=>True) (fun _ _=>trivial))
   obtain ⟨pk9,ck9,hv9⟩:=hO.form
   have B4:=η (bseq B3.out Hbr.out)
   have Hrun:=η hrun;have HKl:=η hKl;have HKs:=η hKs;have HKt:=η hKt
   have F4:=η (SliceIn.below2 F1.out Hbr.out);have R4:=η (SliceIn.below2 R1.out Hbr.out)
   rw [hv9] at K1 ⊢
   clear hlt hO hsub hrun hK hKl hKs hKt hv9 F1 R1 S2 B3 HO Hbr Hi
   go_wp2_with fail
   refine (bb_Run K Bb.mainW style m _ _ wr K1.out HKs.out (by have:=Hml.out;have:=HKl.out;omega) HKt.out (by decide) (HLb.out _ B4.out).1 (HLb.out _ B4.out).2.1 (HLb.out _ B4.out).2.2).mono ?_
   unfold BbPost
   rw [Hrun.out]
   rintro e w5 ⟨hb5,vb5,vs5,rfl,hF5,hR5⟩
   have F5:=η (hF5.slice RFl.size (fun _=>True) (fun _ _=>trivial));have R5:=η (hR5.slice RStr.size (fun _=>True) (fun _ _=>trivial))
   have F4':=η (SliceIn.below2 F4.out hb5);clear F4;have F4:=F4';clear F4'
   have R4':=η (SliceIn.below2 R4.out hb5);clear R4;have R4:=R4';clear R4'
   have B5:=η (bseq B4.out hb5)
   clear hF5 hR5 hb5 B4 K1 Hrun
   go_wp2_with fail
   have hq:=law14_equal fs fs _ vb5 _ _ w5 F4.out F5.out
   rw [Hf2.out] at hq
   refine hq.mono ?_
   rw [decide_eq_true (Eq.refl fs)]
   rintro e w6 ⟨rfl,hb6⟩
   have R4':=η (SliceIn.below2 R4.out hb6);clear R4;have R4:=R4';clear R4'
   have R5':=η (SliceIn.below2 R5.out hb6);clear R5;have R5:=R5';clear R5'
   have B6:=η (bseq B5.out hb6)
   clear hb6 hq F4 F5 B5
   go_wp2_with fail
   refine (ref02_words rs rs _ _ _ _ w6 R4.out R5.out).mono ?_
   rw [decide_eq_true (Eq.refl rs)]
   rintro e w7 ⟨rfl,hb7⟩
   have B7:=η (bseq B6.out hb7)
   clear hb7 R4 R5 B6
   go_wp2_with fail
   refine (law18_fixed m w7 (HLb.out _ B7.out).1 (HLb.out _ B7.out).2.1 (HLb.out _ B7.out).2.2).mono ?_
   rintro e w8 ⟨rfl,hb8⟩
   have B8:=η (bseq B7.out hb8)
   clear hb8
   go_wp2_with fail
   go_ret
   exact ⟨rfl,B8.out⟩
theorem lawBbRd_walk2 (p:Option Addr) (cap:Nat) (l:List Ix.Fl) (style:Int) (w:World) (hH:Laid10 w∧(∃m,w.cell? ⟨2, 0,none⟩=some (.int .i64 m))∧l.length≤maxLen) (hE:OSl 2 IFl w p l) :
  Calls Tryz.prog 4 #[.slice p l.length cap,.int .i64 style] w fun e w'=>e = .returned (.bool true)∧Below w.heap.size w w':=by
 obtain ⟨h1,⟨m,hm⟩,h2⟩:=hH
 exact lawBbRd_walk p cap l style m w ⟨h1,hm,World.block_lt_of_cell? w _ hm,h2⟩ hE
end Go.Proofs.YtgnfmopcialllaaGreatDoor
