/- The walk of label.letters. The walks of label.order, cmp.Or and the comparison of two entries. -/
import Derived.Test.YtgnfmopcialllaaGreatDoorTk
import Derived.Test.YtgnfmopcialllaaGreatDoorG13
set_option linter.unusedSimpArgs false
set_option linter.unusedVariables false
namespace Go.Proofs.YtgnfmopcialllaaGreatDoor
open Go.RowKit
theorem keptM {m:Int} {w W:World} (hm:w.cell? ⟨2, 0,none⟩=some (.int .i64 m)) (h0 : 2 < w.heap.size) (hb:Below w.heap.size w W):W.cell? ⟨2, 0,none⟩=some (.int .i64 m) ∧ 2 < W.heap.size :=
 ⟨(hb.cell (p:=⟨2, 0,none⟩) h0).trans hm,Nat.lt_of_lt_of_le h0 hb.size⟩
set_option maxRecDepth 100000 in
set_option maxHeartbeats 1600000 in
theorem lb_letters (x:Ent.Ent) (vf:Value) (m:Int) (S:Nat→Prop) (w:World) (hF:SliceIn S 2 RFld w vf x.fields) (hB:Lb.EntB x) (hm:w.cell? ⟨2, 0,none⟩=some (.int .i64 m)) (h0 : 2 < w.heap.size) :
  Calls Tryz.prog 38 #[.agg #[.string ⟨x.kind.toArray⟩,.string ⟨x.key.toArray⟩,vf]] w fun e w'=>e = .returned (.string ⟨(Lb.letters x).toArray⟩)∧Below w.heap.size w w':=by
 have hb0:=below_new w (.cells #[.string ⟨x.kind.toArray⟩,.string ⟨x.key.toArray⟩,vf] 60)
 have hE:=E3.new w 60 (.string ⟨x.kind.toArray⟩) (.string ⟨x.key.toArray⟩) vf
 have c0:=hE.c0;have c1:=hE.c1;have c2:=hE.c2
 obtain ⟨g0,hg0⟩:∃g0,w.heap.size=g0:=⟨_,rfl⟩
 rw [hg0] at hE
 have HE:=η hE;have HF:=η (SliceIn.below' hF hb0);have Hb0:=η hb0;have Hm:=η hm;have H0:=η h0;have HB:=η hB
 have hyl:=hB.field Lb.yearW
 have hal:=hB.authors.1
 have hlt:Lb.letters x=Lb.plabel (Lb.authors x)++(Lb.field x Lb.yearW).drop ((Lb.field x Lb.yearW).length - 2):=rfl
 obtain ⟨Y,hY⟩:∃Y,Lb.field x Lb.yearW=Y:=⟨_,rfl⟩
 rw [hY] at hyl hlt
 obtain ⟨q,hq⟩:∃q,Y.length - 2=q:=⟨_,rfl⟩
 rw [hq] at hlt
 have hpl:=Lb.plabel_len (Lb.authors x)
 obtain ⟨P,hP⟩:∃P,Lb.plabel (Lb.authors x)=P:=⟨_,rfl⟩
 rw [hP] at hlt hpl
 have hmax:max (0:Int) ((Y.length:Int) - 2)=(q:Int):=by omega
 have hq1:(q:Int)≤(Y.length:Int):=by omega
 have hws:IntKind.i64.wrap ((Y.length:Int) - 2)=(Y.length:Int) - 2:=IntWalk.i64_in _ (by omega)
 have hex:(⟨Y.toArray⟩:ByteArray).extract q Y.length=⟨(Y.drop q).toArray⟩:=extract_end Y q
 have hap:(⟨P.toArray⟩:ByteArray)++⟨(Y.drop q).toArray⟩=⟨(Lb.letters x).toArray⟩:=by rw [hlt];exact append_data P (Y.drop q)
 have hdl:(Y.drop q).length≤1000:=by rw [List.length_drop];omega
 have HY:=η hY;have HP:=η hP;have HAl:=η (show (Lb.authors x).length≤2000 by omega)
 clear hE hb0 hF hm h0 hB hY hP hlt hq hal
 go_enter Tryz.func38, Tryz.ntmps38
 go_upto_region 2 with (go_at_call 76; refine (lb_field x vf Lb.yearW S _ HF.out).mono ?_;rw [HY.out];rintro e w1 ⟨rfl,hb1⟩;have HE1:=η (HE.out.below' hb1);have HF1:=η (SliceIn.below' HF.out hb1);have Hb1:=η (bseq Hb0.out hb1);clear hb1)
 clear c0 c1 c2
 refine wp_region_any (by kernel_rfl) ?_
 change wpAny _ _ _ _ _ _ _ (World.drew _)
 have HEd:=η HE1.out.drew;have HFd:=η (SliceIn.below' HF1.out (Below.refl _ _).drew);have HBd:=η Hb1.out.drew
 have hMd:=keptM Hm.out H0.out HBd.out
 have HMd:=η hMd.1;have H0d:=η hMd.2
 clear HE1 HF1 Hb1 hMd
 generalize w1.drew=wd at *
 have hS0:=Below.refl wd.heap.size wd
 refine wpAny_of_held (S:=fun W=>Below wd.heap.size wd W) _ _ _ _ ?_
 refine tk 0 (.agg #[.string ⟨x.kind.toArray⟩,.string ⟨x.key.toArray⟩,vf]) rfl (hy:=fun W hW=>by (obtain ⟨c0,c1,c2,_,_⟩:=HEd.out.below' hW;go_simp)) (h:=?_)
 refine tk 3 (.string ⟨Y.toArray⟩) rfl (h:=?_)
 refine tk 4 (.string ⟨Y.toArray⟩) rfl (h:=?_)
 refine tk 5 (.int .i64 (Y.length:Int)) rfl (hy:=fun W hW=>by go_simp) (h:=?_)
 refine tk 6 (.int .i64 ((Y.length:Int) - 2)) rfl (hy:=fun W hW=>by go_simp) (h:=?_)
 refine tk 7 (.int .i64 (q:Int)) rfl (hy:=fun W hW=>by go_simp) (h:=?_)
 refine tk 8 (.string ⟨(Y.drop q).toArray⟩) rfl (hy:=fun W hW=>by go_simp) (h:=?_)
 try simp only [Act.put,π1,π2,π3,π4,π5,π6]
 refine tr 1 rfl (h:=fun K hK=>?_)
 go_simp
 go_wp2_with (go_at_call 78; refine (lb_authors x vf m S _ HFd.out HB.out HMd.out H0d.out).mono ?_;rintro e w5 ⟨⟨va,rfl,hSa⟩,hb5⟩;have HSa:=η hSa;have Hb5:=η hb5;clear hb5 hSa)
 refine hK.out _ _ (Hb5.out) (fun _=>?_)
 clear K hK
 try simp only [Act.put,π1,π2,π3,π4,π5,π6]
 refine tr 2 rfl (h:=fun K hK=>?_)
 go_simp
 go_wp2_with (go_at_call 77; refine (nm_PLabel _ _ _ _ HSa.out HAl.out).mono ?_;rw [HP.out];rintro e w6 ⟨rfl,hb6⟩;have Hb6:=η hb6;clear hb6)
 refine hK.out _ _ (bseq Hb5.out Hb6.out) (fun _=>?_)
 clear K hK
 refine tk 9 (.string ⟨(Lb.letters x).toArray⟩) rfl (hy:=fun W hW=>by (go_simp;omega)) (h:=?_)
 refine tk 10 (.string ⟨(Lb.letters x).toArray⟩) rfl (hy:=fun W hW=>by go_simp) (h:=?_)
 try simp only [Act.put,π1,π2,π3,π4,π5,π6]
 refine wpAnyH_done (by kernel_rfl) ?_ _
 go_wp2_with fail
 go_ret
 exact ⟨rfl,HBd.out.trans ((bseq Hb5.out Hb6.out).mono HBd.out.size)⟩
end Go.Proofs.YtgnfmopcialllaaGreatDoor
set_option linter.unusedSimpArgs false
set_option linter.unusedVariables false
namespace Go.Proofs.YtgnfmopcialllaaGreatDoor
open Go.RowKit
def key1 (x:Ent.Ent):List UInt8:=((Lb.authors x).map Lb.pkey).headD []
def ordV (x:Ent.Ent):Value:=.agg #[.string ⟨(key1 x).toArray⟩,.string ⟨(Lb.field x Lb.yearW).toArray⟩,.string ⟨(Ent.small (Lb.field x Lb.titleW)).toArray⟩,.string ⟨x.key.toArray⟩]
theorem load_four (g:Nat) (a b c d:Value) (w:World) (h0:w.cell? ⟨g,0,none⟩=some a) (h1:w.cell? ⟨g,1,none⟩=some b) (h2:w.cell? ⟨g,2,none⟩=some c) (h3:w.cell? ⟨g,3,none⟩=some d) :
  (loadVar 159 ⟨g,0,none⟩).run Tryz.prog w = .ok (.agg #[a,b,c,d]) w:=by
 go_simp
set_option maxRecDepth 100000 in
set_option maxHeartbeats 3200000 in
theorem lb_order (x:Ent.Ent) (vf:Value) (m:Int) (S:Nat→Prop) (w:World) (hF:SliceIn S 2 RFld w vf x.fields) (hB:Lb.EntB x) (hm:w.cell? ⟨2, 0,none⟩=some (.int .i64 m)) (h0 : 2 < w.heap.size) :
  Calls Tryz.prog 73 #[.agg #[.string ⟨x.kind.toArray⟩,.string ⟨x.key.toArray⟩,vf]] w fun e w'=>e = .returned (ordV x)∧Below w.heap.size w w':=by
 have hb0:=below_new w (.cells #[.string ⟨x.kind.toArray⟩,.string ⟨x.key.toArray⟩,vf] 60)
 have hE:=E3.new w 60 (.string ⟨x.kind.toArray⟩) (.string ⟨x.key.toArray⟩) vf
 have hb1:=below_new (w.alloc (.cells #[.string ⟨x.kind.toArray⟩,.string ⟨x.key.toArray⟩,vf] 60)) (.cells #[.string ⟨#[]⟩,.string ⟨#[]⟩,.string ⟨#[]⟩,.string ⟨#[]⟩] 159)
 have hR:=P4.new (w.alloc (.cells #[.string ⟨x.kind.toArray⟩,.string ⟨x.key.toArray⟩,vf] 60)) 159 (.string ⟨#[]⟩) (.string ⟨#[]⟩) (.string ⟨#[]⟩) (.string ⟨#[]⟩)
 have hz:(w.alloc (.cells #[.string ⟨x.kind.toArray⟩,.string ⟨x.key.toArray⟩,vf] 60)).heap.size=w.heap.size+1:=by simp
 have hE2:=hE.below' hb1
 have c0:=hE2.c0;have c1:=hE2.c1;have c2:=hE2.c2
 rw [hz] at hR
 obtain ⟨g0,hg0⟩:∃g0,w.heap.size=g0:=⟨_,rfl⟩
 have hbb:=bseq hb0 hb1
 have hM:=keptM hm h0 hbb
 have HF:=η (SliceIn.below' hF hbb)
 have Hgr:=η (show w.heap.size≤g0+1 by omega)
 have Hgg:=η (show g0+1≠g0 by omega)
 rw [hg0] at hE2 hR
 have HE:=η hE2;have Hb0:=η hbb;have HM:=η hM;have HB:=η hB;have HR:=η hR
 have htl:=hB.field Lb.titleW
 have hap:=hB.authors.2
 have hov:ordV x = .agg #[.string ⟨(((Lb.authors x).map Lb.pkey).headD []).toArray⟩,.string ⟨(Lb.field x Lb.yearW).toArray⟩,.string ⟨(Ent.small (Lb.field x Lb.titleW)).toArray⟩,.string ⟨x.key.toArray⟩]:=rfl
 obtain ⟨A,hA⟩:∃A,Lb.authors x=A:=⟨_,rfl⟩
 obtain ⟨T,hT⟩:∃T,Lb.field x Lb.titleW=T:=⟨_,rfl⟩
 obtain ⟨Y,hY⟩:∃Y,Lb.field x Lb.yearW=Y:=⟨_,rfl⟩
 rw [hA] at hap;rw [hT] at htl;rw [hA,hT,hY] at hov
 have HA:=η hA;have HT:=η hT;have HY:=η hY;have Hov:=η hov;have Hap:=η hap;have HTl:=η (show T.length≤1000000 by omega)
 clear hE hE2 hR hb0 hb1 hbb hF hm h0 hB hA hT hY hov hap hM htl hz
 cases A with
 | nil =>
  go_enter Tryz.func73, Tryz.ntmps73
  go_upto_region 5 with (go_at_call 78; refine (lb_authors x vf m S _ HF.out HB.out HM.out.1 HM.out.2).mono ?_;rw [HA.out];rintro e w1 ⟨⟨va,rfl,hSa⟩,hb1⟩;have HE1:=η (HE.out.below' hb1);have HF1:=η (SliceIn.below' HF.out hb1);have HR1:=η (HR.out.below' hb1);have Hb1:=η (bseq Hb0.out hb1);obtain ⟨pv,cv,hv,_⟩:=hSa;subst hv;clear hb1)
  clear c0 c1 c2
  refine wp_region_any (by kernel_rfl) ?_
  change wpAny _ _ _ _ _ _ _ (World.drew _)
  have HEd:=η HE1.out.drew;have HFd:=η (SliceIn.below' HF1.out (Below.refl _ _).drew);have HBd:=η Hb1.out.drew;have HRd:=η HR1.out.drew
  clear HE1 HF1 Hb1 HR1
  generalize w1.drew=wd at *
  have hS0:=HEd.out
  refine wpAny_of_held (S:=fun W=>E3 W g0 (.string ⟨x.kind.toArray⟩) (.string ⟨x.key.toArray⟩) vf) _ _ _ _ ?_
  refine tk 0 (.string ⟨([]:List UInt8).toArray⟩) rfl (h:=?_)
  refine tk 1 (.agg #[.string ⟨x.kind.toArray⟩,.string ⟨x.key.toArray⟩,vf]) rfl (hy:=fun W hW=>by (obtain ⟨c0,c1,c2,_,_⟩:=hW;go_simp)) (h:=?_)
  refine tk 3 (.agg #[.string ⟨x.kind.toArray⟩,.string ⟨x.key.toArray⟩,vf]) rfl (hy:=fun W hW=>by (obtain ⟨c0,c1,c2,_,_⟩:=hW;go_simp)) (h:=?_)
  refine tk 6 (.pointer (some ⟨g0,1,none⟩)) rfl (hy:=fun W hW=>by go_simp) (h:=?_)
  refine tk 7 (.string ⟨x.key.toArray⟩) rfl (hy:=fun W hW=>by (obtain ⟨c0,c1,c2,_,_⟩:=hW;go_simp)) (h:=?_)
  try simp only [Act.put,π1,π2,π3,π4,π5,π6]
  refine tr 2 rfl (h:=fun K hK=>?_)
  go_simp
  go_wp2_with (go_at_call 76; refine (lb_field x vf Lb.yearW S _ HFd.out).mono ?_;rw [HY.out];rintro e w5 ⟨rfl,hb5⟩;have Hb5:=η hb5;clear hb5)
  refine hK.out _ _ (HEd.out.below' Hb5.out) (fun _=>?_)
  clear K hK
  try simp only [Act.put,π1,π2,π3,π4,π5,π6]
  refine tr 4 rfl (h:=fun K hK=>?_)
  go_simp
  go_wp2_with (go_at_call 76; refine (lb_field x vf Lb.titleW S _ (SliceIn.below' HFd.out Hb5.out)).mono ?_;rw [HT.out];rintro e w6 ⟨rfl,hb6⟩;have Hb6:=η (bseq Hb5.out hb6);clear hb6)
  refine hK.out _ _ (HEd.out.below' Hb6.out) (fun _=>?_)
  clear K hK
  try simp only [Act.put,π1,π2,π3,π4,π5,π6]
  refine tr 5 rfl (h:=fun K hK=>?_)
  go_simp
  go_wp2_with (go_at_call 133; refine (lb_small T _ HTl.out).mono ?_;rintro e w7 ⟨rfl,hb7⟩;have Hb7:=η (bseq Hb6.out hb7);clear hb7)
  refine hK.out _ _ (HEd.out.below' Hb7.out) (fun _=>?_)
  clear K hK
  refine tk 8 (.agg #[.string ⟨([]:List UInt8).toArray⟩,.string ⟨Y.toArray⟩,.string ⟨(Ent.small T).toArray⟩,.string ⟨x.key.toArray⟩]) rfl (h:=?_)
  try simp only [Act.put,π1,π2,π3,π4,π5,π6]
  refine tr 9 rfl (h:=fun K hK=>?_)
  have HR:=η (HRd.out.below' Hb7.out)
  have r0:=HR.out.f 0;have r1:=HR.out.f 1;have r2:=HR.out.f 2;have r3:=HR.out.f 3;have q0:=HR.out.c0;have q1:=HR.out.c1;have q2:=HR.out.c2;have q3:=HR.out.c3
  go_simp
  have hb8':=((((HEd.out.below' Hb7.out).other Hgg.out 0 (.string ⟨([]:List UInt8).toArray⟩)).other Hgg.out 1 (.string ⟨Y.toArray⟩)).other Hgg.out 2 (.string ⟨(Ent.small T).toArray⟩)).other Hgg.out 3 (.string ⟨x.key.toArray⟩)
  have hb8:=below4 (HBd.out.trans (Hb7.out.mono HBd.out.size)) Hgr.out (.string ⟨([]:List UInt8).toArray⟩) (.string ⟨Y.toArray⟩) (.string ⟨(Ent.small T).toArray⟩) (.string ⟨x.key.toArray⟩)
  refine hK.out _ _ hb8' (fun _=>?_)
  clear K hK r0 r1 r2 r3 q0 q1 q2 q3
  try simp only [Act.put,π1,π2,π3,π4,π5,π6]
  refine wpAnyH_done (by kernel_rfl) ?_ _
  go_wp2_with fail
  have hF:=HR.out.all (.string ⟨([]:List UInt8).toArray⟩) (.string ⟨Y.toArray⟩) (.string ⟨(Ent.small T).toArray⟩) (.string ⟨x.key.toArray⟩)
  refine ret_one rfl rfl (load_four _ _ _ _ _ _ hF.c0 hF.c1 hF.c2 hF.c3) rfl ⟨?_,hb8⟩
  rw [Hov.out];rfl
 | cons p r =>
  have hp:=Hap.out p (by simp)
  have Hp:=η hp
  have hpos:(0:Int)<((p::r).length:Int):=by simp
  go_enter Tryz.func73, Tryz.ntmps73
  go_upto_region 5 with (first
   | (go_at_call 78; refine (lb_authors x vf m S _ HF.out HB.out HM.out.1 HM.out.2).mono ?_;rw [HA.out];rintro e w2 ⟨⟨va,rfl,hSa⟩,hb2⟩;have HE2:=η (HE.out.below' hb2);have HF2:=η (SliceIn.below' HF.out hb2);have HR2:=η (HR.out.below' hb2);have Hb2:=η (bseq Hb0.out hb2);obtain ⟨pv,cv,hv,_,_,hat⟩:=hSa;subst hv;obtain ⟨b,off,vs,hpv,_,_,hRR,hc⟩:=hat 0 p rfl;have hRR:vs=_:=hRR;subst hRR;subst hpv;(have e0:w2.cell? ⟨b,off,none⟩=some (.string ⟨p.first.toArray⟩):=hc 0 _ rfl);(have e1:w2.cell? ⟨b,off+1,none⟩=some (.string ⟨p.von.toArray⟩):=hc 1 _ rfl);(have e2:w2.cell? ⟨b,off+2,none⟩=some (.string ⟨p.last.toArray⟩):=hc 2 _ rfl);(have e3:w2.cell? ⟨b,off+3,none⟩=some (.string ⟨p.jr.toArray⟩):=hc 3 _ rfl);clear hb2 hat hc)
   | (go_at_call 132; refine (nm_Key p _ (Nat.le_trans Hp.out.first (by decide)) (Nat.le_trans Hp.out.von (by decide)) (Nat.le_trans Hp.out.last (by decide)) (Nat.le_trans Hp.out.jr (by decide))).mono ?_;rintro e w1 ⟨rfl,hb1⟩;have HE1:=η (HE2.out.below' hb1);have HF1:=η (SliceIn.below' HF2.out hb1);have HR1:=η (HR2.out.below' hb1);have Hb1:=η (bseq Hb2.out hb1);clear hb1))
  clear c0 c1 c2 e0 e1 e2 e3
  clear HE2 HF2 HR2 Hb2
  refine wp_region_any (by kernel_rfl) ?_
  change wpAny _ _ _ _ _ _ _ (World.drew _)
  have HEd:=η HE1.out.drew;have HFd:=η (SliceIn.below' HF1.out (Below.refl _ _).drew);have HBd:=η Hb1.out.drew;have HRd:=η HR1.out.drew
  clear HE1 HF1 Hb1 HR1
  generalize w1.drew=wd at *
  have hS0:=HEd.out
  refine wpAny_of_held (S:=fun W=>E3 W g0 (.string ⟨x.kind.toArray⟩) (.string ⟨x.key.toArray⟩) vf) _ _ _ _ ?_
  refine tk 0 (.string ⟨(Lb.pkey p).toArray⟩) rfl (h:=?_)
  refine tk 1 (.agg #[.string ⟨x.kind.toArray⟩,.string ⟨x.key.toArray⟩,vf]) rfl (hy:=fun W hW=>by (obtain ⟨c0,c1,c2,_,_⟩:=hW;go_simp)) (h:=?_)
  refine tk 3 (.agg #[.string ⟨x.kind.toArray⟩,.string ⟨x.key.toArray⟩,vf]) rfl (hy:=fun W hW=>by (obtain ⟨c0,c1,c2,_,_⟩:=hW;go_simp)) (h:=?_)
  refine tk 6 (.pointer (some ⟨g0,1,none⟩)) rfl (hy:=fun W hW=>by go_simp) (h:=?_)
  refine tk 7 (.string ⟨x.key.toArray⟩) rfl (hy:=fun W hW=>by (obtain ⟨c0,c1,c2,_,_⟩:=hW;go_simp)) (h:=?_)
  try simp only [Act.put,π1,π2,π3,π4,π5,π6]
  refine tr 2 rfl (h:=fun K hK=>?_)
  go_simp
  go_wp2_with (go_at_call 76; refine (lb_field x vf Lb.yearW S _ HFd.out).mono ?_;rw [HY.out];rintro e w5 ⟨rfl,hb5⟩;have Hb5:=η hb5;clear hb5)
  refine hK.out _ _ (HEd.out.below' Hb5.out) (fun _=>?_)
  clear K hK
  try simp only [Act.put,π1,π2,π3,π4,π5,π6]
  refine tr 4 rfl (h:=fun K hK=>?_)
  go_simp
  go_wp2_with (go_at_call 76; refine (lb_field x vf Lb.titleW S _ (SliceIn.below' HFd.out Hb5.out)).mono ?_;rw [HT.out];rintro e w6 ⟨rfl,hb6⟩;have Hb6:=η (bseq Hb5.out hb6);clear hb6)
  refine hK.out _ _ (HEd.out.below' Hb6.out) (fun _=>?_)
  clear K hK
  try simp only [Act.put,π1,π2,π3,π4,π5,π6]
  refine tr 5 rfl (h:=fun K hK=>?_)
  go_simp
  go_wp2_with (go_at_call 133; refine (lb_small T _ HTl.out).mono ?_;rintro e w7 ⟨rfl,hb7⟩;have Hb7:=η (bseq Hb6.out hb7);clear hb7)
  refine hK.out _ _ (HEd.out.below' Hb7.out) (fun _=>?_)
  clear K hK
  refine tk 8 (.agg #[.string ⟨(Lb.pkey p).toArray⟩,.string ⟨Y.toArray⟩,.string ⟨(Ent.small T).toArray⟩,.string ⟨x.key.toArray⟩]) rfl (h:=?_)
  try simp only [Act.put,π1,π2,π3,π4,π5,π6]
  refine tr 9 rfl (h:=fun K hK=>?_)
  have HR:=η (HRd.out.below' Hb7.out)
  have r0:=HR.out.f 0;have r1:=HR.out.f 1;have r2:=HR.out.f 2;have r3:=HR.out.f 3;have q0:=HR.out.c0;have q1:=HR.out.c1;have q2:=HR.out.c2;have q3:=HR.out.c3
  go_simp
  have hb8':=((((HEd.out.below' Hb7.out).other Hgg.out 0 (.string ⟨(Lb.pkey p).toArray⟩)).other Hgg.out 1 (.string ⟨Y.toArray⟩)).other Hgg.out 2 (.string ⟨(Ent.small T).toArray⟩)).other Hgg.out 3 (.string ⟨x.key.toArray⟩)
  have hb8:=below4 (HBd.out.trans (Hb7.out.mono HBd.out.size)) Hgr.out (.string ⟨(Lb.pkey p).toArray⟩) (.string ⟨Y.toArray⟩) (.string ⟨(Ent.small T).toArray⟩) (.string ⟨x.key.toArray⟩)
  refine hK.out _ _ hb8' (fun _=>?_)
  clear K hK r0 r1 r2 r3 q0 q1 q2 q3
  try simp only [Act.put,π1,π2,π3,π4,π5,π6]
  refine wpAnyH_done (by kernel_rfl) ?_ _
  go_wp2_with fail
  have hF:=HR.out.all (.string ⟨(Lb.pkey p).toArray⟩) (.string ⟨Y.toArray⟩) (.string ⟨(Ent.small T).toArray⟩) (.string ⟨x.key.toArray⟩)
  refine ret_one rfl rfl (load_four _ _ _ _ _ _ hF.c0 hF.c1 hF.c2 hF.c3) rfl ⟨?_,hb8⟩
  rw [Hov.out];rfl
end Go.Proofs.YtgnfmopcialllaaGreatDoor
