/- The walk of slices.symMerge over entries, its general case, and of the stable sort of up to 39 of them. The walk of stetlaw15.Cut: entries as they are handed in, cut. -/
import Derived.Test.YtgnfmopcialllaaGreatDoorTk
import Derived.Test.YtgnfmopcialllaaGreatDoorLbSu
import Derived.Test.YtgnfmopcialllaaGreatDoorG12
set_option linter.unusedSimpArgs false
set_option linter.unusedVariables false
namespace Go.Proofs.YtgnfmopcialllaaGreatDoor
open Go.RowKit
open Mg (Is Asc En swp rot Le Seek shl shr)
theorem i64_add (a b c:Nat) (h:c=a+b) (hc:c≤100000):IntKind.i64.wrap ((a:Int)+(b:Int))=(c:Int):=by rw [IntWalk.i64_in _ (by omega)];omega
theorem i64_sub (a b c:Nat) (h:a=c+b) (hc:a≤100000):IntKind.i64.wrap ((a:Int) - (b:Int))=(c:Int):=by rw [IntWalk.i64_in _ (by omega)];omega
theorem i64_sum (a b:Nat) (hc:a+b≤100000):IntKind.i64.wrap ((a:Int)+(b:Int))=(a:Int)+(b:Int):=by rw [IntWalk.i64_in _ (by omega)]
theorem i64_pre (a c:Nat) (h:a=c+1) (hc:a≤100000):IntKind.i64.wrap ((a:Int) - 1)=(c:Int):=by rw [IntWalk.i64_in _ (by omega)];omega
theorem seek_range (a m b mid p s0 r0:Nat) (h1:a<m) (h2:m<b) (hm:mid=(a+b) / 2) (hp:mid+m=p+1) (hs:s0=if mid<m then mid+m - b else a) (hr:r0=if mid<m then mid else m):a≤s0∧s0≤r0∧r0≤m∧∀c,s0≤c→c<r0→m≤p - c∧p - c<b∧c≤p:=by
 have hm1:2*mid≤a+b:=by omega
 have hm2:a+b≤2*mid+1:=by omega
 clear hm
 by_cases h:mid<m
 ·
  rw [if_pos h] at hs hr
  subst hs hr
  refine ⟨by omega,by omega,by omega,fun c g1 g2=>⟨by omega,by omega,by omega⟩⟩
 ·
  rw [if_neg h] at hs hr
  subst hs hr
  refine ⟨by omega,by omega,by omega,fun c g1 g2=>⟨by omega,by omega,by omega⟩⟩
theorem sym_fin {g a m b s en mid:Nat} {L L1 L2 L3:List (Ent.Ent × Value)} {w W:World} (hR:SRow W g L3) (h1:a≤s) (h2:s≤m) (h3:m≤en) (h4:en≤b) (h5:mid≤b) (h6:a≤mid) (hI:Is (rot s m en) L L1) (hp:L1.Perm L)
  (k2:Mg.Mv a mid L1 L2) (hA:Asc En L2 a mid) (k3:Mg.Mv mid b L2 L3) (hB:Asc En L3 mid b) (hc:∀i j,a≤i→i<mid→mid≤j→j<b→Le En L1 i j) (ht:Turn g w W):SymPost a b g L w (.returned (.tuple #[])) W :=
 ⟨rfl,L3,hR,(Mg.Mv.wide (Mg.rot_mv hI hp h2 h3) h1 h4).trans ((k2.wide (Nat.le_refl a) h5).trans (k3.wide h6 (Nat.le_refl b))),Mg.joined k2 hA k3 hB hc,ht⟩
theorem i64_succ (a c:Nat) (h:c=a+1) (hc:c≤100000):IntKind.i64.wrap ((a:Int)+1)=(c:Int):=by rw [IntWalk.i64_in _ (by omega)];omega
theorem seek_done (a m b mid p s0 r0 s e:Nat) (L:List (Ent.Ent × Value)) (h1:a<m) (h2:m<b) (hm:mid=(a+b) / 2) (hp:mid+m=p+1) (hs:s0=if mid<m then mid+m - b else a) (hr:r0=if mid<m then mid else m)
  (hk:Seek En L p s0 r0 s s) (he:e+s=mid+m):a≤s∧s≤m∧m≤e∧e≤b∧mid=s+(e - m)∧(s<m→m<e→Le En L (e - 1) s)∧(a<s→e<b→Le En L (s - 1) e):=by
 have hm1:2*mid≤a+b:=by omega
 have hm2:a+b≤2*mid+1:=by omega
 clear hm
 have l0:=hk.l0;have l2:=hk.l2
 by_cases h:mid<m
 ·
  rw [if_pos h] at hs hr
  subst hs hr
  refine ⟨by omega,by omega,by omega,by omega,by omega,fun g1 g2=>?_,fun g1 g2=>?_⟩
  ·
   have:=hk.go s (Nat.le_refl _) (by omega)
   rwa [show p - s=e - 1 by omega] at this
  ·
   have:=hk.stay (s - 1) (by omega) (by omega)
   rwa [show p - (s - 1)=e by omega] at this
 ·
  rw [if_neg h] at hs hr
  subst hs hr
  refine ⟨by omega,by omega,by omega,by omega,by omega,fun g1 g2=>?_,fun g1 g2=>?_⟩
  ·
   have:=hk.go s (Nat.le_refl _) (by omega)
   rwa [show p - s=e - 1 by omega] at this
  ·
   have:=hk.stay (s - 1) (by omega) (by omega)
   rwa [show p - (s - 1)=e by omega] at this
set_option maxRecDepth 100000 in
set_option maxHeartbeats 6400000 in
theorem lb_symC (mx:Int) (g cap n a m b:Nat) (L:List (Ent.Ent × Value)) (w:World) (hR:SRow w g L) (hn:L.length=n) (hS:Sortable mx g w L) (hA:Asc En L a m) (hB:Asc En L m b) (ham:a<m) (hmb:m<b) (hbn:b≤n) (hl:n≤1000) (hc:n≤cap) (h1:m - a≠1) (h2:b - m≠1)
  (IH:∀(a' m' b':Nat) (L':List (Ent.Ent × Value)) (w':World),b' - a' < b - a→SRow w' g L' → L'.length=n→Sortable mx g w' L' → Asc En L' a' m' → Asc En L' m' b' → a' < m' → m' < b' → b' ≤ n →
   Calls Tryz.prog 178 #[.slice (some ⟨g,0,none⟩) n cap,.int .i64 (a':Int),.int .i64 (m':Int),.int .i64 (b':Int),.func (.func 72) #[] #[]] w' (SymPost a' b' g L' w')) :
  Calls Tryz.prog 178 #[.slice (some ⟨g,0,none⟩) n cap,.int .i64 (a:Int),.int .i64 (m:Int),.int .i64 (b:Int),.func (.func 72) #[] #[]] w (SymPost a b g L w):=by
 obtain ⟨dm,hdm⟩:∃dm,dm=m - a:=⟨_,rfl⟩
 obtain ⟨db,hdb⟩:∃db,db=b - m:=⟨_,rfl⟩
 obtain ⟨mid,hmid⟩:∃mid,mid=(a+b) / 2:=⟨_,rfl⟩
 obtain ⟨nn,hnn⟩:∃nn,nn=mid+m:=⟨_,rfl⟩
 obtain ⟨p,hpp⟩:∃p,nn=p+1:=⟨nn - 1,by omega⟩
 have HB0:=η (show a<m∧m<b∧b≤n∧n≤1000∧mid=(a+b) / 2∧nn=mid+m∧nn=p+1 from ⟨ham,hmb,hbn,hl,hmid,hnn,hpp⟩)
 have hmp:mid+m=p+1:=by omega
 obtain ⟨s0,hs0⟩:∃s0,s0=if mid<m then nn - b else a:=⟨_,rfl⟩
 obtain ⟨r0,hr0⟩:∃r0,r0=if mid<m then mid else m:=⟨_,rfl⟩
 have HSk:=η (seek_range a m b mid p s0 r0 ham hmb hmid hmp (by rw [hs0,hnn]) hr0)
 have q1:m=dm+a:=by omega
 have q2:b=db+m:=by omega
 have q3:a+b≤100000:=by omega
 have q4:nn≤100000:=by omega
 have q5:m≤100000:=by omega
 have q6:b≤100000:=by omega
 have q7:dm≠1:=by omega
 have q8:db≠1:=by omega
 have Hs0:=η hs0;have Hr0:=η hr0;have HIH:=η IH
 have HR:=η hR;have HS:=η hS;have Hn:=η hn;have HA:=η hA;have HB:=η hB;have Hmb:=η hmb;have Hbn:=η hbn;have Hl:=η hl;have Hc:=η hc
 clear hR hS hn hA hB
 have hd:IntKind.i64.wrap ((m:Int) - (a:Int))=(dm:Int):=i64_sub _ _ _ q1 q5
 have hd1:((dm:Int) == 1)=false:=beq_eq_false_iff_ne.2 (fun e=>q7 (Int.ofNat.inj e))
 have hd2:IntKind.i64.wrap ((b:Int) - (m:Int))=(db:Int):=i64_sub _ _ _ q2 q6
 have hd3:((db:Int) == 1)=false:=beq_eq_false_iff_ne.2 (fun e=>q8 (Int.ofNat.inj e))
 have hab:IntKind.i64.wrap ((a:Int)+(b:Int))=(a:Int)+(b:Int):=i64_sum _ _ q3
 have Hwm:=η (half_wrap a b mid hmid q3)
 have hwn:IntKind.i64.wrap ((mid:Int)+(m:Int))=(nn:Int):=i64_add _ _ _ hnn q4
 have hwp:IntKind.i64.wrap ((nn:Int) - 1)=(p:Int):=i64_pre _ _ hpp q4
 clear ham hmb hbn hl hc h1 h2 hdm hdb hmid hnn hpp hs0 hr0 IH hmp q1 q2 q3 q4 q5 q6 q7 q8
 go_enter Tryz.func178, Tryz.ntmps178
 go_upto_region 25 with fail
 rw [Hwm.out]
 clear hd hd1 hd2 hd3 hab
 go_upto_if 140 with fail
 go_cut [20,21,140] from 141 to 146 (fun sv rv _ W=>sv = .int .i64 (s0:Int)∧rv = .int .i64 (r0:Int)∧w=W)
 case first =>
  by_cases hgt:mid<m
  ·
   have hgt':(mid:Int)<(m:Int):=by omega
   have hs:=Hs0.out;have hr:=Hr0.out
   rw [if_pos hgt] at hs hr
   have hwb:IntKind.i64.wrap ((nn:Int) - (b:Int))=(s0:Int):=i64_sub _ _ _ (by have:=HB0.out;omega) (by have:=HB0.out;omega)
   have Hr:=η hr
   clear hgt hs hr
   go_wp2_with fail
   go_meet
   exact ⟨rfl,by rw [Hr.out],rfl⟩
  ·
   have hgt':¬(mid:Int)<(m:Int):=by omega
   have hs:=Hs0.out;have hr:=Hr0.out
   rw [if_neg hgt] at hs hr
   have Hr:=η hr;have Hs:=η hs
   clear hgt hs hr
   go_wp2_with fail
   go_meet
   exact ⟨by rw [Hs.out],by rw [Hr.out],rfl⟩
 case rest =>
  obtain ⟨rfl,rfl,rfl⟩:=hcut
  go_wp2_with fail
  go_loopw [20,21] (fun sv rv wr=>∃(s r:Nat),sv = .int .i64 (s:Int)∧rv = .int .i64 (r:Int)∧Seek En L p s0 r0 s r∧SRow wr g L∧Turn g w wr) (fun sv rv _=>(intOf rv).toNat - (intOf sv).toNat)
  case atStart=>exact ⟨s0,r0,rfl,rfl,⟨Nat.le_refl _,HSk.out.2.1,Nat.le_refl _,fun c h1 h2=>absurd h1 (by omega),fun c h1 h2=>absurd h1 (by omega)⟩,HR.out,Turn.refl _ _⟩
  case round =>
   clear hwn hwp
   obtain ⟨s,r,rfl,rfl,hSe,hSr,ht⟩:=hrel
   have HSe:=η hSe;have HSr:=η hSr;have Ht:=η ht
   clear hSe hSr ht
   by_cases hlt:s<r
   ·
    obtain ⟨c,hc⟩:∃c,c=(s+r) / 2:=⟨_,rfl⟩
    obtain ⟨c1,hc1⟩:∃c1,c1=c+1:=⟨_,rfl⟩
    obtain ⟨pc,hpc⟩:∃pc,pc=p - c:=⟨_,rfl⟩
    have q1:s≤c∧c<r:=by omega
    have q2:=HSk.out.2.2.2 c (by have:=HSe.out.l0;omega) (by have:=HSe.out.l2;omega)
    have q3:r≤m∧m<b∧b≤n∧n≤1000:=⟨by have:=HSe.out.l2;have:=HSk.out.2.2.1;omega,HB0.out.2.1,HB0.out.2.2.1,HB0.out.2.2.2.1⟩
    have q4:s+r≤100000:=by omega
    have q5:p=pc+c:=by omega
    have q6:p≤100000:=by omega
    have q7:c1≤100000:=by omega
    have hcn:(c:Int)<(n:Int):=by omega
    have hpn:(pc:Int)<(n:Int):=by omega
    have hlt':(s:Int)<(r:Int):=by omega
    have hCl:=Hn.out
    have hV:=HS.out.form
    obtain ⟨⟨xe,vx⟩,hxc⟩:∃x,L[pc]? = some x:=⟨_,List.getElem?_eq_getElem (by omega)⟩
    obtain ⟨px,nx,cx,hvx⟩:=hV (xe,vx) (List.mem_of_getElem? hxc)
    have hvx:vx=_:=hvx
    subst hvx
    obtain ⟨⟨ye,vy⟩,hyc⟩:∃x,L[c]? = some x:=⟨_,List.getElem?_eq_getElem (by omega)⟩
    obtain ⟨py,ny,cy,hvy⟩:=hV (ye,vy) (List.mem_of_getElem? hyc)
    have hvy:vy=_:=hvy
    subst hvy
    have HXc:=η hxc;have HYc:=η hyc;have HSo:=HS
    have Hc1:=η hc1;have Hpc:=η hpc;have Q1:=η q1
    have hwij:IntKind.i64.wrap ((s:Int)+(r:Int))=(s:Int)+(r:Int):=i64_sum _ _ q4
    have Hwc:=η (half_wrap s r c hc q4)
    have hwpc:IntKind.i64.wrap ((p:Int) - (c:Int))=(pc:Int):=i64_sub _ _ _ q5 q6
    have hwc1:IntKind.i64.wrap ((c:Int)+1)=(c1:Int):=i64_succ _ _ hc1 q7
    clear hlt hc hc1 hpc q1 q2 q3 q4 q5 q6 q7 hCl hV hxc hyc
    go_upto_region 35 with fail
    rw [Hwc.out]
    by_cases hneg:Lb.cmp xe ye<0
    ·
     have HLe:=η (show Le En L (p - c) c by rw [←Hpc.out];exact le_of HXc.out HYc.out (Mg.en_lt hneg))
     refine wp_region_any (by kernel_rfl) ?_
     change wpAny _ _ _ _ _ _ _ (World.drew _)
     have HSd:=η (HSr.out.below (Below.refl _ _).drew);have Htd:=η (Ht.out.below (Below.refl _ _).drew)
     have hSd:=HSo.out.turn Htd.out
     have HFx:=η (hSd.fld (xe,.slice px nx cx) (List.mem_of_getElem? HXc.out));have HFy:=η (hSd.fld (ye,.slice py ny cy) (List.mem_of_getElem? HYc.out));have HBx:=η (hSd.ok (xe,.slice px nx cx) (List.mem_of_getElem? HXc.out));have HBy:=η (hSd.ok (ye,.slice py ny cy) (List.mem_of_getElem? HYc.out))
     have HMd:=η (And.intro hSd.m0 hSd.h0)
     have HXd:=η (HSd.out.cell pc _ HXc.out);have HYd:=η (HSd.out.cell c _ HYc.out);have Hgd:=η HSd.out.lt
     clear HSr Ht hSd
     generalize World.drew _=wd at *
     have hS0:=Below.refl wd.heap.size wd
     refine wpAny_of_held (S:=fun W=>Below wd.heap.size wd W) _ _ _ _ ?_
     refine tk 0 (.func (.func 72) #[] #[]) rfl (h:=?_)
     refine tk 1 (.slice (some ⟨g,0,none⟩) n cap) rfl (h:=?_)
     refine tk 2 (.int .i64 (p:Int)) rfl (h:=?_)
     refine tk 3 (.int .i64 (c:Int)) rfl (h:=?_)
     refine tk 4 (.int .i64 (pc:Int)) rfl (hy:=fun W hW=>by go_simp) (h:=?_)
     refine tk 5 (.pointer (some ⟨g,pc*3,none⟩)) rfl (hy:=fun W hW=>by go_simp) (h:=?_)
     refine tk 6 (.agg #[.string ⟨xe.kind.toArray⟩,.string ⟨xe.key.toArray⟩,.slice px nx cx]) rfl (hy:=fun W hW=>by (have k0:=Below.cell hW (p:=⟨g,pc*3,none⟩) Hgd.out;have k1:=Below.cell hW (p:=⟨g,pc*3+1,none⟩) Hgd.out;have k2:=Below.cell hW (p:=⟨g,pc*3+2,none⟩) Hgd.out;rw [HXd.out.1] at k0;rw [HXd.out.2.1] at k1;rw [HXd.out.2.2] at k2;go_simp)) (h:=?_)
     refine tk 7 (.slice (some ⟨g,0,none⟩) n cap) rfl (h:=?_)
     refine tk 8 (.int .i64 (c:Int)) rfl (h:=?_)
     refine tk 9 (.pointer (some ⟨g,c*3,none⟩)) rfl (hy:=fun W hW=>by go_simp) (h:=?_)
     refine tk 10 (.agg #[.string ⟨ye.kind.toArray⟩,.string ⟨ye.key.toArray⟩,.slice py ny cy]) rfl (hy:=fun W hW=>by (have k0:=Below.cell hW (p:=⟨g,c*3,none⟩) Hgd.out;have k1:=Below.cell hW (p:=⟨g,c*3+1,none⟩) Hgd.out;have k2:=Below.cell hW (p:=⟨g,c*3+2,none⟩) Hgd.out;rw [HYd.out.1] at k0;rw [HYd.out.2.1] at k1;rw [HYd.out.2.2] at k2;go_simp)) (h:=?_)
     try simp only [Act.put,π1,π2,π3,π4,π5,π6]
     refine tr 11 rfl (h:=fun K hK=>?_)
     go_simp
     go_wp2_with (go_at_call 72; refine (lb_cmp xe ye _ _ mx _ _ _ HFx.out HFy.out HBx.out HBy.out HMd.out.1 HMd.out.2).mono ?_;rintro e w5 ⟨rfl,hb5⟩;have Hb5:=η hb5;clear hb5)
     refine hK.out _ _ (Hb5.out) (fun _=>?_)
     clear K hK
     refine tk 12 (.bool true) rfl (hy:=fun W hW=>by go_simp) (h:=?_)
     refine tk 13 (.bool false) rfl (hy:=fun W hW=>by go_simp) (h:=?_)
     try simp only [Act.put,π1,π2,π3,π4,π5,π6]
     refine wpAnyH_done (by kernel_rfl) ?_ _
     have HSr:=η (HSd.out.below Hb5.out);have Ht:=η (Htd.out.below Hb5.out)
     clear HSd Htd HFx HFy HBx HBy HMd HXd HYd Hgd hS0 Hb5
     go_wp2_with fail
     go_roundw
     case rel=>exact ⟨s,c,rfl,rfl,Mg.seek_down En.tr (by rw [Hn.out];exact HB0.out.2.2.1) (Nat.le_of_lt HB0.out.2.1) HA.out HB.out HSk.out.1 HSk.out.2.2.1 HSk.out.2.2.2 HSe.out Q1.out.1 Q1.out.2 HLe.out,HSr.out,Ht.out⟩
     case measure=>have:=Q1.out;simp [intOf];omega
    ·
     have HLe:=η (show Le En L c (p - c) by rw [←Hpc.out];exact le_of HYc.out HXc.out (Mg.en_ge hneg))
     have hnd:decide (Lb.cmp xe ye<0)=false:=decide_eq_false hneg
     clear hneg
     refine wp_region_any (by kernel_rfl) ?_
     change wpAny _ _ _ _ _ _ _ (World.drew _)
     have HSd:=η (HSr.out.below (Below.refl _ _).drew);have Htd:=η (Ht.out.below (Below.refl _ _).drew)
     have hSd:=HSo.out.turn Htd.out
     have HFx:=η (hSd.fld (xe,.slice px nx cx) (List.mem_of_getElem? HXc.out));have HFy:=η (hSd.fld (ye,.slice py ny cy) (List.mem_of_getElem? HYc.out));have HBx:=η (hSd.ok (xe,.slice px nx cx) (List.mem_of_getElem? HXc.out));have HBy:=η (hSd.ok (ye,.slice py ny cy) (List.mem_of_getElem? HYc.out))
     have HMd:=η (And.intro hSd.m0 hSd.h0)
     have HXd:=η (HSd.out.cell pc _ HXc.out);have HYd:=η (HSd.out.cell c _ HYc.out);have Hgd:=η HSd.out.lt
     clear HSr Ht hSd
     generalize World.drew _=wd at *
     have hS0:=Below.refl wd.heap.size wd
     refine wpAny_of_held (S:=fun W=>Below wd.heap.size wd W) _ _ _ _ ?_
     refine tk 0 (.func (.func 72) #[] #[]) rfl (h:=?_)
     refine tk 1 (.slice (some ⟨g,0,none⟩) n cap) rfl (h:=?_)
     refine tk 2 (.int .i64 (p:Int)) rfl (h:=?_)
     refine tk 3 (.int .i64 (c:Int)) rfl (h:=?_)
     refine tk 4 (.int .i64 (pc:Int)) rfl (hy:=fun W hW=>by go_simp) (h:=?_)
     refine tk 5 (.pointer (some ⟨g,pc*3,none⟩)) rfl (hy:=fun W hW=>by go_simp) (h:=?_)
     refine tk 6 (.agg #[.string ⟨xe.kind.toArray⟩,.string ⟨xe.key.toArray⟩,.slice px nx cx]) rfl (hy:=fun W hW=>by (have k0:=Below.cell hW (p:=⟨g,pc*3,none⟩) Hgd.out;have k1:=Below.cell hW (p:=⟨g,pc*3+1,none⟩) Hgd.out;have k2:=Below.cell hW (p:=⟨g,pc*3+2,none⟩) Hgd.out;rw [HXd.out.1] at k0;rw [HXd.out.2.1] at k1;rw [HXd.out.2.2] at k2;go_simp)) (h:=?_)
     refine tk 7 (.slice (some ⟨g,0,none⟩) n cap) rfl (h:=?_)
     refine tk 8 (.int .i64 (c:Int)) rfl (h:=?_)
     refine tk 9 (.pointer (some ⟨g,c*3,none⟩)) rfl (hy:=fun W hW=>by go_simp) (h:=?_)
     refine tk 10 (.agg #[.string ⟨ye.kind.toArray⟩,.string ⟨ye.key.toArray⟩,.slice py ny cy]) rfl (hy:=fun W hW=>by (have k0:=Below.cell hW (p:=⟨g,c*3,none⟩) Hgd.out;have k1:=Below.cell hW (p:=⟨g,c*3+1,none⟩) Hgd.out;have k2:=Below.cell hW (p:=⟨g,c*3+2,none⟩) Hgd.out;rw [HYd.out.1] at k0;rw [HYd.out.2.1] at k1;rw [HYd.out.2.2] at k2;go_simp)) (h:=?_)
     try simp only [Act.put,π1,π2,π3,π4,π5,π6]
     refine tr 11 rfl (h:=fun K hK=>?_)
     go_simp
     go_wp2_with (go_at_call 72; refine (lb_cmp xe ye _ _ mx _ _ _ HFx.out HFy.out HBx.out HBy.out HMd.out.1 HMd.out.2).mono ?_;rintro e w5 ⟨rfl,hb5⟩;have Hb5:=η hb5;clear hb5)
     refine hK.out _ _ (Hb5.out) (fun _=>?_)
     clear K hK
     refine tk 12 (.bool false) rfl (hy:=fun W hW=>by go_simp) (h:=?_)
     refine tk 13 (.bool true) rfl (hy:=fun W hW=>by go_simp) (h:=?_)
     try simp only [Act.put,π1,π2,π3,π4,π5,π6]
     refine wpAnyH_done (by kernel_rfl) ?_ _
     have HSr:=η (HSd.out.below Hb5.out);have Ht:=η (Htd.out.below Hb5.out)
     clear HSd Htd HFx HFy HBx HBy HMd HXd HYd Hgd hS0 Hb5
     go_wp2_with fail
     go_roundw
     case rel=>exact ⟨c1,r,rfl,rfl,by rw [Hc1.out];exact Mg.seek_up En.tr (by rw [Hn.out];exact HB0.out.2.2.1) (Nat.le_of_lt HB0.out.2.1) HA.out HB.out HSk.out.1 HSk.out.2.2.1 HSk.out.2.2.2 HSe.out Q1.out.1 Q1.out.2 HLe.out,HSr.out,Ht.out⟩
     case measure=>have:=Q1.out;have:=Hc1.out;simp [intOf];omega
   ·
    have hsr:s=r:=by have:=HSe.out.l1;omega
    subst hsr
    have hlt':¬(s:Int)<(s:Int):=Int.lt_irrefl _
    have hsle:s≤nn:=by have:=HSe.out.l2;have:=HSk.out.2.2.1;have:=HB0.out;omega
    obtain ⟨en,hen⟩:∃en,en+s=nn:=⟨nn - s,by omega⟩
    have q1:nn≤100000:=by have:=HB0.out;omega
    have hD:=seek_done a m b mid p s0 r0 s en L HB0.out.1 HB0.out.2.1 HB0.out.2.2.2.2.1 (by have:=HB0.out;omega) (by have:=HB0.out.2.2.2.2.2.1;rw [Hs0.out,this]) Hr0.out HSe.out (by have:=HB0.out;omega)
    have HD:=η hD
    have q2:s≤1000∧en≤1000:=by have:=HB0.out;omega
    have hwe:IntKind.i64.wrap ((nn:Int) - (s:Int))=(en:Int):=i64_sub _ _ _ hen.symm q1
    have hlb:b≤L.length:=by rw [Hn.out];exact HB0.out.2.2.1
    have Hlb:=η hlb;have Q2:=η q2;have HMb:=η (show mid≤b∧a≤mid by have:=HB0.out;omega)
    clear hlt hsle hen q1 hD q2 hlb
    by_cases g1:s<m
    ·
     by_cases g2:m<en
     ·
      have g1':(s:Int)<(m:Int):=Int.ofNat_lt.2 g1
      have g2':(m:Int)<(en:Int):=Int.ofNat_lt.2 g2
      have Hg:=η (And.intro g1 g2)
      clear g1 g2
      go_upto_region 41 with (go_at_call 216; refine (lb_rotate g cap n s m en _ L _ HSr.out Hn.out HS.out.form Hg.out.1 Hg.out.2 (Nat.le_trans HD.out.2.2.2.1 HB0.out.2.2.1) Hl.out Hc.out).mono ?_;rintro e w5 ⟨rfl,L1,hR1,hI1,hp1,ht1⟩;have HSr1:=η hR1;have HI1:=η hI1;have Hp1:=η hp1;have Ht1:=η (Ht.out.trans ht1);clear hR1 hI1 hp1 ht1)
      have hParts:=Mg.parts En.tr Hlb.out HD.out.1 HD.out.2.1 HD.out.2.2.1 HD.out.2.2.2.1 HD.out.2.2.2.2.1 HA.out HB.out HD.out.2.2.2.2.2.1 HD.out.2.2.2.2.2.2 HI1.out
      have HPa:=η hParts;have Hn1:=η (Hp1.out.length_eq.trans Hn.out);have HS1:=η ((HS.out.turn Ht1.out).perm Hp1.out)
      clear hParts
      by_cases g3:a<s
      ·
       by_cases g4:s<mid
       ·
        have g3':(a:Int)<(s:Int):=Int.ofNat_lt.2 g3
        have g4':(s:Int)<(mid:Int):=Int.ofNat_lt.2 g4
        have Hg2:=η (And.intro g3 g4)
        clear g3 g4
        go_upto_region 43 with (go_at_call 178; refine (HIH.out a s mid L1 _ (by have:=HB0.out;omega) HSr1.out Hn1.out HS1.out HPa.out.1 HPa.out.2.1 Hg2.out.1 Hg2.out.2 (by have:=HB0.out;omega)).mono ?_;unfold SymPost;rintro e w6 ⟨rfl,L2,hR2,hM2,hA2,ht2⟩;have HSr2:=η hR2;have HM2:=η hM2;have HA2:=η hA2;have Ht2:=η (Ht1.out.trans ht2);clear hR2 hM2 hA2 ht2)
        have Hn2:=η (HM2.out.len.trans Hn1.out);have HS2:=η ((HS.out.turn Ht2.out).perm (HM2.out.perm.trans Hp1.out))
        have HB3:=η (HPa.out.2.2.1.mv HM2.out (.inr (Nat.le_refl mid)));have HB4:=η (HPa.out.2.2.2.1.mv HM2.out (.inr (show mid≤en by have:=HD.out.2.2.2.2.1;have:=HD.out;omega)))
        by_cases g5:mid<en
        ·
         by_cases g6:en<b
         ·
          have g5':(mid:Int)<(en:Int):=Int.ofNat_lt.2 g5
          have g6':(en:Int)<(b:Int):=Int.ofNat_lt.2 g6
          have Hg3:=η (And.intro g5 g6)
          clear g5 g6
          go_wp2_with (go_at_call 178; refine (HIH.out mid en b L2 _ (by have:=HB0.out;omega) HSr2.out Hn2.out HS2.out HB3.out HB4.out Hg3.out.1 Hg3.out.2 HB0.out.2.2.1).mono ?_;unfold SymPost;rintro e w7 ⟨rfl,L3,hR3,hM3,hA3,ht3⟩;have HSr3:=η hR3;have HM3:=η hM3;have HA3:=η hA3;have Ht3:=η (Ht2.out.trans ht3);clear hR3 hM3 hA3 ht3)
          first | refine bodyPost_ret (results_none rfl _ _ _) rfl ?_ | refine bodyPost_end (results_none rfl _ _ _) rfl ?_
          exact sym_fin HSr3.out HD.out.1 HD.out.2.1 HD.out.2.2.1 HD.out.2.2.2.1 HMb.out.1 HMb.out.2 HI1.out Hp1.out HM2.out HA2.out HM3.out HA3.out HPa.out.2.2.2.2 Ht3.out
         ·
          have g5':(mid:Int)<(en:Int):=Int.ofNat_lt.2 g5
          have g6':¬(en:Int)<(b:Int):=fun h=>g6 (Int.ofNat_lt.1 h)
          have HA3:=η (HB3.out.sub (Nat.le_refl mid) (show b≤en by omega));have HSr3:=HSr2;have HM3:=η (Mg.Mv.refl mid b L2);have Ht3:=Ht2
          clear g5 g6
          go_wp2_with fail
          first | refine bodyPost_ret (results_none rfl _ _ _) rfl ?_ | refine bodyPost_end (results_none rfl _ _ _) rfl ?_
          exact sym_fin HSr3.out HD.out.1 HD.out.2.1 HD.out.2.2.1 HD.out.2.2.2.1 HMb.out.1 HMb.out.2 HI1.out Hp1.out HM2.out HA2.out HM3.out HA3.out HPa.out.2.2.2.2 Ht3.out
        ·
         have g5':¬(mid:Int)<(en:Int):=fun h=>g5 (Int.ofNat_lt.1 h)
         have HA3:=η (HB4.out.sub (show en≤mid by omega) (Nat.le_refl b));have HSr3:=HSr2;have HM3:=η (Mg.Mv.refl mid b L2);have Ht3:=Ht2
         clear g5
         go_wp2_with fail
         first | refine bodyPost_ret (results_none rfl _ _ _) rfl ?_ | refine bodyPost_end (results_none rfl _ _ _) rfl ?_
         exact sym_fin HSr3.out HD.out.1 HD.out.2.1 HD.out.2.2.1 HD.out.2.2.2.1 HMb.out.1 HMb.out.2 HI1.out Hp1.out HM2.out HA2.out HM3.out HA3.out HPa.out.2.2.2.2 Ht3.out
       ·
        have g3':(a:Int)<(s:Int):=Int.ofNat_lt.2 g3
        have g4':¬(s:Int)<(mid:Int):=fun h=>g4 (Int.ofNat_lt.1 h)
        have HA2:=η (HPa.out.1.sub (Nat.le_refl a) (show mid≤s by omega));have HSr2:=HSr1;have HM2:=η (Mg.Mv.refl a mid L1);have Ht2:=Ht1
        clear g3 g4
        go_upto_region 43 with fail
        have Hn2:=η (HM2.out.len.trans Hn1.out);have HS2:=η ((HS.out.turn Ht2.out).perm (HM2.out.perm.trans Hp1.out))
        have HB3:=η (HPa.out.2.2.1.mv HM2.out (.inr (Nat.le_refl mid)));have HB4:=η (HPa.out.2.2.2.1.mv HM2.out (.inr (show mid≤en by have:=HD.out.2.2.2.2.1;have:=HD.out;omega)))
        by_cases g5:mid<en
        ·
         by_cases g6:en<b
         ·
          have g5':(mid:Int)<(en:Int):=Int.ofNat_lt.2 g5
          have g6':(en:Int)<(b:Int):=Int.ofNat_lt.2 g6
          have Hg3:=η (And.intro g5 g6)
          clear g5 g6
          go_wp2_with (go_at_call 178; refine (HIH.out mid en b L1 _ (by have:=HB0.out;omega) HSr2.out Hn2.out HS2.out HB3.out HB4.out Hg3.out.1 Hg3.out.2 HB0.out.2.2.1).mono ?_;unfold SymPost;rintro e w7 ⟨rfl,L3,hR3,hM3,hA3,ht3⟩;have HSr3:=η hR3;have HM3:=η hM3;have HA3:=η hA3;have Ht3:=η (Ht2.out.trans ht3);clear hR3 hM3 hA3 ht3)
          first | refine bodyPost_ret (results_none rfl _ _ _) rfl ?_ | refine bodyPost_end (results_none rfl _ _ _) rfl ?_
          exact sym_fin HSr3.out HD.out.1 HD.out.2.1 HD.out.2.2.1 HD.out.2.2.2.1 HMb.out.1 HMb.out.2 HI1.out Hp1.out HM2.out HA2.out HM3.out HA3.out HPa.out.2.2.2.2 Ht3.out
         ·
          have g5':(mid:Int)<(en:Int):=Int.ofNat_lt.2 g5
          have g6':¬(en:Int)<(b:Int):=fun h=>g6 (Int.ofNat_lt.1 h)
          have HA3:=η (HB3.out.sub (Nat.le_refl mid) (show b≤en by omega));have HSr3:=HSr2;have HM3:=η (Mg.Mv.refl mid b L1);have Ht3:=Ht2
          clear g5 g6
          go_wp2_with fail
          first | refine bodyPost_ret (results_none rfl _ _ _) rfl ?_ | refine bodyPost_end (results_none rfl _ _ _) rfl ?_
          exact sym_fin HSr3.out HD.out.1 HD.out.2.1 HD.out.2.2.1 HD.out.2.2.2.1 HMb.out.1 HMb.out.2 HI1.out Hp1.out HM2.out HA2.out HM3.out HA3.out HPa.out.2.2.2.2 Ht3.out
        ·
         have g5':¬(mid:Int)<(en:Int):=fun h=>g5 (Int.ofNat_lt.1 h)
         have HA3:=η (HB4.out.sub (show en≤mid by omega) (Nat.le_refl b));have HSr3:=HSr2;have HM3:=η (Mg.Mv.refl mid b L1);have Ht3:=Ht2
         clear g5
         go_wp2_with fail
         first | refine bodyPost_ret (results_none rfl _ _ _) rfl ?_ | refine bodyPost_end (results_none rfl _ _ _) rfl ?_
         exact sym_fin HSr3.out HD.out.1 HD.out.2.1 HD.out.2.2.1 HD.out.2.2.2.1 HMb.out.1 HMb.out.2 HI1.out Hp1.out HM2.out HA2.out HM3.out HA3.out HPa.out.2.2.2.2 Ht3.out
      ·
       have g3':¬(a:Int)<(s:Int):=fun h=>g3 (Int.ofNat_lt.1 h)
       have HA2:=η (HPa.out.2.1.sub (show s≤a by omega) (Nat.le_refl mid));have HSr2:=HSr1;have HM2:=η (Mg.Mv.refl a mid L1);have Ht2:=Ht1
       clear g3
       go_upto_region 43 with fail
       have Hn2:=η (HM2.out.len.trans Hn1.out);have HS2:=η ((HS.out.turn Ht2.out).perm (HM2.out.perm.trans Hp1.out))
       have HB3:=η (HPa.out.2.2.1.mv HM2.out (.inr (Nat.le_refl mid)));have HB4:=η (HPa.out.2.2.2.1.mv HM2.out (.inr (show mid≤en by have:=HD.out.2.2.2.2.1;have:=HD.out;omega)))
       by_cases g5:mid<en
       ·
        by_cases g6:en<b
        ·
         have g5':(mid:Int)<(en:Int):=Int.ofNat_lt.2 g5
         have g6':(en:Int)<(b:Int):=Int.ofNat_lt.2 g6
         have Hg3:=η (And.intro g5 g6)
         clear g5 g6
         go_wp2_with (go_at_call 178; refine (HIH.out mid en b L1 _ (by have:=HB0.out;omega) HSr2.out Hn2.out HS2.out HB3.out HB4.out Hg3.out.1 Hg3.out.2 HB0.out.2.2.1).mono ?_;unfold SymPost;rintro e w7 ⟨rfl,L3,hR3,hM3,hA3,ht3⟩;have HSr3:=η hR3;have HM3:=η hM3;have HA3:=η hA3;have Ht3:=η (Ht2.out.trans ht3);clear hR3 hM3 hA3 ht3)
         first | refine bodyPost_ret (results_none rfl _ _ _) rfl ?_ | refine bodyPost_end (results_none rfl _ _ _) rfl ?_
         exact sym_fin HSr3.out HD.out.1 HD.out.2.1 HD.out.2.2.1 HD.out.2.2.2.1 HMb.out.1 HMb.out.2 HI1.out Hp1.out HM2.out HA2.out HM3.out HA3.out HPa.out.2.2.2.2 Ht3.out
        ·
         have g5':(mid:Int)<(en:Int):=Int.ofNat_lt.2 g5
         have g6':¬(en:Int)<(b:Int):=fun h=>g6 (Int.ofNat_lt.1 h)
         have HA3:=η (HB3.out.sub (Nat.le_refl mid) (show b≤en by omega));have HSr3:=HSr2;have HM3:=η (Mg.Mv.refl mid b L1);have Ht3:=Ht2
         clear g5 g6
         go_wp2_with fail
         first | refine bodyPost_ret (results_none rfl _ _ _) rfl ?_ | refine bodyPost_end (results_none rfl _ _ _) rfl ?_
         exact sym_fin HSr3.out HD.out.1 HD.out.2.1 HD.out.2.2.1 HD.out.2.2.2.1 HMb.out.1 HMb.out.2 HI1.out Hp1.out HM2.out HA2.out HM3.out HA3.out HPa.out.2.2.2.2 Ht3.out
       ·
        have g5':¬(mid:Int)<(en:Int):=fun h=>g5 (Int.ofNat_lt.1 h)
        have HA3:=η (HB4.out.sub (show en≤mid by omega) (Nat.le_refl b));have HSr3:=HSr2;have HM3:=η (Mg.Mv.refl mid b L1);have Ht3:=Ht2
        clear g5
        go_wp2_with fail
        first | refine bodyPost_ret (results_none rfl _ _ _) rfl ?_ | refine bodyPost_end (results_none rfl _ _ _) rfl ?_
        exact sym_fin HSr3.out HD.out.1 HD.out.2.1 HD.out.2.2.1 HD.out.2.2.2.1 HMb.out.1 HMb.out.2 HI1.out Hp1.out HM2.out HA2.out HM3.out HA3.out HPa.out.2.2.2.2 Ht3.out
     ·
      have g1':(s:Int)<(m:Int):=Int.ofNat_lt.2 g1
      have g2':¬(m:Int)<(en:Int):=fun h=>g2 (Int.ofNat_lt.1 h)
      have HI1:=η (Mg.rot_none L HD.out.2.1 HD.out.2.2.1 (fun h=>g2 h.2));have HSr1:=HSr;have Hp1:=η (List.Perm.refl L);have Ht1:=Ht;have HG:=η g2
      clear g1 g2
      go_upto_region 41 with fail
      have hParts:=Mg.parts En.tr Hlb.out HD.out.1 HD.out.2.1 HD.out.2.2.1 HD.out.2.2.2.1 HD.out.2.2.2.2.1 HA.out HB.out HD.out.2.2.2.2.2.1 HD.out.2.2.2.2.2.2 HI1.out
      have HPa:=η hParts;have Hn1:=η (Hp1.out.length_eq.trans Hn.out);have HS1:=η ((HS.out.turn Ht1.out).perm Hp1.out)
      clear hParts
      have g4:¬s<mid:=by have:=HG.out;have:=HD.out;omega
      by_cases g3:a<s
      ·
       have g3':(a:Int)<(s:Int):=Int.ofNat_lt.2 g3
       have g4':¬(s:Int)<(mid:Int):=fun h=>g4 (Int.ofNat_lt.1 h)
       have HA2:=η (HPa.out.1.sub (Nat.le_refl a) (show mid≤s by omega));have HSr2:=HSr1;have HM2:=η (Mg.Mv.refl a mid L);have Ht2:=Ht1
       clear g3 g4
       go_upto_region 43 with fail
       have Hn2:=η (HM2.out.len.trans Hn1.out);have HS2:=η ((HS.out.turn Ht2.out).perm (HM2.out.perm.trans Hp1.out))
       have HB3:=η (HPa.out.2.2.1.mv HM2.out (.inr (Nat.le_refl mid)));have HB4:=η (HPa.out.2.2.2.1.mv HM2.out (.inr (show mid≤en by have:=HD.out.2.2.2.2.1;have:=HD.out;omega)))
       by_cases g5:mid<en
       ·
        by_cases g6:en<b
        ·
         have g5':(mid:Int)<(en:Int):=Int.ofNat_lt.2 g5
         have g6':(en:Int)<(b:Int):=Int.ofNat_lt.2 g6
         have Hg3:=η (And.intro g5 g6)
         clear g5 g6
         go_wp2_with (go_at_call 178; refine (HIH.out mid en b L _ (by have:=HB0.out;omega) HSr2.out Hn2.out HS2.out HB3.out HB4.out Hg3.out.1 Hg3.out.2 HB0.out.2.2.1).mono ?_;unfold SymPost;rintro e w7 ⟨rfl,L3,hR3,hM3,hA3,ht3⟩;have HSr3:=η hR3;have HM3:=η hM3;have HA3:=η hA3;have Ht3:=η (Ht2.out.trans ht3);clear hR3 hM3 hA3 ht3)
         first | refine bodyPost_ret (results_none rfl _ _ _) rfl ?_ | refine bodyPost_end (results_none rfl _ _ _) rfl ?_
         exact sym_fin HSr3.out HD.out.1 HD.out.2.1 HD.out.2.2.1 HD.out.2.2.2.1 HMb.out.1 HMb.out.2 HI1.out Hp1.out HM2.out HA2.out HM3.out HA3.out HPa.out.2.2.2.2 Ht3.out
        ·
         have g5':(mid:Int)<(en:Int):=Int.ofNat_lt.2 g5
         have g6':¬(en:Int)<(b:Int):=fun h=>g6 (Int.ofNat_lt.1 h)
         have HA3:=η (HB3.out.sub (Nat.le_refl mid) (show b≤en by omega));have HSr3:=HSr2;have HM3:=η (Mg.Mv.refl mid b L);have Ht3:=Ht2
         clear g5 g6
         go_wp2_with fail
         first | refine bodyPost_ret (results_none rfl _ _ _) rfl ?_ | refine bodyPost_end (results_none rfl _ _ _) rfl ?_
         exact sym_fin HSr3.out HD.out.1 HD.out.2.1 HD.out.2.2.1 HD.out.2.2.2.1 HMb.out.1 HMb.out.2 HI1.out Hp1.out HM2.out HA2.out HM3.out HA3.out HPa.out.2.2.2.2 Ht3.out
       ·
        have g5':¬(mid:Int)<(en:Int):=fun h=>g5 (Int.ofNat_lt.1 h)
        have HA3:=η (HB4.out.sub (show en≤mid by omega) (Nat.le_refl b));have HSr3:=HSr2;have HM3:=η (Mg.Mv.refl mid b L);have Ht3:=Ht2
        clear g5
        go_wp2_with fail
        first | refine bodyPost_ret (results_none rfl _ _ _) rfl ?_ | refine bodyPost_end (results_none rfl _ _ _) rfl ?_
        exact sym_fin HSr3.out HD.out.1 HD.out.2.1 HD.out.2.2.1 HD.out.2.2.2.1 HMb.out.1 HMb.out.2 HI1.out Hp1.out HM2.out HA2.out HM3.out HA3.out HPa.out.2.2.2.2 Ht3.out
      ·
       have g3':¬(a:Int)<(s:Int):=fun h=>g3 (Int.ofNat_lt.1 h)
       have HA2:=η (HPa.out.2.1.sub (show s≤a by omega) (Nat.le_refl mid));have HSr2:=HSr1;have HM2:=η (Mg.Mv.refl a mid L);have Ht2:=Ht1
       clear g3
       go_upto_region 43 with fail
       have Hn2:=η (HM2.out.len.trans Hn1.out);have HS2:=η ((HS.out.turn Ht2.out).perm (HM2.out.perm.trans Hp1.out))
       have HB3:=η (HPa.out.2.2.1.mv HM2.out (.inr (Nat.le_refl mid)));have HB4:=η (HPa.out.2.2.2.1.mv HM2.out (.inr (show mid≤en by have:=HD.out.2.2.2.2.1;have:=HD.out;omega)))
       by_cases g5:mid<en
       ·
        by_cases g6:en<b
        ·
         have g5':(mid:Int)<(en:Int):=Int.ofNat_lt.2 g5
         have g6':(en:Int)<(b:Int):=Int.ofNat_lt.2 g6
         have Hg3:=η (And.intro g5 g6)
         clear g5 g6
         go_wp2_with (go_at_call 178; refine (HIH.out mid en b L _ (by have:=HB0.out;omega) HSr2.out Hn2.out HS2.out HB3.out HB4.out Hg3.out.1 Hg3.out.2 HB0.out.2.2.1).mono ?_;unfold SymPost;rintro e w7 ⟨rfl,L3,hR3,hM3,hA3,ht3⟩;have HSr3:=η hR3;have HM3:=η hM3;have HA3:=η hA3;have Ht3:=η (Ht2.out.trans ht3);clear hR3 hM3 hA3 ht3)
         first | refine bodyPost_ret (results_none rfl _ _ _) rfl ?_ | refine bodyPost_end (results_none rfl _ _ _) rfl ?_
         exact sym_fin HSr3.out HD.out.1 HD.out.2.1 HD.out.2.2.1 HD.out.2.2.2.1 HMb.out.1 HMb.out.2 HI1.out Hp1.out HM2.out HA2.out HM3.out HA3.out HPa.out.2.2.2.2 Ht3.out
        ·
         have g5':(mid:Int)<(en:Int):=Int.ofNat_lt.2 g5
         have g6':¬(en:Int)<(b:Int):=fun h=>g6 (Int.ofNat_lt.1 h)
         have HA3:=η (HB3.out.sub (Nat.le_refl mid) (show b≤en by omega));have HSr3:=HSr2;have HM3:=η (Mg.Mv.refl mid b L);have Ht3:=Ht2
         clear g5 g6
         go_wp2_with fail
         first | refine bodyPost_ret (results_none rfl _ _ _) rfl ?_ | refine bodyPost_end (results_none rfl _ _ _) rfl ?_
         exact sym_fin HSr3.out HD.out.1 HD.out.2.1 HD.out.2.2.1 HD.out.2.2.2.1 HMb.out.1 HMb.out.2 HI1.out Hp1.out HM2.out HA2.out HM3.out HA3.out HPa.out.2.2.2.2 Ht3.out
       ·
        have g5':¬(mid:Int)<(en:Int):=fun h=>g5 (Int.ofNat_lt.1 h)
        have HA3:=η (HB4.out.sub (show en≤mid by omega) (Nat.le_refl b));have HSr3:=HSr2;have HM3:=η (Mg.Mv.refl mid b L);have Ht3:=Ht2
        clear g5
        go_wp2_with fail
        first | refine bodyPost_ret (results_none rfl _ _ _) rfl ?_ | refine bodyPost_end (results_none rfl _ _ _) rfl ?_
        exact sym_fin HSr3.out HD.out.1 HD.out.2.1 HD.out.2.2.1 HD.out.2.2.2.1 HMb.out.1 HMb.out.2 HI1.out Hp1.out HM2.out HA2.out HM3.out HA3.out HPa.out.2.2.2.2 Ht3.out
    ·
     have g1':¬(s:Int)<(m:Int):=fun h=>g1 (Int.ofNat_lt.1 h)
     have HI1:=η (Mg.rot_none L HD.out.2.1 HD.out.2.2.1 (fun h=>g1 h.1));have HSr1:=HSr;have Hp1:=η (List.Perm.refl L);have Ht1:=Ht;have HG:=η g1
     clear g1
     go_upto_region 41 with fail
     have hParts:=Mg.parts En.tr Hlb.out HD.out.1 HD.out.2.1 HD.out.2.2.1 HD.out.2.2.2.1 HD.out.2.2.2.2.1 HA.out HB.out HD.out.2.2.2.2.2.1 HD.out.2.2.2.2.2.2 HI1.out
     have HPa:=η hParts;have Hn1:=η (Hp1.out.length_eq.trans Hn.out);have HS1:=η ((HS.out.turn Ht1.out).perm Hp1.out)
     clear hParts
     by_cases g3:a<s
     ·
      by_cases g4:s<mid
      ·
       have g3':(a:Int)<(s:Int):=Int.ofNat_lt.2 g3
       have g4':(s:Int)<(mid:Int):=Int.ofNat_lt.2 g4
       have Hg2:=η (And.intro g3 g4)
       clear g3 g4
       go_upto_region 43 with (go_at_call 178; refine (HIH.out a s mid L _ (by have:=HB0.out;omega) HSr1.out Hn1.out HS1.out HPa.out.1 HPa.out.2.1 Hg2.out.1 Hg2.out.2 (by have:=HB0.out;omega)).mono ?_;unfold SymPost;rintro e w6 ⟨rfl,L2,hR2,hM2,hA2,ht2⟩;have HSr2:=η hR2;have HM2:=η hM2;have HA2:=η hA2;have Ht2:=η (Ht1.out.trans ht2);clear hR2 hM2 hA2 ht2)
       have Hn2:=η (HM2.out.len.trans Hn1.out);have HS2:=η ((HS.out.turn Ht2.out).perm (HM2.out.perm.trans Hp1.out))
       have HB3:=η (HPa.out.2.2.1.mv HM2.out (.inr (Nat.le_refl mid)));have HB4:=η (HPa.out.2.2.2.1.mv HM2.out (.inr (show mid≤en by have:=HD.out.2.2.2.2.1;have:=HD.out;omega)))
       have g5:¬mid<en:=by have:=HG.out;have:=HD.out;omega
       have g5':¬(mid:Int)<(en:Int):=fun h=>g5 (Int.ofNat_lt.1 h)
       have HA3:=η (HB4.out.sub (show en≤mid by omega) (Nat.le_refl b));have HSr3:=HSr2;have HM3:=η (Mg.Mv.refl mid b L2);have Ht3:=Ht2
       clear g5
       go_wp2_with fail
       first | refine bodyPost_ret (results_none rfl _ _ _) rfl ?_ | refine bodyPost_end (results_none rfl _ _ _) rfl ?_
       exact sym_fin HSr3.out HD.out.1 HD.out.2.1 HD.out.2.2.1 HD.out.2.2.2.1 HMb.out.1 HMb.out.2 HI1.out Hp1.out HM2.out HA2.out HM3.out HA3.out HPa.out.2.2.2.2 Ht3.out
      ·
       have g3':(a:Int)<(s:Int):=Int.ofNat_lt.2 g3
       have g4':¬(s:Int)<(mid:Int):=fun h=>g4 (Int.ofNat_lt.1 h)
       have HA2:=η (HPa.out.1.sub (Nat.le_refl a) (show mid≤s by omega));have HSr2:=HSr1;have HM2:=η (Mg.Mv.refl a mid L);have Ht2:=Ht1
       clear g3 g4
       go_upto_region 43 with fail
       have Hn2:=η (HM2.out.len.trans Hn1.out);have HS2:=η ((HS.out.turn Ht2.out).perm (HM2.out.perm.trans Hp1.out))
       have HB3:=η (HPa.out.2.2.1.mv HM2.out (.inr (Nat.le_refl mid)));have HB4:=η (HPa.out.2.2.2.1.mv HM2.out (.inr (show mid≤en by have:=HD.out.2.2.2.2.1;have:=HD.out;omega)))
       have g5:¬mid<en:=by have:=HG.out;have:=HD.out;omega
       have g5':¬(mid:Int)<(en:Int):=fun h=>g5 (Int.ofNat_lt.1 h)
       have HA3:=η (HB4.out.sub (show en≤mid by omega) (Nat.le_refl b));have HSr3:=HSr2;have HM3:=η (Mg.Mv.refl mid b L);have Ht3:=Ht2
       clear g5
       go_wp2_with fail
       first | refine bodyPost_ret (results_none rfl _ _ _) rfl ?_ | refine bodyPost_end (results_none rfl _ _ _) rfl ?_
       exact sym_fin HSr3.out HD.out.1 HD.out.2.1 HD.out.2.2.1 HD.out.2.2.2.1 HMb.out.1 HMb.out.2 HI1.out Hp1.out HM2.out HA2.out HM3.out HA3.out HPa.out.2.2.2.2 Ht3.out
     ·
      have g3':¬(a:Int)<(s:Int):=fun h=>g3 (Int.ofNat_lt.1 h)
      have HA2:=η (HPa.out.2.1.sub (show s≤a by omega) (Nat.le_refl mid));have HSr2:=HSr1;have HM2:=η (Mg.Mv.refl a mid L);have Ht2:=Ht1
      clear g3
      go_upto_region 43 with fail
      have Hn2:=η (HM2.out.len.trans Hn1.out);have HS2:=η ((HS.out.turn Ht2.out).perm (HM2.out.perm.trans Hp1.out))
      have HB3:=η (HPa.out.2.2.1.mv HM2.out (.inr (Nat.le_refl mid)));have HB4:=η (HPa.out.2.2.2.1.mv HM2.out (.inr (show mid≤en by have:=HD.out.2.2.2.2.1;have:=HD.out;omega)))
      have g5:¬mid<en:=by have:=HG.out;have:=HD.out;omega
      have g5':¬(mid:Int)<(en:Int):=fun h=>g5 (Int.ofNat_lt.1 h)
      have HA3:=η (HB4.out.sub (show en≤mid by omega) (Nat.le_refl b));have HSr3:=HSr2;have HM3:=η (Mg.Mv.refl mid b L);have Ht3:=Ht2
      clear g5
      go_wp2_with fail
      first | refine bodyPost_ret (results_none rfl _ _ _) rfl ?_ | refine bodyPost_end (results_none rfl _ _ _) rfl ?_
      exact sym_fin HSr3.out HD.out.1 HD.out.2.1 HD.out.2.2.1 HD.out.2.2.2.1 HMb.out.1 HMb.out.2 HI1.out Hp1.out HM2.out HA2.out HM3.out HA3.out HPa.out.2.2.2.2 Ht3.out
theorem lb_symm (mx:Int) (g cap n:Nat) (hl:n≤1000) (hc:n≤cap):∀(N a m b:Nat) (L:List (Ent.Ent × Value)) (w:World),b - a≤N→SRow w g L→L.length=n→Sortable mx g w L→Asc En L a m→Asc En L m b→a<m→m<b→b≤n →
  Calls Tryz.prog 178 #[.slice (some ⟨g,0,none⟩) n cap,.int .i64 (a:Int),.int .i64 (m:Int),.int .i64 (b:Int),.func (.func 72) #[] #[]] w (SymPost a b g L w)
 | 0,a,m,b,_,_,h,_,_,_,_,_,h1,h2,_=>absurd h1 (by omega)
 | N+1,a,m,b,L,w,h,hR,hn,hS,hA,hB,h1,h2,hb=>by
  by_cases c1:m - a=1
  ·
   exact lb_symA mx g cap n a m b L w hR hn hS hA hB h1 h2 hb hl hc c1
  ·
   by_cases c2:b - m=1
   ·
    exact lb_symB mx g cap n a m b L w hR hn hS hA hB h1 h2 hb hl hc c1 c2
   ·
    exact lb_symC mx g cap n a m b L w hR hn hS hA hB h1 h2 hb hl hc c1 c2 (fun a' m' b' L' w' hlt hR' hn' hS' hA' hB' h1' h2' hb'=>lb_symm mx g cap n hl hc N a' m' b' L' w' (by omega) hR' hn' hS' hA' hB' h1' h2' hb')
theorem lb_ins0 (m:Int) (g cap n b:Nat) (L:List (Ent.Ent × Value)) (w:World) (hR:SRow w g L) (hn:L.length=n) (hS:Sortable m g w L) (hbn:b≤n) (hl:n≤1000) (hc:n≤cap) (bi:Int) (hbi:(b:Int)=bi) :
  Calls Tryz.prog 177 #[.slice (some ⟨g,0,none⟩) n cap,.int .i64 0,.int .i64 bi,.func (.func 72) #[] #[]] w fun e w'=>e = .returned (.tuple #[])∧∃L',SRow w' g L'∧Mg.Mv 0 b L L'∧Asc En L' 0 b∧Turn g w w':=by
 have h:=lb_ins m g cap n 0 b L w hR hn hS (Nat.zero_le _) hbn hl hc
 rw [hbi] at h
 exact h
theorem lb_ins20 (m:Int) (g cap n:Nat) (L:List (Ent.Ent × Value)) (w:World) (hR:SRow w g L) (hn:L.length=n) (hS:Sortable m g w L) (hbn:20≤n) (hl:n≤1000) (hc:n≤cap) :
  Calls Tryz.prog 177 #[.slice (some ⟨g,0,none⟩) n cap,.int .i64 20,.int .i64 (n:Int),.func (.func 72) #[] #[]] w fun e w'=>e = .returned (.tuple #[])∧∃L',SRow w' g L'∧Mg.Mv 20 n L L'∧Asc En L' 20 n∧Turn g w w' :=
 lb_ins m g cap n 20 n L w hR hn hS hbn (Nat.le_refl _) hl hc
theorem lb_symm20 (mx:Int) (g cap n:Nat) (L:List (Ent.Ent × Value)) (w:World) (hl:n≤1000) (hc:n≤cap) (hR:SRow w g L) (hn:L.length=n) (hS:Sortable mx g w L) (hA:Asc En L 0 20) (hB:Asc En L 20 n) (h2:20<n) :
  Calls Tryz.prog 178 #[.slice (some ⟨g,0,none⟩) n cap,.int .i64 0,.int .i64 20,.int .i64 (n:Int),.func (.func 72) #[] #[]] w (SymPost 0 n g L w) :=
 lb_symm mx g cap n hl hc n 0 20 n L w (by omega) hR hn hS hA hB (by decide) h2 (Nat.le_refl _)
set_option maxRecDepth 100000 in
set_option maxHeartbeats 3200000 in
theorem lb_stable2 (mx:Int) (g cap n:Nat) (L:List (Ent.Ent × Value)) (w:World) (hR:SRow w g L) (hn:L.length=n) (hS:Sortable mx g w L) (h20:20≤n) (hl:n≤39) (hc:n≤cap) :
  Calls Tryz.prog 131 #[.slice (some ⟨g,0,none⟩) n cap,.int .i64 (n:Int),.func (.func 72) #[] #[]] w fun e w'=>e = .returned (.tuple #[])∧∃L',SRow w' g L'∧L'.Perm L∧Asc En L' 0 n∧Turn g w w':=by
 have h20':(20:Int)≤(n:Int):=by omega
 have h40:¬(40:Int)≤(n:Int):=by omega
 have h41:¬(40:Int)<(n:Int):=by omega
 have HR:=η hR;have HS:=η hS;have Hn:=η hn;have Hc:=η hc;have Hl:=η (show n≤1000 by omega);have H20:=η h20
 clear hR hS hn hc hl h20
 go_enter Tryz.func131, Tryz.ntmps131
 go_wp2_with fail
 go_loopw [7,8] (fun av bv wr=>(av = .int .i64 0∧bv = .int .i64 20∧w=wr)∨(av = .int .i64 20∧bv = .int .i64 40∧∃L1,SRow wr g L1∧Mg.Mv 0 20 L L1∧Asc En L1 0 20∧Turn g w wr)) (fun _ bv _=>40 - (intOf bv).toNat)
 case atStart=>exact .inl ⟨rfl,rfl,rfl⟩
 case round =>
  rcases hrel with ⟨rfl,rfl,rfl⟩ | ⟨rfl,rfl,L1,hR1,hM1,hA1,ht1⟩
  ·
   go_wp2_with (go_at_call 177; refine (lb_ins0 mx g cap n 20 L _ HR.out Hn.out HS.out H20.out Hl.out Hc.out 20 rfl).mono ?_;rintro e w1 ⟨rfl,L1,hR1,hM1,hA1,ht1⟩;have HR1:=η hR1;have HM1:=η hM1;have HA1:=η hA1;have Ht1:=η ht1;clear hR1 hM1 hA1 ht1)
   go_roundw
   case rel=>exact .inr ⟨rfl,rfl,L1,HR1.out,HM1.out,HA1.out,Ht1.out⟩
   case measure=>simp [intOf]
  ·
   have HR1:=η hR1;have HM1:=η hM1;have HA1:=η hA1;have Ht1:=η ht1
   clear hR1 hM1 hA1 ht1
   go_wp2_with (go_at_call 177; refine (lb_ins20 mx g cap n L1 _ HR1.out (HM1.out.len.trans Hn.out) ((HS.out.turn Ht1.out).perm HM1.out.perm) H20.out Hl.out Hc.out).mono ?_;rintro e w2 ⟨rfl,L2,hR2,hM2,hA2,ht2⟩;have HR2:=η hR2;have HM2:=η hM2;have HA2:=η hA2;have Ht2:=η (Ht1.out.trans ht2);clear hR2 hM2 hA2 ht2)
   have HA0:=η (HA1.out.mv HM2.out (.inl (Nat.le_refl 20)))
   have Hp2:=η (HM2.out.perm.trans HM1.out.perm)
   go_loopw [6,7,8,9] (fun sv _ _ _ wr=>(sv = .int .i64 20∧w2=wr)∨(sv = .int .i64 40∧∃L3,SRow wr g L3∧L3.Perm L∧Asc En L3 0 n∧Turn g w wr)) (fun sv _ _ _ _=>40 - (intOf sv).toNat)
   case atStart=>exact .inl ⟨rfl,rfl⟩
   case round =>
    rcases hrel with ⟨rfl,rfl⟩ | ⟨rfl,L3,hR3,hp3,hA3,ht3⟩
    ·
     by_cases h21:20<n
     ·
      have h21':(20:Int)<(n:Int):=by omega
      have H21:=η h21
      clear h21
      go_wp2_with fail
      go_loopw [7,8] (fun av bv wr=>av = .int .i64 0∧bv = .int .i64 40∧w2=wr) (fun _ _ _=>0)
      case atStart=>exact ⟨rfl,rfl,rfl⟩
      case round =>
       obtain ⟨rfl,rfl,rfl⟩:=hrel
       go_wp2_with (go_at_call 178; refine (lb_symm20 mx g cap n L2 _ Hl.out Hc.out HR2.out (Hp2.out.length_eq.trans Hn.out) ((HS.out.turn Ht2.out).perm Hp2.out) HA0.out HA2.out H21.out).mono ?_;unfold SymPost;rintro e w3 ⟨rfl,L3,hR3,hM3,hA3,ht3⟩;have HR3:=η hR3;have HM3:=η hM3;have HA3:=η hA3;have Ht3:=η (Ht2.out.trans ht3);clear hR3 hM3 hA3 ht3)
       go_roundw
       case rel=>exact .inr ⟨rfl,L3,HR3.out,HM3.out.perm.trans Hp2.out,HA3.out,Ht3.out⟩
       case measure=>simp [intOf]
     ·
      have h21':¬(20:Int)<(n:Int):=by omega
      have H21:=η h21
      clear h21
      go_wp2_with fail
      first | refine bodyPost_ret (results_none rfl _ _ _) rfl ?_ | refine bodyPost_end (results_none rfl _ _ _) rfl ?_
      exact ⟨rfl,L2,HR2.out,Hp2.out,HA0.out.sub (Nat.le_refl 0) (by have:=H21.out;omega),Ht2.out⟩
    ·
     have HR3:=η hR3;have Hp3:=η hp3;have HA3:=η hA3;have Ht3:=η ht3
     clear hR3 hp3 hA3 ht3
     go_wp2_with fail
     first | refine bodyPost_ret (results_none rfl _ _ _) rfl ?_ | refine bodyPost_end (results_none rfl _ _ _) rfl ?_
     exact ⟨rfl,L3,HR3.out,Hp3.out,HA3.out,Ht3.out⟩
set_option maxRecDepth 100000 in
theorem lb_stable1 (mx:Int) (g cap n:Nat) (L:List (Ent.Ent × Value)) (w:World) (hR:SRow w g L) (hn:L.length=n) (hS:Sortable mx g w L) (hl:n≤19) (hc:n≤cap) :
  Calls Tryz.prog 131 #[.slice (some ⟨g,0,none⟩) n cap,.int .i64 (n:Int),.func (.func 72) #[] #[]] w fun e w'=>e = .returned (.tuple #[])∧∃L',SRow w' g L'∧L'.Perm L∧Asc En L' 0 n∧Turn g w w':=by
 have h20:¬(20:Int)≤(n:Int):=by omega
 have h20':¬(20:Int)<(n:Int):=by omega
 have HR:=η hR;have HS:=η hS;have Hn:=η hn;have Hc:=η hc;have Hl:=η (show n≤1000 by omega)
 clear hR hS hn hc hl
 go_enter Tryz.func131, Tryz.ntmps131
 go_wp2_with fail
 go_loopw [7,8] (fun av bv wr=>av = .int .i64 0∧bv = .int .i64 20∧w=wr) (fun _ _ _=>0)
 case atStart=>exact ⟨rfl,rfl,rfl⟩
 case round =>
  obtain ⟨rfl,rfl,rfl⟩:=hrel
  go_wp2_with (go_at_call 177; refine (lb_ins0 mx g cap n n L _ HR.out Hn.out HS.out (Nat.le_refl n) Hl.out Hc.out (n:Int) rfl).mono ?_;rintro e w1 ⟨rfl,L1,hR1,hM1,hA1,hT1⟩;have HR1:=η hR1;have HM1:=η hM1;have HA1:=η hA1;have HT1:=η hT1;clear hR1 hM1 hA1 hT1)
  go_loopw [6] (fun bv wr=>bv = .int .i64 20∧w1=wr) (fun _ _=>0)
  case atStart=>exact ⟨rfl,rfl⟩
  case round =>
   obtain ⟨rfl,rfl⟩:=hrel
   go_wp2_with fail
   first | refine bodyPost_ret (results_none rfl _ _ _) rfl ?_ | refine bodyPost_end (results_none rfl _ _ _) rfl ?_
   exact ⟨rfl,L1,HR1.out,HM1.out.perm,HA1.out,HT1.out⟩
theorem lb_sort2 (mx:Int) (g cap n:Nat) (es:List (Ent.Ent × Value)) (w:World) (hR:SRow w g es) (hn:es.length=n) (hS:Sortable mx g w es) (hnd:(es.map (·.1.key)).Nodup) (hl:n≤39) (hc:n≤cap) :
  Calls Tryz.prog 71 #[.slice (some ⟨g,0,none⟩) n cap,.func (.func 72) #[] #[]] w fun e w'=>e = .returned (.tuple #[])∧SRow w' g (Lb.orderP es)∧Turn g w w':=by
 have H:=η (show Calls Tryz.prog 131 #[.slice (some ⟨g,0,none⟩) n cap,.int .i64 (n:Int),.func (.func 72) #[] #[]] w fun e w'=>e = .returned (.tuple #[])∧∃L',SRow w' g L'∧L'.Perm es∧Asc En L' 0 n∧Turn g w w' by
  by_cases h19:n≤19
  ·
   exact lb_stable1 mx g cap n es w hR hn hS h19 hc
  ·
   exact lb_stable2 mx g cap n es w hR hn hS (by omega) hl hc)
 have Hn:=η hn;have Hnd:=η hnd
 clear hR hn hS hnd hl hc
 go_enter Tryz.func71, Tryz.ntmps71
 go_wp2_with (go_at_call 131; refine H.out.mono ?_;rintro e w1 ⟨rfl,L1,hR1,hp1,hA1,hT1⟩;have HR1:=η hR1;have Hp1:=η hp1;have HA1:=η hA1;have HT1:=η hT1;clear hR1 hp1 hA1 hT1)
 first | refine bodyPost_ret (results_none rfl _ _ _) rfl ?_ | refine bodyPost_end (results_none rfl _ _ _) rfl ?_
 have he:=Mg.sorted_eq Hp1.out (by rw [Hp1.out.length_eq,Hn.out];exact HA1.out) Hnd.out
 exact ⟨rfl,by rw [←he];exact HR1.out,HT1.out⟩
end Go.Proofs.YtgnfmopcialllaaGreatDoor
set_option linter.unusedSimpArgs false
set_option linter.unusedVariables false
namespace Go.Proofs.YtgnfmopcialllaaGreatDoor
open Go.RowKit
namespace Ent
end Ent
theorem efield_info:(Tryz.prog.info? 218).map (fun i=>(i.zero,i.size,i.bytes))=some (some (.agg #[.string ⟨#[]⟩,.string ⟨#[]⟩]),2,32):=by kernel_rfl
theorem eent_info:(Tryz.prog.info? 60).map (fun i=>(i.zero,i.size,i.bytes))=some (some (.agg #[.string ⟨#[]⟩,.string ⟨#[]⟩,.slice none 0 0]),3,56):=by kernel_rfl
end Go.Proofs.YtgnfmopcialllaaGreatDoor
