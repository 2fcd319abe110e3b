/- The walks of the stable sort's parts: swapping, turning, insertion over a part of a row of entries. -/
import Derived.Test.YtgnfmopcialllaaGreatDoorTk
import Derived.Test.YtgnfmopcialllaaGreatDoorG16
set_option linter.unusedSimpArgs false
set_option linter.unusedVariables false
namespace Go.Proofs.YtgnfmopcialllaaGreatDoor
open Go.RowKit
open Mg (Is Asc En swp rot Ins)
def SliceV (p:Ent.Ent × Value):Prop:=∃q n c,p.2 = .slice q n c
theorem Sortable.perm {m:Int} {g:Nat} {w:World} {L C:List (Ent.Ent × Value)} (h:Sortable m g w L) (hp:C.Perm L):Sortable m g w C:=⟨fun p hm=>h.fld p (hp.mem_iff.1 hm),fun p hm=>h.ok p (hp.mem_iff.1 hm),h.m0,h.h0,h.g0⟩
theorem Sortable.form {m:Int} {g:Nat} {w:World} {L:List (Ent.Ent × Value)} (h:Sortable m g w L):∀p ∈ L,SliceV p:=fun p hp=>by
 obtain ⟨q,n,c,e⟩:=SliceIn.shape (h.fld p hp)
 exact ⟨q,n,c,e⟩
theorem Turn.refl (g:Nat) (w:World):Turn g w w:=⟨rfl,rfl,rfl,Nat.le_refl _,fun _ _ _=>rfl⟩
theorem Turn.trans {g:Nat} {a b c:World} (h:Turn g a b) (k:Turn g b c):Turn g a c:=grown_trans h k
set_option maxRecDepth 100000 in
set_option maxHeartbeats 3200000 in
theorem lb_swapR (g cap n a b k:Nat) (f:Value) (L:List (Ent.Ent × Value)) (w:World) (hR:SRow w g L) (hn:L.length=n) (hV:∀p ∈ L,SliceV p) (hab:a+k≤b) (hbn:b+k≤n) (hl:n≤1000) (hc:n≤cap) :
  Calls Tryz.prog 242 #[.slice (some ⟨g,0,none⟩) n cap,.int .i64 (a:Int),.int .i64 (b:Int),.int .i64 (k:Int),f] w fun e w'=>e = .returned (.tuple #[])∧∃L',SRow w' g L'∧Is (swp a b k) L L'∧L'.Perm L∧Turn g w w':=by
 have HR:=η hR;have HV:=η hV;have Hn:=η hn;have Hab:=η hab;have Hbn:=η hbn;have Hl:=η hl;have Hc:=η hc
 clear hR hV hn hab hbn hl hc
 go_enter Tryz.func242, Tryz.ntmps242
 go_wp2_with fail
 go_loopw [10] (fun iv wr=>∃(i:Nat) (C:List (Ent.Ent × Value)),i≤k∧iv = .int .i64 (i:Int)∧SRow wr g C∧Is (swp a b i) L C∧C.Perm L∧Turn g w wr) (fun iv _=>k - (intOf iv).toNat)
 case atStart=>exact ⟨0,L,Nat.zero_le _,rfl,HR.out,Mg.swp_zero _ _ _,.refl _,Turn.refl _ _⟩
 case round =>
  obtain ⟨i,C,hik,rfl,hSr,hIs,hp,ht⟩:=hrel
  have hCl:C.length=n:=hp.length_eq.trans Hn.out
  by_cases hlt:i<k
  ·
   obtain ⟨ia,hia⟩:∃ia,a+i=ia:=⟨_,rfl⟩
   obtain ⟨ib,hib⟩:∃ib,b+i=ib:=⟨_,rfl⟩
   obtain ⟨i1,hi1⟩:∃i1,i1=i+1:=⟨_,rfl⟩
   have hlt':(i:Int)<(k:Int):=by omega
   have hian:(ia:Int)<(n:Int):=by have:=Hab.out;have:=Hbn.out;omega
   have hibn:(ib:Int)<(n:Int):=by have:=Hbn.out;omega
   have hV:∀p ∈ C,SliceV p:=fun p hm=>HV.out p (hp.mem_iff.1 hm)
   obtain ⟨⟨xe,vx⟩,hxc⟩:∃x,C[ia]? = some x:=⟨_,List.getElem?_eq_getElem (by omega)⟩
   obtain ⟨px,nx,cx,hvx⟩:=hV (xe,vx) (List.mem_of_getElem? hxc)
   have hvx:vx=_:=hvx
   subst hvx
   obtain ⟨⟨ye,vy⟩,hyc⟩:∃x,C[ib]? = some x:=⟨_,List.getElem?_eq_getElem (by omega)⟩
   obtain ⟨py,ny,cy,hvy⟩:=hV (ye,vy) (List.mem_of_getElem? hyc)
   have hvy:vy=_:=hvy
   subst hvy
   have hwa:IntKind.i64.wrap ((a:Int)+(i:Int))=(ia:Int):=by rw [IntWalk.i64_in _ (by have:=Hl.out;omega)];omega
   have hwb:IntKind.i64.wrap ((b:Int)+(i:Int))=(ib:Int):=by rw [IntWalk.i64_in _ (by have:=Hl.out;omega)];omega
   have hwi:IntKind.i64.wrap ((i:Int)+1)=(i1:Int):=by rw [IntWalk.i64_in _ (by have:=Hl.out;have:=Hbn.out;omega)];omega
   have HNe:=η (show ia≠ib by have:=Hab.out;omega)
   have HXc:=η hxc;have HYc:=η hyc;have HSr:=η hSr;have Ht:=η ht;have HCl:=η hCl;have Hik:=η (show i1≤k∧k - i1<k - i by omega);have Hi1:=η hi1
   have HIs:=η (show Is (swp a b i1) L ((C.set ia (ye,.slice py ny cy)).set ib (xe,.slice px nx cx)) by rw [hi1,←hia,←hib];exact Mg.swp_step hIs hlt Hab.out (by rw [hia];exact hxc) (by rw [hib];exact hyc))
   have Hp:=η ((Mg.swap_perm hxc hyc).trans hp)
   clear hik hSr hIs hp ht hCl hlt hia hib hi1 hV hxc hyc
   go_upto_region 3 with fail
   refine wp_region_any (by kernel_rfl) ?_
   change wpAny _ _ _ _ _ _ _ (World.drew _)
   have HSd:=η (HSr.out.below (Below.refl _ _).drew);have Htd:=η (Ht.out.below (Below.refl _ _).drew)
   have HXd:=η (HSd.out.cell ia _ HXc.out);have HYd:=η (HSd.out.cell ib _ HYc.out)
   have hIl:ia<C.length:=by rw [HCl.out];omega
   clear HSr Ht
   generalize World.drew _=wd2 at *
   have hS0:(fun W:World=>True) wd2:=trivial
   dsimp only at hS0
   refine wpAny_of_held (S:=fun W=>True) _ _ _ _ ?_
   refine tk 0 (.slice (some ⟨g,0,none⟩) n cap) rfl (hy:=fun W hW=>by go_simp) (h:=?_)
   refine tk 1 (.int .i64 (a:Int)) rfl (hy:=fun W hW=>by go_simp) (h:=?_)
   refine tk 2 (.int .i64 (i:Int)) rfl (hy:=fun W hW=>by go_simp) (h:=?_)
   refine tk 3 (.int .i64 (ia:Int)) rfl (hy:=fun W hW=>by go_simp) (h:=?_)
   refine tk 4 (.slice (some ⟨g,0,none⟩) n cap) rfl (hy:=fun W hW=>by go_simp) (h:=?_)
   refine tk 5 (.int .i64 (b:Int)) rfl (hy:=fun W hW=>by go_simp) (h:=?_)
   refine tk 6 (.int .i64 (i:Int)) rfl (hy:=fun W hW=>by go_simp) (h:=?_)
   refine tk 7 (.int .i64 (ib:Int)) rfl (hy:=fun W hW=>by go_simp) (h:=?_)
   refine tk 8 (.slice (some ⟨g,0,none⟩) n cap) rfl (hy:=fun W hW=>by go_simp) (h:=?_)
   refine tk 9 (.int .i64 (b:Int)) rfl (hy:=fun W hW=>by go_simp) (h:=?_)
   refine tk 10 (.int .i64 (i:Int)) rfl (hy:=fun W hW=>by go_simp) (h:=?_)
   refine tk 11 (.int .i64 (ib:Int)) rfl (hy:=fun W hW=>by go_simp) (h:=?_)
   refine tk 12 (.pointer (some ⟨g,ib*3,none⟩)) rfl (hy:=fun W hW=>by go_simp) (h:=?_)
   refine tk 14 (.slice (some ⟨g,0,none⟩) n cap) rfl (hy:=fun W hW=>by go_simp) (h:=?_)
   refine tk 15 (.int .i64 (a:Int)) rfl (hy:=fun W hW=>by go_simp) (h:=?_)
   refine tk 16 (.int .i64 (i:Int)) rfl (hy:=fun W hW=>by go_simp) (h:=?_)
   refine tk 17 (.int .i64 (ia:Int)) rfl (hy:=fun W hW=>by go_simp) (h:=?_)
   refine tk 18 (.pointer (some ⟨g,ia*3,none⟩)) rfl (hy:=fun W hW=>by go_simp) (h:=?_)
   try simp only [Act.put,π1,π2,π3,π4,π5,π6]
   refine wpAnyH_ready (rs:=[13,19]) (by kernel_rfl) (by simp) ?_
   refine AllReadyH.cons rfl (fun K hK=>?_) (AllReadyH.cons rfl (fun K hK=>?_) AllReadyH.nil)
   ·
    have c:=HYd.out.1;have c1:=HYd.out.2.1;have c2:=HYd.out.2.2
    go_simp
    refine hK.out _ _ trivial (fun _=>?_)
    clear K hK c c1 c2
    try simp only [Act.put,π1,π2,π3,π4,π5,π6]
    refine tr 19 rfl (h:=fun K hK=>?_)
    have c:=HXd.out.1;have c1:=HXd.out.2.1;have c2:=HXd.out.2.2
    go_simp
    refine hK.out _ _ trivial (fun _=>?_)
    clear K hK c c1 c2
    refine tk 20 (.pointer (some ⟨g,ia*3,none⟩)) rfl (hy:=fun W hW=>by go_simp) (h:=?_)
    try simp only [Act.put,π1,π2,π3,π4,π5,π6]
    refine tr 21 rfl (h:=fun K hK=>?_)
    have r0:=HSd.out.free (ia*3);have r1:=HSd.out.free (ia*3+1);have r2:=HSd.out.free (ia*3+2);have x0:=HXd.out.1;have x1:=HXd.out.2.1;have x2:=HXd.out.2.2
    go_simp
    have hR1:=HSd.out.put hIl ye (.slice py ny cy)
    refine hK.out _ _ trivial (fun _=>?_)
    clear K hK r0 r1 r2 x0 x1 x2
    refine tk 22 (.pointer (some ⟨g,ib*3,none⟩)) rfl (hy:=fun W hW=>by go_simp) (h:=?_)
    try simp only [Act.put,π1,π2,π3,π4,π5,π6]
    refine tr 23 rfl (h:=fun K hK=>?_)
    have hyy:=hR1.cell ib (ye,.slice py ny cy) (by rw [List.getElem?_set_ne HNe.out];exact HYc.out)
    have r0:=hR1.free (ib*3);have r1:=hR1.free (ib*3+1);have r2:=hR1.free (ib*3+2);have x0:=hyy.1;have x1:=hyy.2.1;have x2:=hyy.2.2
    go_simp
    have hR2:=hR1.put (k:=ib) (by rw [List.length_set,HCl.out];omega) xe (.slice px nx cx)
    refine hK.out _ _ trivial (fun _=>?_)
    clear K hK r0 r1 r2 x0 x1 x2
    try simp only [Act.put,π1,π2,π3,π4,π5,π6]
    refine wpAnyH_done (by kernel_rfl) ?_ _
    go_wp2_with fail
    go_roundw
    case rel=>exact ⟨i1,_,Hik.out.1,rfl,hR2,HIs.out,Hp.out,((((((Htd.out.set _ _).set _ _).set _ _).set _ _).set _ _).set _ _)⟩
    case measure=>have:=Hik.out.2;simp [intOf];omega
   ·
    have c:=HXd.out.1;have c1:=HXd.out.2.1;have c2:=HXd.out.2.2
    go_simp
    refine hK.out _ _ trivial (fun _=>?_)
    clear K hK c c1 c2
    try simp only [Act.put,π1,π2,π3,π4,π5,π6]
    refine tr 13 rfl (h:=fun K hK=>?_)
    have c:=HYd.out.1;have c1:=HYd.out.2.1;have c2:=HYd.out.2.2
    go_simp
    refine hK.out _ _ trivial (fun _=>?_)
    clear K hK c c1 c2
    refine tk 20 (.pointer (some ⟨g,ia*3,none⟩)) rfl (hy:=fun W hW=>by go_simp) (h:=?_)
    try simp only [Act.put,π1,π2,π3,π4,π5,π6]
    refine tr 21 rfl (h:=fun K hK=>?_)
    have r0:=HSd.out.free (ia*3);have r1:=HSd.out.free (ia*3+1);have r2:=HSd.out.free (ia*3+2);have x0:=HXd.out.1;have x1:=HXd.out.2.1;have x2:=HXd.out.2.2
    go_simp
    have hR1:=HSd.out.put hIl ye (.slice py ny cy)
    refine hK.out _ _ trivial (fun _=>?_)
    clear K hK r0 r1 r2 x0 x1 x2
    refine tk 22 (.pointer (some ⟨g,ib*3,none⟩)) rfl (hy:=fun W hW=>by go_simp) (h:=?_)
    try simp only [Act.put,π1,π2,π3,π4,π5,π6]
    refine tr 23 rfl (h:=fun K hK=>?_)
    have hyy:=hR1.cell ib (ye,.slice py ny cy) (by rw [List.getElem?_set_ne HNe.out];exact HYc.out)
    have r0:=hR1.free (ib*3);have r1:=hR1.free (ib*3+1);have r2:=hR1.free (ib*3+2);have x0:=hyy.1;have x1:=hyy.2.1;have x2:=hyy.2.2
    go_simp
    have hR2:=hR1.put (k:=ib) (by rw [List.length_set,HCl.out];omega) xe (.slice px nx cx)
    refine hK.out _ _ trivial (fun _=>?_)
    clear K hK r0 r1 r2 x0 x1 x2
    try simp only [Act.put,π1,π2,π3,π4,π5,π6]
    refine wpAnyH_done (by kernel_rfl) ?_ _
    go_wp2_with fail
    go_roundw
    case rel=>exact ⟨i1,_,Hik.out.1,rfl,hR2,HIs.out,Hp.out,((((((Htd.out.set _ _).set _ _).set _ _).set _ _).set _ _).set _ _)⟩
    case measure=>have:=Hik.out.2;simp [intOf];omega
  ·
   have he:i=k:=by omega
   subst he
   have hlt':¬(i:Int)<(i:Int):=by omega
   have HSr:=η hSr;have HIs:=η hIs;have Hp:=η hp;have Ht:=η ht
   clear hSr hIs hp ht hlt hik hCl
   go_wp2_with fail
   first | refine bodyPost_ret (results_none rfl _ _ _) rfl ?_ | refine bodyPost_end (results_none rfl _ _ _) rfl ?_
   exact ⟨rfl,C,HSr.out,HIs.out,Hp.out,Ht.out⟩
set_option maxRecDepth 100000 in
set_option maxHeartbeats 3200000 in
theorem lb_rotate (g cap n a m b:Nat) (f:Value) (L:List (Ent.Ent × Value)) (w:World) (hR:SRow w g L) (hn:L.length=n) (hV:∀p ∈ L,SliceV p) (ham:a<m) (hmb:m<b) (hbn:b≤n) (hl:n≤1000) (hc:n≤cap) :
  Calls Tryz.prog 216 #[.slice (some ⟨g,0,none⟩) n cap,.int .i64 (a:Int),.int .i64 (m:Int),.int .i64 (b:Int),f] w fun e w'=>e = .returned (.tuple #[])∧∃L',SRow w' g L'∧Is (rot a m b) L L'∧L'.Perm L∧Turn g w w':=by
 obtain ⟨i0,hi0⟩:∃i0,i0=m - a:=⟨_,rfl⟩
 obtain ⟨j0,hj0⟩:∃j0,j0=b - m:=⟨_,rfl⟩
 have hw1:IntKind.i64.wrap ((m:Int) - (a:Int))=(i0:Int):=by rw [IntWalk.i64_in _ (by omega)];omega
 have hw2:IntKind.i64.wrap ((b:Int) - (m:Int))=(j0:Int):=by rw [IntWalk.i64_in _ (by omega)];omega
 have HR:=η hR;have HV:=η hV;have Hn:=η hn;have Ham:=η ham;have Hmb:=η hmb;have Hbn:=η hbn;have Hl:=η hl;have Hc:=η hc;have Hi0:=η hi0;have Hj0:=η hj0
 clear hR hV hn ham hmb hbn hl hc hi0 hj0
 go_enter Tryz.func216, Tryz.ntmps216
 go_wp2_with fail
 go_loopw [10,11] (fun iv jv wr=>∃(i j:Nat) (C:List (Ent.Ent × Value)),(0<i∧0<j∧i≤i0∧j≤j0)∧iv = .int .i64 (i:Int)∧jv = .int .i64 (j:Int)∧SRow wr g C∧Mg.Left a m b i j L C∧C.Perm L∧Turn g w wr) (fun iv jv _=>(intOf iv).toNat+(intOf jv).toNat)
 case atStart=>exact ⟨i0,j0,L,by have:=Ham.out;have:=Hmb.out;have:=Hi0.out;have:=Hj0.out;omega,rfl,rfl,HR.out,by rw [Hi0.out,Hj0.out];exact Mg.left_start L (Nat.le_of_lt Ham.out) (Nat.le_of_lt Hmb.out),.refl _,Turn.refl _ _⟩
 case round =>
  clear hw1 hw2
  obtain ⟨i,j,C,hij,rfl,rfl,hSr,hLf,hp,ht⟩:=hrel
  have hV:∀p ∈ C,SliceV p:=fun p hm=>HV.out p (hp.mem_iff.1 hm)
  have hCl:C.length=n:=hp.length_eq.trans Hn.out
  have hb1:i≤m∧m+j≤n∧i≤1000∧j≤1000:=by have:=Ham.out;have:=Hmb.out;have:=Hi0.out;have:=Hj0.out;have:=Hbn.out;have:=Hl.out;omega
  obtain ⟨lo,hlo⟩:∃lo,lo=m - i:=⟨_,rfl⟩
  have hwl:IntKind.i64.wrap ((m:Int) - (i:Int))=(lo:Int):=by rw [IntWalk.i64_in _ (by have:=Hl.out;omega)];omega
  have HSr:=η hSr;have HLf:=η hLf;have Hp:=η hp;have Ht:=η ht;have HVC:=η hV;have HCl:=η hCl;have Hij:=η hij;have Hb1:=η hb1;have Hlo:=η hlo
  clear hSr hLf hp ht hV hCl hlo
  by_cases heq:i=j
  ·
   subst heq
   have heq':(i:Int)=(i:Int):=rfl
   clear hij hb1 heq'
   go_wp2_with (go_at_call 242; refine (lb_swapR g cap n lo m i _ C _ HSr.out HCl.out HVC.out (by have:=Hlo.out;have:=Hb1.out;omega) (by have:=Hb1.out;omega) Hl.out Hc.out).mono ?_;rintro e w5 ⟨rfl,C5,hR5,hI5,hp5,ht5⟩;have HR5:=η hR5;have HI5:=η hI5;have Hp5:=η hp5;have Ht5:=η ht5;clear hR5 hI5 hp5 ht5)
   first | refine bodyPost_ret (results_none rfl _ _ _) rfl ?_ | refine bodyPost_end (results_none rfl _ _ _) rfl ?_
   exact ⟨rfl,C5,HR5.out,Mg.left_eq HLf.out Hb1.out.1 Hij.out.1 (by rw [←Hlo.out];exact HI5.out),Hp5.out.trans Hp.out,Ht.out.trans Ht5.out⟩
  ·
   have hne:¬(i:Int)=(j:Int):=by omega
   by_cases hgt:j<i
   ·
    have hgt':(j:Int)<(i:Int):=by omega
    obtain ⟨i2,hi2⟩:∃i2,i2=i - j:=⟨_,rfl⟩
    have hw3:IntKind.i64.wrap ((i:Int) - (j:Int))=(i2:Int):=by rw [IntWalk.i64_in _ (by omega)];omega
    have Hgt:=η hgt;have Hi2:=η hi2
    clear hij hb1 heq hgt hi2
    go_wp2_with (go_at_call 242; refine (lb_swapR g cap n lo m j _ C _ HSr.out HCl.out HVC.out (by have:=Hlo.out;have:=Hb1.out;have:=Hgt.out;omega) (by have:=Hb1.out;omega) Hl.out Hc.out).mono ?_;rintro e w5 ⟨rfl,C5,hR5,hI5,hp5,ht5⟩;have HR5:=η hR5;have HI5:=η hI5;have Hp5:=η hp5;have Ht5:=η ht5;clear hR5 hI5 hp5 ht5)
    go_roundw
    case rel=>exact ⟨i2,j,C5,by have:=Hij.out;have:=Hgt.out;have:=Hi2.out;omega,rfl,rfl,HR5.out,by rw [Hi2.out];exact Mg.left_gt HLf.out Hb1.out.1 Hgt.out Hij.out.2.1 (by rw [←Hlo.out];exact HI5.out),Hp5.out.trans Hp.out,Ht.out.trans Ht5.out⟩
    case measure=>have:=Hij.out;have:=Hgt.out;have:=Hi2.out;simp [intOf];omega
   ·
    have hgt':¬(j:Int)<(i:Int):=by omega
    obtain ⟨j2,hj2⟩:∃j2,j2=j - i:=⟨_,rfl⟩
    obtain ⟨hi,hhi⟩:∃hi,hi=m+j:=⟨_,rfl⟩
    obtain ⟨hj,hhj⟩:∃hj,hj=m+j - i:=⟨_,rfl⟩
    have hw3:IntKind.i64.wrap ((j:Int) - (i:Int))=(j2:Int):=by rw [IntWalk.i64_in _ (by omega)];omega
    have hw4:IntKind.i64.wrap ((m:Int)+(j:Int))=(hi:Int):=by rw [IntWalk.i64_in _ (by have:=Hl.out;omega)];omega
    have hw5:IntKind.i64.wrap ((hi:Int) - (i:Int))=(hj:Int):=by rw [IntWalk.i64_in _ (by have:=Hl.out;omega)];omega
    have Hgt:=η (show i<j by omega);have Hj2:=η hj2;have Hhj:=η hhj
    clear hij hb1 heq hgt hj2 hhi hhj
    go_wp2_with (go_at_call 242; refine (lb_swapR g cap n lo hj i _ C _ HSr.out HCl.out HVC.out (by have:=Hlo.out;have:=Hb1.out;have:=Hgt.out;have:=Hhj.out;omega) (by have:=Hb1.out;have:=Hhj.out;omega) Hl.out Hc.out).mono ?_;rintro e w5 ⟨rfl,C5,hR5,hI5,hp5,ht5⟩;have HR5:=η hR5;have HI5:=η hI5;have Hp5:=η hp5;have Ht5:=η ht5;clear hR5 hI5 hp5 ht5)
    go_roundw
    case rel=>exact ⟨i,j2,C5,by have:=Hij.out;have:=Hgt.out;have:=Hj2.out;omega,rfl,rfl,HR5.out,by rw [Hj2.out];exact Mg.left_lt HLf.out Hb1.out.1 Hgt.out Hij.out.1 (by rw [←Hlo.out,←Hhj.out];exact HI5.out),Hp5.out.trans Hp.out,Ht.out.trans Ht5.out⟩
    case measure=>have:=Hij.out;have:=Hgt.out;have:=Hj2.out;simp [intOf];omega
set_option maxRecDepth 100000 in
set_option maxHeartbeats 6400000 in
theorem lb_ins (m:Int) (g cap n a b:Nat) (L:List (Ent.Ent × Value)) (w:World) (hR:SRow w g L) (hn:L.length=n) (hS:Sortable m g w L) (hab:a≤b) (hbn:b≤n) (hl:n≤1000) (hc:n≤cap) :
  Calls Tryz.prog 177 #[.slice (some ⟨g,0,none⟩) n cap,.int .i64 (a:Int),.int .i64 (b:Int),.func (.func 72) #[] #[]] w fun e w'=>e = .returned (.tuple #[])∧∃L',SRow w' g L'∧Mg.Mv a b L L'∧Asc En L' a b∧Turn g w w':=by
 obtain ⟨a1,ha1⟩:∃a1,a1=a+1:=⟨_,rfl⟩
 have hw1:IntKind.i64.wrap ((a:Int)+1)=(a1:Int):=by rw [IntWalk.i64_in _ (by omega)];omega
 have HR:=η hR;have HS:=η hS;have Hn:=η hn;have Hab:=η hab;have Hbn:=η hbn;have Hl:=η hl;have Hc:=η hc;have Ha1:=η ha1
 clear hR hS hn hab hbn hl hc ha1
 go_enter Tryz.func177, Tryz.ntmps177
 go_wp2_with fail
 go_loopw [8,9] (fun iv _ wr=>∃(i:Nat) (C:List (Ent.Ent × Value)),(a1≤i∧(i≤b∨i=a1))∧iv = .int .i64 (i:Int)∧SRow wr g C∧Mg.Mv a b L C∧Asc En C a i∧Turn g w wr) (fun iv _ _=>b - (intOf iv).toNat)
 case atStart=>exact ⟨a1,L,⟨Nat.le_refl _,.inr rfl⟩,rfl,HR.out,Mg.Mv.refl _ _ _,fun p q h1 h2 h3=>by have:=Ha1.out;omega,Turn.refl _ _⟩
 case round =>
  clear hw1
  obtain ⟨i,C0,hi,rfl,hSr0,hMv0,hAsc0,ht0⟩:=hrel
  have HSr0:=η hSr0;have HMv0:=η hMv0;have HAsc0:=η hAsc0;have Ht0:=η ht0;have Hi:=η hi
  clear hSr0 hMv0 hAsc0 ht0
  by_cases hlt:i<b
  ·
   have hlt':(i:Int)<(b:Int):=by omega
   obtain ⟨i1,hi1⟩:∃i1,i1=i+1:=⟨_,rfl⟩
   have hwi:IntKind.i64.wrap ((i:Int)+1)=(i1:Int):=by rw [IntWalk.i64_in _ (by have:=Hl.out;have:=Hbn.out;omega)];omega
   have Hlt:=η hlt;have Hi1:=η hi1
   clear hlt hi1 hi
   go_wp2_with fail
   go_loopw [9] (fun jv wq=>∃(j:Nat) (C:List (Ent.Ent × Value)),(a≤j∧j≤i)∧jv = .int .i64 (j:Int)∧SRow wq g C∧Mg.Mv a b L C∧Ins En C a i j∧Turn g w wq) (fun jv _=>(intOf jv).toNat)
   case atStart=>exact ⟨i,C0,by have:=Hi.out;have:=Ha1.out;omega,rfl,HSr0.out,HMv0.out,Mg.ins_start HAsc0.out,Ht0.out⟩
   case round =>
    clear HSr0 HMv0 HAsc0 Ht0
    obtain ⟨j,C,hj,rfl,hSr,hMv,hIns,ht⟩:=hrel
    have HCl:=η (hMv.len.trans Hn.out)
    have HSo:=η (HS.out.perm hMv.perm)
    have HSr:=η hSr;have HMv:=η hMv;have HIns:=η hIns;have Ht:=η ht;have Hj:=η hj
    clear hSr hMv hIns ht
    by_cases hz:j=a
    ·
     have hj0:¬(a:Int)<(j:Int):=by omega
     have HAsc:=η (show Asc En C a i1 by rw [Hi1.out];exact Mg.ins_end En.tr HIns.out (by have:=HCl.out;have:=Hlt.out;have:=Hbn.out;omega) hj.1 hj.2 (fun h=>absurd h (by omega)))
     clear hz hj
     go_upto_region 4 with fail
     refine wp_region_any (by kernel_rfl) ?_
     change wpAny _ _ _ _ _ _ _ (World.drew _)
     have hS0:(fun W:World=>True) wr.drew:=trivial
     dsimp only at hS0
     have HSd:=η (HSr.out.below (Below.refl _ _).drew);have Htd:=η (Ht.out.below (Below.refl _ _).drew)
     clear HSr Ht
     generalize wr.drew=wd at *
     refine wpAny_of_held (S:=fun W=>True) _ _ _ _ ?_
     refine tk 0 (.int .i64 (j:Int)) rfl (h:=?_)
     refine tk 1 (.int .i64 (a:Int)) rfl (h:=?_)
     refine tk 2 (.bool false) rfl (hy:=fun W hW=>by go_simp) (h:=?_)
     refine tk 3 (.bool false) rfl (h:=?_)
     refine ts 4 rfl (h:=?_)
     refine ts 5 rfl (h:=?_)
     refine ts 6 rfl (h:=?_)
     refine ts 7 rfl (h:=?_)
     refine ts 8 rfl (h:=?_)
     refine ts 9 rfl (h:=?_)
     refine ts 10 rfl (h:=?_)
     refine ts 11 rfl (h:=?_)
     refine ts 12 rfl (h:=?_)
     refine ts 13 rfl (h:=?_)
     refine ts 14 rfl (h:=?_)
     refine ts 15 rfl (h:=?_)
     refine tk 16 (.bool false) rfl (hy:=fun W hW=>by go_simp) (h:=?_)
     try simp only [Act.put,π1,π2,π3,π4,π5,π6]
     refine wpAnyH_done (by kernel_rfl) ?_ _
     go_wp2_with fail
     go_roundw
     case rel=>exact ⟨i1,C,by have:=Hi1.out;have:=Hlt.out;have:=Hi.out;omega,rfl,HSd.out,HMv.out,HAsc.out,Htd.out⟩
     case measure=>have:=Hlt.out;have:=Hi1.out;simp [intOf];omega
    ·
     obtain ⟨j0,hj0⟩:∃j0,j0+1=j:=⟨j - 1,by omega⟩
     have hjp:(a:Int)<(j:Int):=by omega
     have hjn:(j:Int)<(n:Int):=by have:=Hlt.out;have:=Hbn.out;omega
     have hj0n:(j0:Int)<(n:Int):=by omega
     have hjm:IntKind.i64.wrap ((j:Int) - 1)=(j0:Int):=by rw [IntWalk.i64_in _ (by have:=Hl.out;omega)];omega
     have hV:=HSo.out.form
     have hCl:=HCl.out
     obtain ⟨⟨xe,vx⟩,hxc⟩:∃x,C[j]? = some x:=⟨_,List.getElem?_eq_getElem (by omega)⟩
     obtain ⟨px,nx,cx,hvx⟩:=hV (xe,vx) (List.mem_of_getElem? hxc)
     have hvx:vx=_:=hvx
     subst hvx
     obtain ⟨⟨ye,vy⟩,hyc⟩:∃x,C[j0]? = some x:=⟨_,List.getElem?_eq_getElem (by omega)⟩
     obtain ⟨py,ny,cy,hvy⟩:=hV (ye,vy) (List.mem_of_getElem? hyc)
     have hvy:vy=_:=hvy
     subst hvy
     have HXc:=η hxc;have HYc:=η hyc;have HNe:=η (show j≠j0 by omega)
     have HJ:=η (show a≤j0∧j0≤i∧j0<j∧j0+1=j∧j≤i by omega)
     clear hz hj hj0 hV hxc hyc hCl
     by_cases hneg:Lb.cmp xe ye<0
     ·
      have Hneg:=η hneg
      go_upto_region 4 with fail
      refine wp_region_any (by kernel_rfl) ?_
      change wpAny _ _ _ _ _ _ _ (World.drew _)
      have HSd:=η (HSr.out.below (Below.refl _ _).drew);have Htd:=η (Ht.out.below (Below.refl _ _).drew)
      have hSd:=HSo.out.turn Htd.out
      have HFx:=η (hSd.fld (xe,.slice px nx cx) (List.mem_of_getElem? HXc.out));have HFy:=η (hSd.fld (ye,.slice py ny cy) (List.mem_of_getElem? HYc.out));have HBx:=η (hSd.ok (xe,.slice px nx cx) (List.mem_of_getElem? HXc.out));have HBy:=η (hSd.ok (ye,.slice py ny cy) (List.mem_of_getElem? HYc.out))
      have HMd:=η (And.intro hSd.m0 hSd.h0)
      have HXd:=η (HSd.out.cell j _ HXc.out);have HYd:=η (HSd.out.cell j0 _ HYc.out);have Hgd:=η HSd.out.lt
      clear HSr Ht hSd
      generalize World.drew _=wd at *
      have hS0:=Below.refl wd.heap.size wd
      refine wpAny_of_held (S:=fun W=>Below wd.heap.size wd W) _ _ _ _ ?_
      refine tk 0 (.int .i64 (j:Int)) rfl (h:=?_)
      refine tk 1 (.int .i64 (a:Int)) rfl (h:=?_)
      refine tk 2 (.bool true) rfl (hy:=fun W hW=>by go_simp) (h:=?_)
      refine tk 3 (.bool true) rfl (h:=?_)
      refine tk 4 (.func (.func 72) #[] #[]) rfl (h:=?_)
      refine tk 5 (.slice (some ⟨g,0,none⟩) n cap) rfl (h:=?_)
      refine tk 6 (.int .i64 (j:Int)) rfl (h:=?_)
      refine tk 7 (.pointer (some ⟨g,j*3,none⟩)) rfl (hy:=fun W hW=>by go_simp) (h:=?_)
      refine tk 8 (.agg #[.string ⟨xe.kind.toArray⟩,.string ⟨xe.key.toArray⟩,.slice px nx cx]) rfl (hy:=fun W hW=>by (have c:=Below.cell hW (p:=⟨g,j*3,none⟩) Hgd.out;have c1:=Below.cell hW (p:=⟨g,j*3+1,none⟩) Hgd.out;have c2:=Below.cell hW (p:=⟨g,j*3+2,none⟩) Hgd.out;rw [HXd.out.1] at c;rw [HXd.out.2.1] at c1;rw [HXd.out.2.2] at c2;go_simp)) (h:=?_)
      refine tk 9 (.slice (some ⟨g,0,none⟩) n cap) rfl (h:=?_)
      refine tk 10 (.int .i64 (j:Int)) rfl (h:=?_)
      refine tk 11 (.int .i64 (j0:Int)) rfl (hy:=fun W hW=>by go_simp) (h:=?_)
      refine tk 12 (.pointer (some ⟨g,j0*3,none⟩)) rfl (hy:=fun W hW=>by go_simp) (h:=?_)
      refine tk 13 (.agg #[.string ⟨ye.kind.toArray⟩,.string ⟨ye.key.toArray⟩,.slice py ny cy]) rfl (hy:=fun W hW=>by (have c:=Below.cell hW (p:=⟨g,j0*3,none⟩) Hgd.out;have c1:=Below.cell hW (p:=⟨g,j0*3+1,none⟩) Hgd.out;have c2:=Below.cell hW (p:=⟨g,j0*3+2,none⟩) Hgd.out;rw [HYd.out.1] at c;rw [HYd.out.2.1] at c1;rw [HYd.out.2.2] at c2;go_simp)) (h:=?_)
      try simp only [Act.put,π1,π2,π3,π4,π5,π6]
      refine tr 14 rfl (h:=fun K hK=>?_)
      go_simp
      go_wp2_with (go_at_call 72; refine (lb_cmp xe ye _ _ m _ _ _ HFx.out HFy.out HBx.out HBy.out HMd.out.1 HMd.out.2).mono ?_;rintro e w5 ⟨rfl,hb5⟩;have Hb5:=η hb5;clear hb5)
      refine hK.out _ _ (Hb5.out) (fun _=>?_)
      clear K hK
      refine tk 15 (.bool true) rfl (hy:=fun W hW=>by go_simp) (h:=?_)
      refine tk 16 (.bool true) rfl (hy:=fun W hW=>by go_simp) (h:=?_)
      try simp only [Act.put,π1,π2,π3,π4,π5,π6]
      refine wpAnyH_done (by kernel_rfl) ?_ _
      have HSr:=η (HSd.out.below Hb5.out);have Ht:=η (Htd.out.below Hb5.out)
      clear HSd Htd HFx HFy HBx HBy HMd HXd HYd Hgd hS0 Hb5
      go_upto_region 6 with fail
      refine wp_region_any (by kernel_rfl) ?_
      change wpAny _ _ _ _ _ _ _ (World.drew _)
      have HSd:=η (HSr.out.below (Below.refl _ _).drew);have Htd:=η (Ht.out.below (Below.refl _ _).drew)
      have HXd:=η (HSd.out.cell j _ HXc.out);have HYd:=η (HSd.out.cell j0 _ HYc.out)
      have hIl:j<C.length:=by rw [HCl.out];omega
      clear HSr Ht
      generalize World.drew _=wd2 at *
      have hS0:(fun W:World=>True) wd2:=trivial
      dsimp only at hS0
      refine wpAny_of_held (S:=fun W=>True) _ _ _ _ ?_
      refine tk 0 (.slice (some ⟨g,0,none⟩) n cap) rfl (hy:=fun W hW=>by go_simp) (h:=?_)
      refine tk 1 (.int .i64 (j:Int)) rfl (hy:=fun W hW=>by go_simp) (h:=?_)
      refine tk 2 (.slice (some ⟨g,0,none⟩) n cap) rfl (hy:=fun W hW=>by go_simp) (h:=?_)
      refine tk 3 (.int .i64 (j:Int)) rfl (hy:=fun W hW=>by go_simp) (h:=?_)
      refine tk 4 (.int .i64 (j0:Int)) rfl (hy:=fun W hW=>by go_simp) (h:=?_)
      refine tk 5 (.slice (some ⟨g,0,none⟩) n cap) rfl (hy:=fun W hW=>by go_simp) (h:=?_)
      refine tk 6 (.int .i64 (j:Int)) rfl (hy:=fun W hW=>by go_simp) (h:=?_)
      refine tk 7 (.int .i64 (j0:Int)) rfl (hy:=fun W hW=>by go_simp) (h:=?_)
      refine tk 8 (.pointer (some ⟨g,j0*3,none⟩)) rfl (hy:=fun W hW=>by go_simp) (h:=?_)
      refine tk 10 (.slice (some ⟨g,0,none⟩) n cap) rfl (hy:=fun W hW=>by go_simp) (h:=?_)
      refine tk 11 (.int .i64 (j:Int)) rfl (hy:=fun W hW=>by go_simp) (h:=?_)
      refine tk 12 (.pointer (some ⟨g,j*3,none⟩)) rfl (hy:=fun W hW=>by go_simp) (h:=?_)
      try simp only [Act.put,π1,π2,π3,π4,π5,π6]
      refine wpAnyH_ready (rs:=[9,13]) (by kernel_rfl) (by simp) ?_
      refine AllReadyH.cons rfl (fun K hK=>?_) (AllReadyH.cons rfl (fun K hK=>?_) AllReadyH.nil)
      ·
       have c:=HYd.out.1;have c1:=HYd.out.2.1;have c2:=HYd.out.2.2
       go_simp
       refine hK.out _ _ trivial (fun _=>?_)
       clear K hK c c1 c2
       try simp only [Act.put,π1,π2,π3,π4,π5,π6]
       refine tr 13 rfl (h:=fun K hK=>?_)
       have c:=HXd.out.1;have c1:=HXd.out.2.1;have c2:=HXd.out.2.2
       go_simp
       refine hK.out _ _ trivial (fun _=>?_)
       clear K hK c c1 c2
       refine tk 14 (.pointer (some ⟨g,j*3,none⟩)) rfl (hy:=fun W hW=>by go_simp) (h:=?_)
       try simp only [Act.put,π1,π2,π3,π4,π5,π6]
       refine tr 15 rfl (h:=fun K hK=>?_)
       have r0:=HSd.out.free (j*3);have r1:=HSd.out.free (j*3+1);have r2:=HSd.out.free (j*3+2);have x0:=HXd.out.1;have x1:=HXd.out.2.1;have x2:=HXd.out.2.2
       go_simp
       have hR1:=HSd.out.put hIl ye (.slice py ny cy)
       refine hK.out _ _ trivial (fun _=>?_)
       clear K hK r0 r1 r2 x0 x1 x2
       refine tk 16 (.pointer (some ⟨g,j0*3,none⟩)) rfl (hy:=fun W hW=>by go_simp) (h:=?_)
       try simp only [Act.put,π1,π2,π3,π4,π5,π6]
       refine tr 17 rfl (h:=fun K hK=>?_)
       have hyy:=hR1.cell j0 (ye,.slice py ny cy) (by rw [List.getElem?_set_ne HNe.out];exact HYc.out)
       have r0:=hR1.free (j0*3);have r1:=hR1.free (j0*3+1);have r2:=hR1.free (j0*3+2);have x0:=hyy.1;have x1:=hyy.2.1;have x2:=hyy.2.2
       go_simp
       have hR2:=hR1.put (k:=j0) (by rw [List.length_set,HCl.out];omega) xe (.slice px nx cx)
       refine hK.out _ _ trivial (fun _=>?_)
       clear K hK r0 r1 r2 x0 x1 x2
       try simp only [Act.put,π1,π2,π3,π4,π5,π6]
       refine wpAnyH_done (by kernel_rfl) ?_ _
       go_wp2_with fail
       go_roundw
       case rel =>
        refine ⟨j0,_,⟨HJ.out.1,HJ.out.2.1⟩,rfl,hR2,HMv.out.trans (Mg.swap_mv (by have:=HJ.out;omega) (by have:=HJ.out;have:=Hlt.out;omega) HJ.out.1 (by have:=HJ.out;have:=Hlt.out;omega) HXc.out HYc.out),?_,((((((Htd.out.set _ _).set _ _).set _ _).set _ _).set _ _).set _ _)⟩
        have hq:=HJ.out.2.2.2.1
        have hI:=HIns.out
        have hX:=HXc.out
        rw [←hq] at hI hX ⊢
        exact Mg.ins_step hI HJ.out.1 hX HYc.out (Mg.en_lt Hneg.out)
       case measure=>have:=HJ.out;simp [intOf];omega
      ·
       have c:=HXd.out.1;have c1:=HXd.out.2.1;have c2:=HXd.out.2.2
       go_simp
       refine hK.out _ _ trivial (fun _=>?_)
       clear K hK c c1 c2
       try simp only [Act.put,π1,π2,π3,π4,π5,π6]
       refine tr 9 rfl (h:=fun K hK=>?_)
       have c:=HYd.out.1;have c1:=HYd.out.2.1;have c2:=HYd.out.2.2
       go_simp
       refine hK.out _ _ trivial (fun _=>?_)
       clear K hK c c1 c2
       refine tk 14 (.pointer (some ⟨g,j*3,none⟩)) rfl (hy:=fun W hW=>by go_simp) (h:=?_)
       try simp only [Act.put,π1,π2,π3,π4,π5,π6]
       refine tr 15 rfl (h:=fun K hK=>?_)
       have r0:=HSd.out.free (j*3);have r1:=HSd.out.free (j*3+1);have r2:=HSd.out.free (j*3+2);have x0:=HXd.out.1;have x1:=HXd.out.2.1;have x2:=HXd.out.2.2
       go_simp
       have hR1:=HSd.out.put hIl ye (.slice py ny cy)
       refine hK.out _ _ trivial (fun _=>?_)
       clear K hK r0 r1 r2 x0 x1 x2
       refine tk 16 (.pointer (some ⟨g,j0*3,none⟩)) rfl (hy:=fun W hW=>by go_simp) (h:=?_)
       try simp only [Act.put,π1,π2,π3,π4,π5,π6]
       refine tr 17 rfl (h:=fun K hK=>?_)
       have hyy:=hR1.cell j0 (ye,.slice py ny cy) (by rw [List.getElem?_set_ne HNe.out];exact HYc.out)
       have r0:=hR1.free (j0*3);have r1:=hR1.free (j0*3+1);have r2:=hR1.free (j0*3+2);have x0:=hyy.1;have x1:=hyy.2.1;have x2:=hyy.2.2
       go_simp
       have hR2:=hR1.put (k:=j0) (by rw [List.length_set,HCl.out];omega) xe (.slice px nx cx)
       refine hK.out _ _ trivial (fun _=>?_)
       clear K hK r0 r1 r2 x0 x1 x2
       try simp only [Act.put,π1,π2,π3,π4,π5,π6]
       refine wpAnyH_done (by kernel_rfl) ?_ _
       go_wp2_with fail
       go_roundw
       case rel =>
        refine ⟨j0,_,⟨HJ.out.1,HJ.out.2.1⟩,rfl,hR2,HMv.out.trans (Mg.swap_mv (by have:=HJ.out;omega) (by have:=HJ.out;have:=Hlt.out;omega) HJ.out.1 (by have:=HJ.out;have:=Hlt.out;omega) HXc.out HYc.out),?_,((((((Htd.out.set _ _).set _ _).set _ _).set _ _).set _ _).set _ _)⟩
        have hq:=HJ.out.2.2.2.1
        have hI:=HIns.out
        have hX:=HXc.out
        rw [←hq] at hI hX ⊢
        exact Mg.ins_step hI HJ.out.1 hX HYc.out (Mg.en_lt Hneg.out)
       case measure=>have:=HJ.out;simp [intOf];omega
     ·
      have Hneg:=η hneg
      have hnd:decide (Lb.cmp xe ye<0)=false:=decide_eq_false hneg
      have HAsc:=η (show Asc En C a i1 by
       rw [Hi1.out]
       refine Mg.ins_end En.tr HIns.out (by have:=HCl.out;have:=Hlt.out;have:=Hbn.out;omega) (by have:=HJ.out;omega) (by have:=HJ.out;omega) (fun _=>?_)
       intro u v hu hv
       rw [show j - 1=j0 by have:=HJ.out;omega,HYc.out] at hu
       rw [HXc.out] at hv
       obtain rfl:=Option.some.inj hu
       obtain rfl:=Option.some.inj hv
       exact Mg.en_ge hneg)
      clear hneg
      go_upto_region 4 with fail
      refine wp_region_any (by kernel_rfl) ?_
      change wpAny _ _ _ _ _ _ _ (World.drew _)
      have HSd:=η (HSr.out.below (Below.refl _ _).drew);have Htd:=η (Ht.out.below (Below.refl _ _).drew)
      have hSd:=HSo.out.turn Htd.out
      have HFx:=η (hSd.fld (xe,.slice px nx cx) (List.mem_of_getElem? HXc.out));have HFy:=η (hSd.fld (ye,.slice py ny cy) (List.mem_of_getElem? HYc.out));have HBx:=η (hSd.ok (xe,.slice px nx cx) (List.mem_of_getElem? HXc.out));have HBy:=η (hSd.ok (ye,.slice py ny cy) (List.mem_of_getElem? HYc.out))
      have HMd:=η (And.intro hSd.m0 hSd.h0)
      have HXd:=η (HSd.out.cell j _ HXc.out);have HYd:=η (HSd.out.cell j0 _ HYc.out);have Hgd:=η HSd.out.lt
      clear HSr Ht hSd
      generalize World.drew _=wd at *
      have hS0:=Below.refl wd.heap.size wd
      refine wpAny_of_held (S:=fun W=>Below wd.heap.size wd W) _ _ _ _ ?_
      refine tk 0 (.int .i64 (j:Int)) rfl (h:=?_)
      refine tk 1 (.int .i64 (a:Int)) rfl (h:=?_)
      refine tk 2 (.bool true) rfl (hy:=fun W hW=>by go_simp) (h:=?_)
      refine tk 3 (.bool true) rfl (h:=?_)
      refine tk 4 (.func (.func 72) #[] #[]) rfl (h:=?_)
      refine tk 5 (.slice (some ⟨g,0,none⟩) n cap) rfl (h:=?_)
      refine tk 6 (.int .i64 (j:Int)) rfl (h:=?_)
      refine tk 7 (.pointer (some ⟨g,j*3,none⟩)) rfl (hy:=fun W hW=>by go_simp) (h:=?_)
      refine tk 8 (.agg #[.string ⟨xe.kind.toArray⟩,.string ⟨xe.key.toArray⟩,.slice px nx cx]) rfl (hy:=fun W hW=>by (have c:=Below.cell hW (p:=⟨g,j*3,none⟩) Hgd.out;have c1:=Below.cell hW (p:=⟨g,j*3+1,none⟩) Hgd.out;have c2:=Below.cell hW (p:=⟨g,j*3+2,none⟩) Hgd.out;rw [HXd.out.1] at c;rw [HXd.out.2.1] at c1;rw [HXd.out.2.2] at c2;go_simp)) (h:=?_)
      refine tk 9 (.slice (some ⟨g,0,none⟩) n cap) rfl (h:=?_)
      refine tk 10 (.int .i64 (j:Int)) rfl (h:=?_)
      refine tk 11 (.int .i64 (j0:Int)) rfl (hy:=fun W hW=>by go_simp) (h:=?_)
      refine tk 12 (.pointer (some ⟨g,j0*3,none⟩)) rfl (hy:=fun W hW=>by go_simp) (h:=?_)
      refine tk 13 (.agg #[.string ⟨ye.kind.toArray⟩,.string ⟨ye.key.toArray⟩,.slice py ny cy]) rfl (hy:=fun W hW=>by (have c:=Below.cell hW (p:=⟨g,j0*3,none⟩) Hgd.out;have c1:=Below.cell hW (p:=⟨g,j0*3+1,none⟩) Hgd.out;have c2:=Below.cell hW (p:=⟨g,j0*3+2,none⟩) Hgd.out;rw [HYd.out.1] at c;rw [HYd.out.2.1] at c1;rw [HYd.out.2.2] at c2;go_simp)) (h:=?_)
      try simp only [Act.put,π1,π2,π3,π4,π5,π6]
      refine tr 14 rfl (h:=fun K hK=>?_)
      go_simp
      go_wp2_with (go_at_call 72; refine (lb_cmp xe ye _ _ m _ _ _ HFx.out HFy.out HBx.out HBy.out HMd.out.1 HMd.out.2).mono ?_;rintro e w5 ⟨rfl,hb5⟩;have Hb5:=η hb5;clear hb5)
      refine hK.out _ _ (Hb5.out) (fun _=>?_)
      clear K hK
      refine tk 15 (.bool false) rfl (hy:=fun W hW=>by go_simp) (h:=?_)
      refine tk 16 (.bool false) rfl (hy:=fun W hW=>by go_simp) (h:=?_)
      try simp only [Act.put,π1,π2,π3,π4,π5,π6]
      refine wpAnyH_done (by kernel_rfl) ?_ _
      have HSr:=η (HSd.out.below Hb5.out);have Ht:=η (Htd.out.below Hb5.out)
      clear HSd Htd HFx HFy HBx HBy HMd HXd HYd Hgd hS0 Hb5
      go_wp2_with fail
      go_roundw
      case rel=>exact ⟨i1,C,by have:=Hi1.out;have:=Hlt.out;have:=Hi.out;omega,rfl,HSr.out,HMv.out,HAsc.out,Ht.out⟩
      case measure=>have:=Hlt.out;have:=Hi1.out;simp [intOf];omega
  ·
   have hlt':¬(i:Int)<(b:Int):=by omega
   have HAsc:=η (HAsc0.out.sub (Nat.le_refl a) (show b≤i by omega))
   clear hlt hi HAsc0
   go_wp2_with fail
   first | refine bodyPost_ret (results_none rfl _ _ _) rfl ?_ | refine bodyPost_end (results_none rfl _ _ _) rfl ?_
   exact ⟨rfl,C0,HSr0.out,HMv0.out,HAsc.out,Ht0.out⟩
end Go.Proofs.YtgnfmopcialllaaGreatDoor
