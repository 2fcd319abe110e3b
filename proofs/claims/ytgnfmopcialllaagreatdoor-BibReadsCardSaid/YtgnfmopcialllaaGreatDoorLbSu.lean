/- The walk of slices.symMerge over entries, and of the stable sort of up to 39 of them. -/
import Derived.Test.YtgnfmopcialllaaGreatDoorTk
import Derived.Test.YtgnfmopcialllaaGreatDoorLbSt
set_option linter.unusedSimpArgs false
set_option linter.unusedVariables false
namespace Go.Proofs.YtgnfmopcialllaaGreatDoor
open Go.RowKit
open Mg (Is Asc En swp rot Le Seek shl shr)
def SymPost (a b g:Nat) (L:List (Ent.Ent × Value)) (w:World) (e:Ending) (w':World):Prop:=e = .returned (.tuple #[])∧∃L',SRow w' g L'∧Mg.Mv a b L L'∧Asc En L' a b∧Turn g w w'
theorem half_wrap (i j h:Nat) (hh:h=(i+j) / 2) (hl:i+j≤100000):wrap64 (IntKind.u64.wrap ((i:Int)+(j:Int)) / 2)=(h:Int):=by
 rw [IntWalk.u64_in _ (by omega)]
 unfold wrap64
 omega
theorem le_of {C:List (Ent.Ent × Value)} {i j:Nat} {x y:Ent.Ent × Value} (hx:C[i]? = some x) (hy:C[j]? = some y) (h:En x y):Le En C i j:=fun u v hu hv=>by
 rw [hx] at hu;rw [hy] at hv
 obtain rfl:=Option.some.inj hu
 obtain rfl:=Option.some.inj hv
 exact h
structure Bis (L:List (Ent.Ent × Value)) (lo hi t i j:Nat):Prop where
 l0:lo≤i
 l1:i≤j
 l2:j≤hi
 bel:∀q,lo≤q→q<i→Le En L q t
 abv:∀q,j≤q→q<hi→Le En L t q
theorem Bis.up {L:List (Ent.Ent × Value)} {lo hi t i j h:Nat} (k:Bis L lo hi t i j) (hA:Asc En L lo hi) (hl:hi≤L.length) (h1:i≤h) (h2:h<j) (hc:Le En L h t):Bis L lo hi t (h+1) j :=
 ⟨by have:=k.l0;omega,by omega,k.l2,fun q h3 h4=>by
  by_cases e:q=h
  ·
   rw [e];exact hc
  ·
   exact Le.trans En.tr (hA q h h3 (by omega) (by have:=k.l2;omega)) hc (by have:=k.l2;omega),k.abv⟩
theorem Bis.down {L:List (Ent.Ent × Value)} {lo hi t i j h:Nat} (k:Bis L lo hi t i j) (hA:Asc En L lo hi) (hl:hi≤L.length) (h1:i≤h) (h2:h<j) (hc:Le En L t h):Bis L lo hi t i h :=
 ⟨k.l0,h1,by have:=k.l2;omega,k.bel,fun q h3 h4=>by
  by_cases e:q=h
  ·
   rw [e];exact hc
  ·
   exact Le.trans En.tr hc (hA h q (by have:=k.l0;omega) (by omega) h4) (by omega)⟩
set_option maxRecDepth 100000 in
set_option maxHeartbeats 6400000 in
theorem lb_symA (mx:Int) (g cap n a m b:Nat) (L:List (Ent.Ent × Value)) (w:World) (hR:SRow w g L) (hn:L.length=n) (hS:Sortable mx g w L) (hA:Asc En L a m) (hB:Asc En L m b) (ham:a<m) (hmb:m<b) (hbn:b≤n) (hl:n≤1000) (hc:n≤cap) (h1:m - a=1) :
  Calls Tryz.prog 178 #[.slice (some ⟨g,0,none⟩) n cap,.int .i64 (a:Int),.int .i64 (m:Int),.int .i64 (b:Int),.func (.func 72) #[] #[]] w (SymPost a b g L w):=by
 have hd:IntKind.i64.wrap ((m:Int) - (a:Int))=1:=by rw [IntWalk.i64_in _ (by omega)];omega
 have Hma:=η (show a+1=m by omega);have HAM:=η ham
 have HR:=η hR;have HS:=η hS;have Hn:=η hn;have HA:=η hA;have HB:=η hB;have Hmb:=η hmb;have Hbn:=η hbn;have Hl:=η hl;have Hc:=η hc
 clear hR hS hn hA hB
 clear ham hmb hbn hl hc h1
 go_enter Tryz.func178, Tryz.ntmps178
 go_wp2_with fail
 go_loopw [10,11,12] (fun iv jv _ wr=>∃(i j:Nat),iv = .int .i64 (i:Int)∧jv = .int .i64 (j:Int)∧Bis L m b a i j∧SRow wr g L∧Turn g w wr) (fun iv jv _ _=>(intOf jv).toNat - (intOf iv).toNat)
 case atStart=>exact ⟨m,b,rfl,rfl,⟨Nat.le_refl _,Nat.le_of_lt Hmb.out,Nat.le_refl _,fun q h1 h2=>absurd h1 (by omega),fun q h1 h2=>absurd h1 (by omega)⟩,HR.out,Turn.refl _ _⟩
 case round =>
  clear hd
  obtain ⟨i,j,rfl,rfl,hBi,hSr,ht⟩:=hrel
  have HBi:=η hBi;have HSr:=η hSr;have Ht:=η ht
  clear hBi hSr ht
  by_cases hlt:i<j
  ·
   have hlt':(i:Int)<(j:Int):=by omega
   obtain ⟨h,hh⟩:∃h,h=(i+j) / 2:=⟨_,rfl⟩
   obtain ⟨h1,hh1⟩:∃h1,h1=h+1:=⟨_,rfl⟩
   have hjb:j≤n∧h<n:=by have:=HBi.out.l2;have:=Hbn.out;have:=Hmb.out;omega
   have hwij:IntKind.i64.wrap ((i:Int)+(j:Int))=(i:Int)+(j:Int):=by rw [IntWalk.i64_in _ (by have:=Hl.out;omega)]
   have hwh:wrap64 (IntKind.u64.wrap ((i:Int)+(j:Int)) / 2)=(h:Int):=half_wrap i j h hh (by have:=Hl.out;omega)
   have hwh1:IntKind.i64.wrap ((h:Int)+1)=(h1:Int):=by rw [IntWalk.i64_in _ (by have:=Hl.out;omega)];omega
   have hhn:(h:Int)<(n:Int):=by omega
   have htn:(a:Int)<(n:Int):=by have:=Hmb.out;have:=Hbn.out;have:=HAM.out;omega
   have Hh:=η (show i≤h∧h<j∧h1=h+1 by omega);have Hjb:=η hjb
   have hCl:=Hn.out
   have hV:=HS.out.form
   obtain ⟨⟨xe,vx⟩,hxc⟩:∃x,L[h]? = some x:=⟨_,List.getElem?_eq_getElem (by omega)⟩
   obtain ⟨px,nx,cx,hvx⟩:=hV (xe,vx) (List.mem_of_getElem? hxc)
   have hvx:vx=_:=hvx
   subst hvx
   obtain ⟨⟨ye,vy⟩,hyc⟩:∃x,L[a]? = some x:=⟨_,List.getElem?_eq_getElem (by omega)⟩
   obtain ⟨py,ny,cy,hvy⟩:=hV (ye,vy) (List.mem_of_getElem? hyc)
   have hvy:vy=_:=hvy
   subst hvy
   have HXc:=η hxc;have HYc:=η hyc;have HSo:=HS;have Hwh:=η hwh
   clear hlt hh hh1 hjb hCl hV hxc hyc hwh
   go_upto_region 5 with fail
   rw [Hwh.out]
   by_cases hneg:Lb.cmp xe ye<0
   ·
    have HLe:=η (le_of HXc.out HYc.out (Mg.en_lt hneg))
    refine wp_region_any (by kernel_rfl) ?_
    change wpAny _ _ _ _ _ _ _ (World.drew _)
    have HSd:=η (HSr.out.below (Below.refl _ _).drew);have Htd:=η (Ht.out.below (Below.refl _ _).drew)
    have hSd:=HSo.out.turn Htd.out
    have HFx:=η (hSd.fld (xe,.slice px nx cx) (List.mem_of_getElem? HXc.out));have HFy:=η (hSd.fld (ye,.slice py ny cy) (List.mem_of_getElem? HYc.out));have HBx:=η (hSd.ok (xe,.slice px nx cx) (List.mem_of_getElem? HXc.out));have HBy:=η (hSd.ok (ye,.slice py ny cy) (List.mem_of_getElem? HYc.out))
    have HMd:=η (And.intro hSd.m0 hSd.h0)
    have HXd:=η (HSd.out.cell h _ HXc.out);have HYd:=η (HSd.out.cell a _ HYc.out);have Hgd:=η HSd.out.lt
    clear HSr Ht hSd
    generalize World.drew _=wd at *
    have hS0:=Below.refl wd.heap.size wd
    refine wpAny_of_held (S:=fun W=>Below wd.heap.size wd W) _ _ _ _ ?_
    refine tk 0 (.func (.func 72) #[] #[]) rfl (h:=?_)
    refine tk 1 (.slice (some ⟨g,0,none⟩) n cap) rfl (h:=?_)
    refine tk 2 (.int .i64 (h:Int)) rfl (h:=?_)
    refine tk 3 (.pointer (some ⟨g,h*3,none⟩)) rfl (hy:=fun W hW=>by go_simp) (h:=?_)
    refine tk 4 (.agg #[.string ⟨xe.kind.toArray⟩,.string ⟨xe.key.toArray⟩,.slice px nx cx]) rfl (hy:=fun W hW=>by (have c:=Below.cell hW (p:=⟨g,h*3,none⟩) Hgd.out;have c1:=Below.cell hW (p:=⟨g,h*3+1,none⟩) Hgd.out;have c2:=Below.cell hW (p:=⟨g,h*3+2,none⟩) Hgd.out;rw [HXd.out.1] at c;rw [HXd.out.2.1] at c1;rw [HXd.out.2.2] at c2;go_simp)) (h:=?_)
    refine tk 5 (.slice (some ⟨g,0,none⟩) n cap) rfl (h:=?_)
    refine tk 6 (.int .i64 (a:Int)) rfl (h:=?_)
    refine tk 7 (.pointer (some ⟨g,a*3,none⟩)) rfl (hy:=fun W hW=>by go_simp) (h:=?_)
    refine tk 8 (.agg #[.string ⟨ye.kind.toArray⟩,.string ⟨ye.key.toArray⟩,.slice py ny cy]) rfl (hy:=fun W hW=>by (have c:=Below.cell hW (p:=⟨g,a*3,none⟩) Hgd.out;have c1:=Below.cell hW (p:=⟨g,a*3+1,none⟩) Hgd.out;have c2:=Below.cell hW (p:=⟨g,a*3+2,none⟩) Hgd.out;rw [HYd.out.1] at c;rw [HYd.out.2.1] at c1;rw [HYd.out.2.2] at c2;go_simp)) (h:=?_)
    try simp only [Act.put,π1,π2,π3,π4,π5,π6]
    refine tr 9 rfl (h:=fun K hK=>?_)
    go_simp
    go_wp2_with (go_at_call 72; refine (lb_cmp xe ye _ _ mx _ _ _ HFx.out HFy.out HBx.out HBy.out HMd.out.1 HMd.out.2).mono ?_;rintro e w5 ⟨rfl,hb5⟩;have Hb5:=η hb5;clear hb5)
    refine hK.out _ _ (Hb5.out) (fun _=>?_)
    clear K hK
    refine tk 10 (.bool true) rfl (hy:=fun W hW=>by go_simp) (h:=?_)
    try simp only [Act.put,π1,π2,π3,π4,π5,π6]
    refine wpAnyH_done (by kernel_rfl) ?_ _
    have HSr:=η (HSd.out.below Hb5.out);have Ht:=η (Htd.out.below Hb5.out)
    clear HSd Htd HFx HFy HBx HBy HMd HXd HYd Hgd hS0 Hb5
    go_wp2_with fail
    go_roundw
    case rel=>exact ⟨h1,j,rfl,rfl,by rw [Hh.out.2.2];exact HBi.out.up HB.out (by rw [Hn.out];have:=Hbn.out;have:=Hmb.out;omega) Hh.out.1 Hh.out.2.1 (HLe.out),HSr.out,Ht.out⟩
    case measure=>have:=Hh.out;simp [intOf];omega
   ·
    have HLe:=η (le_of HYc.out HXc.out (Mg.en_ge hneg))
    have hnd:decide (Lb.cmp xe ye<0)=false:=decide_eq_false hneg
    clear hneg
    refine wp_region_any (by kernel_rfl) ?_
    change wpAny _ _ _ _ _ _ _ (World.drew _)
    have HSd:=η (HSr.out.below (Below.refl _ _).drew);have Htd:=η (Ht.out.below (Below.refl _ _).drew)
    have hSd:=HSo.out.turn Htd.out
    have HFx:=η (hSd.fld (xe,.slice px nx cx) (List.mem_of_getElem? HXc.out));have HFy:=η (hSd.fld (ye,.slice py ny cy) (List.mem_of_getElem? HYc.out));have HBx:=η (hSd.ok (xe,.slice px nx cx) (List.mem_of_getElem? HXc.out));have HBy:=η (hSd.ok (ye,.slice py ny cy) (List.mem_of_getElem? HYc.out))
    have HMd:=η (And.intro hSd.m0 hSd.h0)
    have HXd:=η (HSd.out.cell h _ HXc.out);have HYd:=η (HSd.out.cell a _ HYc.out);have Hgd:=η HSd.out.lt
    clear HSr Ht hSd
    generalize World.drew _=wd at *
    have hS0:=Below.refl wd.heap.size wd
    refine wpAny_of_held (S:=fun W=>Below wd.heap.size wd W) _ _ _ _ ?_
    refine tk 0 (.func (.func 72) #[] #[]) rfl (h:=?_)
    refine tk 1 (.slice (some ⟨g,0,none⟩) n cap) rfl (h:=?_)
    refine tk 2 (.int .i64 (h:Int)) rfl (h:=?_)
    refine tk 3 (.pointer (some ⟨g,h*3,none⟩)) rfl (hy:=fun W hW=>by go_simp) (h:=?_)
    refine tk 4 (.agg #[.string ⟨xe.kind.toArray⟩,.string ⟨xe.key.toArray⟩,.slice px nx cx]) rfl (hy:=fun W hW=>by (have c:=Below.cell hW (p:=⟨g,h*3,none⟩) Hgd.out;have c1:=Below.cell hW (p:=⟨g,h*3+1,none⟩) Hgd.out;have c2:=Below.cell hW (p:=⟨g,h*3+2,none⟩) Hgd.out;rw [HXd.out.1] at c;rw [HXd.out.2.1] at c1;rw [HXd.out.2.2] at c2;go_simp)) (h:=?_)
    refine tk 5 (.slice (some ⟨g,0,none⟩) n cap) rfl (h:=?_)
    refine tk 6 (.int .i64 (a:Int)) rfl (h:=?_)
    refine tk 7 (.pointer (some ⟨g,a*3,none⟩)) rfl (hy:=fun W hW=>by go_simp) (h:=?_)
    refine tk 8 (.agg #[.string ⟨ye.kind.toArray⟩,.string ⟨ye.key.toArray⟩,.slice py ny cy]) rfl (hy:=fun W hW=>by (have c:=Below.cell hW (p:=⟨g,a*3,none⟩) Hgd.out;have c1:=Below.cell hW (p:=⟨g,a*3+1,none⟩) Hgd.out;have c2:=Below.cell hW (p:=⟨g,a*3+2,none⟩) Hgd.out;rw [HYd.out.1] at c;rw [HYd.out.2.1] at c1;rw [HYd.out.2.2] at c2;go_simp)) (h:=?_)
    try simp only [Act.put,π1,π2,π3,π4,π5,π6]
    refine tr 9 rfl (h:=fun K hK=>?_)
    go_simp
    go_wp2_with (go_at_call 72; refine (lb_cmp xe ye _ _ mx _ _ _ HFx.out HFy.out HBx.out HBy.out HMd.out.1 HMd.out.2).mono ?_;rintro e w5 ⟨rfl,hb5⟩;have Hb5:=η hb5;clear hb5)
    refine hK.out _ _ (Hb5.out) (fun _=>?_)
    clear K hK
    refine tk 10 (.bool false) rfl (hy:=fun W hW=>by go_simp) (h:=?_)
    try simp only [Act.put,π1,π2,π3,π4,π5,π6]
    refine wpAnyH_done (by kernel_rfl) ?_ _
    have HSr:=η (HSd.out.below Hb5.out);have Ht:=η (Htd.out.below Hb5.out)
    clear HSd Htd HFx HFy HBx HBy HMd HXd HYd Hgd hS0 Hb5
    go_wp2_with fail
    go_roundw
    case rel=>exact ⟨i,h,rfl,rfl,HBi.out.down HB.out (by rw [Hn.out];have:=Hbn.out;have:=Hmb.out;omega) Hh.out.1 Hh.out.2.1 (HLe.out),HSr.out,Ht.out⟩
    case measure=>have:=Hh.out;simp [intOf];omega
  ·
   have hij:i=j:=by have:=HBi.out.l1;omega
   subst hij
   have hlt':¬(i:Int)<(i:Int):=by omega
   obtain ⟨i0,hi0⟩:∃i0,i0+1=i:=⟨i - 1,by have:=HBi.out.l0;have:=Hma.out;omega⟩
   have hw0:IntKind.i64.wrap ((i:Int) - 1)=(i0:Int):=by rw [IntWalk.i64_in _ (by have:=HBi.out.l2;have:=Hbn.out;have:=Hl.out;omega)];omega
   have Hi0:=η hi0
   clear hlt hi0
   go_wp2_with fail
   go_loopw [13] (fun kv wq=>∃(k:Nat) (C:List (Ent.Ent × Value)),(a≤k∧k≤i0)∧kv = .int .i64 (k:Int)∧SRow wq g C∧Is (shl a (k+1)) L C∧C.Perm L∧Turn g w wq) (fun kv _=>i0 - (intOf kv).toNat)
   case atStart=>exact ⟨a,L,⟨Nat.le_refl _,by have:=HBi.out.l0;have:=Hma.out;have:=Hi0.out;omega⟩,rfl,HSr.out,Mg.shl_start a L,.refl _,Ht.out⟩
   case round =>
    clear HSr Ht
    obtain ⟨k,C,hk,rfl,hSr,hIs,hp,ht⟩:=hrel
    have HCl:=η (show C.length=n from hp.length_eq.trans Hn.out)
    by_cases hlt:k<i0
    ·
     have hlt':(k:Int)<(i0:Int):=by omega
     obtain ⟨k1,hk1⟩:∃k1,k1=k+1:=⟨_,rfl⟩
     have hkn:(k:Int)<(n:Int):=by have:=HBi.out.l2;have:=Hbn.out;have:=Hi0.out;omega
     have hk1n:(k1:Int)<(n:Int):=by have:=HBi.out.l2;have:=Hbn.out;have:=Hi0.out;omega
     have hwk:IntKind.i64.wrap ((k:Int)+1)=(k1:Int):=by rw [IntWalk.i64_in _ (by have:=Hl.out;omega)];omega
     have hV:∀p ∈ C,SliceV p:=fun p hm=>HS.out.form p (hp.mem_iff.1 hm)
     have hCl:=HCl.out
     obtain ⟨⟨xe,vx⟩,hxc⟩:∃x,C[k]? = some x:=⟨_,List.getElem?_eq_getElem (by omega)⟩
     obtain ⟨px,nx,cx,hvx⟩:=hV (xe,vx) (List.mem_of_getElem? hxc)
     have hvx:vx=_:=hvx
     subst hvx
     obtain ⟨⟨ye,vy⟩,hyc⟩:∃x,C[k1]? = some x:=⟨_,List.getElem?_eq_getElem (by omega)⟩
     obtain ⟨py,ny,cy,hvy⟩:=hV (ye,vy) (List.mem_of_getElem? hyc)
     have hvy:vy=_:=hvy
     subst hvy
     have HXc:=η hxc;have HYc:=η hyc;have HNe:=η (show k≠k1 by omega)
     have HSr:=η hSr;have Ht:=η ht
     have HIs:=η (show Is (shl a (k1+1)) L ((C.set k (ye,.slice py ny cy)).set k1 (xe,.slice px nx cx)) by rw [hk1] at hyc ⊢;exact Mg.shl_step hIs hk.1 hxc hyc)
     have Hp:=η ((Mg.swap_perm hxc hyc).trans hp)
     have HK:=η (show a≤k1∧k1≤i0∧i0 - k1<i0 - k by omega)
     clear hk hSr hIs hp ht hlt hk1 hV hxc hyc hCl
     go_upto_region 11 with fail
     refine wp_region_any (by kernel_rfl) ?_
     change wpAny _ _ _ _ _ _ _ (World.drew _)
     have HSd:=η (HSr.out.below (Below.refl _ _).drew);have Htd:=η (Ht.out.below (Below.refl _ _).drew)
     have HXd:=η (HSd.out.cell k _ HXc.out);have HYd:=η (HSd.out.cell k1 _ HYc.out)
     have hIl:k<C.length:=by rw [HCl.out];omega
     clear HSr Ht
     generalize World.drew _=wd2 at *
     have hS0:(fun W:World=>True) wd2:=trivial
     dsimp only at hS0
     refine wpAny_of_held (S:=fun W=>True) _ _ _ _ ?_
     refine tk 0 (.slice (some ⟨g,0,none⟩) n cap) rfl (hy:=fun W hW=>by go_simp) (h:=?_)
     refine tk 1 (.int .i64 (k:Int)) rfl (hy:=fun W hW=>by go_simp) (h:=?_)
     refine tk 2 (.slice (some ⟨g,0,none⟩) n cap) rfl (hy:=fun W hW=>by go_simp) (h:=?_)
     refine tk 3 (.int .i64 (k:Int)) rfl (hy:=fun W hW=>by go_simp) (h:=?_)
     refine tk 4 (.int .i64 (k1:Int)) rfl (hy:=fun W hW=>by go_simp) (h:=?_)
     refine tk 5 (.slice (some ⟨g,0,none⟩) n cap) rfl (hy:=fun W hW=>by go_simp) (h:=?_)
     refine tk 6 (.int .i64 (k:Int)) rfl (hy:=fun W hW=>by go_simp) (h:=?_)
     refine tk 7 (.int .i64 (k1:Int)) rfl (hy:=fun W hW=>by go_simp) (h:=?_)
     refine tk 8 (.pointer (some ⟨g,k1*3,none⟩)) rfl (hy:=fun W hW=>by go_simp) (h:=?_)
     refine tk 10 (.slice (some ⟨g,0,none⟩) n cap) rfl (hy:=fun W hW=>by go_simp) (h:=?_)
     refine tk 11 (.int .i64 (k:Int)) rfl (hy:=fun W hW=>by go_simp) (h:=?_)
     refine tk 12 (.pointer (some ⟨g,k*3,none⟩)) rfl (hy:=fun W hW=>by go_simp) (h:=?_)
     try simp only [Act.put,π1,π2,π3,π4,π5,π6]
     refine wpAnyH_ready (rs:=[9,13]) (by kernel_rfl) (by simp) ?_
     refine AllReadyH.cons rfl (fun K hK=>?_) (AllReadyH.cons rfl (fun K hK=>?_) AllReadyH.nil)
     ·
      have c:=HYd.out.1;have c1:=HYd.out.2.1;have c2:=HYd.out.2.2
      go_simp
      refine hK.out _ _ trivial (fun _=>?_)
      clear K hK c c1 c2
      try simp only [Act.put,π1,π2,π3,π4,π5,π6]
      refine tr 13 rfl (h:=fun K hK=>?_)
      have c:=HXd.out.1;have c1:=HXd.out.2.1;have c2:=HXd.out.2.2
      go_simp
      refine hK.out _ _ trivial (fun _=>?_)
      clear K hK c c1 c2
      refine tk 14 (.pointer (some ⟨g,k*3,none⟩)) rfl (hy:=fun W hW=>by go_simp) (h:=?_)
      try simp only [Act.put,π1,π2,π3,π4,π5,π6]
      refine tr 15 rfl (h:=fun K hK=>?_)
      have r0:=HSd.out.free (k*3);have r1:=HSd.out.free (k*3+1);have r2:=HSd.out.free (k*3+2);have x0:=HXd.out.1;have x1:=HXd.out.2.1;have x2:=HXd.out.2.2
      go_simp
      have hR1:=HSd.out.put hIl ye (.slice py ny cy)
      refine hK.out _ _ trivial (fun _=>?_)
      clear K hK r0 r1 r2 x0 x1 x2
      refine tk 16 (.pointer (some ⟨g,k1*3,none⟩)) rfl (hy:=fun W hW=>by go_simp) (h:=?_)
      try simp only [Act.put,π1,π2,π3,π4,π5,π6]
      refine tr 17 rfl (h:=fun K hK=>?_)
      have hyy:=hR1.cell k1 (ye,.slice py ny cy) (by rw [List.getElem?_set_ne HNe.out];exact HYc.out)
      have r0:=hR1.free (k1*3);have r1:=hR1.free (k1*3+1);have r2:=hR1.free (k1*3+2);have x0:=hyy.1;have x1:=hyy.2.1;have x2:=hyy.2.2
      go_simp
      have hR2:=hR1.put (k:=k1) (by rw [List.length_set,HCl.out];omega) xe (.slice px nx cx)
      refine hK.out _ _ trivial (fun _=>?_)
      clear K hK r0 r1 r2 x0 x1 x2
      try simp only [Act.put,π1,π2,π3,π4,π5,π6]
      refine wpAnyH_done (by kernel_rfl) ?_ _
      go_wp2_with fail
      go_roundw
      case rel=>exact ⟨k1,_,⟨HK.out.1,HK.out.2.1⟩,rfl,hR2,HIs.out,Hp.out,((((((Htd.out.set _ _).set _ _).set _ _).set _ _).set _ _).set _ _)⟩
      case measure=>have:=HK.out.2.2;simp [intOf];omega
     ·
      have c:=HXd.out.1;have c1:=HXd.out.2.1;have c2:=HXd.out.2.2
      go_simp
      refine hK.out _ _ trivial (fun _=>?_)
      clear K hK c c1 c2
      try simp only [Act.put,π1,π2,π3,π4,π5,π6]
      refine tr 9 rfl (h:=fun K hK=>?_)
      have c:=HYd.out.1;have c1:=HYd.out.2.1;have c2:=HYd.out.2.2
      go_simp
      refine hK.out _ _ trivial (fun _=>?_)
      clear K hK c c1 c2
      refine tk 14 (.pointer (some ⟨g,k*3,none⟩)) rfl (hy:=fun W hW=>by go_simp) (h:=?_)
      try simp only [Act.put,π1,π2,π3,π4,π5,π6]
      refine tr 15 rfl (h:=fun K hK=>?_)
      have r0:=HSd.out.free (k*3);have r1:=HSd.out.free (k*3+1);have r2:=HSd.out.free (k*3+2);have x0:=HXd.out.1;have x1:=HXd.out.2.1;have x2:=HXd.out.2.2
      go_simp
      have hR1:=HSd.out.put hIl ye (.slice py ny cy)
      refine hK.out _ _ trivial (fun _=>?_)
      clear K hK r0 r1 r2 x0 x1 x2
      refine tk 16 (.pointer (some ⟨g,k1*3,none⟩)) rfl (hy:=fun W hW=>by go_simp) (h:=?_)
      try simp only [Act.put,π1,π2,π3,π4,π5,π6]
      refine tr 17 rfl (h:=fun K hK=>?_)
      have hyy:=hR1.cell k1 (ye,.slice py ny cy) (by rw [List.getElem?_set_ne HNe.out];exact HYc.out)
      have r0:=hR1.free (k1*3);have r1:=hR1.free (k1*3+1);have r2:=hR1.free (k1*3+2);have x0:=hyy.1;have x1:=hyy.2.1;have x2:=hyy.2.2
      go_simp
      have hR2:=hR1.put (k:=k1) (by rw [List.length_set,HCl.out];omega) xe (.slice px nx cx)
      refine hK.out _ _ trivial (fun _=>?_)
      clear K hK r0 r1 r2 x0 x1 x2
      try simp only [Act.put,π1,π2,π3,π4,π5,π6]
      refine wpAnyH_done (by kernel_rfl) ?_ _
      go_wp2_with fail
      go_roundw
      case rel=>exact ⟨k1,_,⟨HK.out.1,HK.out.2.1⟩,rfl,hR2,HIs.out,Hp.out,((((((Htd.out.set _ _).set _ _).set _ _).set _ _).set _ _).set _ _)⟩
      case measure=>have:=HK.out.2.2;simp [intOf];omega
    ·
     have he:k=i0:=by omega
     subst he
     have hlt':¬(k:Int)<(k:Int):=by omega
     have HSr:=η hSr;have HIs:=η hIs;have Hp:=η hp;have Ht:=η ht
     clear hSr hIs hp ht hlt hk
     go_wp2_with fail
     first | refine bodyPost_ret (results_none rfl _ _ _) rfl ?_ | refine bodyPost_end (results_none rfl _ _ _) rfl ?_
     have hI:=HIs.out
     have hi1:k+1=i:=Hi0.out
     rw [hi1] at hI
     have hm1:=Hma.out
     have hb:=HBi.out
     refine ⟨rfl,C,HSr.out,Mg.shl_mv hI Hp.out (by have:=hb.l0;omega) hb.l2,Mg.shl_asc hI (by have:=hb.l0;omega) hb.l2 (by rw [hm1];exact HB.out) (fun t h1 h2=>hb.bel t (by omega) h2) (fun t h1 h2=>hb.abv t h1 h2),Ht.out⟩
set_option maxRecDepth 100000 in
set_option maxHeartbeats 6400000 in
theorem lb_symB (mx:Int) (g cap n a m b:Nat) (L:List (Ent.Ent × Value)) (w:World) (hR:SRow w g L) (hn:L.length=n) (hS:Sortable mx g w L) (hA:Asc En L a m) (hB:Asc En L m b) (ham:a<m) (hmb:m<b) (hbn:b≤n) (hl:n≤1000) (hc:n≤cap) (h1:m - a≠1) (h2:b - m=1) :
  Calls Tryz.prog 178 #[.slice (some ⟨g,0,none⟩) n cap,.int .i64 (a:Int),.int .i64 (m:Int),.int .i64 (b:Int),.func (.func 72) #[] #[]] w (SymPost a b g L w):=by
 obtain ⟨dm,hdm⟩:∃dm,dm=m - a:=⟨_,rfl⟩
 have hd:IntKind.i64.wrap ((m:Int) - (a:Int))=(dm:Int):=by rw [IntWalk.i64_in _ (by omega)];omega
 have hd1:((dm:Int) == 1)=false:=beq_eq_false_iff_ne.2 (by omega)
 have hd2:IntKind.i64.wrap ((b:Int) - (m:Int))=1:=by rw [IntWalk.i64_in _ (by omega)];omega
 have Hma:=η (show m+1=b by omega);have HAM:=η ham
 have HR:=η hR;have HS:=η hS;have Hn:=η hn;have HA:=η hA;have HB:=η hB;have Hmb:=η hmb;have Hbn:=η hbn;have Hl:=η hl;have Hc:=η hc
 clear hR hS hn hA hB
 clear ham hmb hbn hl hc h1 h2 hdm
 go_enter Tryz.func178, Tryz.ntmps178
 go_wp2_with fail
 go_loopw [14,15] (fun iv jv wr=>∃(i j:Nat),iv = .int .i64 (i:Int)∧jv = .int .i64 (j:Int)∧Bis L a m m i j∧SRow wr g L∧Turn g w wr) (fun iv jv _=>(intOf jv).toNat - (intOf iv).toNat)
 case atStart=>exact ⟨a,m,rfl,rfl,⟨Nat.le_refl _,Nat.le_of_lt HAM.out,Nat.le_refl _,fun q h1 h2=>absurd h1 (by omega),fun q h1 h2=>absurd h1 (by omega)⟩,HR.out,Turn.refl _ _⟩
 case round =>
  clear hd hd1 hd2
  obtain ⟨i,j,rfl,rfl,hBi,hSr,ht⟩:=hrel
  have HBi:=η hBi;have HSr:=η hSr;have Ht:=η ht
  clear hBi hSr ht
  by_cases hlt:i<j
  ·
   have hlt':(i:Int)<(j:Int):=by omega
   obtain ⟨h,hh⟩:∃h,h=(i+j) / 2:=⟨_,rfl⟩
   obtain ⟨h1,hh1⟩:∃h1,h1=h+1:=⟨_,rfl⟩
   have hjb:j≤n∧h<n:=by have:=HBi.out.l2;have:=Hbn.out;have:=Hmb.out;omega
   have hwij:IntKind.i64.wrap ((i:Int)+(j:Int))=(i:Int)+(j:Int):=by rw [IntWalk.i64_in _ (by have:=Hl.out;omega)]
   have hwh:wrap64 (IntKind.u64.wrap ((i:Int)+(j:Int)) / 2)=(h:Int):=half_wrap i j h hh (by have:=Hl.out;omega)
   have hwh1:IntKind.i64.wrap ((h:Int)+1)=(h1:Int):=by rw [IntWalk.i64_in _ (by have:=Hl.out;omega)];omega
   have hhn:(h:Int)<(n:Int):=by omega
   have htn:(m:Int)<(n:Int):=by have:=Hmb.out;have:=Hbn.out;have:=HAM.out;omega
   have Hh:=η (show i≤h∧h<j∧h1=h+1 by omega);have Hjb:=η hjb
   have hCl:=Hn.out
   have hV:=HS.out.form
   obtain ⟨⟨xe,vx⟩,hxc⟩:∃x,L[m]? = some x:=⟨_,List.getElem?_eq_getElem (by omega)⟩
   obtain ⟨px,nx,cx,hvx⟩:=hV (xe,vx) (List.mem_of_getElem? hxc)
   have hvx:vx=_:=hvx
   subst hvx
   obtain ⟨⟨ye,vy⟩,hyc⟩:∃x,L[h]? = some x:=⟨_,List.getElem?_eq_getElem (by omega)⟩
   obtain ⟨py,ny,cy,hvy⟩:=hV (ye,vy) (List.mem_of_getElem? hyc)
   have hvy:vy=_:=hvy
   subst hvy
   have HXc:=η hxc;have HYc:=η hyc;have HSo:=HS;have Hwh:=η hwh
   clear hlt hh hh1 hjb hCl hV hxc hyc hwh
   go_upto_region 17 with fail
   rw [Hwh.out]
   by_cases hneg:Lb.cmp xe ye<0
   ·
    have HLe:=η (le_of HXc.out HYc.out (Mg.en_lt hneg))
    refine wp_region_any (by kernel_rfl) ?_
    change wpAny _ _ _ _ _ _ _ (World.drew _)
    have HSd:=η (HSr.out.below (Below.refl _ _).drew);have Htd:=η (Ht.out.below (Below.refl _ _).drew)
    have hSd:=HSo.out.turn Htd.out
    have HFx:=η (hSd.fld (xe,.slice px nx cx) (List.mem_of_getElem? HXc.out));have HFy:=η (hSd.fld (ye,.slice py ny cy) (List.mem_of_getElem? HYc.out));have HBx:=η (hSd.ok (xe,.slice px nx cx) (List.mem_of_getElem? HXc.out));have HBy:=η (hSd.ok (ye,.slice py ny cy) (List.mem_of_getElem? HYc.out))
    have HMd:=η (And.intro hSd.m0 hSd.h0)
    have HXd:=η (HSd.out.cell m _ HXc.out);have HYd:=η (HSd.out.cell h _ HYc.out);have Hgd:=η HSd.out.lt
    clear HSr Ht hSd
    generalize World.drew _=wd at *
    have hS0:=Below.refl wd.heap.size wd
    refine wpAny_of_held (S:=fun W=>Below wd.heap.size wd W) _ _ _ _ ?_
    refine tk 0 (.func (.func 72) #[] #[]) rfl (h:=?_)
    refine tk 1 (.slice (some ⟨g,0,none⟩) n cap) rfl (h:=?_)
    refine tk 2 (.int .i64 (m:Int)) rfl (h:=?_)
    refine tk 3 (.pointer (some ⟨g,m*3,none⟩)) rfl (hy:=fun W hW=>by go_simp) (h:=?_)
    refine tk 4 (.agg #[.string ⟨xe.kind.toArray⟩,.string ⟨xe.key.toArray⟩,.slice px nx cx]) rfl (hy:=fun W hW=>by (have c:=Below.cell hW (p:=⟨g,m*3,none⟩) Hgd.out;have c1:=Below.cell hW (p:=⟨g,m*3+1,none⟩) Hgd.out;have c2:=Below.cell hW (p:=⟨g,m*3+2,none⟩) Hgd.out;rw [HXd.out.1] at c;rw [HXd.out.2.1] at c1;rw [HXd.out.2.2] at c2;go_simp)) (h:=?_)
    refine tk 5 (.slice (some ⟨g,0,none⟩) n cap) rfl (h:=?_)
    refine tk 6 (.int .i64 (h:Int)) rfl (h:=?_)
    refine tk 7 (.pointer (some ⟨g,h*3,none⟩)) rfl (hy:=fun W hW=>by go_simp) (h:=?_)
    refine tk 8 (.agg #[.string ⟨ye.kind.toArray⟩,.string ⟨ye.key.toArray⟩,.slice py ny cy]) rfl (hy:=fun W hW=>by (have c:=Below.cell hW (p:=⟨g,h*3,none⟩) Hgd.out;have c1:=Below.cell hW (p:=⟨g,h*3+1,none⟩) Hgd.out;have c2:=Below.cell hW (p:=⟨g,h*3+2,none⟩) Hgd.out;rw [HYd.out.1] at c;rw [HYd.out.2.1] at c1;rw [HYd.out.2.2] at c2;go_simp)) (h:=?_)
    try simp only [Act.put,π1,π2,π3,π4,π5,π6]
    refine tr 9 rfl (h:=fun K hK=>?_)
    go_simp
    go_wp2_with (go_at_call 72; refine (lb_cmp xe ye _ _ mx _ _ _ HFx.out HFy.out HBx.out HBy.out HMd.out.1 HMd.out.2).mono ?_;rintro e w5 ⟨rfl,hb5⟩;have Hb5:=η hb5;clear hb5)
    refine hK.out _ _ (Hb5.out) (fun _=>?_)
    clear K hK
    refine tk 10 (.bool true) rfl (hy:=fun W hW=>by go_simp) (h:=?_)
    refine tk 11 (.bool false) rfl (hy:=fun W hW=>by go_simp) (h:=?_)
    try simp only [Act.put,π1,π2,π3,π4,π5,π6]
    refine wpAnyH_done (by kernel_rfl) ?_ _
    have HSr:=η (HSd.out.below Hb5.out);have Ht:=η (Htd.out.below Hb5.out)
    clear HSd Htd HFx HFy HBx HBy HMd HXd HYd Hgd hS0 Hb5
    go_wp2_with fail
    go_roundw
    case rel=>exact ⟨i,h,rfl,rfl,HBi.out.down HA.out (by rw [Hn.out];have:=Hbn.out;have:=Hmb.out;omega) Hh.out.1 Hh.out.2.1 (HLe.out),HSr.out,Ht.out⟩
    case measure=>have:=Hh.out;simp [intOf];omega
   ·
    have HLe:=η (le_of HYc.out HXc.out (Mg.en_ge hneg))
    have hnd:decide (Lb.cmp xe ye<0)=false:=decide_eq_false hneg
    clear hneg
    refine wp_region_any (by kernel_rfl) ?_
    change wpAny _ _ _ _ _ _ _ (World.drew _)
    have HSd:=η (HSr.out.below (Below.refl _ _).drew);have Htd:=η (Ht.out.below (Below.refl _ _).drew)
    have hSd:=HSo.out.turn Htd.out
    have HFx:=η (hSd.fld (xe,.slice px nx cx) (List.mem_of_getElem? HXc.out));have HFy:=η (hSd.fld (ye,.slice py ny cy) (List.mem_of_getElem? HYc.out));have HBx:=η (hSd.ok (xe,.slice px nx cx) (List.mem_of_getElem? HXc.out));have HBy:=η (hSd.ok (ye,.slice py ny cy) (List.mem_of_getElem? HYc.out))
    have HMd:=η (And.intro hSd.m0 hSd.h0)
    have HXd:=η (HSd.out.cell m _ HXc.out);have HYd:=η (HSd.out.cell h _ HYc.out);have Hgd:=η HSd.out.lt
    clear HSr Ht hSd
    generalize World.drew _=wd at *
    have hS0:=Below.refl wd.heap.size wd
    refine wpAny_of_held (S:=fun W=>Below wd.heap.size wd W) _ _ _ _ ?_
    refine tk 0 (.func (.func 72) #[] #[]) rfl (h:=?_)
    refine tk 1 (.slice (some ⟨g,0,none⟩) n cap) rfl (h:=?_)
    refine tk 2 (.int .i64 (m:Int)) rfl (h:=?_)
    refine tk 3 (.pointer (some ⟨g,m*3,none⟩)) rfl (hy:=fun W hW=>by go_simp) (h:=?_)
    refine tk 4 (.agg #[.string ⟨xe.kind.toArray⟩,.string ⟨xe.key.toArray⟩,.slice px nx cx]) rfl (hy:=fun W hW=>by (have c:=Below.cell hW (p:=⟨g,m*3,none⟩) Hgd.out;have c1:=Below.cell hW (p:=⟨g,m*3+1,none⟩) Hgd.out;have c2:=Below.cell hW (p:=⟨g,m*3+2,none⟩) Hgd.out;rw [HXd.out.1] at c;rw [HXd.out.2.1] at c1;rw [HXd.out.2.2] at c2;go_simp)) (h:=?_)
    refine tk 5 (.slice (some ⟨g,0,none⟩) n cap) rfl (h:=?_)
    refine tk 6 (.int .i64 (h:Int)) rfl (h:=?_)
    refine tk 7 (.pointer (some ⟨g,h*3,none⟩)) rfl (hy:=fun W hW=>by go_simp) (h:=?_)
    refine tk 8 (.agg #[.string ⟨ye.kind.toArray⟩,.string ⟨ye.key.toArray⟩,.slice py ny cy]) rfl (hy:=fun W hW=>by (have c:=Below.cell hW (p:=⟨g,h*3,none⟩) Hgd.out;have c1:=Below.cell hW (p:=⟨g,h*3+1,none⟩) Hgd.out;have c2:=Below.cell hW (p:=⟨g,h*3+2,none⟩) Hgd.out;rw [HYd.out.1] at c;rw [HYd.out.2.1] at c1;rw [HYd.out.2.2] at c2;go_simp)) (h:=?_)
    try simp only [Act.put,π1,π2,π3,π4,π5,π6]
    refine tr 9 rfl (h:=fun K hK=>?_)
    go_simp
    go_wp2_with (go_at_call 72; refine (lb_cmp xe ye _ _ mx _ _ _ HFx.out HFy.out HBx.out HBy.out HMd.out.1 HMd.out.2).mono ?_;rintro e w5 ⟨rfl,hb5⟩;have Hb5:=η hb5;clear hb5)
    refine hK.out _ _ (Hb5.out) (fun _=>?_)
    clear K hK
    refine tk 10 (.bool false) rfl (hy:=fun W hW=>by go_simp) (h:=?_)
    refine tk 11 (.bool true) rfl (hy:=fun W hW=>by go_simp) (h:=?_)
    try simp only [Act.put,π1,π2,π3,π4,π5,π6]
    refine wpAnyH_done (by kernel_rfl) ?_ _
    have HSr:=η (HSd.out.below Hb5.out);have Ht:=η (Htd.out.below Hb5.out)
    clear HSd Htd HFx HFy HBx HBy HMd HXd HYd Hgd hS0 Hb5
    go_wp2_with fail
    go_roundw
    case rel=>exact ⟨h1,j,rfl,rfl,by rw [Hh.out.2.2];exact HBi.out.up HA.out (by rw [Hn.out];have:=Hbn.out;have:=Hmb.out;omega) Hh.out.1 Hh.out.2.1 (HLe.out),HSr.out,Ht.out⟩
    case measure=>have:=Hh.out;simp [intOf];omega
  ·
   have hij:i=j:=by have:=HBi.out.l1;omega
   subst hij
   have hlt':¬(i:Int)<(i:Int):=by omega
   clear hlt
   go_wp2_with fail
   go_loopw [17] (fun kv wq=>∃(k:Nat) (C:List (Ent.Ent × Value)),(i≤k∧k≤m)∧kv = .int .i64 (k:Int)∧SRow wq g C∧Is (shr m k) L C∧C.Perm L∧Turn g w wq) (fun kv _=>(intOf kv).toNat)
   case atStart=>exact ⟨m,L,⟨HBi.out.l2,Nat.le_refl _⟩,rfl,HSr.out,Mg.shr_start m L,.refl _,Ht.out⟩
   case round =>
    clear HSr Ht
    obtain ⟨k,C,hk,rfl,hSr,hIs,hp,ht⟩:=hrel
    have HCl:=η (show C.length=n from hp.length_eq.trans Hn.out)
    by_cases hlt:i<k
    ·
     have hlt':(i:Int)<(k:Int):=by omega
     obtain ⟨k0,hk0⟩:∃k0,k0+1=k:=⟨k - 1,by omega⟩
     have hkn:(k:Int)<(n:Int):=by have:=Hbn.out;have:=Hma.out;omega
     have hk0n:(k0:Int)<(n:Int):=by omega
     have hwk:IntKind.i64.wrap ((k:Int) - 1)=(k0:Int):=by rw [IntWalk.i64_in _ (by have:=Hl.out;omega)];omega
     have hV:∀p ∈ C,SliceV p:=fun p hm=>HS.out.form p (hp.mem_iff.1 hm)
     have hCl:=HCl.out
     obtain ⟨⟨xe,vx⟩,hxc⟩:∃x,C[k]? = some x:=⟨_,List.getElem?_eq_getElem (by omega)⟩
     obtain ⟨px,nx,cx,hvx⟩:=hV (xe,vx) (List.mem_of_getElem? hxc)
     have hvx:vx=_:=hvx
     subst hvx
     obtain ⟨⟨ye,vy⟩,hyc⟩:∃x,C[k0]? = some x:=⟨_,List.getElem?_eq_getElem (by omega)⟩
     obtain ⟨py,ny,cy,hvy⟩:=hV (ye,vy) (List.mem_of_getElem? hyc)
     have hvy:vy=_:=hvy
     subst hvy
     have HXc:=η hxc;have HYc:=η hyc;have HNe:=η (show k≠k0 by omega)
     have HSr:=η hSr;have Ht:=η ht
     have HIs:=η (show Is (shr m k0) L ((C.set k (ye,.slice py ny cy)).set k0 (xe,.slice px nx cx)) by rw [←hk0] at hIs hxc ⊢;exact Mg.shr_step hIs (by omega) hxc hyc)
     have Hp:=η ((Mg.swap_perm hxc hyc).trans hp)
     have HK:=η (show i≤k0∧k0≤m∧k0<k by omega)
     clear hk hSr hIs hp ht hlt hk0 hV hxc hyc hCl
     go_upto_region 23 with fail
     refine wp_region_any (by kernel_rfl) ?_
     change wpAny _ _ _ _ _ _ _ (World.drew _)
     have HSd:=η (HSr.out.below (Below.refl _ _).drew);have Htd:=η (Ht.out.below (Below.refl _ _).drew)
     have HXd:=η (HSd.out.cell k _ HXc.out);have HYd:=η (HSd.out.cell k0 _ HYc.out)
     have hIl:k<C.length:=by rw [HCl.out];omega
     clear HSr Ht
     generalize World.drew _=wd2 at *
     have hS0:(fun W:World=>True) wd2:=trivial
     dsimp only at hS0
     refine wpAny_of_held (S:=fun W=>True) _ _ _ _ ?_
     refine tk 0 (.slice (some ⟨g,0,none⟩) n cap) rfl (hy:=fun W hW=>by go_simp) (h:=?_)
     refine tk 1 (.int .i64 (k:Int)) rfl (hy:=fun W hW=>by go_simp) (h:=?_)
     refine tk 2 (.slice (some ⟨g,0,none⟩) n cap) rfl (hy:=fun W hW=>by go_simp) (h:=?_)
     refine tk 3 (.int .i64 (k:Int)) rfl (hy:=fun W hW=>by go_simp) (h:=?_)
     refine tk 4 (.int .i64 (k0:Int)) rfl (hy:=fun W hW=>by go_simp) (h:=?_)
     refine tk 5 (.slice (some ⟨g,0,none⟩) n cap) rfl (hy:=fun W hW=>by go_simp) (h:=?_)
     refine tk 6 (.int .i64 (k:Int)) rfl (hy:=fun W hW=>by go_simp) (h:=?_)
     refine tk 7 (.int .i64 (k0:Int)) rfl (hy:=fun W hW=>by go_simp) (h:=?_)
     refine tk 8 (.pointer (some ⟨g,k0*3,none⟩)) rfl (hy:=fun W hW=>by go_simp) (h:=?_)
     refine tk 10 (.slice (some ⟨g,0,none⟩) n cap) rfl (hy:=fun W hW=>by go_simp) (h:=?_)
     refine tk 11 (.int .i64 (k:Int)) rfl (hy:=fun W hW=>by go_simp) (h:=?_)
     refine tk 12 (.pointer (some ⟨g,k*3,none⟩)) rfl (hy:=fun W hW=>by go_simp) (h:=?_)
     try simp only [Act.put,π1,π2,π3,π4,π5,π6]
     refine wpAnyH_ready (rs:=[9,13]) (by kernel_rfl) (by simp) ?_
     refine AllReadyH.cons rfl (fun K hK=>?_) (AllReadyH.cons rfl (fun K hK=>?_) AllReadyH.nil)
     ·
      have c:=HYd.out.1;have c1:=HYd.out.2.1;have c2:=HYd.out.2.2
      go_simp
      refine hK.out _ _ trivial (fun _=>?_)
      clear K hK c c1 c2
      try simp only [Act.put,π1,π2,π3,π4,π5,π6]
      refine tr 13 rfl (h:=fun K hK=>?_)
      have c:=HXd.out.1;have c1:=HXd.out.2.1;have c2:=HXd.out.2.2
      go_simp
      refine hK.out _ _ trivial (fun _=>?_)
      clear K hK c c1 c2
      refine tk 14 (.pointer (some ⟨g,k*3,none⟩)) rfl (hy:=fun W hW=>by go_simp) (h:=?_)
      try simp only [Act.put,π1,π2,π3,π4,π5,π6]
      refine tr 15 rfl (h:=fun K hK=>?_)
      have r0:=HSd.out.free (k*3);have r1:=HSd.out.free (k*3+1);have r2:=HSd.out.free (k*3+2);have x0:=HXd.out.1;have x1:=HXd.out.2.1;have x2:=HXd.out.2.2
      go_simp
      have hR1:=HSd.out.put hIl ye (.slice py ny cy)
      refine hK.out _ _ trivial (fun _=>?_)
      clear K hK r0 r1 r2 x0 x1 x2
      refine tk 16 (.pointer (some ⟨g,k0*3,none⟩)) rfl (hy:=fun W hW=>by go_simp) (h:=?_)
      try simp only [Act.put,π1,π2,π3,π4,π5,π6]
      refine tr 17 rfl (h:=fun K hK=>?_)
      have hyy:=hR1.cell k0 (ye,.slice py ny cy) (by rw [List.getElem?_set_ne HNe.out];exact HYc.out)
      have r0:=hR1.free (k0*3);have r1:=hR1.free (k0*3+1);have r2:=hR1.free (k0*3+2);have x0:=hyy.1;have x1:=hyy.2.1;have x2:=hyy.2.2
      go_simp
      have hR2:=hR1.put (k:=k0) (by rw [List.length_set,HCl.out];omega) xe (.slice px nx cx)
      refine hK.out _ _ trivial (fun _=>?_)
      clear K hK r0 r1 r2 x0 x1 x2
      try simp only [Act.put,π1,π2,π3,π4,π5,π6]
      refine wpAnyH_done (by kernel_rfl) ?_ _
      go_wp2_with fail
      go_roundw
      case rel=>exact ⟨k0,_,⟨HK.out.1,HK.out.2.1⟩,rfl,hR2,HIs.out,Hp.out,((((((Htd.out.set _ _).set _ _).set _ _).set _ _).set _ _).set _ _)⟩
      case measure=>have:=HK.out.2.2;simp [intOf];omega
     ·
      have c:=HXd.out.1;have c1:=HXd.out.2.1;have c2:=HXd.out.2.2
      go_simp
      refine hK.out _ _ trivial (fun _=>?_)
      clear K hK c c1 c2
      try simp only [Act.put,π1,π2,π3,π4,π5,π6]
      refine tr 9 rfl (h:=fun K hK=>?_)
      have c:=HYd.out.1;have c1:=HYd.out.2.1;have c2:=HYd.out.2.2
      go_simp
      refine hK.out _ _ trivial (fun _=>?_)
      clear K hK c c1 c2
      refine tk 14 (.pointer (some ⟨g,k*3,none⟩)) rfl (hy:=fun W hW=>by go_simp) (h:=?_)
      try simp only [Act.put,π1,π2,π3,π4,π5,π6]
      refine tr 15 rfl (h:=fun K hK=>?_)
      have r0:=HSd.out.free (k*3);have r1:=HSd.out.free (k*3+1);have r2:=HSd.out.free (k*3+2);have x0:=HXd.out.1;have x1:=HXd.out.2.1;have x2:=HXd.out.2.2
      go_simp
      have hR1:=HSd.out.put hIl ye (.slice py ny cy)
      refine hK.out _ _ trivial (fun _=>?_)
      clear K hK r0 r1 r2 x0 x1 x2
      refine tk 16 (.pointer (some ⟨g,k0*3,none⟩)) rfl (hy:=fun W hW=>by go_simp) (h:=?_)
      try simp only [Act.put,π1,π2,π3,π4,π5,π6]
      refine tr 17 rfl (h:=fun K hK=>?_)
      have hyy:=hR1.cell k0 (ye,.slice py ny cy) (by rw [List.getElem?_set_ne HNe.out];exact HYc.out)
      have r0:=hR1.free (k0*3);have r1:=hR1.free (k0*3+1);have r2:=hR1.free (k0*3+2);have x0:=hyy.1;have x1:=hyy.2.1;have x2:=hyy.2.2
      go_simp
      have hR2:=hR1.put (k:=k0) (by rw [List.length_set,HCl.out];omega) xe (.slice px nx cx)
      refine hK.out _ _ trivial (fun _=>?_)
      clear K hK r0 r1 r2 x0 x1 x2
      try simp only [Act.put,π1,π2,π3,π4,π5,π6]
      refine wpAnyH_done (by kernel_rfl) ?_ _
      go_wp2_with fail
      go_roundw
      case rel=>exact ⟨k0,_,⟨HK.out.1,HK.out.2.1⟩,rfl,hR2,HIs.out,Hp.out,((((((Htd.out.set _ _).set _ _).set _ _).set _ _).set _ _).set _ _)⟩
      case measure=>have:=HK.out.2.2;simp [intOf];omega
    ·
     have he:k=i:=by omega
     subst he
     have hlt':¬(k:Int)<(k:Int):=by omega
     have HSr:=η hSr;have HIs:=η hIs;have Hp:=η hp;have Ht:=η ht
     clear hSr hIs hp ht hlt hk
     go_wp2_with fail
     first | refine bodyPost_ret (results_none rfl _ _ _) rfl ?_ | refine bodyPost_end (results_none rfl _ _ _) rfl ?_
     have hI:=HIs.out
     have hm1:=Hma.out
     have hb:=HBi.out
     subst hm1
     exact ⟨rfl,C,HSr.out,Mg.shr_mv hI Hp.out hb.l0 hb.l2,Mg.shr_asc hI hb.l0 hb.l2 HA.out hb.bel hb.abv,Ht.out⟩
end Go.Proofs.YtgnfmopcialllaaGreatDoor
