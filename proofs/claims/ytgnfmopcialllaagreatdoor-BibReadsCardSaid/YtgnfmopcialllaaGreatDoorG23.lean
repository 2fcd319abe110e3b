/- The walk of label.All. The walks of package bib, fourth part: a database. The plain model of packages wire and side (layers 3 and 10): texts with their lengths ahead, and what one run tells the next. Plain Lean, no program in sight. Plain laws of layers 3 and 10: what is encoded is decoded as it was; what is decoded is what is encoded of it. Plain Lean, no program in sight. -/
import Derived.Test.YtgnfmopcialllaaGreatDoorTk
import Derived.Test.YtgnfmopcialllaaGreatDoorG22
import Derived.Test.YtgnfmopcialllaaGreatDoorG12
import Derived.Test.YtgnfmopcialllaaGreatDoorG20
import Derived.Test.YtgnfmopcialllaaGreatDoorG05
import Derived.Test.YtgnfmopcialllaaGreatDoorG06
set_option linter.unusedSimpArgs false
set_option linter.unusedVariables false
namespace Go.Proofs.YtgnfmopcialllaaGreatDoor
open Go.RowKit
theorem Ents.strong {S:Nat→Prop} {w:World} {v:Value} {l:List Ent.Ent} (h:Ents S w v l):Ents (fun j=>S j∧j<w.heap.size) w v l :=
 SliceIn.moved h (fun b hb hlt=>⟨⟨hb,hlt⟩,rfl⟩) (Nat.le_refl _) (fun x vs _ hx=>REnt.moved hx (fun b hb hlt=>⟨⟨hb,hlt⟩,rfl⟩) (Nat.le_refl _))
theorem E5.block {W W':World} {g:Nat} {a b c d e:Value} (h:E5 W g a b c d e) (hb:W'.heap[g]? = W.heap[g]?) (hz:W.heap.size≤W'.heap.size):E5 W' g a b c d e:=by
 have hc:∀i,W'.cell? ⟨g,i,none⟩=W.cell? ⟨g,i,none⟩:=fun i=>World.cell?_of_block (w:=W) (a:=⟨g,i,none⟩) hb
 exact ⟨(hc 0).trans h.c0,(hc 1).trans h.c1,(hc 2).trans h.c2,(hc 3).trans h.c3,(hc 4).trans h.c4,fun i=>(World.frozen?_of_block (w:=W) (a:=⟨g,i,none⟩) hb).trans (h.f i),Nat.lt_of_lt_of_le h.lt hz⟩
theorem cit0_eq {x:Ent.Ent} {a b:List UInt8} (h1:Lb.letters x=a) (h2:Lb.textOf x=b):cit0 x=⟨x,a,b⟩:=by unfold cit0;rw [h1,h2]
theorem citK_step {style:Int} {o:List Ent.Ent} {cs:List (Lb.Cited × Value)} {k k1:Nat} {x:Ent.Ent} {Lt Tx t:List UInt8} {vx:Value} (h:∀i x,o[i]? = some x → ∃v,cs[i]? = some (citK style o k i x,v)) (hx:o[k]? = some x) (hk:k1=k+1) (hn:cs.length=o.length)
  (hLt:Lb.letters x=Lt) (hTx:Lb.textOf x=Tx) (ht:Lb.tag style (o.map Lb.letters) k Lt=t):∀i x',o[i]? = some x' → ∃v,(cs.set k (⟨x,t,Tx⟩,vx))[i]? = some (citK style o k1 i x',v):=by
 intro i x' hx'
 have hkl:=(List.getElem?_eq_some_iff.1 hx).1
 by_cases hik:i=k
 ·
  subst hik
  rw [hx] at hx'
  obtain rfl:=Option.some.inj hx'
  refine ⟨vx,?_⟩
  rw [List.getElem?_set_self (by omega)]
  unfold citK
  rw [if_pos (by omega),hLt,hTx,ht]
 ·
  obtain ⟨v,hv⟩:=h i x' hx'
  refine ⟨v,?_⟩
  rw [List.getElem?_set_ne (Ne.symm hik),hv]
  unfold citK
  by_cases h1:i<k
  ·
   rw [if_pos h1,if_pos (by omega)]
  ·
   rw [if_neg h1,if_neg (by omega)]
theorem citK_keep {style:Int} {o:List Ent.Ent} {cs:List (Lb.Cited × Value)} {k k1:Nat} {x:Ent.Ent} {Lt Tx:List UInt8} {vx:Value} (h:∀i x,o[i]? = some x → ∃v,cs[i]? = some (citK style o k i x,v)) (hx:o[k]? = some x) (hk:k1=k+1) (hn:cs.length=o.length)
  (hLt:Lb.letters x=Lt) (hTx:Lb.textOf x=Tx) (ht:Lb.tag style (o.map Lb.letters) k Lt=Lt) (hc:cs[k]? = some (⟨x,Lt,Tx⟩,vx)):∀i x',o[i]? = some x' → ∃v,cs[i]? = some (citK style o k1 i x',v):=by
 have h:=citK_step (vx:=vx) h hx hk hn hLt hTx ht
 have hs:cs.set k (⟨x,Lt,Tx⟩,vx)=cs:=by
  obtain ⟨h1,h2⟩:=List.getElem?_eq_some_iff.1 hc
  rw [←h2];exact List.set_getElem_self h1
 rwa [hs] at h
theorem Ast.setG {B M N:Nat} {w W:World} {v vn:Value} {o:List Ent.Ent} {ns:List (Int × List UInt8)} {many used:List (List UInt8)} (h:Ast B M N w v vn o ns many used W) {g:Nat} (hg:N≤g) (i:Nat) (u:Value):Ast B M N w v vn o ns many used (W.setCell ⟨g,i,none⟩ u) :=
 h.keep (by simp [World.setCell]) (h.b.setCell (p:=⟨g,i,none⟩) (by have:=h.h1;have:=h.h2;show B≤g;omega) u) (fun j hj=>Below.heap_setCell _ _ _ _ (fun e=>by have e:j=g:=e;omega))
theorem text3_len (c:Nat) (h:1≤c) (h2:c≤1000):(Cnt.text (c:Int) 3).length≤1000:=by
 have hc:=Cnt.cut_of (n:=(c:Int)) (by omega) (by omega)
 unfold Cnt.text
 rw [hc,if_neg (by omega),if_neg (by omega),if_pos ⟨rfl,by omega⟩]
 have:=letGo_length c c
 unfold Cnt.lettered
 simp only [Int.toNat_natCast]
 omega
set_option maxRecDepth 100000 in
set_option maxHeartbeats 6400000 in
theorem lb_All (l:List Ent.Ent) (v:Value) (ks:List (List UInt8)) (vk:Value) (style m:Int) (S:Nat→Prop) (w:World) (hL:Laid01 w) (hE:Ents (fun j=>j<w.heap.size) w v l) (hK:SliceIn S 1 RStr w vk ks) (hl:l.length≤1000000) (hok:∀x ∈ l,Lb.EntB x∧x.fields.length≤1000) (hkl:ks.length≤1000) (hks:∀k ∈ ks,k.length≤maxLen)
  (hpk:∀x ∈ (Lb.pick l ks).1,Lb.EntB x) (hpn:(Lb.pick l ks).1.length≤39) (hm:w.cell? ⟨2, 0,none⟩=some (.int .i64 m)) (h0 : 2 < w.heap.size) :
  Calls Tryz.prog 17 #[v,vk,.int .i64 style] w fun e w'=>(∃vc vn,e = .returned (.tuple #[vc,vn])∧SliceIn (fun j=>w.heap.size≤j) 5 (RCit (fun j=>w.heap.size≤j) w') w' vc (Lb.all l ks style).1∧SliceIn (fun j=>w.heap.size≤j) 2 RNote w' vn (Lb.all l ks style).2)∧Below w.heap.size w w':=by
 obtain ⟨i0,hi,hz0,hz1,hz2⟩:=info_parts cit_info
 have Hi:=η hi;have Hz0:=η hz0;have Hz1:=η hz1;have Hz2:=η hz2;clear hi hz0 hz1 hz2
 have hmm:=@run_makeMap Tryz.prog
 have hall:Lb.all l ks style=(Lb.tagged style (Lb.order (Lb.pick l ks).1),(Lb.pick l ks).2):=rfl
 obtain ⟨P,ns,hPn⟩:∃P ns,Lb.pick l ks=(P,ns):=⟨_,_,rfl⟩
 have hnd:(P.map (·.key)).Nodup:=by have h:=Lb.pick_keys l ks;rw [hPn] at h;exact h
 have Hnd:=η hnd;clear hnd
 rw [hPn] at hall hpk hpn
 dsimp only at hall hpk hpn
 have hop:=Lb.order_perm P
 obtain ⟨o,ho⟩:∃o,Lb.order P=o:=⟨_,rfl⟩
 rw [ho] at hall hop
 have hon:o.length≤39:=by rw [hop.length_eq];exact hpn
 have hob:∀x ∈ o,Lb.EntB x:=fun x hx=>hpk x (hop.mem_iff.1 hx)
 have hLB:∀W,Below w.heap.size w W→Laid01 W∧W.cell? ⟨2, 0,none⟩=some (.int .i64 m) ∧ 2 < W.heap.size:=fun W hW=>⟨hL.below hW,keptM hm h0 hW⟩
 have hPick:=lb_Pick l v ks vk S w hE hK hl hok hkl hks
 rw [hPn] at hPick
 dsimp only at hPick
 obtain ⟨B,hB⟩:∃B,w.heap.size=B:=⟨_,rfl⟩
 rw [hB] at hLB hPick ⊢
 have HLB:=η hLB;have Hall:=η hall;have Hpk:=η hpk;have Hpn:=η hpn;have Ho:=η ho;have Hon:=η hon;have Hob:=η hob;have HPick:=η hPick
 clear hL hE hK hl hok hkl hks hm h0 hall hPn hpk hpn hop ho hon hob hLB hPick
 go_enter Tryz.func17, Tryz.ntmps17
 go_upto_region 4 with (go_at_call 36; refine (HPick.out).mono ?_;rintro e w1 ⟨⟨vo,vn,rfl,hO,hN⟩,hb1⟩;have HO1:=η hO.strong;have HN1:=η hN.strong;have Hb1:=η hb1;clear hO hN hb1)
 obtain ⟨M,hM⟩:∃M,w1.heap.size=M:=⟨_,rfl⟩
 have hz2:((w1.alloc (.map #[] 0)).alloc (.map #[] 0)).heap.size=M+2:=by simp [hM]
 have hbm:Below w1.heap.size w1 ((w1.alloc (.map #[] 0)).alloc (.map #[] 0)):=((Below.refl _ _).alloc (Nat.le_refl _) _).alloc (by simp) _
 have hmM:IMap ((w1.alloc (.map #[] 0)).alloc (.map #[] 0)) M 0 (seenN []):=by
  have h:=(IMap.made w1).below (below_new (w1.alloc (.map #[] 0)) (.map #[] 0))
  rw [hM] at h
  exact h.cong fun s=>by simp [seenN]
 have hmU:IMap ((w1.alloc (.map #[] 0)).alloc (.map #[] 0)) (M+1) 0 (seenN []):=by
  have h:=IMap.made (w1.alloc (.map #[] 0))
  rw [show (w1.alloc (.map #[] 0)).heap.size=M+1 by simp [hM]] at h
  exact h.cong fun s=>by simp [seenN]
 obtain ⟨w2,hw2⟩:∃W,W=(w1.alloc (.map #[] 0)).alloc (.map #[] 0):=⟨_,rfl⟩
 rw [←hw2] at hz2 hbm hmM hmU ⊢
 try rw [hM]
 have HO2:=η (Ents.below HO1.out hbm);have HN2:=η (SliceIn.below' HN1.out hbm);have Hb2:=η (show Below B w w2 from Hb1.out.trans (hbm.mono (by rw [←hB];exact Hb1.out.size)));have HmM:=η hmM;have HmU:=η hmU;have Hz:=η hz2;have HBM:=η (show B≤M by rw [←hM,←hB];exact Hb1.out.size)
 subst hw2
 go_wp2_with (go_at_call 37; go_loud (refine (lb_Order P vo m _ _ HO2.out Hpn.out Hnd.out Hpk.out (HLB.out _ Hb2.out).2.1 (HLB.out _ Hb2.out).2.2).mono ?_);go_loud (rw [Ho.out]);rintro e w3 ⟨⟨v3,rfl,hO3⟩,hb3⟩;obtain ⟨p3,n3,c3,hv3⟩:=SliceIn.shape hO3;have hn3:n3=o.length:=(by obtain ⟨_,_,h,_⟩:=hO3;rw [hv3] at h;simp only [Value.slice.injEq] at h;exact h.2.1);subst hv3;subst hn3;have HO3:=η hO3.strong;have Hb3:=η hb3;clear hO3 hb3)
 obtain ⟨N,hN⟩:∃N,w3.heap.size=N:=⟨_,rfl⟩
 have HA0:=η (show Ast B M N w (.slice p3 o.length c3) vn o ns [] [] w3 from
  ⟨Ents.kept HO3.out (fun j hj=>⟨by have:=hj.1;rw [Hz.out] at this;exact this,by rw [←hN];exact hj.2⟩) (Nat.le_refl _) (fun _ _ _=>rfl),
   SliceIn.kept (SliceIn.below' HN2.out Hb3.out) (fun j hj=>⟨hj.1,by rw [←hM];exact hj.2⟩) (Nat.le_refl _) (fun _ _ _=>rfl) (fun _ _ _ h=>h),
   HmM.out.below Hb3.out,HmU.out.below Hb3.out,Hb2.out.trans (Hb3.out.mono (by have:=Hz.out;have:=HBM.out;omega)),HBM.out,by rw [←hN,←Hz.out];exact Hb3.out.size,by rw [hN];exact Nat.le_refl _⟩)
 have HR0:=η (show Arow M N (.slice none 0 0) [] w3 from ⟨⟨by simp [ccells],.inl ⟨rfl,rfl⟩⟩,fun p hp=>by cases hp⟩)
 clear HO1 HN1 Hb1 hbm hmM hmU hz2 HO2 HN2 HmM HmU HO3 Hb3 Hb2 HPick
 obtain ⟨L,hL⟩:∃L,o.map Lb.letters=L:=⟨_,rfl⟩
 have HLe:=η hL
 have HLl:=η (show L.length=o.length by rw [←hL,List.length_map])
 clear hL
 have hon19:=Hon.out
 go_loopw [10,29] (fun vo iv wr=>∃(k:Nat) (cs:List (Lb.Cited × Value)),k≤o.length∧iv = .int .i64 (k:Int)∧cs.map (·.1)=(o.take k).map cit0∧Ast B M N w (.slice p3 o.length c3) vn o ns (L.take k) [] wr∧Arow M N vo cs wr) (fun _ iv _=>o.length - (intOf iv).toNat)
 case atStart=>exact ⟨0,[],Nat.zero_le _,rfl,rfl,HA0.out,HR0.out⟩
 case round =>
  clear HA0 HR0
  obtain ⟨k,cs,hk,rfl,hcs,hA,hR⟩:=hrel
  have HA:=η hA;have HR:=η hR;have Hcs:=η hcs
  have hcl:cs.length=k:=by rw [←List.length_map (f:=(·.1)),hcs,List.length_map,List.length_take];omega
  clear hA hR hcs
  by_cases hlt:k<o.length
  ·
   obtain ⟨x,hx⟩:∃x,o[k]? = some x:=⟨_,List.getElem?_eq_getElem hlt⟩
   obtain ⟨b,off,px,nx,cx,hq,e0,e1,e2,hF⟩:∃b off px nx cx,p3=some ⟨b,off,none⟩∧wr.cell? ⟨b,off+k*3,none⟩=some (.string ⟨x.kind.toArray⟩)∧wr.cell? ⟨b,off+k*3+1,none⟩=some (.string ⟨x.key.toArray⟩)∧wr.cell? ⟨b,off+k*3+2,none⟩=some (.slice px nx cx)∧SliceIn (fun j=>M+2≤j∧j<N) 2 RFld wr (.slice px nx cx) x.fields:=by
    obtain ⟨pa,ca,hv,_,_,hat⟩:=HA.out.e
    obtain ⟨b,off,vs,rfl,_,_,hR,hc⟩:=hat k x hx
    obtain ⟨vf,rfl,hF⟩:=hR
    obtain ⟨p1,n1,c1,hv1⟩:=SliceIn.shape hF
    subst hv1
    simp only [Value.slice.injEq] at hv
    exact ⟨b,off,p1,n1,c1,hv.1,hc 0 _ rfl,hc 1 _ rfl,hc 2 _ rfl,hF⟩
   subst hq
   have hxB:=Hob.out x (List.mem_of_getElem? hx)
   have hlt':(k:Int)<(o.length:Int):=by omega
   obtain ⟨k1,hk1⟩:∃k1,k1=k+1:=⟨_,rfl⟩
   have hwk:IntKind.i64.wrap ((k:Int)+1)=(k1:Int):=by rw [IntWalk.i64_in _ (by omega)];omega
   obtain ⟨Lt,hLt⟩:∃Lt,Lb.letters x=Lt:=⟨_,rfl⟩
   obtain ⟨Tx,hTx⟩:∃Tx,Lb.textOf x=Tx:=⟨_,rfl⟩
   have hLk:L.take k1=L.take k++[Lt]:=by rw [hk1,List.take_add_one,←HLe.out,List.getElem?_map,hx,←hLt];rfl
   have hll:Lt.length≤8:=by rw [←hLt];exact Lb.letters_len x
   have hlm:Lt.length≤maxLen:=by unfold maxLen;omega
   have hsl:(L.take k).length≤1000:=by rw [List.length_take];have:=HLl.out;omega
   have hcb:-9223372036854775808≤seenN (L.take k) Lt+1∧seenN (L.take k) Lt+1≤9223372036854775807:=by unfold seenN;have:=List.count_le_length (a:=Lt) (l:=L.take k);omega
   have hwc:IntKind.i64.wrap (seenN (L.take k) Lt+1)=seenN (L.take k) Lt+1:=IntWalk.i64_in _ hcb
   have hsm:(L.take k).length<maxLen:=by unfold maxLen;omega
   have hc1:(cs++[((cit0 x),Value.slice px nx cx)]).map (·.1)=(o.take k1).map cit0:=by rw [List.map_append,Hcs.out,hk1,List.take_add_one,hx];simp
   have HxB:=η hxB;have HLt:=η hLt;have HTx:=η hTx;have HLk:=η hLk;have Hlm:=η hlm;have Hcb:=η hcb;have Hsm:=η hsm;have Hc1:=η hc1;have Hlt:=η hlt;have Hk1:=η hk1;have HF:=η hF;have Hcl:=η (show cs.length≤1000 by omega)
   clear hxB hLt hTx hLk hll hlm hsl hcb hsm hc1 hlt hk1 hx hF hcl hk
   go_upto_region 7 with fail
   obtain ⟨w4,hw4⟩:∃W,W=wr.alloc (.cells #[.string ⟨x.kind.toArray⟩,.string ⟨x.key.toArray⟩,.slice px nx cx] 60):=⟨_,rfl⟩
   obtain ⟨gx,hgx⟩:∃g,wr.heap.size=g:=⟨_,rfl⟩
   rw [←hw4]
   try rw [hgx]
   have hb4:Below wr.heap.size wr w4:=by rw [hw4];exact below_new _ _
   have hEx:E3 w4 gx (.string ⟨x.kind.toArray⟩) (.string ⟨x.key.toArray⟩) (.slice px nx cx):=by rw [hw4,←hgx];exact E3.new _ _ _ _ _
   have HA4:=η (HA.out.below hb4);have HR4:=η (HR.out.below HA.out.h3 hb4);have HF4:=η (SliceIn.below' HF.out hb4);have HEx:=η hEx
   clear hb4 hEx hw4 hgx e0 e1 e2 HA HR HF
   go_cut [15] (fun va W=>∃gc,va = .pointer (some ⟨gc,0,none⟩)∧w4.heap.size≤gc∧E5 W gc (.string ⟨x.kind.toArray⟩) (.string ⟨x.key.toArray⟩) (.slice px nx cx) (.string ⟨Lt.toArray⟩) (.string ⟨Tx.toArray⟩)∧Below w4.heap.size w4 W)
   case first =>
    refine wp_region_any (by kernel_rfl) ?_
    change wpAny _ _ _ _ _ _ _ (World.drew _)
    have HBd:=η (Below.drew (Below.refl w4.heap.size w4))
    have HEd:=η HEx.out.drew;have HFd:=η (SliceIn.below' HF4.out (Below.refl _ _).drew)
    have hMd:=(HLB.out _ (HA4.out.b.drew)).2
    have HMd:=η hMd
    have HBx:=HxB
    clear hMd HEx HF4
    generalize w4.drew=wd at *
    have hS0:=Below.refl wd.heap.size wd
    have HB_wd:=η hS0
    refine wpAny_of_held (S:=fun W=>Below wd.heap.size wd W) _ _ _ _ ?_
    refine tk 0 (.agg #[.string ⟨x.kind.toArray⟩,.string ⟨x.key.toArray⟩,.slice px nx cx]) rfl (hy:=fun W hW=>by (obtain ⟨c0,c1,c2,_,_⟩:=HEd.out.below' hW;go_simp)) (h:=?_)
    refine tk 1 (.agg #[.string ⟨x.kind.toArray⟩,.string ⟨x.key.toArray⟩,.slice px nx cx]) rfl (hy:=fun W hW=>by (obtain ⟨c0,c1,c2,_,_⟩:=HEd.out.below' hW;go_simp)) (h:=?_)
    refine tk 3 (.agg #[.string ⟨x.kind.toArray⟩,.string ⟨x.key.toArray⟩,.slice px nx cx]) rfl (hy:=fun W hW=>by (obtain ⟨c0,c1,c2,_,_⟩:=HEd.out.below' hW;go_simp)) (h:=?_)
    try simp only [Act.put,π1,π2,π3,π4,π5,π6]
    refine wpAnyH_ready (rs:=[2,6]) (by kernel_rfl) (by simp) ?_
    refine AllReadyH.cons rfl (fun K hK=>?_) (AllReadyH.cons rfl (fun K hK=>?_) AllReadyH.nil)
    ·
     go_simp
     go_wp2_with (go_at_call 38; refine (lb_letters x _ m _ _ (SliceIn.below' HFd.out HB_wd.out) HBx.out (keptM HMd.out.1 HMd.out.2 HB_wd.out).1 (keptM HMd.out.1 HMd.out.2 HB_wd.out).2).mono ?_;rw [HLt.out];rintro e wq1 ⟨rfl,hbq⟩;have HB_wq1:=η (bseq HB_wd.out hbq);clear hbq)
     refine hK.out _ _ HB_wq1.out (fun _=>?_)
     clear K hK
     try simp only [Act.put,π1,π2,π3,π4,π5,π6]
     refine wpAnyH_ready (rs:=[4,6]) (by kernel_rfl) (by simp) ?_
     refine AllReadyH.cons rfl (fun K hK=>?_) (AllReadyH.cons rfl (fun K hK=>?_) AllReadyH.nil)
     ·
      go_simp
      go_wp2_with (go_at_call 39; refine (lb_Text x _ m _ _ (SliceIn.below' HFd.out HB_wq1.out) HBx.out (keptM HMd.out.1 HMd.out.2 HB_wq1.out).1 (keptM HMd.out.1 HMd.out.2 HB_wq1.out).2).mono ?_;rw [HTx.out];rintro e wq2 ⟨rfl,hbq⟩;have HB_wq2:=η (bseq HB_wq1.out hbq);clear hbq)
      refine hK.out _ _ HB_wq2.out (fun _=>?_)
      clear K hK
      refine tk 5 (.agg #[.string ⟨x.kind.toArray⟩,.string ⟨x.key.toArray⟩,.slice px nx cx,.string ⟨Lt.toArray⟩,.string ⟨Tx.toArray⟩]) rfl (h:=?_)
      try simp only [Act.put,π1,π2,π3,π4,π5,π6]
      refine tr 6 rfl (h:=fun K hK=>?_)
      ·
       go_simp
       obtain ⟨wq3,hwq3⟩:∃W,W=wq2.alloc (.cells #[.string ⟨#[]⟩,.string ⟨#[]⟩,.slice none 0 0,.string ⟨#[]⟩,.string ⟨#[]⟩] 62):=⟨_,rfl⟩
       obtain ⟨gc,hgc⟩:∃g,wq2.heap.size=g:=⟨_,rfl⟩
       rw [←hwq3]
       try rw [hgc]
       have hbq:Below wq2.heap.size wq2 wq3:=by rw [hwq3];exact below_new _ _
       have HB_wq3:=η (bseq HB_wq2.out hbq)
       have PC_wq3:=η (show E5 wq3 gc (.string ⟨#[]⟩) (.string ⟨#[]⟩) (.slice none 0 0) (.string ⟨#[]⟩) (.string ⟨#[]⟩) by rw [hwq3,←hgc];exact E5.new _ _ _ _ _ _ _)
       have Lgc:=η (show wd.heap.size≤gc by rw [←hgc];exact HB_wq2.out.size)
       clear hbq hgc hwq3
       refine hK.out _ _ HB_wq3.out (fun _=>?_)
       clear K hK
       try simp only [Act.put,π1,π2,π3,π4,π5,π6]
       refine tr 7 rfl (h:=fun K hK=>?_)
       have r0:=PC_wq3.out.f 0;have r1:=PC_wq3.out.f 1;have r2:=PC_wq3.out.f 2;have r3:=PC_wq3.out.f 3;have r4:=PC_wq3.out.f 4;have q0:=PC_wq3.out.c0;have q1:=PC_wq3.out.c1;have q2:=PC_wq3.out.c2;have q3:=PC_wq3.out.c3;have q4:=PC_wq3.out.c4
       go_simp
       have hbs:=below5 HB_wq3.out Lgc.out (.string ⟨x.kind.toArray⟩) (.string ⟨x.key.toArray⟩) (.slice px nx cx) (.string ⟨Lt.toArray⟩) (.string ⟨Tx.toArray⟩)
       have PCs:=η (PC_wq3.out.all (.string ⟨x.kind.toArray⟩) (.string ⟨x.key.toArray⟩) (.slice px nx cx) (.string ⟨Lt.toArray⟩) (.string ⟨Tx.toArray⟩))
       refine hK.out _ _ hbs (fun _=>?_)
       clear K hK r0 r1 r2 r3 r4 q0 q1 q2 q3 q4
       try simp only [Act.put,π1,π2,π3,π4,π5,π6]
       refine wpAnyH_done (by kernel_rfl) ?_ _
       go_wp2_with fail
       go_meet
       exact ⟨gc,rfl,Nat.le_trans HBd.out.size Lgc.out,PCs.out,HBd.out.trans (hbs.mono HBd.out.size)⟩
     ·
      go_simp
      obtain ⟨wq4,hwq4⟩:∃W,W=wq1.alloc (.cells #[.string ⟨#[]⟩,.string ⟨#[]⟩,.slice none 0 0,.string ⟨#[]⟩,.string ⟨#[]⟩] 62):=⟨_,rfl⟩
      obtain ⟨gc,hgc⟩:∃g,wq1.heap.size=g:=⟨_,rfl⟩
      rw [←hwq4]
      try rw [hgc]
      have hbq:Below wq1.heap.size wq1 wq4:=by rw [hwq4];exact below_new _ _
      have HB_wq4:=η (bseq HB_wq1.out hbq)
      have PC_wq4:=η (show E5 wq4 gc (.string ⟨#[]⟩) (.string ⟨#[]⟩) (.slice none 0 0) (.string ⟨#[]⟩) (.string ⟨#[]⟩) by rw [hwq4,←hgc];exact E5.new _ _ _ _ _ _ _)
      have Lgc:=η (show wd.heap.size≤gc by rw [←hgc];exact HB_wq1.out.size)
      clear hbq hgc hwq4
      refine hK.out _ _ HB_wq4.out (fun _=>?_)
      clear K hK
      try simp only [Act.put,π1,π2,π3,π4,π5,π6]
      refine tr 4 rfl (h:=fun K hK=>?_)
      ·
       go_simp
       go_wp2_with (go_at_call 39; refine (lb_Text x _ m _ _ (SliceIn.below' HFd.out HB_wq4.out) HBx.out (keptM HMd.out.1 HMd.out.2 HB_wq4.out).1 (keptM HMd.out.1 HMd.out.2 HB_wq4.out).2).mono ?_;rw [HTx.out];rintro e wq5 ⟨rfl,hbq⟩;have HB_wq5:=η (bseq HB_wq4.out hbq);have PC_wq5:=η (PC_wq4.out.below' hbq);clear hbq)
       refine hK.out _ _ HB_wq5.out (fun _=>?_)
       clear K hK
       refine tk 5 (.agg #[.string ⟨x.kind.toArray⟩,.string ⟨x.key.toArray⟩,.slice px nx cx,.string ⟨Lt.toArray⟩,.string ⟨Tx.toArray⟩]) rfl (h:=?_)
       try simp only [Act.put,π1,π2,π3,π4,π5,π6]
       refine tr 7 rfl (h:=fun K hK=>?_)
       have r0:=PC_wq5.out.f 0;have r1:=PC_wq5.out.f 1;have r2:=PC_wq5.out.f 2;have r3:=PC_wq5.out.f 3;have r4:=PC_wq5.out.f 4;have q0:=PC_wq5.out.c0;have q1:=PC_wq5.out.c1;have q2:=PC_wq5.out.c2;have q3:=PC_wq5.out.c3;have q4:=PC_wq5.out.c4
       go_simp
       have hbs:=below5 HB_wq5.out Lgc.out (.string ⟨x.kind.toArray⟩) (.string ⟨x.key.toArray⟩) (.slice px nx cx) (.string ⟨Lt.toArray⟩) (.string ⟨Tx.toArray⟩)
       have PCs:=η (PC_wq5.out.all (.string ⟨x.kind.toArray⟩) (.string ⟨x.key.toArray⟩) (.slice px nx cx) (.string ⟨Lt.toArray⟩) (.string ⟨Tx.toArray⟩))
       refine hK.out _ _ hbs (fun _=>?_)
       clear K hK r0 r1 r2 r3 r4 q0 q1 q2 q3 q4
       try simp only [Act.put,π1,π2,π3,π4,π5,π6]
       refine wpAnyH_done (by kernel_rfl) ?_ _
       go_wp2_with fail
       go_meet
       exact ⟨gc,rfl,Nat.le_trans HBd.out.size Lgc.out,PCs.out,HBd.out.trans (hbs.mono HBd.out.size)⟩
    ·
     go_simp
     obtain ⟨wq6,hwq6⟩:∃W,W=wd.alloc (.cells #[.string ⟨#[]⟩,.string ⟨#[]⟩,.slice none 0 0,.string ⟨#[]⟩,.string ⟨#[]⟩] 62):=⟨_,rfl⟩
     obtain ⟨gc,hgc⟩:∃g,wd.heap.size=g:=⟨_,rfl⟩
     rw [←hwq6]
     try rw [hgc]
     have hbq:Below wd.heap.size wd wq6:=by rw [hwq6];exact below_new _ _
     have HB_wq6:=η (bseq HB_wd.out hbq)
     have PC_wq6:=η (show E5 wq6 gc (.string ⟨#[]⟩) (.string ⟨#[]⟩) (.slice none 0 0) (.string ⟨#[]⟩) (.string ⟨#[]⟩) by rw [hwq6,←hgc];exact E5.new _ _ _ _ _ _ _)
     have Lgc:=η (show wd.heap.size≤gc by rw [←hgc];exact HB_wd.out.size)
     clear hbq hgc hwq6
     refine hK.out _ _ HB_wq6.out (fun _=>?_)
     clear K hK
     try simp only [Act.put,π1,π2,π3,π4,π5,π6]
     refine tr 2 rfl (h:=fun K hK=>?_)
     ·
      go_simp
      go_wp2_with (go_at_call 38; refine (lb_letters x _ m _ _ (SliceIn.below' HFd.out HB_wq6.out) HBx.out (keptM HMd.out.1 HMd.out.2 HB_wq6.out).1 (keptM HMd.out.1 HMd.out.2 HB_wq6.out).2).mono ?_;rw [HLt.out];rintro e wq7 ⟨rfl,hbq⟩;have HB_wq7:=η (bseq HB_wq6.out hbq);have PC_wq7:=η (PC_wq6.out.below' hbq);clear hbq)
      refine hK.out _ _ HB_wq7.out (fun _=>?_)
      clear K hK
      try simp only [Act.put,π1,π2,π3,π4,π5,π6]
      refine tr 4 rfl (h:=fun K hK=>?_)
      ·
       go_simp
       go_wp2_with (go_at_call 39; refine (lb_Text x _ m _ _ (SliceIn.below' HFd.out HB_wq7.out) HBx.out (keptM HMd.out.1 HMd.out.2 HB_wq7.out).1 (keptM HMd.out.1 HMd.out.2 HB_wq7.out).2).mono ?_;rw [HTx.out];rintro e wq8 ⟨rfl,hbq⟩;have HB_wq8:=η (bseq HB_wq7.out hbq);have PC_wq8:=η (PC_wq7.out.below' hbq);clear hbq)
       refine hK.out _ _ HB_wq8.out (fun _=>?_)
       clear K hK
       refine tk 5 (.agg #[.string ⟨x.kind.toArray⟩,.string ⟨x.key.toArray⟩,.slice px nx cx,.string ⟨Lt.toArray⟩,.string ⟨Tx.toArray⟩]) rfl (h:=?_)
       try simp only [Act.put,π1,π2,π3,π4,π5,π6]
       refine tr 7 rfl (h:=fun K hK=>?_)
       have r0:=PC_wq8.out.f 0;have r1:=PC_wq8.out.f 1;have r2:=PC_wq8.out.f 2;have r3:=PC_wq8.out.f 3;have r4:=PC_wq8.out.f 4;have q0:=PC_wq8.out.c0;have q1:=PC_wq8.out.c1;have q2:=PC_wq8.out.c2;have q3:=PC_wq8.out.c3;have q4:=PC_wq8.out.c4
       go_simp
       have hbs:=below5 HB_wq8.out Lgc.out (.string ⟨x.kind.toArray⟩) (.string ⟨x.key.toArray⟩) (.slice px nx cx) (.string ⟨Lt.toArray⟩) (.string ⟨Tx.toArray⟩)
       have PCs:=η (PC_wq8.out.all (.string ⟨x.kind.toArray⟩) (.string ⟨x.key.toArray⟩) (.slice px nx cx) (.string ⟨Lt.toArray⟩) (.string ⟨Tx.toArray⟩))
       refine hK.out _ _ hbs (fun _=>?_)
       clear K hK r0 r1 r2 r3 r4 q0 q1 q2 q3 q4
       try simp only [Act.put,π1,π2,π3,π4,π5,π6]
       refine wpAnyH_done (by kernel_rfl) ?_ _
       go_wp2_with fail
       go_meet
       exact ⟨gc,rfl,Nat.le_trans HBd.out.size Lgc.out,PCs.out,HBd.out.trans (hbs.mono HBd.out.size)⟩
   case rest =>
    obtain ⟨gc,rfl,hgc,hE5,hbc⟩:=hcut
    have HA5:=η (HA4.out.below hbc);have HR5:=η (HR4.out.below HA4.out.h3 hbc);have HF5:=η (SliceIn.below' HF4.out hbc)
    have HE5:=η hE5
    have HgcN:=η (show N≤gc from Nat.le_trans HA4.out.h3 hgc)
    have c3':=hE5.c3
    clear hbc hE5 hgc HA4 HR4 HF4
    go_wp2_with (first
     | (at_lookup;go_loud (refine wpList_imap_look rfl (.tmp 39) (.tmp 41) rfl M (L.take k).length (seenN (L.take k)) rfl HA5.out.m Lt rfl Hlm.out ?_))
     | (at_mapUpdate;go_loud (refine wpList_imap_store rfl (.tmp 39) (.tmp 41) (.tmp 43) rfl M (L.take k).length (seenN (L.take k)) rfl HA5.out.m Lt rfl Hlm.out Hsm.out (seenN (L.take k) Lt+1) rfl Hcb.out ?_);intro w6 hm6 hg6;have HA6:=η (HA5.out.mapM Lt hm6 hg6);have HR6:=η (HR5.out.mapped (.inl rfl) HA5.out.h2 HA5.out.h3 hg6);have HF6:=η (Turn.slice HF5.out (show Turn M wc w6 from hg6) (fun j hj=>by have:=hj.1;omega));have hE6:=HE5.out.block (hg6.block gc HE5.out.lt (fun e=>by have:=HgcN.out;have:=HA5.out.h2;injection e with e;omega)) hg6.size;have d0:=hE6.c0;have d1:=hE6.c1;have d2:=hE6.c2;have d3:=hE6.c3;have d4:=hE6.c4;clear hm6 hg6 hE6)
     | (at_builtin;go_loud (refine wpList_append1 rfl (.tmp 44) (.tmp 46) 55 rfl N 62 i0 (.agg #[.string ⟨#[]⟩,.string ⟨#[]⟩,.slice none 0 0,.string ⟨#[]⟩,.string ⟨#[]⟩]) 5 88 Tryz.underlying55 Hi.out Hz0.out Hz1.out Hz2.out (by rfl) (by decide) _ _ _ HR6.out.r rfl [.string ⟨x.kind.toArray⟩,.string ⟨x.key.toArray⟩,.slice px nx cx,.string ⟨Lt.toArray⟩,.string ⟨Tx.toArray⟩] rfl (by simp) rfl (by simp [Value.oneCell']) (by have:=Hcl.out;unfold maxLen;omega) (by have:=Hcl.out;omega) HA6.out.h3 ?_);intro v2 w9 own2 g2 at2;have HA9:=η (HA6.out.app HR6.out g2);have HR9:=η (HR6.out.app (c:=cit0 x) HF6.out HA6.out.h3 (by rw [cit0_eq HLt.out HTx.out];exact own2) g2)))
    go_roundw
    case rel=>exact ⟨k1,cs++[(cit0 x,.slice px nx cx)],by have:=Hlt.out;have:=Hk1.out;omega,rfl,Hc1.out,by rw [HLk.out];exact HA9.out,HR9.out⟩
    case measure=>have:=Hlt.out;have:=Hk1.out;simp [intOf];omega
  ·
   have hlt':¬(k:Int)<(o.length:Int):=by omega
   have htk:o.take k=o:=List.take_of_length_le (by omega)
   have hLk:L.take k=L:=List.take_of_length_le (by have:=HLl.out;omega)
   rw [hLk] at HA
   rw [htk] at Hcs
   have hcn:cs.length=o.length:=by rw [hcl];omega
   clear hlt hk htk hLk hcl
   rcases HR.out.r.2 with ⟨hv,hc0⟩ | ⟨g,cap,cur,hv,hgN,hg1,hlc,hcm,_⟩
   ·
    have ho0:o=[]:=List.length_eq_zero_iff.1 (by omega)
    have hu:u10 = .slice none 0 0:=hv
    subst hu
    have ht0:Lb.tagged style o=[]:=by rw [ho0];rfl
    have Ht0:=η ht0
    clear hv ho0 ht0 hc0
    go_wp2_with fail
    go_loopw [51] (fun iv wq=>iv = .int .i64 0∧wq=wr) (fun _ _=>0)
    case atStart=>exact ⟨rfl,rfl⟩
    case round =>
     obtain ⟨rfl,rfl⟩:=hrel
     go_wp2_with fail
     go_ret2
     refine ⟨⟨_,_,rfl,?_,?_⟩,HA.out.b⟩
     ·
      rw [Hall.out,Ht0.out];exact SliceIn.nil _ _ _ _
     ·
      rw [Hall.out];exact HA.out.n.kept (fun j hj=>hj.1) (Nat.le_refl _) (fun _ _ _=>rfl) (fun _ _ _ h=>h)
   ·
    have hu:u10 = .slice (some ⟨g,0,none⟩) o.length cap:=by rw [←hcn];exact hv
    subst hu
    have hC0:CRow wr g cs:=by
     have h:=HR.out.r
     rw [hcn] at h
     exact CRow.of h hcn
    have hci0:∀i x,o[i]? = some x → ∃v,cs[i]? = some (citK style o 0 i x,v):=fun i x hx=>by
     have h:=congrArg (fun l=>l[i]?) Hcs.out
     simp only [List.getElem?_map,hx,Option.map_some] at h
     cases hc:cs[i]? with
     | none=>rw [hc] at h;cases h
     | some p =>
      rw [hc] at h
      obtain ⟨p1,p2⟩:=p
      have hp:p1=cit0 x:=Option.some.inj h
      exact ⟨p2,by rw [hp];rfl⟩
    have HC0:=η hC0;have Hci0:=η hci0;have Hcn0:=η hcn;have HF0:=η HR.out.f;have HgN:=η hgN;have Hlc:=η (show o.length≤cap by omega);have Hcm:=η hcm;have HA0:=HA
    clear hC0 hci0 hcn hgN hg1 hlc hcm HR Hcs HA hv
    go_wp2_with fail
    go_loopw [51] (fun iv wr=>∃(k:Nat) (cs:List (Lb.Cited × Value)),k≤o.length∧iv = .int .i64 (k:Int)∧cs.length=o.length∧CRow wr g cs∧(∀i x,o[i]? = some x → ∃v,cs[i]? = some (citK style o k i x,v))∧(∀p ∈ cs,SliceIn (fun j=>M+2≤j∧j<N) 2 RFld wr p.2 p.1.ent.fields)∧Ast B M N w (.slice p3 o.length c3) vn o ns L (L.take k) wr) (fun iv _=>o.length - (intOf iv).toNat)
    case atStart=>exact ⟨0,cs,Nat.zero_le _,rfl,Hcn0.out,HC0.out,Hci0.out,HF0.out,HA0.out⟩
    case round =>
     clear HC0 Hci0 Hcn0 HF0 HA0
     obtain ⟨k,cs,hk,rfl,hcn,hC,hci,hFc,hA⟩:=hrel
     have HC:=η hC;have Hci:=η hci;have Hcn:=η hcn;have HFc:=η hFc;have HA:=η hA
     clear hC hci hcn hFc hA
     by_cases hlt:k<o.length
     ·
      obtain ⟨x,hx⟩:∃x,o[k]? = some x:=⟨_,List.getElem?_eq_getElem hlt⟩
      obtain ⟨vx,hck⟩:=Hci.out k x hx
      have hkk:citK style o k k x=⟨x,Lb.letters x,Lb.textOf x⟩:=by unfold citK;rw [if_neg (Nat.lt_irrefl k)]
      rw [hkk] at hck
      obtain ⟨Lt,hLt⟩:∃Lt,Lb.letters x=Lt:=⟨_,rfl⟩
      obtain ⟨Tx,hTx⟩:∃Tx,Lb.textOf x=Tx:=⟨_,rfl⟩
      rw [hLt,hTx] at hck
      have e3:=(HC.out.cell k _ hck).2.2.2.1
      have e3:wr.cell? ⟨g,k*5+3,none⟩=some (.string ⟨Lt.toArray⟩):=e3
      have hlt':(k:Int)<(o.length:Int):=by omega
      obtain ⟨k1,hk1⟩:∃k1,k1=k+1:=⟨_,rfl⟩
      have hwk:IntKind.i64.wrap ((k:Int)+1)=(k1:Int):=by rw [IntWalk.i64_in _ (by omega)];omega
      have hLk:L.take k1=L.take k++[Lt]:=by rw [hk1,List.take_add_one,←HLe.out,List.getElem?_map,hx,←hLt];rfl
      have hll:Lt.length≤8:=by rw [←hLt];exact Lb.letters_len x
      have hlm:Lt.length≤maxLen:=by unfold maxLen;omega
      have hsl:(L.take k).length≤1000:=by rw [List.length_take];have:=HLl.out;omega
      have hcb:-9223372036854775808≤seenN (L.take k) Lt+1∧seenN (L.take k) Lt+1≤9223372036854775807:=by unfold seenN;have:=List.count_le_length (a:=Lt) (l:=L.take k);omega
      have hwc:IntKind.i64.wrap (seenN (L.take k) Lt+1)=seenN (L.take k) Lt+1:=IntWalk.i64_in _ hcb
      have hsm:(L.take k).length<maxLen:=by unfold maxLen;omega
      have hk1c:(k1:Int)=(k:Int)+1:=by omega
      have HLt:=η hLt;have HTx:=η hTx;have HLk:=η hLk;have Hlm:=η hlm;have Hcb:=η hcb;have Hsm:=η hsm;have Hlt:=η hlt;have Hk1:=η hk1;have Hx:=η hx;have Hck:=η hck;have Hk1c:=η hk1c
      clear hLt hTx hLk hlm hsl hcb hsm hlt hk1 hx hck hkk hk hk1c
      by_cases hst:style=1
      ·
       subst hst
       obtain ⟨cn,hcnt⟩:∃cn:Nat,L.count Lt=cn:=⟨_,rfl⟩
       have hsN:seenN L Lt=(cn:Int):=by unfold seenN;rw [hcnt]
       by_cases hmany:1<cn
       ·
        have hm1:(1:Int)<seenN L Lt:=by rw [hsN];omega
        obtain ⟨uc,huc⟩:∃uc:Nat,(L.take k1).count Lt=uc:=⟨_,rfl⟩
        have hus:seenN (L.take k++[Lt]) Lt=(uc:Int):=by unfold seenN;rw [←HLk.out,huc]
        have huc1:1≤uc:=by rw [←huc,HLk.out,List.count_append];simp
        have huc2:uc≤1000:=by rw [←huc];have h1:=List.count_le_length (a:=Lt) (l:=L.take k1);rw [List.length_take] at h1;have:=HLl.out;omega
        have h3l:=text3_len uc huc1 huc2
        obtain ⟨T3,hT3⟩:∃T3,Cnt.text (uc:Int) 3=T3:=⟨_,rfl⟩
        rw [hT3] at h3l
        have hap:=append_data Lt T3
        have Htag:=η (show Lb.tag 1 (o.map Lb.letters) k Lt=Lt++T3 by rw [HLe.out,tag_many L k Lt (by omega),←Hk1.out,huc,hT3])
        have HT3:=η hT3
        clear hcnt hsN hmany huc huc1 huc2 hT3
        go_wp2_with (first
        | (at_lookup;go_loud (refine wpList_imap_look rfl (.tmp 59) (.tmp 60) rfl (M+1) (L.take k).length (seenN (L.take k)) rfl HA.out.u Lt rfl Hlm.out ?_))
        | (at_mapUpdate;go_loud (refine wpList_imap_store rfl (.tmp 59) (.tmp 60) (.tmp 62) rfl (M+1) (L.take k).length (seenN (L.take k)) rfl HA.out.u Lt rfl Hlm.out Hsm.out (seenN (L.take k) Lt+1) rfl Hcb.out ?_);intro w6 hm6 hg6;have HA6:=η (HA.out.mapU Lt hm6 hg6);have HC6:=η (HC.out.block (hg6.block g HC.out.lt (fun e=>by have:=HgN.out;have:=HA.out.h2;injection e with e;omega)) hg6.size);have HFc6:=η (fun p hp=>Turn.slice (HFc.out p hp) (show Turn (M+1) wr w6 from hg6) (fun j hj=>by have:=hj.1;omega));clear hm6 hg6)
        | (at_lookup;go_loud (refine wpList_imap_look rfl (.tmp 74) (.tmp 75) rfl M L.length (seenN L) rfl HA6.out.m Lt rfl Hlm.out ?_))
        | (at_lookup;go_loud (refine wpList_imap_look rfl (.tmp 81) (.tmp 82) rfl (M+1) (L.take k++[Lt]).length (seenN (L.take k++[Lt])) rfl HA6.out.u Lt rfl Hlm.out ?_))
        | (go_at_call 40; refine (count_text (uc:Int) 3 _ (HLB.out _ HA6.out.b).1).mono ?_;rw [HT3.out];rintro e w8 ⟨rfl,hb8⟩;have HA8:=η (HA6.out.below hb8);have HC8:=η (HC6.out.below hb8);have HFc8:=η (fun p hp=>SliceIn.below' (HFc6.out p hp) hb8);(have r3:=HC8.out.free (k*5+3));(have y3:=(HC8.out.cell k _ Hck.out).2.2.2.1);clear hb8))
        go_roundw
        case rel =>
         refine ⟨k1,cs.set k (⟨x,Lt++T3,Tx⟩,vx),by have:=Hlt.out;have:=Hk1.out;omega,rfl,by rw [List.length_set];exact Hcn.out,HC8.out.label Hck.out (Lt++T3),?_,?_,?_⟩
         ·
          exact citK_step Hci.out Hx.out Hk1.out Hcn.out HLt.out HTx.out Htag.out
         ·
          intro p hp
          rcases List.mem_or_eq_of_mem_set hp with hp | rfl
          ·
           exact (HFc8.out p hp).set4 (g:=g) (fun j hj=>by have:=hj.2;have:=HgN.out;omega) _ _
          ·
           exact SliceIn.set4 (HFc8.out _ (List.mem_of_getElem? Hck.out)) (g:=g) (fun j hj=>by have:=hj.2;have:=HgN.out;omega) _ _
         ·
          rw [HLk.out];exact HA8.out.setG HgN.out _ _
        case measure=>have:=Hlt.out;have:=Hk1.out;simp [intOf];omega
       ·
        have hm1:¬(1:Int)<seenN L Lt:=by rw [hsN];omega
        have Htag:=η (show Lb.tag 1 (o.map Lb.letters) k Lt=Lt by rw [HLe.out,tag_one L k Lt (by omega)])
        clear hcnt hsN hmany
        go_wp2_with (first
        | (at_lookup;go_loud (refine wpList_imap_look rfl (.tmp 59) (.tmp 60) rfl (M+1) (L.take k).length (seenN (L.take k)) rfl HA.out.u Lt rfl Hlm.out ?_))
        | (at_mapUpdate;go_loud (refine wpList_imap_store rfl (.tmp 59) (.tmp 60) (.tmp 62) rfl (M+1) (L.take k).length (seenN (L.take k)) rfl HA.out.u Lt rfl Hlm.out Hsm.out (seenN (L.take k) Lt+1) rfl Hcb.out ?_);intro w6 hm6 hg6;have HA6:=η (HA.out.mapU Lt hm6 hg6);have HC6:=η (HC.out.block (hg6.block g HC.out.lt (fun e=>by have:=HgN.out;have:=HA.out.h2;injection e with e;omega)) hg6.size);have HFc6:=η (fun p hp=>Turn.slice (HFc.out p hp) (show Turn (M+1) wr w6 from hg6) (fun j hj=>by have:=hj.1;omega));clear hm6 hg6)
        | (at_lookup;go_loud (refine wpList_imap_look rfl (.tmp 74) (.tmp 75) rfl M L.length (seenN L) rfl HA6.out.m Lt rfl Hlm.out ?_)))
        go_roundw
        case rel =>
         refine ⟨k1,cs,by have:=Hlt.out;have:=Hk1.out;omega,rfl,Hcn.out,HC6.out,?_,HFc6.out,?_⟩
         ·
          exact citK_keep Hci.out Hx.out Hk1.out Hcn.out HLt.out HTx.out Htag.out Hck.out
         ·
          rw [HLk.out];exact HA6.out
        case measure=>have:=Hlt.out;have:=Hk1.out;simp [intOf];omega
      ·
       have hst2:(style == 1)=false:=by rw [beq_eq_false_iff_ne];exact hst
       obtain ⟨T0,hT0⟩:∃T0,Cnt.text (k1:Int) 0=T0:=⟨_,rfl⟩
       have Htag:=η (show Lb.tag style (o.map Lb.letters) k Lt=T0 by rw [tag_num _ _ _ _ hst,←Hk1c.out,hT0])
       have HT0:=η hT0
       clear hT0
       go_wp2_with (first
        | (at_lookup;go_loud (refine wpList_imap_look rfl (.tmp 59) (.tmp 60) rfl (M+1) (L.take k).length (seenN (L.take k)) rfl HA.out.u Lt rfl Hlm.out ?_))
        | (at_mapUpdate;go_loud (refine wpList_imap_store rfl (.tmp 59) (.tmp 60) (.tmp 62) rfl (M+1) (L.take k).length (seenN (L.take k)) rfl HA.out.u Lt rfl Hlm.out Hsm.out (seenN (L.take k) Lt+1) rfl Hcb.out ?_);intro w6 hm6 hg6;have HA6:=η (HA.out.mapU Lt hm6 hg6);have HC6:=η (HC.out.block (hg6.block g HC.out.lt (fun e=>by have:=HgN.out;have:=HA.out.h2;injection e with e;omega)) hg6.size);have HFc6:=η (fun p hp=>Turn.slice (HFc.out p hp) (show Turn (M+1) wr w6 from hg6) (fun j hj=>by have:=hj.1;omega));clear hm6 hg6)
        | (go_at_call 40; refine (count_text (k1:Int) 0 _ (HLB.out _ HA6.out.b).1).mono ?_;rw [HT0.out];rintro e w8 ⟨rfl,hb8⟩;have HA8:=η (HA6.out.below hb8);have HC8:=η (HC6.out.below hb8);have HFc8:=η (fun p hp=>SliceIn.below' (HFc6.out p hp) hb8);(have r3:=HC8.out.free (k*5+3));(have y3:=(HC8.out.cell k _ Hck.out).2.2.2.1);clear hb8))
       go_roundw
       case rel =>
        refine ⟨k1,cs.set k (⟨x,T0,Tx⟩,vx),by have:=Hlt.out;have:=Hk1.out;omega,rfl,by rw [List.length_set];exact Hcn.out,HC8.out.label Hck.out (T0),?_,?_,?_⟩
        ·
         exact citK_step Hci.out Hx.out Hk1.out Hcn.out HLt.out HTx.out Htag.out
        ·
         intro p hp
         rcases List.mem_or_eq_of_mem_set hp with hp | rfl
         ·
          exact (HFc8.out p hp).set4 (g:=g) (fun j hj=>by have:=hj.2;have:=HgN.out;omega) _ _
         ·
          exact SliceIn.set4 (HFc8.out _ (List.mem_of_getElem? Hck.out)) (g:=g) (fun j hj=>by have:=hj.2;have:=HgN.out;omega) _ _
        ·
         rw [HLk.out];exact HA8.out.setG HgN.out _ _
       case measure=>have:=Hlt.out;have:=Hk1.out;simp [intOf];omega
     ·
      have hlt':¬(k:Int)<(o.length:Int):=by omega
      have hko:k=o.length:=by omega
      subst hko
      have hfin:=citK_all style o cs Hcn.out Hci.out
      have Hfin:=η hfin
      clear hlt hk hfin
      go_wp2_with fail
      go_ret2
      refine ⟨⟨_,_,rfl,?_,?_⟩,HA.out.b⟩
      ·
       rw [Hall.out,←Hfin.out]
       exact cits_of_crow HC.out Hcn.out Hlc.out Hcm.out (by have:=HgN.out;have:=HA.out.h1;have:=HA.out.h2;omega) (fun p hp=>(HFc.out p hp).kept (fun j hj=>by have:=hj.1;have:=HA.out.h1;show B≤j;omega) (Nat.le_refl _) (fun _ _ _=>rfl) (fun _ _ _ h=>h))
      ·
       rw [Hall.out];exact HA.out.n.kept (fun j hj=>hj.1) (Nat.le_refl _) (fun _ _ _=>rfl) (fun _ _ _ h=>h)
end Go.Proofs.YtgnfmopcialllaaGreatDoor
set_option linter.unusedSimpArgs false
set_option linter.unusedVariables false
namespace Go.Proofs.YtgnfmopcialllaaGreatDoor
open Go.RowKit
set_option maxRecDepth 100000 in
set_option maxHeartbeats 1600000 in
theorem bb_base_none (g:Nat) (l:List (List UInt8 × List UInt8)) (name:List UInt8) (vf vr vn:Value) (rs:List (List UInt8)) (ns:List (Int × List UInt8)) (w:World) (hW:Wk g vf vr vn rs ns w) (hS:SliceIn (fun j=>j<g) 2 RFl w vf l) (hs:Ix.Sorted l) (hl:l.length≤1000000) (hrl:rs.length≤1000000) (hG:Ix.get l name=none) :
  Calls Tryz.prog 16 #[.pointer (some ⟨g,0,none⟩),.string ⟨name.toArray⟩] w fun e w'=>e = .returned (.tuple #[.slice none 0 0,.iface 66 (.agg #[.string ⟨name.toArray⟩,.int .i64 4])])∧∃vr',Wk g vf vr' vn (Bb.see rs name) ns w'∧Mv g vr vn vr' vn w w':=by
 have hc:=bb_read g l name vf vr vn rs ns w hW hS hs hl hrl
 rw [hG] at hc
 have Hc:=η hc
 clear hc hW hS hs hl hrl hG
 go_enter Tryz.func16, Tryz.ntmps16
 go_wp2_with (go_at_call 32; refine Hc.out.mono ?_;rintro e w1 ⟨rfl,vr',hW1,hM1⟩;have HW1:=η hW1;have HM1:=η hM1;clear hW1 hM1)
 go_ret2
 exact ⟨rfl,vr',HW1.out,HM1.out⟩
theorem rep_append {α:Type} {R:α→List Value→Prop}:∀ {xs:List α} {fl:List Value} {ys:List α} {gl:List Value},RepRow R xs fl→RepRow R ys gl→RepRow R (xs++ys) (fl++gl)
 | [],fl,ys,gl,h,k=>by have:fl=[]:=h;subst this;exact k
 | x::xs,fl,ys,gl,h,k=>by
  obtain ⟨us,rest,rfl,h1,h2⟩:=h
  exact ⟨us,rest++gl,by rw [List.append_assoc],h1,rep_append h2 k⟩
theorem own_form {w:World} {B e size n:Nat} {v:Value} {xs:List Value} (h:w.ownsRow B e size v n xs):∃p cap,v = .slice p n cap:=by
 rcases h.2 with ⟨hv,h0⟩ | ⟨g,cap,cur,hv,_⟩
 ·
  exact ⟨none,0,by rw [hv,h0]⟩
 ·
  exact ⟨_,cap,hv⟩
def cN (x:Int × List UInt8):List Value:=[.int .i64 x.1,.string ⟨x.2.toArray⟩]
set_option maxRecDepth 100000 in
set_option maxHeartbeats 1600000 in
theorem bb_base (g:Nat) (l:List (List UInt8 × List UInt8)) (name t:List UInt8) (vf vr vn:Value) (rs:List (List UInt8)) (ns:List (Int × List UInt8)) (w:World) (hW:Wk g vf vr vn rs ns w) (hS:SliceIn (fun j=>j<g) 2 RFl w vf l) (hs:Ix.Sorted l) (hl:l.length≤1000000) (hrl:rs.length≤1000000) (hG:Ix.get l name=some t) (ht:t.length≤1000000000) (hnl:ns.length+(Ent.parse t).2.length≤1000000) :
  Calls Tryz.prog 16 #[.pointer (some ⟨g,0,none⟩),.string ⟨name.toArray⟩] w fun e w'=>∃vo vr' vn',e = .returned (.tuple #[vo,.nilIface])∧Wk g vf vr' vn' (Bb.see rs name) (ns++(Ent.parse t).2) w'∧Mv g vr vn vr' vn' w w'∧Ents (fun j=>w.heap.size≤j∧vr'.ownBlock≠some j∧vn'.ownBlock≠some j) w' vo (Ent.parse t).1:=by
 obtain ⟨i0,hi,hz0,hz1,hz2⟩:=info_parts note_info
 have Hi:=η hi;have Hz0:=η hz0;have Hz1:=η hz1;have Hz2:=η hz2;clear hi hz0 hz1 hz2
 have hc:=bb_read g l name vf vr vn rs ns w hW hS hs hl hrl
 rw [hG] at hc
 obtain ⟨o,ho⟩:∃o,Ent.parse t=o:=⟨_,rfl⟩
 have hp:=fun W=>entry_parse t W ht
 simp only [ho] at hp hnl ⊢
 obtain ⟨es,nn⟩:=o
 dsimp only at hp hnl ⊢
 have Hc:=η hc;have Hp:=η hp;have Hnl:=η hnl
 clear hc hp hW hS hs hl hrl hG ho ht hnl
 go_enter Tryz.func16, Tryz.ntmps16
 go_wp2_with (first
  | (go_at_call 32; refine Hc.out.mono ?_;rintro e w1 ⟨rfl,vr1,hW1,hM1⟩;have HW1:=η hW1;have HM1:=η hM1;clear hW1 hM1)
  | (
    go_at_call 35; refine (Hp.out _).mono ?_;rintro e w2 ⟨vo,vq,rfl,hE,hN,hb⟩;have hW2:=HW1.out.below hb;have c2:=hW2.t.c2;have f2:=hW2.t.f 2;have hlt:=hW2.t.lt;obtain ⟨po,co,rfl,_,_,_⟩:=id hE;obtain ⟨pq,cq,rfl,_,_,_⟩:=id hN;obtain ⟨fl,hown,hrep⟩:=hW2.n;obtain ⟨v3,w3,hrun,own3,g3,at3⟩:=run_append_slice (P:=Tryz.prog) cN RNote w2 (g+1) 40 40 77 i0 _ 2 24 Tryz.underlying40 Hi.out Hz0.out Hz1.out Hz2.out rfl (by decide) vn ns.length fl hown _ nn _ hN (fun _ _ h=>h) (fun _=>rfl) (fun y u hu=>by simp only [cN,List.mem_cons,List.not_mem_nil,or_false] at hu;rcases hu with rfl | rfl <;> rfl) (by have:=Hnl.out;unfold maxLen;omega) (by have:=Hnl.out;omega) hlt;obtain ⟨p3,c3,hv3⟩:=own_form own3;subst hv3;have hput:=hW2.notes g3 (ns2:=ns++nn) ⟨_,by rw [List.length_append];exact own3,rep_append hrep (rep_flat (R:=RNote) cN (fun _=>rfl) nn)⟩ (at3.imp (fun h=>h) (fun h=>⟨_,h,Nat.le_refl _⟩));have hvg:vn.ownBlock≠some g:=fun e=>by have:=ownL_ge hW2.n g e;omega
    have e2:=(grown_cell g3 hlt hvg 2).trans c2;have k2:=(grown_frozen g3 hlt hvg 2).trans f2
    have HE:=η hE;have Hb:=η hb;have HW2:=η hW2;have Hrun:=η hrun;have Hput:=η hput;have At3:=η at3
    clear hE hN hb hW2 hown hrep hrun own3 g3 at3 hvg hput f2)
  | (at_builtin;refine wpList_append_run rfl (.tmp 30) (.tmp 31) 40 rfl rfl rfl Hrun.out ?_))
 go_ret2
 refine ⟨_,vr1,_,rfl,Hput.out.1,(HM1.out.trans (Mv.of_below Hb.out g vr1 vn)).trans Hput.out.2,?_⟩
 have hrl:∀j,vr1.ownBlock=some j→j<_:=ownL_lt HW1.out.r
 have hnl:∀j,vn.ownBlock=some j→j<_:=ownL_lt HW1.out.n
 have hsz:=HM1.out.size
 have hbs:=Hb.out.size
 refine Ents.kept (Ents.strong HE.out) (fun b hb=>⟨by omega,fun e=>by have:=hrl b e;omega,fun e=>?_⟩) Hput.out.2.size (fun b hb hlt=>Hput.out.2.block b hlt (fun e=>?_) (fun e=>by have:=hrl b e;omega) (fun e=>by have:=hnl b e;omega))
 ·
  rcases At3.out with h | h
  ·
   have:=hnl b (h.symm.trans e);omega
  ·
   rw [h] at e;injection e with e;omega
 ·
  have:=HW1.out.t.lt;omega
end Go.Proofs.YtgnfmopcialllaaGreatDoor
set_option linter.unusedSimpArgs false
set_option linter.unusedVariables false
namespace Go.Proofs.YtgnfmopcialllaaGreatDoor.Sd
structure Lab where
 key:List UInt8
 num:List UInt8
 page:Int
 deriving DecidableEq
structure Hd where
 level:Int
 num:List UInt8
 title:List UInt8
 page:Int
 deriving DecidableEq
structure Side where
 labs:List Lab
 heads:List Hd
 cites:List (List UInt8)
 bibs:List (List UInt8)
 deriving DecidableEq
def none_:Side:=⟨[],[],[],[]⟩
def sqGo:Bool→List UInt8→List UInt8
 | _,[]=>[]
 | p,c::r=>if c=32 then (if p then sqGo true r else 32::sqGo true r) else c::sqGo false r
def trimB (l:List UInt8):List UInt8:=if l.getLast? = some 32 then l.dropLast else l
def sq (l:List UInt8):List UInt8:=trimB (sqGo true l)
def key (s:List UInt8):Bool:=s != []&&decide (s.length≤60)&&sq s == s
def keysN:List (List UInt8)→List (List UInt8)→Bool
 | _,[]=>true
 | before,s::l=>key s && !(before.any fun g=>g == s)&&keysN (before++[s]) l
def keys (l:List (List UInt8)):Bool:=keysN [] l
def pageOk (n:Int):Bool:=decide (0≤n)&&decide (n≤999999)
def labOk (x:Lab):Bool:=decide (x.num.length≤40)&&pageOk x.page
def headOk (x:Hd):Bool:=decide (x.num.length≤40)&&pageOk x.page&&decide (1≤x.level)&&decide (x.level≤2)&&key x.title
def right (x:Side):Bool :=
 decide (x.labs.length≤100)&&decide (x.heads.length≤100)&&decide (x.cites.length≤100)&&decide (x.bibs.length≤8) &&
 keys x.cites&&keys x.bibs&&x.labs.all labOk&&x.heads.all headOk&&keys (x.labs.map Lab.key)
def dig (n:Int):List UInt8:=Cnt.text n 0
def put (s:List UInt8):List UInt8:=Lib.itoa (s.length:Int)++[58]++s++[44]
def record (ps:List (List UInt8)):List UInt8:=put (ps.map put).flatten
def labW:List UInt8:=[108,97,98,101,108]
def headW:List UInt8:=[104,101,97,100]
def citeW:List UInt8:=[99,105,116,101]
def bibW:List UInt8:=[98,105,98]
def encL (x:Lab):List UInt8:=record [labW,x.key,x.num,dig x.page]
def encH (x:Hd):List UInt8:=record [headW,dig x.level,x.num,x.title,dig x.page]
def encC (s:List UInt8):List UInt8:=record [citeW,s]
def encB (s:List UInt8):List UInt8:=record [bibW,s]
def encN (x:Side):List UInt8:=(x.labs.map encL).flatten++(x.heads.map encH).flatten++(x.cites.map encC).flatten++(x.bibs.map encB).flatten
def enc (x:Side):List UInt8 × Int:=if right x then (encN x,0) else ([],5)
def lenGo:Bool→Nat→List UInt8→Option (Nat × List UInt8)
 | _,_,[]=>none
 | first,n,c::r =>
  if c=58∧first=false then some (n,r)
  else if c.toNat<48∨57<c.toNat∨(first=false∧n=0) then none
  else if 999999<n*10+(c.toNat - 48) then none
  else lenGo false (n*10+(c.toNat - 48)) r
def get (l:List UInt8):Option (List UInt8 × List UInt8) :=
 match lenGo true 0 l with
 | none=>none
 | some (n,r)=>if r[n]? = some 44 then some (r.take n,r.drop (n+1)) else none
def allN:Nat→List UInt8→Option (List (List UInt8))
 | _,[]=>some []
 | 0,_::_=>none
 | f+1,c::r=>match get (c::r) with | none=>none | some (t,q)=>(allN f q).map (t :: ·)
def all (l:List UInt8):Option (List (List UInt8)):=allN l.length l
def val (s:List UInt8):Int:=(Cnt.value s 0).1
def take1 (x:Side):List (List UInt8)→Option Side
 | [w,a]=>if w=citeW then some { x with cites:=x.cites++[a] } else if w=bibW then some { x with bibs:=x.bibs++[a] } else none
 | [w,a,b,c]=>if w=labW then some { x with labs:=x.labs++[⟨a,b,val c⟩] } else none
 | [w,a,b,c,d]=>if w=headW then some { x with heads:=x.heads++[⟨val a,b,c,val d⟩] } else none
 | _=>none
def takeAll:Side→List (List UInt8)→Option Side
 | x,[]=>some x
 | x,t::ts=>match all t with | none=>none | some ps=>match take1 x ps with | none=>none | some y=>takeAll y ts
def dec (s:List UInt8):Option Side :=
 match all s with
 | none=>none
 | some ts=>match takeAll none_ ts with | none=>none | some x=>if right x&&encN x == s then some x else none
end Go.Proofs.YtgnfmopcialllaaGreatDoor.Sd
set_option linter.unusedSimpArgs false
set_option linter.unusedVariables false
namespace Go.Proofs.YtgnfmopcialllaaGreatDoor.Sd
def puts (ts:List (List UInt8)):List UInt8:=(ts.map put).flatten
theorem puts_cons (t:List UInt8) (ts:List (List UInt8)):puts (t::ts)=put t++puts ts:=rfl
theorem puts_append (a b:List (List UInt8)):puts (a++b)=puts a++puts b:=by unfold puts;simp
theorem allN_nil (f:Nat):allN f []=some []:=by cases f <;> rfl
structure Small (x:Side):Prop where
 lab:∀l ∈ x.labs,l.key.length≤1000∧l.num.length≤1000∧0≤l.page∧l.page≤999999
 head:∀h ∈ x.heads,h.num.length≤1000∧h.title.length≤1000∧0≤h.level∧h.level≤999999∧0≤h.page∧h.page≤999999
 cite:∀s ∈ x.cites,s.length≤1000
 bib:∀s ∈ x.bibs,s.length≤1000
theorem dig_nat (n:Nat) (h:n≤999999):dig (n:Int)=Cnt.decF 6 n:=by
 unfold dig
 exact Cnt.text_dec n h 0 (by omega) (by omega) (by omega)
theorem dig_len (n:Int) (h0:0≤n) (h:n≤999999):(dig n).length≤6:=by
 obtain ⟨k,rfl⟩:=Int.eq_ofNat_of_zero_le h0
 rw [dig_nat k (by omega)]
 exact Cnt.decF_length 6 k
theorem put_le (t:List UInt8) (h:t.length≤999999):(put t).length≤t.length+8:=by
 unfold put
 rw [Cnt.itoa_dec _ h]
 have:=Cnt.decF_length 6 t.length
 simp only [List.length_append,List.length_cons,List.length_nil]
 omega
theorem puts_le:∀(ts:List (List UInt8)) (m:Nat),m≤999999→(∀t ∈ ts,t.length≤m)→(puts ts).length≤ts.length*(m+8)
 | [],m,_,_=>by simp [puts]
 | t::ts,m,hm,h=>by
  have h1:=puts_le ts m hm (fun u hu=>h u (by simp [hu]))
  have h2:=h t (by simp)
  have h3:=put_le t (by omega)
  rw [puts_cons,List.length_append,List.length_cons,Nat.succ_mul]
  omega
theorem labL (l:Lab) (h:l.key.length≤1000∧l.num.length≤1000∧0≤l.page∧l.page≤999999):∀t ∈ [labW,l.key,l.num,dig l.page],t.length≤1000:=by
 intro t ht
 have:=dig_len l.page h.2.2.1 h.2.2.2
 simp only [List.mem_cons,List.not_mem_nil,or_false] at ht
 rcases ht with rfl | rfl | rfl | rfl
 ·
  decide
 ·
  exact h.1
 ·
  exact h.2.1
 ·
  omega
theorem headL (l:Hd) (h:l.num.length≤1000∧l.title.length≤1000∧0≤l.level∧l.level≤999999∧0≤l.page∧l.page≤999999):∀t ∈ [headW,dig l.level,l.num,l.title,dig l.page],t.length≤1000:=by
 intro t ht
 have h1:=dig_len l.page h.2.2.2.2.1 h.2.2.2.2.2
 have h2:=dig_len l.level h.2.2.1 h.2.2.2.1
 simp only [List.mem_cons,List.not_mem_nil,or_false] at ht
 rcases ht with rfl | rfl | rfl | rfl | rfl
 ·
  decide
 ·
  omega
 ·
  exact h.1
 ·
  exact h.2.1
 ·
  omega
theorem citeL (w s:List UInt8) (hw:w.length≤1000) (h:s.length≤1000):∀t ∈ [w,s],t.length≤1000:=by
 intro t ht
 simp only [List.mem_cons,List.not_mem_nil,or_false] at ht
 rcases ht with rfl | rfl
 ·
  exact hw
 ·
  exact h
theorem keysN_key:∀(l before:List (List UInt8)),keysN before l=true → ∀s ∈ l,key s=true
 | [],_,_,s,hs=>by simp at hs
 | t::l,before,h,s,hs=>by
  rw [keysN,Bool.and_eq_true,Bool.and_eq_true] at h
  rcases List.mem_cons.1 hs with rfl | hs
  ·
   exact h.1.1
  ·
   exact keysN_key l _ h.2 s hs
theorem key_len (s:List UInt8) (h:key s=true):s.length≤60:=by
 unfold key at h
 simp only [Bool.and_eq_true,decide_eq_true_eq] at h
 exact h.1.2
theorem right_small (x:Side) (h:right x=true):Small x:=by
 unfold right at h
 simp only [Bool.and_eq_true,decide_eq_true_eq,List.all_eq_true] at h
 obtain ⟨⟨⟨⟨⟨⟨⟨⟨_,_⟩,_⟩,_⟩,hc⟩,hb⟩,hl⟩,hh⟩,hk⟩:=h
 refine ⟨fun l hm=>?_,fun l hm=>?_,fun s hs=>?_,fun s hs=>?_⟩
 ·
  have h1:=hl l hm
  have h2:=key_len _ (keysN_key _ _ hk l.key (List.mem_map.2 ⟨l,hm,rfl⟩))
  simp only [labOk,pageOk,Bool.and_eq_true,decide_eq_true_eq] at h1
  omega
 ·
  have h1:=hh l hm
  simp only [headOk,pageOk,Bool.and_eq_true,decide_eq_true_eq] at h1
  have h2:=key_len _ h1.2
  omega
 ·
  have:=key_len _ (keysN_key _ _ hc s hs);omega
 ·
  have:=key_len _ (keysN_key _ _ hb s hs);omega
end Go.Proofs.YtgnfmopcialllaaGreatDoor.Sd
