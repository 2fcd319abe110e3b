/- The document's maps of files: a map of any files (stetref02.Map): plain, and its walk. -/
import Derived.Test.YtgnfmopcialllaaGreatDoorTk
import Derived.Test.YtgnfmopcialllaaGreatDoorG32
set_option linter.unusedSimpArgs false
set_option linter.unusedVariables false
namespace Go.Proofs.YtgnfmopcialllaaGreatDoor
open Go.RowKit
namespace Ix
def cutF (b:Nat) (x:Fl):Fl:=(x.1,x.2.take b)
def putM (out:List Fl) (f:Fl):List Fl:=if putE out f=0 then putL out f else out
def mapF (l:List Fl) (most b:Nat):List Fl:=((l.take most).map (cutF b)).foldl putM []
theorem putM_len (out:List Fl) (f:Fl):(putM out f).length≤out.length+1:=by
 unfold putM
 split
 ·
  exact putL_len out f
 ·
  omega
theorem foldl_len:∀(q out:List Fl),(q.foldl putM out).length≤out.length+q.length
 | [],out=>by simp
 | f::r,out=>by
  have h1:=foldl_len r (putM out f)
  have h2:=putM_len out f
  rw [List.foldl_cons,List.length_cons]
  omega
theorem mapF_len (l:List Fl) (most b:Nat):(mapF l most b).length≤most:=by
 have:=foldl_len ((l.take most).map (cutF b)) []
 rw [List.length_map,List.length_take,List.length_nil] at this
 unfold mapF
 omega
theorem mapF_snoc (l:List Fl) (most b k:Nat) (x:Fl) (h:l[k]? = some x) (hk:k<most):mapF (l.take (k+1)) most b=putM (mapF (l.take k) most b) (cutF b x):=by
 unfold mapF
 rw [List.take_take,List.take_take,show min most (k+1)=k+1 by omega,show min most k=k by omega,take_snoc l k x h,List.map_append,List.foldl_append]
 rfl
theorem mapF_take (l:List Fl) (most b k:Nat) (h:k=most∨k=l.length):mapF (l.take k) most b=mapF l most b:=by
 unfold mapF
 rw [List.take_take]
 rcases h with rfl | rfl
 ·
  rw [Nat.min_self]
 ·
  rcases Nat.le_total most l.length with h | h
  ·
   rw [Nat.min_eq_left h]
  ·
   rw [Nat.min_eq_right h,List.take_length,List.take_of_length_le h]
structure MapOk (b:Nat) (m:List Fl):Prop where
 up:Sorted m
 small:∀x ∈ m,x.2.length≤b
 name:∀x ∈ m,nameOk x.1=true
theorem mem_drop {l:List Fl} {n:List UInt8} {x:Fl} (h:x ∈ drop l n):x ∈ l∧x.1≠n:=by
 unfold drop at h
 have:=List.mem_filter.1 h
 exact ⟨this.1,by simpa using this.2⟩
theorem MapOk.put {b:Nat} {m:List Fl} (h:MapOk b m) (f:Fl) (hf:f.2.length≤b):MapOk b (putM m f):=by
 unfold putM
 split
 ·
  next he =>
  have hn:nameOk f.1=true:=by
   cases hn:nameOk f.1 with
   | true=>rfl
   | false=>unfold putE at he;rw [hn] at he;simp at he
  have hup:Sorted (drop m f.1):=List.Pairwise.sublist List.filter_sublist h.up
  have hmem:∀x ∈ putL m f,x ∈ drop m f.1∨x=f:=by
   intro x hx
   unfold putL at hx
   rcases List.mem_append.1 hx with hx | hx
   ·
    rcases List.mem_append.1 hx with hx | hx
    ·
     exact .inl (List.mem_of_mem_take hx)
    ·
     exact .inr (by simpa using hx)
   ·
    exact .inl (List.mem_of_mem_drop hx)
  refine ⟨?_,fun x hx=>?_,fun x hx=>?_⟩
  ·
   obtain ⟨R,hR⟩:∃R,R=drop m f.1:=⟨_,rfl⟩
   have hne:∀x ∈ R,x.1≠f.1:=fun x hx=>by rw [hR] at hx;exact (mem_drop hx).2
   rw [←hR] at hup
   have hlt:=aheadN_lt f.1 R
   have hat:=aheadN_at f.1 R
   have hform:putL m f=R.take (aheadN R f.1)++[f]++R.drop (aheadN R f.1):=by rw [hR];rfl
   rw [hform]
   generalize aheadN R f.1=k at hlt hat
   have h1:∀x ∈ R.take k,cmpB x.1 f.1<0:=by
    intro x hx
    obtain ⟨i,hi⟩:=List.mem_iff_getElem?.1 hx
    rw [List.getElem?_take] at hi
    split at hi
    ·
     next hk =>
     have:=hlt i x hi hk
     rw [less_cmp] at this
     exact of_decide_eq_true this
    ·
     cases hi
   have h2:∀x ∈ R.drop k,cmpB f.1 x.1<0:=by
    cases hd:R.drop k with
    | nil=>intro x hx;simp at hx
    | cons y r =>
     have hy:R[k]? = some y:=by
      have:(R.drop k)[0]? = some y:=by rw [hd];rfl
      rwa [List.getElem?_drop,Nat.add_zero] at this
     have hyf:cmpB f.1 y.1<0:=by
      have h3:=hat y hy
      rw [less_cmp] at h3
      have h4:=of_decide_eq_false h3
      have h5:=cmpB_anti f.1 y.1
      have h6:cmpB f.1 y.1≠0:=fun e=>hne y (List.mem_of_getElem? hy) (cmpB_eq0 _ _ e).symm
      omega
     have hs:Sorted (y::r):=by rw [←hd];exact List.Pairwise.sublist (List.drop_sublist _ _) hup
     intro x hx
     rcases List.mem_cons.1 hx with rfl | hx
     ·
      exact hyf
     ·
      exact cmpB_trans _ _ _ hyf ((List.pairwise_cons.1 hs).1 x hx)
   have hsplit:(R.take k).Pairwise (fun x y=>cmpB x.1 y.1<0)∧(R.drop k).Pairwise (fun x y=>cmpB x.1 y.1<0):=⟨List.Pairwise.sublist (List.take_sublist _ _) hup,List.Pairwise.sublist (List.drop_sublist _ _) hup⟩
   unfold Sorted
   rw [List.append_assoc]
   refine List.pairwise_append.2 ⟨hsplit.1,?_,?_⟩
   ·
    exact List.pairwise_cons.2 ⟨h2,hsplit.2⟩
   ·
    intro x hx y hy
    rcases List.mem_cons.1 hy with rfl | hy
    ·
     exact h1 x hx
    ·
     exact cmpB_trans _ _ _ (h1 x hx) (h2 y hy)
  ·
   rcases hmem x hx with hx | rfl
   ·
    exact h.small x (mem_drop hx).1
   ·
    exact hf
  ·
   rcases hmem x hx with hx | rfl
   ·
    exact h.name x (mem_drop hx).1
   ·
    exact hn
 ·
  exact h
theorem mapF_ok (l:List Fl) (most b:Nat):MapOk b (mapF l most b):=by
 have:∀(q out:List Fl),MapOk b out→(∀f ∈ q,f.2.length≤b)→MapOk b (q.foldl putM out):=by
  intro q
  induction q with
  | nil=>intro out h _;exact h
  | cons f r ih =>
   intro out h hq
   exact ih _ (h.put f (hq f (by simp))) (fun g hg=>hq g (List.mem_cons_of_mem _ hg))
 refine this _ [] ⟨List.Pairwise.nil,by simp,by simp⟩ (fun f hf=>?_)
 obtain ⟨x,_,rfl⟩:=List.mem_map.1 hf
 show (x.2.take b).length≤b
 rw [List.length_take];omega
end Ix
def IFl (x:Ix.Fl) (vs:List Value):Prop:=vs=[.string ⟨x.1.toArray⟩,.string ⟨x.2.toArray⟩]∧x.1.length≤maxLen∧x.2.length≤maxLen
set_option maxRecDepth 100000 in
set_option maxHeartbeats 6400000 in
theorem ref02_map (p:Option Addr) (cap:Nat) (l:List Ix.Fl) (most b:Nat) (w:World) (hE:OSl 2 IFl w p l) (hl:l.length≤maxLen) (hm:most≤1000) (hb:b≤100000) :
  Calls Tryz.prog 5 #[.slice p l.length cap,.int .i64 (most:Int),.int .i64 (b:Int)] w fun e w'=>∃va,e = .returned va∧OwnL w.heap.size 33 2 RFl w' va (Ix.mapF l most b)∧Below w.heap.size w w':=by
 have Hat:=η hE
 have Hlm:=η hl;have Hm:=η hm;have Hb9:=η hb
 clear hE hl hm hb
 have hO:=η (OwnL.made w.heap.size 33 2 RFl w (Nat.le_refl _))
 have hB:=η (below_new w (.cells #[] 33))
 go_enter Tryz.func5, Tryz.ntmps5
 go_wp2_with fail
 go_loopw [7,8] (fun ov iv wr=>∃k:Nat,k≤l.length∧k≤most∧iv = .int .i64 (k:Int)∧OwnL w.heap.size 33 2 RFl wr ov (Ix.mapF (l.take k) most b)∧Below w.heap.size w wr) (fun _ iv _=>l.length - (intOf iv).toNat)
 case atStart =>
  have h0:Ix.mapF (l.take 0) most b=[]:=by unfold Ix.mapF;simp
  exact ⟨0,Nat.zero_le _,Nat.zero_le _,rfl,by rw [h0];exact hO.out,hB.out⟩
 case round =>
  clear hO hB
  obtain ⟨k,hk,hkm,rfl,hO,hb⟩:=hrel
  obtain ⟨po,co,rfl⟩:=hO.form
  have HO:=η hO;have Hb:=η hb
  clear hO hb
  have more_:k<l.length∧k<most∨(k=most∨k=l.length):=by omega
  rcases more_ with ⟨hlt,hkm2⟩ | hend
  ·
   obtain ⟨x,hx⟩:∃x,l[k]? = some x:=⟨_,List.getElem?_eq_getElem hlt⟩
   have hsn:=Ix.mapF_snoc l most b k x hx hkm2
   have hLn:=Ix.mapF_len (l.take k) most b
   obtain ⟨L,hL⟩:∃L,L=Ix.mapF (l.take k) most b:=⟨_,rfl⟩
   rw [←hL] at HO hsn hLn ⊢
   obtain ⟨a,bk,o,sp,vs,rfl,hadr,hbw,hR,hc⟩:=Hat.out k x hx
   obtain ⟨hR,hx1,hx2⟩:=hR
   subst hR
   obtain ⟨xn,xt⟩:=x
   have e0:wr.cell? ⟨bk,o,sp⟩=some (.string ⟨xn.toArray⟩):=(Hb.out.cell (p:=⟨bk,o,sp⟩) hbw).trans (hc 0 _ rfl)
   have e1:wr.cell? ⟨bk,o+1,none⟩=some (.string ⟨xt.toArray⟩):=(Hb.out.cell (p:=⟨bk,o+1,none⟩) hbw).trans (hc 1 _ rfl)
   have hlt':(k:Int)<(l.length:Int):=by omega
   have hkm':(k:Int)<(most:Int):=by omega
   have Hwk:=η (f2_w1 k (by have:=Hm.out;omega))
   have Hsn:=η hsn;have HLn:=η hLn;have Hlt:=η hlt;have Hkm:=η hkm2;have Hx1:=η hx1;have Hx2:=η hx2
   clear hsn hLn hlt hkm2 hk hkm hx hL hc hbw hx1 hx2
   go_upto_region 5 with fail
   clear hlt' hkm'
   have hk':(k:Int)<(l.length:Int):=by have:=Hlt.out;omega
   go_cut [9] from 24 to 28 (fun pv W=>pv = .pointer (some ⟨wr.heap.size,0,none⟩)∧W.cell? ⟨wr.heap.size,0,none⟩=some (.string ⟨xn.toArray⟩)∧W.cell? ⟨wr.heap.size,1,none⟩=some (.string ⟨xt.toArray⟩)∧W.frozen? ⟨wr.heap.size,1,none⟩=false∧Below wr.heap.size wr W)
   case first =>
    go_wp2_with fail
    go_meet
    exact ⟨rfl,by rw [cell_of_row _ _ _ _ _ _ (heap_alloc_new wr _)];rfl,by rw [cell_of_row _ _ _ _ _ _ (heap_alloc_new wr _)];rfl,frozen_of_row _ _ _ _ _ (heap_alloc_new wr _),below_new _ _⟩
   case rest =>
    obtain ⟨rfl,c0,c1,f1,hbc⟩:=hcut
    obtain ⟨g,hg⟩:∃g,g=wr.heap.size:=⟨_,rfl⟩
    rw [←hg] at c0 c1 f1 ⊢
    have HgB:=η (show w.heap.size≤g by have:=Hb.out.size;omega)
    have HOc:=η (HO.out.below hbc)
    have Hbc:=η (Hb.out.trans (hbc.mono Hb.out.size))
    have HgW:=η (World.block_lt_of_cell? wc _ c0)
    have Hc0:=η c0;have Hc1:=η c1
    have HOg:=η (show OwnL w.heap.size 33 2 RFl (wc.setCell ⟨g,1,none⟩ (.string ⟨(xt.take b).toArray⟩)) (.slice po L.length co) L from by
     obtain ⟨fl,h1,h2⟩:=HO.out
     have hne:∀q,(Value.slice po L.length co).ownBlock=some q→q<g:=fun q e=>by rw [hg];exact (World.ownsRow.lt h1 q e).2
     obtain ⟨fl',h1',h2'⟩:=HOc.out
     exact ⟨fl',own_at h1' (fun q e=>Below.heap_setCell _ _ _ _ (by first | exact Nat.ne_of_lt (hne q e) | exact Nat.ne_of_gt (hne q e))),h2'⟩)
    clear e0 e1 hadr hk' hbc hg
    obtain ⟨q,h1,h2,h3,h4⟩:=cut_textN b xt
    have hq0:(0:Int)≤(q:Int):=by omega
    clear h2
    go_upto_region 7 with fail
    have d0:(wc.setCell ⟨g,1,none⟩ (.string ⟨(xt.take b).toArray⟩)).cell? ⟨g,0,none⟩=some (.string ⟨xn.toArray⟩):=(World.cell?_setCell_other _ _ _ _ (by simp)).trans Hc0.out
    have d1:(wc.setCell ⟨g,1,none⟩ (.string ⟨(xt.take b).toArray⟩)).cell? ⟨g,1,none⟩=some (.string ⟨(xt.take b).toArray⟩):=World.cell?_setCell_same _ _ _ Hc1.out
    have hb7:Below w.heap.size w (wc.setCell ⟨g,1,none⟩ (.string ⟨(xt.take b).toArray⟩)):=Hbc.out.setCell (p:=⟨g,1,none⟩) HgB.out _
    have hcf:Ix.cutF b (xn,xt)=(xn,xt.take b):=rfl
    have hxb:(xt.take b).length≤b:=by rw [List.length_take];omega
    rw [hcf] at Hsn
    obtain ⟨xb,hxbe⟩:∃z,z=xt.take b:=⟨_,rfl⟩
    rw [←hxbe] at d0 d1 hb7 HOg Hsn hxb ⊢
    have Hb7:=η hb7;have Hxb:=η hxb
    generalize wc.setCell ⟨g,1,none⟩ (.string ⟨xb.toArray⟩)=w7 at *
    clear c0 c1 f1 h1 h3 h4 hq0 hb7 hcf hxbe hxb Hc0 Hc1 HOc
    go_wp2_with fail
    refine (ref02_put L xn xb _ (fun _=>True) w7 (OwnL.slice HOg.out RFl.size _ (fun _ _=>trivial)) (by have:=HLn.out;have:=Hm.out;omega) (by have:=Hx1.out;unfold maxLen at this;omega) (by have:=Hxb.out;have:=Hb9.out;omega)).mono ?_
    have hsn:=Hsn.out
    unfold Ix.putM at hsn
    rintro e w8 ⟨va,rfl,hres,hb8⟩
    obtain ⟨pe,hpe⟩:∃z,z=Ix.putE L (xn,xb):=⟨_,rfl⟩
    rw [←hpe] at hsn hres ⊢
    have Hres:=η hres;have Hsn2:=η hsn;have Hb8:=η (Hb7.out.trans (hb8.mono Hb7.out.size));have HO8:=η (HOg.out.below hb8);have H78:=η Hb7.out.size
    clear hres hsn hb8 hpe d0 d1 Hsn
    by_cases hz:pe=0
    ·
     subst hz
     have Hst:=η (show Ix.mapF (l.take (k+1)) most b=Ix.putL L (xn,xb) by rw [Hsn2.out,if_pos rfl])
     go_wp2_with fail
     go_roundw
     case rel=>exact ⟨k+1,by have:=Hlt.out;omega,by have:=Hkm.out;omega,by first | rfl | rw [Hwk.out],by rw [Hst.out];exact OwnL.lower (Hres.out (by first | rfl | trivial)) H78.out,Hb8.out⟩
     case measure=>have:=Hlt.out;(try rw [Hwk.out]);simp [intOf];omega
    ·
     have Hst:=η (show Ix.mapF (l.take (k+1)) most b=L by rw [Hsn2.out,if_neg hz])
     have hz':(pe == 0)=false:=by simpa using hz
     clear hz
     go_wp2_with fail
     go_roundw
     case rel=>exact ⟨k+1,by have:=Hlt.out;omega,by have:=Hkm.out;omega,by first | rfl | rw [Hwk.out],by rw [Hst.out];exact HO8.out,Hb8.out⟩
     case measure=>have:=Hlt.out;(try rw [Hwk.out]);simp [intOf];omega
  ·
   have ht:=Ix.mapF_take l most b k hend
   rw [ht] at HO ⊢
   obtain ⟨M,hM⟩:∃M,M=Ix.mapF l most b:=⟨_,rfl⟩
   rw [←hM] at HO ⊢
   have HM:=η hM
   have hcond:decide ((k:Int)<(l.length:Int))=false∨((k:Int)<(l.length:Int)∧decide ((k:Int)<(most:Int))=false):=by
    by_cases h:k<l.length
    ·
     exact .inr ⟨by omega,decide_eq_false (by omega)⟩
    ·
     exact .inl (decide_eq_false (by omega))
   obtain ⟨kk,hkk⟩:∃z:Int,z=(k:Int):=⟨_,rfl⟩
   rw [←hkk] at hcond ⊢
   clear hkk hM ht hend hk hkm
   rcases hcond with hcond | ⟨hcond,hc2⟩
   ·
    go_wp2_with fail
    go_ret
    exact ⟨_,rfl,by rw [←HM.out];exact HO.out,Hb.out⟩
   ·
    go_wp2_with fail
    go_ret
    exact ⟨_,rfl,by rw [←HM.out];exact HO.out,Hb.out⟩
end Go.Proofs.YtgnfmopcialllaaGreatDoor
