/- The walks of cmp.Or and of the comparison of two entries. -/
import Derived.Test.YtgnfmopcialllaaGreatDoorTk
import Derived.Test.YtgnfmopcialllaaGreatDoorG14
set_option linter.unusedSimpArgs false
set_option linter.unusedVariables false
namespace Go.Proofs.YtgnfmopcialllaaGreatDoor
open Go.RowKit
def RInt (n:Int) (vs:List Value):Prop:=vs=[.int .i64 n]
theorem RInt.size (n:Int) (vs:List Value) (h:RInt n vs):vs.length=1:=by rw [h];rfl
theorem ints_rep:∀(c:List Int),RepRow RInt c (c.map (Value.int .i64))
 | []=>rfl
 | x::c=>⟨[.int .i64 x],_,rfl,rfl,ints_rep c⟩
def firstNZ:List Int→Int
 | []=>0
 | a::r=>if a=0 then firstNZ r else a
theorem firstNZ_zeros:∀(l:List Int),(∀a ∈ l,a=0)→firstNZ l=0
 | [],_=>rfl
 | a::r,h=>by unfold firstNZ;rw [if_pos (h a (by simp))];exact firstNZ_zeros r fun b hb=>h b (List.mem_cons_of_mem _ hb)
theorem firstNZ_hit:∀(l:List Int) (k:Nat) (a:Int),l[k]? = some a→(∀b ∈ l.take k,b=0)→a≠0→firstNZ l=a
 | [],k,a,h,_,_=>by simp at h
 | b::r,0,a,h,_,hn=>by
  simp at h;subst h
  unfold firstNZ;rw [if_neg hn]
 | b::r,k+1,a,h,hz,hn=>by
  unfold firstNZ
  rw [if_pos (hz b (by simp))]
  exact firstNZ_hit r k a (by simpa using h) (fun c hc=>hz c (by rw [List.take_succ_cons];exact List.mem_cons_of_mem _ hc)) hn
theorem std_compare (a b:List UInt8) (w:World):Calls Tryz.prog 75 #[.string ⟨a.toArray⟩,.string ⟨b.toArray⟩] w fun e w'=>e = .returned (.int .i64 (Lb.cmpB a b))∧w'=w:=Tryz.strings_Compare ⟨a.toArray⟩ ⟨b.toArray⟩ w
set_option maxRecDepth 100000 in
set_option maxHeartbeats 800000 in
theorem std_or (l:List Int) (v:Value) (S:Nat→Prop) (w:World) (hS:SliceIn S 1 RInt w v l) (hl:l.length≤1000) :
  Calls Tryz.prog 74 #[v] w fun e w'=>e = .returned (.int .i64 (firstNZ l))∧w'=w:=by
 obtain ⟨pa,cap,rfl,hle,hm,hat⟩:=hS
 have Hat:=η hat;have Hl:=η hl
 clear hat hm hle hl
 go_enter Tryz.func74, Tryz.ntmps74
 go_wp2_with fail
 go_loopw [8] (fun iv wr=>∃k:Nat,k≤l.length∧iv = .int .i64 (k:Int)∧(∀b ∈ l.take k,b=0)∧wr=w) (fun iv _=>l.length - (intOf iv).toNat)
 case atStart=>exact ⟨0,Nat.zero_le _,rfl,fun b hb=>by simp at hb,rfl⟩
 case round =>
  obtain ⟨k,hk,rfl,hz,rfl⟩:=hrel
  have Hz:=η hz;clear hz
  by_cases hlt:k<l.length
  ·
   obtain ⟨x,hx⟩:∃x,l[k]? = some x:=⟨_,List.getElem?_eq_getElem hlt⟩
   obtain ⟨b,off,vs,rfl,_,hbw,hR,hc⟩:=Hat.out k x hx
   have hR:vs=_:=hR
   subst hR
   have e0:wr.cell? ⟨b,off+k,none⟩=some (.int .i64 x):=by
    have:=hc 0 _ rfl
    rwa [Nat.mul_one,Nat.add_zero] at this
   have hlt':(k:Int)<(l.length:Int):=by omega
   obtain ⟨k1,hk1⟩:∃k1,k1=k+1:=⟨_,rfl⟩
   have hwk:IntKind.i64.wrap ((k:Int)+1)=(k1:Int):=by rw [IntWalk.i64_in _ (by have:=Hl.out;omega)];omega
   have Hx:=η hx;have Hlt:=η hlt;have Hk1:=η hk1
   clear hc hx hlt hk hk1
   by_cases h0:x=0
   ·
    subst h0
    go_wp2_with fail
    go_roundw
    case rel=>exact ⟨k1,by have:=Hlt.out;have:=Hk1.out;omega,rfl,by rw [Hk1.out,List.take_add_one,Hx.out];intro b hb;rcases List.mem_append.1 hb with h | h;exact Hz.out b h;simpa using h,trivial⟩
    case measure=>have:=Hlt.out;have:=Hk1.out;simp [intOf];omega
   ·
    have Hr:=η (firstNZ_hit l k x Hx.out Hz.out h0)
    go_wp2_with fail
    go_ret
    exact ⟨ret_int Hr.out.symm,rfl⟩
  ·
   have hlt':¬(k:Int)<(l.length:Int):=by omega
   have Hr:=η (firstNZ_zeros l (by have:=Hz.out;rwa [List.take_of_length_le (by omega)] at this))
   clear hlt hk
   go_wp2_with fail
   go_ret
   exact ⟨ret_int Hr.out.symm,rfl⟩
set_option maxRecDepth 100000 in
set_option maxHeartbeats 6400000 in
theorem lb_cmp (x y:Ent.Ent) (vx vy:Value) (m:Int) (Sx Sy:Nat→Prop) (w:World) (hFx:SliceIn Sx 2 RFld w vx x.fields) (hFy:SliceIn Sy 2 RFld w vy y.fields) (hBx:Lb.EntB x) (hBy:Lb.EntB y) (hm:w.cell? ⟨2, 0,none⟩=some (.int .i64 m)) (h0 : 2 < w.heap.size) :
  Calls Tryz.prog 72 #[.agg #[.string ⟨x.kind.toArray⟩,.string ⟨x.key.toArray⟩,vx],.agg #[.string ⟨y.kind.toArray⟩,.string ⟨y.key.toArray⟩,vy]] w fun e w'=>e = .returned (.int .i64 (Lb.cmp x y))∧Below w.heap.size w w':=by
 have hb0:=below_new w (.cells #[.string ⟨x.kind.toArray⟩,.string ⟨x.key.toArray⟩,vx] 60)
 have hEx:=E3.new w 60 (.string ⟨x.kind.toArray⟩) (.string ⟨x.key.toArray⟩) vx
 have hb1:=below_new (w.alloc (.cells #[.string ⟨x.kind.toArray⟩,.string ⟨x.key.toArray⟩,vx] 60)) (.cells #[.string ⟨y.kind.toArray⟩,.string ⟨y.key.toArray⟩,vy] 60)
 have hEy:=E3.new (w.alloc (.cells #[.string ⟨x.kind.toArray⟩,.string ⟨x.key.toArray⟩,vx] 60)) 60 (.string ⟨y.kind.toArray⟩) (.string ⟨y.key.toArray⟩) vy
 have hz:(w.alloc (.cells #[.string ⟨x.kind.toArray⟩,.string ⟨x.key.toArray⟩,vx] 60)).heap.size=w.heap.size+1:=by simp
 have hEx2:=hEx.below' hb1
 rw [hz] at hEy
 have hbb:=bseq hb0 hb1
 have hM:=keptM hm h0 hbb
 have hcm:firstNZ [Lb.cmpB (key1 x) (key1 y),Lb.cmpB (Lb.field x Lb.yearW) (Lb.field y Lb.yearW),Lb.cmpB (Ent.small (Lb.field x Lb.titleW)) (Ent.small (Lb.field y Lb.titleW)),Lb.cmpB x.key y.key]=Lb.cmp x y:=rfl
 have HFx:=η (SliceIn.below' hFx hbb);have HFy:=η (SliceIn.below' hFy hbb);have HEx:=η hEx2;have HEy:=η hEy;have Hb0:=η hbb;have HM:=η hM;have HBx:=η hBx;have HBy:=η hBy;have Hcmp:=η hcm
 clear hb0 hb1 hEx hEx2 hEy hz hbb hM hm h0 hBx hBy hFx hFy hcm
 go_enter Tryz.func72, Tryz.ntmps72
 go_upto_region 1 with fail
 go_cut [5,6] (fun va vb W=>∃g4 g5,va = .pointer (some ⟨g4,0,none⟩)∧vb = .pointer (some ⟨g5,0,none⟩)∧P4 W g4 (.string ⟨(key1 x).toArray⟩) (.string ⟨(Lb.field x Lb.yearW).toArray⟩) (.string ⟨(Ent.small (Lb.field x Lb.titleW)).toArray⟩) (.string ⟨x.key.toArray⟩)∧P4 W g5 (.string ⟨(key1 y).toArray⟩) (.string ⟨(Lb.field y Lb.yearW).toArray⟩) (.string ⟨(Ent.small (Lb.field y Lb.titleW)).toArray⟩) (.string ⟨y.key.toArray⟩)∧Below w.heap.size w W)
 case first =>
  refine wp_region_any (by kernel_rfl) ?_
  change wpAny _ _ _ _ _ _ _ (World.drew _)
  have HBd:=η Hb0.out.drew
  have hHEx:=HEx.out.drew;have hHEy:=HEy.out.drew;have hHFx:=SliceIn.below' HFx.out (Below.refl _ _).drew;have hHFy:=SliceIn.below' HFy.out (Below.refl _ _).drew
  have hHM:=keptM HM.out.1 HM.out.2 (Below.refl _ _).drew
  clear HEx HEy HFx HFy HM Hb0
  generalize ((w.alloc (.cells #[.string ⟨x.kind.toArray⟩,.string ⟨x.key.toArray⟩,vx] 60)).alloc (.cells #[.string ⟨y.kind.toArray⟩,.string ⟨y.key.toArray⟩,vy] 60)).drew=wd at *
  have HEx:=η hHEx;have HEy:=η hHEy;have HFx:=η hHFx;have HFy:=η hHFy;have HMd:=η hHM.1;have H0d:=η hHM.2
  clear hHEx hHEy hHFx hHFy hHM
  have hS0:=Below.refl wd.heap.size wd
  have HB_wd:=η hS0
  refine wpAny_of_held (S:=fun W=>Below wd.heap.size wd W) _ _ _ _ ?_
  refine tk 0 (.agg #[.string ⟨x.kind.toArray⟩,.string ⟨x.key.toArray⟩,vx]) rfl (hy:=fun W hW=>by (obtain ⟨c0,c1,c2,_,_⟩:=HEx.out.below' hW;go_simp)) (h:=?_)
  refine tk 2 (.agg #[.string ⟨y.kind.toArray⟩,.string ⟨y.key.toArray⟩,vy]) rfl (hy:=fun W hW=>by (obtain ⟨c0,c1,c2,_,_⟩:=HEy.out.below' hW;go_simp)) (h:=?_)
  try simp only [Act.put,π1,π2,π3,π4,π5,π6]
  refine wpAnyH_ready (rs:=[1,4,5]) (by kernel_rfl) (by simp) ?_
  refine AllReadyH.cons rfl (fun K hK=>?_) (AllReadyH.cons rfl (fun K hK=>?_) (AllReadyH.cons rfl (fun K hK=>?_) AllReadyH.nil))
  ·
   go_simp
   go_wp2_with (go_at_call 73; refine (lb_order x vx m Sx _ (SliceIn.below' HFx.out HB_wd.out) HBx.out (keptM HMd.out H0d.out HB_wd.out).1 (keptM HMd.out H0d.out HB_wd.out).2).mono ?_;unfold ordV;rintro e wq1 ⟨rfl,hbq⟩;have HB_wq1:=η (bseq HB_wd.out hbq);clear hbq)
   refine hK.out _ _ HB_wq1.out (fun _=>?_)
   clear K hK
   try simp only [Act.put,π1,π2,π3,π4,π5,π6]
   refine wpAnyH_ready (rs:=[3,4,5]) (by kernel_rfl) (by simp) ?_
   refine AllReadyH.cons rfl (fun K hK=>?_) (AllReadyH.cons rfl (fun K hK=>?_) (AllReadyH.cons rfl (fun K hK=>?_) AllReadyH.nil))
   ·
    go_simp
    go_wp2_with (go_at_call 73; refine (lb_order y vy m Sy _ (SliceIn.below' HFy.out HB_wq1.out) HBy.out (keptM HMd.out H0d.out HB_wq1.out).1 (keptM HMd.out H0d.out HB_wq1.out).2).mono ?_;unfold ordV;rintro e wq2 ⟨rfl,hbq⟩;have HB_wq2:=η (bseq HB_wq1.out hbq);clear hbq)
    refine hK.out _ _ HB_wq2.out (fun _=>?_)
    clear K hK
    try simp only [Act.put,π1,π2,π3,π4,π5,π6]
    refine wpAnyH_ready (rs:=[4,5]) (by kernel_rfl) (by simp) ?_
    refine AllReadyH.cons rfl (fun K hK=>?_) (AllReadyH.cons rfl (fun K hK=>?_) AllReadyH.nil)
    ·
     go_simp
     obtain ⟨wq3,hwq3⟩:∃W,W=wq2.alloc (.cells #[.string ⟨#[]⟩,.string ⟨#[]⟩,.string ⟨#[]⟩,.string ⟨#[]⟩] 159):=⟨_,rfl⟩
     obtain ⟨g4,hg4⟩:∃g,wq2.heap.size=g:=⟨_,rfl⟩
     rw [←hwq3]
     try rw [hg4]
     have hbq:Below wq2.heap.size wq2 wq3:=by rw [hwq3];exact below_new _ _
     have HB_wq3:=η (bseq HB_wq2.out hbq)
     have P5_wq3:=η (show P4 wq3 g4 (.string ⟨#[]⟩) (.string ⟨#[]⟩) (.string ⟨#[]⟩) (.string ⟨#[]⟩) by rw [hwq3,←hg4];exact P4.new _ _ _ _ _ _)
     have L4_:=η (show wd.heap.size≤g4 by rw [←hg4];exact HB_wq2.out.size)
     clear hbq hg4 hwq3
     refine hK.out _ _ HB_wq3.out (fun _=>?_)
     clear K hK
     try simp only [Act.put,π1,π2,π3,π4,π5,π6]
     refine tr 5 rfl (h:=fun K hK=>?_)
     ·
      go_simp
      obtain ⟨wq4,hwq4⟩:∃W,W=wq3.alloc (.cells #[.string ⟨#[]⟩,.string ⟨#[]⟩,.string ⟨#[]⟩,.string ⟨#[]⟩] 159):=⟨_,rfl⟩
      obtain ⟨g5,hg5⟩:∃g,wq3.heap.size=g:=⟨_,rfl⟩
      rw [←hwq4]
      try rw [hg5]
      have hbq:Below wq3.heap.size wq3 wq4:=by rw [hwq4];exact below_new _ _
      have HB_wq4:=η (bseq HB_wq3.out hbq)
      have P6_wq4:=η (show P4 wq4 g5 (.string ⟨#[]⟩) (.string ⟨#[]⟩) (.string ⟨#[]⟩) (.string ⟨#[]⟩) by rw [hwq4,←hg5];exact P4.new _ _ _ _ _ _)
      have L5_:=η (show wd.heap.size≤g5 by rw [←hg5];exact HB_wq3.out.size)
      have N_:=η (show g4≠g5 by have:=P5_wq3.out.lt;omega)
      have P5_wq4:=η (P5_wq3.out.below' hbq)
      clear hbq hg5 hwq4
      refine hK.out _ _ HB_wq4.out (fun _=>?_)
      clear K hK
      try simp only [Act.put,π1,π2,π3,π4,π5,π6]
      refine tr 6 rfl (h:=fun K hK=>?_)
      have r0:=P5_wq4.out.f 0;have r1:=P5_wq4.out.f 1;have r2:=P5_wq4.out.f 2;have r3:=P5_wq4.out.f 3;have q0:=P5_wq4.out.c0;have q1:=P5_wq4.out.c1;have q2:=P5_wq4.out.c2;have q3:=P5_wq4.out.c3
      go_simp
      have hbs:=below4 HB_wq4.out L4_.out (.string ⟨(key1 x).toArray⟩) (.string ⟨(Lb.field x Lb.yearW).toArray⟩) (.string ⟨(Ent.small (Lb.field x Lb.titleW)).toArray⟩) (.string ⟨x.key.toArray⟩)
      have P5s:=η (P5_wq4.out.all (.string ⟨(key1 x).toArray⟩) (.string ⟨(Lb.field x Lb.yearW).toArray⟩) (.string ⟨(Ent.small (Lb.field x Lb.titleW)).toArray⟩) (.string ⟨x.key.toArray⟩))
      have P6s:=η ((((P6_wq4.out.other N_.out 0 (.string ⟨(key1 x).toArray⟩)).other N_.out 1 (.string ⟨(Lb.field x Lb.yearW).toArray⟩)).other N_.out 2 (.string ⟨(Ent.small (Lb.field x Lb.titleW)).toArray⟩)).other N_.out 3 (.string ⟨x.key.toArray⟩))
      refine hK.out _ _ hbs (fun _=>?_)
      clear K hK r0 r1 r2 r3 q0 q1 q2 q3
      try simp only [Act.put,π1,π2,π3,π4,π5,π6]
      refine tr 7 rfl (h:=fun K hK=>?_)
      have r0:=P6s.out.f 0;have r1:=P6s.out.f 1;have r2:=P6s.out.f 2;have r3:=P6s.out.f 3;have q0:=P6s.out.c0;have q1:=P6s.out.c1;have q2:=P6s.out.c2;have q3:=P6s.out.c3
      go_simp
      have hbs2:=below4 hbs L5_.out (.string ⟨(key1 y).toArray⟩) (.string ⟨(Lb.field y Lb.yearW).toArray⟩) (.string ⟨(Ent.small (Lb.field y Lb.titleW)).toArray⟩) (.string ⟨y.key.toArray⟩)
      have P6t:=η (P6s.out.all (.string ⟨(key1 y).toArray⟩) (.string ⟨(Lb.field y Lb.yearW).toArray⟩) (.string ⟨(Ent.small (Lb.field y Lb.titleW)).toArray⟩) (.string ⟨y.key.toArray⟩))
      have P5t:=η ((((P5s.out.other (Ne.symm N_.out) 0 (.string ⟨(key1 y).toArray⟩)).other (Ne.symm N_.out) 1 (.string ⟨(Lb.field y Lb.yearW).toArray⟩)).other (Ne.symm N_.out) 2 (.string ⟨(Ent.small (Lb.field y Lb.titleW)).toArray⟩)).other (Ne.symm N_.out) 3 (.string ⟨y.key.toArray⟩))
      refine hK.out _ _ hbs2 (fun _=>?_)
      clear K hK r0 r1 r2 r3 q0 q1 q2 q3
      try simp only [Act.put,π1,π2,π3,π4,π5,π6]
      refine wpAnyH_done (by kernel_rfl) ?_ _
      go_wp2_with fail
      go_meet
      exact ⟨g4,g5,rfl,rfl,P5t.out,P6t.out,HBd.out.trans (hbs2.mono HBd.out.size)⟩
    ·
     go_simp
     obtain ⟨wq5,hwq5⟩:∃W,W=wq2.alloc (.cells #[.string ⟨#[]⟩,.string ⟨#[]⟩,.string ⟨#[]⟩,.string ⟨#[]⟩] 159):=⟨_,rfl⟩
     obtain ⟨g5,hg5⟩:∃g,wq2.heap.size=g:=⟨_,rfl⟩
     rw [←hwq5]
     try rw [hg5]
     have hbq:Below wq2.heap.size wq2 wq5:=by rw [hwq5];exact below_new _ _
     have HB_wq5:=η (bseq HB_wq2.out hbq)
     have P6_wq5:=η (show P4 wq5 g5 (.string ⟨#[]⟩) (.string ⟨#[]⟩) (.string ⟨#[]⟩) (.string ⟨#[]⟩) by rw [hwq5,←hg5];exact P4.new _ _ _ _ _ _)
     have L5_:=η (show wd.heap.size≤g5 by rw [←hg5];exact HB_wq2.out.size)
     clear hbq hg5 hwq5
     refine hK.out _ _ HB_wq5.out (fun _=>?_)
     clear K hK
     try simp only [Act.put,π1,π2,π3,π4,π5,π6]
     refine tr 4 rfl (h:=fun K hK=>?_)
     ·
      go_simp
      obtain ⟨wq6,hwq6⟩:∃W,W=wq5.alloc (.cells #[.string ⟨#[]⟩,.string ⟨#[]⟩,.string ⟨#[]⟩,.string ⟨#[]⟩] 159):=⟨_,rfl⟩
      obtain ⟨g4,hg4⟩:∃g,wq5.heap.size=g:=⟨_,rfl⟩
      rw [←hwq6]
      try rw [hg4]
      have hbq:Below wq5.heap.size wq5 wq6:=by rw [hwq6];exact below_new _ _
      have HB_wq6:=η (bseq HB_wq5.out hbq)
      have P5_wq6:=η (show P4 wq6 g4 (.string ⟨#[]⟩) (.string ⟨#[]⟩) (.string ⟨#[]⟩) (.string ⟨#[]⟩) by rw [hwq6,←hg4];exact P4.new _ _ _ _ _ _)
      have L4_:=η (show wd.heap.size≤g4 by rw [←hg4];exact HB_wq5.out.size)
      have N_:=η (show g4≠g5 by have:=P6_wq5.out.lt;omega)
      have P6_wq6:=η (P6_wq5.out.below' hbq)
      clear hbq hg4 hwq6
      refine hK.out _ _ HB_wq6.out (fun _=>?_)
      clear K hK
      try simp only [Act.put,π1,π2,π3,π4,π5,π6]
      refine tr 6 rfl (h:=fun K hK=>?_)
      have r0:=P5_wq6.out.f 0;have r1:=P5_wq6.out.f 1;have r2:=P5_wq6.out.f 2;have r3:=P5_wq6.out.f 3;have q0:=P5_wq6.out.c0;have q1:=P5_wq6.out.c1;have q2:=P5_wq6.out.c2;have q3:=P5_wq6.out.c3
      go_simp
      have hbs:=below4 HB_wq6.out L4_.out (.string ⟨(key1 x).toArray⟩) (.string ⟨(Lb.field x Lb.yearW).toArray⟩) (.string ⟨(Ent.small (Lb.field x Lb.titleW)).toArray⟩) (.string ⟨x.key.toArray⟩)
      have P5s:=η (P5_wq6.out.all (.string ⟨(key1 x).toArray⟩) (.string ⟨(Lb.field x Lb.yearW).toArray⟩) (.string ⟨(Ent.small (Lb.field x Lb.titleW)).toArray⟩) (.string ⟨x.key.toArray⟩))
      have P6s:=η ((((P6_wq6.out.other N_.out 0 (.string ⟨(key1 x).toArray⟩)).other N_.out 1 (.string ⟨(Lb.field x Lb.yearW).toArray⟩)).other N_.out 2 (.string ⟨(Ent.small (Lb.field x Lb.titleW)).toArray⟩)).other N_.out 3 (.string ⟨x.key.toArray⟩))
      refine hK.out _ _ hbs (fun _=>?_)
      clear K hK r0 r1 r2 r3 q0 q1 q2 q3
      try simp only [Act.put,π1,π2,π3,π4,π5,π6]
      refine tr 7 rfl (h:=fun K hK=>?_)
      have r0:=P6s.out.f 0;have r1:=P6s.out.f 1;have r2:=P6s.out.f 2;have r3:=P6s.out.f 3;have q0:=P6s.out.c0;have q1:=P6s.out.c1;have q2:=P6s.out.c2;have q3:=P6s.out.c3
      go_simp
      have hbs2:=below4 hbs L5_.out (.string ⟨(key1 y).toArray⟩) (.string ⟨(Lb.field y Lb.yearW).toArray⟩) (.string ⟨(Ent.small (Lb.field y Lb.titleW)).toArray⟩) (.string ⟨y.key.toArray⟩)
      have P6t:=η (P6s.out.all (.string ⟨(key1 y).toArray⟩) (.string ⟨(Lb.field y Lb.yearW).toArray⟩) (.string ⟨(Ent.small (Lb.field y Lb.titleW)).toArray⟩) (.string ⟨y.key.toArray⟩))
      have P5t:=η ((((P5s.out.other (Ne.symm N_.out) 0 (.string ⟨(key1 y).toArray⟩)).other (Ne.symm N_.out) 1 (.string ⟨(Lb.field y Lb.yearW).toArray⟩)).other (Ne.symm N_.out) 2 (.string ⟨(Ent.small (Lb.field y Lb.titleW)).toArray⟩)).other (Ne.symm N_.out) 3 (.string ⟨y.key.toArray⟩))
      refine hK.out _ _ hbs2 (fun _=>?_)
      clear K hK r0 r1 r2 r3 q0 q1 q2 q3
      try simp only [Act.put,π1,π2,π3,π4,π5,π6]
      refine wpAnyH_done (by kernel_rfl) ?_ _
      go_wp2_with fail
      go_meet
      exact ⟨g4,g5,rfl,rfl,P5t.out,P6t.out,HBd.out.trans (hbs2.mono HBd.out.size)⟩
   ·
    go_simp
    obtain ⟨wq7,hwq7⟩:∃W,W=wq1.alloc (.cells #[.string ⟨#[]⟩,.string ⟨#[]⟩,.string ⟨#[]⟩,.string ⟨#[]⟩] 159):=⟨_,rfl⟩
    obtain ⟨g4,hg4⟩:∃g,wq1.heap.size=g:=⟨_,rfl⟩
    rw [←hwq7]
    try rw [hg4]
    have hbq:Below wq1.heap.size wq1 wq7:=by rw [hwq7];exact below_new _ _
    have HB_wq7:=η (bseq HB_wq1.out hbq)
    have P5_wq7:=η (show P4 wq7 g4 (.string ⟨#[]⟩) (.string ⟨#[]⟩) (.string ⟨#[]⟩) (.string ⟨#[]⟩) by rw [hwq7,←hg4];exact P4.new _ _ _ _ _ _)
    have L4_:=η (show wd.heap.size≤g4 by rw [←hg4];exact HB_wq1.out.size)
    clear hbq hg4 hwq7
    refine hK.out _ _ HB_wq7.out (fun _=>?_)
    clear K hK
    try simp only [Act.put,π1,π2,π3,π4,π5,π6]
    refine wpAnyH_ready (rs:=[3,5]) (by kernel_rfl) (by simp) ?_
    refine AllReadyH.cons rfl (fun K hK=>?_) (AllReadyH.cons rfl (fun K hK=>?_) AllReadyH.nil)
    ·
     go_simp
     go_wp2_with (go_at_call 73; refine (lb_order y vy m Sy _ (SliceIn.below' HFy.out HB_wq7.out) HBy.out (keptM HMd.out H0d.out HB_wq7.out).1 (keptM HMd.out H0d.out HB_wq7.out).2).mono ?_;unfold ordV;rintro e wq8 ⟨rfl,hbq⟩;have HB_wq8:=η (bseq HB_wq7.out hbq);have P5_wq8:=η (P5_wq7.out.below' hbq);clear hbq)
     refine hK.out _ _ HB_wq8.out (fun _=>?_)
     clear K hK
     try simp only [Act.put,π1,π2,π3,π4,π5,π6]
     refine tr 5 rfl (h:=fun K hK=>?_)
     ·
      go_simp
      obtain ⟨wq9,hwq9⟩:∃W,W=wq8.alloc (.cells #[.string ⟨#[]⟩,.string ⟨#[]⟩,.string ⟨#[]⟩,.string ⟨#[]⟩] 159):=⟨_,rfl⟩
      obtain ⟨g5,hg5⟩:∃g,wq8.heap.size=g:=⟨_,rfl⟩
      rw [←hwq9]
      try rw [hg5]
      have hbq:Below wq8.heap.size wq8 wq9:=by rw [hwq9];exact below_new _ _
      have HB_wq9:=η (bseq HB_wq8.out hbq)
      have P6_wq9:=η (show P4 wq9 g5 (.string ⟨#[]⟩) (.string ⟨#[]⟩) (.string ⟨#[]⟩) (.string ⟨#[]⟩) by rw [hwq9,←hg5];exact P4.new _ _ _ _ _ _)
      have L5_:=η (show wd.heap.size≤g5 by rw [←hg5];exact HB_wq8.out.size)
      have N_:=η (show g4≠g5 by have:=P5_wq8.out.lt;omega)
      have P5_wq9:=η (P5_wq8.out.below' hbq)
      clear hbq hg5 hwq9
      refine hK.out _ _ HB_wq9.out (fun _=>?_)
      clear K hK
      try simp only [Act.put,π1,π2,π3,π4,π5,π6]
      refine tr 6 rfl (h:=fun K hK=>?_)
      have r0:=P5_wq9.out.f 0;have r1:=P5_wq9.out.f 1;have r2:=P5_wq9.out.f 2;have r3:=P5_wq9.out.f 3;have q0:=P5_wq9.out.c0;have q1:=P5_wq9.out.c1;have q2:=P5_wq9.out.c2;have q3:=P5_wq9.out.c3
      go_simp
      have hbs:=below4 HB_wq9.out L4_.out (.string ⟨(key1 x).toArray⟩) (.string ⟨(Lb.field x Lb.yearW).toArray⟩) (.string ⟨(Ent.small (Lb.field x Lb.titleW)).toArray⟩) (.string ⟨x.key.toArray⟩)
      have P5s:=η (P5_wq9.out.all (.string ⟨(key1 x).toArray⟩) (.string ⟨(Lb.field x Lb.yearW).toArray⟩) (.string ⟨(Ent.small (Lb.field x Lb.titleW)).toArray⟩) (.string ⟨x.key.toArray⟩))
      have P6s:=η ((((P6_wq9.out.other N_.out 0 (.string ⟨(key1 x).toArray⟩)).other N_.out 1 (.string ⟨(Lb.field x Lb.yearW).toArray⟩)).other N_.out 2 (.string ⟨(Ent.small (Lb.field x Lb.titleW)).toArray⟩)).other N_.out 3 (.string ⟨x.key.toArray⟩))
      refine hK.out _ _ hbs (fun _=>?_)
      clear K hK r0 r1 r2 r3 q0 q1 q2 q3
      try simp only [Act.put,π1,π2,π3,π4,π5,π6]
      refine tr 7 rfl (h:=fun K hK=>?_)
      have r0:=P6s.out.f 0;have r1:=P6s.out.f 1;have r2:=P6s.out.f 2;have r3:=P6s.out.f 3;have q0:=P6s.out.c0;have q1:=P6s.out.c1;have q2:=P6s.out.c2;have q3:=P6s.out.c3
      go_simp
      have hbs2:=below4 hbs L5_.out (.string ⟨(key1 y).toArray⟩) (.string ⟨(Lb.field y Lb.yearW).toArray⟩) (.string ⟨(Ent.small (Lb.field y Lb.titleW)).toArray⟩) (.string ⟨y.key.toArray⟩)
      have P6t:=η (P6s.out.all (.string ⟨(key1 y).toArray⟩) (.string ⟨(Lb.field y Lb.yearW).toArray⟩) (.string ⟨(Ent.small (Lb.field y Lb.titleW)).toArray⟩) (.string ⟨y.key.toArray⟩))
      have P5t:=η ((((P5s.out.other (Ne.symm N_.out) 0 (.string ⟨(key1 y).toArray⟩)).other (Ne.symm N_.out) 1 (.string ⟨(Lb.field y Lb.yearW).toArray⟩)).other (Ne.symm N_.out) 2 (.string ⟨(Ent.small (Lb.field y Lb.titleW)).toArray⟩)).other (Ne.symm N_.out) 3 (.string ⟨y.key.toArray⟩))
      refine hK.out _ _ hbs2 (fun _=>?_)
      clear K hK r0 r1 r2 r3 q0 q1 q2 q3
      try simp only [Act.put,π1,π2,π3,π4,π5,π6]
      refine wpAnyH_done (by kernel_rfl) ?_ _
      go_wp2_with fail
      go_meet
      exact ⟨g4,g5,rfl,rfl,P5t.out,P6t.out,HBd.out.trans (hbs2.mono HBd.out.size)⟩
    ·
     go_simp
     obtain ⟨wq10,hwq10⟩:∃W,W=wq7.alloc (.cells #[.string ⟨#[]⟩,.string ⟨#[]⟩,.string ⟨#[]⟩,.string ⟨#[]⟩] 159):=⟨_,rfl⟩
     obtain ⟨g5,hg5⟩:∃g,wq7.heap.size=g:=⟨_,rfl⟩
     rw [←hwq10]
     try rw [hg5]
     have hbq:Below wq7.heap.size wq7 wq10:=by rw [hwq10];exact below_new _ _
     have HB_wq10:=η (bseq HB_wq7.out hbq)
     have P6_wq10:=η (show P4 wq10 g5 (.string ⟨#[]⟩) (.string ⟨#[]⟩) (.string ⟨#[]⟩) (.string ⟨#[]⟩) by rw [hwq10,←hg5];exact P4.new _ _ _ _ _ _)
     have L5_:=η (show wd.heap.size≤g5 by rw [←hg5];exact HB_wq7.out.size)
     have N_:=η (show g4≠g5 by have:=P5_wq7.out.lt;omega)
     have P5_wq10:=η (P5_wq7.out.below' hbq)
     clear hbq hg5 hwq10
     refine hK.out _ _ HB_wq10.out (fun _=>?_)
     clear K hK
     try simp only [Act.put,π1,π2,π3,π4,π5,π6]
     refine tr 3 rfl (h:=fun K hK=>?_)
     ·
      go_simp
      go_wp2_with (go_at_call 73; refine (lb_order y vy m Sy _ (SliceIn.below' HFy.out HB_wq10.out) HBy.out (keptM HMd.out H0d.out HB_wq10.out).1 (keptM HMd.out H0d.out HB_wq10.out).2).mono ?_;unfold ordV;rintro e wq11 ⟨rfl,hbq⟩;have HB_wq11:=η (bseq HB_wq10.out hbq);have P5_wq11:=η (P5_wq10.out.below' hbq);have P6_wq11:=η (P6_wq10.out.below' hbq);clear hbq)
      refine hK.out _ _ HB_wq11.out (fun _=>?_)
      clear K hK
      try simp only [Act.put,π1,π2,π3,π4,π5,π6]
      refine tr 6 rfl (h:=fun K hK=>?_)
      have r0:=P5_wq11.out.f 0;have r1:=P5_wq11.out.f 1;have r2:=P5_wq11.out.f 2;have r3:=P5_wq11.out.f 3;have q0:=P5_wq11.out.c0;have q1:=P5_wq11.out.c1;have q2:=P5_wq11.out.c2;have q3:=P5_wq11.out.c3
      go_simp
      have hbs:=below4 HB_wq11.out L4_.out (.string ⟨(key1 x).toArray⟩) (.string ⟨(Lb.field x Lb.yearW).toArray⟩) (.string ⟨(Ent.small (Lb.field x Lb.titleW)).toArray⟩) (.string ⟨x.key.toArray⟩)
      have P5s:=η (P5_wq11.out.all (.string ⟨(key1 x).toArray⟩) (.string ⟨(Lb.field x Lb.yearW).toArray⟩) (.string ⟨(Ent.small (Lb.field x Lb.titleW)).toArray⟩) (.string ⟨x.key.toArray⟩))
      have P6s:=η ((((P6_wq11.out.other N_.out 0 (.string ⟨(key1 x).toArray⟩)).other N_.out 1 (.string ⟨(Lb.field x Lb.yearW).toArray⟩)).other N_.out 2 (.string ⟨(Ent.small (Lb.field x Lb.titleW)).toArray⟩)).other N_.out 3 (.string ⟨x.key.toArray⟩))
      refine hK.out _ _ hbs (fun _=>?_)
      clear K hK r0 r1 r2 r3 q0 q1 q2 q3
      try simp only [Act.put,π1,π2,π3,π4,π5,π6]
      refine tr 7 rfl (h:=fun K hK=>?_)
      have r0:=P6s.out.f 0;have r1:=P6s.out.f 1;have r2:=P6s.out.f 2;have r3:=P6s.out.f 3;have q0:=P6s.out.c0;have q1:=P6s.out.c1;have q2:=P6s.out.c2;have q3:=P6s.out.c3
      go_simp
      have hbs2:=below4 hbs L5_.out (.string ⟨(key1 y).toArray⟩) (.string ⟨(Lb.field y Lb.yearW).toArray⟩) (.string ⟨(Ent.small (Lb.field y Lb.titleW)).toArray⟩) (.string ⟨y.key.toArray⟩)
      have P6t:=η (P6s.out.all (.string ⟨(key1 y).toArray⟩) (.string ⟨(Lb.field y Lb.yearW).toArray⟩) (.string ⟨(Ent.small (Lb.field y Lb.titleW)).toArray⟩) (.string ⟨y.key.toArray⟩))
      have P5t:=η ((((P5s.out.other (Ne.symm N_.out) 0 (.string ⟨(key1 y).toArray⟩)).other (Ne.symm N_.out) 1 (.string ⟨(Lb.field y Lb.yearW).toArray⟩)).other (Ne.symm N_.out) 2 (.string ⟨(Ent.small (Lb.field y Lb.titleW)).toArray⟩)).other (Ne.symm N_.out) 3 (.string ⟨y.key.toArray⟩))
      refine hK.out _ _ hbs2 (fun _=>?_)
      clear K hK r0 r1 r2 r3 q0 q1 q2 q3
      try simp only [Act.put,π1,π2,π3,π4,π5,π6]
      refine wpAnyH_done (by kernel_rfl) ?_ _
      go_wp2_with fail
      go_meet
      exact ⟨g4,g5,rfl,rfl,P5t.out,P6t.out,HBd.out.trans (hbs2.mono HBd.out.size)⟩
   ·
    go_simp
    obtain ⟨wq12,hwq12⟩:∃W,W=wq1.alloc (.cells #[.string ⟨#[]⟩,.string ⟨#[]⟩,.string ⟨#[]⟩,.string ⟨#[]⟩] 159):=⟨_,rfl⟩
    obtain ⟨g5,hg5⟩:∃g,wq1.heap.size=g:=⟨_,rfl⟩
    rw [←hwq12]
    try rw [hg5]
    have hbq:Below wq1.heap.size wq1 wq12:=by rw [hwq12];exact below_new _ _
    have HB_wq12:=η (bseq HB_wq1.out hbq)
    have P6_wq12:=η (show P4 wq12 g5 (.string ⟨#[]⟩) (.string ⟨#[]⟩) (.string ⟨#[]⟩) (.string ⟨#[]⟩) by rw [hwq12,←hg5];exact P4.new _ _ _ _ _ _)
    have L5_:=η (show wd.heap.size≤g5 by rw [←hg5];exact HB_wq1.out.size)
    clear hbq hg5 hwq12
    refine hK.out _ _ HB_wq12.out (fun _=>?_)
    clear K hK
    try simp only [Act.put,π1,π2,π3,π4,π5,π6]
    refine wpAnyH_ready (rs:=[3,4]) (by kernel_rfl) (by simp) ?_
    refine AllReadyH.cons rfl (fun K hK=>?_) (AllReadyH.cons rfl (fun K hK=>?_) AllReadyH.nil)
    ·
     go_simp
     go_wp2_with (go_at_call 73; refine (lb_order y vy m Sy _ (SliceIn.below' HFy.out HB_wq12.out) HBy.out (keptM HMd.out H0d.out HB_wq12.out).1 (keptM HMd.out H0d.out HB_wq12.out).2).mono ?_;unfold ordV;rintro e wq13 ⟨rfl,hbq⟩;have HB_wq13:=η (bseq HB_wq12.out hbq);have P6_wq13:=η (P6_wq12.out.below' hbq);clear hbq)
     refine hK.out _ _ HB_wq13.out (fun _=>?_)
     clear K hK
     try simp only [Act.put,π1,π2,π3,π4,π5,π6]
     refine tr 4 rfl (h:=fun K hK=>?_)
     ·
      go_simp
      obtain ⟨wq14,hwq14⟩:∃W,W=wq13.alloc (.cells #[.string ⟨#[]⟩,.string ⟨#[]⟩,.string ⟨#[]⟩,.string ⟨#[]⟩] 159):=⟨_,rfl⟩
      obtain ⟨g4,hg4⟩:∃g,wq13.heap.size=g:=⟨_,rfl⟩
      rw [←hwq14]
      try rw [hg4]
      have hbq:Below wq13.heap.size wq13 wq14:=by rw [hwq14];exact below_new _ _
      have HB_wq14:=η (bseq HB_wq13.out hbq)
      have P5_wq14:=η (show P4 wq14 g4 (.string ⟨#[]⟩) (.string ⟨#[]⟩) (.string ⟨#[]⟩) (.string ⟨#[]⟩) by rw [hwq14,←hg4];exact P4.new _ _ _ _ _ _)
      have L4_:=η (show wd.heap.size≤g4 by rw [←hg4];exact HB_wq13.out.size)
      have N_:=η (show g4≠g5 by have:=P6_wq13.out.lt;omega)
      have P6_wq14:=η (P6_wq13.out.below' hbq)
      clear hbq hg4 hwq14
      refine hK.out _ _ HB_wq14.out (fun _=>?_)
      clear K hK
      try simp only [Act.put,π1,π2,π3,π4,π5,π6]
      refine tr 6 rfl (h:=fun K hK=>?_)
      have r0:=P5_wq14.out.f 0;have r1:=P5_wq14.out.f 1;have r2:=P5_wq14.out.f 2;have r3:=P5_wq14.out.f 3;have q0:=P5_wq14.out.c0;have q1:=P5_wq14.out.c1;have q2:=P5_wq14.out.c2;have q3:=P5_wq14.out.c3
      go_simp
      have hbs:=below4 HB_wq14.out L4_.out (.string ⟨(key1 x).toArray⟩) (.string ⟨(Lb.field x Lb.yearW).toArray⟩) (.string ⟨(Ent.small (Lb.field x Lb.titleW)).toArray⟩) (.string ⟨x.key.toArray⟩)
      have P5s:=η (P5_wq14.out.all (.string ⟨(key1 x).toArray⟩) (.string ⟨(Lb.field x Lb.yearW).toArray⟩) (.string ⟨(Ent.small (Lb.field x Lb.titleW)).toArray⟩) (.string ⟨x.key.toArray⟩))
      have P6s:=η ((((P6_wq14.out.other N_.out 0 (.string ⟨(key1 x).toArray⟩)).other N_.out 1 (.string ⟨(Lb.field x Lb.yearW).toArray⟩)).other N_.out 2 (.string ⟨(Ent.small (Lb.field x Lb.titleW)).toArray⟩)).other N_.out 3 (.string ⟨x.key.toArray⟩))
      refine hK.out _ _ hbs (fun _=>?_)
      clear K hK r0 r1 r2 r3 q0 q1 q2 q3
      try simp only [Act.put,π1,π2,π3,π4,π5,π6]
      refine tr 7 rfl (h:=fun K hK=>?_)
      have r0:=P6s.out.f 0;have r1:=P6s.out.f 1;have r2:=P6s.out.f 2;have r3:=P6s.out.f 3;have q0:=P6s.out.c0;have q1:=P6s.out.c1;have q2:=P6s.out.c2;have q3:=P6s.out.c3
      go_simp
      have hbs2:=below4 hbs L5_.out (.string ⟨(key1 y).toArray⟩) (.string ⟨(Lb.field y Lb.yearW).toArray⟩) (.string ⟨(Ent.small (Lb.field y Lb.titleW)).toArray⟩) (.string ⟨y.key.toArray⟩)
      have P6t:=η (P6s.out.all (.string ⟨(key1 y).toArray⟩) (.string ⟨(Lb.field y Lb.yearW).toArray⟩) (.string ⟨(Ent.small (Lb.field y Lb.titleW)).toArray⟩) (.string ⟨y.key.toArray⟩))
      have P5t:=η ((((P5s.out.other (Ne.symm N_.out) 0 (.string ⟨(key1 y).toArray⟩)).other (Ne.symm N_.out) 1 (.string ⟨(Lb.field y Lb.yearW).toArray⟩)).other (Ne.symm N_.out) 2 (.string ⟨(Ent.small (Lb.field y Lb.titleW)).toArray⟩)).other (Ne.symm N_.out) 3 (.string ⟨y.key.toArray⟩))
      refine hK.out _ _ hbs2 (fun _=>?_)
      clear K hK r0 r1 r2 r3 q0 q1 q2 q3
      try simp only [Act.put,π1,π2,π3,π4,π5,π6]
      refine wpAnyH_done (by kernel_rfl) ?_ _
      go_wp2_with fail
      go_meet
      exact ⟨g4,g5,rfl,rfl,P5t.out,P6t.out,HBd.out.trans (hbs2.mono HBd.out.size)⟩
    ·
     go_simp
     obtain ⟨wq15,hwq15⟩:∃W,W=wq12.alloc (.cells #[.string ⟨#[]⟩,.string ⟨#[]⟩,.string ⟨#[]⟩,.string ⟨#[]⟩] 159):=⟨_,rfl⟩
     obtain ⟨g4,hg4⟩:∃g,wq12.heap.size=g:=⟨_,rfl⟩
     rw [←hwq15]
     try rw [hg4]
     have hbq:Below wq12.heap.size wq12 wq15:=by rw [hwq15];exact below_new _ _
     have HB_wq15:=η (bseq HB_wq12.out hbq)
     have P5_wq15:=η (show P4 wq15 g4 (.string ⟨#[]⟩) (.string ⟨#[]⟩) (.string ⟨#[]⟩) (.string ⟨#[]⟩) by rw [hwq15,←hg4];exact P4.new _ _ _ _ _ _)
     have L4_:=η (show wd.heap.size≤g4 by rw [←hg4];exact HB_wq12.out.size)
     have N_:=η (show g4≠g5 by have:=P6_wq12.out.lt;omega)
     have P6_wq15:=η (P6_wq12.out.below' hbq)
     clear hbq hg4 hwq15
     refine hK.out _ _ HB_wq15.out (fun _=>?_)
     clear K hK
     try simp only [Act.put,π1,π2,π3,π4,π5,π6]
     refine tr 3 rfl (h:=fun K hK=>?_)
     ·
      go_simp
      go_wp2_with (go_at_call 73; refine (lb_order y vy m Sy _ (SliceIn.below' HFy.out HB_wq15.out) HBy.out (keptM HMd.out H0d.out HB_wq15.out).1 (keptM HMd.out H0d.out HB_wq15.out).2).mono ?_;unfold ordV;rintro e wq16 ⟨rfl,hbq⟩;have HB_wq16:=η (bseq HB_wq15.out hbq);have P5_wq16:=η (P5_wq15.out.below' hbq);have P6_wq16:=η (P6_wq15.out.below' hbq);clear hbq)
      refine hK.out _ _ HB_wq16.out (fun _=>?_)
      clear K hK
      try simp only [Act.put,π1,π2,π3,π4,π5,π6]
      refine tr 6 rfl (h:=fun K hK=>?_)
      have r0:=P5_wq16.out.f 0;have r1:=P5_wq16.out.f 1;have r2:=P5_wq16.out.f 2;have r3:=P5_wq16.out.f 3;have q0:=P5_wq16.out.c0;have q1:=P5_wq16.out.c1;have q2:=P5_wq16.out.c2;have q3:=P5_wq16.out.c3
      go_simp
      have hbs:=below4 HB_wq16.out L4_.out (.string ⟨(key1 x).toArray⟩) (.string ⟨(Lb.field x Lb.yearW).toArray⟩) (.string ⟨(Ent.small (Lb.field x Lb.titleW)).toArray⟩) (.string ⟨x.key.toArray⟩)
      have P5s:=η (P5_wq16.out.all (.string ⟨(key1 x).toArray⟩) (.string ⟨(Lb.field x Lb.yearW).toArray⟩) (.string ⟨(Ent.small (Lb.field x Lb.titleW)).toArray⟩) (.string ⟨x.key.toArray⟩))
      have P6s:=η ((((P6_wq16.out.other N_.out 0 (.string ⟨(key1 x).toArray⟩)).other N_.out 1 (.string ⟨(Lb.field x Lb.yearW).toArray⟩)).other N_.out 2 (.string ⟨(Ent.small (Lb.field x Lb.titleW)).toArray⟩)).other N_.out 3 (.string ⟨x.key.toArray⟩))
      refine hK.out _ _ hbs (fun _=>?_)
      clear K hK r0 r1 r2 r3 q0 q1 q2 q3
      try simp only [Act.put,π1,π2,π3,π4,π5,π6]
      refine tr 7 rfl (h:=fun K hK=>?_)
      have r0:=P6s.out.f 0;have r1:=P6s.out.f 1;have r2:=P6s.out.f 2;have r3:=P6s.out.f 3;have q0:=P6s.out.c0;have q1:=P6s.out.c1;have q2:=P6s.out.c2;have q3:=P6s.out.c3
      go_simp
      have hbs2:=below4 hbs L5_.out (.string ⟨(key1 y).toArray⟩) (.string ⟨(Lb.field y Lb.yearW).toArray⟩) (.string ⟨(Ent.small (Lb.field y Lb.titleW)).toArray⟩) (.string ⟨y.key.toArray⟩)
      have P6t:=η (P6s.out.all (.string ⟨(key1 y).toArray⟩) (.string ⟨(Lb.field y Lb.yearW).toArray⟩) (.string ⟨(Ent.small (Lb.field y Lb.titleW)).toArray⟩) (.string ⟨y.key.toArray⟩))
      have P5t:=η ((((P5s.out.other (Ne.symm N_.out) 0 (.string ⟨(key1 y).toArray⟩)).other (Ne.symm N_.out) 1 (.string ⟨(Lb.field y Lb.yearW).toArray⟩)).other (Ne.symm N_.out) 2 (.string ⟨(Ent.small (Lb.field y Lb.titleW)).toArray⟩)).other (Ne.symm N_.out) 3 (.string ⟨y.key.toArray⟩))
      refine hK.out _ _ hbs2 (fun _=>?_)
      clear K hK r0 r1 r2 r3 q0 q1 q2 q3
      try simp only [Act.put,π1,π2,π3,π4,π5,π6]
      refine wpAnyH_done (by kernel_rfl) ?_ _
      go_wp2_with fail
      go_meet
      exact ⟨g4,g5,rfl,rfl,P5t.out,P6t.out,HBd.out.trans (hbs2.mono HBd.out.size)⟩
  ·
   go_simp
   obtain ⟨wq17,hwq17⟩:∃W,W=wd.alloc (.cells #[.string ⟨#[]⟩,.string ⟨#[]⟩,.string ⟨#[]⟩,.string ⟨#[]⟩] 159):=⟨_,rfl⟩
   obtain ⟨g4,hg4⟩:∃g,wd.heap.size=g:=⟨_,rfl⟩
   rw [←hwq17]
   try rw [hg4]
   have hbq:Below wd.heap.size wd wq17:=by rw [hwq17];exact below_new _ _
   have HB_wq17:=η (bseq HB_wd.out hbq)
   have P5_wq17:=η (show P4 wq17 g4 (.string ⟨#[]⟩) (.string ⟨#[]⟩) (.string ⟨#[]⟩) (.string ⟨#[]⟩) by rw [hwq17,←hg4];exact P4.new _ _ _ _ _ _)
   have L4_:=η (show wd.heap.size≤g4 by rw [←hg4];exact HB_wd.out.size)
   clear hbq hg4 hwq17
   refine hK.out _ _ HB_wq17.out (fun _=>?_)
   clear K hK
   try simp only [Act.put,π1,π2,π3,π4,π5,π6]
   refine wpAnyH_ready (rs:=[1,5]) (by kernel_rfl) (by simp) ?_
   refine AllReadyH.cons rfl (fun K hK=>?_) (AllReadyH.cons rfl (fun K hK=>?_) AllReadyH.nil)
   ·
    go_simp
    go_wp2_with (go_at_call 73; refine (lb_order x vx m Sx _ (SliceIn.below' HFx.out HB_wq17.out) HBx.out (keptM HMd.out H0d.out HB_wq17.out).1 (keptM HMd.out H0d.out HB_wq17.out).2).mono ?_;unfold ordV;rintro e wq18 ⟨rfl,hbq⟩;have HB_wq18:=η (bseq HB_wq17.out hbq);have P5_wq18:=η (P5_wq17.out.below' hbq);clear hbq)
    refine hK.out _ _ HB_wq18.out (fun _=>?_)
    clear K hK
    try simp only [Act.put,π1,π2,π3,π4,π5,π6]
    refine wpAnyH_ready (rs:=[3,5]) (by kernel_rfl) (by simp) ?_
    refine AllReadyH.cons rfl (fun K hK=>?_) (AllReadyH.cons rfl (fun K hK=>?_) AllReadyH.nil)
    ·
     go_simp
     go_wp2_with (go_at_call 73; refine (lb_order y vy m Sy _ (SliceIn.below' HFy.out HB_wq18.out) HBy.out (keptM HMd.out H0d.out HB_wq18.out).1 (keptM HMd.out H0d.out HB_wq18.out).2).mono ?_;unfold ordV;rintro e wq19 ⟨rfl,hbq⟩;have HB_wq19:=η (bseq HB_wq18.out hbq);have P5_wq19:=η (P5_wq18.out.below' hbq);clear hbq)
     refine hK.out _ _ HB_wq19.out (fun _=>?_)
     clear K hK
     try simp only [Act.put,π1,π2,π3,π4,π5,π6]
     refine tr 5 rfl (h:=fun K hK=>?_)
     ·
      go_simp
      obtain ⟨wq20,hwq20⟩:∃W,W=wq19.alloc (.cells #[.string ⟨#[]⟩,.string ⟨#[]⟩,.string ⟨#[]⟩,.string ⟨#[]⟩] 159):=⟨_,rfl⟩
      obtain ⟨g5,hg5⟩:∃g,wq19.heap.size=g:=⟨_,rfl⟩
      rw [←hwq20]
      try rw [hg5]
      have hbq:Below wq19.heap.size wq19 wq20:=by rw [hwq20];exact below_new _ _
      have HB_wq20:=η (bseq HB_wq19.out hbq)
      have P6_wq20:=η (show P4 wq20 g5 (.string ⟨#[]⟩) (.string ⟨#[]⟩) (.string ⟨#[]⟩) (.string ⟨#[]⟩) by rw [hwq20,←hg5];exact P4.new _ _ _ _ _ _)
      have L5_:=η (show wd.heap.size≤g5 by rw [←hg5];exact HB_wq19.out.size)
      have N_:=η (show g4≠g5 by have:=P5_wq19.out.lt;omega)
      have P5_wq20:=η (P5_wq19.out.below' hbq)
      clear hbq hg5 hwq20
      refine hK.out _ _ HB_wq20.out (fun _=>?_)
      clear K hK
      try simp only [Act.put,π1,π2,π3,π4,π5,π6]
      refine tr 6 rfl (h:=fun K hK=>?_)
      have r0:=P5_wq20.out.f 0;have r1:=P5_wq20.out.f 1;have r2:=P5_wq20.out.f 2;have r3:=P5_wq20.out.f 3;have q0:=P5_wq20.out.c0;have q1:=P5_wq20.out.c1;have q2:=P5_wq20.out.c2;have q3:=P5_wq20.out.c3
      go_simp
      have hbs:=below4 HB_wq20.out L4_.out (.string ⟨(key1 x).toArray⟩) (.string ⟨(Lb.field x Lb.yearW).toArray⟩) (.string ⟨(Ent.small (Lb.field x Lb.titleW)).toArray⟩) (.string ⟨x.key.toArray⟩)
      have P5s:=η (P5_wq20.out.all (.string ⟨(key1 x).toArray⟩) (.string ⟨(Lb.field x Lb.yearW).toArray⟩) (.string ⟨(Ent.small (Lb.field x Lb.titleW)).toArray⟩) (.string ⟨x.key.toArray⟩))
      have P6s:=η ((((P6_wq20.out.other N_.out 0 (.string ⟨(key1 x).toArray⟩)).other N_.out 1 (.string ⟨(Lb.field x Lb.yearW).toArray⟩)).other N_.out 2 (.string ⟨(Ent.small (Lb.field x Lb.titleW)).toArray⟩)).other N_.out 3 (.string ⟨x.key.toArray⟩))
      refine hK.out _ _ hbs (fun _=>?_)
      clear K hK r0 r1 r2 r3 q0 q1 q2 q3
      try simp only [Act.put,π1,π2,π3,π4,π5,π6]
      refine tr 7 rfl (h:=fun K hK=>?_)
      have r0:=P6s.out.f 0;have r1:=P6s.out.f 1;have r2:=P6s.out.f 2;have r3:=P6s.out.f 3;have q0:=P6s.out.c0;have q1:=P6s.out.c1;have q2:=P6s.out.c2;have q3:=P6s.out.c3
      go_simp
      have hbs2:=below4 hbs L5_.out (.string ⟨(key1 y).toArray⟩) (.string ⟨(Lb.field y Lb.yearW).toArray⟩) (.string ⟨(Ent.small (Lb.field y Lb.titleW)).toArray⟩) (.string ⟨y.key.toArray⟩)
      have P6t:=η (P6s.out.all (.string ⟨(key1 y).toArray⟩) (.string ⟨(Lb.field y Lb.yearW).toArray⟩) (.string ⟨(Ent.small (Lb.field y Lb.titleW)).toArray⟩) (.string ⟨y.key.toArray⟩))
      have P5t:=η ((((P5s.out.other (Ne.symm N_.out) 0 (.string ⟨(key1 y).toArray⟩)).other (Ne.symm N_.out) 1 (.string ⟨(Lb.field y Lb.yearW).toArray⟩)).other (Ne.symm N_.out) 2 (.string ⟨(Ent.small (Lb.field y Lb.titleW)).toArray⟩)).other (Ne.symm N_.out) 3 (.string ⟨y.key.toArray⟩))
      refine hK.out _ _ hbs2 (fun _=>?_)
      clear K hK r0 r1 r2 r3 q0 q1 q2 q3
      try simp only [Act.put,π1,π2,π3,π4,π5,π6]
      refine wpAnyH_done (by kernel_rfl) ?_ _
      go_wp2_with fail
      go_meet
      exact ⟨g4,g5,rfl,rfl,P5t.out,P6t.out,HBd.out.trans (hbs2.mono HBd.out.size)⟩
    ·
     go_simp
     obtain ⟨wq21,hwq21⟩:∃W,W=wq18.alloc (.cells #[.string ⟨#[]⟩,.string ⟨#[]⟩,.string ⟨#[]⟩,.string ⟨#[]⟩] 159):=⟨_,rfl⟩
     obtain ⟨g5,hg5⟩:∃g,wq18.heap.size=g:=⟨_,rfl⟩
     rw [←hwq21]
     try rw [hg5]
     have hbq:Below wq18.heap.size wq18 wq21:=by rw [hwq21];exact below_new _ _
     have HB_wq21:=η (bseq HB_wq18.out hbq)
     have P6_wq21:=η (show P4 wq21 g5 (.string ⟨#[]⟩) (.string ⟨#[]⟩) (.string ⟨#[]⟩) (.string ⟨#[]⟩) by rw [hwq21,←hg5];exact P4.new _ _ _ _ _ _)
     have L5_:=η (show wd.heap.size≤g5 by rw [←hg5];exact HB_wq18.out.size)
     have N_:=η (show g4≠g5 by have:=P5_wq18.out.lt;omega)
     have P5_wq21:=η (P5_wq18.out.below' hbq)
     clear hbq hg5 hwq21
     refine hK.out _ _ HB_wq21.out (fun _=>?_)
     clear K hK
     try simp only [Act.put,π1,π2,π3,π4,π5,π6]
     refine tr 3 rfl (h:=fun K hK=>?_)
     ·
      go_simp
      go_wp2_with (go_at_call 73; refine (lb_order y vy m Sy _ (SliceIn.below' HFy.out HB_wq21.out) HBy.out (keptM HMd.out H0d.out HB_wq21.out).1 (keptM HMd.out H0d.out HB_wq21.out).2).mono ?_;unfold ordV;rintro e wq22 ⟨rfl,hbq⟩;have HB_wq22:=η (bseq HB_wq21.out hbq);have P5_wq22:=η (P5_wq21.out.below' hbq);have P6_wq22:=η (P6_wq21.out.below' hbq);clear hbq)
      refine hK.out _ _ HB_wq22.out (fun _=>?_)
      clear K hK
      try simp only [Act.put,π1,π2,π3,π4,π5,π6]
      refine tr 6 rfl (h:=fun K hK=>?_)
      have r0:=P5_wq22.out.f 0;have r1:=P5_wq22.out.f 1;have r2:=P5_wq22.out.f 2;have r3:=P5_wq22.out.f 3;have q0:=P5_wq22.out.c0;have q1:=P5_wq22.out.c1;have q2:=P5_wq22.out.c2;have q3:=P5_wq22.out.c3
      go_simp
      have hbs:=below4 HB_wq22.out L4_.out (.string ⟨(key1 x).toArray⟩) (.string ⟨(Lb.field x Lb.yearW).toArray⟩) (.string ⟨(Ent.small (Lb.field x Lb.titleW)).toArray⟩) (.string ⟨x.key.toArray⟩)
      have P5s:=η (P5_wq22.out.all (.string ⟨(key1 x).toArray⟩) (.string ⟨(Lb.field x Lb.yearW).toArray⟩) (.string ⟨(Ent.small (Lb.field x Lb.titleW)).toArray⟩) (.string ⟨x.key.toArray⟩))
      have P6s:=η ((((P6_wq22.out.other N_.out 0 (.string ⟨(key1 x).toArray⟩)).other N_.out 1 (.string ⟨(Lb.field x Lb.yearW).toArray⟩)).other N_.out 2 (.string ⟨(Ent.small (Lb.field x Lb.titleW)).toArray⟩)).other N_.out 3 (.string ⟨x.key.toArray⟩))
      refine hK.out _ _ hbs (fun _=>?_)
      clear K hK r0 r1 r2 r3 q0 q1 q2 q3
      try simp only [Act.put,π1,π2,π3,π4,π5,π6]
      refine tr 7 rfl (h:=fun K hK=>?_)
      have r0:=P6s.out.f 0;have r1:=P6s.out.f 1;have r2:=P6s.out.f 2;have r3:=P6s.out.f 3;have q0:=P6s.out.c0;have q1:=P6s.out.c1;have q2:=P6s.out.c2;have q3:=P6s.out.c3
      go_simp
      have hbs2:=below4 hbs L5_.out (.string ⟨(key1 y).toArray⟩) (.string ⟨(Lb.field y Lb.yearW).toArray⟩) (.string ⟨(Ent.small (Lb.field y Lb.titleW)).toArray⟩) (.string ⟨y.key.toArray⟩)
      have P6t:=η (P6s.out.all (.string ⟨(key1 y).toArray⟩) (.string ⟨(Lb.field y Lb.yearW).toArray⟩) (.string ⟨(Ent.small (Lb.field y Lb.titleW)).toArray⟩) (.string ⟨y.key.toArray⟩))
      have P5t:=η ((((P5s.out.other (Ne.symm N_.out) 0 (.string ⟨(key1 y).toArray⟩)).other (Ne.symm N_.out) 1 (.string ⟨(Lb.field y Lb.yearW).toArray⟩)).other (Ne.symm N_.out) 2 (.string ⟨(Ent.small (Lb.field y Lb.titleW)).toArray⟩)).other (Ne.symm N_.out) 3 (.string ⟨y.key.toArray⟩))
      refine hK.out _ _ hbs2 (fun _=>?_)
      clear K hK r0 r1 r2 r3 q0 q1 q2 q3
      try simp only [Act.put,π1,π2,π3,π4,π5,π6]
      refine wpAnyH_done (by kernel_rfl) ?_ _
      go_wp2_with fail
      go_meet
      exact ⟨g4,g5,rfl,rfl,P5t.out,P6t.out,HBd.out.trans (hbs2.mono HBd.out.size)⟩
   ·
    go_simp
    obtain ⟨wq23,hwq23⟩:∃W,W=wq17.alloc (.cells #[.string ⟨#[]⟩,.string ⟨#[]⟩,.string ⟨#[]⟩,.string ⟨#[]⟩] 159):=⟨_,rfl⟩
    obtain ⟨g5,hg5⟩:∃g,wq17.heap.size=g:=⟨_,rfl⟩
    rw [←hwq23]
    try rw [hg5]
    have hbq:Below wq17.heap.size wq17 wq23:=by rw [hwq23];exact below_new _ _
    have HB_wq23:=η (bseq HB_wq17.out hbq)
    have P6_wq23:=η (show P4 wq23 g5 (.string ⟨#[]⟩) (.string ⟨#[]⟩) (.string ⟨#[]⟩) (.string ⟨#[]⟩) by rw [hwq23,←hg5];exact P4.new _ _ _ _ _ _)
    have L5_:=η (show wd.heap.size≤g5 by rw [←hg5];exact HB_wq17.out.size)
    have N_:=η (show g4≠g5 by have:=P5_wq17.out.lt;omega)
    have P5_wq23:=η (P5_wq17.out.below' hbq)
    clear hbq hg5 hwq23
    refine hK.out _ _ HB_wq23.out (fun _=>?_)
    clear K hK
    try simp only [Act.put,π1,π2,π3,π4,π5,π6]
    refine tr 1 rfl (h:=fun K hK=>?_)
    ·
     go_simp
     go_wp2_with (go_at_call 73; refine (lb_order x vx m Sx _ (SliceIn.below' HFx.out HB_wq23.out) HBx.out (keptM HMd.out H0d.out HB_wq23.out).1 (keptM HMd.out H0d.out HB_wq23.out).2).mono ?_;unfold ordV;rintro e wq24 ⟨rfl,hbq⟩;have HB_wq24:=η (bseq HB_wq23.out hbq);have P5_wq24:=η (P5_wq23.out.below' hbq);have P6_wq24:=η (P6_wq23.out.below' hbq);clear hbq)
     refine hK.out _ _ HB_wq24.out (fun _=>?_)
     clear K hK
     try simp only [Act.put,π1,π2,π3,π4,π5,π6]
     refine tr 3 rfl (h:=fun K hK=>?_)
     ·
      go_simp
      go_wp2_with (go_at_call 73; refine (lb_order y vy m Sy _ (SliceIn.below' HFy.out HB_wq24.out) HBy.out (keptM HMd.out H0d.out HB_wq24.out).1 (keptM HMd.out H0d.out HB_wq24.out).2).mono ?_;unfold ordV;rintro e wq25 ⟨rfl,hbq⟩;have HB_wq25:=η (bseq HB_wq24.out hbq);have P5_wq25:=η (P5_wq24.out.below' hbq);have P6_wq25:=η (P6_wq24.out.below' hbq);clear hbq)
      refine hK.out _ _ HB_wq25.out (fun _=>?_)
      clear K hK
      try simp only [Act.put,π1,π2,π3,π4,π5,π6]
      refine tr 6 rfl (h:=fun K hK=>?_)
      have r0:=P5_wq25.out.f 0;have r1:=P5_wq25.out.f 1;have r2:=P5_wq25.out.f 2;have r3:=P5_wq25.out.f 3;have q0:=P5_wq25.out.c0;have q1:=P5_wq25.out.c1;have q2:=P5_wq25.out.c2;have q3:=P5_wq25.out.c3
      go_simp
      have hbs:=below4 HB_wq25.out L4_.out (.string ⟨(key1 x).toArray⟩) (.string ⟨(Lb.field x Lb.yearW).toArray⟩) (.string ⟨(Ent.small (Lb.field x Lb.titleW)).toArray⟩) (.string ⟨x.key.toArray⟩)
      have P5s:=η (P5_wq25.out.all (.string ⟨(key1 x).toArray⟩) (.string ⟨(Lb.field x Lb.yearW).toArray⟩) (.string ⟨(Ent.small (Lb.field x Lb.titleW)).toArray⟩) (.string ⟨x.key.toArray⟩))
      have P6s:=η ((((P6_wq25.out.other N_.out 0 (.string ⟨(key1 x).toArray⟩)).other N_.out 1 (.string ⟨(Lb.field x Lb.yearW).toArray⟩)).other N_.out 2 (.string ⟨(Ent.small (Lb.field x Lb.titleW)).toArray⟩)).other N_.out 3 (.string ⟨x.key.toArray⟩))
      refine hK.out _ _ hbs (fun _=>?_)
      clear K hK r0 r1 r2 r3 q0 q1 q2 q3
      try simp only [Act.put,π1,π2,π3,π4,π5,π6]
      refine tr 7 rfl (h:=fun K hK=>?_)
      have r0:=P6s.out.f 0;have r1:=P6s.out.f 1;have r2:=P6s.out.f 2;have r3:=P6s.out.f 3;have q0:=P6s.out.c0;have q1:=P6s.out.c1;have q2:=P6s.out.c2;have q3:=P6s.out.c3
      go_simp
      have hbs2:=below4 hbs L5_.out (.string ⟨(key1 y).toArray⟩) (.string ⟨(Lb.field y Lb.yearW).toArray⟩) (.string ⟨(Ent.small (Lb.field y Lb.titleW)).toArray⟩) (.string ⟨y.key.toArray⟩)
      have P6t:=η (P6s.out.all (.string ⟨(key1 y).toArray⟩) (.string ⟨(Lb.field y Lb.yearW).toArray⟩) (.string ⟨(Ent.small (Lb.field y Lb.titleW)).toArray⟩) (.string ⟨y.key.toArray⟩))
      have P5t:=η ((((P5s.out.other (Ne.symm N_.out) 0 (.string ⟨(key1 y).toArray⟩)).other (Ne.symm N_.out) 1 (.string ⟨(Lb.field y Lb.yearW).toArray⟩)).other (Ne.symm N_.out) 2 (.string ⟨(Ent.small (Lb.field y Lb.titleW)).toArray⟩)).other (Ne.symm N_.out) 3 (.string ⟨y.key.toArray⟩))
      refine hK.out _ _ hbs2 (fun _=>?_)
      clear K hK r0 r1 r2 r3 q0 q1 q2 q3
      try simp only [Act.put,π1,π2,π3,π4,π5,π6]
      refine wpAnyH_done (by kernel_rfl) ?_ _
      go_wp2_with fail
      go_meet
      exact ⟨g4,g5,rfl,rfl,P5t.out,P6t.out,HBd.out.trans (hbs2.mono HBd.out.size)⟩
  ·
   go_simp
   obtain ⟨wq26,hwq26⟩:∃W,W=wd.alloc (.cells #[.string ⟨#[]⟩,.string ⟨#[]⟩,.string ⟨#[]⟩,.string ⟨#[]⟩] 159):=⟨_,rfl⟩
   obtain ⟨g5,hg5⟩:∃g,wd.heap.size=g:=⟨_,rfl⟩
   rw [←hwq26]
   try rw [hg5]
   have hbq:Below wd.heap.size wd wq26:=by rw [hwq26];exact below_new _ _
   have HB_wq26:=η (bseq HB_wd.out hbq)
   have P6_wq26:=η (show P4 wq26 g5 (.string ⟨#[]⟩) (.string ⟨#[]⟩) (.string ⟨#[]⟩) (.string ⟨#[]⟩) by rw [hwq26,←hg5];exact P4.new _ _ _ _ _ _)
   have L5_:=η (show wd.heap.size≤g5 by rw [←hg5];exact HB_wd.out.size)
   clear hbq hg5 hwq26
   refine hK.out _ _ HB_wq26.out (fun _=>?_)
   clear K hK
   try simp only [Act.put,π1,π2,π3,π4,π5,π6]
   refine wpAnyH_ready (rs:=[1,4]) (by kernel_rfl) (by simp) ?_
   refine AllReadyH.cons rfl (fun K hK=>?_) (AllReadyH.cons rfl (fun K hK=>?_) AllReadyH.nil)
   ·
    go_simp
    go_wp2_with (go_at_call 73; refine (lb_order x vx m Sx _ (SliceIn.below' HFx.out HB_wq26.out) HBx.out (keptM HMd.out H0d.out HB_wq26.out).1 (keptM HMd.out H0d.out HB_wq26.out).2).mono ?_;unfold ordV;rintro e wq27 ⟨rfl,hbq⟩;have HB_wq27:=η (bseq HB_wq26.out hbq);have P6_wq27:=η (P6_wq26.out.below' hbq);clear hbq)
    refine hK.out _ _ HB_wq27.out (fun _=>?_)
    clear K hK
    try simp only [Act.put,π1,π2,π3,π4,π5,π6]
    refine wpAnyH_ready (rs:=[3,4]) (by kernel_rfl) (by simp) ?_
    refine AllReadyH.cons rfl (fun K hK=>?_) (AllReadyH.cons rfl (fun K hK=>?_) AllReadyH.nil)
    ·
     go_simp
     go_wp2_with (go_at_call 73; refine (lb_order y vy m Sy _ (SliceIn.below' HFy.out HB_wq27.out) HBy.out (keptM HMd.out H0d.out HB_wq27.out).1 (keptM HMd.out H0d.out HB_wq27.out).2).mono ?_;unfold ordV;rintro e wq28 ⟨rfl,hbq⟩;have HB_wq28:=η (bseq HB_wq27.out hbq);have P6_wq28:=η (P6_wq27.out.below' hbq);clear hbq)
     refine hK.out _ _ HB_wq28.out (fun _=>?_)
     clear K hK
     try simp only [Act.put,π1,π2,π3,π4,π5,π6]
     refine tr 4 rfl (h:=fun K hK=>?_)
     ·
      go_simp
      obtain ⟨wq29,hwq29⟩:∃W,W=wq28.alloc (.cells #[.string ⟨#[]⟩,.string ⟨#[]⟩,.string ⟨#[]⟩,.string ⟨#[]⟩] 159):=⟨_,rfl⟩
      obtain ⟨g4,hg4⟩:∃g,wq28.heap.size=g:=⟨_,rfl⟩
      rw [←hwq29]
      try rw [hg4]
      have hbq:Below wq28.heap.size wq28 wq29:=by rw [hwq29];exact below_new _ _
      have HB_wq29:=η (bseq HB_wq28.out hbq)
      have P5_wq29:=η (show P4 wq29 g4 (.string ⟨#[]⟩) (.string ⟨#[]⟩) (.string ⟨#[]⟩) (.string ⟨#[]⟩) by rw [hwq29,←hg4];exact P4.new _ _ _ _ _ _)
      have L4_:=η (show wd.heap.size≤g4 by rw [←hg4];exact HB_wq28.out.size)
      have N_:=η (show g4≠g5 by have:=P6_wq28.out.lt;omega)
      have P6_wq29:=η (P6_wq28.out.below' hbq)
      clear hbq hg4 hwq29
      refine hK.out _ _ HB_wq29.out (fun _=>?_)
      clear K hK
      try simp only [Act.put,π1,π2,π3,π4,π5,π6]
      refine tr 6 rfl (h:=fun K hK=>?_)
      have r0:=P5_wq29.out.f 0;have r1:=P5_wq29.out.f 1;have r2:=P5_wq29.out.f 2;have r3:=P5_wq29.out.f 3;have q0:=P5_wq29.out.c0;have q1:=P5_wq29.out.c1;have q2:=P5_wq29.out.c2;have q3:=P5_wq29.out.c3
      go_simp
      have hbs:=below4 HB_wq29.out L4_.out (.string ⟨(key1 x).toArray⟩) (.string ⟨(Lb.field x Lb.yearW).toArray⟩) (.string ⟨(Ent.small (Lb.field x Lb.titleW)).toArray⟩) (.string ⟨x.key.toArray⟩)
      have P5s:=η (P5_wq29.out.all (.string ⟨(key1 x).toArray⟩) (.string ⟨(Lb.field x Lb.yearW).toArray⟩) (.string ⟨(Ent.small (Lb.field x Lb.titleW)).toArray⟩) (.string ⟨x.key.toArray⟩))
      have P6s:=η ((((P6_wq29.out.other N_.out 0 (.string ⟨(key1 x).toArray⟩)).other N_.out 1 (.string ⟨(Lb.field x Lb.yearW).toArray⟩)).other N_.out 2 (.string ⟨(Ent.small (Lb.field x Lb.titleW)).toArray⟩)).other N_.out 3 (.string ⟨x.key.toArray⟩))
      refine hK.out _ _ hbs (fun _=>?_)
      clear K hK r0 r1 r2 r3 q0 q1 q2 q3
      try simp only [Act.put,π1,π2,π3,π4,π5,π6]
      refine tr 7 rfl (h:=fun K hK=>?_)
      have r0:=P6s.out.f 0;have r1:=P6s.out.f 1;have r2:=P6s.out.f 2;have r3:=P6s.out.f 3;have q0:=P6s.out.c0;have q1:=P6s.out.c1;have q2:=P6s.out.c2;have q3:=P6s.out.c3
      go_simp
      have hbs2:=below4 hbs L5_.out (.string ⟨(key1 y).toArray⟩) (.string ⟨(Lb.field y Lb.yearW).toArray⟩) (.string ⟨(Ent.small (Lb.field y Lb.titleW)).toArray⟩) (.string ⟨y.key.toArray⟩)
      have P6t:=η (P6s.out.all (.string ⟨(key1 y).toArray⟩) (.string ⟨(Lb.field y Lb.yearW).toArray⟩) (.string ⟨(Ent.small (Lb.field y Lb.titleW)).toArray⟩) (.string ⟨y.key.toArray⟩))
      have P5t:=η ((((P5s.out.other (Ne.symm N_.out) 0 (.string ⟨(key1 y).toArray⟩)).other (Ne.symm N_.out) 1 (.string ⟨(Lb.field y Lb.yearW).toArray⟩)).other (Ne.symm N_.out) 2 (.string ⟨(Ent.small (Lb.field y Lb.titleW)).toArray⟩)).other (Ne.symm N_.out) 3 (.string ⟨y.key.toArray⟩))
      refine hK.out _ _ hbs2 (fun _=>?_)
      clear K hK r0 r1 r2 r3 q0 q1 q2 q3
      try simp only [Act.put,π1,π2,π3,π4,π5,π6]
      refine wpAnyH_done (by kernel_rfl) ?_ _
      go_wp2_with fail
      go_meet
      exact ⟨g4,g5,rfl,rfl,P5t.out,P6t.out,HBd.out.trans (hbs2.mono HBd.out.size)⟩
    ·
     go_simp
     obtain ⟨wq30,hwq30⟩:∃W,W=wq27.alloc (.cells #[.string ⟨#[]⟩,.string ⟨#[]⟩,.string ⟨#[]⟩,.string ⟨#[]⟩] 159):=⟨_,rfl⟩
     obtain ⟨g4,hg4⟩:∃g,wq27.heap.size=g:=⟨_,rfl⟩
     rw [←hwq30]
     try rw [hg4]
     have hbq:Below wq27.heap.size wq27 wq30:=by rw [hwq30];exact below_new _ _
     have HB_wq30:=η (bseq HB_wq27.out hbq)
     have P5_wq30:=η (show P4 wq30 g4 (.string ⟨#[]⟩) (.string ⟨#[]⟩) (.string ⟨#[]⟩) (.string ⟨#[]⟩) by rw [hwq30,←hg4];exact P4.new _ _ _ _ _ _)
     have L4_:=η (show wd.heap.size≤g4 by rw [←hg4];exact HB_wq27.out.size)
     have N_:=η (show g4≠g5 by have:=P6_wq27.out.lt;omega)
     have P6_wq30:=η (P6_wq27.out.below' hbq)
     clear hbq hg4 hwq30
     refine hK.out _ _ HB_wq30.out (fun _=>?_)
     clear K hK
     try simp only [Act.put,π1,π2,π3,π4,π5,π6]
     refine tr 3 rfl (h:=fun K hK=>?_)
     ·
      go_simp
      go_wp2_with (go_at_call 73; refine (lb_order y vy m Sy _ (SliceIn.below' HFy.out HB_wq30.out) HBy.out (keptM HMd.out H0d.out HB_wq30.out).1 (keptM HMd.out H0d.out HB_wq30.out).2).mono ?_;unfold ordV;rintro e wq31 ⟨rfl,hbq⟩;have HB_wq31:=η (bseq HB_wq30.out hbq);have P5_wq31:=η (P5_wq30.out.below' hbq);have P6_wq31:=η (P6_wq30.out.below' hbq);clear hbq)
      refine hK.out _ _ HB_wq31.out (fun _=>?_)
      clear K hK
      try simp only [Act.put,π1,π2,π3,π4,π5,π6]
      refine tr 6 rfl (h:=fun K hK=>?_)
      have r0:=P5_wq31.out.f 0;have r1:=P5_wq31.out.f 1;have r2:=P5_wq31.out.f 2;have r3:=P5_wq31.out.f 3;have q0:=P5_wq31.out.c0;have q1:=P5_wq31.out.c1;have q2:=P5_wq31.out.c2;have q3:=P5_wq31.out.c3
      go_simp
      have hbs:=below4 HB_wq31.out L4_.out (.string ⟨(key1 x).toArray⟩) (.string ⟨(Lb.field x Lb.yearW).toArray⟩) (.string ⟨(Ent.small (Lb.field x Lb.titleW)).toArray⟩) (.string ⟨x.key.toArray⟩)
      have P5s:=η (P5_wq31.out.all (.string ⟨(key1 x).toArray⟩) (.string ⟨(Lb.field x Lb.yearW).toArray⟩) (.string ⟨(Ent.small (Lb.field x Lb.titleW)).toArray⟩) (.string ⟨x.key.toArray⟩))
      have P6s:=η ((((P6_wq31.out.other N_.out 0 (.string ⟨(key1 x).toArray⟩)).other N_.out 1 (.string ⟨(Lb.field x Lb.yearW).toArray⟩)).other N_.out 2 (.string ⟨(Ent.small (Lb.field x Lb.titleW)).toArray⟩)).other N_.out 3 (.string ⟨x.key.toArray⟩))
      refine hK.out _ _ hbs (fun _=>?_)
      clear K hK r0 r1 r2 r3 q0 q1 q2 q3
      try simp only [Act.put,π1,π2,π3,π4,π5,π6]
      refine tr 7 rfl (h:=fun K hK=>?_)
      have r0:=P6s.out.f 0;have r1:=P6s.out.f 1;have r2:=P6s.out.f 2;have r3:=P6s.out.f 3;have q0:=P6s.out.c0;have q1:=P6s.out.c1;have q2:=P6s.out.c2;have q3:=P6s.out.c3
      go_simp
      have hbs2:=below4 hbs L5_.out (.string ⟨(key1 y).toArray⟩) (.string ⟨(Lb.field y Lb.yearW).toArray⟩) (.string ⟨(Ent.small (Lb.field y Lb.titleW)).toArray⟩) (.string ⟨y.key.toArray⟩)
      have P6t:=η (P6s.out.all (.string ⟨(key1 y).toArray⟩) (.string ⟨(Lb.field y Lb.yearW).toArray⟩) (.string ⟨(Ent.small (Lb.field y Lb.titleW)).toArray⟩) (.string ⟨y.key.toArray⟩))
      have P5t:=η ((((P5s.out.other (Ne.symm N_.out) 0 (.string ⟨(key1 y).toArray⟩)).other (Ne.symm N_.out) 1 (.string ⟨(Lb.field y Lb.yearW).toArray⟩)).other (Ne.symm N_.out) 2 (.string ⟨(Ent.small (Lb.field y Lb.titleW)).toArray⟩)).other (Ne.symm N_.out) 3 (.string ⟨y.key.toArray⟩))
      refine hK.out _ _ hbs2 (fun _=>?_)
      clear K hK r0 r1 r2 r3 q0 q1 q2 q3
      try simp only [Act.put,π1,π2,π3,π4,π5,π6]
      refine wpAnyH_done (by kernel_rfl) ?_ _
      go_wp2_with fail
      go_meet
      exact ⟨g4,g5,rfl,rfl,P5t.out,P6t.out,HBd.out.trans (hbs2.mono HBd.out.size)⟩
   ·
    go_simp
    obtain ⟨wq32,hwq32⟩:∃W,W=wq26.alloc (.cells #[.string ⟨#[]⟩,.string ⟨#[]⟩,.string ⟨#[]⟩,.string ⟨#[]⟩] 159):=⟨_,rfl⟩
    obtain ⟨g4,hg4⟩:∃g,wq26.heap.size=g:=⟨_,rfl⟩
    rw [←hwq32]
    try rw [hg4]
    have hbq:Below wq26.heap.size wq26 wq32:=by rw [hwq32];exact below_new _ _
    have HB_wq32:=η (bseq HB_wq26.out hbq)
    have P5_wq32:=η (show P4 wq32 g4 (.string ⟨#[]⟩) (.string ⟨#[]⟩) (.string ⟨#[]⟩) (.string ⟨#[]⟩) by rw [hwq32,←hg4];exact P4.new _ _ _ _ _ _)
    have L4_:=η (show wd.heap.size≤g4 by rw [←hg4];exact HB_wq26.out.size)
    have N_:=η (show g4≠g5 by have:=P6_wq26.out.lt;omega)
    have P6_wq32:=η (P6_wq26.out.below' hbq)
    clear hbq hg4 hwq32
    refine hK.out _ _ HB_wq32.out (fun _=>?_)
    clear K hK
    try simp only [Act.put,π1,π2,π3,π4,π5,π6]
    refine tr 1 rfl (h:=fun K hK=>?_)
    ·
     go_simp
     go_wp2_with (go_at_call 73; refine (lb_order x vx m Sx _ (SliceIn.below' HFx.out HB_wq32.out) HBx.out (keptM HMd.out H0d.out HB_wq32.out).1 (keptM HMd.out H0d.out HB_wq32.out).2).mono ?_;unfold ordV;rintro e wq33 ⟨rfl,hbq⟩;have HB_wq33:=η (bseq HB_wq32.out hbq);have P5_wq33:=η (P5_wq32.out.below' hbq);have P6_wq33:=η (P6_wq32.out.below' hbq);clear hbq)
     refine hK.out _ _ HB_wq33.out (fun _=>?_)
     clear K hK
     try simp only [Act.put,π1,π2,π3,π4,π5,π6]
     refine tr 3 rfl (h:=fun K hK=>?_)
     ·
      go_simp
      go_wp2_with (go_at_call 73; refine (lb_order y vy m Sy _ (SliceIn.below' HFy.out HB_wq33.out) HBy.out (keptM HMd.out H0d.out HB_wq33.out).1 (keptM HMd.out H0d.out HB_wq33.out).2).mono ?_;unfold ordV;rintro e wq34 ⟨rfl,hbq⟩;have HB_wq34:=η (bseq HB_wq33.out hbq);have P5_wq34:=η (P5_wq33.out.below' hbq);have P6_wq34:=η (P6_wq33.out.below' hbq);clear hbq)
      refine hK.out _ _ HB_wq34.out (fun _=>?_)
      clear K hK
      try simp only [Act.put,π1,π2,π3,π4,π5,π6]
      refine tr 6 rfl (h:=fun K hK=>?_)
      have r0:=P5_wq34.out.f 0;have r1:=P5_wq34.out.f 1;have r2:=P5_wq34.out.f 2;have r3:=P5_wq34.out.f 3;have q0:=P5_wq34.out.c0;have q1:=P5_wq34.out.c1;have q2:=P5_wq34.out.c2;have q3:=P5_wq34.out.c3
      go_simp
      have hbs:=below4 HB_wq34.out L4_.out (.string ⟨(key1 x).toArray⟩) (.string ⟨(Lb.field x Lb.yearW).toArray⟩) (.string ⟨(Ent.small (Lb.field x Lb.titleW)).toArray⟩) (.string ⟨x.key.toArray⟩)
      have P5s:=η (P5_wq34.out.all (.string ⟨(key1 x).toArray⟩) (.string ⟨(Lb.field x Lb.yearW).toArray⟩) (.string ⟨(Ent.small (Lb.field x Lb.titleW)).toArray⟩) (.string ⟨x.key.toArray⟩))
      have P6s:=η ((((P6_wq34.out.other N_.out 0 (.string ⟨(key1 x).toArray⟩)).other N_.out 1 (.string ⟨(Lb.field x Lb.yearW).toArray⟩)).other N_.out 2 (.string ⟨(Ent.small (Lb.field x Lb.titleW)).toArray⟩)).other N_.out 3 (.string ⟨x.key.toArray⟩))
      refine hK.out _ _ hbs (fun _=>?_)
      clear K hK r0 r1 r2 r3 q0 q1 q2 q3
      try simp only [Act.put,π1,π2,π3,π4,π5,π6]
      refine tr 7 rfl (h:=fun K hK=>?_)
      have r0:=P6s.out.f 0;have r1:=P6s.out.f 1;have r2:=P6s.out.f 2;have r3:=P6s.out.f 3;have q0:=P6s.out.c0;have q1:=P6s.out.c1;have q2:=P6s.out.c2;have q3:=P6s.out.c3
      go_simp
      have hbs2:=below4 hbs L5_.out (.string ⟨(key1 y).toArray⟩) (.string ⟨(Lb.field y Lb.yearW).toArray⟩) (.string ⟨(Ent.small (Lb.field y Lb.titleW)).toArray⟩) (.string ⟨y.key.toArray⟩)
      have P6t:=η (P6s.out.all (.string ⟨(key1 y).toArray⟩) (.string ⟨(Lb.field y Lb.yearW).toArray⟩) (.string ⟨(Ent.small (Lb.field y Lb.titleW)).toArray⟩) (.string ⟨y.key.toArray⟩))
      have P5t:=η ((((P5s.out.other (Ne.symm N_.out) 0 (.string ⟨(key1 y).toArray⟩)).other (Ne.symm N_.out) 1 (.string ⟨(Lb.field y Lb.yearW).toArray⟩)).other (Ne.symm N_.out) 2 (.string ⟨(Ent.small (Lb.field y Lb.titleW)).toArray⟩)).other (Ne.symm N_.out) 3 (.string ⟨y.key.toArray⟩))
      refine hK.out _ _ hbs2 (fun _=>?_)
      clear K hK r0 r1 r2 r3 q0 q1 q2 q3
      try simp only [Act.put,π1,π2,π3,π4,π5,π6]
      refine wpAnyH_done (by kernel_rfl) ?_ _
      go_wp2_with fail
      go_meet
      exact ⟨g4,g5,rfl,rfl,P5t.out,P6t.out,HBd.out.trans (hbs2.mono HBd.out.size)⟩
 case rest =>
  obtain ⟨g4,g5,rfl,rfl,P5,P6,hbc⟩:=hcut
  go_upto_region 2 with fail
  refine wp_region_any (by kernel_rfl) ?_
  change wpAny _ _ _ _ _ _ _ (World.drew _)
  have HBd:=η hbc.drew
  have P5d:=η P5.drew;have P6d:=η P6.drew
  clear P5 P6 hbc
  generalize wc.drew=wd at *
  have hS0:=Below.refl wd.heap.size wd
  refine wpAny_of_held (S:=fun W=>Below wd.heap.size wd W) _ _ _ _ ?_
  refine tk 0 (.pointer (some ⟨g4,0,none⟩)) rfl (hy:=fun W hW=>by go_simp) (h:=?_)
  refine tk 1 ((.string ⟨(key1 x).toArray⟩)) rfl (hy:=fun W hW=>by (have q:=P5d.out.below' hW;have c0:=q.c0;go_simp)) (h:=?_)
  refine tk 2 (.pointer (some ⟨g5,0,none⟩)) rfl (hy:=fun W hW=>by go_simp) (h:=?_)
  refine tk 3 ((.string ⟨(key1 y).toArray⟩)) rfl (hy:=fun W hW=>by (have q:=P6d.out.below' hW;have c0:=q.c0;go_simp)) (h:=?_)
  refine tk 5 (.pointer (some ⟨g4,1,none⟩)) rfl (hy:=fun W hW=>by go_simp) (h:=?_)
  refine tk 6 ((.string ⟨(Lb.field x Lb.yearW).toArray⟩)) rfl (hy:=fun W hW=>by (have q:=P5d.out.below' hW;have c1:=q.c1;go_simp)) (h:=?_)
  refine tk 7 (.pointer (some ⟨g5,1,none⟩)) rfl (hy:=fun W hW=>by go_simp) (h:=?_)
  refine tk 8 ((.string ⟨(Lb.field y Lb.yearW).toArray⟩)) rfl (hy:=fun W hW=>by (have q:=P6d.out.below' hW;have c1:=q.c1;go_simp)) (h:=?_)
  refine tk 10 (.pointer (some ⟨g4,2,none⟩)) rfl (hy:=fun W hW=>by go_simp) (h:=?_)
  refine tk 11 ((.string ⟨(Ent.small (Lb.field x Lb.titleW)).toArray⟩)) rfl (hy:=fun W hW=>by (have q:=P5d.out.below' hW;have c2:=q.c2;go_simp)) (h:=?_)
  refine tk 12 (.pointer (some ⟨g5,2,none⟩)) rfl (hy:=fun W hW=>by go_simp) (h:=?_)
  refine tk 13 ((.string ⟨(Ent.small (Lb.field y Lb.titleW)).toArray⟩)) rfl (hy:=fun W hW=>by (have q:=P6d.out.below' hW;have c2:=q.c2;go_simp)) (h:=?_)
  refine tk 15 (.pointer (some ⟨g4,3,none⟩)) rfl (hy:=fun W hW=>by go_simp) (h:=?_)
  refine tk 16 ((.string ⟨x.key.toArray⟩)) rfl (hy:=fun W hW=>by (have q:=P5d.out.below' hW;have c3:=q.c3;go_simp)) (h:=?_)
  refine tk 17 (.pointer (some ⟨g5,3,none⟩)) rfl (hy:=fun W hW=>by go_simp) (h:=?_)
  refine tk 18 ((.string ⟨y.key.toArray⟩)) rfl (hy:=fun W hW=>by (have q:=P6d.out.below' hW;have c3:=q.c3;go_simp)) (h:=?_)
  try simp only [Act.put,π1,π2,π3,π4,π5,π6]
  refine tr 4 rfl (h:=fun K hK=>?_)
  go_simp
  go_wp2_with (go_at_call 75; refine (std_compare (key1 x) (key1 y) _).mono ?_;rintro e w9 ⟨rfl,hw9⟩;have hw9:=hw9.symm;subst hw9)
  refine hK.out _ _ (hS0) (fun _=>?_)
  clear K hK
  try simp only [Act.put,π1,π2,π3,π4,π5,π6]
  refine tr 9 rfl (h:=fun K hK=>?_)
  go_simp
  go_wp2_with (go_at_call 75; refine (std_compare (Lb.field x Lb.yearW) (Lb.field y Lb.yearW) _).mono ?_;rintro e w9 ⟨rfl,hw9⟩;have hw9:=hw9.symm;subst hw9)
  refine hK.out _ _ (hS0) (fun _=>?_)
  clear K hK
  try simp only [Act.put,π1,π2,π3,π4,π5,π6]
  refine tr 14 rfl (h:=fun K hK=>?_)
  go_simp
  go_wp2_with (go_at_call 75; refine (std_compare (Ent.small (Lb.field x Lb.titleW)) (Ent.small (Lb.field y Lb.titleW)) _).mono ?_;rintro e w9 ⟨rfl,hw9⟩;have hw9:=hw9.symm;subst hw9)
  refine hK.out _ _ (hS0) (fun _=>?_)
  clear K hK
  try simp only [Act.put,π1,π2,π3,π4,π5,π6]
  refine tr 19 rfl (h:=fun K hK=>?_)
  go_simp
  go_wp2_with (go_at_call 75; refine (std_compare x.key y.key _).mono ?_;rintro e w9 ⟨rfl,hw9⟩;have hw9:=hw9.symm;subst hw9)
  refine hK.out _ _ (hS0) (fun _=>?_)
  clear K hK
  try simp only [Act.put,π1,π2,π3,π4,π5,π6]
  refine tr 20 rfl (h:=fun K hK=>?_)
  go_simp
  obtain ⟨w8,hw8⟩:∃W,W=wd.alloc (.cells #[.int .i64 (Lb.cmpB (key1 x) (key1 y)),.int .i64 (Lb.cmpB (Lb.field x Lb.yearW) (Lb.field y Lb.yearW)),.int .i64 (Lb.cmpB (Ent.small (Lb.field x Lb.titleW)) (Ent.small (Lb.field y Lb.titleW))),.int .i64 (Lb.cmpB x.key y.key)] 3):=⟨_,rfl⟩
  rw [←hw8]
  have hO8:OwnL wd.heap.size 3 1 RInt w8 (.slice (some ⟨wd.heap.size,0,none⟩) 4 4) [Lb.cmpB (key1 x) (key1 y),Lb.cmpB (Lb.field x Lb.yearW) (Lb.field y Lb.yearW),Lb.cmpB (Ent.small (Lb.field x Lb.titleW)) (Ent.small (Lb.field y Lb.titleW)),Lb.cmpB x.key y.key]:=by
   rw [hw8]
   exact ⟨[.int .i64 (Lb.cmpB (key1 x) (key1 y)),.int .i64 (Lb.cmpB (Lb.field x Lb.yearW) (Lb.field y Lb.yearW)),.int .i64 (Lb.cmpB (Ent.small (Lb.field x Lb.titleW)) (Ent.small (Lb.field y Lb.titleW))),.int .i64 (Lb.cmpB x.key y.key)],own_built wd wd.heap.size 3 1 4 [.int .i64 (Lb.cmpB (key1 x) (key1 y)),.int .i64 (Lb.cmpB (Lb.field x Lb.yearW) (Lb.field y Lb.yearW)),.int .i64 (Lb.cmpB (Ent.small (Lb.field x Lb.titleW)) (Ent.small (Lb.field y Lb.titleW))),.int .i64 (Lb.cmpB x.key y.key)] (Nat.le_refl _) rfl (by unfold maxLen;omega),ints_rep _⟩
  have Hb8:=η (show Below wd.heap.size wd w8 by rw [hw8];exact below_new _ _)
  have HO8:=η (hO8.slice RInt.size (fun _=>True) (fun _ _=>trivial));clear hO8 hw8
  refine hK.out _ _ Hb8.out (fun _=>?_)
  clear K hK
  try simp only [Act.put,π1,π2,π3,π4,π5,π6]
  refine tr 21 rfl (h:=fun K hK=>?_)
  go_simp
  go_wp2_with (go_at_call 74; refine (std_or _ _ _ _ HO8.out (by simp)).mono ?_;rw [Hcmp.out];rintro e w10 ⟨rfl,hw9⟩;have hw9:=hw9.symm;subst hw9)
  refine hK.out _ _ (Hb8.out) (fun _=>?_)
  clear K hK
  refine tk 22 (.int .i64 (Lb.cmp x y)) rfl (h:=?_)
  try simp only [Act.put,π1,π2,π3,π4,π5,π6]
  refine wpAnyH_done (by kernel_rfl) ?_ _
  go_wp2_with fail
  go_ret
  exact ⟨rfl,HBd.out.trans (Hb8.out.mono HBd.out.size)⟩
end Go.Proofs.YtgnfmopcialllaaGreatDoor
