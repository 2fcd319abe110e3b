/- The walk of bib.Run. -/
import Derived.Test.YtgnfmopcialllaaGreatDoorTk
import Derived.Test.YtgnfmopcialllaaGreatDoorG32
import Derived.Test.YtgnfmopcialllaaGreatDoorF2c
import Derived.OrdersHeld
import Derived.Deep.RegionHeld
set_option linter.unusedSimpArgs false
set_option linter.unusedVariables false
namespace Go.Proofs.YtgnfmopcialllaaGreatDoor
open Go.RowKit
theorem SliceIn.shape2 {α:Type} {S:Nat→Prop} {size:Nat} {R:α→List Value→Prop} {w:World} {v:Value} {xs:List α} (h:SliceIn S size R w v xs):∃p c,v = .slice p xs.length c:=by
 obtain ⟨p,c,h,_⟩:=h
 exact ⟨p,c,h⟩
theorem nsP_le (l:List (List UInt8 × List UInt8)) (ht:∀x ∈ l,x.2.length≤500) (n:List UInt8):(nsP l n).length≤500:=by
 have h:=Bb.text_le l ht n
 unfold nsP
 cases hg:Ix.get l n with
 | none=>simp
 | some t=>rw [hg] at h;exact (Bb.parse_b t h).2.1
theorem esP_le (l:List (List UInt8 × List UInt8)) (ht:∀x ∈ l,x.2.length≤500) (n:List UInt8):(esP l n).length≤500:=by
 have h:=Bb.text_le l ht n
 unfold esP
 cases hg:Ix.get l n with
 | none=>simp
 | some t=>rw [hg] at h;exact (Bb.parse_b t h).1
theorem Ents.mvF {g:Nat} {vr vn vr' vn' va v:Value} {w w':World} {es:List Ent.Ent} (h:Ents (Free g vr vn va) w v es) (hM:Mv g vr vn vr' vn' w w'):Ents (Free g vr' vn' va) w' v es :=
 Ents.kept (Ents.strong h) (fun b hb=>(Free.mv hb.1 hM hb.2).1) hM.size (fun b hb hlt=>(Free.mv hb.1 hM hb.2).2)
theorem AllE.ents {g:Nat} {vr vn va:Value} {es:List Ent.Ent} {w:World} (h:AllE g vr vn va es w):Ents (fun j=>j<w.heap.size) w va es:=by
 obtain ⟨ps,rfl,ho,hf⟩:=h.ex
 have h1:=ents_unzip (ho.slice RP.size (fun _=>True) (fun _ _=>trivial)) (fun p hp=>(hf p hp).any)
 exact Ents.kept (Ents.strong h1) (fun b hb=>hb.2) (Nat.le_refl _) (fun _ _ _=>rfl)
theorem cits_kept {S:Nat→Prop} {w w':World} {v:Value} {cs:List Lb.Cited} (h:SliceIn S 5 (RCit S w) w v cs) (hz:w.heap.size≤w'.heap.size) (hb:∀b,S b→b<w.heap.size→w'.heap[b]? = w.heap[b]?):SliceIn S 5 (RCit S w') w' v cs :=
 SliceIn.kept h (fun _ h=>h) hz hb (fun c vs _ ⟨vf,e,hF⟩=>⟨vf,e,SliceIn.kept hF (fun _ h=>h) hz hb (fun _ _ _ h=>h)⟩)
theorem wrap_succ (k k1:Nat) (h:k1=k+1) (hk:k≤39):wrap64 ((k:Int)+1)=(k1:Int):=by unfold wrap64;omega
theorem own_mv {α:Type} {g n:Nat} {t:TypeId} {R:α→List Value→Prop} {vf vr vn vr' vn' v:Value} {rs:List (List UInt8)} {ns:List (Int × List UInt8)} {w w':World} {xs:List α} (h:OwnL (g+1) t n R w v xs) (hW:Wk g vf vr vn rs ns w) (hM:Mv g vr vn vr' vn' w w') (h1:t ≠ 9) (h2:t ≠ 77):OwnL (g+1) t n R w' v xs:=by
 have hra:=ownL_apart h hW.r h1
 have hna:=ownL_apart h hW.n h2
 obtain ⟨fl,q1,q2⟩:=h
 exact ⟨fl,own_keep q1 (fun k hk=>hM.block k (q1.lt k hk).2 (by have:=(q1.lt k hk).1;omega) (hra k hk) (hna k hk)),q2⟩
theorem Wk.appO {α:Type} {g n:Nat} {t:TypeId} {R:α→List Value→Prop} {vf vr vn v:Value} {rs:List (List UInt8)} {ns:List (Int × List UInt8)} {w w':World} {xs:List α} (hW:Wk g vf vr vn rs ns w) (h:OwnL (g+1) t n R w v xs) (h1:t ≠ 9) (h2:t ≠ 77) (hg:w.grownBy w' v.ownBlock):Wk g vf vr vn rs ns w' :=
 ⟨hW.t.grown hg (fun e=>by have:=ownL_ge h g e;omega),ownL_grown hW.r hg (fun j hj e=>ownL_apart h hW.r h1 j e hj),ownL_grown hW.n hg (fun j hj e=>ownL_apart h hW.n h2 j e hj)⟩
def BbPost (l:List (List UInt8 × List UInt8)) (job:List UInt8) (style:Int) (w:World) (e:Ending) (w':World):Prop :=
 Below w.heap.size w w' ∧
 match Bb.run l job style with
 | some (fs,rs)=>∃va vr,e = .returned (.tuple #[va,vr,.int .i64 0])∧OwnL w.heap.size 33 2 RFl w' va fs∧OwnL w.heap.size 9 1 RStr w' vr rs
 | none=>e = .returned (.tuple #[.slice none 0 0,.slice none 0 0,.int .i64 2])
set_option maxRecDepth 100000 in
set_option maxHeartbeats 6400000 in
theorem bb_Run (l:List (List UInt8 × List UInt8)) (job:List UInt8) (style m:Int) (v:Value) (S:Nat→Prop) (w:World) (hS:SliceIn S 2 RFl w v l) (hs:Ix.Sorted l) (hl:l.length≤1000000) (ht:∀x ∈ l,x.2.length≤500) (hj:job.length≤9223372036854775807) (hL:Laid10 w) (hm:w.cell? ⟨2, 0,none⟩=some (.int .i64 m)) (h0 : 2 < w.heap.size) :
  Calls Tryz.prog 6 #[v,.string ⟨job.toArray⟩,.int .i64 style] w (BbPost l job style w):=by
 obtain ⟨ie,hie,hie0,hie1,hie2⟩:=info_parts ent_info
 obtain ⟨i0,hi,hz0,hz1,hz2⟩:=info_parts note_info
 obtain ⟨iF,hiF,hF0,hF1,hF2⟩:=info_parts file_info
 have Hie:=η hie;have Hie0:=η hie0;have Hie1:=η hie1;have Hie2:=η hie2;have Hi:=η hi;have Hz0:=η hz0;have Hz1:=η hz1;have Hz2:=η hz2;have HiF:=η hiF;have HF0:=η hF0;have HF1:=η hF1;have HF2:=η hF2
 clear hie hie0 hie1 hie2 hi hz0 hz1 hz2 hiF hF0 hF1 hF2
 cases hjb:Ix.jobOk job with
 | false =>
  have HR:=η (show Bb.run l job style=none by unfold Bb.run;rw [hjb];rfl)
  have Hjb:=η hjb;have Hj:=η hj
  clear hjb hj hS hs hl ht hL hm h0
  go_enter Tryz.func6, Tryz.ntmps6
  go_wp2_with (go_at_call 13; refine (markup_job job _ Hj.out).mono ?_;rw [Hjb.out];rintro e w' ⟨rfl,hw'⟩;have hw':=hw'.symm;subst hw')
  go_ret3
  refine ⟨Below.refl _ _,?_⟩
  rw [HR.out]
  simp
 | true =>
  have HR:=η (show Bb.run l job style=some (Bb.filesOf l job style,(Bb.st1 l job).rs) by unfold Bb.run;rw [hjb];rfl)
  have hj20:job.length≤20:=by
   unfold Ix.jobOk at hjb
   simp at hjb
   exact hjb.2
  obtain ⟨g,hg⟩:∃g,w.heap.size=g:=⟨_,rfl⟩
  obtain ⟨pv,cv,rfl⟩:∃pv cv,v = .slice pv l.length cv:=by obtain ⟨p,c,h,_⟩:=hS;exact ⟨p,c,h⟩
  have hb1:=below_new w (.cells #[.slice pv l.length cv,.slice none 0 0,.slice none 0 0] 42)
  obtain ⟨W1,hW1⟩:∃W1,W1=w.alloc (.cells #[.slice pv l.length cv,.slice none 0 0,.slice none 0 0] 42):=⟨_,rfl⟩
  have hx1:∀(i:Nat) (u:Value),#[(.slice pv l.length cv:Value),.slice none 0 0,.slice none 0 0][i]? = some u→W1.cell? ⟨w.heap.size,i,none⟩=some u:=by
   intro i u hu
   rw [hW1,cell_of_row _ _ _ _ _ _ (heap_alloc_new w _)]
   exact hu
  have hf1:∀i,W1.frozen? ⟨w.heap.size,i,none⟩=false:=fun i=>by rw [hW1];exact new_frozen w _ _ i
  have hl1:w.heap.size<W1.heap.size:=by rw [hW1];exact lt_alloc _ _
  rw [←hW1] at hb1
  rw [hg] at hx1 hf1 hl1 hb1
  have HWk1:=η (show Wk g (.slice pv l.length cv) (.slice none 0 0) (.slice none 0 0) [] [] W1 from ⟨⟨hx1 0 _ rfl,hx1 1 _ rfl,hx1 2 _ rfl,hf1,hl1⟩,OwnL.nil _ _ _ _ _,OwnL.nil _ _ _ _ _⟩)
  have HS1:=η (show SliceIn (fun j=>j<g) 2 RFl W1 (.slice pv l.length cv) l from SliceIn.kept (SliceIn.strong hS) (fun b h=>by have:=h.2;omega) hb1.size (fun b h hlt=>hb1.block b (by omega)) (fun _ _ _ h=>h))
  have HLb:=η (show ∀W,Below g w W→Laid10 W∧W.cell? ⟨2, 0,none⟩=some (.int .i64 m) ∧ 2 < W.heap.size from fun W hW=>by rw [←hg] at hW;exact ⟨hL.below hW,keptM hm h0 hW⟩)
  have HL1:=η (show ∀W,Below g W1 W→Laid10 W from fun W hW=>(HLb.out W (hb1.trans hW)).1)
  have htl:=Bb.text_le l ht (job++Bb.auxW)
  obtain ⟨tx,htx⟩:∃tx,Bb.text l job=tx:=⟨_,rfl⟩
  have htx2:(Ix.get l (job++Bb.auxW)).getD []=tx:=htx
  rw [htx2] at htl
  have hsm:=Bb.side_small tx htl
  obtain ⟨x,hx⟩:∃x,Bb.sideOf tx=x:=⟨_,rfl⟩
  rw [hx] at hsm
  have Hgiv:=fun h=>bb_given_any g l (job++Bb.auxW) tx (.slice pv l.length cv) (.slice none 0 0) (.slice none 0 0) [] [] W1 HL1.out HWk1.out HS1.out hs hl h htx2 (by omega)
  have Hgiv:=η (Hgiv (by simp))
  have Hx:=η hx;have Hsm:=η hsm;have Htx:=η htx;have Hb1:=η hb1;have HW1:=η hW1;have Hg:=η hg;have Hj20:=η hj20;have Hjb:=η hjb;have Hj:=η hj;have Hs:=η hs;have Hl:=η hl;have Ht:=η ht;have Hl1:=η hl1
  clear hx hsm htx htx2 htl hb1 hW1 hj20 hjb hj hs hl ht hx1 hf1 hS hL hm h0 hl1
  have hap:(⟨job.toArray⟩:ByteArray)++⟨#[46,97,117,120]⟩=⟨(job++Bb.auxW).toArray⟩:=append_data job Bb.auxW
  have hq1:¬9223372036854775807<job.length+4:=by have:=Hj20.out;omega
  go_enter Tryz.func6, Tryz.ntmps6
  go_upto_region 4 with (go_at_call 13; refine (markup_job job _ Hj.out).mono ?_;rw [Hjb.out];rintro e w' ⟨rfl,hw'⟩;have hw':=hw'.symm;subst hw')
  rw [←HW1.out]
  go_upto_region 5 with (go_at_call 14; refine Hgiv.out.mono ?_;rintro e w2 ⟨vx,ve,vr2,rfl,hE2,hW2,hM2,hX2⟩;rw [Hx.out] at hX2;obtain ⟨vl,vh,vc,vb,rfl,hVl,hVh,hVc,hVb⟩:=hX2;obtain ⟨pl,cl,hvl⟩:=SliceIn.shape2 hVl;obtain ⟨ph,ch,hvh⟩:=SliceIn.shape2 hVh;obtain ⟨pc,cc,hvc⟩:=SliceIn.shape2 hVc;obtain ⟨pb,cb,hvb⟩:=SliceIn.shape2 hVb;subst hvl hvh hvc hvb;have HE2:=η hE2;have HW2:=η hW2;have HM2:=η hM2;have HVc:=η hVc;have HVb:=η hVb;clear hE2 hW2 hM2 hVc hVb hVl hVh)
  obtain ⟨W3,hW3⟩:∃W3,W3=w2.alloc (.cells #[.slice pl x.labs.length cl,.slice ph x.heads.length ch,.slice pc x.cites.length cc,.slice pb x.bibs.length cb] 46):=⟨_,rfl⟩
  obtain ⟨gs,hgs⟩:∃gs,w2.heap.size=gs:=⟨_,rfl⟩
  have hb3:Below w2.heap.size w2 W3:=by rw [hW3];exact below_new w2 _
  have hx3:∀(i:Nat) (u:Value),#[(.slice pl x.labs.length cl:Value),.slice ph x.heads.length ch,.slice pc x.cites.length cc,.slice pb x.bibs.length cb][i]? = some u→W3.cell? ⟨gs,i,none⟩=some u:=by
   intro i u hu
   rw [hW3,←hgs,cell_of_row _ _ _ _ _ _ (heap_alloc_new w2 _)]
   exact hu
  have hl3:gs<W3.heap.size:=by rw [hW3,←hgs];exact lt_alloc _ _
  have hsee:Bb.see [] (job++Bb.auxW)=[job++Bb.auxW]:=by simp [Bb.see]
  have HRs3:=η (show Rs g gs (.slice pv l.length cv) vr2 (.slice none 0 0) (.slice none 0 0) (.slice pc x.cites.length cc) (.slice pb x.bibs.length cb) l x [job++Bb.auxW] [] [] W1 W3 by
   have hW:=HW2.out.below hb3
   rw [hsee] at hW
   have hglt:=HW2.out.t.lt
   have hfr:∀j,(W1.heap.size<j∧vr2.ownBlock≠some j∧(Value.slice none 0 0).ownBlock≠some j)→Free g vr2 (.slice none 0 0) (.slice none 0 0) j:=fun j hj=>⟨by have:=Hl1.out;omega,hj.2.1,hj.2.2,hj.2.2⟩
   refine ⟨hW,(files_keep HS1.out HWk1.out HM2.out).below' hb3,⟨[],rfl,OwnL.nil _ _ _ _ _,fun p hp=>by cases hp⟩,⟨⟨by omega,fun e=>by have:=ownL_lt HW2.out.r _ e;omega,(by intro e;cases e),(by intro e;cases e)⟩,hl3⟩,hx3 2 _ rfl,hx3 3 _ rfl,?_,?_,?_⟩
   ·
    exact SliceIn.kept HVc.out hfr hb3.size (fun b _ hlt=>hb3.block b hlt) (fun _ _ _ h=>h)
   ·
    exact SliceIn.kept HVb.out hfr hb3.size (fun b _ hlt=>hb3.block b hlt) (fun _ _ _ h=>h)
   ·
    exact (HM2.out.below (Nat.le_refl _) (fun k e=>by cases e) (fun k e=>by cases e) (Nat.le_of_lt Hl1.out)).trans (hb3.mono (Nat.le_of_lt hglt)))
  rw [←hW3]
  have HT:∀W,Below g W1 W→W.cell? ⟨0, 0,none⟩=some (.iface 199 (.agg #[.pointer (some ⟨9, 48, none⟩)])) ∧ 0 < W.heap.size:=fun W hW=>⟨(HL1.out W hW).err,World.block_lt_of_cell? W _ (HL1.out W hW).err⟩
  have HT:=η HT
  have Hg0:=η (Nat.le_of_lt Hl1.out)
  have Hnote0:=η (bb_note_any g ve (Bb.note0 tx (job++Bb.auxW)) _ _ _ _ [] W3 HE2.out (HT.out W3 HRs3.out.low).1 (HT.out W3 HRs3.out.low).2 HRs3.out.wk (by simp))
  have Hgs:=η hgs
  rw [hgs]
  clear hb3 hx3 hl3 hsee hW3 hgs hap hq1
  go_upto_region 7 with (go_at_call 15; refine Hnote0.out.mono ?_;rintro e w4 ⟨rfl,vn4,hW4,hM4⟩;have HRs4:=η (HRs3.out.mv hM4 hW4 Hg0.out);clear hW4 hM4)
  have h3:=HRs4.out.c3
  have h3l:=HRs4.out.gsf.2
  go_wp2_with fail
  go_loopw [12,14,15,16,44] (fun av _ _ _ iv wr=>∃(k:Nat) (vr vn:Value),k≤x.bibs.length∧iv = .int .i64 (k:Int)∧(∃p n c,av = .slice p n c)∧Rs g gs (.slice pv l.length cv) vr vn av (.slice pc x.cites.length cc) (.slice pb x.bibs.length cb) l x (Bb.bases l (Bb.st0 l job) (x.bibs.take k)).rs (Bb.bases l (Bb.st0 l job) (x.bibs.take k)).ns (Bb.bases l (Bb.st0 l job) (x.bibs.take k)).es W1 wr) (fun _ _ _ _ iv _=>x.bibs.length - (intOf iv).toNat)
  case atStart =>
   refine ⟨0,vr2,vn4,Nat.zero_le _,rfl,⟨_,_,_,rfl⟩,?_⟩
   have h:=HRs4.out
   rw [List.nil_append] at h
   have e0:Bb.bases l (Bb.st0 l job) (x.bibs.take 0)=⟨[job++Bb.auxW],Bb.note0 tx (job++Bb.auxW),[]⟩:=by rw [List.take_zero];unfold Bb.bases Bb.st0;rw [Htx.out];rfl
   rw [e0]
   exact h
  case round =>
   clear h3 h3l HRs4 HRs3 Hnote0
   obtain ⟨k,vr,vn,hk,rfl,⟨pa,na,ca,rfl⟩,hRs⟩:=hrel
   obtain ⟨σ,hσ⟩:∃σ,Bb.bases l (Bb.st0 l job) (x.bibs.take k)=σ:=⟨_,rfl⟩
   rw [hσ] at hRs
   have hst:Bb.StB k σ:=by
    have h:=Bb.bases_b l Ht.out (x.bibs.take k) 0 (Bb.st0 l job) (Bb.st0_b l job Hj20.out) (fun b hb=>Hsm.out.bib b (List.mem_of_mem_take hb))
    rw [hσ,List.length_take,Nat.min_eq_left hk,Nat.zero_add] at h
    exact h
   have hk8:k≤8:=Nat.le_trans hk Hsm.out.bibs
   have HRs:=η hRs;have Hst:=η hst;have Hσ:=η hσ;have Hk:=η hk;have Hk8:=η hk8
   clear hRs hst hσ hk8 hk
   by_cases hlt:k<x.bibs.length
   ·
    obtain ⟨b,hb⟩:∃b,x.bibs[k]? = some b:=⟨_,List.getElem?_eq_getElem hlt⟩
    obtain ⟨p',c',hp',_,_,hat⟩:=HRs.out.bibs
    simp only [Value.slice.injEq] at hp'
    obtain ⟨rfl,_,rfl⟩:=hp'
    obtain ⟨bb,off,vs,rfl,_,hbw,hR,hc⟩:=hat k b hb
    have hR:vs=[.string ⟨b.toArray⟩]:=hR
    subst hR
    have e0:wr.cell? ⟨bb,off+k,none⟩=some (.string ⟨b.toArray⟩):=by
     have:=hc 0 _ rfl
     rwa [Nat.mul_one,Nat.add_zero] at this
    have hlt':(k:Int)<(x.bibs.length:Int):=by omega
    have hbl:=Hsm.out.bib b (List.mem_of_getElem? hb)
    have hq2:¬9223372036854775807<b.length+4:=by omega
    have hap2:(⟨b.toArray⟩:ByteArray)++⟨#[46,98,105,98]⟩=⟨(b++Bb.bibW).toArray⟩:=append_data b Bb.bibW
    have Hbase:=η (bb_base_any g l (b++Bb.bibW) _ vr vn σ.rs σ.ns wr HRs.out.wk HRs.out.fl Hs.out Hl.out (by have:=Hst.out.rs;have:=Hk8.out;omega) Ht.out (by have:=Hst.out.ns;have:=Hk8.out;omega))
    obtain ⟨k1,hk1⟩:∃k1,k1=k+1:=⟨_,rfl⟩
    have hwk:wrap64 ((k:Int)+1)=(k1:Int):=by unfold wrap64;have:=Hk8.out;omega
    have hnext:=Bb.bases_snoc l (Bb.st0 l job) x.bibs k b hb
    rw [Hσ.out,base1_eq,←hk1] at hnext
    have Hnext:=η hnext;have Hk1:=η hk1;have Hlt:=η hlt
    clear hnext hk1 hlt hat hc hb
    go_upto_region 11 with (go_at_call 16; refine Hbase.out.mono ?_;rintro e w5 ⟨vo,ve5,vr5,vn5,rfl,hE5,hW5,hM5,hO5⟩;obtain ⟨po,co,hvo⟩:=SliceIn.shape2 hO5;subst hvo;have HE5:=η hE5;have HRs5:=η (HRs.out.mv hM5 hW5 Hg0.out);have HO5:=η hO5;have HM5:=η hM5;clear hE5 hW5 hM5 hO5)
    have HO5f:=η (show Ents (Free g vr5 vn5 (.slice pa na ca)) w5 (.slice po (esP l (b++Bb.bibW)).length co) (esP l (b++Bb.bibW)) from Ents.kept HO5.out (fun j hj=>⟨by have:=HRs.out.wk.t.lt;have:=hj.1;omega,hj.2.1,hj.2.2,fun e=>by have:=(HRs.out.all.own j e).2;have:=hj.1;omega⟩) (Nat.le_refl _) (fun _ _ _=>rfl))
    have Hnote:=η (bb_note_any g ve5 (nsE l (b++Bb.bibW)) _ _ _ _ _ w5 HE5.out (HT.out w5 HRs5.out.low).1 (HT.out w5 HRs5.out.low).2 HRs5.out.wk (by rw [List.length_append];have h1:=Hst.out.ns;have h2:=Hk8.out;have h3:=nsP_le l Ht.out (b++Bb.bibW);omega))
    clear HO5 HM5
    go_upto_region 12 with (go_at_call 15; refine Hnote.out.mono ?_;rintro e w6 ⟨rfl,vn6,hW6,hM6⟩;have HRs6:=η (HRs5.out.mv hM6 hW6 Hg0.out);have HO6:=η (Ents.mvF HO5f.out hM6);clear hW6 hM6)
    obtain ⟨va7,w7,hrun7,hA7,hg7,hat7⟩:=AllE.app ie Hie.out Hie0.out Hie1.out Hie2.out HRs6.out.all HRs6.out.wk.t.lt HO6.out (by have h1:=Hst.out.es;have h2:=Hk8.out;have h3:=esP_le l Ht.out (b++Bb.bibW);omega)
    obtain ⟨p7,n7,c7,hv7⟩:∃p n c,va7 = .slice p n c:=by obtain ⟨ps,_,⟨fl,ho,_⟩,_⟩:=hA7.ex;obtain ⟨p,c,h⟩:=own_form ho;exact ⟨p,_,c,h⟩
    subst hv7
    have Hrun7:=η hrun7;have HRs7:=η (HRs6.out.app hg7 hat7 hA7 Hg0.out)
    clear hrun7 hA7 hg7 hat7
    go_wp2_with (at_builtin;refine wpList_append_run rfl (.tmp 58) (.tmp 59) 52 rfl rfl rfl Hrun7.out ?_)
    go_roundw
    case rel =>
     refine ⟨k1,vr5,vn6,by have:=Hk1.out;have:=Hlt.out;omega,by rw [hwk],⟨_,_,_,rfl⟩,?_⟩
     rw [Hk1.out,←Hk1.out,Hnext.out]
     exact HRs7.out
    case measure=>have:=Hlt.out;have:=Hk1.out;rw [hwk];simp [intOf];omega
   ·
    have he:k=x.bibs.length:=by have:=Hk.out;omega
    subst he
    have hlt':¬(x.bibs.length:Int)<(x.bibs.length:Int):=Int.lt_irrefl _
    have hσ1:Bb.st1 l job=σ:=by
     have h:=Hσ.out
     rw [List.take_length] at h
     unfold Bb.st1
     rw [Htx.out,Hx.out]
     exact h
    have Hσ1:=η hσ1
    have hes:σ.es.length≤4000:=by have h1:=Hst.out.es;have h2:=Hsm.out.bibs;omega
    have Hall:=η (lb_All σ.es (.slice pa na ca) x.cites (.slice pc x.cites.length cc) style m _ wr (HLb.out wr (Hb1.out.trans HRs.out.low)).1.cnt HRs.out.all.ents HRs.out.cites (by omega) Hst.out.eb (Nat.le_trans Hsm.out.cites (by decide)) (fun q hq=>Nat.le_trans (Hsm.out.cite q hq) (by decide)) (Lb.pick_b σ.es Hst.out.eb (by omega) x.cites) (Nat.le_trans (Lb.pick_le σ.es x.cites).1 Hsm.out.cites) (HLb.out wr (Hb1.out.trans HRs.out.low)).2.1 (HLb.out wr (Hb1.out.trans HRs.out.low)).2.2)
    have hcb:=Bb.all_b σ.es x.cites style Hst.out.eb (by omega) Hsm.out.cites
    have hnl:=(Lb.pick_le σ.es x.cites).2
    have hnt:=Lb.pick_notes σ.es x.cites
    obtain ⟨cs,nn,hcn⟩:∃cs nn,Lb.all σ.es x.cites style=(cs,nn):=⟨_,_,rfl⟩
    have hnn:(Lb.pick σ.es x.cites).2=nn:=by have h:=congrArg Prod.snd hcn;exact h
    rw [hcn] at hcb Hall
    rw [hnn] at hnl hnt
    dsimp only at hcb Hall
    have Hcb:=η hcb;have Hcn:=η hcn
    have Hns:=η (show (σ.ns++nn).length≤5000∧∀y ∈ σ.ns++nn,y.2.length≤500 by
     refine ⟨by rw [List.length_append];have h1:=Hst.out.ns;have h2:=Hsm.out.bibs;have h3:=Hsm.out.cites;omega,fun y hy=>?_⟩
     rcases List.mem_append.1 hy with hy | hy
     ·
      exact Hst.out.nt y hy
     ·
      exact Nat.le_trans (Hsm.out.cite _ (hnt y hy)) (by decide))
    have h2:=HRs.out.c2
    have h2l:=HRs.out.gsf.2
    clear hlt hσ1 hes hcb hcn hnl hnt hnn
    go_upto_region 15 with (go_at_call 17; refine Hall.out.mono ?_;rintro e w8 ⟨⟨vc8,vn8,rfl,hC8,hN8⟩,hb8⟩;obtain ⟨pc8,cc8,hvc8⟩:=SliceIn.shape2 hC8;subst hvc8;obtain ⟨pn8,cn8,hvn8⟩:=SliceIn.shape2 hN8;subst hvn8;have HC8:=η hC8;have HN8:=η hN8;have Hb8:=η hb8;clear hC8 hN8 hb8)
    -- P6
    have HRs8:=η (HRs.out.below Hb8.out Hg0.out)
    obtain ⟨v9,w9,hrun9,⟨p9,n9,c9,hv9⟩,q9,f9,hW9,hM9⟩:=bb_append_notes i0 Hi.out Hz0.out Hz1.out Hz2.out HRs8.out.wk HN8.out (by have h:=Hns.out.1;rw [List.length_append] at h;omega)
    subst hv9
    obtain ⟨W9,hW9e⟩:∃W9,W9=w9.setCell ⟨g,2,none⟩ (.slice p9 n9 c9):=⟨_,rfl⟩
    rw [←hW9e] at hW9 hM9
    have HC9:=η (show SliceIn (fun j=>wr.heap.size≤j) 5 (RCit (fun j=>wr.heap.size≤j) W9) W9 (.slice pc8 cs.length cc8) cs from by
     have hr:∀j,vr.ownBlock=some j→j<wr.heap.size:=ownL_lt HRs.out.wk.r
     have hn:∀j,vn.ownBlock=some j→j<wr.heap.size:=ownL_lt HRs.out.wk.n
     have hlt:=HRs.out.wk.t.lt
     refine cits_kept HC8.out hM9.size (fun b hb hlt2=>hM9.block b hlt2 (by omega) (fun e=>by have:=hr b e;omega) (fun e=>by have:=hn b e;omega)))
    have Hrun9:=η hrun9;have HWk9:=η hW9;have HM9:=η hM9;have HW9e:=η hW9e
    have hc8:=HRs8.out.wk.t.c2;have hf8:=HRs8.out.wk.t.f 2;have hgl8:=HRs8.out.wk.t.lt
    clear hrun9 hW9 hM9 hW9e h2 h2l
    go_upto_region 17 with (at_builtin;refine wpList_append_run rfl (.tmp 74) (.tmp 75) 40 rfl rfl rfl Hrun9.out ?_)
    rw [←HW9e.out]
    clear hc8 hf8 hgl8 q9 f9
    have HB9:=η (show Below g W1 W9 from (HRs8.out.mv HM9.out HWk9.out Hg0.out).low)
    clear HRs8 HM9 HW9e Hrun9 HN8 Hall Hgiv
    go_wp2_with fail
    go_loopw [19,21,81] (fun sv _ iv wq=>∃(k:Nat),k≤cs.length∧iv = .int .i64 (k:Int)∧sv = .string ⟨(Bb.bblOf (cs.take k)).toArray⟩∧Below W9.heap.size W9 wq) (fun _ _ iv _=>cs.length - (intOf iv).toNat)
    case atStart=>exact ⟨0,Nat.zero_le _,rfl,rfl,Below.refl _ _⟩
    case round =>
     obtain ⟨k,hk,rfl,rfl,hbq⟩:=hrel
     have Hbq:=η hbq;have Hk:=η hk
     clear hbq hk
     by_cases hlt:k<cs.length
     ·
      obtain ⟨c,hc⟩:∃c,cs[k]? = some c:=⟨_,List.getElem?_eq_getElem hlt⟩
      obtain ⟨p',c',hp',_,_,hat⟩:=HC9.out
      simp only [Value.slice.injEq] at hp'
      obtain ⟨rfl,_,rfl⟩:=hp'
      obtain ⟨bb,off,vs,rfl,_,hbw,⟨vf,rfl,hvf⟩,hcc⟩:=hat k c hc
      obtain ⟨pf,cf,hvfe⟩:=SliceIn.shape2 hvf
      subst hvfe
      have cell:∀(j:Nat) (u:Value),[(.string ⟨c.ent.kind.toArray⟩:Value),.string ⟨c.ent.key.toArray⟩,.slice pf c.ent.fields.length cf,.string ⟨c.label.toArray⟩,.string ⟨c.text.toArray⟩][j]? = some u→wr.cell? ⟨bb,off+(k*5+j),none⟩=some u:=fun j u hu=>(Hbq.out.cell (p:=⟨bb,off+(k*5+j),none⟩) hbw).trans (hcc j u hu)
      have e0:=cell 0 _ rfl;have e1:=cell 1 _ rfl;have e2:=cell 2 _ rfl;have e3:=cell 3 _ rfl;have e4:=cell 4 _ rfl
      rw [Nat.add_zero] at e0
      rw [←Nat.add_assoc] at e1 e2 e3 e4
      have hlt':(k:Int)<(cs.length:Int):=by omega
      have hcB:=Hcb.out.2 c (List.mem_of_getElem? hc)
      have hkl:=Nat.le_trans Hk.out Hcb.out.1
      obtain ⟨P,hP⟩:∃P,P=Bb.bblOf (cs.take k):=⟨_,rfl⟩
      have hPl:P.length≤160000000:=by
       have h:=Bb.bbl_len (cs.take k) (fun y hy=>Hcb.out.2 y (List.mem_of_mem_take hy))
       rw [←hP,List.length_take] at h
       omega
      obtain ⟨pk,hpk⟩:∃q,Sd.put c.ent.key=q:=⟨_,rfl⟩
      obtain ⟨pb,hpb⟩:∃q,Sd.put c.label=q:=⟨_,rfl⟩
      obtain ⟨pt,hpt⟩:∃q,Sd.put c.text=q:=⟨_,rfl⟩
      obtain ⟨A,hA⟩:∃A,pk++pb=A:=⟨_,rfl⟩
      obtain ⟨B,hB⟩:∃B,A++pt=B:=⟨_,rfl⟩
      obtain ⟨D,hD⟩:∃D,P++B=D:=⟨_,rfl⟩
      have l1:=Sd.put_le c.ent.key (by have:=hcB.key;omega)
      have l2:=Sd.put_le c.label hcB.label
      have l3:=Sd.put_le c.text hcB.text
      rw [hpk] at l1;rw [hpb] at l2;rw [hpt] at l3
      have m1:=hcB.key;have m2:=hcB.label;have m3:=hcB.text
      have lA:A.length=pk.length+pb.length:=by rw [←hA,List.length_append]
      have lB:B.length=A.length+pt.length:=by rw [←hB,List.length_append]
      have hqA:¬9223372036854775807<pk.length+pb.length:=by omega
      have hqB:¬9223372036854775807<A.length+pt.length:=by omega
      have hqD:¬9223372036854775807<P.length+B.length:=by omega
      have Hcl:=η (show c.ent.key.length≤999999∧c.label.length≤999999∧c.text.length≤999999 by omega)
      have haA:(⟨pk.toArray⟩:ByteArray)++⟨pb.toArray⟩=⟨A.toArray⟩:=by rw [←hA];exact append_data pk pb
      have haB:(⟨A.toArray⟩:ByteArray)++⟨pt.toArray⟩=⟨B.toArray⟩:=by rw [←hB];exact append_data A pt
      have haD:(⟨P.toArray⟩:ByteArray)++⟨B.toArray⟩=⟨D.toArray⟩:=by rw [←hD];exact append_data P B
      have hnext:Bb.bblOf (cs.take (k+1))=D:=by rw [Bb.bbl_snoc cs k c hc,←hP,←hD,←hB,←hA,←hpk,←hpb,←hpt];rfl
      obtain ⟨k1,hk1⟩:∃k1,k1=k+1:=⟨_,rfl⟩
      have Hpk:=η hpk;have Hpb:=η hpb;have Hpt:=η hpt;have Hnext:=η hnext;have Hk1:=η hk1;have Hlt:=η hlt
      have hwk:=wrap_succ k k1 hk1 hkl
      rw [←hP]
      clear hpk hpb hpt hA hB hD l1 l2 l3 m1 m2 m3 lA lB hPl hP hcB hkl hnext hk1 hlt hat hcc cell hc hvf
      go_upto_region 20 with fail
      obtain ⟨gc,hgc⟩:∃gc,wr.heap.size=gc:=⟨_,rfl⟩
      obtain ⟨WA,hWA⟩:∃WA,WA=wr.alloc (.cells #[.string ⟨c.ent.kind.toArray⟩,.string ⟨c.ent.key.toArray⟩,.slice pf c.ent.fields.length cf,.string ⟨c.label.toArray⟩,.string ⟨c.text.toArray⟩] 62):=⟨_,rfl⟩
      have hbA:Below wr.heap.size wr WA:=by rw [hWA];exact below_new wr _
      have hxA:∀(i:Nat) (u:Value),#[(.string ⟨c.ent.kind.toArray⟩:Value),.string ⟨c.ent.key.toArray⟩,.slice pf c.ent.fields.length cf,.string ⟨c.label.toArray⟩,.string ⟨c.text.toArray⟩][i]? = some u→WA.cell? ⟨gc,i,none⟩=some u:=by
       intro i u hu
       rw [hWA,←hgc,cell_of_row _ _ _ _ _ _ (heap_alloc_new wr _)]
       exact hu
      have hlA:gc<WA.heap.size:=by rw [hWA,←hgc];exact lt_alloc _ _
      have HbA:=η (bseq Hbq.out hbA)
      have x1:=hxA 1 _ rfl;have x3:=hxA 3 _ rfl;have x4:=hxA 4 _ rfl
      rw [hgc,←hWA]
      clear hWA hbA hxA e0 e1 e2 e3 e4 Hbq
      refine wp_region_any (by kernel_rfl) ?_
      change wpAny _ _ _ _ _ _ _ (World.drew _)
      have Hbd:=η (HbA.out.trans ((Below.refl _ WA).drew.mono HbA.out.size))
      have HK1:=(Below.refl _ WA).drew.cell (p:=⟨gc,1,none⟩) hlA;have HK3:=(Below.refl _ WA).drew.cell (p:=⟨gc,3,none⟩) hlA;have HK4:=(Below.refl _ WA).drew.cell (p:=⟨gc,4,none⟩) hlA
      rw [x1] at HK1;rw [x3] at HK3;rw [x4] at HK4
      have HK1:=η HK1;have HK3:=η HK3;have HK4:=η HK4
      have Hgl:=η (Nat.lt_of_lt_of_le hlA (Below.refl WA.heap.size WA).drew.size)
      clear x1 x3 x4 hlA HbA
      generalize World.drew _=wd at *
      have Hcnt:=η ((HLb.out wd (Hb1.out.trans (HB9.out.trans (Hbd.out.mono (by have:=HWk9.out.t.lt;omega))))).1.cnt)
      have hS0:=Below.refl wd.heap.size wd
      refine wpAny_of_held (S:=fun W=>Below wd.heap.size wd W) _ _ _ _ ?_
      refine tk 0 (.string ⟨P.toArray⟩) rfl (h:=?_)
      refine tk 1 (.pointer (some ⟨gc,0,none⟩)) rfl (hy:=fun W hW=>by go_simp) (h:=?_)
      refine tk 2 (.pointer (some ⟨gc,1,none⟩)) rfl (hy:=fun W hW=>by go_simp) (h:=?_)
      refine tk 3 (.string ⟨c.ent.key.toArray⟩) rfl (hy:=fun W hW=>by (have k0:=Below.cell hW (p:=⟨gc,1,none⟩) Hgl.out;rw [HK1.out] at k0;go_simp)) (h:=?_)
      refine tk 5 (.pointer (some ⟨gc,3,none⟩)) rfl (hy:=fun W hW=>by go_simp) (h:=?_)
      refine tk 6 (.string ⟨c.label.toArray⟩) rfl (hy:=fun W hW=>by (have k0:=Below.cell hW (p:=⟨gc,3,none⟩) Hgl.out;rw [HK3.out] at k0;go_simp)) (h:=?_)
      refine tk 9 (.pointer (some ⟨gc,4,none⟩)) rfl (hy:=fun W hW=>by go_simp) (h:=?_)
      refine tk 10 (.string ⟨c.text.toArray⟩) rfl (hy:=fun W hW=>by (have k0:=Below.cell hW (p:=⟨gc,4,none⟩) Hgl.out;rw [HK4.out] at k0;go_simp)) (h:=?_)
      try simp only [Act.put,π1,π2,π3,π4,π5,π6]
      refine tr 4 rfl (h:=fun K hK=>?_)
      go_simp
      go_wp2_with (go_at_call 18; refine (wire_put c.ent.key _ Hcnt.out Hcl.out.1).mono ?_;rw [Hpk.out];rintro e wa ⟨rfl,hba⟩;have Hhba:=η hba;clear hba)
      refine hK.out _ _ (Hhba.out) (fun _=>?_)
      clear K hK
      try simp only [Act.put,π1,π2,π3,π4,π5,π6]
      refine tr 7 rfl (h:=fun K hK=>?_)
      go_simp
      go_wp2_with (go_at_call 18; refine (wire_put c.label _ (Hcnt.out.below Hhba.out) Hcl.out.2.1).mono ?_;rw [Hpb.out];rintro e wb ⟨rfl,hbb⟩;have Hhbb:=η hbb;clear hbb)
      refine hK.out _ _ (bseq Hhba.out Hhbb.out) (fun _=>?_)
      clear K hK
      refine tk 8 (.string ⟨A.toArray⟩) rfl (hy:=fun W hW=>by go_simp) (h:=?_)
      try simp only [Act.put,π1,π2,π3,π4,π5,π6]
      refine tr 11 rfl (h:=fun K hK=>?_)
      go_simp
      go_wp2_with (go_at_call 18; refine (wire_put c.text _ (Hcnt.out.below (bseq Hhba.out Hhbb.out)) Hcl.out.2.2).mono ?_;rw [Hpt.out];rintro e wc9 ⟨rfl,hbc⟩;have Hhbc:=η hbc;clear hbc)
      refine hK.out _ _ (bseq (bseq Hhba.out Hhbb.out) Hhbc.out) (fun _=>?_)
      clear K hK
      refine tk 12 (.string ⟨B.toArray⟩) rfl (hy:=fun W hW=>by go_simp) (h:=?_)
      refine tk 13 (.string ⟨D.toArray⟩) rfl (hy:=fun W hW=>by go_simp) (h:=?_)
      refine tk 14 (.string ⟨D.toArray⟩) rfl (h:=?_)
      try simp only [Act.put,π1,π2,π3,π4,π5,π6]
      refine wpAnyH_done (by kernel_rfl) ?_ _
      go_wp2_with fail
      go_roundw
      case rel=>exact ⟨k1,by have:=Hlt.out;have:=Hk1.out;omega,by rw [hwk],by rw [Hk1.out,Hnext.out],Hbd.out.trans ((bseq (bseq Hhba.out Hhbb.out) Hhbc.out).mono Hbd.out.size)⟩
      case measure=>have:=Hlt.out;have:=Hk1.out;rw [hwk];simp [intOf];omega
     ·
      have he:k=cs.length:=by have:=Hk.out;omega
      subst he
      have hlt':¬(cs.length:Int)<(cs.length:Int):=Int.lt_irrefl _
      rw [List.take_length]
      clear hlt
      go_wp2_with fail
      have hbbl:Bb.bblT l job style=Bb.bblOf cs:=by unfold Bb.bblT Bb.cited;rw [Hσ1.out,Htx.out,Hx.out,Hcn.out]
      have hnA:Bb.notesA l job style=σ.ns++nn:=by unfold Bb.notesA Bb.cited;rw [Hσ1.out,Htx.out,Hx.out,Hcn.out]
      have hbll:(Bb.bblT l job style).length≤160000000:=by
       rw [hbbl]
       have h:=Bb.bbl_len cs Hcb.out.2
       have:=Hcb.out.1
       omega
      obtain ⟨bbl,hbble⟩:∃q,Bb.bblT l job style=q:=⟨_,rfl⟩
      rw [←hbbl,hbble]
      rw [hbble] at hbll
      obtain ⟨gf0,hgf0⟩:∃q,q=wr.heap.size:=⟨_,rfl⟩
      have HnA:=η hnA;have Hbbl:=η hbble;have Hbll:=η hbll
      have HWkr:=η (HWk9.out.below Hbq.out)
      have HBr:=η (HB9.out.trans (Hbq.out.mono (by have:=HWk9.out.t.lt;omega)))
      clear hbbl hnA hbble hbll hgf0 HWk9 HB9 Hbq HC9
      go_loopw [22,23,24,100] (fun ov _ _ iv wq=>∃(k:Nat) (vnk:Value) (nk:List (Int × List UInt8)),k≤2∧iv = .int .i64 (k:Int)∧(∃p n c,ov = .slice p n c)∧Wk g (.slice pv l.length cv) vr vnk σ.rs nk wq∧OwnL (g+1) 33 2 RFl wq ov ((Bb.filesOf l job style).take k)∧(k=0→nk=Bb.notesA l job style)∧(k=1→nk=Bb.notesB l job style)∧Below g W1 wq) (fun _ _ _ iv _=>2 - (intOf iv).toNat)
      case atStart=>exact ⟨0,_,_,by omega,rfl,⟨_,_,_,rfl⟩,HWkr.out,OwnL.nil _ _ _ _ _,fun _=>HnA.out.symm,fun h=>absurd h (by omega),HBr.out⟩
      case round =>
       clear HWkr HBr
       obtain ⟨k,vnk,nk,hk,rfl,⟨po,no,co,rfl⟩,hWk,hO,hn0,hn1,hBk⟩:=hrel
       have HWk:=η hWk;have HO:=η hO;have HBk:=η hBk
       have hk3:k=0∨k=1∨k=2:=by omega
       clear hWk hO hBk hk
       have hapb:(⟨job.toArray⟩:ByteArray)++⟨#[46,98,98,108]⟩=⟨(job++Bb.bblW).toArray⟩:=append_data job Bb.bblW
       have hapg:(⟨job.toArray⟩:ByteArray)++⟨#[46,98,108,103]⟩=⟨(job++Bb.blgW).toArray⟩:=append_data job Bb.blgW
       have hqj:¬9223372036854775807<job.length+4:=by have:=Hj20.out;omega
       rcases hk3 with rfl | rfl | rfl
       ·
        have Hnk:=η (hn0 rfl)
        clear hn0 hn1
        obtain ⟨gf,hgf⟩:∃q,wr.heap.size=q:=⟨_,rfl⟩
        obtain ⟨WF,hWF⟩:∃q,q=wr.alloc (.cells #[.string ⟨(job++Bb.bblW).toArray⟩,.string ⟨bbl.toArray⟩] 33):=⟨_,rfl⟩
        have hbF:Below wr.heap.size wr WF:=by rw [hWF];exact below_new wr _
        have hxF:∀(i:Nat) (u:Value),#[(.string ⟨(job++Bb.bblW).toArray⟩:Value),.string ⟨bbl.toArray⟩][i]? = some u→WF.cell? ⟨gf,i,none⟩=some u:=by
         intro i u hu
         rw [hWF,←hgf,cell_of_row _ _ _ _ _ _ (heap_alloc_new wr _)]
         exact hu
        have HF:=η (show WF.cell? ⟨gf,0,none⟩=some (.string ⟨(job++Bb.bblW).toArray⟩)∧WF.cell? ⟨gf,1,none⟩=some (.string ⟨bbl.toArray⟩)∧(∀i,WF.frozen? ⟨gf,i,none⟩=false)∧gf<WF.heap.size from ⟨hxF 0 _ rfl,hxF 1 _ rfl,fun i=>by rw [hWF,←hgf];exact new_frozen wr _ _ i,by rw [hWF,←hgf];exact lt_alloc _ _⟩)
        have HN:=η (show g<gf∧vr.ownBlock≠some gf∧vnk.ownBlock≠some gf∧(Value.slice po no co).ownBlock≠some gf from ⟨by rw [←hgf];exact HWk.out.t.lt,fun e=>by have:=ownL_lt HWk.out.r _ e;omega,fun e=>by have:=ownL_lt HWk.out.n _ e;omega,fun e=>by have:=ownL_lt HO.out _ e;omega⟩)
        have HWkF:=η (HWk.out.below hbF);have HOF:=η (HO.out.below hbF);have HBF:=η (HBk.out.trans (hbF.mono (Nat.le_of_lt HWk.out.t.lt)))
        have HWF:=η hWF;have Hgf:=η hgf
        clear hWF hbF hxF hgf HWk HO HBk
        go_upto_if 117 with fail
        rw [←HWF.out,Hgf.out]
        have hcut:(⟨bbl.toArray⟩:ByteArray).extract 0 4000=⟨(bbl.take 4000).toArray⟩:=by rw [extract_any];rfl
        go_cut [117] from 118 to 127 (fun _ W=>∃vn',Wk g (.slice pv l.length cv) vr vn' σ.rs (nk++if 4000<bbl.length then [(3,(job++Bb.bblW))] else []) W∧OwnL (g+1) 33 2 RFl W (.slice po no co) ((Bb.filesOf l job style).take 0)∧W.cell? ⟨gf,0,none⟩=some (.string ⟨(job++Bb.bblW).toArray⟩)∧W.cell? ⟨gf,1,none⟩=some (.string ⟨(bbl.take 4000).toArray⟩)∧Below g W1 W∧gf<W.heap.size)
        case first =>
         by_cases h4:4000<bbl.length
         ·
          have h4':(4000:Int)<(bbl.length:Int):=by omega
          have h4q:¬bbl.length<4000:=by omega
          have c0:=HF.out.1;have c1:=HF.out.2.1;have f1:=HF.out.2.2.1 1;have hgl:=HF.out.2.2.2
          obtain ⟨WS,hWS⟩:∃q,q=WF.setCell ⟨gf,1,none⟩ (.string ⟨(bbl.take 4000).toArray⟩):=⟨_,rfl⟩
          have s0:WS.cell? ⟨gf,0,none⟩=some (.string ⟨(job++Bb.bblW).toArray⟩):=by rw [hWS];exact (World.cell?_setCell_other _ _ _ _ (by simp)).trans c0
          have s1:WS.cell? ⟨gf,1,none⟩=some (.string ⟨(bbl.take 4000).toArray⟩):=by rw [hWS];exact World.cell?_setCell_same _ _ _ c1
          have sl:gf<WS.heap.size:=by rw [hWS];simpa using hgl
          have sW:Wk g (.slice pv l.length cv) vr vnk σ.rs nk WS:=by rw [hWS];exact HWkF.out.set (by have:=HN.out.1;omega) HN.out.2.1 HN.out.2.2.1 1 _
          have sB:Below g W1 WS:=by rw [hWS];exact HBF.out.setCell (p:=⟨gf,1,none⟩) (Nat.le_of_lt HN.out.1) _
          have sO:OwnL (g+1) 33 2 RFl WS (.slice po no co) ((Bb.filesOf l job style).take 0):=by rw [hWS];exact ownL_grown HOF.out (grown_set WF gf 1 _) (fun j hj e=>HN.out.2.2.2 (hj.trans e.symm))
          have Hnote:=η (bb_note g (job++Bb.bblW) 3 _ vr vnk σ.rs nk WS (HT.out WS sB).1 (HT.out WS sB).2 sW (by rw [Hnk.out,HnA.out];have:=Hns.out.1;omega))
          have HSx:=η (show WS.cell? ⟨gf,0,none⟩=some (.string ⟨(job++Bb.bblW).toArray⟩)∧WS.cell? ⟨gf,1,none⟩=some (.string ⟨(bbl.take 4000).toArray⟩)∧gf<WS.heap.size from ⟨s0,s1,sl⟩)
          have HsW:=η sW;have HsB:=η sB;have HsO:=η sO;have HWS:=η hWS;have H4:=η h4
          clear s1 sl sW sB sO hWS h4
          go_upto_region 31 with fail
          rw [←HWS.out]
          clear c0 c1 f1 hgl
          go_wp2_with (go_at_call 15; refine Hnote.out.mono ?_;rintro e wN ⟨rfl,vn',hW',hM'⟩;have HW':=η hW';have HM':=η hM';clear hW' hM')
          go_meet
          have hfr:=Free.mv (va:=.slice po no co) ⟨HN.out.1,HN.out.2.1,HN.out.2.2.1,HN.out.2.2.2⟩ HM'.out HSx.out.2.2
          refine ⟨vn',by rw [if_pos H4.out];exact HW'.out,own_mv HsO.out HsW.out HM'.out (by decide) (by decide),(World.cell?_of_block (a:=⟨gf,0,none⟩) hfr.2).trans HSx.out.1,(World.cell?_of_block (a:=⟨gf,1,none⟩) hfr.2).trans HSx.out.2.1,HsB.out.trans (HM'.out.below (Nat.le_refl _) (fun k e=>by have:=ownL_ge HsW.out.r k e;omega) (fun k e=>by have:=ownL_ge HsW.out.n k e;omega) (Nat.le_of_lt HsW.out.t.lt)),Nat.lt_of_lt_of_le HSx.out.2.2 HM'.out.size⟩
         ·
          have h4':¬(4000:Int)<(bbl.length:Int):=by omega
          have H4:=η h4
          clear h4
          go_wp2_with fail
          go_meet
          refine ⟨vnk,by rw [if_neg H4.out,List.append_nil];exact HWkF.out,HOF.out,HF.out.1,?_,HBF.out,HF.out.2.2.2⟩
          rw [List.take_of_length_le (by have:=H4.out;omega)]
          exact HF.out.2.1
        case rest =>
         obtain ⟨vn',hW',hO',d0,d1,hB',dl⟩:=hcut
         clear hcut
         have HW':=η hW';have HO':=η hO';have HB':=η hB'
         obtain ⟨fl,hown,hrep⟩:=hO'
         have Hown:=η hown;have Hrep:=η hrep
         have hnl:((Bb.filesOf l job style).take 0).length≤2:=by rw [List.length_take];exact Nat.le_trans (Nat.min_le_left _ _) (by omega)
         have Hom:=η (show ((Bb.filesOf l job style).take 0).length+1≤maxLen by unfold maxLen;omega)
         have Ho32:=η (show (((Bb.filesOf l job style).take 0).length+1)*32≤140737488355328 by omega)
         have H0W:=η (show g+1≤wc.heap.size from HW'.out.t.lt)
         clear hW' hB' hown hrep hnl
         go_wp2_with (at_builtin;go_loud (refine wpList_append1 rfl (.tmp 128) (.tmp 130) 22 rfl (g+1) 33 iF (.agg #[.string ⟨#[]⟩,.string ⟨#[]⟩]) 2 32 Tryz.underlying22 HiF.out HF0.out HF1.out HF2.out rfl (by decide) _ _ _ Hown.out rfl [.string ⟨(job++Bb.bblW).toArray⟩,.string ⟨(bbl.take 4000).toArray⟩] rfl (by simp) rfl (by simp [Value.oneCell']) Hom.out Ho32.out H0W.out ?_);intro v2 w9 own2 g2 at2;obtain ⟨p2,cap2,hv2,_⟩:=own2.form (Nat.succ_pos _);subst hv2)
         go_roundw
         case rel =>
          refine ⟨1,vn',_,by omega,?_,⟨_,_,_,rfl⟩,HW'.out.appO HO'.out (by decide) (by decide) g2,?_,?_,?_,?_⟩
          ·
           first | rfl | simp [wrap64]
          ·
           have h:=OwnL.more Hrep.out (x:=((job++Bb.bblW),bbl.take 4000)) rfl own2
           rw [show (Bb.filesOf l job style).take 1=(Bb.filesOf l job style).take 0++[(job++Bb.bblW,bbl.take 4000)] by unfold Bb.filesOf;rw [Hbbl.out];rfl]
           exact h
          ·
           intro h;exact absurd h (by omega)
          ·
           intro _;rw [Hnk.out];unfold Bb.notesB;rw [Hbbl.out]
          ·
           exact HB'.out.trans ⟨g2.os,g2.tape,g2.output,g2.size,fun j hj=>g2.block j (by have:=HW'.out.t.lt;omega) (fun e=>by have:=ownL_ge HO'.out j e.symm;omega)⟩
         case measure=>first | (simp [intOf,wrap64];done) | (simp [intOf,wrap64];omega) | decide
       ·
        have Hnk:=η (hn1 rfl)
        clear hn0 hn1
        have Hnb:=η (show nk.length≤6000∧∀y ∈ nk,y.2.length≤500 by
         rw [Hnk.out]
         unfold Bb.notesB
         rw [HnA.out]
         refine ⟨?_,fun y hy=>?_⟩
         ·
          rw [List.length_append]
          have h:=Hns.out.1
          have h2:(if 4000<(Bb.bblT l job style).length then [((3:Int),job++Bb.bblW)] else []).length≤1:=by split <;> simp
          omega
         ·
          rcases List.mem_append.1 hy with hy | hy
          ·
           exact Hns.out.2 y hy
          ·
           split at hy
           ·
            rw [List.mem_singleton.1 hy]
            show (job++Bb.bblW).length≤500
            rw [List.length_append]
            have h4:Bb.bblW.length=4:=rfl
            have:=Hj20.out
            omega
           ·
            cases hy)
        obtain ⟨WF0,hWF0⟩:∃q,q=wr.alloc (.cells #[.string ⟨(job++Bb.bblW).toArray⟩,.string ⟨bbl.toArray⟩] 33):=⟨_,rfl⟩
        have hbF:Below wr.heap.size wr WF0:=by rw [hWF0];exact below_new wr _
        have hxF:∀(i:Nat) (u:Value),#[(.string ⟨(job++Bb.bblW).toArray⟩:Value),.string ⟨bbl.toArray⟩][i]? = some u→WF0.cell? ⟨wr.heap.size,i,none⟩=some u:=by
         intro i u hu
         rw [hWF0,cell_of_row _ _ _ _ _ _ (heap_alloc_new wr _)]
         exact hu
        have HF0':=η (show WF0.cell? ⟨wr.heap.size,0,none⟩=some (.string ⟨(job++Bb.bblW).toArray⟩)∧WF0.cell? ⟨wr.heap.size,1,none⟩=some (.string ⟨bbl.toArray⟩)∧(∀i,WF0.frozen? ⟨wr.heap.size,i,none⟩=false)∧wr.heap.size<WF0.heap.size from ⟨hxF 0 _ rfl,hxF 1 _ rfl,fun i=>by rw [hWF0];exact new_frozen wr _ _ i,by rw [hWF0];exact lt_alloc _ _⟩)
        have HN0:=η (show g<wr.heap.size∧vr.ownBlock≠some wr.heap.size∧vnk.ownBlock≠some wr.heap.size∧(Value.slice po no co).ownBlock≠some wr.heap.size from ⟨HWk.out.t.lt,fun e=>by have:=ownL_lt HWk.out.r _ e;omega,fun e=>by have:=ownL_lt HWk.out.n _ e;omega,fun e=>by have:=ownL_lt HO.out _ e;omega⟩)
        have HWkF0:=η (HWk.out.below hbF);have HOF0:=η (HO.out.below hbF);have HBF0:=η (HBk.out.trans (hbF.mono (Nat.le_of_lt HWk.out.t.lt)))
        obtain ⟨lg,hlg⟩:∃q,Ix.logText nk=q:=⟨_,rfl⟩
        have hlog:=bb_log g nk vnk (fun _=>True) WF0 HWkF0.out.t.c2 (HWkF0.out.n.slice RNote.size (fun _=>True) (fun _ _=>trivial)) (by have:=Hnb.out.1;omega) (fun y hy=>Nat.le_trans (Hnb.out.2 y hy) (by decide)) (HL1.out WF0 HBF0.out).cnt
        rw [hlg] at hlog
        have HWF0:=η hWF0;have Hlg:=η hlg
        rw [hWF0] at hlog
        have Hlog:=η hlog
        clear hWF0 hbF hxF hlg hlog HWk HO HBk
        go_upto_if 117 with (go_at_call 19; refine Hlog.out.mono ?_;rintro e wL ⟨rfl,hbL⟩;rw [←HWF0.out] at hbL;have z0:=(hbL.cell (p:=⟨wr.heap.size,0,none⟩) HF0'.out.2.2.2).trans HF0'.out.1;have z1:=(hbL.cell (p:=⟨wr.heap.size,1,none⟩) HF0'.out.2.2.2).trans HF0'.out.2.1;have y0:=(hbL.frozen (p:=⟨wr.heap.size,0,none⟩) HF0'.out.2.2.2).trans (HF0'.out.2.2.1 0);have y1:=(hbL.frozen (p:=⟨wr.heap.size,1,none⟩) HF0'.out.2.2.2).trans (HF0'.out.2.2.1 1);have HzL:=η (Nat.lt_of_lt_of_le HF0'.out.2.2.2 hbL.size);have HbL:=η hbL;clear hbL)
        obtain ⟨WF,hWF⟩:∃q,q=(wL.setCell ⟨wr.heap.size,0,none⟩ (.string ⟨(job++Bb.blgW).toArray⟩)).setCell ⟨wr.heap.size,1,none⟩ (.string ⟨lg.toArray⟩):=⟨_,rfl⟩
        rw [←hWF]
        obtain ⟨gf,hgf⟩:∃q,wr.heap.size=q:=⟨_,rfl⟩
        have ne01:∀a b:Nat,a≠b→(⟨gf,a,none⟩:Addr)≠⟨gf,b,none⟩:=fun a b h e=>h (by simp only [Addr.mk.injEq,and_true,true_and] at e;exact e)
        rw [hgf] at z0 z1 hWF ⊢
        have HN:=HN0;rw [hgf] at HN
        have HzL:=HzL;rw [hgf] at HzL
        have u1:(wL.setCell ⟨gf,0,none⟩ (.string ⟨(job++Bb.blgW).toArray⟩)).cell? ⟨gf,1,none⟩=some (.string ⟨bbl.toArray⟩):=(World.cell?_setCell_other _ _ _ _ (ne01 0 1 (by decide))).trans z1
        have HF:=η (show WF.cell? ⟨gf,0,none⟩=some (.string ⟨(job++Bb.blgW).toArray⟩)∧WF.cell? ⟨gf,1,none⟩=some (.string ⟨lg.toArray⟩)∧(∀i,WF.frozen? ⟨gf,i,none⟩=false)∧gf<WF.heap.size from ⟨by rw [hWF];exact (World.cell?_setCell_other _ _ _ _ (ne01 1 0 (by decide))).trans (World.cell?_setCell_same _ _ _ z0),by rw [hWF];exact World.cell?_setCell_same _ _ _ u1,fun i=>by rw [hWF];have h:=(HbL.out.frozen (p:=⟨wr.heap.size,i,none⟩) HF0'.out.2.2.2).trans (HF0'.out.2.2.1 i);rw [hgf] at h;simpa using h,by rw [hWF];simpa using HzL.out⟩)
        have HWkF:=η (show Wk g (.slice pv l.length cv) vr vnk σ.rs nk WF by rw [hWF];exact ((HWkF0.out.below HbL.out).set (by have:=HN.out.1;omega) HN.out.2.1 HN.out.2.2.1 0 _).set (by have:=HN.out.1;omega) HN.out.2.1 HN.out.2.2.1 1 _)
        have HOF:=η (show OwnL (g+1) 33 2 RFl WF (.slice po no co) ((Bb.filesOf l job style).take 1) by rw [hWF];exact ownL_grown (ownL_grown (HOF0.out.below HbL.out) (grown_set wL gf 0 _) (fun j hj e=>HN.out.2.2.2 (hj.trans e.symm))) (grown_set _ gf 1 _) (fun j hj e=>HN.out.2.2.2 (hj.trans e.symm)))
        have HBF:=η (show Below g W1 WF by rw [hWF];exact ((HBF0.out.trans (HbL.out.mono (Nat.le_of_lt HWkF0.out.t.lt))).setCell (p:=⟨gf,0,none⟩) (Nat.le_of_lt HN.out.1) _).setCell (p:=⟨gf,1,none⟩) (Nat.le_of_lt HN.out.1) _)
        clear z0 z1 y0 y1 hWF hgf ne01 u1 HF0' HN0 HWkF0 HOF0 HBF0 HzL Hlog HWF0 HbL
        have hcut:(⟨lg.toArray⟩:ByteArray).extract 0 4000=⟨(lg.take 4000).toArray⟩:=by rw [extract_any];rfl
        go_cut [117] from 118 to 127 (fun _ W=>∃vn',Wk g (.slice pv l.length cv) vr vn' σ.rs (nk++if 4000<lg.length then [(3,(job++Bb.blgW))] else []) W∧OwnL (g+1) 33 2 RFl W (.slice po no co) ((Bb.filesOf l job style).take 1)∧W.cell? ⟨gf,0,none⟩=some (.string ⟨(job++Bb.blgW).toArray⟩)∧W.cell? ⟨gf,1,none⟩=some (.string ⟨(lg.take 4000).toArray⟩)∧Below g W1 W∧gf<W.heap.size)
        case first =>
         by_cases h4:4000<lg.length
         ·
          have h4':(4000:Int)<(lg.length:Int):=by omega
          have h4q:¬lg.length<4000:=by omega
          have c0:=HF.out.1;have c1:=HF.out.2.1;have f1:=HF.out.2.2.1 1;have hgl:=HF.out.2.2.2
          obtain ⟨WS,hWS⟩:∃q,q=WF.setCell ⟨gf,1,none⟩ (.string ⟨(lg.take 4000).toArray⟩):=⟨_,rfl⟩
          have s0:WS.cell? ⟨gf,0,none⟩=some (.string ⟨(job++Bb.blgW).toArray⟩):=by rw [hWS];exact (World.cell?_setCell_other _ _ _ _ (by simp)).trans c0
          have s1:WS.cell? ⟨gf,1,none⟩=some (.string ⟨(lg.take 4000).toArray⟩):=by rw [hWS];exact World.cell?_setCell_same _ _ _ c1
          have sl:gf<WS.heap.size:=by rw [hWS];simpa using hgl
          have sW:Wk g (.slice pv l.length cv) vr vnk σ.rs nk WS:=by rw [hWS];exact HWkF.out.set (by have:=HN.out.1;omega) HN.out.2.1 HN.out.2.2.1 1 _
          have sB:Below g W1 WS:=by rw [hWS];exact HBF.out.setCell (p:=⟨gf,1,none⟩) (Nat.le_of_lt HN.out.1) _
          have sO:OwnL (g+1) 33 2 RFl WS (.slice po no co) ((Bb.filesOf l job style).take 1):=by rw [hWS];exact ownL_grown HOF.out (grown_set WF gf 1 _) (fun j hj e=>HN.out.2.2.2 (hj.trans e.symm))
          have Hnote:=η (bb_note g (job++Bb.blgW) 3 _ vr vnk σ.rs nk WS (HT.out WS sB).1 (HT.out WS sB).2 sW (by have:=Hnb.out.1;omega))
          have HSx:=η (show WS.cell? ⟨gf,0,none⟩=some (.string ⟨(job++Bb.blgW).toArray⟩)∧WS.cell? ⟨gf,1,none⟩=some (.string ⟨(lg.take 4000).toArray⟩)∧gf<WS.heap.size from ⟨s0,s1,sl⟩)
          have HsW:=η sW;have HsB:=η sB;have HsO:=η sO;have HWS:=η hWS;have H4:=η h4
          clear s1 sl sW sB sO hWS h4
          go_upto_region 31 with fail
          rw [←HWS.out]
          clear c0 c1 f1 hgl
          go_wp2_with (go_at_call 15; refine Hnote.out.mono ?_;rintro e wN ⟨rfl,vn',hW',hM'⟩;have HW':=η hW';have HM':=η hM';clear hW' hM')
          go_meet
          have hfr:=Free.mv (va:=.slice po no co) ⟨HN.out.1,HN.out.2.1,HN.out.2.2.1,HN.out.2.2.2⟩ HM'.out HSx.out.2.2
          refine ⟨vn',by rw [if_pos H4.out];exact HW'.out,own_mv HsO.out HsW.out HM'.out (by decide) (by decide),(World.cell?_of_block (a:=⟨gf,0,none⟩) hfr.2).trans HSx.out.1,(World.cell?_of_block (a:=⟨gf,1,none⟩) hfr.2).trans HSx.out.2.1,HsB.out.trans (HM'.out.below (Nat.le_refl _) (fun k e=>by have:=ownL_ge HsW.out.r k e;omega) (fun k e=>by have:=ownL_ge HsW.out.n k e;omega) (Nat.le_of_lt HsW.out.t.lt)),Nat.lt_of_lt_of_le HSx.out.2.2 HM'.out.size⟩
         ·
          have h4':¬(4000:Int)<(lg.length:Int):=by omega
          have H4:=η h4
          clear h4
          go_wp2_with fail
          go_meet
          refine ⟨vnk,by rw [if_neg H4.out,List.append_nil];exact HWkF.out,HOF.out,HF.out.1,?_,HBF.out,HF.out.2.2.2⟩
          rw [List.take_of_length_le (by have:=H4.out;omega)]
          exact HF.out.2.1
        case rest =>
         obtain ⟨vn',hW',hO',d0,d1,hB',dl⟩:=hcut
         clear hcut
         have HW':=η hW';have HO':=η hO';have HB':=η hB'
         obtain ⟨fl,hown,hrep⟩:=hO'
         have Hown:=η hown;have Hrep:=η hrep
         have hnl:((Bb.filesOf l job style).take 1).length≤2:=by rw [List.length_take];exact Nat.le_trans (Nat.min_le_left _ _) (by omega)
         have Hom:=η (show ((Bb.filesOf l job style).take 1).length+1≤maxLen by unfold maxLen;omega)
         have Ho32:=η (show (((Bb.filesOf l job style).take 1).length+1)*32≤140737488355328 by omega)
         have H0W:=η (show g+1≤wc.heap.size from HW'.out.t.lt)
         clear hW' hB' hown hrep hnl
         go_wp2_with (at_builtin;go_loud (refine wpList_append1 rfl (.tmp 128) (.tmp 130) 22 rfl (g+1) 33 iF (.agg #[.string ⟨#[]⟩,.string ⟨#[]⟩]) 2 32 Tryz.underlying22 HiF.out HF0.out HF1.out HF2.out rfl (by decide) _ _ _ Hown.out rfl [.string ⟨(job++Bb.blgW).toArray⟩,.string ⟨(lg.take 4000).toArray⟩] rfl (by simp) rfl (by simp [Value.oneCell']) Hom.out Ho32.out H0W.out ?_);intro v2 w9 own2 g2 at2;obtain ⟨p2,cap2,hv2,_⟩:=own2.form (Nat.succ_pos _);subst hv2)
         go_roundw
         case rel =>
          refine ⟨2,vn',_,by omega,?_,⟨_,_,_,rfl⟩,HW'.out.appO HO'.out (by decide) (by decide) g2,?_,?_,?_,?_⟩
          ·
           first | rfl | simp [wrap64]
          ·
           have h:=OwnL.more Hrep.out (x:=((job++Bb.blgW),lg.take 4000)) rfl own2
           rw [show (Bb.filesOf l job style).take 2=(Bb.filesOf l job style).take 1++[(job++Bb.blgW,lg.take 4000)] by unfold Bb.filesOf;rw [←Hnk.out,Hlg.out];rfl]
           exact h
          ·
           intro h;exact absurd h (by omega)
          ·
           intro h;exact absurd h (by omega)
          ·
           exact HB'.out.trans ⟨g2.os,g2.tape,g2.output,g2.size,fun j hj=>g2.block j (by have:=HW'.out.t.lt;omega) (fun e=>by have:=ownL_ge HO'.out j e.symm;omega)⟩
         case measure=>first | (simp [intOf,wrap64];done) | (simp [intOf,wrap64];omega) | decide
       ·
        clear hn0 hn1
        have e1:=HWk.out.t.c1
        have HO2:=HO.out
        rw [List.take_of_length_le (by unfold Bb.filesOf;simp)] at HO2
        have HO2:=η HO2
        have hgle:w.heap.size≤g+1:=by rw [Hg.out];omega
        have hfin:=HO2.out.lower (B':=w.heap.size) hgle
        have hrfin:=HWk.out.r.lower (B':=w.heap.size) hgle
        have HF2:=η hfin;have HR2:=η hrfin
        have hBfin:Below w.heap.size w wr:=by rw [Hg.out];exact Hb1.out.trans HBk.out
        have HBfin:=η hBfin
        clear hgle hfin hrfin hBfin hapb hapg hqj
        go_upto_region 34 with fail
        go_quiet (fail)
        have HBd:=η (below_drewN HBfin.out nq)
        go_wp2_with fail
        go_ret3
        refine ⟨HBd.out,?_⟩
        rw [HR.out]
        refine ⟨.slice po no co,vr,by simp,?_,?_⟩
        ·
         have h:=own_keep (w':=wr.drewN nq) HF2.out.choose_spec.1 (fun _ _=>rfl)
         exact ⟨_,h,HF2.out.choose_spec.2⟩
        ·
         rw [Hσ1.out]
         have h:=own_keep (w':=wr.drewN nq) HR2.out.choose_spec.1 (fun _ _=>rfl)
         exact ⟨_,h,HR2.out.choose_spec.2⟩
end Go.Proofs.YtgnfmopcialllaaGreatDoor
