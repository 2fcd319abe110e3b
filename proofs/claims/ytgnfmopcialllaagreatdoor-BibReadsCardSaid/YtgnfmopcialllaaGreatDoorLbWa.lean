/- The walk of label.Whole. -/
import Derived.Test.YtgnfmopcialllaaGreatDoorTk
import Derived.Test.YtgnfmopcialllaaGreatDoorG20
import Derived.Test.YtgnfmopcialllaaGreatDoorG01
import Derived.Test.YtgnfmopcialllaaGreatDoorG13
import Derived.WalkMore
import Derived.ScopeJumps
set_option linter.unusedSimpArgs false
set_option linter.unusedVariables false
namespace Go.Proofs.YtgnfmopcialllaaGreatDoor
open Go.RowKit
theorem E3.block {W W':World} {g:Nat} {a b c:Value} (h:E3 W g a b c) (hb:W'.heap[g]? = W.heap[g]?) (hz:W.heap.size≤W'.heap.size):E3 W' g a b c:=by
 have hc:∀i,W'.cell? ⟨g,i,none⟩=W.cell? ⟨g,i,none⟩:=fun i=>World.cell?_of_block (w:=W) (a:=⟨g,i,none⟩) hb
 exact ⟨(hc 0).trans h.c0,(hc 1).trans h.c1,(hc 2).trans h.c2,fun i=>(World.frozen?_of_block (w:=W) (a:=⟨g,i,none⟩) hb).trans (h.f i),Nat.lt_of_lt_of_le h.lt hz⟩
theorem E3.turn {W W':World} {g q:Nat} {a b c:Value} (h:E3 W g a b c) (ht:Turn q W W') (hne:g≠q):E3 W' g a b c:=by
 exact h.block (ht.block g h.lt (fun e=>hne (Option.some.inj e))) ht.size
def seenN (seen:List (List UInt8)) (s:List UInt8):Int:=((seen.count s:Nat):Int)
structure Wst (B:Nat) (w:World) (kd ky:List UInt8) (seen:List (List UInt8)) (fs:List Ent.Fld) (vF:Value) (W:World):Prop where
 z:E3 W B (.string ⟨#[]⟩) (.string ⟨#[]⟩) (.slice none 0 0)
 o:E3 W (B+1) (.string ⟨kd.toArray⟩) (.string ⟨ky.toArray⟩) vF
 r:OwnL (B+3) 218 2 RFld W vF fs
 m:IMap W (B+2) seen.length (seenN seen)
 b:Below B w W
theorem Wst.sz {B:Nat} {w:World} {kd ky:List UInt8} {seen:List (List UInt8)} {fs:List Ent.Fld} {vF:Value} {W:World} (h:Wst B w kd ky seen fs vF W):B+3≤W.heap.size:=h.m.lt
theorem Wst.below {B:Nat} {w:World} {kd ky:List UInt8} {seen:List (List UInt8)} {fs:List Ent.Fld} {vF:Value} {W W':World} (h:Wst B w kd ky seen fs vF W) (hb:Below W.heap.size W W'):Wst B w kd ky seen fs vF W' :=
 ⟨h.z.below' hb,h.o.below' hb,h.r.below hb,h.m.below hb,h.b.trans (hb.mono (by have:=h.sz;omega))⟩
theorem IMap.set {w:World} {b n:Nat} {f:List UInt8→Int} (h:IMap w b n f) {g:Nat} (hg:b≠g) (i:Nat) (v:Value):IMap (w.setCell ⟨g,i,none⟩ v) b n f:=h.kept (Below.heap_setCell _ _ _ _ hg)
theorem IMap.cong {w:World} {b n:Nat} {f f':List UInt8→Int} (h:IMap w b n f) (e:∀s,f s=f' s):IMap w b n f':=by
 have:f=f':=funext e
 rwa [←this]
theorem Wst.start {B:Nat} {w:World} {kd ky:List UInt8} {W:World} {seen:List (List UInt8)} {fs:List Ent.Fld} (h:Wst B w kd ky [] [] (.slice none 0 0) W) (kd' ky':List UInt8) (hs:seen=[]) (hf:fs=[]) :
  Wst B w kd' ky' seen fs (.slice none 0 0) (((W.setCell ⟨B+1,0,none⟩ (.string ⟨kd'.toArray⟩)).setCell ⟨B+1,1,none⟩ (.string ⟨ky'.toArray⟩)).setCell ⟨B+1,2,none⟩ (.slice none 0 0)) :=
 by subst hs;subst hf;exact ⟨((h.z.other (by omega) 0 _).other (by omega) 1 _).other (by omega) 2 _,h.o.all _ _ _,OwnL.nil _ _ _ _ _,((h.m.set (by omega) 0 _).set (by omega) 1 _).set (by omega) 2 _,below3 h.b (by omega) _ _ _⟩
theorem OwnL.turn {α:Type} {B:Nat} {t:TypeId} {n q:Nat} {R:α→List Value→Prop} {W W':World} {v:Value} {l:List α} (h:OwnL B t n R W v l) (ht:Turn q W W') (hq:q<B):OwnL B t n R W' v l:=by
 obtain ⟨fl,h1,h2⟩:=h
 exact ⟨fl,h1.kept ht (by
  cases hb:v.ownBlock with
  | none=>exact .inl rfl
  | some g=>exact .inr (fun e=>by have:=(h1.lt g hb).1;injection e with e;omega)),h2⟩
theorem Wst.mapped {B:Nat} {w:World} {kd ky:List UInt8} {seen:List (List UInt8)} {fs:List Ent.Fld} {vF:Value} {W W':World} (h:Wst B w kd ky seen fs vF W) (key:List UInt8)
  (hm:IMap W' (B+2) (seen.length+1) (fun t=>if t=key then seenN seen key+1 else seenN seen t)) (ht:W.grownBy W' (some (B+2))):Wst B w kd ky (seen++[key]) fs vF W':=by
 have ht:Turn (B+2) W W':=ht
 refine ⟨h.z.turn ht (by omega),h.o.turn ht (by omega),h.r.turn ht (by omega),?_,Turn.belowOf h.b ht (by omega) (by have:=h.sz;omega)⟩
 rw [List.length_append,List.length_singleton]
 refine hm.cong fun s=>?_
 unfold seenN
 rw [List.count_append,List.count_singleton]
 by_cases hs:s=key
 ·
  subst hs;simp
 ·
  rw [if_neg hs]
  have:(key == s)=false:=by rw [beq_eq_false_iff_ne];exact fun e=>hs e.symm
  rw [this];simp
theorem Wst.app {B:Nat} {w:World} {kd ky:List UInt8} {seen:List (List UInt8)} {acc:List Ent.Fld} {vF v2:Value} {W W':World} {f:Ent.Fld} {fl:List Value} (h:Wst B w kd ky seen acc vF W) (hrep:RepRow RFld acc fl)
  (hold:W.ownsRow (B+3) 218 2 vF acc.length fl)
  (hown:W'.ownsRow (B+3) 218 2 v2 (acc.length+1) (fl++[.string ⟨f.name.toArray⟩,.string ⟨f.text.toArray⟩])) (hg:W.grownBy W' vF.ownBlock) :
  E3 W' (B+1) (.string ⟨kd.toArray⟩) (.string ⟨ky.toArray⟩) vF∧Wst B w kd ky seen (acc++[f]) v2 (W'.setCell ⟨B+1,2,none⟩ v2):=by
 have hlo:∀q,q<B+3→some q≠vF.ownBlock:=fun q hq e=>by have:=(hold.lt q e.symm).1;omega
 have ho:=h.o.block (hg.block (B+1) h.o.lt (hlo _ (by omega))) hg.size
 have hz:=h.z.block (hg.block B h.z.lt (hlo _ (by omega))) hg.size
 have hm:=h.m.kept (hg.block (B+2) h.m.lt (hlo _ (by omega)))
 have hr:OwnL (B+3) 218 2 RFld W' v2 (acc++[f]):=OwnL.more hrep rfl hown
 refine ⟨ho,hz.other (by omega) 2 _,ho.set2 _,?_,hm.set (by omega) 2 _,?_⟩
 ·
  obtain ⟨fl2,k1,k2⟩:=hr
  exact ⟨fl2,ownsRow_setCell_below k1 (a:=⟨B+1,2,none⟩) (by show B+1<B+3;omega) v2,k2⟩
 ·
  exact (h.b.trans ⟨hg.os,hg.tape,hg.output,hg.size,fun k hk=>hg.block k (by have:=h.sz;omega) (hlo _ (by omega))⟩).setCell (p:=⟨B+1,2,none⟩) (by show B≤B+1;omega) v2
theorem Wst.old {B:Nat} {w:World} {kd ky:List UInt8} {seen:List (List UInt8)} {fs:List Ent.Fld} {vF:Value} {W:World} (h:Wst B w kd ky seen fs vF W):vF.ownBlock≠some W.heap.size:=by
 obtain ⟨fl,h1,_⟩:=h.r
 intro e
 have:=(h1.lt _ e).2
 omega
theorem Wst.fields3 {B:Nat} {w:World} {kd ky:List UInt8} {seen:List (List UInt8)} {fs:List Ent.Fld} {vF:Value} {W:World} (h:Wst B w kd ky seen fs vF W) {a b c:Value}:SliceIn (fun j=>B≤j) 2 RFld (((W.setCell ⟨B,0,none⟩ a).setCell ⟨B,1,none⟩ b).setCell ⟨B,2,none⟩ c) vF fs:=by
 have h1:=h.r.slice RFld.size (fun j=>B+3≤j) (fun _ h=>h)
 have h2:=((h1.set4 (g:=B) (fun j hj=>by have:=hj;omega) 0 a).set4 (g:=B) (fun j hj=>by have:=hj;omega) 1 b).set4 (g:=B) (fun j hj=>by have:=hj;omega) 2 c
 exact h2.kept (fun j hj=>by have:=hj;show B≤j;omega) (Nat.le_refl _) (fun _ _ _=>rfl) (fun _ _ _ h=>h)
inductive Wans (B:Nat) (w:World) (x:Ent.Ent) (R:Option (List Ent.Fld) × Int):Value→Int→World→Prop
 | ok (fs:List Ent.Fld) (vf:Value) {W:World} (hR:R=(some fs,0)) (hF:SliceIn (fun j=>B≤j) 2 RFld W vf fs) (hb:Below B w W):Wans B w x R (.agg #[.string ⟨x.kind.toArray⟩,.string ⟨x.key.toArray⟩,vf]) 0 W
 | no (n:Int) {W:World} (hR:R=(none,n)) (hb:Below B w W):Wans B w x R (.agg #[.string ⟨#[]⟩,.string ⟨#[]⟩,.slice none 0 0]) n W
theorem Wst.shape {B:Nat} {w:World} {kd ky:List UInt8} {seen:List (List UInt8)} {fs:List Ent.Fld} {vF:Value} {W:World} (h:Wst B w kd ky seen fs vF W):∃p c,vF = .slice p fs.length c∧fs.length≤c:=by
 obtain ⟨p,c,hv,hl,_⟩:=h.r.slice RFld.size (fun _=>True) (fun _ _=>trivial)
 exact ⟨p,c,hv,hl⟩
def Wjmp (B:Nat) (w:World) (v:Value) (l:List Ent.Ent) (x:Ent.Ent) (R:Option (List Ent.Fld) × Int) (n:Nat) (a:Act) (W:World):Prop :=
 ∃(key:List UInt8) (seen:List (List UInt8)) (fs:List Ent.Fld) (vF:Value) (u9 u10 u11 u12 u13 u14 u15 u16 u17 u18 u19 u20 u21 u22 u23 u24 u25 u26 u27 u28 u29 u30 u31 u32 u33 u34 u35 u36 u37 u38 u39 u40 u41 u42 u43 u44 u45 u46 u47 u48 u49 u50 u51 u52 u53 u54 u55 u56 u57 u58 u59 u60 u61 u62 u63 u64 u65 u66 u67 u68 u69 u70 u71 u72 u73 u74 u75 u76 u77 u78 u79 u80 u81:Value),a={ tmps:=#[v,.string ⟨key.toArray⟩,undef,undef,.pointer (some ⟨B,0,none⟩),.int .i64 0,.pointer (some ⟨B+1,0,none⟩),.map (some (B+2)),.bool false,u9,u10,u11,u12,u13,u14,u15,u16,u17,u18,u19,u20,u21,u22,u23,u24,u25,u26,u27,u28,u29,u30,u31,u32,u33,u34,u35,u36,u37,u38,u39,u40,u41,u42,u43,u44,u45,u46,u47,u48,u49,u50,u51,u52,u53,u54,u55,u56,u57,u58,u59,u60,u61,u62,u63,u64,u65,u66,u67,u68,u69,u70,u71,u72,u73,u74,u75,u76,u77,u78,u79,u80,u81],defers:=[] }∧n+seen.length=l.length+1∧seen.Nodup∧(∀k ∈ seen,(Lb.findE l k).isSome=true)∧key ∉ seen∧key.length≤maxLen∧R=Lb.wholeN l n key seen fs∧fs.length≤1000*seen.length∧Wst B w x.kind x.key seen fs vF W
theorem seen_le:∀(seen:List (List UInt8)) (l:List (List UInt8)),seen.Nodup→(∀k ∈ seen,k ∈ l)→seen.length≤l.length
 | [],_,_,_=>Nat.zero_le _
 | k::seen,l,hn,hs=>by
  rw [List.nodup_cons] at hn
  have hk:k ∈ l:=hs k (by simp)
  have h:=seen_le seen (l.erase k) hn.2 (fun q hq=>(List.mem_erase_of_ne (fun (e:q=k)=>hn.1 (e ▸ hq))).2 (hs q (List.mem_cons_of_mem _ hq)))
  rw [List.length_erase_of_mem hk] at h
  have:=List.length_pos_of_mem hk
  rw [List.length_cons];omega
theorem seen_ents (seen:List (List UInt8)) (l:List Ent.Ent) (hn:seen.Nodup) (hs:∀k ∈ seen,(Lb.findE l k).isSome=true):seen.length≤l.length:=by
 have h:=seen_le seen (l.map (·.key)) hn (fun k hk=>by
  obtain ⟨x,hx⟩:=Option.isSome_iff_exists.1 (hs k hk)
  exact List.mem_map.2 ⟨x,List.mem_of_find?_eq_some hx,Lb.find_key l k x hx⟩)
 rwa [List.length_map] at h
theorem least_of (P:Nat→Prop):∀n,P n → ∃m,P m∧∀k,P k→m≤k:=fun n=>by
 induction n using Nat.strongRecOn with
 | _ n ih =>
  intro h
  by_cases hx:∃k,k<n∧P k
  ·
   obtain ⟨k,hk,hp⟩:=hx;exact ih k hk hp
  ·
   exact ⟨n,h,fun k hp=>Nat.le_of_not_lt fun hlt=>hx ⟨k,hlt,hp⟩⟩
set_option maxRecDepth 100000 in
set_option maxHeartbeats 1600000 in
theorem lb_Whole (l:List Ent.Ent) (v:Value) (key0:List UInt8) (w:World) (hE:Ents (fun j=>j<w.heap.size) w v l) (hl:l.length≤1000000) (hok:∀x ∈ l,Lb.EntB x∧x.fields.length≤1000) (hk0:key0.length≤maxLen) :
  Calls Tryz.prog 69 #[v,.string ⟨key0.toArray⟩] w fun e w'=>∃vr n,e = .returned (.tuple #[vr,.int .i64 n])∧Wans w.heap.size w ((Lb.findE l key0).getD entZ) (Lb.wholeN l (l.length+1) key0 [] []) vr n w':=by
 obtain ⟨i0,hi,hz0,hz1,hz2⟩:=info_parts efield_info
 have Hi:=η hi;have Hz0:=η hz0;have Hz1:=η hz1;have Hz2:=η hz2;clear hi hz0 hz1 hz2
 have hmm:=@run_makeMap Tryz.prog
 have hW0:Wst w.heap.size w [] [] [] [] (.slice none 0 0) (((w.alloc (.cells #[.string ⟨#[]⟩,.string ⟨#[]⟩,.slice none 0 0] 60)).alloc (.cells #[.string ⟨#[]⟩,.string ⟨#[]⟩,.slice none 0 0] 60)).alloc (.map #[] 0)):=by
  have z1:(w.alloc (.cells #[.string ⟨#[]⟩,.string ⟨#[]⟩,.slice none 0 0] 60)).heap.size=w.heap.size+1:=by simp
  have z2:((w.alloc (.cells #[.string ⟨#[]⟩,.string ⟨#[]⟩,.slice none 0 0] 60)).alloc (.cells #[.string ⟨#[]⟩,.string ⟨#[]⟩,.slice none 0 0] 60)).heap.size=w.heap.size+2:=by simp
  have b1:=below_new (w.alloc (.cells #[.string ⟨#[]⟩,.string ⟨#[]⟩,.slice none 0 0] 60)) (.cells #[.string ⟨#[]⟩,.string ⟨#[]⟩,.slice none 0 0] 60)
  have b2:=below_new ((w.alloc (.cells #[.string ⟨#[]⟩,.string ⟨#[]⟩,.slice none 0 0] 60)).alloc (.cells #[.string ⟨#[]⟩,.string ⟨#[]⟩,.slice none 0 0] 60)) (.map #[] 0)
  have e1:=E3.new w 60 (.string ⟨#[]⟩) (.string ⟨#[]⟩) (.slice none 0 0)
  have e2:=E3.new (w.alloc (.cells #[.string ⟨#[]⟩,.string ⟨#[]⟩,.slice none 0 0] 60)) 60 (.string ⟨#[]⟩) (.string ⟨#[]⟩) (.slice none 0 0)
  rw [z1] at e2
  refine ⟨(e1.below' b1).below' b2,e2.below' b2,OwnL.nil _ _ _ _ _,?_,bseq (bseq (below_new w _) b1) b2⟩
  have hm:=IMap.made ((w.alloc (.cells #[.string ⟨#[]⟩,.string ⟨#[]⟩,.slice none 0 0] 60)).alloc (.cells #[.string ⟨#[]⟩,.string ⟨#[]⟩,.slice none 0 0] 60))
  rw [z2] at hm
  exact hm.cong fun s=>by simp [seenN]
 obtain ⟨R,hR⟩:∃R,Lb.wholeN l (l.length+1) key0 [] []=R:=⟨_,rfl⟩
 rw [hR]
 replace hR:=hR.symm
 obtain ⟨B,hB⟩:∃B,w.heap.size=B:=⟨_,rfl⟩
 rw [hB] at hW0 hE ⊢
 have hEB:∀W,Below B w W→Ents (fun j=>j<B) W v l:=fun W hW=>Ents.kept hE (fun _ h=>h) hW.size (fun b hb _=>hW.block b hb)
 have HE:=η hEB;have Hl:=η hl;have Hok0:=η hok;have HW0:=η hW0;have HR:=η hR;have Hkl:=η hk0
 clear hE hEB hl hok hW0 hR hk0
 cases hf:Lb.findE l key0 with
 | none =>
  have Hf:=η hf
  have HR3:=η (show R=(none,14) by rw [HR.out,Lb.wholeN,hf])
  clear hf
  go_enter Tryz.func69, Tryz.ntmps69
  go_wp2
  go_step3
  go_upto_region 4 with fail
  go_step3
  have HPost:=η (show ∀vr n W,Wans B w entZ R vr n W→(fun e w'=>∃vr n,e=Ending.returned (.tuple #[vr,.int .i64 n])∧Wans B w entZ R vr n w') (.returned (.tuple #[vr,.int .i64 n])) W from fun vr n W h=>⟨vr,n,rfl,h⟩)
  go_upto_region 6 with (go_at_call 128; refine (lb_find l v key0 _ _ (HE.out _ HW0.out.b)).mono ?_;rw [Hf.out];simp only [Option.getD_none,Option.isSome_none,entV,entZ];rintro e w1 ⟨⟨vf,rfl,hF⟩,hb1⟩;obtain ⟨px,nx,cx,hvf⟩:=SliceIn.shape hF;subst hvf;have HW1:=η (HW0.out.below hb1);clear hF hb1)
  obtain ⟨w2,hw2⟩:∃W,W=w1.alloc (.cells #[.string ⟨#[]⟩,.string ⟨#[]⟩,.slice px nx cx] 60):=⟨_,rfl⟩
  rw [←hw2]
  have HW2:=η (HW1.out.below (show Below w1.heap.size w1 w2 by rw [hw2];exact below_new _ _))
  clear hw2 HW1
  have d0:=HW2.out.z.c0;have d1:=HW2.out.z.c1;have d2:=HW2.out.z.c2;have f0:=HW2.out.z.f 0;have f1:=HW2.out.z.f 1;have f2:=HW2.out.z.f 2
  go_wp2_with fail
  have hZ:=HW2.out.z.all (.string ⟨#[]⟩) (.string ⟨#[]⟩) (.slice none 0 0)
  try simp only [Exit.jump]
  try simp only [Exit.noGoto_ret]
  exact ret_cs rfl rfl rfl (load_ent _ _ _ _ _ hZ.c0 hZ.c1 hZ.c2) rfl (HPost.out _ _ _ (.no 14 HR3.out (below3 HW2.out.b (Nat.le_refl _) _ _ _)))
 | some x =>
  have Hf:=η hf
  have hxm:x ∈ l:=List.mem_of_find?_eq_some hf
  clear hf
  obtain ⟨μ,hμ⟩:∃μ:Act→World→Nat,∀a W n,Wjmp B w v l x R n a W→μ a W≤n∧Wjmp B w v l x R (μ a W) a W:=by
   have h:∀p:Act × World,∃m,∀n,Wjmp B w v l x R n p.1 p.2→m≤n∧Wjmp B w v l x R m p.1 p.2:=fun p=>by
    by_cases hx:∃n,Wjmp B w v l x R n p.1 p.2
    ·
     obtain ⟨n,hn⟩:=hx
     obtain ⟨m,hm,hle⟩:=least_of (fun k=>Wjmp B w v l x R k p.1 p.2) n hn
     exact ⟨m,fun k hk=>⟨hle k hk,hm⟩⟩
    ·
     exact ⟨0,fun n hn=>absurd ⟨n,hn⟩ hx⟩
   obtain ⟨f,hf⟩:=Classical.skolem.1 h
   exact ⟨fun a W=>f (a,W),fun a W n hn=>hf (a,W) n hn⟩
  have HPost:=η (show ∀vr n W,Wans B w x R vr n W→(fun e w'=>∃vr n,e=Ending.returned (.tuple #[vr,.int .i64 n])∧Wans B w x R vr n w') (.returned (.tuple #[vr,.int .i64 n])) W from fun vr n W h=>⟨vr,n,rfl,h⟩)
  go_enter Tryz.func69, Tryz.ntmps69
  go_wp2
  refine wp_scope_jumps 0 (fun a W=>∃n,Wjmp B w v l x R n a W) μ rfl ?_ ?_
  ·
   obtain ⟨key,hkey⟩:∃key,key0=key:=⟨_,rfl⟩
   subst hkey
   obtain ⟨seen,hseen⟩:∃s:List (List UInt8),s=[]:=⟨_,rfl⟩
   obtain ⟨fs,hfs⟩:∃s:List Ent.Fld,s=[]:=⟨_,rfl⟩
   obtain ⟨n,hn⟩:∃n,n=l.length:=⟨_,rfl⟩
   have HRn:=η (show R=Lb.wholeN l (n+1) key0 seen fs by rw [hn,hseen,hfs];exact HR.out)
   have Hn:=η (show n+1+seen.length=l.length+1 by rw [hn,hseen];rfl)
   have Hsl:=η (show seen.length≤1000000 by rw [hseen];exact Nat.zero_le _)
   have Hfsl:=η (show fs.length≤1000*seen.length by rw [hseen,hfs];exact Nat.le_refl _)
   have Hnd:=η (show seen.Nodup by rw [hseen];exact List.nodup_nil)
   have Hss:=η (show ∀k ∈ seen,(Lb.findE l k).isSome=true by rw [hseen];intro k hk;cases hk)
   have Hks:=η (show key0 ∉ seen by rw [hseen];exact List.not_mem_nil)
   have Hseen:=η hseen;have Hfs:=η hfs;have Hfx:=Hf;have Hok:=η (Hok0.out x hxm)
   clear hseen hfs hn hxm
   go_upto_region 4 with fail
   go_step3
   go_upto_region 7 with (go_at_call 128; refine (lb_find l v key0 _ _ (HE.out _ HW0.out.b)).mono ?_;rw [Hf.out];simp only [Option.getD_some,Option.isSome_some,entV];rintro e w1 ⟨⟨vf,rfl,hF⟩,hb1⟩;obtain ⟨px,nx,cx,hvf⟩:=SliceIn.shape hF;subst hvf;have HW1:=η (HW0.out.below hb1);have HFx:=η hF;clear hF hb1)
   obtain ⟨w2,hw2⟩:∃W,W=w1.alloc (.cells #[.string ⟨x.kind.toArray⟩,.string ⟨x.key.toArray⟩,.slice px nx cx] 60):=⟨_,rfl⟩
   obtain ⟨gx,hgx⟩:∃g,w1.heap.size=g:=⟨_,rfl⟩
   rw [←hw2]
   try rw [hgx]
   have hb2:Below w1.heap.size w1 w2:=by rw [hw2];exact below_new _ _
   have hEx:E3 w2 gx (.string ⟨x.kind.toArray⟩) (.string ⟨x.key.toArray⟩) (.slice px nx cx):=by rw [hw2,←hgx];exact E3.new _ _ _ _ _
   have HW2:=η (HW1.out.below hb2);have HFx2:=η (SliceIn.below' HFx.out hb2)
   have HgB:=η (show B+3≤gx by rw [←hgx];exact HW1.out.sz)
   have Hne0:=η (show Value.ownBlock (.slice none 0 0)≠some gx by rw [←hgx];exact HW1.out.old)
   have HEx:=η hEx
   clear hb2 hEx hw2 hgx HW1 HFx
   have c0:=HEx.out.c0;have c1:=HEx.out.c1;have c2:=HEx.out.c2;have q0:=HW2.out.o.c0;have q1:=HW2.out.o.c1;have q2:=HW2.out.o.c2;have f0:=HW2.out.o.f 0;have f1:=HW2.out.o.f 1;have f2:=HW2.out.o.f 2
   go_upto_region 10 with fail
   clear c0 c1 c2 q0 q1 q2 f0 f1 f2
   have HW3:=η (HW2.out.start x.kind x.key Hseen.out Hfs.out)
   have HEx3:=η (((HEx.out.other (show B+1≠gx by have:=HgB.out;omega) 0 (.string ⟨x.kind.toArray⟩)).other (show B+1≠gx by have:=HgB.out;omega) 1 (.string ⟨x.key.toArray⟩)).other (show B+1≠gx by have:=HgB.out;omega) 2 (.slice none 0 0))
   have HFx3:=η (HFx2.out.set4 (g:=B+1) (fun j hj=>by have:=hj;omega) 0 (.string ⟨x.kind.toArray⟩) |>.set4 (g:=B+1) (fun j hj=>by have:=hj;omega) 1 (.string ⟨x.key.toArray⟩) |>.set4 (g:=B+1) (fun j hj=>by have:=hj;omega) 2 (.slice none 0 0))
   clear HW2 HEx HFx2
   generalize ((w2.setCell ⟨B+1,0,none⟩ (.string ⟨x.kind.toArray⟩)).setCell ⟨B+1,1,none⟩ (.string ⟨x.key.toArray⟩)).setCell ⟨B+1,2,none⟩ (.slice none 0 0)=w3 at *
   have hcb:-9223372036854775808≤seenN seen key0+1∧seenN seen key0+1≤9223372036854775807:=by unfold seenN;have:=List.count_le_length (a:=key0) (l:=seen);have:=Hsl.out;omega
   have hwc:IntKind.i64.wrap (seenN seen key0+1)=seenN seen key0+1:=IntWalk.i64_in _ hcb
   have hsm:seen.length<maxLen:=by have:=Hsl.out;unfold maxLen;omega
   have Hcb:=η hcb;have Hsm:=η hsm
   clear hcb hsm
   go_upto_region 11 with (first
    | (at_lookup;go_loud (refine wpList_imap_look rfl (.tmp 34) (.tmp 35) rfl (B+2) seen.length (seenN seen) rfl HW3.out.m key0 rfl Hkl.out ?_))
    | (at_mapUpdate;go_loud (refine wpList_imap_store rfl (.tmp 34) (.tmp 35) (.tmp 37) rfl (B+2) seen.length (seenN seen) rfl HW3.out.m key0 rfl Hkl.out Hsm.out (seenN seen key0+1) rfl Hcb.out ?_);intro w6 hm6 hg6;have Hm6:=η hm6;have Hg6:=η hg6;clear hm6 hg6))
   clear hwc
   have HW6:=η (HW3.out.mapped key0 Hm6.out Hg6.out)
   have HEx6:=η (HEx3.out.turn Hg6.out (show gx≠B+2 by have:=HgB.out;omega));have HFx6:=η (Turn.slice HFx3.out Hg6.out (fun j hj=>by have:=hj;omega))
   clear HW3 HEx3 HFx3 Hm6 Hg6
   have c0:=HEx6.out.c2
   have q0:=HW6.out.o.c2
   go_wp2_with fail
   clear c0 q0
   have Hgx6:=η HEx6.out.lt
   go_loopw [44] (fun iv wr=>∃(k:Nat) (acc:List Ent.Fld) (vF:Value),k≤x.fields.length∧iv = .int .i64 (k:Int)∧Wst B w x.kind x.key (seen++[key0]) acc vF wr∧E3 wr gx (.string ⟨x.kind.toArray⟩) (.string ⟨x.key.toArray⟩) (.slice px nx cx)∧SliceIn (fun j=>j<B) 2 RFld wr (.slice px nx cx) x.fields∧acc.take fs.length=fs∧fs.length≤acc.length∧acc.length≤fs.length+k∧Lb.addF fs acc (x.fields.drop k)=Lb.addF fs fs x.fields∧vF.ownBlock≠some gx) (fun iv _=>x.fields.length - (intOf iv).toNat)
   case atStart=>exact ⟨0,fs,_,Nat.zero_le _,rfl,HW6.out,HEx6.out,HFx6.out,List.take_length,Nat.le_refl _,Nat.le_refl _,rfl,Hne0.out⟩
   case round =>
    clear HW6 HEx6 HFx6
    obtain ⟨k,acc,vF,hk,rfl,hW,hE,hF,hta,hla,hlk,hP,hne⟩:=hrel
    have HW:=η hW;have HE:=η hE;have HF:=η hF;have Hta:=η hta;have Hla:=η hla;have Hlk:=η hlk;have HP:=η hP;have Hne:=η hne
    clear hW hE hF hta hla hlk hP hne
    by_cases hlt:k<x.fields.length
    ·
     obtain ⟨f,hf⟩:∃f,x.fields[k]? = some f:=⟨_,List.getElem?_eq_getElem hlt⟩
     obtain ⟨b,off,hq,e0,e1⟩:∃b off,px=some ⟨b,off,none⟩∧wr.cell? ⟨b,off+k*2,none⟩=some (.string ⟨f.name.toArray⟩)∧wr.cell? ⟨b,off+k*2+1,none⟩=some (.string ⟨f.text.toArray⟩):=by
      obtain ⟨pa,ca,hv,_,_,hat⟩:=HF.out
      obtain ⟨b,off,vs,rfl,_,_,hR,hc⟩:=hat k f hf
      have hR:vs=_:=hR
      subst hR
      simp only [Value.slice.injEq] at hv
      exact ⟨b,off,hv.1,hc 0 _ rfl,hc 1 _ rfl⟩
     have hnx:nx=x.fields.length:=by obtain ⟨_,_,hv,_⟩:=HF.out;simp only [Value.slice.injEq] at hv;exact hv.2.1
     subst hq;subst hnx
     have hlt':(k:Int)<(x.fields.length:Int):=by omega
     have hxm:=(Hok.out).2
     obtain ⟨k1,hk1⟩:∃k1,k1=k+1:=⟨_,rfl⟩
     have hwk:IntKind.i64.wrap ((k:Int)+1)=(k1:Int):=by rw [IntWalk.i64_in _ (by omega)];omega
     have hdr:x.fields.drop k=f::x.fields.drop k1:=by
      obtain ⟨h1,h2⟩:=List.getElem?_eq_some_iff.1 hf
      rw [List.drop_eq_getElem_cons h1,h2,hk1]
     have hstep:=HP.out
     rw [hdr,Lb.addF] at hstep
     obtain ⟨gt,gb,hget⟩:∃gt gb,Ent.get fs f.name=(gt,gb):=⟨_,_,rfl⟩
     rw [hget] at hstep
     have Hget:=η hget;have Hstep:=η hstep;have Hk1:=η hk1;have Hlt:=η hlt;have Hxm:=η hxm
     clear hget hstep hk1 hlt hdr hf hk hxm
     go_upto_region 15 with fail
     obtain ⟨w4,hw4⟩:∃W,W=wr.alloc (.cells #[.string ⟨f.name.toArray⟩,.string ⟨f.text.toArray⟩] 218):=⟨_,rfl⟩
     obtain ⟨gf,hgf⟩:∃g,wr.heap.size=g:=⟨_,rfl⟩
     rw [←hw4]
     try rw [hgf]
     have hb4:Below wr.heap.size wr w4:=by rw [hw4];exact below_new _ _
     have hc4:w4.cell? ⟨gf,0,none⟩=some (.string ⟨f.name.toArray⟩)∧w4.cell? ⟨gf,1,none⟩=some (.string ⟨f.text.toArray⟩):=by
      rw [hw4,←hgf]
      exact ⟨by rw [cell_of_row _ _ _ _ _ _ (heap_alloc_new wr _)];rfl,by rw [cell_of_row _ _ _ _ _ _ (heap_alloc_new wr _)];rfl⟩
     have hgl4:gf<w4.heap.size:=by rw [hw4,←hgf];exact lt_alloc _ _
     have HW4:=η (HW.out.below hb4);have HE4:=η (HE.out.below' hb4);have HF4:=η (SliceIn.below' HF.out hb4);have HC4:=η hc4;have HG4:=η hgl4
     have HgfB:=η (show B+3≤gf by rw [←hgf];exact HW.out.sz)
     clear hb4 hc4 hgl4 hw4 hgf e0 e1 HW HE HF
     refine wp_region_any (by kernel_rfl) ?_
     change wpAny _ _ _ _ _ _ _ (World.drew _)
     obtain ⟨pF,cF,hvF,hcF⟩:=HW4.out.shape
     subst hvF
     have HWd:=η (HW4.out.below (Below.refl _ _).drew);have HEd:=η (HE4.out.drew);have HFd:=η (SliceIn.below' HF4.out (Below.refl _ _).drew)
     have HCd:=η (show w4.drew.cell? ⟨gf,0,none⟩=some (.string ⟨f.name.toArray⟩)∧w4.drew.cell? ⟨gf,1,none⟩=some (.string ⟨f.text.toArray⟩) from HC4.out)
     have HGd:=η (show gf<w4.drew.heap.size from HG4.out)
     clear HW4 HE4 HF4 HC4 HG4
     generalize w4.drew=wd at *
     have HO1d:=η HWd.out.o
     have HPre:=η (show SliceIn (fun _=>True) 2 RFld wd (.slice pF 0 cF) fs from by
      have h:=(HWd.out.r.slice RFld.size (fun _=>True) (fun _ _=>trivial)).pre fs.length Hla.out
      rw [Hta.out] at h
      have h0:fs.length=0:=by rw [Hfs.out];rfl
      rwa [h0] at h)
     have hfc:(fs.length:Int)≤(cF:Int):=by have:=Hla.out;omega
     have hS0:=Below.refl wd.heap.size wd
     refine wpAny_of_held (S:=fun W=>Below wd.heap.size wd W) _ _ _ _ ?_
     refine tk 0 (.pointer (some ⟨B+1,2,none⟩)) rfl (hy:=fun W hW=>by go_simp) (h:=?_)
     refine tk 1 (.slice pF acc.length cF) rfl (hy:=fun W hW=>by (have q:=HO1d.out.below' hW;have c0:=q.c2;go_simp)) (h:=?_)
     refine tk 2 (.int .i64 0) rfl (h:=?_)
     refine tk 3 (.slice pF 0 cF) rfl (hy:=fun W hW=>by go_simp) (h:=?_)
     refine tk 4 (.agg #[.string ⟨#[]⟩,.string ⟨#[]⟩,.slice pF 0 cF]) rfl (hy:=fun W hW=>by go_simp) (h:=?_)
     refine tk 5 (.pointer (some ⟨gf,0,none⟩)) rfl (hy:=fun W hW=>by go_simp) (h:=?_)
     refine tk 6 (.string ⟨f.name.toArray⟩) rfl (hy:=fun W hW=>by (have c:=Below.cell hW (p:=⟨gf,0,none⟩) HGd.out;have c1:=Below.cell hW (p:=⟨gf,1,none⟩) HGd.out;rw [HCd.out.1] at c;rw [HCd.out.2] at c1;go_simp)) (h:=?_)
     try simp only [Act.put,π1,π2,π3,π4,π5,π6]
     refine tr 7 rfl (h:=fun K hK=>?_)
     go_simp
     go_wp2_with (go_at_call 127; refine (entry_get fs _ _ _ f.name _ _ HPre.out).mono ?_;rw [Hget.out];rintro e w5 ⟨rfl,hb5⟩;have Hb5:=η hb5;clear hb5)
     refine hK.out _ _ (Hb5.out) (fun _=>?_)
     clear K hK
     refine tk 8 (.tuple #[.string ⟨gt.toArray⟩,.bool gb]) rfl (h:=?_)
     refine tk 9 (.string ⟨gt.toArray⟩) rfl (hy:=fun W hW=>by go_simp) (h:=?_)
     refine tk 10 (.bool gb) rfl (hy:=fun W hW=>by go_simp) (h:=?_)
     refine tk 11 (.string ⟨gt.toArray⟩) rfl (h:=?_)
     refine tk 12 (.bool gb) rfl (h:=?_)
     try simp only [Act.put,π1,π2,π3,π4,π5,π6]
     refine wpAnyH_done (by kernel_rfl) ?_ _
     have HW5:=η (HWd.out.below Hb5.out);have HE5:=η (HEd.out.below' Hb5.out);have HF5:=η (SliceIn.below' HFd.out Hb5.out)
     have z0:=(Hb5.out.cell (p:=⟨gf,0,none⟩) HGd.out).trans HCd.out.1;have z1:=(Hb5.out.cell (p:=⟨gf,1,none⟩) HGd.out).trans HCd.out.2
     clear HWd HEd HFd HO1d HPre HCd hfc hS0
     cases gb
     ·
      obtain ⟨fl,hown,hrep⟩:=HW5.out.r
      have c2:=HW5.out.o.c2
      have Hown:=η hown;have Hrep:=η hrep
      have hal:acc.length≤2000000000:=by have:=Hlk.out;have:=Hfsl.out;have:=Hlt.out;have:=Hxm.out;have:=Hsl.out;omega
      have Hal:=η hal
      have Hsz5:=η HW5.out.sz
      clear hown hrep hal
      go_upto_region 18 with (at_builtin;go_loud (refine wpList_append1 rfl (.tmp 62) (.tmp 64) 58 rfl (B+3) 218 i0 (.agg #[.string ⟨#[]⟩,.string ⟨#[]⟩]) 2 32 Tryz.underlying58 Hi.out Hz0.out Hz1.out Hz2.out (by rfl) (by decide) _ _ _ Hown.out rfl [.string ⟨f.name.toArray⟩,.string ⟨f.text.toArray⟩] rfl (by simp) rfl (by simp [Value.oneCell']) (by have:=Hal.out;unfold maxLen;omega) (by have:=Hal.out;omega) Hsz5.out ?_);intro v2 w7 own2 g2 at2;(have hC7:=HW5.out.app (f:=f) Hrep.out Hown.out own2 g2);(obtain ⟨p2,c2',hv2,_⟩:=hC7.2.shape);rw [List.length_append,List.length_singleton] at hv2;subst hv2;(have r2:=hC7.1.f 2);(have y2:=hC7.1.c2);have HC7:=η hC7;(have HE7:=η (HE5.out.block (g2.block gx HE5.out.lt (Ne.symm Hne.out)) g2.size));(have HF7:=η (HF5.out.kept (S':=fun j=>j<B) (fun _ h=>h) g2.size (fun j hj hlt=>g2.block j hlt (fun e=>by have:=(Hown.out.lt j e.symm).1;have:=hj;omega)) (fun _ _ _ h=>h)));have Hg7:=η g2;have Hat7:=η at2;clear hC7 own2 g2 at2)
      go_wp2_with fail
      go_roundw
      case rel =>
       refine ⟨k1,acc++[f],_,by have:=Hlt.out;have:=Hk1.out;omega,rfl,HC7.out.2,HE7.out.other (by have:=HgB.out;omega) 2 _,?_,by rw [List.take_append_of_le_length Hla.out];exact Hta.out,by have:=Hla.out;rw [List.length_append];omega,by have:=Hlk.out;have:=Hk1.out;rw [List.length_append,List.length_singleton];omega,by rw [←Hstep.out];simp,?_⟩
       ·
        exact HF7.out.set4 (g:=B+1) (fun j hj=>by have:=hj;omega) 2 _
       ·
        rcases Hat7.out with h | h
        ·
         rw [h];exact Hne.out
        ·
         rw [h];intro e;have:=HE5.out.lt;have:=Option.some.inj e;omega
      case measure=>have:=Hlt.out;have:=Hk1.out;simp [intOf];omega
     ·
      go_wp2_with fail
      go_roundw
      case rel=>exact ⟨k1,acc,_,by have:=Hlt.out;have:=Hk1.out;omega,rfl,HW5.out,HE5.out,HF5.out,Hta.out,Hla.out,by have:=Hlk.out;have:=Hk1.out;omega,by rw [←Hstep.out];simp,Hne.out⟩
      case measure=>have:=Hlt.out;have:=Hk1.out;simp [intOf];omega
    ·
     have hlt':¬(k:Int)<(x.fields.length:Int):=by omega
     have hnx:nx=x.fields.length:=by obtain ⟨_,_,hv,_⟩:=HF.out;simp only [Value.slice.injEq] at hv;exact hv.2.1
     subst hnx
     have hfin:acc=Lb.addF fs fs x.fields:=by
      have:=HP.out
      rw [List.drop_of_length_le (by omega),Lb.addF] at this
      exact this
     have hal2:acc.length≤fs.length+1000:=by have:=Hlk.out;have:=Hok.out.2;omega
     obtain ⟨gt,gb,hget⟩:∃gt gb,Ent.get x.fields Lb.crossW=(gt,gb):=⟨_,_,rfl⟩
     have hRn:=HRn.out
     rw [Lb.wholeN,Hfx.out] at hRn
     dsimp only at hRn
     rw [hget,←hfin] at hRn
     dsimp only at hRn
     have Hget:=η hget;have HRn2:=η hRn;have Hal2:=η hal2
     have c0:=HE.out.c0;have c1:=HE.out.c1;have c2:=HE.out.c2
     clear hget hRn hfin hal2 hlt hk
     obtain ⟨pF,cF,hvF,hcF⟩:=HW.out.shape
     subst hvF
     cases gb
     ·
      have hR3:R=(some acc,0):=by have:=HRn2.out;simpa using this
      have HR3:=η hR3
      clear hR3
      go_upto_region 21 with (go_at_call 127; refine (entry_get x.fields _ _ _ Lb.crossW _ _ HF.out).mono ?_;rw [Hget.out];rintro e w8 ⟨rfl,hb8⟩;have HW8:=η (HW.out.below hb8);clear hb8)
      clear c0 c1 c2
      have q0:=HW8.out.o.c0;have q1:=HW8.out.o.c1;have q2:=HW8.out.o.c2;have d0:=HW8.out.z.c0;have d1:=HW8.out.z.c1;have d2:=HW8.out.z.c2;have f0:=HW8.out.z.f 0;have f1:=HW8.out.z.f 1;have f2:=HW8.out.z.f 2
      go_wp2_with fail
      have hZ:=HW8.out.z.all (.string ⟨x.kind.toArray⟩) (.string ⟨x.key.toArray⟩) (.slice pF acc.length cF)
      try simp only [Exit.jump]
      refine ret_cs rfl rfl rfl (load_ent _ _ _ _ _ hZ.c0 hZ.c1 hZ.c2) rfl (HPost.out _ _ _ (.ok acc _ HR3.out ?_ (below3 HW8.out.b (Nat.le_refl _) _ _ _)))
      exact HW8.out.fields3
     ·
      obtain ⟨sn,hsn⟩:∃sn,(seen++[key0]).contains gt=sn:=⟨_,rfl⟩
      have hR4:=HRn2.out
      rw [hsn] at hR4
      have Hsn:=η hsn;have HR4:=η hR4
      have hgl:gt.length≤1000:=by have:=Lb.get_len 1000 x.fields Lb.crossW Hok.out.1.text;rw [Hget.out] at this;exact this
      have hgm:gt.length≤maxLen:=by unfold maxLen;omega
      have Hgm:=η hgm;have Hgl:=η hgl
      clear hsn hR4 hgl hgm
      cases sn
      ·
       have hc0:¬(0:Int)<seenN (seen++[key0]) gt:=by
        unfold seenN
        have:(seen++[key0]).count gt=0:=List.count_eq_zero.2 (fun h=>by have:=List.contains_iff_mem.2 h;rw [Hsn.out] at this;cases this)
        omega
       go_wp2_with (first
        | (go_at_call 127; refine (entry_get x.fields _ _ _ Lb.crossW _ _ HF.out).mono ?_;rw [Hget.out];rintro e w8 ⟨rfl,hb8⟩;have HW8:=η (HW.out.below hb8);clear hb8)
        | (at_lookup;go_loud (refine wpList_imap_look rfl (.tmp 76) (.tmp 77) rfl (B+2) (seen++[key0]).length (seenN (seen++[key0])) rfl HW8.out.m gt rfl Hgm.out ?_)))
       go_step3
       have HND:(seen++[key0]).Nodup:=by rw [List.nodup_append];exact ⟨Hnd.out,by simp,fun a ha b hb=>by simp at hb;subst hb;exact fun e=>Hks.out (e ▸ ha)⟩
       have HSS:∀k ∈ seen++[key0],(Lb.findE l k).isSome=true:=fun k hk=>by
        rcases List.mem_append.1 hk with h | h
        ·
         exact Hss.out k h
        ·
         simp at h;subst h;rw [Hfx.out];rfl
       exact ⟨rfl,n,⟨gt,seen++[key0],acc,_,_,_,_,_,_,_,_,_,_,_,_,_,_,_,_,_,_,_,_,_,_,_,_,_,_,_,_,_,_,_,_,_,_,_,_,_,_,_,_,_,_,_,_,_,_,_,_,_,_,_,_,_,_,_,_,_,_,_,_,_,_,_,_,_,_,_,_,_,_,_,_,_,_,rfl,by have:=Hn.out;rw [List.length_append,List.length_singleton];omega,HND,HSS,(fun h=>by have:=List.contains_iff_mem.2 h;rw [Hsn.out] at this;cases this),Hgm.out,by have:=HR4.out;simpa using this,by rw [List.length_append,List.length_singleton];have:=Hal2.out;have:=Hfsl.out;omega,HW8.out⟩⟩
      ·
       have hc0:(0:Int)<seenN (seen++[key0]) gt:=by
        unfold seenN
        have:0<(seen++[key0]).count gt:=List.count_pos_iff.2 (List.contains_iff_mem.1 Hsn.out)
        omega
       have hR3:R=(none,15):=by have:=HR4.out;simpa using this
       have HR3:=η hR3
       clear hR3
       go_upto_region 23 with (first
        | (go_at_call 127; refine (entry_get x.fields _ _ _ Lb.crossW _ _ HF.out).mono ?_;rw [Hget.out];rintro e w8 ⟨rfl,hb8⟩;have HW8:=η (HW.out.below hb8);clear hb8)
        | (at_lookup;go_loud (refine wpList_imap_look rfl (.tmp 76) (.tmp 77) rfl (B+2) (seen++[key0]).length (seenN (seen++[key0])) rfl HW8.out.m gt rfl Hgm.out ?_)))
       clear c0 c1 c2
       have d0:=HW8.out.z.c0;have d1:=HW8.out.z.c1;have d2:=HW8.out.z.c2;have f0:=HW8.out.z.f 0;have f1:=HW8.out.z.f 1;have f2:=HW8.out.z.f 2
       go_wp2_with fail
       have hZ:=HW8.out.z.all (.string ⟨#[]⟩) (.string ⟨#[]⟩) (.slice none 0 0)
       try simp only [Exit.jump]
       exact ret_cs rfl rfl rfl (load_ent _ _ _ _ _ hZ.c0 hZ.c1 hZ.c2) rfl (HPost.out _ _ _ (.no 15 HR3.out (below3 HW8.out.b (Nat.le_refl _) _ _ _)))
  ·
   rintro a' W' ⟨n0,hn0⟩
   obtain ⟨mu,hmu⟩:∃mu,μ a' W'=mu:=⟨_,rfl⟩
   have hJ:=(hμ _ _ _ hn0).2
   rw [hmu] at hJ ⊢
   clear hn0
   obtain ⟨key,seen,fs,vF0,u9,u10,u11,u12,u13,u14,u15,u16,u17,u18,u19,u20,u21,u22,u23,u24,u25,u26,u27,u28,u29,u30,u31,u32,u33,u34,u35,u36,u37,u38,u39,u40,u41,u42,u43,u44,u45,u46,u47,u48,u49,u50,u51,u52,u53,u54,u55,u56,u57,u58,u59,u60,u61,u62,u63,u64,u65,u66,u67,u68,u69,u70,u71,u72,u73,u74,u75,u76,u77,u78,u79,u80,u81,rfl,hn,hnd,hss,hks,hkl,hRn,hfsl,hW⟩:=hJ
   obtain ⟨pv0,cv0,hv0,_⟩:=hW.shape
   subst hv0
   have hsl:=seen_ents seen l hnd hss
   obtain ⟨n,rfl⟩:∃n,mu=n+1:=⟨mu - 1,by omega⟩
   have HnMu:=η (Nat.lt_succ_self n)
   have HRn:=η hRn;have Hn:=η hn;have Hsl:=η (Nat.le_trans hsl Hl.out);have Hfsl:=η hfsl;have Hnd:=η hnd;have Hss:=η hss;have Hks:=η hks;have Hkl:=η hkl;have HWj:=η hW
   clear hmu hRn hn hsl hfsl hnd hss hks hkl hW HW0 hxm
   cases hf:Lb.findE l key with
   | none =>
    have Hfx:=η hf
    have HR3:=η (show R=(none,14) by rw [HRn.out,Lb.wholeN,hf])
    clear hf
    go_upto_region 6 with (go_at_call 128; refine (lb_find l v key _ _ (HE.out _ HWj.out.b)).mono ?_;rw [Hfx.out];simp only [Option.getD_none,Option.isSome_none,entV,entZ];rintro e w1 ⟨⟨vf,rfl,hF⟩,hb1⟩;obtain ⟨px,nx,cx,hvf⟩:=SliceIn.shape hF;subst hvf;have HW1:=η (HWj.out.below hb1);have HFx:=η hF;clear hF hb1)
    obtain ⟨w2,hw2⟩:∃W,W=w1.alloc (.cells #[.string ⟨#[]⟩,.string ⟨#[]⟩,.slice px nx cx] 60):=⟨_,rfl⟩
    rw [←hw2]
    have HW2:=η (HW1.out.below (show Below w1.heap.size w1 w2 by rw [hw2];exact below_new _ _))
    clear hw2 HW1
    have d0:=HW2.out.z.c0;have d1:=HW2.out.z.c1;have d2:=HW2.out.z.c2;have f0:=HW2.out.z.f 0;have f1:=HW2.out.z.f 1;have f2:=HW2.out.z.f 2
    go_wp2_with fail
    have hZ:=HW2.out.z.all (.string ⟨#[]⟩) (.string ⟨#[]⟩) (.slice none 0 0)
    try simp only [Exit.jump]
    try simp only [Exit.noGoto_ret]
    exact ret_cs rfl rfl rfl (load_ent _ _ _ _ _ hZ.c0 hZ.c1 hZ.c2) rfl (HPost.out _ _ _ (.no 14 HR3.out (below3 HW2.out.b (Nat.le_refl _) _ _ _)))
   | some y =>
    have Hfx:=η hf
    have Hok:=η (Hok0.out y (List.mem_of_find?_eq_some hf))
    clear hf
    go_upto_region 7 with (go_at_call 128; refine (lb_find l v key _ _ (HE.out _ HWj.out.b)).mono ?_;rw [Hfx.out];simp only [Option.getD_some,Option.isSome_some,entV];rintro e w1 ⟨⟨vf,rfl,hF⟩,hb1⟩;obtain ⟨px,nx,cx,hvf⟩:=SliceIn.shape hF;subst hvf;have HW1:=η (HWj.out.below hb1);have HFx:=η hF;clear hF hb1)
    obtain ⟨w2,hw2⟩:∃W,W=w1.alloc (.cells #[.string ⟨y.kind.toArray⟩,.string ⟨y.key.toArray⟩,.slice px nx cx] 60):=⟨_,rfl⟩
    obtain ⟨gx,hgx⟩:∃g,w1.heap.size=g:=⟨_,rfl⟩
    rw [←hw2]
    try rw [hgx]
    have hb2:Below w1.heap.size w1 w2:=by rw [hw2];exact below_new _ _
    have hEx:E3 w2 gx (.string ⟨y.kind.toArray⟩) (.string ⟨y.key.toArray⟩) (.slice px nx cx):=by rw [hw2,←hgx];exact E3.new _ _ _ _ _
    have HW2:=η (HW1.out.below hb2);have HFx2:=η (SliceIn.below' HFx.out hb2)
    have HgB:=η (show B+3≤gx by rw [←hgx];exact HW1.out.sz)
    have Hne0:=η (show Value.ownBlock (.slice pv0 fs.length cv0)≠some gx by rw [←hgx];exact HW1.out.old)
    have HEx:=η hEx
    clear hb2 hEx hw2 hgx HW1 HFx
    have HW3:=HW2;have HEx3:=HEx;have HFx3:=HFx2
    clear HW2 HEx HFx2
    go_upto_region 10 with fail
    generalize w2=w3 at *
    have hcb:-9223372036854775808≤seenN seen key+1∧seenN seen key+1≤9223372036854775807:=by unfold seenN;have:=List.count_le_length (a:=key) (l:=seen);have:=Hsl.out;omega
    have hwc:IntKind.i64.wrap (seenN seen key+1)=seenN seen key+1:=IntWalk.i64_in _ hcb
    have hsm:seen.length<maxLen:=by have:=Hsl.out;unfold maxLen;omega
    have Hcb:=η hcb;have Hsm:=η hsm
    clear hcb hsm
    go_upto_region 11 with (first
     | (at_lookup;go_loud (refine wpList_imap_look rfl (.tmp 34) (.tmp 35) rfl (B+2) seen.length (seenN seen) rfl HW3.out.m key rfl Hkl.out ?_))
     | (at_mapUpdate;go_loud (refine wpList_imap_store rfl (.tmp 34) (.tmp 35) (.tmp 37) rfl (B+2) seen.length (seenN seen) rfl HW3.out.m key rfl Hkl.out Hsm.out (seenN seen key+1) rfl Hcb.out ?_);intro w6 hm6 hg6;have Hm6:=η hm6;have Hg6:=η hg6;clear hm6 hg6))
    clear hwc
    have HW6:=η (HW3.out.mapped key Hm6.out Hg6.out)
    have HEx6:=η (HEx3.out.turn Hg6.out (show gx≠B+2 by have:=HgB.out;omega));have HFx6:=η (Turn.slice HFx3.out Hg6.out (fun j hj=>by have:=hj;omega))
    clear HW3 HEx3 HFx3 Hm6 Hg6
    have c0:=HEx6.out.c2
    have q0:=HW6.out.o.c2
    go_wp2_with fail
    clear c0 q0
    have Hgx6:=η HEx6.out.lt
    go_loopw [44] (fun iv wr=>∃(k:Nat) (acc:List Ent.Fld) (vF:Value),k≤y.fields.length∧iv = .int .i64 (k:Int)∧Wst B w x.kind x.key (seen++[key]) acc vF wr∧E3 wr gx (.string ⟨y.kind.toArray⟩) (.string ⟨y.key.toArray⟩) (.slice px nx cx)∧SliceIn (fun j=>j<B) 2 RFld wr (.slice px nx cx) y.fields∧acc.take fs.length=fs∧fs.length≤acc.length∧acc.length≤fs.length+k∧Lb.addF fs acc (y.fields.drop k)=Lb.addF fs fs y.fields∧vF.ownBlock≠some gx) (fun iv _=>y.fields.length - (intOf iv).toNat)
    case atStart=>exact ⟨0,fs,_,Nat.zero_le _,rfl,HW6.out,HEx6.out,HFx6.out,List.take_length,Nat.le_refl _,Nat.le_refl _,rfl,Hne0.out⟩
    case round =>
     clear HW6 HEx6 HFx6
     obtain ⟨k,acc,vF,hk,rfl,hW,hE,hF,hta,hla,hlk,hP,hne⟩:=hrel
     have HW:=η hW;have HE:=η hE;have HF:=η hF;have Hta:=η hta;have Hla:=η hla;have Hlk:=η hlk;have HP:=η hP;have Hne:=η hne
     clear hW hE hF hta hla hlk hP hne
     by_cases hlt:k<y.fields.length
     ·
      obtain ⟨f,hf⟩:∃f,y.fields[k]? = some f:=⟨_,List.getElem?_eq_getElem hlt⟩
      obtain ⟨b,off,hq,e0,e1⟩:∃b off,px=some ⟨b,off,none⟩∧wr.cell? ⟨b,off+k*2,none⟩=some (.string ⟨f.name.toArray⟩)∧wr.cell? ⟨b,off+k*2+1,none⟩=some (.string ⟨f.text.toArray⟩):=by
       obtain ⟨pa,ca,hv,_,_,hat⟩:=HF.out
       obtain ⟨b,off,vs,rfl,_,_,hR,hc⟩:=hat k f hf
       have hR:vs=_:=hR
       subst hR
       simp only [Value.slice.injEq] at hv
       exact ⟨b,off,hv.1,hc 0 _ rfl,hc 1 _ rfl⟩
      have hnx:nx=y.fields.length:=by obtain ⟨_,_,hv,_⟩:=HF.out;simp only [Value.slice.injEq] at hv;exact hv.2.1
      subst hq;subst hnx
      have hlt':(k:Int)<(y.fields.length:Int):=by omega
      have hxm:=(Hok.out).2
      obtain ⟨k1,hk1⟩:∃k1,k1=k+1:=⟨_,rfl⟩
      have hwk:IntKind.i64.wrap ((k:Int)+1)=(k1:Int):=by rw [IntWalk.i64_in _ (by omega)];omega
      have hdr:y.fields.drop k=f::y.fields.drop k1:=by
       obtain ⟨h1,h2⟩:=List.getElem?_eq_some_iff.1 hf
       rw [List.drop_eq_getElem_cons h1,h2,hk1]
      have hstep:=HP.out
      rw [hdr,Lb.addF] at hstep
      obtain ⟨gt,gb,hget⟩:∃gt gb,Ent.get fs f.name=(gt,gb):=⟨_,_,rfl⟩
      rw [hget] at hstep
      have Hget:=η hget;have Hstep:=η hstep;have Hk1:=η hk1;have Hlt:=η hlt;have Hxm:=η hxm
      clear hget hstep hk1 hlt hdr hf hk hxm
      go_upto_region 15 with fail
      obtain ⟨w4,hw4⟩:∃W,W=wr.alloc (.cells #[.string ⟨f.name.toArray⟩,.string ⟨f.text.toArray⟩] 218):=⟨_,rfl⟩
      obtain ⟨gf,hgf⟩:∃g,wr.heap.size=g:=⟨_,rfl⟩
      rw [←hw4]
      try rw [hgf]
      have hb4:Below wr.heap.size wr w4:=by rw [hw4];exact below_new _ _
      have hc4:w4.cell? ⟨gf,0,none⟩=some (.string ⟨f.name.toArray⟩)∧w4.cell? ⟨gf,1,none⟩=some (.string ⟨f.text.toArray⟩):=by
       rw [hw4,←hgf]
       exact ⟨by rw [cell_of_row _ _ _ _ _ _ (heap_alloc_new wr _)];rfl,by rw [cell_of_row _ _ _ _ _ _ (heap_alloc_new wr _)];rfl⟩
      have hgl4:gf<w4.heap.size:=by rw [hw4,←hgf];exact lt_alloc _ _
      have HW4:=η (HW.out.below hb4);have HE4:=η (HE.out.below' hb4);have HF4:=η (SliceIn.below' HF.out hb4);have HC4:=η hc4;have HG4:=η hgl4
      have HgfB:=η (show B+3≤gf by rw [←hgf];exact HW.out.sz)
      clear hb4 hc4 hgl4 hw4 hgf e0 e1 HW HE HF
      refine wp_region_any (by kernel_rfl) ?_
      change wpAny _ _ _ _ _ _ _ (World.drew _)
      obtain ⟨pF,cF,hvF,hcF⟩:=HW4.out.shape
      subst hvF
      have HWd:=η (HW4.out.below (Below.refl _ _).drew);have HEd:=η (HE4.out.drew);have HFd:=η (SliceIn.below' HF4.out (Below.refl _ _).drew)
      have HCd:=η (show w4.drew.cell? ⟨gf,0,none⟩=some (.string ⟨f.name.toArray⟩)∧w4.drew.cell? ⟨gf,1,none⟩=some (.string ⟨f.text.toArray⟩) from HC4.out)
      have HGd:=η (show gf<w4.drew.heap.size from HG4.out)
      clear HW4 HE4 HF4 HC4 HG4
      generalize w4.drew=wd at *
      have HO1d:=η HWd.out.o
      have HPre:=η (show SliceIn (fun _=>True) 2 RFld wd (.slice pF fs.length cF) fs from by
       have h:=(HWd.out.r.slice RFld.size (fun _=>True) (fun _ _=>trivial)).pre fs.length Hla.out
       rwa [Hta.out] at h)
      have hfc:(fs.length:Int)≤(cF:Int):=by have:=Hla.out;omega
      have hS0:=Below.refl wd.heap.size wd
      refine wpAny_of_held (S:=fun W=>Below wd.heap.size wd W) _ _ _ _ ?_
      refine tk 0 (.pointer (some ⟨B+1,2,none⟩)) rfl (hy:=fun W hW=>by go_simp) (h:=?_)
      refine tk 1 (.slice pF acc.length cF) rfl (hy:=fun W hW=>by (have q:=HO1d.out.below' hW;have c0:=q.c2;go_simp)) (h:=?_)
      refine tk 2 (.int .i64 (fs.length:Int)) rfl (h:=?_)
      refine tk 3 (.slice pF fs.length cF) rfl (hy:=fun W hW=>by go_simp) (h:=?_)
      refine tk 4 (.agg #[.string ⟨#[]⟩,.string ⟨#[]⟩,.slice pF fs.length cF]) rfl (hy:=fun W hW=>by go_simp) (h:=?_)
      refine tk 5 (.pointer (some ⟨gf,0,none⟩)) rfl (hy:=fun W hW=>by go_simp) (h:=?_)
      refine tk 6 (.string ⟨f.name.toArray⟩) rfl (hy:=fun W hW=>by (have c:=Below.cell hW (p:=⟨gf,0,none⟩) HGd.out;have c1:=Below.cell hW (p:=⟨gf,1,none⟩) HGd.out;rw [HCd.out.1] at c;rw [HCd.out.2] at c1;go_simp)) (h:=?_)
      try simp only [Act.put,π1,π2,π3,π4,π5,π6]
      refine tr 7 rfl (h:=fun K hK=>?_)
      go_simp
      go_wp2_with (go_at_call 127; refine (entry_get fs _ _ _ f.name _ _ HPre.out).mono ?_;rw [Hget.out];rintro e w5 ⟨rfl,hb5⟩;have Hb5:=η hb5;clear hb5)
      refine hK.out _ _ (Hb5.out) (fun _=>?_)
      clear K hK
      refine tk 8 (.tuple #[.string ⟨gt.toArray⟩,.bool gb]) rfl (h:=?_)
      refine tk 9 (.string ⟨gt.toArray⟩) rfl (hy:=fun W hW=>by go_simp) (h:=?_)
      refine tk 10 (.bool gb) rfl (hy:=fun W hW=>by go_simp) (h:=?_)
      refine tk 11 (.string ⟨gt.toArray⟩) rfl (h:=?_)
      refine tk 12 (.bool gb) rfl (h:=?_)
      try simp only [Act.put,π1,π2,π3,π4,π5,π6]
      refine wpAnyH_done (by kernel_rfl) ?_ _
      have HW5:=η (HWd.out.below Hb5.out);have HE5:=η (HEd.out.below' Hb5.out);have HF5:=η (SliceIn.below' HFd.out Hb5.out)
      have z0:=(Hb5.out.cell (p:=⟨gf,0,none⟩) HGd.out).trans HCd.out.1;have z1:=(Hb5.out.cell (p:=⟨gf,1,none⟩) HGd.out).trans HCd.out.2
      clear HWd HEd HFd HO1d HPre HCd hfc hS0
      cases gb
      ·
       obtain ⟨fl,hown,hrep⟩:=HW5.out.r
       have c2:=HW5.out.o.c2
       have Hown:=η hown;have Hrep:=η hrep
       have hal:acc.length≤2000000000:=by have:=Hlk.out;have:=Hfsl.out;have:=Hlt.out;have:=Hxm.out;have:=Hsl.out;omega
       have Hal:=η hal
       have Hsz5:=η HW5.out.sz
       clear hown hrep hal
       go_upto_region 18 with (at_builtin;go_loud (refine wpList_append1 rfl (.tmp 62) (.tmp 64) 58 rfl (B+3) 218 i0 (.agg #[.string ⟨#[]⟩,.string ⟨#[]⟩]) 2 32 Tryz.underlying58 Hi.out Hz0.out Hz1.out Hz2.out (by rfl) (by decide) _ _ _ Hown.out rfl [.string ⟨f.name.toArray⟩,.string ⟨f.text.toArray⟩] rfl (by simp) rfl (by simp [Value.oneCell']) (by have:=Hal.out;unfold maxLen;omega) (by have:=Hal.out;omega) Hsz5.out ?_);intro v2 w7 own2 g2 at2;(have hC7:=HW5.out.app (f:=f) Hrep.out Hown.out own2 g2);(obtain ⟨p2,c2',hv2,_⟩:=hC7.2.shape);rw [List.length_append,List.length_singleton] at hv2;subst hv2;(have r2:=hC7.1.f 2);(have y2:=hC7.1.c2);have HC7:=η hC7;(have HE7:=η (HE5.out.block (g2.block gx HE5.out.lt (Ne.symm Hne.out)) g2.size));(have HF7:=η (HF5.out.kept (S':=fun j=>j<B) (fun _ h=>h) g2.size (fun j hj hlt=>g2.block j hlt (fun e=>by have:=(Hown.out.lt j e.symm).1;have:=hj;omega)) (fun _ _ _ h=>h)));have Hg7:=η g2;have Hat7:=η at2;clear hC7 own2 g2 at2)
       go_wp2_with fail
       go_roundw
       case rel =>
        refine ⟨k1,acc++[f],_,by have:=Hlt.out;have:=Hk1.out;omega,rfl,HC7.out.2,HE7.out.other (by have:=HgB.out;omega) 2 _,?_,by rw [List.take_append_of_le_length Hla.out];exact Hta.out,by have:=Hla.out;rw [List.length_append];omega,by have:=Hlk.out;have:=Hk1.out;rw [List.length_append,List.length_singleton];omega,by rw [←Hstep.out];simp,?_⟩
        ·
         exact HF7.out.set4 (g:=B+1) (fun j hj=>by have:=hj;omega) 2 _
        ·
         rcases Hat7.out with h | h
         ·
          rw [h];exact Hne.out
         ·
          rw [h];intro e;have:=HE5.out.lt;have:=Option.some.inj e;omega
       case measure=>have:=Hlt.out;have:=Hk1.out;simp [intOf];omega
      ·
       go_wp2_with fail
       go_roundw
       case rel=>exact ⟨k1,acc,_,by have:=Hlt.out;have:=Hk1.out;omega,rfl,HW5.out,HE5.out,HF5.out,Hta.out,Hla.out,by have:=Hlk.out;have:=Hk1.out;omega,by rw [←Hstep.out];simp,Hne.out⟩
       case measure=>have:=Hlt.out;have:=Hk1.out;simp [intOf];omega
     ·
      have hlt':¬(k:Int)<(y.fields.length:Int):=by omega
      have hnx:nx=y.fields.length:=by obtain ⟨_,_,hv,_⟩:=HF.out;simp only [Value.slice.injEq] at hv;exact hv.2.1
      subst hnx
      have hfin:acc=Lb.addF fs fs y.fields:=by
       have:=HP.out
       rw [List.drop_of_length_le (by omega),Lb.addF] at this
       exact this
      have hal2:acc.length≤fs.length+1000:=by have:=Hlk.out;have:=Hok.out.2;omega
      obtain ⟨gt,gb,hget⟩:∃gt gb,Ent.get y.fields Lb.crossW=(gt,gb):=⟨_,_,rfl⟩
      have hRn:=HRn.out
      rw [Lb.wholeN,Hfx.out] at hRn
      dsimp only at hRn
      rw [hget,←hfin] at hRn
      dsimp only at hRn
      have Hget:=η hget;have HRn2:=η hRn;have Hal2:=η hal2
      have c0:=HE.out.c0;have c1:=HE.out.c1;have c2:=HE.out.c2
      clear hget hRn hfin hal2 hlt hk
      obtain ⟨pF,cF,hvF,hcF⟩:=HW.out.shape
      subst hvF
      cases gb
      ·
       have hR3:R=(some acc,0):=by have:=HRn2.out;simpa using this
       have HR3:=η hR3
       clear hR3
       go_upto_region 21 with (go_at_call 127; refine (entry_get y.fields _ _ _ Lb.crossW _ _ HF.out).mono ?_;rw [Hget.out];rintro e w8 ⟨rfl,hb8⟩;have HW8:=η (HW.out.below hb8);clear hb8)
       clear c0 c1 c2
       have q0:=HW8.out.o.c0;have q1:=HW8.out.o.c1;have q2:=HW8.out.o.c2;have d0:=HW8.out.z.c0;have d1:=HW8.out.z.c1;have d2:=HW8.out.z.c2;have f0:=HW8.out.z.f 0;have f1:=HW8.out.z.f 1;have f2:=HW8.out.z.f 2
       go_wp2_with fail
       have hZ:=HW8.out.z.all (.string ⟨x.kind.toArray⟩) (.string ⟨x.key.toArray⟩) (.slice pF acc.length cF)
       try simp only [Exit.jump]
       refine ret_cs rfl rfl rfl (load_ent _ _ _ _ _ hZ.c0 hZ.c1 hZ.c2) rfl (HPost.out _ _ _ (.ok acc _ HR3.out ?_ (below3 HW8.out.b (Nat.le_refl _) _ _ _)))
       exact HW8.out.fields3
      ·
       obtain ⟨sn,hsn⟩:∃sn,(seen++[key]).contains gt=sn:=⟨_,rfl⟩
       have hR4:=HRn2.out
       rw [hsn] at hR4
       have Hsn:=η hsn;have HR4:=η hR4
       have hgl:gt.length≤1000:=by have:=Lb.get_len 1000 y.fields Lb.crossW Hok.out.1.text;rw [Hget.out] at this;exact this
       have hgm:gt.length≤maxLen:=by unfold maxLen;omega
       have Hgm:=η hgm;have Hgl:=η hgl
       clear hsn hR4 hgl hgm
       cases sn
       ·
        have hc0:¬(0:Int)<seenN (seen++[key]) gt:=by
         unfold seenN
         have:(seen++[key]).count gt=0:=List.count_eq_zero.2 (fun h=>by have:=List.contains_iff_mem.2 h;rw [Hsn.out] at this;cases this)
         omega
        go_wp2_with (first
         | (go_at_call 127; refine (entry_get y.fields _ _ _ Lb.crossW _ _ HF.out).mono ?_;rw [Hget.out];rintro e w8 ⟨rfl,hb8⟩;have HW8:=η (HW.out.below hb8);clear hb8)
         | (at_lookup;go_loud (refine wpList_imap_look rfl (.tmp 76) (.tmp 77) rfl (B+2) (seen++[key]).length (seenN (seen++[key])) rfl HW8.out.m gt rfl Hgm.out ?_)))
        go_step3
        have HND:(seen++[key]).Nodup:=by rw [List.nodup_append];exact ⟨Hnd.out,by simp,fun a ha b hb=>by simp at hb;subst hb;exact fun e=>Hks.out (e ▸ ha)⟩
        have HSS:∀k ∈ seen++[key],(Lb.findE l k).isSome=true:=fun k hk=>by
         rcases List.mem_append.1 hk with h | h
         ·
          exact Hss.out k h
         ·
          simp at h;subst h;rw [Hfx.out];rfl
        have hm:∀a W,Wjmp B w v l x R n a W→((0:Nat)=0∧(∃n,Wjmp B w v l x R n a W)∧μ a W<n+1):=fun a W hj=>⟨rfl,⟨n,hj⟩,Nat.lt_of_le_of_lt (hμ _ _ _ hj).1 HnMu.out⟩
        refine hm _ _ ?_
        exact ⟨gt,seen++[key],acc,_,_,_,_,_,_,_,_,_,_,_,_,_,_,_,_,_,_,_,_,_,_,_,_,_,_,_,_,_,_,_,_,_,_,_,_,_,_,_,_,_,_,_,_,_,_,_,_,_,_,_,_,_,_,_,_,_,_,_,_,_,_,_,_,_,_,_,_,_,_,_,_,_,_,rfl,by have:=Hn.out;rw [List.length_append,List.length_singleton];omega,HND,HSS,(fun h=>by have:=List.contains_iff_mem.2 h;rw [Hsn.out] at this;cases this),Hgm.out,by have:=HR4.out;simpa using this,by rw [List.length_append,List.length_singleton];have:=Hal2.out;have:=Hfsl.out;omega,HW8.out⟩
       ·
        have hc0:(0:Int)<seenN (seen++[key]) gt:=by
         unfold seenN
         have:0<(seen++[key]).count gt:=List.count_pos_iff.2 (List.contains_iff_mem.1 Hsn.out)
         omega
        have hR3:R=(none,15):=by have:=HR4.out;simpa using this
        have HR3:=η hR3
        clear hR3
        go_upto_region 23 with (first
         | (go_at_call 127; refine (entry_get y.fields _ _ _ Lb.crossW _ _ HF.out).mono ?_;rw [Hget.out];rintro e w8 ⟨rfl,hb8⟩;have HW8:=η (HW.out.below hb8);clear hb8)
         | (at_lookup;go_loud (refine wpList_imap_look rfl (.tmp 76) (.tmp 77) rfl (B+2) (seen++[key]).length (seenN (seen++[key])) rfl HW8.out.m gt rfl Hgm.out ?_)))
        clear c0 c1 c2
        have d0:=HW8.out.z.c0;have d1:=HW8.out.z.c1;have d2:=HW8.out.z.c2;have f0:=HW8.out.z.f 0;have f1:=HW8.out.z.f 1;have f2:=HW8.out.z.f 2
        go_wp2_with fail
        have hZ:=HW8.out.z.all (.string ⟨#[]⟩) (.string ⟨#[]⟩) (.slice none 0 0)
        try simp only [Exit.jump]
        exact ret_cs rfl rfl rfl (load_ent _ _ _ _ _ hZ.c0 hZ.c1 hZ.c2) rfl (HPost.out _ _ _ (.no 15 HR3.out (below3 HW8.out.b (Nat.le_refl _) _ _ _)))
end Go.Proofs.YtgnfmopcialllaaGreatDoor
