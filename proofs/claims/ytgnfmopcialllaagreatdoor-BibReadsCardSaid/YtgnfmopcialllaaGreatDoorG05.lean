/- The walk of package entry's Parse: what stands in memory. The walk of package entry's Parse. The plain model of what entries may be shown, and how. Plain Lean, no program in sight. EntryKeys, the plain law: what is read may be shown, but for its texts. No program in sight. What the reader of a database notes: no more notes than bytes, none longer than the text. Plain Lean. Texts held against each other, and lists of texts: plain orders. No program in sight. -/
import Derived.Test.YtgnfmopcialllaaGreatDoorG04
import Derived.Test.YtgnfmopcialllaaGreatDoorTk
import Derived.Lib.Strings
import Derived.Lib.Case
import Derived.Lib.CountLaws
set_option linter.unusedSimpArgs false
set_option linter.unusedVariables false
namespace Go.Proofs.YtgnfmopcialllaaGreatDoor
open Go.RowKit
theorem SliceIn.moved {α:Type} {S S':Nat→Prop} {size:Nat} {R R':α→List Value→Prop} {w w':World} {v:Value} {xs:List α} (h:SliceIn S size R w v xs)
  (hs:∀b,S b→b<w.heap.size→S' b∧w'.heap[b]? = w.heap[b]?) (hz:w.heap.size≤w'.heap.size) (hR:∀x vs,x ∈ xs→R x vs→R' x vs):SliceIn S' size R' w' v xs:=by
 obtain ⟨p,cap,hv,h1,h2,h3⟩:=h
 refine ⟨p,cap,hv,h1,h2,fun i x hi=>?_⟩
 obtain ⟨b,off,vs,hp,hS,hlt,hr,hc⟩:=h3 i x hi
 exact ⟨b,off,vs,hp,(hs b hS hlt).1,Nat.lt_of_lt_of_le hlt hz,hR x vs (List.mem_of_getElem? hi) hr,fun j u hj=>(World.cell?_of_block (hs b hS hlt).2).trans (hc j u hj)⟩
theorem REnt.moved {S S':Nat→Prop} {w w':World} {x:Ent.Ent} {vs:List Value} (h:REnt S w x vs) (hs:∀b,S b→b<w.heap.size→S' b∧w'.heap[b]? = w.heap[b]?) (hz:w.heap.size≤w'.heap.size):REnt S' w' x vs:=by
 obtain ⟨vf,rfl,h⟩:=h
 exact ⟨vf,rfl,h.moved hs hz (fun _ _ _ h=>h)⟩
set_option maxRecDepth 100000 in
theorem IMap.run {w:World} {b n:Nat} {f:List UInt8→Int} (h:IMap w b n f) (s:List UInt8) (hs:s.length≤maxLen) (c:Int) (hc:f s=c) :
  (Instr.lookup 102 (.map (some b)) (.string ⟨s.toArray⟩) false).run Tryz.prog w = .ok (.int .i64 c) w:=by
 obtain ⟨D,h1,h2⟩:=h
 obtain ⟨d,hr,hat,_⟩:=h1.lookup_int skeyed Tryz.underlying102 Tryz.underlying3 (zero_int w) (skey s hs)
 rw [h2 s] at hat
 injection hat with hat
 injection hat with _ hat
 rw [hr,←hc,hat]
def OutS (q:Nat) (v vo:Value) (j:Nat):Prop:=q<j∧v.ownBlock≠some j∧vo.ownBlock≠some j
structure PIn (s:List UInt8) (r m q b:Nat) (w:World) (σ:Ent.RS) (out:List Ent.Ent) (W:World) (v vo:Value):Prop where
 rdr:Rdr s r m b W σ v
 below:Below w.heap.size w W
 mw:w.heap.size≤m
 rq:r<q
 seen:∃(cnt:Nat) (f:List UInt8→Int),cnt+σ.rest.length+b≤s.length∧IMap W q cnt f∧∀key,(Ent.has out key=true→f key=1)∧(Ent.has out key=false→f key=0)
 rows:∃fl,W.ownsRow (q+1) 60 3 vo out.length fl∧RepRow (REnt (OutS q v vo) W) out fl
 cnt:out.length+σ.rest.length+b≤s.length
 vq:v.ownBlock≠some q
 sep:∀j,vo.ownBlock=some j→v.ownBlock≠some j
 names:Ent.NamesOk σ
section
variable {s:List UInt8} {r m q b:Nat} {w:World} {σ:Ent.RS} {out:List Ent.Ent} {W:World} {v vo:Value}
theorem PIn.next (h:PIn s r m q b w σ out W v vo) {b':Nat} {σ':Ent.RS} {W':World} {v':Value} (hR:Rdr s r m b' W' σ' v') (hS:Step r m v v' W W') (hl:σ'.rest.length+b' ≤ σ.rest.length+b) (hN:Ent.NamesOk σ') :
  PIn s r m q b' w σ' out W' v' vo:=by
 have hm:=h.rdr.lt
 have hmw:=h.mw
 have hrq:=h.rq
 obtain ⟨cnt,f,h1,h2,h3⟩:=h.seen
 obtain ⟨fl,h4,h5⟩:=h.rows
 have hq:=h2.lt
 have hcnt:=h.cnt
 have hvq:v'.ownBlock≠some q:=by
  rcases hS.own with e | ⟨g,e,hg⟩
  ·
   rw [e];exact h.vq
  ·
   rw [e];intro e2;injection e2 with e2;omega
 have hsep:∀j,vo.ownBlock=some j→v'.ownBlock≠some j:=fun j hj=>by
  rcases hS.own with e | ⟨g,e,hg⟩
  ·
   rw [e];exact h.sep j hj
  ·
   rw [e];intro e2;injection e2 with e2;have:=(h4.lt j hj).2;omega
 refine ⟨hR,?_,hmw,hrq,⟨cnt,f,by omega,h2.kept (hS.block q hq (by omega) (by omega) h.vq),h3⟩,⟨fl,own_same h4 (fun j hj=>hS.block j (h4.lt j hj).2 (by have:=(h4.lt j hj).1;omega) (by have:=(h4.lt j hj).1;omega) (h.sep j hj)),?_⟩,by omega,hvq,hsep,hN⟩
 ·
  refine ⟨hS.os.trans h.below.os,hS.tape.trans h.below.tape,hS.output.trans h.below.output,Nat.le_trans h.below.size hS.size,fun k hk=>?_⟩
  have h6:=h.below.size
  refine (hS.block k (by omega) (by omega) (by omega) (fun e=>?_)).trans (h.below.block k hk)
  obtain ⟨fl2,h7,_⟩:=h.rdr.notes
  have:=(h7.lt k e).1
  omega
 ·
  refine h5.imp (fun x vs _ hx=>hx.moved (fun j hj hlt=>⟨⟨hj.1,?_,hj.2.2⟩,hS.block j hlt (by have:=hj.1;omega) (by have:=hj.1;omega) hj.2.1⟩) hS.size)
  rcases hS.own with e | ⟨g,e,hg⟩
  ·
   rw [e];exact hj.2.1
  ·
   rw [e];intro e2;injection e2 with e2;omega
theorem PIn.moved (h:PIn s r m q b w σ out W v vo) {W':World} {l:List UInt8} (hM:Moved r W W') (hA:At s r W' l) {b':Nat} (hb:l.length+b' ≤ σ.rest.length+b):PIn s r m q b' w (σ.at l) out W' v vo :=
 h.next (h.rdr.moved hM hA hb) (hM.step m v) hb h.names
theorem PIn.belowW (h:PIn s r m q b w σ out W v vo) {W':World} (hb:Below W.heap.size W W'):PIn s r m q b w σ out W' v vo:=h.next (h.rdr.below hb) (Step.below hb r m v) (Nat.le_refl _) h.names
theorem PIn.mono (h:PIn s r m q b w σ out W v vo) {b':Nat} (hb:b' ≤ b):PIn s r m q b' w σ out W v vo:=h.next (h.rdr.mono hb) (Step.refl r m v W) (by omega) h.names
theorem PIn.kept (h:PIn s r m q (b+1) w σ out W v vo) {x:Ent.Ent} (hx:Ent.has out x.key=false) {W':World} {f:List UInt8→Int} {cnt:Nat} (hcnt:cnt+σ.rest.length+(b+1)≤s.length)
  (hm:IMap W' q (cnt+1) (fun t=>if t=x.key then 1 else f t)) (hf:∀key,(Ent.has out key=true→f key=1)∧(Ent.has out key=false→f key=0)) (hg:W.grownBy W' (some q))
  {W'':World} {vo':Value} {fl vs:List Value} (hrow:RepRow (REnt (OutS q v vo) W) out fl) (hr:REnt (OutS q v vo) W x vs) (hown:W''.ownsRow (q+1) 60 3 vo' (out.length+1) (fl++vs)) (hg2:W'.grownBy W'' vo.ownBlock)
  (hat:vo'.ownBlock=vo.ownBlock∨vo'.ownBlock=some (W'.heap.size+1)):PIn s r m q b w σ (out++[x]) W'' v vo':=by
 have hmr:=h.rdr.lt
 have hmw:=h.mw
 have hrq:=h.rq
 obtain ⟨fl2,h7,_⟩:=h.rdr.notes
 obtain ⟨fl3,h8,_⟩:=h.rows
 have hz:=hg.size
 have hr1:=h.rdr.at'.lt
 obtain ⟨_,_,_,hq1,_⟩:=h.seen
 have hql:=hq1.lt
 have hvoq:∀j,j≤q→some j≠vo.ownBlock:=fun j hj e=>by have:=(h8.lt j e.symm).1;omega
 have hall:∀j,j<W.heap.size→j≠q→vo.ownBlock≠some j→W''.heap[j]? = W.heap[j]?:=fun j hj h1 h2 =>
  (hg2.block j (by omega) (fun e=>h2 e.symm)).trans (hg.block j hj (fun e=>h1 (by injection e)))
 have hz2:=hg2.size
 refine ⟨(h.rdr.mono (Nat.le_succ b)).same (hall r hr1 (by omega) (fun e=>hvoq r (by omega) e.symm)) (hall m (by omega) (by omega) (fun e=>hvoq m (by omega) e.symm)) (fun j hj=>hall j (h7.lt j hj).2 (fun e=>h.vq (by rw [←e];exact hj)) (fun e=>h.sep j e hj)) (by omega),?_,hmw,hrq,
  ⟨cnt+1,_,by omega,hm.kept (hg2.block q (by omega) (hvoq q (Nat.le_refl _))),fun key=>?_⟩,⟨_,?_,RepRow.snoc (x:=x) (hr.moved ?_ (by omega)) (hrow.imp (fun y us _ hy=>hy.moved ?_ (by omega)))⟩,?_,h.vq,fun j hj=>?_,h.names⟩
 ·
  refine ⟨hg2.os.trans (hg.os.trans h.below.os),hg2.tape.trans (hg.tape.trans h.below.tape),hg2.output.trans (hg.output.trans h.below.output),by have:=h.below.size;omega,fun k hk=>?_⟩
  have:=h.below.size
  exact (hall k (by omega) (by omega) (fun e=>hvoq k (by omega) e.symm)).trans (h.below.block k hk)
 ·
  have hhas:Ent.has (out++[x]) key=(Ent.has out key || (x.key == key)):=by unfold Ent.has;simp
  rw [hhas]
  by_cases hk:key=x.key
  ·
   subst hk
   simp
  ·
   have hne:(x.key == key)=false:=by simp;exact fun e=>hk e.symm
   rw [hne,Bool.or_false,if_neg hk]
   exact hf key
 ·
  rw [List.length_append];exact hown
 ·
  intro j hj hlt
  refine ⟨⟨hj.1,hj.2.1,?_⟩,hall j hlt (by have:=hj.1;omega) hj.2.2⟩
  rcases hat with e | e
  ·
   rw [e];exact hj.2.2
  ·
   rw [e];intro e2;injection e2 with e2;omega
 ·
  intro j hj hlt
  refine ⟨⟨hj.1,hj.2.1,?_⟩,hall j hlt (by have:=hj.1;omega) hj.2.2⟩
  rcases hat with e | e
  ·
   rw [e];exact hj.2.2
  ·
   rw [e];intro e2;injection e2 with e2;omega
 ·
  have:=h.cnt
  rw [List.length_append]
  show out.length+1+σ.rest.length+b≤s.length
  omega
 ·
  rcases hat with e | e
  ·
   rw [e] at hj;exact h.sep j hj
  ·
   rw [e] at hj;injection hj with hj
   intro e2
   have:=(h7.lt j e2).2
   omega
end
end Go.Proofs.YtgnfmopcialllaaGreatDoor
set_option linter.unusedSimpArgs false
set_option linter.unusedVariables false
namespace Go.Proofs.YtgnfmopcialllaaGreatDoor
open Go.RowKit
theorem find_at (l:List UInt8) (c:Int) (b:UInt8) (hc:c.toNat.toUInt8=b) (w:World) (v:Int) (hv:Lib.indexByte l b=v) :
  Calls Tryz.prog 58 #[.string ⟨l.toArray⟩,.int .u8 c] w fun e w'=>e = .returned (.int .i64 v)∧w=w':=by
 refine (Tryz.strings_IndexByte _ _ _).mono (fun e w' ⟨h1,h2⟩=>⟨?_,h2.symm⟩)
 rw [h1,hc,hv]
theorem parse_start (s:List UInt8) (w:World) (t:TypeId) :
  PIn s (w.heap.size+1) w.heap.size (w.heap.size+1+1) 0 w ⟨s,[],fun _=>none,[]⟩ [] (((w.alloc (.map #[] 0)).alloc (.cells #[.string ⟨s.toArray⟩,.int .i64 0,.string ⟨#[]⟩,.map (some w.heap.size),.slice none 0 0] t)).alloc (.map #[] 0)) (.slice none 0 0) (.slice none 0 0):=by
 obtain ⟨W1,h1⟩:∃W1,W1=w.alloc (.map #[] 0):=⟨_,rfl⟩
 obtain ⟨W2,h2⟩:∃W2,W2=W1.alloc (.cells #[.string ⟨s.toArray⟩,.int .i64 0,.string ⟨#[]⟩,.map (some w.heap.size),.slice none 0 0] t):=⟨_,rfl⟩
 rw [←h1,←h2]
 have s1:W1.heap.size=w.heap.size+1:=by rw [h1,size_alloc1]
 have s2:W2.heap.size=w.heap.size+1+1:=by rw [h2,size_alloc1,s1]
 have b1:Below w.heap.size w W1:=by rw [h1];exact below_new _ _
 have b2:Below W1.heap.size W1 W2:=by rw [h2];exact below_new _ _
 have b3:=below_new W2 (.map #[] 0)
 have c:∀(i:Nat) (u:Value),#[Value.string ⟨s.toArray⟩,.int .i64 0,.string ⟨#[]⟩,.map (some w.heap.size),.slice none 0 0][i]? = some u→(W2.alloc (.map #[] 0)).cell? ⟨w.heap.size+1,i,none⟩=some u:=by
  intro i u hu
  refine (b3.cell (p:=⟨w.heap.size+1,i,none⟩) (by show w.heap.size+1<_;omega)).trans ?_
  rw [h2,←s1,cell_of_row _ _ _ _ _ _ (heap_alloc_new W1 _)]
  exact hu
 have f:∀i,(W2.alloc (.map #[] 0)).frozen? ⟨w.heap.size+1,i,none⟩=false:=by
  intro i
  refine (b3.frozen (p:=⟨w.heap.size+1,i,none⟩) (by show w.heap.size+1<_;omega)).trans ?_
  rw [h2,←s1]
  exact new_frozen W1 _ _ i
 have hm:=SMap.made w
 rw [←h1] at hm
 have hi:=IMap.made W2
 rw [s2] at hi
 have hsz:(W2.alloc (.map #[] 0)).heap.size=w.heap.size+1+1+1:=by rw [size_alloc1,s2]
 refine ⟨⟨⟨c 0 _ rfl,⟨0,Nat.zero_le _,rfl,c 1 _ rfl⟩,f 1,by omega⟩,c 2 _ rfl,f 2,c 3 _ rfl,c 4 _ rfl,f 4,⟨0,by simp,?_⟩,⟨[],⟨rfl,.inl ⟨rfl,rfl⟩⟩,rfl⟩,Nat.lt_succ_self _⟩,?_,Nat.le_refl _,Nat.lt_succ_self _,⟨0,fun _=>0,by simp,hi,fun key=>⟨fun h=>by simp [Ent.has] at h,fun _=>rfl⟩⟩,⟨[],⟨rfl,.inl ⟨rfl,rfl⟩⟩,rfl⟩,by simp,by simp [Value.ownBlock],fun j h=>by simp [Value.ownBlock] at h,fun x t h=>by simp at h⟩
 ·
  exact (hm.kept (b2.block w.heap.size (by omega))).kept (b3.block w.heap.size (by omega))
 ·
  exact (b1.trans (b2.mono (by omega))).trans (b3.mono (by omega))
def ParsePost (w:World) (o:List Ent.Ent × List (Int × List UInt8)) (e:Ending) (w':World):Prop :=
 ∃vo vn,e = .returned (.tuple #[vo,vn])∧Ents (fun j=>w.heap.size≤j) w' vo o.1∧SliceIn (fun j=>w.heap.size≤j) 2 RNote w' vn o.2∧Below w.heap.size w w'
def ParseOwn (w:World) (o:List Ent.Ent × List (Int × List UInt8)) (e:Ending) (w':World):Prop :=
 ∃vo vn B,e = .returned (.tuple #[vo,vn])∧w.heap.size≤B∧(∃fl,w'.ownsRow B 60 3 vo o.1.length fl∧RepRow (REnt (fun j=>B≤j∧vo.ownBlock≠some j) w') o.1 fl)∧SliceIn (fun j=>w.heap.size≤j) 2 RNote w' vn o.2∧Below w.heap.size w w'
theorem parse_own {s:List UInt8} {r m q b:Nat} {w:World} {σ:Ent.RS} {out:List Ent.Ent} {W:World} {v vo:Value} (h:PIn s r m q b w σ out W v vo) (o:List Ent.Ent × List (Int × List UInt8)) (ho:o=(out,σ.notes)) :
  ParseOwn w o (.returned (.tuple #[vo,v])) W:=by
 subst ho
 have hm:=h.rdr.lt
 have hmw:=h.mw
 have hrq:=h.rq
 obtain ⟨fl,h1,h2⟩:=h.rows
 obtain ⟨fn,h3,h4⟩:=h.rdr.notes
 refine ⟨vo,v,q+1,rfl,by omega,⟨fl,h1,h2.imp (fun x vs _ hx=>hx.moved (fun j hj _=>⟨⟨by have:=hj.1;omega,hj.2.2⟩,rfl⟩) (Nat.le_refl _))⟩,SliceIn.own h3 h4 RNote.size rfl (fun j hj=>by have:=(h3.lt j hj).1;omega),h.below⟩
theorem err_ne (l:List UInt8):Ent.err l≠0:=by unfold Ent.err;split <;> decide
theorem ent_info:(Tryz.prog.info? 60).map (fun i=>(i.zero,i.size,i.bytes))=some (some (.agg #[.string ⟨#[]⟩,.string ⟨#[]⟩,.slice none 0 0]),3,56):=by kernel_rfl
set_option maxRecDepth 100000 in
set_option maxHeartbeats 3200000 in
theorem entry_parse_own (s:List UInt8) (w:World) (hs:s.length≤1000000000) :
  Calls Tryz.prog 35 #[.string ⟨s.toArray⟩] w fun e w'=>ParseOwn w (Ent.parse s) e w':=by
 have hsm:s.length≤maxLen:=by unfold maxLen;omega
 have hmm:=@run_makeMap Tryz.prog
 obtain ⟨o,ho⟩:∃o,Ent.parse s=o:=⟨_,rfl⟩
 rw [ho]
 unfold Ent.parse at ho
 have Ho:=η ho.symm;clear ho
 have HP:=η (parse_start s w 153)
 go_enter Tryz.func35, Tryz.ntmps35
 go_wp2_with fail
 generalize ((w.alloc (.map #[] 0)).alloc (.cells #[.string ⟨s.toArray⟩,.int .i64 0,.string ⟨#[]⟩,.map (some w.heap.size),.slice none 0 0] 153)).alloc (.map #[] 0)=W at HP ⊢
 generalize w.heap.size+1+1=q at HP ⊢
 generalize w.heap.size+1=r at HP ⊢
 generalize w.heap.size=m at HP ⊢
 clear hmm
 go_loopw [6] (fun vo wr=>∃(σ:Ent.RS) (out:List Ent.Ent) (v:Value) (n:Nat),PIn s r m q 0 w σ out wr v vo∧σ.rest.length<n∧o=((Ent.parseN n out σ).1,(Ent.parseN n out σ).2.notes)) (fun _ wr=>s.length - placeOf r wr)
 case atStart=>exact ⟨_,[],_,_,HP.out,Nat.lt_succ_self _,Ho.out⟩
 case round =>
  clear HP Ho
  obtain ⟨σ,out,v,n,hP,hn,ho⟩:=hrel
  obtain ⟨n,rfl⟩:∃k,n=k+1:=⟨n - 1,by omega⟩
  have hA:=hP.rdr.at'
  have hlen:=hA.len
  have f1:=hA.free
  obtain ⟨k,hk,hd,e1⟩:=hA.place
  have e4:=hP.rdr.ncell
  have hx1:=extract_end s k
  rw [hd] at hx1
  have g3:(k:Int)≤(s.length:Int):=by omega
  have HP:=η hP;have Hlen:=η hlen;have Hn:=η hn
  clear hP hA hlen hn
  unfold Ent.parseN at ho
  rcases index_split 64 σ.rest with ⟨h1,h2⟩ | ⟨l2,h1,h2,h3⟩
  ·
   rw [h1] at ho
   have Ho:=η ho;have H2:=η h2;clear ho h1 h2 hd
   go_wp2_with (go_at_call 58; refine (find_at _ 64 64 rfl _ _ H2.out).mono ?_;rintro e w' ⟨rfl,rfl⟩)
   go_quiet (fail)
   go_wp2_with fail
   go_ret2
   exact parse_own (HP.out.belowW (below_drewN (Below.refl _ _) _)) o Ho.out
  ·
   rw [h1] at ho
   dsimp only at ho
   obtain ⟨t,ht⟩:∃t,σ.rest.takeWhile (fun x=>!(x == 64))=t:=⟨_,rfl⟩
   rw [ht] at h2 h3
   have hlen2:k+(t.length+1)≤s.length:=by
    have h:=congrArg List.length hd
    rw [h3] at h
    simp at h;omega
   have hx3:s.drop (k+(t.length+1))=l2:=by
    rw [←List.drop_drop,hd,h3,←List.drop_drop,List.drop_left];rfl
   have hl2:l2.length+1≤σ.rest.length:=by rw [h3];simp
   have g5:IntKind.i64.wrap ((t.length:Int)+1)=(t.length:Int)+1:=IntWalk.i64_in _ (by omega)
   have g6:IntKind.i64.wrap ((k:Int)+((t.length:Int)+1))=(k:Int)+((t.length:Int)+1):=IntWalk.i64_in _ (by omega)
   have H2:=η h2;have Hx3:=η hx3;have Hd:=η hd;have Hl2a:=η hl2
   clear h1 h2 hd ht h3 hx3 hl2 e4
   go_upto_region 8 with (go_at_call 58; refine (find_at _ 64 64 rfl _ _ H2.out).mono ?_;rintro e w' ⟨rfl,rfl⟩)
   have hA2:=HP.out.rdr.at'.set (k:=k+(t.length+1)) hlen2 ((k:Int)+((t.length:Int)+1)) (by omega)
   rw [Hx3.out] at hA2
   have HP1:=η (HP.out.moved ((Moved.refl r _).set _) hA2 (b':=1) Hl2a.out)
   generalize wr.setCell ⟨r,1,none⟩ (.int .i64 ((k:Int)+((t.length:Int)+1)))=w1 at HP1 ⊢
   clear HP hA2 Hx3 Hd f1 e1 hx1 g3 g5 g6 H2 hlen2
   obtain ⟨σ2,hs2⟩:∃σ2,σ2=σ.at l2:=⟨_,rfl⟩
   rw [←hs2] at ho
   have hp2:PIn s r m q 1 w σ2 out w1 v u6:=by rw [hs2];exact HP1.out
   have hl3:σ2.rest.length<σ.rest.length:=by rw [hs2];have:=Hl2a.out;show l2.length<_;omega
   have HP2:=η hp2;have Hl3:=η hl3;clear hp2 hs2 hl3 HP1 Hl2a
   have HN3:=η (Ent.entry_names σ2 HP2.out.names)
   have Hl2:=η (Ent.entry_len σ2)
   obtain ⟨p,hp⟩:∃p,Ent.entry σ2=p:=⟨_,rfl⟩
   rw [hp] at ho HN3 Hl2
   have Hp:=η hp;clear hp
   cases hx:p.1 with
   | none =>
    rw [hx] at ho
    dsimp only at ho
    have Ho:=η ho;have Hx:=η hx;clear ho hx
    obtain ⟨ec,hec⟩:∃ec,Ent.err p.2.rest=ec:=⟨_,rfl⟩
    have hec0:ec≠0:=by rw [←hec];exact err_ne _
    have g7:(ec != 0)=true:=by simp [hec0]
    have Hec:=η hec;clear hec hec0
    go_upto_region 9 with (go_at_call 67; refine (reader_entry s r m 1 σ2 v _ hs HP2.out.names HP2.out.rdr).mono ?_;rintro e w3 hpost;unfold EntryPost at hpost;rw [Hp.out,Hx.out] at hpost;obtain ⟨vx,v3,rfl,hR,hS,hx⟩:=hpost;dsimp only at hx;subst hx;have HP3:=η (HP2.out.next hR hS (Nat.add_le_add_right Hl2.out 1) HN3.out);clear hR hS;dsimp only;rw [Hec.out])
    have HP4:=η (HP3.out.belowW (below_new w3 (.cells #[.string ⟨#[]⟩,.string ⟨#[]⟩,.slice none 0 0] 60)))
    generalize w3.alloc (.cells #[.string ⟨#[]⟩,.string ⟨#[]⟩,.slice none 0 0] 60)=w4 at HP4 ⊢
    clear HP3 HP2
    have e5:=HP4.out.rdr.kind
    go_wp2_with (go_at_call 68; refine (reader_note s r m 0 p.2 v3 _ ec p.2.kind hs HP4.out.rdr).mono ?_;rintro e w5 ⟨rfl,v5,hR5,hS5⟩;have HP5:=η (HP4.out.next (b':=0) hR5 hS5 (Nat.le_add_right _ _) HP4.out.names))
    have h2:=Hl2.out;have h3:=Hl3.out;have h4:=Hn.out
    have H2:=η h2;have H3:=η h3;have H4:=η h4;clear h2 h3 h4
    go_roundw
    case rel =>
     refine ⟨_,out,v5,n,HP5.out,?_,by rw [Hec.out] at Ho;exact Ho.out⟩
     show p.2.rest.length<n
     have:=H2.out;have:=H3.out;have:=H4.out;omega
    case measure =>
     rw [HP5.out.rdr.at'.len,Hlen.out]
     show p.2.rest.length<_
     have:=H2.out;have:=H3.out;omega
   | some ox =>
    cases ox with
    | none =>
     rw [hx] at ho
     dsimp only at ho
     have Ho:=η ho;have Hx:=η hx;clear ho hx
     go_wp2_with (go_at_call 67; refine (reader_entry s r m 1 σ2 v _ hs HP2.out.names HP2.out.rdr).mono ?_;rintro e w3 hpost;unfold EntryPost at hpost;rw [Hp.out,Hx.out] at hpost;obtain ⟨vx,v3,rfl,hR,hS,hx⟩:=hpost;dsimp only at hx;subst hx;have HP3:=η (HP2.out.next hR hS (Nat.add_le_add_right Hl2.out 1) HN3.out);clear hR hS;dsimp only)
     have he:=(HP3.out.belowW (below_new w3 (.cells #[.string ⟨#[]⟩,.string ⟨#[]⟩,.slice none 0 0] 60))).mono (Nat.zero_le 1)
     have h2:=Hl2.out;have h3:=Hl3.out;have h4:=Hn.out
     refine ⟨⟨p.2,out,v3,n,he,by omega,Ho.out⟩,?_⟩
     rw [he.rdr.at'.len,Hlen.out]
     omega
    | some x =>
     rw [hx] at ho
     dsimp only at ho
     have hkl:x.key.length≤maxLen:=by
      have h1:=Ent.entry_keylen σ2 x (by rw [Hp.out];exact hx)
      obtain ⟨c,h2,_⟩:=HP2.out.rdr.names
      omega
     have hq1:q<w1.heap.size:=by obtain ⟨c,f,_,h,_⟩:=HP2.out.seen;exact h.lt
     have hu6:∀j,u6.ownBlock=some j→j<w1.heap.size:=fun j hj=>by obtain ⟨fl,h,_⟩:=HP2.out.rows;exact (h.lt j hj).2
     have Hx:=η hx;have Hkl:=η hkl;have Hq1:=η hq1;have Hu6:=η hu6;clear hx hkl hq1 hu6
     go_upto_region 9 with (go_at_call 67; refine (reader_entry s r m 1 σ2 v _ hs HP2.out.names HP2.out.rdr).mono ?_;rintro e w3 hpost;unfold EntryPost at hpost;rw [Hp.out,Hx.out] at hpost;obtain ⟨vx,v3,rfl,hR,hS,hx⟩:=hpost;dsimp only at hx;have HP3:=η (HP2.out.next hR hS (Nat.add_le_add_right Hl2.out 1) HN3.out);clear hR hS;obtain ⟨vs,rfl,hre⟩:=hx;have Hre:=η hre;obtain ⟨vf,rfl,hF⟩:=hre;obtain ⟨pf,cf,rfl,hF2⟩:=hF;clear hF2;dsimp only)
     have he6:∀(i:Nat) (u:Value),#[Value.string ⟨x.kind.toArray⟩,.string ⟨x.key.toArray⟩,.slice pf x.fields.length cf][i]? = some u→(w3.alloc (.cells #[.string ⟨x.kind.toArray⟩,.string ⟨x.key.toArray⟩,.slice pf x.fields.length cf] 60)).cell? ⟨w3.heap.size,i,none⟩=some u:=by
      intro i u hu
      rw [cell_of_row _ _ _ _ _ _ (heap_alloc_new w3 _)]
      exact hu
     have HP4:=η (HP3.out.belowW (below_new w3 (.cells #[.string ⟨x.kind.toArray⟩,.string ⟨x.key.toArray⟩,.slice pf x.fields.length cf] 60)))
     have hre4:REnt (OutS q v3 u6) (w3.alloc (.cells #[.string ⟨x.kind.toArray⟩,.string ⟨x.key.toArray⟩,.slice pf x.fields.length cf] 60)) x [.string ⟨x.kind.toArray⟩,.string ⟨x.key.toArray⟩,.slice pf x.fields.length cf]:=by
      refine Hre.out.moved (fun j hj hlt=>⟨⟨by have:=Hq1.out;have:=hj.1;omega,hj.2,fun e=>by have:=Hu6.out j e;have:=hj.1;omega⟩,(below_new w3 _).block j hlt⟩) (below_new w3 _).size
     have Hre4:=η hre4
     have hg4:w3.heap.size<(w3.alloc (.cells #[.string ⟨x.kind.toArray⟩,.string ⟨x.key.toArray⟩,.slice pf x.fields.length cf] 60)).heap.size:=lt_alloc _ _
     have hg3:q<w3.heap.size:=by obtain ⟨c,f,_,h,_⟩:=HP3.out.seen;exact h.lt
     generalize w3.alloc (.cells #[.string ⟨x.kind.toArray⟩,.string ⟨x.key.toArray⟩,.slice pf x.fields.length cf] 60)=w4 at HP4 he6 Hre4 hg4 ⊢
     have e60:=he6 0 _ rfl;have e61:=he6 1 _ rfl;have e62:=he6 2 _ rfl
     clear HP3 HP2 Hre hre4 he6
     obtain ⟨cnt,f,hcnt,hm4,hf⟩:=HP4.out.seen
     have Hm4:=η hm4;have Hf:=η hf;have Hcnt:=η hcnt;clear hm4 hf hcnt
     cases hh:Ent.has out x.key
     ·
      rw [hh,if_neg (by simp)] at ho
      have Ho:=η ho;have Hh:=η hh;have hrun:=Hm4.out.run x.key Hkl.out 0 ((Hf.out x.key).2 hh);have Hf0:=η ((Hf.out x.key).2 hh);clear ho hh
      go_upto_region 14 with fail
      have hcm:cnt<maxLen:=by have:=Hcnt.out;unfold maxLen;omega
      go_upto_region 15 with (at_mapUpdate;go_loud (refine wpList_imap_store rfl (.tmp 70) (.tmp 72) (.tmp 74) rfl q cnt f rfl Hm4.out x.key rfl Hkl.out hcm 1 rfl (by decide) ?_);intro w6 hm6 hg6;have Hm6:=η hm6;have Hg6:=η hg6;clear hm6 hg6)
      have e60:=(grown_cell Hg6.out hg4 (by intro e;injection e with e;omega) 0).trans e60
      have e61:=(grown_cell Hg6.out hg4 (by intro e;injection e with e;omega) 1).trans e61
      have e62:=(grown_cell Hg6.out hg4 (by intro e;injection e with e;omega) 2).trans e62
      obtain ⟨fl,hown,hrep⟩:=HP4.out.rows
      have hown6:w6.ownsRow (q+1) 60 3 u6 out.length fl:=hown.kept Hg6.out (by
       cases hv:u6.ownBlock with
       | none=>exact .inl rfl
       | some j=>exact .inr (fun e=>by injection e with e;have:=(hown.lt j hv).1;omega))
      have Hown6:=η hown6;have Hrep:=η hrep;clear hown hown6 hrep
      obtain ⟨i0,hi,hz0,hz1,hz2⟩:=info_parts ent_info
      have Hi:=η hi;have Hz0:=η hz0;have Hz1:=η hz1;have Hz2:=η hz2
      have hcnt2:out.length≤1000000000:=by have:=HP4.out.cnt;omega
      have hbase:q+1≤w6.heap.size:=by have:=Hg6.out.size;omega
      clear hi hz0 hz1 hz2 hrun
      go_wp2_with (at_builtin;go_loud (refine wpList_append1 rfl (.tmp 75) (.tmp 77) 52 rfl (q+1) 60 i0 (.agg #[.string ⟨#[]⟩,.string ⟨#[]⟩,.slice none 0 0]) 3 56 Tryz.underlying52 Hi.out Hz0.out Hz1.out Hz2.out (by rfl) (by decide) _ _ _ Hown6.out rfl [.string ⟨x.kind.toArray⟩,.string ⟨x.key.toArray⟩,.slice pf x.fields.length cf] rfl rfl rfl (by simp [Value.oneCell']) (by unfold maxLen;omega) (by omega) hbase ?_);intro v7 w7 own7 g7 at7;have HP7:=η (PIn.kept (b:=0) HP4.out Hh.out Hcnt.out Hm6.out Hf.out Hg6.out Hrep.out Hre4.out own7 g7 at7);clear own7 g7 at7)
      have h2:=Hl2.out;have h3:=Hl3.out;have h4:=Hn.out
      refine ⟨⟨p.2,out++[x],v3,n,HP7.out,by omega,Ho.out⟩,?_⟩
      rw [HP7.out.rdr.at'.len,Hlen.out]
      omega
     ·
      rw [hh,if_pos rfl] at ho
      have Ho:=η ho;have hrun:=Hm4.out.run x.key Hkl.out 1 ((Hf.out x.key).1 hh);clear ho hh
      go_wp2_with (first
       | (go_at_call 68; refine (reader_note s r m 0 p.2 v3 _ 12 x.key hs HP4.out.rdr).mono ?_;rintro e w5 ⟨rfl,v5,hR5,hS5⟩;have HP5:=η (HP4.out.next (b':=0) hR5 hS5 (Nat.le_add_right _ _) HP4.out.names)))
      have h2:=Hl2.out;have h3:=Hl3.out;have h4:=Hn.out
      refine ⟨⟨_,out,v5,n,HP5.out,?_,Ho.out⟩,?_⟩
      ·
       show p.2.rest.length<n;omega
      ·
       rw [HP5.out.rdr.at'.len,Hlen.out]
       show p.2.rest.length<_;omega
theorem entry_parse (s:List UInt8) (w:World) (hs:s.length≤1000000000) :
  Calls Tryz.prog 35 #[.string ⟨s.toArray⟩] w fun e w'=>ParsePost w (Ent.parse s) e w':=by
 refine (entry_parse_own s w hs).mono ?_
 rintro e w' ⟨vo,vn,B,rfl,hB,⟨fl,h1,h2⟩,hn,hb⟩
 refine ⟨vo,vn,rfl,?_,hn,hb⟩
 exact SliceIn.own h1 (h2.imp (fun x vs _ hx=>hx.moved (S':=fun j=>w.heap.size≤j) (fun j hj _=>⟨by have:=hj.1;omega,rfl⟩) (Nat.le_refl _))) (fun x vs hx=>REnt.size x vs hx) rfl (fun j hj=>by have:=(h1.lt j hj).1;omega)
end Go.Proofs.YtgnfmopcialllaaGreatDoor
set_option linter.unusedSimpArgs false
set_option linter.unusedVariables false
namespace Go.Proofs.YtgnfmopcialllaaGreatDoor.Ent
def brace1 (c:UInt8):Bool:=c == 123 || c == 125
def fieldOk (before:List Fld) (f:Fld):Bool:=marked f.name&&small f.name == f.name && !(before.any fun g=>g.name == f.name) && !(f.text.any brace1)&&decide (f.text.length≤1000)
def fieldsOk:List Fld→List Fld→Bool
 | _,[]=>true
 | before,f::fs=>fieldOk before f&&fieldsOk (before++[f]) fs
def headOk (before:List Ent) (x:Ent):Bool:=marked x.kind&&small x.kind == x.kind && !(x.kind == strW)&&marked x.key && !(has before x.key)
def rightN:List Ent→List Ent→Bool
 | _,[]=>true
 | before,x::l=>headOk before x&&fieldsOk [] x.fields&&rightN (before++[x]) l
def right (l:List Ent):Bool:=rightN [] l
end Go.Proofs.YtgnfmopcialllaaGreatDoor.Ent
set_option linter.unusedSimpArgs false
set_option linter.unusedVariables false
namespace Go.Proofs.YtgnfmopcialllaaGreatDoor.Ent
theorem low_sign (c:UInt8) (h:sign c=true):sign (low c)=true∧low (low c)=low c:=by
 unfold low
 have hlt:=c.toNat_lt
 split
 ·
  rename_i hc
  have ha:(c+32).toNat=c.toNat+32:=by
   rw [UInt8.toNat_add]
   show (c.toNat+32) % 256=_
   omega
  refine ⟨?_,?_⟩
  ·
   have h1:decide (97≤(c+32).toNat)=true:=decide_eq_true (by omega)
   have h2:decide ((c+32).toNat≤122)=true:=decide_eq_true (by omega)
   unfold sign
   rw [h1,h2];rfl
  ·
   rw [if_neg (by omega)]
 ·
  rename_i hc
  exact ⟨h,by first | rfl | rw [if_neg hc]⟩
theorem small_marked (m:List UInt8) (h:marked m=true):marked (small m)=true∧small (small m)=small m:=by
 unfold marked at h ⊢
 rw [Bool.and_eq_true] at h
 obtain ⟨h1,h2⟩:=h
 rw [List.all_eq_true] at h1
 refine ⟨?_,?_⟩
 ·
  rw [Bool.and_eq_true,List.all_eq_true]
  refine ⟨fun x hx=>?_,?_⟩
  ·
   unfold small at hx
   obtain ⟨y,hy,rfl⟩:=List.mem_map.1 hx
   exact (low_sign y (h1 y hy)).1
  ·
   cases m with
   | nil=>simp at h2
   | cons a l=>rfl
 ·
  unfold small
  rw [List.map_map]
  apply List.map_congr_left
  intro x hx
  exact (low_sign x (h1 x hx)).2
theorem mark_marked (l m:List UInt8) (h:(mark l).1=some m):marked m=true:=by
 have h0:=(mark_lt l m h).1
 unfold mark at h
 dsimp only at h
 split at h
 ·
  cases h
 ·
  cases h
  unfold marked
  rw [Bool.and_eq_true,List.all_eq_true]
  refine ⟨fun x hx=>?_,by simpa using h0⟩
  generalize bl l=u at hx
  clear h0
  induction u with
  | nil=>simp at hx
  | cons a u ih =>
   rw [List.takeWhile_cons] at hx
   split at hx
   ·
    rename_i ha
    rcases List.mem_cons.1 hx with e | e
    ·
     rw [e];exact ha
    ·
     exact ih e
   ·
    simp at hx
theorem valueN_le:∀(n:Nat) (acc:List UInt8) (σ:RS) (t:List UInt8),(valueN n acc σ).1=some t→t.length≤1000
 | 0,_,_,_,h=>by simp [valueN] at h
 | n+1,acc,σ,t,h=>by
  unfold valueN at h
  cases hp:(part σ).1 with
  | none=>rw [hp] at h;simp at h
  | some u =>
   rw [hp] at h
   dsimp only at h
   split at h
   ·
    exact valueN_le n _ _ t h
   ·
    cases h
    rw [List.length_take];omega
theorem pair_good (σ:RS) (m t:List UInt8) (h:(pair σ).1=some (m,t)):marked m=true∧small m=m∧t.length≤1000:=by
 unfold pair at h
 cases hm:(markS σ).1 with
 | none=>rw [hm] at h;simp at h
 | some y =>
  rw [hm] at h
  dsimp only at h
  have hy:=mark_marked σ.rest y hm
  split at h
  ·
   generalize hv:value ((markS σ).2.at (isL 61 (markS σ).2.rest))=v at h
   cases h1:v.1 with
   | none=>rw [h1] at h;simp at h
   | some u =>
    rw [h1] at h
    simp only [Option.some.injEq,Prod.mk.injEq] at h
    obtain ⟨rfl,rfl⟩:=h
    obtain ⟨a,b⟩:=small_marked y hy
    refine ⟨a,b,?_⟩
    unfold value at hv
    rw [←hv] at h1
    exact valueN_le _ _ _ _ h1
  ·
   simp at h
def stripF (f:Fld):Fld:=⟨f.name,[]⟩
def strip (x:Ent):Ent:=⟨x.kind,x.key,x.fields.map stripF⟩
theorem fieldsOk_snoc:∀(fs before:List Fld) (f:Fld),fieldsOk before (fs++[f])=(fieldsOk before fs&&fieldOk (before++fs) f)
 | [],before,f=>by simp [fieldsOk]
 | g::fs,before,f=>by
  show (fieldOk before g&&fieldsOk (before++[g]) (fs++[f]))=((fieldOk before g&&fieldsOk (before++[g]) fs)&&fieldOk (before++g::fs) f)
  rw [fieldsOk_snoc fs (before++[g]) f,Bool.and_assoc,List.append_assoc]
  rfl
theorem rightN_snoc:∀(l before:List Ent) (x:Ent),rightN before (l++[x])=(rightN before l&&(headOk (before++l) x&&fieldsOk [] x.fields))
 | [],before,x=>by simp [rightN]
 | y::l,before,x=>by
  show (headOk before y&&fieldsOk [] y.fields&&rightN (before++[y]) (l++[x]))=((headOk before y&&fieldsOk [] y.fields&&rightN (before++[y]) l)&&(headOk (before++y::l) x&&fieldsOk [] x.fields))
  rw [rightN_snoc l (before++[y]) x,Bool.and_assoc (headOk before y&&fieldsOk [] y.fields),List.append_assoc]
  rfl
theorem get_none (fs:List Fld) (m:List UInt8) (h:(get fs m).2=false):fs.any (fun g=>g.name == m)=false:=by
 unfold get at h
 cases hf:fs.find? (fun f=>f.name == m) with
 | none =>
  rw [List.find?_eq_none] at hf
  rw [List.any_eq_false]
  exact hf
 | some y=>rw [hf] at h;simp at h
theorem any_strip (fs:List Fld) (m:List UInt8):(fs.map stripF).any (fun g=>g.name == m)=fs.any (fun g=>g.name == m):=by rw [List.any_map];rfl
theorem fieldsN_ok:∀(n:Nat) (fs:List Fld) (σ:RS) (gs:List Fld),fieldsOk [] (fs.map stripF)=true→(∀f ∈ fs,f.text.length≤1000)→(fieldsN n fs σ).1=some gs→fieldsOk [] (gs.map stripF)=true∧∀f ∈ gs,f.text.length≤1000
 | 0,_,_,_,_,_,h=>by simp [fieldsN] at h
 | n+1,fs,σ,gs,h1,h2,h=>by
  unfold fieldsN at h
  split at h
  ·
   simp only [Option.some.injEq] at h;subst h;exact ⟨h1,h2⟩
  ·
   split at h
   ·
    split at h
    ·
     simp only [Option.some.injEq] at h;subst h;exact ⟨h1,h2⟩
    ·
     generalize hp:pair (σ.at (isL 125 (isL 44 (isL 125 σ.rest))))=p at h
     cases hp1:p.1 with
     | none=>rw [hp1] at h;simp at h
     | some q =>
      obtain ⟨m,t⟩:=q
      rw [hp1] at h
      dsimp only at h
      obtain ⟨hm,hs,ht⟩:=pair_good _ m t (by rw [hp];exact hp1)
      cases hg:(get fs m).2
      ·
       rw [hg,if_neg (by simp)] at h
       refine fieldsN_ok n (fs++[⟨m,t⟩]) _ gs ?_ ?_ h
       ·
        rw [List.map_append,List.map_cons,List.map_nil,fieldsOk_snoc,h1,List.nil_append,Bool.true_and]
        unfold fieldOk
        show (marked m&&small m == m && !((fs.map stripF).any fun g=>g.name == m) && !(([]:List UInt8).any brace1)&&decide (([]:List UInt8).length≤1000))=true
        rw [any_strip,get_none fs m hg,hm,hs]
        simp
       ·
        intro f hf
        rcases List.mem_append.1 hf with e | e
        ·
         exact h2 f e
        ·
         rw [List.mem_singleton.1 e];exact ht
      ·
       rw [hg,if_pos rfl] at h
       exact fieldsN_ok n fs _ gs h1 h2 h
   ·
    simp at h
structure Good (x:Ent):Prop where
 kind:marked x.kind=true
 low:small x.kind=x.kind
 str:x.kind≠strW
 key:marked x.key=true
 flds:fieldsOk [] (x.fields.map stripF)=true
 texts:∀f ∈ x.fields,f.text.length≤1000
theorem entry_good (σ:RS) (x:Ent) (h:(entry σ).1=some (some x)):Good x:=by
 unfold entry at h
 cases hm:(mark σ.rest).1 with
 | none=>rw [hm] at h;simp at h
 | some k =>
  rw [hm] at h
  dsimp only at h
  have hk:=small_marked k (mark_marked _ _ hm)
  unfold entryB at h
  split at h
  ·
   split at h
   ·
    unfold entryS at h
    split at h
    ·
     simp at h
    ·
     dsimp only at h
     split at h <;> simp at h
   ·
    rename_i hne
    generalize (RS.at _ _:RS)=σ2 at h
    unfold entryK at h
    cases hy:(mark σ2.rest).1 with
    | none=>rw [hy] at h;simp at h
    | some y =>
     rw [hy] at h
     dsimp only at h
     generalize hf:fieldsN (σ2.rest.length+1) [] (σ2.at (mark σ2.rest).2)=p at h
     cases hp:p.1 with
     | none=>rw [hp] at h;simp at h
     | some fs =>
      rw [hp] at h
      simp only [Option.some.injEq] at h
      subst h
      obtain ⟨a,b⟩:=fieldsN_ok _ [] _ fs rfl (by simp) (by rw [hf];exact hp)
      exact ⟨hk.1,hk.2,hne,mark_marked _ _ hy,a,b⟩
  ·
   simp at h
theorem has_strip (l:List Ent) (key:List UInt8):has (l.map strip) key=has l key:=by unfold has;rw [List.any_map];rfl
theorem parseN_good:∀(n:Nat) (out:List Ent) (σ:RS),right (out.map strip)=true→(∀x ∈ out,Good x)→right ((parseN n out σ).1.map strip)=true∧∀x ∈ (parseN n out σ).1,Good x
 | 0,out,σ,h1,h2=>⟨h1,h2⟩
 | n+1,out,σ,h1,h2=>by
  unfold parseN
  split
  ·
   exact ⟨h1,h2⟩
  ·
   rename_i l _
   split
   ·
    exact parseN_good n out _ h1 h2
   ·
    exact parseN_good n out _ h1 h2
   ·
    rename_i x hx
    have hg:=entry_good _ x hx
    cases hh:has out x.key
    ·
     rw [if_neg (by simp)]
     refine parseN_good n _ _ ?_ ?_
     ·
      rw [List.map_append,List.map_cons,List.map_nil]
      unfold right at h1 ⊢
      rw [rightN_snoc,h1,Bool.true_and,List.nil_append,Bool.and_eq_true]
      refine ⟨?_,hg.flds⟩
      unfold headOk
      show (marked x.kind&&small x.kind == x.kind && !(x.kind == strW)&&marked x.key && !(has (out.map strip) x.key))=true
      rw [hg.kind,hg.low,hg.key,has_strip,hh]
      have:=hg.str
      simp [this]
     ·
      intro y hy
      rcases List.mem_append.1 hy with e | e
      ·
       exact h2 y e
      ·
       rw [List.mem_singleton.1 e];exact hg
    ·
     rw [if_pos rfl]
     exact parseN_good n out _ h1 h2
theorem parse_good (s:List UInt8):right ((parse s).1.map strip)=true∧∀x ∈ (parse s).1,Good x:=parseN_good _ [] _ rfl (by simp)
theorem mark_short (l m:List UInt8) (h:(mark l).1=some m):m.length≤l.length:=by
 unfold mark at h
 dsimp only at h
 split at h
 ·
  cases h
 ·
  cases h
  exact Nat.le_trans (takeWhile_len _ _) (bl_len l)
theorem pair_short (σ:RS) (m t:List UInt8) (h:(pair σ).1=some (m,t)):m.length≤σ.rest.length:=by
 unfold pair at h
 cases hm:(markS σ).1 with
 | none=>rw [hm] at h;simp at h
 | some y =>
  rw [hm] at h
  dsimp only at h
  have hy:=mark_short σ.rest y hm
  split at h
  ·
   generalize value ((markS σ).2.at (isL 61 (markS σ).2.rest))=v at h
   cases h1:v.1 with
   | none=>rw [h1] at h;simp at h
   | some u =>
    rw [h1] at h
    simp only [Option.some.injEq,Prod.mk.injEq] at h
    obtain ⟨rfl,rfl⟩:=h
    unfold small
    rw [List.length_map]
    exact hy
  ·
   simp at h
theorem fieldsN_short (N:Nat):∀(n:Nat) (fs:List Fld) (σ:RS) (gs:List Fld),σ.rest.length≤N→(∀f ∈ fs,f.name.length≤N)→(fieldsN n fs σ).1=some gs→gs.length≤fs.length+σ.rest.length∧∀f ∈ gs,f.name.length≤N
 | 0,_,_,_,_,_,h=>by simp [fieldsN] at h
 | n+1,fs,σ,gs,h1,h2,h=>by
  unfold fieldsN at h
  split at h
  ·
   simp only [Option.some.injEq] at h;subst h;exact ⟨by omega,h2⟩
  ·
   split at h
   ·
    rename_i h44
    split at h
    ·
     simp only [Option.some.injEq] at h;subst h;exact ⟨by omega,h2⟩
    ·
     have l1:=isL_len 125 σ.rest
     have l2:=isL_lt 44 (isL 125 σ.rest) h44
     have l3:=isL_len 125 (isL 44 (isL 125 σ.rest))
     have l4:=pair_len (σ.at (isL 125 (isL 44 (isL 125 σ.rest))))
     have l5:∀m t,(pair (σ.at (isL 125 (isL 44 (isL 125 σ.rest))))).1=some (m,t)→m.length≤(isL 125 (isL 44 (isL 125 σ.rest))).length:=fun m t e=>pair_short _ m t e
     have l6:(σ.at (isL 125 (isL 44 (isL 125 σ.rest)))).rest.length=(isL 125 (isL 44 (isL 125 σ.rest))).length:=rfl
     generalize hp:pair (σ.at (isL 125 (isL 44 (isL 125 σ.rest))))=p at h l4 l5
     cases hp1:p.1 with
     | none=>rw [hp1] at h;simp at h
     | some q =>
      obtain ⟨m,t⟩:=q
      have l7:=l5 m t hp1
      rw [hp1] at h
      dsimp only at h
      cases hg:(get fs m).2
      ·
       rw [hg,if_neg (by simp)] at h
       obtain ⟨a,b⟩:=fieldsN_short N n (fs++[⟨m,t⟩]) _ gs (by omega) (by
        intro f hf
        rcases List.mem_append.1 hf with e | e
        ·
         exact h2 f e
        ·
         rw [List.mem_singleton.1 e];show m.length≤N;omega) h
       rw [List.length_append,List.length_singleton] at a
       exact ⟨by omega,b⟩
      ·
       rw [hg,if_pos rfl] at h
       obtain ⟨a,b⟩:=fieldsN_short N n fs (p.2.note 12 m) gs (by show p.2.rest.length≤N;omega) h2 h
       have a':gs.length≤fs.length+p.2.rest.length:=a
       exact ⟨by omega,b⟩
   ·
    simp at h
def Short (N:Nat) (x:Ent):Prop:=x.fields.length≤N∧x.kind.length≤N∧x.key.length≤N∧∀f ∈ x.fields,f.name.length≤N
theorem entry_short (σ:RS) (x:Ent) (h:(entry σ).1=some (some x)):Short σ.rest.length x:=by
 unfold entry at h
 cases hm:(mark σ.rest).1 with
 | none=>rw [hm] at h;simp at h
 | some k =>
  rw [hm] at h
  dsimp only at h
  have hk:=mark_short _ _ hm
  have hl:=mark_len σ.rest
  unfold entryB at h
  split at h
  ·
   have hi:=isL_len 123 (mark σ.rest).2
   split at h
   ·
    unfold entryS at h
    split at h
    ·
     simp at h
    ·
     dsimp only at h
     split at h <;> simp at h
   ·
    unfold entryK at h
    have e0:(RS.at { σ with rest:=(mark σ.rest).2,kind:=small k } (isL 123 (mark σ.rest).2)).rest.length=(isL 123 (mark σ.rest).2).length:=rfl
    generalize (RS.at { σ with rest:=(mark σ.rest).2,kind:=small k } (isL 123 (mark σ.rest).2))=σ2 at h e0
    have hy1:=mark_len σ2.rest
    cases hy:(mark σ2.rest).1 with
    | none=>rw [hy] at h;simp at h
    | some y =>
     rw [hy] at h
     dsimp only at h
     have hy2:=mark_short _ _ hy
     have hf2:=fun gs=>fieldsN_short σ.rest.length (σ2.rest.length+1) [] (σ2.at (mark σ2.rest).2) gs (by show (mark σ2.rest).2.length≤_;omega) (by simp)
     generalize fieldsN (σ2.rest.length+1) [] (σ2.at (mark σ2.rest).2)=p at h hf2
     cases hp:p.1 with
     | none=>rw [hp] at h;simp at h
     | some fs =>
      rw [hp] at h
      simp only [Option.some.injEq] at h
      subst h
      obtain ⟨a,b⟩:=hf2 fs hp
      have a':fs.length≤0+(mark σ2.rest).2.length:=a
      refine ⟨by show fs.length≤_;omega,by show (small k).length≤_;unfold small;rw [List.length_map];exact hk,by show y.length≤_;omega,b⟩
  ·
   simp at h
theorem parseN_short (N:Nat):∀(n:Nat) (out:List Ent) (σ:RS),σ.rest.length≤N→(∀x ∈ out,Short N x)→(parseN n out σ).1.length≤out.length+σ.rest.length∧∀x ∈ (parseN n out σ).1,Short N x
 | 0,out,σ,_,h2=>⟨by simp [parseN],h2⟩
 | n+1,out,σ,h1,h2=>by
  unfold parseN
  split
  ·
   exact ⟨by simp,h2⟩
  ·
   rename_i c l hd
   have hl:l.length+1≤σ.rest.length:=by
    have:=dropWhile_len (fun c:UInt8=>!(c == 64)) σ.rest
    rw [hd] at this
    simpa using this
   have he:=entry_len (σ.at l)
   have he':(entry (σ.at l)).2.rest.length≤l.length:=he
   split
   ·
    obtain ⟨a,b⟩:=parseN_short N n out ((entry (σ.at l)).2.note (err (entry (σ.at l)).2.rest) (entry (σ.at l)).2.kind) (by show (entry (σ.at l)).2.rest.length≤N;omega) h2
    have a':_≤out.length+(entry (σ.at l)).2.rest.length:=a
    exact ⟨by omega,b⟩
   ·
    obtain ⟨a,b⟩:=parseN_short N n out (entry (σ.at l)).2 (by omega) h2
    exact ⟨by omega,b⟩
   ·
    rename_i x hx
    have hs:Short N x:=by
     obtain ⟨s1,s2,s3,s4⟩:=entry_short _ x hx
     have e0:(σ.at l).rest.length=l.length:=rfl
     exact ⟨by omega,by omega,by omega,fun f hf=>by have:=s4 f hf;omega⟩
    split
    ·
     obtain ⟨a,b⟩:=parseN_short N n out ((entry (σ.at l)).2.note 12 x.key) (by show (entry (σ.at l)).2.rest.length≤N;omega) h2
     have a':_≤out.length+(entry (σ.at l)).2.rest.length:=a
     exact ⟨by omega,b⟩
    ·
     obtain ⟨a,b⟩:=parseN_short N n (out++[x]) (entry (σ.at l)).2 (by omega) (by
      intro y hy
      rcases List.mem_append.1 hy with e | e
      ·
       exact h2 y e
      ·
       rw [List.mem_singleton.1 e];exact hs)
     rw [List.length_append,List.length_singleton] at a
     exact ⟨by omega,b⟩
theorem parse_short (s:List UInt8):(parse s).1.length≤s.length∧∀x ∈ (parse s).1,Short s.length x:=by
 have h:=parseN_short s.length (s.length+1) [] ⟨s,[],fun _=>none,[]⟩ (Nat.le_refl _) (by simp)
 simpa [parse] using h
end Go.Proofs.YtgnfmopcialllaaGreatDoor.Ent
set_option linter.unusedSimpArgs false
set_option linter.unusedVariables false
namespace Go.Proofs.YtgnfmopcialllaaGreatDoor.Ent
structure Nt (N:Nat) (σ σ':RS):Prop where
 len:σ'.rest.length≤σ.rest.length
 cnt:σ'.notes.length+σ'.rest.length≤σ.notes.length+σ.rest.length
 txt:σ.rest.length≤N→(∀x ∈ σ.notes,x.2.length≤N) → ∀x ∈ σ'.notes,x.2.length≤N
 kd:σ.rest.length≤N→σ.kind.length≤N→σ'.kind.length≤N
theorem Nt.trans {N:Nat} {a b c:RS} (h:Nt N a b) (k:Nt N b c):Nt N a c :=
 ⟨Nat.le_trans k.len h.len,Nat.le_trans k.cnt h.cnt,fun h1 h2=>k.txt (Nat.le_trans h.len h1) (h.txt h1 h2),fun h1 h2=>k.kd (Nat.le_trans h.len h1) (h.kd h1 h2)⟩
theorem Nt.at {N:Nat} (σ:RS) (l:List UInt8) (h:l.length≤σ.rest.length):Nt N σ (σ.at l) :=
 ⟨h,by show σ.notes.length+l.length≤_;omega,fun _ h=>h,fun _ h=>h⟩
theorem Nt.more {N:Nat} {σ τ:RS} (h:Nt N σ τ) (hs:τ.notes.length+τ.rest.length+1≤σ.notes.length+σ.rest.length) (e:Int) (s:List UInt8) (hl2:σ.rest.length≤N→s.length≤N):Nt N σ (τ.note e s) :=
 ⟨h.len,by show (τ.notes++[(e,s)]).length+τ.rest.length≤_;rw [List.length_append,List.length_singleton];omega,fun h1 h2 x hx=>by
  rcases List.mem_append.1 (show x ∈ τ.notes++[(e,s)] from hx) with hx | hx
  ·
   exact h.txt h1 h2 x hx
  ·
   rw [List.mem_singleton.1 hx];exact hl2 h1,h.kd⟩
theorem part_nt (N:Nat) (σ:RS):Nt N σ (part σ).2:=by
 unfold part
 split
 ·
  exact Nt.at σ _ (Nat.le_trans (quoted_len _) (isL_len _ _))
 ·
  split
  ·
   exact Nt.at σ _ (Nat.le_trans (brace_len _ _ _) (isL_len _ _))
  ·
   split
   ·
    exact Nt.at σ _ (mark_len _)
   ·
    rename_i m hm
    split
    ·
     exact Nt.at σ _ (mark_len _)
    ·
     split
     ·
      exact Nt.at σ _ (mark_len _)
     ·
      have h1:=(mark_lt _ _ hm).2
      have h2:=mark_short _ _ hm
      refine Nt.more (Nt.at σ _ (mark_len _)) (by show σ.notes.length+(mark σ.rest).2.length+1≤_;omega) 4 (small m) ?_
      intro h;unfold small;rw [List.length_map];exact Nat.le_trans h2 h
theorem valueN_nt (N:Nat):∀(n:Nat) (acc:List UInt8) (σ:RS),Nt N σ (valueN n acc σ).2
 | 0,_,σ=>by unfold valueN;exact ⟨Nat.le_refl _,Nat.le_refl _,fun _ h=>h,fun _ h=>h⟩
 | n+1,acc,σ=>by
  have hp:=part_nt N σ
  unfold valueN
  split
  ·
   exact hp
  ·
   split
   ·
    exact (hp.trans (Nt.at _ _ (isL_len _ _))).trans (valueN_nt N n _ _)
   ·
    exact hp.trans (Nt.at _ _ (isL_len _ _))
theorem pair_nt (N:Nat) (σ:RS):Nt N σ (pair σ).2:=by
 have hm:Nt N σ (markS σ).2:=Nt.at σ _ (mark_len _)
 unfold pair
 split
 ·
  exact hm
 ·
  split
  ·
   have h2:=(hm.trans (Nt.at _ (isL 61 (markS σ).2.rest) (isL_len _ _))).trans (valueN_nt N (((markS σ).2.at (isL 61 (markS σ).2.rest)).rest.length+1) [] _)
   split
   ·
    exact h2
   ·
    exact h2
  ·
   exact hm.trans (Nt.at _ _ (isL_len _ _))
theorem fieldsN_nt (N:Nat):∀(n:Nat) (fs:List Fld) (σ:RS),Nt N σ (fieldsN n fs σ).2
 | 0,_,σ=>by unfold fieldsN;exact ⟨Nat.le_refl _,Nat.le_refl _,fun _ h=>h,fun _ h=>h⟩
 | n+1,fs,σ=>by
  unfold fieldsN
  have l1:=isL_len 125 σ.rest
  split
  ·
   exact Nt.at σ _ l1
  ·
   have l2:=isL_len 44 (isL 125 σ.rest)
   split
   ·
    rename_i h44
    have l4:=isL_lt 44 (isL 125 σ.rest) h44
    have l3:=isL_len 125 (isL 44 (isL 125 σ.rest))
    split
    ·
     exact Nt.at σ _ (by omega)
    ·
     have h0:Nt N σ (σ.at (isL 125 (isL 44 (isL 125 σ.rest)))):=Nt.at σ _ (by omega)
     have hp:=pair_nt N (σ.at (isL 125 (isL 44 (isL 125 σ.rest))))
     have hq:∀m t,(pair (σ.at (isL 125 (isL 44 (isL 125 σ.rest))))).1=some (m,t)→m.length≤(isL 125 (isL 44 (isL 125 σ.rest))).length:=fun m t e=>pair_short _ m t e
     have hc:=hp.cnt
     have hc':(pair (σ.at (isL 125 (isL 44 (isL 125 σ.rest))))).2.notes.length+(pair (σ.at (isL 125 (isL 44 (isL 125 σ.rest))))).2.rest.length≤σ.notes.length+(isL 125 (isL 44 (isL 125 σ.rest))).length:=hc
     split
     ·
      exact h0.trans hp
     ·
      rename_i m t hmt
      have hml:=hq m t hmt
      split
      ·
       refine Nt.trans (Nt.more (h0.trans hp) (by omega) 12 m ?_) (fieldsN_nt N n _ _)
       intro h;omega
      ·
       exact (h0.trans hp).trans (fieldsN_nt N n _ _)
   ·
    exact Nt.at σ _ (by omega)
theorem entry_nt (N:Nat) (σ:RS):Nt N σ (entry σ).2:=by
 have hl:=mark_len σ.rest
 unfold entry
 split
 ·
  exact ⟨hl,by show σ.notes.length+(mark σ.rest).2.length≤_;omega,fun _ h=>h,fun _ _=>by show ([]:List UInt8).length≤N;simp⟩
 ·
  rename_i k hk
  have hks:=mark_short _ _ hk
  have h0:Nt N σ { σ with rest:=(mark σ.rest).2,kind:=small k }:=⟨hl,by show σ.notes.length+(mark σ.rest).2.length≤_;omega,fun _ h=>h,fun h _=>by show (small k).length≤N;unfold small;rw [List.length_map];omega⟩
  refine h0.trans ?_
  generalize ({ σ with rest:=(mark σ.rest).2,kind:=small k }:RS)=τ
  generalize small k=u
  have hi:=isL_len 123 τ.rest
  unfold entryB
  split
  ·
   have h1:Nt N τ (τ.at (isL 123 τ.rest)):=Nt.at τ _ hi
   split
   ·
    refine h1.trans ?_
    generalize τ.at (isL 123 τ.rest)=ρ
    have hp:=pair_nt N ρ
    unfold entryS
    split
    ·
     exact hp
    ·
     dsimp only
     have hb:=isL_len 125 (pair ρ).2.rest
     split
     ·
      have h2:=hp.trans (Nt.at (pair ρ).2 (isL 125 (pair ρ).2.rest) hb)
      exact ⟨h2.len,h2.cnt,h2.txt,h2.kd⟩
     ·
      exact hp.trans (Nt.at (pair ρ).2 (isL 125 (pair ρ).2.rest) hb)
   ·
    refine h1.trans ?_
    generalize τ.at (isL 123 τ.rest)=ρ
    have hm:=mark_len ρ.rest
    have h2:Nt N ρ (ρ.at (mark ρ.rest).2):=Nt.at ρ _ hm
    unfold entryK
    split
    ·
     exact h2
    ·
     have h3:=h2.trans (fieldsN_nt N (ρ.rest.length+1) [] (ρ.at (mark ρ.rest).2))
     split
     ·
      exact h3
     ·
      exact h3
  ·
   exact Nt.at τ _ hi
theorem parseN_nt (N:Nat):∀(n:Nat) (out:List Ent) (σ:RS),σ.rest.length≤N→σ.kind.length≤N→Nt N σ (parseN n out σ).2
 | 0,_,σ,_,_=>by unfold parseN;exact ⟨Nat.le_refl _,Nat.le_refl _,fun _ h=>h,fun _ h=>h⟩
 | n+1,out,σ,hN,hK=>by
  unfold parseN
  split
  ·
   exact ⟨Nat.le_refl _,Nat.le_refl _,fun _ h=>h,fun _ h=>h⟩
  ·
   rename_i c l hd
   have hl:l.length+1≤σ.rest.length:=by
    have:=dropWhile_len (fun c:UInt8=>!(c == 64)) σ.rest
    rw [hd] at this
    simpa using this
   have h0:Nt N σ (σ.at l):=Nt.at σ l (by omega)
   have he:=entry_nt N (σ.at l)
   have hc:(entry (σ.at l)).2.notes.length+(entry (σ.at l)).2.rest.length≤σ.notes.length+l.length:=he.cnt
   have hlen:=(h0.trans he).len
   have hkd:=(h0.trans he).kd hN hK
   split
   ·
    exact Nt.trans (Nt.more (h0.trans he) (by omega) _ _ (fun _=>hkd)) (parseN_nt N n _ _ (by show (entry (σ.at l)).2.rest.length≤N;omega) hkd)
   ·
    exact (h0.trans he).trans (parseN_nt N n _ _ (by omega) hkd)
   ·
    rename_i x hx
    have hs:=(entry_short _ x hx).2.2.1
    have hs':x.key.length≤l.length:=hs
    split
    ·
     exact Nt.trans (Nt.more (h0.trans he) (by omega) _ _ (fun _=>by omega)) (parseN_nt N n _ _ (by show (entry (σ.at l)).2.rest.length≤N;omega) hkd)
    ·
     exact (h0.trans he).trans (parseN_nt N n _ _ (by omega) hkd)
theorem parse_notes (s:List UInt8):(parse s).2.length≤s.length∧∀x ∈ (parse s).2,x.2.length≤s.length:=by
 have h:=parseN_nt s.length (s.length+1) [] ⟨s,[],fun _=>none,[]⟩ (Nat.le_refl _) (Nat.zero_le _)
 refine ⟨?_,h.txt (Nat.le_refl _) (fun x hx=>by cases hx)⟩
 have hc:=h.cnt
 simp only [List.length_nil,Nat.zero_add] at hc
 show (parseN (s.length+1) [] ⟨s,[],fun _=>none,[]⟩).2.notes.length≤_
 omega
end Go.Proofs.YtgnfmopcialllaaGreatDoor.Ent
set_option linter.unusedSimpArgs false
set_option linter.unusedVariables false
namespace Go.Proofs.YtgnfmopcialllaaGreatDoor
namespace Ix
def cmpB (a b:List UInt8):Int:=Lib.compareBytes a b
theorem u8_lt_tr {a b c:UInt8} (h:a<b) (k:b<c):a<c:=UInt8.lt_trans h k
theorem cmpB_refl:∀a:List UInt8,cmpB a a=0
 | []=>rfl
 | x::a=>by
  unfold cmpB Lib.compareBytes
  rw [if_neg (UInt8.lt_irrefl x),if_neg (UInt8.lt_irrefl x)]
  exact cmpB_refl a
theorem cmpB_cons (x y:UInt8) (a b:List UInt8):cmpB (x::a) (y::b)=if x<y then -1 else if y<x then 1 else cmpB a b:=rfl
theorem cmpB_eq0:∀a b:List UInt8,cmpB a b=0→a=b
 | [],[],_=>rfl
 | [],_::_,h=>by simp [cmpB,Lib.compareBytes] at h
 | _::_,[],h=>by simp [cmpB,Lib.compareBytes] at h
 | x::a,y::b,h=>by
  rw [cmpB_cons] at h
  split at h
  ·
   omega
  ·
   next h1 =>
   split at h
   ·
    omega
   ·
    next h2 =>
    have:x=y:=by
     refine UInt8.le_antisymm (UInt8.not_lt.1 h2) (UInt8.not_lt.1 h1)
    rw [this,cmpB_eq0 a b h]
theorem cmpB_anti:∀a b:List UInt8,cmpB b a = - cmpB a b
 | [],[]=>rfl
 | [],_::_=>rfl
 | _::_,[]=>rfl
 | x::a,y::b=>by
  rw [cmpB_cons,cmpB_cons]
  by_cases h1:x<y
  ·
   have h2:¬y<x:=UInt8.not_lt.2 (UInt8.le_of_lt h1)
   rw [if_pos h1,if_neg h2,if_pos h1];rfl
  ·
   by_cases h2:y<x
   ·
    rw [if_pos h2,if_neg h1,if_pos h2]
   ·
    rw [if_neg h1,if_neg h2,if_neg h2,if_neg h1];exact cmpB_anti a b
theorem cmpB_trans:∀a b d:List UInt8,cmpB a b<0→cmpB b d<0→cmpB a d<0
 | [],[],_,h,_=>by simp [cmpB,Lib.compareBytes] at h
 | _::_,[],_,h,_=>by simp [cmpB,Lib.compareBytes] at h
 | _,_::_,[],_,k=>by simp [cmpB,Lib.compareBytes] at k
 | [],_::_,_::_,_,_=>by simp [cmpB,Lib.compareBytes]
 | x::a,y::b,z::d,h,k=>by
  rw [cmpB_cons] at h k ⊢
  have irr:=UInt8.lt_irrefl
  by_cases h1:x<y
  ·
   by_cases k1:y<z
   ·
    rw [if_pos (u8_lt_tr h1 k1)];omega
   ·
    rw [if_neg k1] at k
    by_cases k2:z<y
    ·
     rw [if_pos k2] at k;omega
    ·
     have:y=z:=UInt8.le_antisymm (UInt8.not_lt.1 k2) (UInt8.not_lt.1 k1)
     rw [←this,if_pos h1];omega
  ·
   rw [if_neg h1] at h
   by_cases h2:y<x
   ·
    rw [if_pos h2] at h;omega
   ·
    rw [if_neg h2] at h
    have e:x=y:=UInt8.le_antisymm (UInt8.not_lt.1 h2) (UInt8.not_lt.1 h1)
    rw [e]
    by_cases k1:y<z
    ·
     rw [if_pos k1];omega
    ·
     rw [if_neg k1] at k ⊢
     by_cases k2:z<y
     ·
      rw [if_pos k2] at k;omega
     ·
      rw [if_neg k2] at k ⊢;exact cmpB_trans a b d h k
section
variable {α:Type} {c:α→α→Int}
end
end Ix
end Go.Proofs.YtgnfmopcialllaaGreatDoor
