/- The parts of a run of package bib, told in one way whatever comes of them. The document's maps of files (stetref02): names, a file dropped, a file's text: plain, and their walks. The document's maps of files: a file put (stetref02.Put): plain, and its walk. -/
import Derived.Test.YtgnfmopcialllaaGreatDoorG31
import Derived.Test.YtgnfmopcialllaaGreatDoorG20
import Derived.Test.YtgnfmopcialllaaGreatDoorTk
import Derived.Test.YtgnfmopcialllaaGreatDoorG07
import Derived.Test.YtgnfmopcialllaaGreatDoorG06
import Derived.BigQuiet
set_option linter.unusedSimpArgs false
set_option linter.unusedVariables false
namespace Go.Proofs.YtgnfmopcialllaaGreatDoor
open Go.RowKit
def ErrIs (ve:Value) (ns:List (Int × List UInt8)):Prop:=(ns=[]∧ve = .nilIface) ∨ ∃n s,ns=[(n,s)]∧ve = .iface 66 (.agg #[.string ⟨s.toArray⟩,.int .i64 n])
theorem bb_note_any (g:Nat) (ve:Value) (n1:List (Int × List UInt8)) (vf vr vn:Value) (rs:List (List UInt8)) (ns:List (Int × List UInt8)) (w:World) (hE:ErrIs ve n1) (hT:w.cell? ⟨0, 0,none⟩=some (.iface 199 (.agg #[.pointer (some ⟨9, 48, none⟩)]))) (hT0 : 0 < w.heap.size) (hW:Wk g vf vr vn rs ns w) (hnl:ns.length≤1000000) :
  Calls Tryz.prog 15 #[.pointer (some ⟨g,0,none⟩),ve] w fun e w'=>e = .returned (.tuple #[])∧∃vn',Wk g vf vr vn' rs (ns++n1) w'∧Mv g vr vn vr vn' w w':=by
 rcases hE with ⟨rfl,rfl⟩ | ⟨n,s,rfl,rfl⟩
 ·
  refine (bb_note_nil g vf vr vn rs ns w hW).mono ?_
  rintro e w1 ⟨rfl,hb⟩
  exact ⟨rfl,vn,by rw [List.append_nil];exact hW.below hb,Mv.of_below hb g vr vn⟩
 ·
  exact bb_note g s n vf vr vn rs ns w hT hT0 hW hnl
theorem bb_given_any (g:Nat) (l:List (List UInt8 × List UInt8)) (name t:List UInt8) (vf vr vn:Value) (rs:List (List UInt8)) (ns:List (Int × List UInt8)) (w:World) (hL:∀W,Below g w W→Laid10 W) (hW:Wk g vf vr vn rs ns w) (hS:SliceIn (fun j=>j<g) 2 RFl w vf l) (hs:Ix.Sorted l) (hl:l.length≤1000000) (hrl:rs.length≤1000000) (hG:(Ix.get l name).getD []=t) (ht:t.length≤1000000) :
  Calls Tryz.prog 14 #[.pointer (some ⟨g,0,none⟩),.string ⟨name.toArray⟩] w fun e w'=>∃vx ve vr',e = .returned (.tuple #[vx,ve])∧ErrIs ve (Bb.note0 t name)∧Wk g vf vr' vn (Bb.see rs name) ns w'∧Mv g vr vn vr' vn w w'∧SideIn (fun j=>w.heap.size<j∧vr'.ownBlock≠some j∧vn.ownBlock≠some j) w' vx (Bb.sideOf t):=by
 cases hd:Sd.dec t with
 | none =>
  refine (bb_given_none g l name t vf vr vn rs ns w hL hW hS hs hl hrl hG ht hd).mono ?_
  rintro e w1 ⟨rfl,vr',hW1,hM1⟩
  refine ⟨_,_,vr',rfl,.inr ⟨5,name,by unfold Bb.note0;rw [hd];rfl,rfl⟩,hW1,hM1,?_⟩
  unfold Bb.sideOf
  rw [hd]
  exact ⟨_,_,_,_,rfl,SliceIn.nil _ _ _ _,SliceIn.nil _ _ _ _,SliceIn.nil _ _ _ _,SliceIn.nil _ _ _ _⟩
 | some x =>
  refine (bb_given g l name t x vf vr vn rs ns w hL hW hS hs hl hrl hG ht hd).mono ?_
  rintro e w1 ⟨vx,vr',rfl,hW1,hM1,hX,_⟩
  refine ⟨vx,_,vr',rfl,.inl ⟨by unfold Bb.note0;rw [hd];rfl,rfl⟩,hW1,hM1,?_⟩
  unfold Bb.sideOf
  rw [hd]
  exact hX
def nsE (l:List (List UInt8 × List UInt8)) (name:List UInt8):List (Int × List UInt8):=match Ix.get l name with | none=>[(4,name)] | some _=>[]
def nsP (l:List (List UInt8 × List UInt8)) (name:List UInt8):List (Int × List UInt8):=match Ix.get l name with | none=>[] | some t=>(Ent.parse t).2
def esP (l:List (List UInt8 × List UInt8)) (name:List UInt8):List Ent.Ent:=match Ix.get l name with | none=>[] | some t=>(Ent.parse t).1
theorem base1_eq (l:Bb.Fls) (σ:Bb.St) (b:List UInt8):Bb.base1 l σ b=⟨Bb.see σ.rs (b++Bb.bibW),(σ.ns++nsP l (b++Bb.bibW))++nsE l (b++Bb.bibW),σ.es++esP l (b++Bb.bibW)⟩:=by
 unfold Bb.base1 nsP nsE esP
 cases Ix.get l (b++Bb.bibW) <;> simp
theorem bb_base_any (g:Nat) (l:List (List UInt8 × List UInt8)) (name:List UInt8) (vf vr vn:Value) (rs:List (List UInt8)) (ns:List (Int × List UInt8)) (w:World) (hW:Wk g vf vr vn rs ns w) (hS:SliceIn (fun j=>j<g) 2 RFl w vf l) (hs:Ix.Sorted l) (hl:l.length≤1000000) (hrl:rs.length≤1000000) (ht:∀x ∈ l,x.2.length≤500) (hnl:ns.length≤900000) :
  Calls Tryz.prog 16 #[.pointer (some ⟨g,0,none⟩),.string ⟨name.toArray⟩] w fun e w'=>∃vo ve vr' vn',e = .returned (.tuple #[vo,ve])∧ErrIs ve (nsE l name)∧Wk g vf vr' vn' (Bb.see rs name) (ns++nsP l name) w'∧Mv g vr vn vr' vn' w w'∧Ents (fun j=>w.heap.size≤j∧vr'.ownBlock≠some j∧vn'.ownBlock≠some j) w' vo (esP l name):=by
 unfold nsE nsP esP
 cases hg:Ix.get l name with
 | none =>
  refine (bb_base_none g l name vf vr vn rs ns w hW hS hs hl hrl hg).mono ?_
  rintro e w1 ⟨rfl,vr',hW1,hM1⟩
  exact ⟨_,_,vr',vn,rfl,.inr ⟨4,name,rfl,rfl⟩,by rw [List.append_nil];exact hW1,hM1,SliceIn.nil _ _ _ _⟩
 | some t =>
  have htl:=Bb.text_le l ht name
  rw [hg] at htl
  have htl:t.length≤500:=htl
  have hp:=(Bb.parse_b t htl).2.1
  refine (bb_base g l name t vf vr vn rs ns w hW hS hs hl hrl hg (by omega) (by omega)).mono ?_
  rintro e w1 ⟨vo,vr',vn',rfl,hW1,hM1,hE⟩
  exact ⟨vo,_,vr',vn',rfl,.inl ⟨rfl,rfl⟩,hW1,hM1,hE⟩
def one:Value→Value
 | .slice p n c=>.slice p n c
 | _=>.slice none 0 0
theorem one_cell (v:Value):(one v).oneCell'=true:=by unfold one;split <;> rfl
def cP (p:Ent.Ent × Value):List Value:=[.string ⟨p.1.kind.toArray⟩,.string ⟨p.1.key.toArray⟩,one p.2]
def RP (p:Ent.Ent × Value) (vs:List Value):Prop:=vs=cP p
theorem RP.size (p:Ent.Ent × Value) (vs:List Value) (h:RP p vs):vs.length=3:=by rw [h];rfl
theorem one_of {S:Nat→Prop} {w:World} {v:Value} {fs:List Ent.Fld} (h:SliceIn S 2 RFld w v fs):one v=v:=by
 obtain ⟨p,cap,rfl,_⟩:=h;rfl
theorem ents_zip {S:Nat→Prop} {w:World} {v:Value} {l:List Ent.Ent} (h:Ents S w v l):∃es:List (Ent.Ent × Value),es.map (·.1)=l∧SliceIn S 3 RP w v es∧∀p ∈ es,SliceIn S 2 RFld w p.2 p.1.fields:=by
 obtain ⟨p,cap,hv,h1,h2,h3⟩:=h
 have hex:∀i,∃vf,∀x,l[i]? = some x→(∃b off,p=some ⟨b,off,none⟩∧S b∧b<w.heap.size∧∀j u,(cP (x,vf))[j]? = some u→w.cell? ⟨b,off+(i*3+j),none⟩=some u)∧SliceIn S 2 RFld w vf x.fields:=fun i=>by
  cases hx:l[i]? with
  | none=>exact ⟨.nilIface,fun x h=>by cases h⟩
  | some x =>
   obtain ⟨b,off,vs,hp,hS,hlt,⟨vf,rfl,hF⟩,hc⟩:=h3 i x hx
   refine ⟨vf,fun y hy=>?_⟩
   obtain rfl:=Option.some.inj hy
   refine ⟨⟨b,off,hp,hS,hlt,fun j u hj=>hc j u ?_⟩,hF⟩
   unfold cP at hj
   dsimp only at hj
   rw [one_of hF] at hj
   exact hj
 obtain ⟨f,hf⟩:=Classical.skolem.1 hex
 have hget:∀(i:Nat) q,(l.mapIdx fun i x=>(x,f i))[i]? = some q → ∃x,l[i]? = some x∧q=(x,f i):=fun i q hq=>by
  rw [List.getElem?_mapIdx] at hq
  cases hx:l[i]? with
  | none=>rw [hx] at hq;cases hq
  | some x=>rw [hx] at hq;exact ⟨x,rfl,(Option.some.inj hq).symm⟩
 refine ⟨l.mapIdx fun i x=>(x,f i),?_,⟨p,cap,by rw [List.length_mapIdx];exact hv,by rw [List.length_mapIdx];exact h1,h2,fun i q hq=>?_⟩,fun q hq=>?_⟩
 ·
  refine List.ext_getElem? fun i=>?_
  rw [List.getElem?_map,List.getElem?_mapIdx]
  cases l[i]? <;> rfl
 ·
  obtain ⟨x,hx,rfl⟩:=hget i q hq
  obtain ⟨b,off,hp,hS,hlt,hc⟩:=(hf i x hx).1
  exact ⟨b,off,_,hp,hS,hlt,rfl,hc⟩
 ·
  obtain ⟨i,hi⟩:=List.getElem?_of_mem hq
  obtain ⟨x,hx,rfl⟩:=hget i q hi
  exact (hf i x hx).2
theorem ents_unzip {S:Nat→Prop} {w:World} {v:Value} {es:List (Ent.Ent × Value)} (h:SliceIn S 3 RP w v es) (hf:∀p ∈ es,SliceIn S 2 RFld w p.2 p.1.fields):Ents S w v (es.map (·.1)):=by
 obtain ⟨p,cap,hv,h1,h2,h3⟩:=h
 refine ⟨p,cap,by rw [List.length_map];exact hv,by rw [List.length_map];exact h1,h2,fun i x hx=>?_⟩
 rw [List.getElem?_map] at hx
 cases he:es[i]? with
 | none=>rw [he] at hx;cases hx
 | some q =>
  rw [he] at hx
  obtain rfl:=Option.some.inj hx
  obtain ⟨b,off,vs,hp,hS,hlt,hR,hc⟩:=h3 i q he
  have hF:=hf q (List.mem_of_getElem? he)
  have hR:vs=cP q:=hR
  unfold cP at hR
  rw [one_of hF] at hR
  exact ⟨b,off,vs,hp,hS,hlt,⟨q.2,hR,hF⟩,hc⟩
theorem own_keep {w w':World} {B e size n:Nat} {v:Value} {xs:List Value} (h:w.ownsRow B e size v n xs) (hb:∀k,v.ownBlock=some k→w'.heap[k]? = w.heap[k]?):w'.ownsRow B e size v n xs:=by
 obtain ⟨hl,h2⟩:=h
 refine ⟨hl,?_⟩
 rcases h2 with h2 | ⟨g,cap,cur,hv,hbg,hg,hle,hm,hcs,hcur⟩
 ·
  exact .inl h2
 ·
  exact .inr ⟨g,cap,cur,hv,hbg,(hb g (by rw [hv];rfl)).trans hg,hle,hm,hcs,hcur⟩
def Free (g:Nat) (vr vn va:Value) (j:Nat):Prop:=g<j∧vr.ownBlock≠some j∧vn.ownBlock≠some j∧va.ownBlock≠some j
theorem Free.mv {g:Nat} {vr vn vr' vn' va:Value} {w w':World} {j:Nat} (h:Free g vr vn va j) (hM:Mv g vr vn vr' vn' w w') (hj:j<w.heap.size):Free g vr' vn' va j∧w'.heap[j]? = w.heap[j]?:=by
 refine ⟨⟨h.1,fun e=>?_,fun e=>?_,h.2.2.2⟩,hM.block j hj (by have:=h.1;omega) h.2.1 h.2.2.1⟩
 ·
  rcases hM.r with q | ⟨k,q,hk⟩
  ·
   exact h.2.1 (q.symm.trans e)
  ·
   rw [q] at e;injection e with e;omega
 ·
  rcases hM.n with q | ⟨k,q,hk⟩
  ·
   exact h.2.2.1 (q.symm.trans e)
  ·
   rw [q] at e;injection e with e;omega
theorem Free.app {g:Nat} {vr vn va va':Value} {w w':World} {j:Nat} (h:Free g vr vn va j) (hg:w.grownBy w' va.ownBlock) (hat:va'.ownBlock=va.ownBlock∨va'.ownBlock=some w.heap.size) (hj:j<w.heap.size):Free g vr vn va' j∧w'.heap[j]? = w.heap[j]?:=by
 refine ⟨⟨h.1,h.2.1,h.2.2.1,fun e=>?_⟩,hg.block j hj (fun e=>h.2.2.2 e.symm)⟩
 rcases hat with q | q
 ·
  exact h.2.2.2 (q.symm.trans e)
 ·
  rw [q] at e;injection e with e;omega
theorem slice_free {α:Type} {size:Nat} {R:α→List Value→Prop} {g:Nat} {vr vn va vr' vn' va':Value} {w w':World} {v:Value} {xs:List α} (h:SliceIn (Free g vr vn va) size R w v xs) (hz:w.heap.size≤w'.heap.size) (hf:∀j,Free g vr vn va j→j<w.heap.size→Free g vr' vn' va' j∧w'.heap[j]? = w.heap[j]?):SliceIn (Free g vr' vn' va') size R w' v xs :=
 SliceIn.kept (SliceIn.strong h) (fun b hb=>(hf b hb.1 hb.2).1) hz (fun b hb hlt=>(hf b hb.1 hb.2).2) (fun _ _ _ h=>h)
structure AllE (g:Nat) (vr vn va:Value) (es:List Ent.Ent) (w:World):Prop where
 ex:∃ps:List (Ent.Ent × Value),ps.map (·.1)=es∧OwnL (g+1) 60 3 RP w va ps∧∀p ∈ ps,SliceIn (Free g vr vn va) 2 RFld w p.2 p.1.fields
structure Rs (g gs:Nat) (vf vr vn va vc vb:Value) (l:List (List UInt8 × List UInt8)) (x:Sd.Side) (rs:List (List UInt8)) (ns:List (Int × List UInt8)) (es:List Ent.Ent) (w0 w:World):Prop where
 wk:Wk g vf vr vn rs ns w
 fl:SliceIn (fun j=>j<g) 2 RFl w vf l
 all:AllE g vr vn va es w
 gsf:Free g vr vn va gs∧gs<w.heap.size
 c2:w.cell? ⟨gs,2,none⟩=some vc
 c3:w.cell? ⟨gs,3,none⟩=some vb
 cites:SliceIn (Free g vr vn va) 1 RStr w vc x.cites
 bibs:SliceIn (Free g vr vn va) 1 RStr w vb x.bibs
 low:Below g w0 w
section
variable {g gs:Nat} {vf vr vn va vc vb vr' vn' va':Value} {l:List (List UInt8 × List UInt8)} {x:Sd.Side} {rs rs':List (List UInt8)} {ns ns':List (Int × List UInt8)} {es es':List Ent.Ent} {w0 w w':World}
theorem AllE.own (h:AllE g vr vn va es w):∀k,va.ownBlock=some k→g+1≤k∧k<w.heap.size:=fun k hk=>by
 obtain ⟨ps,_,ho,_⟩:=h.ex
 exact ⟨ownL_ge ho k hk,ownL_lt ho k hk⟩
theorem AllE.mv (h:AllE g vr vn va es w) (hW:Wk g vf vr vn rs ns w) (hM:Mv g vr vn vr' vn' w w'):AllE g vr' vn' va es w':=by
 obtain ⟨ps,hm,ho,hf⟩:=h.ex
 refine ⟨ps,hm,?_,fun p hp=>slice_free (hf p hp) hM.size (fun j hj hlt=>hj.mv hM hlt)⟩
 have hra:=ownL_apart ho hW.r (by decide)
 have hna:=ownL_apart ho hW.n (by decide)
 obtain ⟨fl,h1,h2⟩:=ho
 exact ⟨fl,own_keep h1 (fun k hk=>hM.block k (h1.lt k hk).2 (by have:=(h1.lt k hk).1;omega) (hra k hk) (hna k hk)),h2⟩
theorem Rs.mv (h:Rs g gs vf vr vn va vc vb l x rs ns es w0 w) (hM:Mv g vr vn vr' vn' w w') (hW:Wk g vf vr' vn' rs' ns' w') (hg0:g≤w0.heap.size):Rs g gs vf vr' vn' va vc vb l x rs' ns' es w0 w':=by
 have hgs:=h.gsf.1.mv hM h.gsf.2
 refine ⟨hW,files_keep h.fl h.wk hM,h.all.mv h.wk hM,⟨hgs.1,Nat.lt_of_lt_of_le h.gsf.2 hM.size⟩,(World.cell?_of_block (a:=⟨gs,2,none⟩) hgs.2).trans h.c2,(World.cell?_of_block (a:=⟨gs,3,none⟩) hgs.2).trans h.c3,slice_free h.cites hM.size (fun j hj hlt=>hj.mv hM hlt),slice_free h.bibs hM.size (fun j hj hlt=>hj.mv hM hlt),?_⟩
 have hz:=h.low.size
 exact h.low.trans (hM.below (Nat.le_refl _) (fun k e=>by have:=ownL_ge h.wk.r k e;omega) (fun k e=>by have:=ownL_ge h.wk.n k e;omega) (by omega))
theorem Rs.below (h:Rs g gs vf vr vn va vc vb l x rs ns es w0 w) (hb:Below w.heap.size w w') (hg0:g≤w0.heap.size):Rs g gs vf vr vn va vc vb l x rs ns es w0 w':=h.mv (Mv.of_below hb g vr vn) (h.wk.below hb) hg0
theorem AllE.app (i:TypeInfo) (hi:Tryz.prog.info? 60 = some i) (hz0:i.zero=some (.agg #[.string ⟨#[]⟩,.string ⟨#[]⟩,.slice none 0 0])) (hz1:i.size=3) (hz2:i.bytes=56) (hA:AllE g vr vn va es w) (hg:g<w.heap.size) {vo:Value} {e2:List Ent.Ent} (hE:Ents (Free g vr vn va) w vo e2) (hn:es.length+e2.length≤1000000) :
  ∃va' w',(Builtin.append_ #[52, 52] 52 #[va,vo]).run Tryz.prog w = .ok va' w'∧AllE g vr vn va' (es++e2) w'∧w.grownBy w' va.ownBlock∧(va'.ownBlock=va.ownBlock∨va'.ownBlock=some w.heap.size):=by
 obtain ⟨ps,rfl,⟨fl,hown,hrep⟩,hf⟩:=hA.ex
 obtain ⟨qs,rfl,hS,hf2⟩:=ents_zip hE
 rw [List.length_map,List.length_map] at hn
 obtain ⟨v3,w3,hrun,own3,g3,at3⟩:=run_append_slice (P:=Tryz.prog) cP RP w (g+1) 52 52 60 i _ 3 56 Tryz.underlying52 hi hz0 hz1 hz2 (by decide) (by decide) va ps.length fl hown vo qs _ hS (fun _ _ h=>h) (fun _=>rfl) (fun y u hu=>by
  unfold cP at hu
  simp only [List.mem_cons,List.not_mem_nil,or_false] at hu
  rcases hu with rfl | rfl | rfl
  ·
   rfl
  ·
   rfl
  ·
   exact one_cell _) (by unfold maxLen;omega) (by omega) hg
 refine ⟨v3,w3,hrun,⟨ps++qs,by rw [List.map_append],⟨_,by rw [List.length_append];exact own3,rep_append hrep (rep_flat (R:=RP) cP (fun _=>rfl) qs)⟩,fun p hp=>?_⟩,g3,at3⟩
 rcases List.mem_append.1 hp with hp | hp
 ·
  exact slice_free (hf p hp) g3.size (fun j hj hlt=>hj.app g3 at3 hlt)
 ·
  exact slice_free (hf2 p hp) g3.size (fun j hj hlt=>hj.app g3 at3 hlt)
theorem Wk.app (h:Wk g vf vr vn rs ns w) (hA:AllE g vr vn va es w) (hg:w.grownBy w' va.ownBlock):Wk g vf vr vn rs ns w':=by
 obtain ⟨ps,_,ho,_⟩:=hA.ex
 refine ⟨h.t.grown hg (fun e=>by have:=ownL_ge ho g e;omega),?_,?_⟩
 ·
  exact ownL_grown h.r hg (fun j hj e=>ownL_apart ho h.r (by decide) j e hj)
 ·
  exact ownL_grown h.n hg (fun j hj e=>ownL_apart ho h.n (by decide) j e hj)
theorem Rs.app (h:Rs g gs vf vr vn va vc vb l x rs ns es w0 w) (hg:w.grownBy w' va.ownBlock) (hat:va'.ownBlock=va.ownBlock∨va'.ownBlock=some w.heap.size) (hA:AllE g vr vn va' es' w') (hg0:g≤w0.heap.size):Rs g gs vf vr vn va' vc vb l x rs ns es' w0 w':=by
 have hgs:=h.gsf.1.app hg hat h.gsf.2
 have hlo:∀j,j<g→va.ownBlock≠some j:=fun j hj e=>by have:=(h.all.own j e).1;omega
 have hz:=h.low.size
 have hgl:=h.wk.t.lt
 refine ⟨h.wk.app h.all hg,SliceIn.kept h.fl (fun _ h=>h) hg.size (fun b hb hlt=>hg.block b hlt (fun e=>hlo b hb e.symm)) (fun _ _ _ h=>h),hA,⟨hgs.1,Nat.lt_of_lt_of_le h.gsf.2 hg.size⟩,(World.cell?_of_block (a:=⟨gs,2,none⟩) hgs.2).trans h.c2,(World.cell?_of_block (a:=⟨gs,3,none⟩) hgs.2).trans h.c3,slice_free h.cites hg.size (fun j hj hlt=>hj.app hg hat hlt),slice_free h.bibs hg.size (fun j hj hlt=>hj.app hg hat hlt),?_⟩
 exact h.low.trans ⟨hg.os,hg.tape,hg.output,hg.size,fun k hk=>hg.block k (by omega) (fun e=>hlo k hk e.symm)⟩
end
theorem bb_append_notes {g:Nat} {vf vr vn vq:Value} {rs:List (List UInt8)} {ns nn:List (Int × List UInt8)} {w:World} {S:Nat→Prop} (i:TypeInfo) (hi:Tryz.prog.info? 77 = some i) (hz0:i.zero=some (.agg #[.int .i64 0,.string ⟨#[]⟩])) (hz1:i.size=2) (hz2:i.bytes=24) (hW:Wk g vf vr vn rs ns w) (hN:SliceIn S 2 RNote w vq nn) (hl:ns.length+nn.length≤1000000) :
  ∃v3 w3,(Builtin.append_ #[40, 40] 40 #[vn,vq]).run Tryz.prog w = .ok v3 w3∧(∃p n c,v3 = .slice p n c)∧w3.cell? ⟨g,2,none⟩=some vn∧w3.frozen? ⟨g,2,none⟩=false∧Wk g vf vr v3 rs (ns++nn) (w3.setCell ⟨g,2,none⟩ v3)∧Mv g vr vn vr v3 w (w3.setCell ⟨g,2,none⟩ v3):=by
 obtain ⟨fl,hown,hrep⟩:=hW.n
 have hlt:=hW.t.lt
 obtain ⟨v3,w3,hrun,own3,g3,at3⟩:=run_append_slice (P:=Tryz.prog) cN RNote w (g+1) 40 40 77 i _ 2 24 Tryz.underlying40 hi hz0 hz1 hz2 (by decide) (by decide) vn ns.length fl hown vq nn _ hN (fun _ _ h=>h) (fun _=>rfl) (fun y u hu=>by simp only [cN,List.mem_cons,List.not_mem_nil,or_false] at hu;rcases hu with rfl | rfl <;> rfl) (by unfold maxLen;omega) (by omega) hlt
 obtain ⟨p3,c3,hv3⟩:=own_form own3
 have hput:=hW.notes g3 (ns2:=ns++nn) ⟨_,by rw [List.length_append];exact own3,rep_append hrep (rep_flat (R:=RNote) cN (fun _=>rfl) nn)⟩ (at3.imp (fun h=>h) (fun h=>⟨_,h,Nat.le_refl _⟩))
 have hvg:vn.ownBlock≠some g:=fun e=>by have:=ownL_ge hW.n g e;omega
 exact ⟨v3,w3,hrun,⟨p3,_,c3,hv3⟩,(grown_cell g3 hlt hvg 2).trans hW.t.c2,(grown_frozen g3 hlt hvg 2).trans (hW.t.f 2),hput.1,hput.2⟩
end Go.Proofs.YtgnfmopcialllaaGreatDoor
set_option linter.unusedSimpArgs false
set_option linter.unusedVariables false
namespace Go.Proofs.YtgnfmopcialllaaGreatDoor
open Go.RowKit
theorem file_info:(Tryz.prog.info? 33).map (fun i=>(i.zero,i.size,i.bytes))=some (some (.agg #[.string ⟨#[]⟩,.string ⟨#[]⟩]),2,32):=by kernel_rfl
theorem f2_w1 (i:Nat) (h:i≤9223372036854775806):wrap64 ((i:Int)+1)=((i+1:Nat):Int):=by unfold wrap64;omega
namespace Ix
theorem nameB_arms (c:UInt8):nameB c=((decide (97≤c.toNat)&&decide (c.toNat≤122)) || (decide (48≤c.toNat)&&decide (c.toNat≤57)) || decide (c.toNat=45) || decide (c.toNat=46)):=by
 have:=byte_all (fun c=>nameB c == ((decide (97≤c.toNat)&&decide (c.toNat≤122)) || (decide (48≤c.toNat)&&decide (c.toNat≤57)) || decide (c.toNat=45) || decide (c.toNat=46))) (by decide +kernel) c
 simpa using this
abbrev Fl:=List UInt8 × List UInt8
def drop (l:List Fl) (n:List UInt8):List Fl:=l.filter fun x=>!(x.1 == n)
theorem drop_snoc (l:List Fl) (n:List UInt8) (k:Nat) (x:Fl) (h:l[k]? = some x):drop (l.take (k+1)) n=if x.1 == n then drop (l.take k) n else drop (l.take k) n++[x]:=by
 unfold drop
 rw [take_snoc l k x h,List.filter_append]
 cases hc:(x.1 == n) with
 | true=>rw [if_pos rfl,List.filter_cons,hc];simp
 | false=>rw [if_neg (by simp),List.filter_cons,hc];rfl
theorem drop_len (l:List Fl) (n:List UInt8):(drop l n).length≤l.length:=List.length_filter_le _ _
end Ix
set_option maxRecDepth 100000 in
set_option maxHeartbeats 1600000 in
theorem ref02_name (s:List UInt8) (w:World) (hs:s.length≤9223372036854775807) :
  Calls Tryz.prog 30 #[.string ⟨s.toArray⟩] w fun e w'=>e = .returned (.bool (Ix.nameOk s))∧w'=w:=by
 have Hs:=η hs;clear hs
 go_enter Tryz.func30, Tryz.ntmps30
 go_wp2_with fail
 go_loopw [2,3] (fun _ iv wr=>∃k:Nat,k≤s.length∧iv = .int .i64 (k:Int)∧(s.take k).all Ix.nameB=true∧wr=w) (fun _ iv _=>s.length - (intOf iv).toNat)
 case atStart=>exact ⟨0,Nat.zero_le _,rfl,rfl,rfl⟩
 case round =>
  obtain ⟨k,hk,rfl,ht,hw⟩:=hrel
  subst hw
  have Ht:=η ht;clear ht
  by_cases hlt:k<s.length
  ·
   obtain ⟨c,hc⟩:∃c,s[k]? = some c:=⟨_,List.getElem?_eq_getElem hlt⟩
   have hlt':(k:Int)<(s.length:Int):=by omega
   have hby:=byte_at s k c hc
   have hwk:=f2_w1 k (by have:=Hs.out;omega)
   have Hc:=η hc;have Hlt:=η hlt;have Hwk:=η hwk
   have harm:=η (Ix.nameB_arms c)
   clear hc hlt hk hwk
   go_upto_region 5 with fail
   clear hlt' hby
   go_cut [36] from 14 to 36 (fun v W=>v = .bool (!Ix.nameB c)∧W=wr)
   case first =>
    by_cases h1:97≤c.toNat
    ·
     by_cases h2:c.toNat≤122
     ·
      have g0:decide ((97:Int)≤(c.toNat:Int))=true:=decide_eq_true (by omega)
      have g1:decide ((c.toNat:Int)≤122)=true:=decide_eq_true (by omega)
      have hv:=η (show (!Ix.nameB c)=false by rw [harm.out];simp;omega)
      clear h1 h2
      go_wp2_with fail
      go_meet
      exact ⟨by rw [hv.out],rfl⟩
     ·
      have g0:decide ((97:Int)≤(c.toNat:Int))=true:=decide_eq_true (by omega)
      have g1:decide ((c.toNat:Int)≤122)=false:=decide_eq_false (by omega)
      have g2:decide ((48:Int)≤(c.toNat:Int))=true:=decide_eq_true (by omega)
      have g3:decide ((c.toNat:Int)≤57)=false:=decide_eq_false (by omega)
      have g4:((c.toNat:Int) == 45)=false:=by first | (simp;omega) | (rw [beq_iff_eq];omega)
      have g5:((c.toNat:Int) == 46)=false:=by first | (simp;omega) | (rw [beq_iff_eq];omega)
      have hv:=η (show (!Ix.nameB c)=true by rw [harm.out];simp;omega)
      clear h1 h2
      go_wp2_with fail
      go_meet
      exact ⟨by rw [hv.out],rfl⟩
    ·
     by_cases h3:48≤c.toNat
     ·
      by_cases h4:c.toNat≤57
      ·
       have g0:decide ((97:Int)≤(c.toNat:Int))=false:=decide_eq_false (by omega)
       have g1:decide ((48:Int)≤(c.toNat:Int))=true:=decide_eq_true (by omega)
       have g2:decide ((c.toNat:Int)≤57)=true:=decide_eq_true (by omega)
       have hv:=η (show (!Ix.nameB c)=false by rw [harm.out];simp;omega)
       clear h1 h3 h4
       go_wp2_with fail
       go_meet
       exact ⟨by rw [hv.out],rfl⟩
      ·
       have g0:decide ((97:Int)≤(c.toNat:Int))=false:=decide_eq_false (by omega)
       have g1:decide ((48:Int)≤(c.toNat:Int))=true:=decide_eq_true (by omega)
       have g2:decide ((c.toNat:Int)≤57)=false:=decide_eq_false (by omega)
       have g3:((c.toNat:Int) == 45)=false:=by first | (simp;omega) | (rw [beq_iff_eq];omega)
       have g4:((c.toNat:Int) == 46)=false:=by first | (simp;omega) | (rw [beq_iff_eq];omega)
       have hv:=η (show (!Ix.nameB c)=true by rw [harm.out];simp;omega)
       clear h1 h3 h4
       go_wp2_with fail
       go_meet
       exact ⟨by rw [hv.out],rfl⟩
     ·
      by_cases h5:c.toNat=45
      ·
       have g0:decide ((97:Int)≤(c.toNat:Int))=false:=decide_eq_false (by omega)
       have g1:decide ((48:Int)≤(c.toNat:Int))=false:=decide_eq_false (by omega)
       have g2:((c.toNat:Int) == 45)=true:=by first | (simp;omega) | (rw [beq_iff_eq];omega)
       have hv:=η (show (!Ix.nameB c)=false by rw [harm.out];simp;omega)
       clear h1 h3 h5
       go_wp2_with fail
       go_meet
       exact ⟨by rw [hv.out],rfl⟩
      ·
       by_cases h6:c.toNat=46
       ·
        have g0:decide ((97:Int)≤(c.toNat:Int))=false:=decide_eq_false (by omega)
        have g1:decide ((48:Int)≤(c.toNat:Int))=false:=decide_eq_false (by omega)
        have g2:((c.toNat:Int) == 45)=false:=by first | (simp;omega) | (rw [beq_iff_eq];omega)
        have g3:((c.toNat:Int) == 46)=true:=by first | (simp;omega) | (rw [beq_iff_eq];omega)
        have hv:=η (show (!Ix.nameB c)=false by rw [harm.out];simp;omega)
        clear h1 h3 h5 h6
        go_wp2_with fail
        go_meet
        exact ⟨by rw [hv.out],rfl⟩
       ·
        have g0:decide ((97:Int)≤(c.toNat:Int))=false:=decide_eq_false (by omega)
        have g1:decide ((48:Int)≤(c.toNat:Int))=false:=decide_eq_false (by omega)
        have g2:((c.toNat:Int) == 45)=false:=by first | (simp;omega) | (rw [beq_iff_eq];omega)
        have g3:((c.toNat:Int) == 46)=false:=by first | (simp;omega) | (rw [beq_iff_eq];omega)
        have hv:=η (show (!Ix.nameB c)=true by rw [harm.out];simp;omega)
        clear h1 h3 h5 h6
        go_wp2_with fail
        go_meet
        exact ⟨by rw [hv.out],rfl⟩
   case rest =>
    obtain ⟨rfl,hw⟩:=hcut
    have hw:=hw.symm
    subst hw
    cases hn:Ix.nameB c with
    | true =>
     have Ht2:=η (show (s.take (k+1)).all Ix.nameB=true by rw [List.take_add_one,Hc.out,List.all_append,Ht.out];simp [hn])
     clear hn
     go_wp2_with fail
     go_roundw
     case rel=>exact ⟨k+1,by have:=Hlt.out;omega,by first | rfl | rw [Hwk.out],Ht2.out,trivial⟩
     case measure=>have:=Hlt.out;(try rw [Hwk.out]);simp [intOf];omega
    | false =>
     have Hr:=η (show Ix.nameOk s=false by
      have h2:s.all Ix.nameB=false:=by
       rw [List.all_eq_false]
       exact ⟨c,List.mem_of_getElem? Hc.out,by rw [hn];simp⟩
      unfold Ix.nameOk
      rw [h2];rfl)
     clear hn
     go_wp2_with fail
     go_ret
     exact ⟨ret_bool Hr.out.symm,rfl⟩
  ·
   have he:k=s.length:=by omega
   subst he
   have ha:=Ht.out
   rw [List.take_length] at ha
   have Ha:=η ha
   clear hlt hk ha
   by_cases h1:1≤s.length
   ·
    have g1:decide ((1:Int)≤(s.length:Int))=true:=decide_eq_true (by omega)
    by_cases h2:s.length≤24
    ·
     have g2:decide ((s.length:Int)≤24)=true:=decide_eq_true (by omega)
     have Hr:=η (show Ix.nameOk s=true by unfold Ix.nameOk;rw [Ha.out];simp [h1,h2])
     clear h1 h2
     go_wp2_with fail
     go_ret
     exact ⟨ret_bool Hr.out.symm,rfl⟩
    ·
     have g2:decide ((s.length:Int)≤24)=false:=decide_eq_false (by omega)
     have Hr:=η (show Ix.nameOk s=false by unfold Ix.nameOk;rw [Ha.out];simp;intro _;omega)
     clear h1 h2
     go_wp2_with fail
     go_ret
     exact ⟨ret_bool Hr.out.symm,rfl⟩
   ·
    have g1:decide ((1:Int)≤(s.length:Int))=false:=decide_eq_false (by omega)
    have Hr:=η (show Ix.nameOk s=false by unfold Ix.nameOk;rw [Ha.out];simp [h1])
    clear h1
    go_wp2_with fail
    go_ret
    exact ⟨ret_bool Hr.out.symm,rfl⟩
set_option maxRecDepth 100000 in
set_option maxHeartbeats 1600000 in
theorem ref02_drop (l:List Ix.Fl) (n:List UInt8) (v:Value) (S:Nat→Prop) (w:World) (hS:SliceIn S 2 RFl w v l) (hl:l.length≤100000) :
  Calls Tryz.prog 31 #[v,.string ⟨n.toArray⟩] w fun e w'=>∃g c:Nat,e = .returned (.tuple #[.slice (some ⟨g,0,none⟩) (Ix.drop l n).length c,.bool (decide ((Ix.drop l n).length<l.length))])∧OwnL w.heap.size 33 2 RFl w' (.slice (some ⟨g,0,none⟩) (Ix.drop l n).length c) (Ix.drop l n)∧Below w.heap.size w w':=by
 obtain ⟨i0,hi,hz0,hz1,hz2⟩:=info_parts file_info
 have Hi:=η hi;have Hz0:=η hz0;have Hz1:=η hz1;have Hz2:=η hz2;clear hi hz0 hz1 hz2
 obtain ⟨pa,cap,rfl,hle,hmx,hat⟩:=hS
 have Hat:=η hat;have Hl:=η hl
 clear hat hl hle hmx
 have hO:=η (OwnL.made w.heap.size 33 2 RFl w (Nat.le_refl _))
 have hB:=η (below_new w (.cells #[] 33))
 go_enter Tryz.func31, Tryz.ntmps31
 go_wp2_with fail
 go_loopw [6,7] (fun ov iv wr=>∃k g c:Nat,k≤l.length∧iv = .int .i64 (k:Int)∧ov = .slice (some ⟨g,0,none⟩) (Ix.drop (l.take k) n).length c∧OwnL w.heap.size 33 2 RFl wr ov (Ix.drop (l.take k) n)∧Below w.heap.size w wr) (fun _ iv _=>l.length - (intOf iv).toNat)
 case atStart=>exact ⟨0,_,_,Nat.zero_le _,rfl,rfl,hO.out,hB.out⟩
 case round =>
  clear hO hB
  obtain ⟨k,g,c,hk,rfl,rfl,hO,hb⟩:=hrel
  have HO:=η hO;have Hb:=η hb
  clear hO hb
  by_cases hlt:k<l.length
  ·
   obtain ⟨x,hx⟩:∃x,l[k]? = some x:=⟨_,List.getElem?_eq_getElem hlt⟩
   have hsn:=Ix.drop_snoc l n k x hx
   have hll:(Ix.drop (l.take k) n).length≤100000:=by have:=Ix.drop_len (l.take k) n;rw [List.length_take] at this;have:=Hl.out;omega
   obtain ⟨L,hL⟩:∃L,L=Ix.drop (l.take k) n:=⟨_,rfl⟩
   rw [←hL] at HO hsn hll ⊢
   obtain ⟨b,off,vs,rfl,_,hbw,hR,hc⟩:=Hat.out k x hx
   have hR:vs=_:=hR
   subst hR
   obtain ⟨xn,xt⟩:=x
   have e0:wr.cell? ⟨b,off+k*2,none⟩=some (.string ⟨xn.toArray⟩):=(Hb.out.cell (p:=⟨b,off+k*2,none⟩) hbw).trans (hc 0 _ rfl)
   have e1:wr.cell? ⟨b,off+k*2+1,none⟩=some (.string ⟨xt.toArray⟩):=(Hb.out.cell (p:=⟨b,off+k*2+1,none⟩) hbw).trans (hc 1 _ rfl)
   have hlt':(k:Int)<(l.length:Int):=by omega
   have hwk:=f2_w1 k (by have:=Hl.out;omega)
   have Hwk:=η hwk;have Hlt:=η hlt;have Hsn:=η hsn;have Hll:=η hll
   clear hwk hlt hk hx hL hc hbw hsn hll
   obtain ⟨fl,hown,hrep⟩:=HO.out
   have Hown:=η hown;have Hrep:=η hrep
   have Hm1:=η (show L.length+1≤maxLen by have:=Hll.out;unfold maxLen;omega)
   have Hn1:=η (show (L.length+1)*32≤140737488355328 by have:=Hll.out;omega)
   have H0W:=η Hb.out.size
   clear hown hrep
   cases hxn:(xn == n) with
   | true =>
    have Hst:=η (show Ix.drop (l.take (k+1)) n=L by rw [Hsn.out];simp only [hxn];simp)
    go_wp2_with fail
    go_roundw
    case rel=>exact ⟨k+1,g,c,by have:=Hlt.out;omega,by first | rfl | rw [Hwk.out],by rw [Hst.out],by rw [Hst.out];exact HO.out,Hb.out⟩
    case measure=>have:=Hlt.out;(try rw [Hwk.out]);simp [intOf];omega
   | false =>
    have Hst:=η (show Ix.drop (l.take (k+1)) n=L++[(xn,xt)] by rw [Hsn.out];simp only [hxn];simp)
    go_wp2_with (at_builtin;go_loud (refine wpList_append1 rfl (.tmp 22) (.tmp 27) 22 rfl w.heap.size 33 i0 (.agg #[.string ⟨#[]⟩,.string ⟨#[]⟩]) 2 32 Tryz.underlying22 Hi.out Hz0.out Hz1.out Hz2.out rfl (by decide) _ _ _ Hown.out rfl [.string ⟨xn.toArray⟩,.string ⟨xt.toArray⟩] rfl (by simp) rfl (by simp [Value.oneCell']) Hm1.out Hn1.out H0W.out ?_);intro v2 w9 own2 g2 at2;obtain ⟨p2,cap2,hv2,_⟩:=own2.form (Nat.succ_pos _);subst hv2)
    go_roundw
    case rel =>
     refine ⟨k+1,p2,cap2,by have:=Hlt.out;omega,by first | rfl | rw [Hwk.out],by rw [Hst.out,List.length_append];rfl,?_,Hb.out.grown g2 H0W.out (fun q e=>(World.ownsRow.lt Hown.out q e).1)⟩
     rw [Hst.out]
     exact ⟨_,by rw [List.length_append];exact own2,RepRow.snoc (R:=RFl) (x:=(xn,xt)) (vs:=[.string ⟨xn.toArray⟩,.string ⟨xt.toArray⟩]) rfl Hrep.out⟩
    case measure=>have:=Hlt.out;(try rw [Hwk.out]);simp [intOf];omega
  ·
   have he:k=l.length:=by omega
   subst he
   rw [List.take_length] at HO ⊢
   obtain ⟨D,hD⟩:∃D,D=Ix.drop l n:=⟨_,rfl⟩
   rw [←hD] at HO ⊢
   have HD:=η hD
   clear hlt hk hD
   go_wp2_with fail
   go_ret2
   exact ⟨g,c,by rw [←HD.out];simp,by rw [←HD.out];exact HO.out,Hb.out⟩
end Go.Proofs.YtgnfmopcialllaaGreatDoor
set_option linter.unusedSimpArgs false
set_option linter.unusedVariables false
namespace Go.Proofs.YtgnfmopcialllaaGreatDoor
open Go.RowKit
namespace Ix
def aheadN (l:List Fl) (n:List UInt8):Nat:=(l.takeWhile fun x=>Op.bytesLess x.1 n).length
def putBig (l:List Fl) (f:Fl):Bool:=decide (4000<f.2.length) || (!decide ((drop l f.1).length<l.length)&&decide (32≤l.length))
def putE (l:List Fl) (f:Fl):Int:=if nameOk f.1 then (if putBig l f then 3 else 0) else 2
def putL (l:List Fl) (f:Fl):List Fl:=(drop l f.1).take (aheadN (drop l f.1) f.1)++[f]++(drop l f.1).drop (aheadN (drop l f.1) f.1)
theorem aheadN_le (l:List Fl) (n:List UInt8):aheadN l n≤l.length:=(List.takeWhile_prefix _).length_le
theorem aheadN_lt (n:List UInt8):∀(l:List Fl) (k:Nat) (x:Fl),l[k]? = some x→k<aheadN l n→Op.bytesLess x.1 n=true
 | [],k,x,h,_=>by simp at h
 | y::r,k,x,h,hk=>by
  unfold aheadN at hk
  rw [List.takeWhile_cons] at hk
  cases hy:Op.bytesLess y.1 n with
  | false=>rw [hy] at hk;simp at hk
  | true =>
   rw [hy] at hk
   cases k with
   | zero=>simp at h;rw [←h];exact hy
   | succ k=>exact aheadN_lt n r k x (by simpa using h) (by simpa [aheadN] using hk)
theorem aheadN_at (n:List UInt8):∀(l:List Fl) (x:Fl),l[aheadN l n]? = some x→Op.bytesLess x.1 n=false
 | [],x,h=>by simp at h
 | y::r,x,h=>by
  unfold aheadN at h
  rw [List.takeWhile_cons] at h
  cases hy:Op.bytesLess y.1 n with
  | false =>
   rw [hy] at h
   simp at h
   rw [←h];exact hy
  | true =>
   rw [hy] at h
   exact aheadN_at n r x (by simpa [aheadN] using h)
theorem putL_len (l:List Fl) (f:Fl):(putL l f).length≤l.length+1:=by
 have h1:=aheadN_le (drop l f.1) f.1
 have h2:=drop_len l f.1
 unfold putL
 rw [List.length_append,List.length_append,List.length_take,List.length_drop]
 simp
 omega
end Ix
theorem flat2 (l:List Ix.Fl):(l.flatMap cF).length=l.length*2:=len_flat cF 2 (fun _=>rfl) l
theorem rep_flat2 (l:List Ix.Fl) (fl:List Value) (h:RepRow RFl l fl):fl=l.flatMap cF:=by
 induction l generalizing fl with
 | nil=>exact h
 | cons x r ih =>
  obtain ⟨vs,rest,rfl,hx,hr⟩:=h
  have hx:vs=_:=hx
  rw [ih rest hr,hx,List.flatMap_cons]
  rfl
theorem row_flat2 (l:List Ix.Fl):RepRow RFl l (l.flatMap cF):=rep_flat (R:=RFl) cF (fun _=>rfl) l
theorem flat_get (l:List Ix.Fl) (j q:Nat) (x:Value) (h:((l.drop j).flatMap cF)[q]? = some x):(l.flatMap cF)[j*2+q]? = some x:=by
 induction j generalizing l with
 | zero=>simpa using h
 | succ j ih =>
  cases l with
  | nil=>simp at h
  | cons y r =>
   rw [List.drop_succ_cons] at h
   have:=ih r h
   rw [List.flatMap_cons,List.getElem?_append_right (by show 2≤_;omega)]
   rw [show (j+1)*2+q - (cF y).length=j*2+q by show (j+1)*2+q - 2=_;omega]
   exact this
set_option maxRecDepth 100000 in
set_option maxHeartbeats 6400000 in
theorem ref02_put (l:List Ix.Fl) (n t:List UInt8) (v:Value) (S:Nat→Prop) (w:World) (hS:SliceIn S 2 RFl w v l) (hl:l.length≤10000) (hn:n.length≤9223372036854775807) (ht:t.length≤1000000) :
  Calls Tryz.prog 12 #[v,.agg #[.string ⟨n.toArray⟩,.string ⟨t.toArray⟩]] w fun e w'=>∃va,e = .returned (.tuple #[va,.int .i64 (Ix.putE l (n,t))])∧(Ix.putE l (n,t)=0→OwnL w.heap.size 33 2 RFl w' va (Ix.putL l (n,t)))∧Below w.heap.size w w':=by
 obtain ⟨i0,hi,hz0,hz1,hz2⟩:=info_parts file_info
 have Hi:=η hi;have Hz0:=η hz0;have Hz1:=η hz1;have Hz2:=η hz2;clear hi hz0 hz1 hz2
 obtain ⟨pa,cap,rfl⟩:∃pa cap,v = .slice pa l.length cap:=by obtain ⟨pa,cap,h,_⟩:=hS;exact ⟨pa,cap,h⟩
 obtain ⟨W0,hW0⟩:∃W,W=w.alloc (.cells #[.string ⟨n.toArray⟩,.string ⟨t.toArray⟩] 33):=⟨_,rfl⟩
 have hB0:Below w.heap.size w W0:=by rw [hW0];exact below_new _ _
 have hs0:W0.heap.size=w.heap.size+1:=by rw [hW0];simp
 have hc0:W0.cell? ⟨w.heap.size,0,none⟩=some (.string ⟨n.toArray⟩):=by rw [hW0,cell_of_row _ _ _ _ _ _ (heap_alloc_new w _)];rfl
 have hc1:W0.cell? ⟨w.heap.size,1,none⟩=some (.string ⟨t.toArray⟩):=by rw [hW0,cell_of_row _ _ _ _ _ _ (heap_alloc_new w _)];rfl
 have Bx:=η (show ∀W,Below W0.heap.size W0 W→W.cell? ⟨w.heap.size,0,none⟩=some (.string ⟨n.toArray⟩)∧W.cell? ⟨w.heap.size,1,none⟩=some (.string ⟨t.toArray⟩) from fun W hW=>⟨(hW.cell (p:=⟨w.heap.size,0,none⟩) (by show w.heap.size<_;omega)).trans hc0,(hW.cell (p:=⟨w.heap.size,1,none⟩) (by show w.heap.size<_;omega)).trans hc1⟩)
 have HS:=η (show SliceIn S 2 RFl W0 (.slice pa l.length cap) l from hS.below hB0 (fun _ _ _ h=>h))
 have HB0:=η hB0;have Hs0:=η hs0;have Hl:=η hl;have Hn:=η hn;have Ht:=η ht
 clear hS hB0 hs0 hc0 hc1 hl hn ht
 have hpe:Ix.putE l (n,t)=if Ix.nameOk n then (if Ix.putBig l (n,t) then 3 else 0) else 2:=rfl
 have Hpe:=η hpe;clear hpe
 go_enter Tryz.func12, Tryz.ntmps12
 go_upto_region 1 with fail
 rw [←hW0]
 clear hW0
 obtain ⟨B,hB⟩:∃B,B=w.heap.size:=⟨_,rfl⟩
 have HBe:=η hB
 have b0:=(Bx.out W0 (Below.refl _ _)).1
 rw [←hB] at b0 ⊢
 have Bx':=η (show ∀W,Below W0.heap.size W0 W→W.cell? ⟨B,0,none⟩=some (.string ⟨n.toArray⟩)∧W.cell? ⟨B,1,none⟩=some (.string ⟨t.toArray⟩) by rw [hB];exact Bx.out)
 clear Bx hB
 go_wp2_with fail
 refine (ref02_name n W0 Hn.out).mono ?_
 cases hok:Ix.nameOk n with
 | false =>
  rintro e w' ⟨rfl,hw'⟩
  have hw':=hw'.symm
  subst hw'
  have Hv:=η (show Ix.putE l (n,t)=2 by rw [Hpe.out,hok];rfl)
  clear hok
  go_wp2_with fail
  go_ret2
  exact ⟨.slice none 0 0,by rw [Hv.out];simp,fun h=>(by rw [Hv.out] at h;cases h),HB0.out⟩
 | true =>
  rintro e w' ⟨rfl,hw'⟩
  have hw':=hw'.symm
  subst hw'
  have Hok:=η hok;clear hok
  go_wp2_with fail
  refine (ref02_drop l n _ S W0 HS.out (by have:=Hl.out;omega)).mono ?_
  rintro e w2 ⟨gr,cr,rfl,hR,hb2⟩
  have b1:=(Bx'.out w2 hb2).2
  have hbg:Ix.putBig l (n,t)=(decide (4000<t.length) || (!decide ((Ix.drop l n).length<l.length)&&decide (32≤l.length))):=rfl
  have hpl:Ix.putL l (n,t)=(Ix.drop l n).take (Ix.aheadN (Ix.drop l n) n)++[(n,t)]++(Ix.drop l n).drop (Ix.aheadN (Ix.drop l n) n):=rfl
  have hRl:=Ix.drop_len l n
  obtain ⟨R,hRe⟩:∃R,R=Ix.drop l n:=⟨_,rfl⟩
  rw [←hRe] at hR hbg hpl hRl ⊢
  have hmle:=Ix.aheadN_le R n
  have Hmlt:=η (Ix.aheadN_lt n R)
  have Hmat:=η (Ix.aheadN_at n R)
  obtain ⟨m,hm⟩:∃m,m=Ix.aheadN R n:=⟨_,rfl⟩
  rw [←hm] at hmle Hmlt Hmat hpl
  obtain ⟨was,hwas⟩:∃b,b=decide (R.length<l.length):=⟨_,rfl⟩
  obtain ⟨big,hbig⟩:∃b,b=Ix.putBig l (n,t):=⟨_,rfl⟩
  rw [←hwas] at hbg ⊢
  rw [←hbig] at hbg
  have HR:=η hR;have Hb2:=η hb2;have Hbg:=η hbg;have Hpl:=η hpl;have HRl:=η (show R.length≤10000 by have:=Hl.out;omega);have Hmle:=η hmle;have Hbig:=η hbig
  clear hR hb2 hbg hpl hRl hRe hmle hm hwas hbig b0
  go_upto_region 4 with fail
  go_cut [34] from 22 to 34 (fun v W=>v = .bool big∧W=w2)
  case first =>
   by_cases h4:4000<t.length
   ·
    have g1:decide ((4000:Int)<(t.length:Int))=true:=decide_eq_true (by omega)
    have hv:=η (show big=true by rw [Hbg.out];simp [h4])
    clear h4
    go_wp2_with fail
    go_meet
    exact ⟨by rw [hv.out],rfl⟩
   ·
    have g1:decide ((4000:Int)<(t.length:Int))=false:=decide_eq_false (by omega)
    cases was with
    | true =>
     have hv:=η (show big=false by rw [Hbg.out];simp;omega)
     clear h4
     go_wp2_with fail
     go_meet
     exact ⟨by rw [hv.out],rfl⟩
    | false =>
     by_cases h32:32≤l.length
     ·
      have g2:decide ((32:Int)≤(l.length:Int))=true:=decide_eq_true (by omega)
      have hv:=η (show big=true by rw [Hbg.out];simp [h32])
      clear h4 h32
      go_wp2_with fail
      go_meet
      exact ⟨by rw [hv.out],rfl⟩
     ·
      have g2:decide ((32:Int)≤(l.length:Int))=false:=decide_eq_false (by omega)
      have hv:=η (show big=false by rw [Hbg.out];simp;omega)
      clear h4 h32
      go_wp2_with fail
      go_meet
      exact ⟨by rw [hv.out],rfl⟩
  case rest =>
   obtain ⟨rfl,hw⟩:=hcut
   have hw:=hw.symm
   subst hw
   cases big with
   | true =>
    have Hv:=η (show Ix.putE l (n,t)=3 by rw [Hpe.out,Hok.out,←Hbig.out];rfl)
    go_wp2_with fail
    go_ret2
    exact ⟨.slice none 0 0,by rw [Hv.out];simp,fun h=>(by rw [Hv.out] at h;cases h),bseq HB0.out Hb2.out⟩
   | false =>
    have Hv:=η (show Ix.putE l (n,t)=0 by rw [Hpe.out,Hok.out,←Hbig.out];rfl)
    clear b1
    obtain ⟨u,rfl⟩:∃u,u=w2:=⟨_,rfl⟩
    have hO2:=η (OwnL.made u.heap.size 33 2 RFl u (Nat.le_refl _))
    have hB2:=η (below_new u (.cells #[] 33))
    have Cell:=η (show ∀(q:Nat) (x:Value) (W:World),(R.flatMap cF)[q]? = some x→Below u.heap.size u W→W.cell? ⟨gr,q,none⟩=some x from fun q x W hq hW=>by
     obtain ⟨fl,h1,h2⟩:=HR.out.below hW
     obtain rfl:=rep_flat2 _ _ h2
     have hql:=(List.getElem?_eq_some_iff.1 hq).1
     rw [flat2] at hql
     rw [World.ownsRow.cellAt h1 q hql]
     exact hq)
    go_wp2_with fail
    go_loopw [8,9] (fun ov jv wr=>∃j g2 c2:Nat,j≤m∧jv = .int .i64 (j:Int)∧ov = .slice (some ⟨g2,0,none⟩) j c2∧OwnL u.heap.size 33 2 RFl wr ov (R.take j)∧Below u.heap.size u wr) (fun _ jv _=>R.length - (intOf jv).toNat)
    case atStart=>exact ⟨0,_,_,Nat.zero_le _,rfl,rfl,hO2.out,hB2.out⟩
    case round =>
     clear hO2 hB2
     obtain ⟨j,g2,c2,hj,rfl,rfl,hO2,hb2⟩:=hrel
     have HO2:=η hO2;have Hbj:=η hb2;have Hj:=η hj
     clear hO2 hb2
     obtain ⟨bb,hbb⟩:∃bb,bb=decide (j<m):=⟨_,rfl⟩
     have Hbb:=η hbb
     clear hbb
     go_upto_region 8 with fail
     go_cut [49] from 36 to 49 (fun v W=>v = .bool bb∧Below wr.heap.size wr W)
     case first =>
      have b0:=(Bx'.out wr (bseq Hb2.out Hbj.out)).1
      by_cases hjR:j<R.length
      ·
       obtain ⟨x,hx⟩:∃x,R[j]? = some x:=⟨_,List.getElem?_eq_getElem hjR⟩
       have e0:wr.cell? ⟨gr,j*2,none⟩=some (.string ⟨x.1.toArray⟩):=Cell.out (j*2) _ wr (by
        have:=flat_get R j 0 (.string ⟨x.1.toArray⟩) (by
         obtain ⟨h1,h2⟩:=List.getElem?_eq_some_iff.1 hx
         rw [List.drop_eq_getElem_cons h1,h2];rfl)
        simpa using this) Hbj.out
       have hjI:(j:Int)<(R.length:Int):=by omega
       have hbl:Op.bytesLess x.1 n=bb:=by
        rw [Hbb.out]
        by_cases hjm:j<m
        ·
         rw [decide_eq_true hjm];exact Hmlt.out j x hx hjm
        ·
         have he:j=m:=by omega
         subst he
         rw [decide_eq_false hjm];exact Hmat.out x hx
       obtain ⟨xn,xt⟩:=x
       simp only at e0 hbl
       clear hx hjR
       go_quiet (fail)
       go_wp2_with fail
       go_meet
       exact ⟨by first | rfl | rw [←hbl] | simp [hbl],below_drewN (Below.refl _ _) _⟩
      ·
       have hb':bb=false:=by rw [Hbb.out];exact decide_eq_false (by have:=Hmle.out;omega)
       have Hb':=η hb'
       clear hb'
       go_quiet (fail)
       go_wp2_with fail
       go_meet
       exact ⟨by rw [Hb'.out],below_drewN (Below.refl _ _) _⟩
     case rest =>
      obtain ⟨rfl,hbc⟩:=hcut
      have Hbc:=η (bseq Hbj.out hbc)
      obtain ⟨fl,hown,hrep⟩:=HO2.out.below hbc
      rw [List.length_take,Nat.min_eq_left (by have:=Hmle.out;omega)] at hown
      have Hown:=η hown;have Hrep:=η hrep
      have Hm1:=η (show j+1≤maxLen by have:=HRl.out;have:=Hmle.out;unfold maxLen;omega)
      have Hn1:=η (show (j+1)*32≤140737488355328 by have:=HRl.out;have:=Hmle.out;omega)
      have H0W:=η Hbc.out.size
      clear hbc hown hrep hj
      cases bb with
      | true =>
       have hjm:j<m:=of_decide_eq_true Hbb.out.symm
       obtain ⟨x,hx⟩:∃x,R[j]? = some x:=⟨_,List.getElem?_eq_getElem (by have:=Hmle.out;omega)⟩
       have hd:R.drop j=x::R.drop (j+1):=by
        obtain ⟨h1,h2⟩:=List.getElem?_eq_some_iff.1 hx
        rw [List.drop_eq_getElem_cons h1,h2]
       have e0:wc.cell? ⟨gr,j*2,none⟩=some (.string ⟨x.1.toArray⟩):=Cell.out (j*2) _ wc (by
        have:=flat_get R j 0 (.string ⟨x.1.toArray⟩) (by rw [hd];rfl)
        simpa using this) Hbc.out
       have e1:wc.cell? ⟨gr,j*2+1,none⟩=some (.string ⟨x.2.toArray⟩):=Cell.out (j*2+1) _ wc (flat_get R j 1 (.string ⟨x.2.toArray⟩) (by rw [hd];rfl)) Hbc.out
       have Hsn:=η (show R.take (j+1)=R.take j++[x] by rw [List.take_add_one,hx];rfl)
       obtain ⟨xn,xt⟩:=x
       simp only at e0 e1
       have hjI:(j:Int)<(R.length:Int):=by have:=Hmle.out;omega
       have Hwj:=η (f2_w1 j (by have:=HRl.out;have:=Hmle.out;omega))
       have Hjm:=η hjm
       clear hx hd hjm
       go_wp2_with (at_builtin;go_loud (refine wpList_append1 rfl (.tmp 52) (.tmp 57) 22 rfl u.heap.size 33 i0 (.agg #[.string ⟨#[]⟩,.string ⟨#[]⟩]) 2 32 Tryz.underlying22 Hi.out Hz0.out Hz1.out Hz2.out rfl (by decide) _ _ _ Hown.out rfl [.string ⟨xn.toArray⟩,.string ⟨xt.toArray⟩] rfl (by simp) rfl (by simp [Value.oneCell']) Hm1.out Hn1.out H0W.out ?_);intro v2 w9 own2 g3 at2;obtain ⟨p2,cap2,hv2,_⟩:=own2.form (Nat.succ_pos _);subst hv2)
       go_roundw
       case rel =>
        refine ⟨j+1,p2,cap2,by have:=Hjm.out;omega,by first | rfl | rw [Hwj.out],rfl,?_,Hbc.out.grown g3 H0W.out (fun q e=>(World.ownsRow.lt Hown.out q e).1)⟩
        rw [Hsn.out]
        exact ⟨_,by rw [List.length_append,List.length_take,Nat.min_eq_left (by have:=Hmle.out;have:=Hjm.out;omega)];exact own2,RepRow.snoc (R:=RFl) (x:=(xn,xt)) (vs:=[.string ⟨xn.toArray⟩,.string ⟨xt.toArray⟩]) rfl Hrep.out⟩
       case measure=>have:=Hjm.out;have:=Hmle.out;(try rw [Hwj.out]);simp [intOf];omega
      | false =>
       have he:j=m:=by have:=of_decide_eq_false Hbb.out.symm;have:=Hj.out;omega
       subst he
       have b0:=(Bx'.out wc (bseq Hb2.out Hbc.out)).1
       have b1:=(Bx'.out wc (bseq Hb2.out Hbc.out)).2
       obtain rfl:=rep_flat2 _ _ Hrep.out
       have Hcap:=η (show R.length≤cr by
        obtain ⟨fq,h1,_⟩:=HR.out
        rcases h1.2 with ⟨hv,_⟩ | ⟨_,_,_,hv,_,_,hle,_⟩
        ·
         cases hv
        ·
         simp only [Value.slice.injEq] at hv
         obtain ⟨_,_,rfl⟩:=hv
         exact hle)
       go_upto_region 13 with (at_builtin;go_loud (refine wpList_append1 rfl (.tmp 61) (.tmp 63) 22 rfl u.heap.size 33 i0 (.agg #[.string ⟨#[]⟩,.string ⟨#[]⟩]) 2 32 Tryz.underlying22 Hi.out Hz0.out Hz1.out Hz2.out rfl (by decide) _ _ _ Hown.out rfl [.string ⟨n.toArray⟩,.string ⟨t.toArray⟩] rfl (by simp) rfl (by simp [Value.oneCell']) Hm1.out Hn1.out H0W.out ?_);intro v2 w9 own2 g3 at2;obtain ⟨p2,cap2,hv2,_⟩:=own2.form (Nat.succ_pos _);subst hv2)
       clear b0 b1
       have hb9:=Hbc.out.grown g3 H0W.out (fun q e=>(World.ownsRow.lt Hown.out q e).1)
       have HB9:=η hb9
       have hjl0:decide ((j:Int)<0)=false:=decide_eq_false (by omega)
       have hjR2:(j:Int)≤(R.length:Int):=by have:=Hmle.out;omega
       have hRc:(R.length:Int)≤(cr:Int):=by have:=Hcap.out;omega
       by_cases hcj:cr=j
       ·
        have hjl:R.drop j=[]:=List.drop_of_length_le (by have:=Hcap.out;have:=Hmle.out;omega)
        obtain ⟨v3,w10,hrun,own3,g4,_,_⟩:=run_append_own_at (P:=Tryz.prog) w9 u.heap.size 22 22 33 i0 (.agg #[.string ⟨#[]⟩,.string ⟨#[]⟩]) 2 32 Tryz.underlying22 Hi.out Hz0.out Hz1.out Hz2.out rfl (by decide) _ _ _ own2 ⟨gr,0,none⟩ (R.length - j) (cr - j) ((R.drop j).flatMap cF) (by rw [flat2,List.length_drop]) (fun q x hq=>by rw [hjl] at hq;simp at hq) (fun z hz=>by rw [hjl] at hz;simp at hz) (by have:=HRl.out;have:=Hmle.out;unfold maxLen;omega) (by have:=HRl.out;have:=Hmle.out;omega) HB9.out.size
        obtain ⟨p3,c3,hv3,_⟩:=own3.form (by omega)
        subst hv3
        have Hrun:=η hrun;have Own3:=η own3;have HB10:=η (hb9.grown g4 hb9.size (fun q e=>(World.ownsRow.lt own2 q e).1))
        have Hcj:=η hcj
        clear hb9 hrun own3 g4 own2 g3 at2 hjl
        go_wp2_with (at_builtin;refine wpList_append_run rfl (.tmp 65) (.tmp 68) 22 rfl rfl rfl Hrun.out ?_)
        go_ret2
        refine ⟨.slice (some ⟨p3,0,none⟩) (j+1+(R.length - j)) c3,by rw [Hv.out];simp,fun _=>?_,(bseq HB0.out Hb2.out).trans (HB10.out.mono (bseq HB0.out Hb2.out).size)⟩
        rw [Hpl.out]
        have hh:(R.take j++[(n,t)]++R.drop j).length=j+1+(R.length - j):=by
         rw [List.length_append,List.length_append,List.length_take,List.length_drop,Nat.min_eq_left Hmle.out];rfl
        have h1:=Own3.out
        have h2:(R.take j).flatMap cF++[Value.string ⟨n.toArray⟩,Value.string ⟨t.toArray⟩]++(R.drop j).flatMap cF=(R.take j++[(n,t)]++R.drop j).flatMap cF:=by
         rw [List.flatMap_append,List.flatMap_append];rfl
        rw [h2] at h1
        exact OwnL.lower ⟨_,by rw [hh];exact h1,row_flat2 _⟩ (bseq HB0.out Hb2.out).size
       ·
        obtain ⟨v3,w10,hrun,own3,g4,_,_⟩:=run_append_own_at (P:=Tryz.prog) w9 u.heap.size 22 22 33 i0 (.agg #[.string ⟨#[]⟩,.string ⟨#[]⟩]) 2 32 Tryz.underlying22 Hi.out Hz0.out Hz1.out Hz2.out rfl (by decide) _ _ _ own2 ⟨gr,j*2,none⟩ (R.length - j) (cr - j) ((R.drop j).flatMap cF) (by rw [flat2,List.length_drop]) (fun q x hq=>by
          have h1:=Cell.out (j*2+q) x w9 (flat_get R j q x hq) HB9.out
          rw [addG_cell]
          cases q with
          | zero=>exact h1
          | succ q=>exact h1) (fun z hz=>by
          obtain ⟨y,_,hy⟩:=List.mem_flatMap.1 hz
          unfold cF at hy
          simp only [List.mem_cons,List.not_mem_nil,or_false] at hy
          rcases hy with rfl | rfl <;> rfl) (by have:=HRl.out;have:=Hmle.out;unfold maxLen;omega) (by have:=HRl.out;have:=Hmle.out;omega) HB9.out.size
        obtain ⟨p3,c3,hv3,_⟩:=own3.form (by omega)
        subst hv3
        have Hrun:=η hrun;have Own3:=η own3;have HB10:=η (hb9.grown g4 hb9.size (fun q e=>(World.ownsRow.lt own2 q e).1))
        clear hb9 hrun own3 g4 own2 g3 at2
        go_wp2_with (at_builtin;refine wpList_append_run rfl (.tmp 65) (.tmp 68) 22 rfl rfl rfl Hrun.out ?_)
        go_ret2
        refine ⟨.slice (some ⟨p3,0,none⟩) (j+1+(R.length - j)) c3,by rw [Hv.out];simp,fun _=>?_,(bseq HB0.out Hb2.out).trans (HB10.out.mono (bseq HB0.out Hb2.out).size)⟩
        rw [Hpl.out]
        have hh:(R.take j++[(n,t)]++R.drop j).length=j+1+(R.length - j):=by
         rw [List.length_append,List.length_append,List.length_take,List.length_drop,Nat.min_eq_left Hmle.out];rfl
        have h1:=Own3.out
        have h2:(R.take j).flatMap cF++[Value.string ⟨n.toArray⟩,Value.string ⟨t.toArray⟩]++(R.drop j).flatMap cF=(R.take j++[(n,t)]++R.drop j).flatMap cF:=by
         rw [List.flatMap_append,List.flatMap_append];rfl
        rw [h2] at h1
        exact OwnL.lower ⟨_,by rw [hh];exact h1,row_flat2 _⟩ (bseq HB0.out Hb2.out).size
end Go.Proofs.YtgnfmopcialllaaGreatDoor
