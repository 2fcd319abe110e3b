/- The walks of package label, first part: find, field, small. The walks of package bib, first part: a run in memory; read, note. The walks of package bib, second part: what is read. The walk of stetref15.Same. The walk of stetlaw15.Refs: entries, copied. The walks of package bib, third part: a note. -/
import Derived.Test.YtgnfmopcialllaaGreatDoorTk
import Derived.Test.YtgnfmopcialllaaGreatDoorG11
import Derived.Test.YtgnfmopcialllaaGreatDoorG07
import Derived.Test.YtgnfmopcialllaaGreatDoorG09
import Derived.Test.YtgnfmopcialllaaGreatDoorG05
import Derived.Test.YtgnfmopcialllaaGreatDoorG10
import Derived.BigQuiet
set_option linter.unusedSimpArgs false
set_option linter.unusedVariables false
namespace Go.Proofs.YtgnfmopcialllaaGreatDoor
open Go.RowKit
def entV (x:Ent.Ent) (vf:Value):Value:=.agg #[.string ⟨x.kind.toArray⟩,.string ⟨x.key.toArray⟩,vf]
theorem lb_find1 (kd ky key:List UInt8) (vf:Value) (q:Nat) (w:World) (hc:w.cell? ⟨q,0,none⟩=some (.string ⟨key.toArray⟩)) :
  Calls Tryz.prog 176 #[.agg #[.string ⟨kd.toArray⟩,.string ⟨ky.toArray⟩,vf],.pointer (some ⟨q,0,none⟩)] w fun e w'=>e = .returned (.bool (ky == key))∧Below w.heap.size w w':=by
 have hb:=below_new w (.cells #[.string ⟨kd.toArray⟩,.string ⟨ky.toArray⟩,vf] 60)
 have hq:q<w.heap.size:=by
  rcases Nat.lt_or_ge q w.heap.size with h | h
  ·
   exact h
  ·
   exfalso;unfold World.cell? at hc;simp [Array.getElem?_eq_none h] at hc
 have c0:(w.alloc (.cells #[.string ⟨kd.toArray⟩,.string ⟨ky.toArray⟩,vf] 60)).cell? ⟨q,0,none⟩=some (.string ⟨key.toArray⟩):=by rw [hb.cell (p:=⟨q,0,none⟩) hq];exact hc
 have Hb:=η hb
 clear hb
 go_enter Tryz.func176, Tryz.ntmps176
 cases ht:(ky == key)
 ·
  go_wp2
  go_ret
  exact ⟨rfl,Hb.out⟩
 ·
  go_wp2
  go_ret
  exact ⟨rfl,Hb.out⟩
def ixK (l:List Ent.Ent) (key:List UInt8):Int:=if l.any (fun x=>x.key == key) then ((l.findIdx (fun x=>x.key == key):Nat):Int) else -1
theorem ixK_hit (l:List Ent.Ent) (key:List UInt8) (k:Nat) (x:Ent.Ent) (hx:l[k]? = some x) (h:(l.take k).find? (fun x=>x.key == key)=none) (hp:(x.key == key)=true):ixK l key=(k:Int)∧Lb.findE l key=some x:=by
 obtain ⟨h1,h2⟩:=List.getElem?_eq_some_iff.1 hx
 have e:l=l.take k++x::l.drop (k+1):=by
  conv=>lhs;rw [←List.take_append_drop k l,List.drop_eq_getElem_cons h1,h2]
 have hn:∀y ∈ l.take k,(y.key == key)=false:=fun y hy=>by
  have:=List.find?_eq_none.1 h y hy
  simpa using this
 constructor
 ·
  unfold ixK
  have ha:l.any (fun x=>x.key == key)=true:=List.any_eq_true.2 ⟨x,List.mem_of_getElem? hx,hp⟩
  rw [if_pos ha]
  congr 1
  have hi:l.findIdx (fun x=>x.key == key)=k:=by
   rw [List.findIdx_eq h1]
   refine ⟨by rw [h2];exact hp,fun j hj=>?_⟩
   exact hn _ (by rw [List.mem_take_iff_getElem];exact ⟨j,by omega,rfl⟩)
  rw [hi]
 ·
  unfold Lb.findE
  rw [e,List.find?_append,h,Option.none_or,List.find?_cons,hp]
theorem ixK_miss (l:List Ent.Ent) (key:List UInt8) (h:l.find? (fun x=>x.key == key)=none):ixK l key = -1∧Lb.findE l key=none:=by
 refine ⟨?_,h⟩
 unfold ixK
 rw [if_neg]
 intro ha
 obtain ⟨x,hx,hp⟩:=List.any_eq_true.1 ha
 exact List.find?_eq_none.1 h x hx hp
theorem find_take (l:List Ent.Ent) (key:List UInt8) (k:Nat) (x:Ent.Ent) (hx:l[k]? = some x) (h:(l.take k).find? (fun x=>x.key == key)=none) (hp:(x.key == key)=false):(l.take (k+1)).find? (fun x=>x.key == key)=none:=by
 rw [List.take_add_one,hx,List.find?_append,h]
 simp [hp]
theorem ixK_cases (l:List Ent.Ent) (key:List UInt8):(ixK l key = -1∧Lb.findE l key=none) ∨ ∃(k:Nat) (x:Ent.Ent),l[k]? = some x∧ixK l key=(k:Int)∧Lb.findE l key=some x:=by
 cases h:l.find? (fun x=>x.key == key) with
 | none=>exact .inl (ixK_miss l key h)
 | some x =>
  right
  have hm:=List.mem_of_find?_eq_some h
  have hp:=List.find?_some h
  have ha:l.any (fun x=>x.key == key)=true:=List.any_eq_true.2 ⟨x,hm,hp⟩
  have hlt:l.findIdx (fun x=>x.key == key)<l.length:=List.findIdx_lt_length_of_exists ⟨x,hm,hp⟩
  refine ⟨l.findIdx (fun x=>x.key == key),l[l.findIdx (fun x=>x.key == key)],List.getElem?_eq_getElem hlt,?_,?_⟩
  ·
   unfold ixK;rw [if_pos ha]
  ·
   refine (ixK_hit l key _ _ (List.getElem?_eq_getElem hlt) ?_ (List.findIdx_getElem (w:=hlt))).2
   rw [List.find?_eq_none]
   intro y hy
   rw [List.mem_take_iff_getElem] at hy
   obtain ⟨j,hj,rfl⟩:=hy
   rw [List.not_of_lt_findIdx (Nat.lt_min.1 hj).1];exact Bool.false_ne_true
set_option maxRecDepth 100000 in
set_option maxHeartbeats 800000 in
theorem lb_ix (l:List Ent.Ent) (v:Value) (key:List UInt8) (q:Nat) (S:Nat→Prop) (w:World) (hS:Ents S w v l) (hc:w.cell? ⟨q,0,none⟩=some (.string ⟨key.toArray⟩)) :
  Calls Tryz.prog 175 #[v,.func (.func 176) #[] #[.pointer (some ⟨q,0,none⟩)]] w fun e w'=>e = .returned (.int .i64 (ixK l key))∧Below w.heap.size w w':=by
 have hlm:=SliceIn.bound hS
 have hq:q<w.heap.size:=by
  rcases Nat.lt_or_ge q w.heap.size with h | h
  ·
   exact h
  ·
   exfalso;unfold World.cell? at hc;simp [Array.getElem?_eq_none h] at hc
 obtain ⟨pa,cap,rfl,hle,hm,hat⟩:=hS
 have Hat:=η hat;have Hc:=η hc;have Hq:=η hq
 clear hat hm hle hc hq
 go_enter Tryz.func175, Tryz.ntmps175
 go_wp2_with fail
 go_loopw [8] (fun iv wr=>∃k:Nat,k≤l.length∧iv = .int .i64 (k:Int)∧(l.take k).find? (fun x=>x.key == key)=none∧Below w.heap.size w wr) (fun iv _=>l.length - (intOf iv).toNat)
 case atStart=>exact ⟨0,Nat.zero_le _,rfl,rfl,Below.refl _ _⟩
 case round =>
  obtain ⟨k,hk,rfl,hno,hb⟩:=hrel
  have Hno:=η hno;clear hno
  have hcq:=(hb.cell (p:=⟨q,0,none⟩) Hq.out).trans Hc.out
  have Hcq:=η hcq
  clear hcq
  by_cases hlt:k<l.length
  ·
   obtain ⟨x,hx⟩:∃x,l[k]? = some x:=⟨_,List.getElem?_eq_getElem hlt⟩
   obtain ⟨b,off,vs,rfl,_,hbw,hR,hc⟩:=Hat.out k x hx
   obtain ⟨vf,rfl,hF⟩:=hR
   have e0:wr.cell? ⟨b,off+k*3,none⟩=some (.string ⟨x.kind.toArray⟩):=(hb.cell (p:=⟨b,off+k*3,none⟩) hbw).trans (hc 0 _ rfl)
   have e1:wr.cell? ⟨b,off+k*3+1,none⟩=some (.string ⟨x.key.toArray⟩):=(hb.cell (p:=⟨b,off+k*3+1,none⟩) hbw).trans (hc 1 _ rfl)
   have e2:wr.cell? ⟨b,off+k*3+2,none⟩=some vf:=(hb.cell (p:=⟨b,off+k*3+2,none⟩) hbw).trans (hc 2 _ rfl)
   have hlt':(k:Int)<(l.length:Int):=by omega
   obtain ⟨k1,hk1⟩:∃k1,k1=k+1:=⟨_,rfl⟩
   have hwk:IntKind.i64.wrap ((k:Int)+1)=(k1:Int):=by rw [IntWalk.i64_in _ (by omega)];omega
   have Hx:=η hx;have Hlt:=η hlt;have Hk1:=η hk1;have Hb:=η hb
   clear hc hx hlt hk hk1 hb hF
   cases ht:(x.key == key)
   ·
    have Ht:=η ht
    clear ht
    go_wp2_with (go_at_call 176; refine (lb_find1 x.kind x.key key vf q _ Hcq.out).mono ?_;rw [Ht.out];rintro e w9 ⟨rfl,hb9⟩;have Hb9:=η hb9;clear hb9)
    go_roundw
    case rel=>exact ⟨k1,by have:=Hlt.out;have:=Hk1.out;omega,rfl,by rw [Hk1.out];exact find_take _ _ _ _ Hx.out Hno.out Ht.out,bseq Hb.out Hb9.out⟩
    case measure=>have:=Hlt.out;have:=Hk1.out;simp [intOf];omega
   ·
    have Ht:=η ht
    clear ht
    have Hr:=η (ixK_hit l key k x Hx.out Hno.out Ht.out).1
    go_wp2_with (go_at_call 176; refine (lb_find1 x.kind x.key key vf q _ Hcq.out).mono ?_;rw [Ht.out];rintro e w9 ⟨rfl,hb9⟩;have Hb9:=η hb9;clear hb9)
    go_ret
    exact ⟨ret_int Hr.out.symm,bseq Hb.out Hb9.out⟩
  ·
   have hlt':¬(k:Int)<(l.length:Int):=by omega
   have Hr:=η (ixK_miss l key (by have:=Hno.out;rwa [List.take_of_length_le (by omega)] at this)).1
   have Hb:=η hb
   clear hlt hk hb
   go_wp2_with fail
   go_ret
   exact ⟨ret_int Hr.out.symm,Hb.out⟩
structure E3 (W:World) (g:Nat) (a b c:Value):Prop where
 c0:W.cell? ⟨g,0,none⟩=some a
 c1:W.cell? ⟨g,1,none⟩=some b
 c2:W.cell? ⟨g,2,none⟩=some c
 f:∀i,W.frozen? ⟨g,i,none⟩=false
 lt:g<W.heap.size
section
variable {W W':World} {g:Nat} {a b c:Value}
theorem E3.new (w:World) (t:TypeId) (a b c:Value):E3 (w.alloc (.cells #[a,b,c] t)) w.heap.size a b c:=by
 have h:∀(i:Nat) (u:Value),#[a,b,c][i]? = some u→(w.alloc (.cells #[a,b,c] t)).cell? ⟨w.heap.size,i,none⟩=some u:=by
  intro i u hu
  rw [cell_of_row _ _ _ _ _ _ (heap_alloc_new w _)]
  exact hu
 exact ⟨h 0 _ rfl,h 1 _ rfl,h 2 _ rfl,fun i=>by simp,lt_alloc w _⟩
theorem E3.below (h:E3 W g a b c) {B:Nat} (hb:Below B W W') (hg:g<B):E3 W' g a b c :=
 ⟨(hb.cell (p:=⟨g,0,none⟩) hg).trans h.c0,(hb.cell (p:=⟨g,1,none⟩) hg).trans h.c1,(hb.cell (p:=⟨g,2,none⟩) hg).trans h.c2,
  fun i=>(World.frozen?_of_block (hb.block g hg)).trans (h.f i),Nat.lt_of_lt_of_le h.lt hb.size⟩
theorem E3.below' (h:E3 W g a b c) (hb:Below W.heap.size W W'):E3 W' g a b c:=h.below hb h.lt
theorem E3.drew (h:E3 W g a b c):E3 W.drew g a b c:=⟨h.c0,h.c1,h.c2,h.f,h.lt⟩
theorem E3.other (h:E3 W g a b c) {k:Nat} (hk:k≠g) (i:Nat) (v:Value):E3 (W.setCell ⟨k,i,none⟩ v) g a b c:=by
 have e:∀j,(W.setCell ⟨k,i,none⟩ v).cell? ⟨g,j,none⟩=W.cell? ⟨g,j,none⟩:=fun j=>World.cell?_setCell_other _ _ _ _ (fun e=>hk (by cases e;rfl))
 exact ⟨(e 0).trans h.c0,(e 1).trans h.c1,(e 2).trans h.c2,fun j=>by simpa using h.f j,by simpa using h.lt⟩
theorem E3.set0 (h:E3 W g a b c) (v:Value):E3 (W.setCell ⟨g,0,none⟩ v) g v b c :=
 ⟨World.cell?_setCell_same _ _ _ h.c0,(World.cell?_setCell_other _ _ _ _ (by simp)).trans h.c1,(World.cell?_setCell_other _ _ _ _ (by simp)).trans h.c2,fun j=>by simpa using h.f j,by simpa using h.lt⟩
theorem E3.set1 (h:E3 W g a b c) (v:Value):E3 (W.setCell ⟨g,1,none⟩ v) g a v c :=
 ⟨(World.cell?_setCell_other _ _ _ _ (by simp)).trans h.c0,World.cell?_setCell_same _ _ _ h.c1,(World.cell?_setCell_other _ _ _ _ (by simp)).trans h.c2,fun j=>by simpa using h.f j,by simpa using h.lt⟩
theorem E3.set2 (h:E3 W g a b c) (v:Value):E3 (W.setCell ⟨g,2,none⟩ v) g a b v :=
 ⟨(World.cell?_setCell_other _ _ _ _ (by simp)).trans h.c0,(World.cell?_setCell_other _ _ _ _ (by simp)).trans h.c1,World.cell?_setCell_same _ _ _ h.c2,fun j=>by simpa using h.f j,by simpa using h.lt⟩
theorem E3.all (h:E3 W g a b c) (a' b' c':Value):E3 (((W.setCell ⟨g,0,none⟩ a').setCell ⟨g,1,none⟩ b').setCell ⟨g,2,none⟩ c') g a' b' c' :=
 ((h.set0 a').set1 b').set2 c'
end
theorem below3 {B g:Nat} {a0 w:World} (h:Below B a0 w) (hg:B≤g) (a b c:Value):Below B a0 (((w.setCell ⟨g,0,none⟩ a).setCell ⟨g,1,none⟩ b).setCell ⟨g,2,none⟩ c) :=
 ((h.setCell (p:=⟨g,0,none⟩) hg a).setCell (p:=⟨g,1,none⟩) hg b).setCell (p:=⟨g,2,none⟩) hg c
theorem load_ent (g:Nat) (a b c:Value) (w:World) (h0:w.cell? ⟨g,0,none⟩=some a) (h1:w.cell? ⟨g,1,none⟩=some b) (h2:w.cell? ⟨g,2,none⟩=some c) :
  (loadVar 60 ⟨g,0,none⟩).run Tryz.prog w = .ok (.agg #[a,b,c]) w:=by
 go_simp
theorem ret_cs {P:Program} {fn:Func} {R:Ending→World→Prop} {a:Act} {w:World} {v u:Value} {p q:Tmp} {ty:TypeId} {ad:Addr} (h:fn.results = #[.cell p ty,.tmp q]) (hp:a.tmps.getD p undef = .pointer (some ad))
  (hu:a.tmps.getD q undef=u) (hl:(loadVar ty ad).run P w = .ok v w) (hd:a.defers=[]) (hR:R (.returned (.tuple #[v,u])) w):bodyPost P fn R .ret a w:=by
 refine bodyPost_ret (v:=.tuple #[v,u]) ?_ hd hR
 have hp':a.tmps[p]?.getD undef = .pointer (some ad):=by simpa using hp
 have hu':a.tmps[q]?.getD undef=u:=by simpa using hu
 simp [results,h,hp',hu',asAddr,hl]
theorem SliceIn.shape {α:Type} {S:Nat→Prop} {size:Nat} {R:α→List Value→Prop} {w:World} {v:Value} {xs:List α} (h:SliceIn S size R w v xs):∃p n c,v = .slice p n c:=by
 obtain ⟨p,c,h,_⟩:=h
 exact ⟨p,_,c,h⟩
def entZ:Ent.Ent:=⟨[],[],[]⟩
set_option maxRecDepth 100000 in
set_option maxHeartbeats 800000 in
theorem lb_find (l:List Ent.Ent) (v:Value) (key:List UInt8) (S:Nat→Prop) (w:World) (hS:Ents S w v l) :
  Calls Tryz.prog 128 #[v,.string ⟨key.toArray⟩] w fun e w'=>(∃vf,e = .returned (.tuple #[entV ((Lb.findE l key).getD entZ) vf,.bool (Lb.findE l key).isSome])∧SliceIn S 2 RFld w' vf ((Lb.findE l key).getD entZ).fields)∧Below w.heap.size w w':=by
 obtain ⟨o,ho⟩:∃o,Lb.findE l key=o:=⟨_,rfl⟩
 have hb0:Below w.heap.size w ((w.alloc (.cells #[.string ⟨key.toArray⟩] 9)).alloc (.cells #[.string ⟨#[]⟩,.string ⟨#[]⟩,.slice none 0 0] 60)):=((Below.refl _ _).alloc (Nat.le_refl _) _).alloc (by simp) _
 have hE0:=E3.new (w.alloc (.cells #[.string ⟨key.toArray⟩] 9)) 60 (.string ⟨#[]⟩) (.string ⟨#[]⟩) (.slice none 0 0)
 have hz:(w.alloc (.cells #[.string ⟨key.toArray⟩] 9)).heap.size=w.heap.size+1:=by simp
 rw [hz] at hE0
 have hc0:((w.alloc (.cells #[.string ⟨key.toArray⟩] 9)).alloc (.cells #[.string ⟨#[]⟩,.string ⟨#[]⟩,.slice none 0 0] 60)).cell? ⟨w.heap.size,0,none⟩=some (.string ⟨key.toArray⟩):=by
  rw [(below_new (w.alloc (.cells #[.string ⟨key.toArray⟩] 9)) _).cell (p:=⟨w.heap.size,0,none⟩) (by simp)]
  rw [cell_of_row _ _ _ _ _ _ (heap_alloc_new w _)];rfl
 have HE:=η hS;have HE0:=η hE0;have Hb0:=η hb0;have Hc0:=η hc0
 have hlm:=SliceIn.bound hS
 obtain ⟨pa,cap,rfl,hle,hm,hat⟩:=hS
 have Hat:=η hat
 clear hE0 hb0 hc0 hz hat hle hm
 rw [ho]
 rcases ixK_cases l key with ⟨hix,hf⟩ | ⟨k,x,hx,hix,hf⟩
 ·
  have Hix:=η hix
  have hon:o=none:=ho.symm.trans hf
  subst hon
  clear hix hf
  go_enter Tryz.func128, Tryz.ntmps128
  go_wp2_with (go_at_call 175; refine (lb_ix l _ key _ S _ (Ents.below HE.out Hb0.out) Hc0.out).mono ?_;rw [Hix.out];rintro e w1 ⟨rfl,hb1⟩;have hE1:=HE0.out.below' hb1;have Hb1:=η hb1;clear hb1;have c0:=hE1.c0;have c1:=hE1.c1;have c2:=hE1.c2;have f0:=hE1.f 0;have f1:=hE1.f 1;have f2:=hE1.f 2;have HE1:=η hE1;clear hE1)
  have hF:=HE1.out.all (.string ⟨#[]⟩) (.string ⟨#[]⟩) (.slice none 0 0)
  refine ret_cs rfl rfl rfl (load_ent _ _ _ _ _ hF.c0 hF.c1 hF.c2) rfl ⟨⟨_,rfl,SliceIn.nil _ _ _ _⟩,below3 (bseq Hb0.out Hb1.out) (by simp) _ _ _⟩
 ·
  have Hix:=η hix;have Hx:=η hx
  have hos:o=some x:=ho.symm.trans hf
  subst hos
  have hkl:k<l.length:=(List.getElem?_eq_some_iff.1 hx).1
  have hlt':(k:Int)<(l.length:Int):=by omega
  have hk0:¬(k:Int)<0:=by omega
  obtain ⟨b,off,vs,rfl,_,hbw,hR,hc⟩:=Hat.out k x hx
  obtain ⟨vf,rfl,hF⟩:=hR
  obtain ⟨pf,nf,cf,hvf⟩:=SliceIn.shape hF
  subst hvf
  have d0:=hc 0 _ rfl;have d1:=hc 1 _ rfl;have d2:=hc 2 _ rfl
  have D0:=η d0;have D1:=η d1;have D2:=η d2;have HF:=η hF;have Hbw:=η hbw
  clear hix hf hx ho hc d0 d1 d2 hF hbw hkl
  go_enter Tryz.func128, Tryz.ntmps128
  go_wp2_with (go_at_call 175; refine (lb_ix l _ key _ S _ (Ents.below HE.out Hb0.out) Hc0.out).mono ?_;rw [Hix.out];rintro e w1 ⟨rfl,hb1⟩;have hE1:=HE0.out.below' hb1;have Hb1:=η (bseq Hb0.out hb1);clear hb1;have c0:=hE1.c0;have c1:=hE1.c1;have c2:=hE1.c2;have f0:=hE1.f 0;have f1:=hE1.f 1;have f2:=hE1.f 2;have HE1:=η hE1;clear hE1;have d0:=(Hb1.out.cell (p:=⟨b,off+k*3,none⟩) Hbw.out).trans D0.out;have d1:=(Hb1.out.cell (p:=⟨b,off+k*3+1,none⟩) Hbw.out).trans D1.out;have d2:=(Hb1.out.cell (p:=⟨b,off+k*3+2,none⟩) Hbw.out).trans D2.out)
  have hF:=HE1.out.all (.string ⟨x.kind.toArray⟩) (.string ⟨x.key.toArray⟩) (.slice pf nf cf)
  have hbF:=below3 (a:=.string ⟨x.kind.toArray⟩) (b:=.string ⟨x.key.toArray⟩) (c:=.slice pf nf cf) Hb1.out (Nat.le_succ w.heap.size)
  refine ret_cs rfl rfl rfl (load_ent _ _ _ _ _ hF.c0 hF.c1 hF.c2) rfl ?_
  exact ⟨⟨_,rfl,SliceIn.below' HF.out hbF⟩,hbF⟩
theorem lb_field (x:Ent.Ent) (vf:Value) (n:List UInt8) (S:Nat→Prop) (w:World) (hF:SliceIn S 2 RFld w vf x.fields) :
  Calls Tryz.prog 76 #[.agg #[.string ⟨x.kind.toArray⟩,.string ⟨x.key.toArray⟩,vf],.string ⟨n.toArray⟩] w fun e w'=>e = .returned (.string ⟨(Lb.field x n).toArray⟩)∧Below w.heap.size w w':=by
 have hb0:=below_new w (.cells #[.string ⟨x.kind.toArray⟩,.string ⟨x.key.toArray⟩,vf] 60)
 have hE:=E3.new w 60 (.string ⟨x.kind.toArray⟩) (.string ⟨x.key.toArray⟩) vf
 have c0:=hE.c0;have c1:=hE.c1;have c2:=hE.c2
 have HF:=η (SliceIn.below' hF hb0);have Hb0:=η hb0
 clear hF hE hb0
 go_enter Tryz.func76, Tryz.ntmps76
 go_wp2_with (go_at_call 127; refine (entry_get x.fields _ _ vf n S _ HF.out).mono ?_;rintro e w1 ⟨rfl,hb1⟩;have Hb1:=η hb1;clear hb1)
 go_ret
 exact ⟨rfl,bseq Hb0.out Hb1.out⟩
end Go.Proofs.YtgnfmopcialllaaGreatDoor
set_option linter.unusedSimpArgs false
set_option linter.unusedVariables false
namespace Go.Proofs.YtgnfmopcialllaaGreatDoor
open Go.RowKit
namespace Bb
def see (rs:List (List UInt8)) (n:List UInt8):List (List UInt8):=if rs.any (fun s=>s == n) then rs else rs++[n]
theorem see_len (rs:List (List UInt8)) (n:List UInt8):(see rs n).length≤rs.length+1:=by unfold see;split <;> simp
end Bb
structure T3 (W:World) (g:Nat) (a b c:Value):Prop where
 c0:W.cell? ⟨g,0,none⟩=some a
 c1:W.cell? ⟨g,1,none⟩=some b
 c2:W.cell? ⟨g,2,none⟩=some c
 f:∀i,W.frozen? ⟨g,i,none⟩=false
 lt:g<W.heap.size
section
variable {W W':World} {g:Nat} {a b c:Value}
theorem T3.below (h:T3 W g a b c) (hb:Below W.heap.size W W'):T3 W' g a b c :=
 ⟨(hb.cell (p:=⟨g,0,none⟩) h.lt).trans h.c0,(hb.cell (p:=⟨g,1,none⟩) h.lt).trans h.c1,(hb.cell (p:=⟨g,2,none⟩) h.lt).trans h.c2,
  fun i=>(World.frozen?_of_block (hb.block g h.lt)).trans (h.f i),Nat.lt_of_lt_of_le h.lt hb.size⟩
theorem T3.grown {row:Option Nat} (h:T3 W g a b c) (hg:W.grownBy W' row) (hne:row≠some g):T3 W' g a b c :=
 ⟨(grown_cell hg h.lt hne 0).trans h.c0,(grown_cell hg h.lt hne 1).trans h.c1,(grown_cell hg h.lt hne 2).trans h.c2,fun i=>(grown_frozen hg h.lt hne i).trans (h.f i),Nat.lt_of_lt_of_le h.lt hg.size⟩
theorem T3.set1 (h:T3 W g a b c) (v:Value):T3 (W.setCell ⟨g,1,none⟩ v) g a v c :=
 ⟨(World.cell?_setCell_other _ _ _ _ (by simp)).trans h.c0,World.cell?_setCell_same _ _ _ h.c1,(World.cell?_setCell_other _ _ _ _ (by simp)).trans h.c2,fun j=>by simpa using h.f j,by simpa using h.lt⟩
theorem T3.set2 (h:T3 W g a b c) (v:Value):T3 (W.setCell ⟨g,2,none⟩ v) g a b v :=
 ⟨(World.cell?_setCell_other _ _ _ _ (by simp)).trans h.c0,(World.cell?_setCell_other _ _ _ _ (by simp)).trans h.c1,World.cell?_setCell_same _ _ _ h.c2,fun j=>by simpa using h.f j,by simpa using h.lt⟩
end
structure Wk (g:Nat) (vf vr vn:Value) (rs:List (List UInt8)) (ns:List (Int × List UInt8)) (W:World):Prop where
 t:T3 W g vf vr vn
 r:OwnL (g+1) 9 1 RStr W vr rs
 n:OwnL (g+1) 77 2 RNote W vn ns
structure Mv (g:Nat) (vr vn vr' vn':Value) (w w':World):Prop where
 os:w'.os=w.os
 tape:w'.tape=w.tape
 output:w'.output=w.output
 size:w.heap.size≤w'.heap.size
 block:∀k,k<w.heap.size→k≠g→vr.ownBlock≠some k→vn.ownBlock≠some k→w'.heap[k]? = w.heap[k]?
 r:vr'.ownBlock=vr.ownBlock ∨ ∃j,vr'.ownBlock=some j∧w.heap.size≤j
 n:vn'.ownBlock=vn.ownBlock ∨ ∃j,vn'.ownBlock=some j∧w.heap.size≤j
theorem Mv.refl (g:Nat) (vr vn:Value) (w:World):Mv g vr vn vr vn w w:=⟨rfl,rfl,rfl,Nat.le_refl _,fun _ _ _ _ _=>rfl,.inl rfl,.inl rfl⟩
theorem Mv.trans {g:Nat} {vr vn vr1 vn1 vr2 vn2:Value} {a b c:World} (h:Mv g vr vn vr1 vn1 a b) (k:Mv g vr1 vn1 vr2 vn2 b c):Mv g vr vn vr2 vn2 a c:=by
 refine ⟨k.os.trans h.os,k.tape.trans h.tape,k.output.trans h.output,Nat.le_trans h.size k.size,fun i hi h1 h2 h3=>?_,?_,?_⟩
 ·
  refine (k.block i (Nat.lt_of_lt_of_le hi h.size) h1 ?_ ?_).trans (h.block i hi h1 h2 h3)
  ·
   rcases h.r with e | ⟨j,e,hj⟩
   ·
    rw [e];exact h2
   ·
    rw [e];intro e2;injection e2 with e2;omega
  ·
   rcases h.n with e | ⟨j,e,hj⟩
   ·
    rw [e];exact h3
   ·
    rw [e];intro e2;injection e2 with e2;omega
 ·
  rcases k.r with e | ⟨j,e,hj⟩
  ·
   rw [e];exact h.r
  ·
   exact .inr ⟨j,e,Nat.le_trans h.size hj⟩
 ·
  rcases k.n with e | ⟨j,e,hj⟩
  ·
   rw [e];exact h.n
  ·
   exact .inr ⟨j,e,Nat.le_trans h.size hj⟩
theorem Mv.of_below {w w':World} (h:Below w.heap.size w w') (g:Nat) (vr vn:Value):Mv g vr vn vr vn w w':=⟨h.os,h.tape,h.output,h.size,fun k hk _ _ _=>h.block k hk,.inl rfl,.inl rfl⟩
theorem Mv.below {g B:Nat} {vr vn vr' vn':Value} {w w':World} (h:Mv g vr vn vr' vn' w w') (hg:B≤g) (hr:∀k,vr.ownBlock=some k→B≤k) (hn:∀k,vn.ownBlock=some k→B≤k) (hB:B≤w.heap.size):Below B w w' :=
 ⟨h.os,h.tape,h.output,h.size,fun k hk=>h.block k (by omega) (by omega) (fun e=>by have:=hr k e;omega) (fun e=>by have:=hn k e;omega)⟩
theorem Wk.below {g:Nat} {vf vr vn:Value} {rs:List (List UInt8)} {ns:List (Int × List UInt8)} {W W':World} (h:Wk g vf vr vn rs ns W) (hb:Below W.heap.size W W'):Wk g vf vr vn rs ns W':=⟨h.t.below hb,h.r.below hb,h.n.below hb⟩
theorem ownL_ge {α:Type} {B:Nat} {t:TypeId} {n:Nat} {R:α→List Value→Prop} {W:World} {v:Value} {l:List α} (h:OwnL B t n R W v l):∀k,v.ownBlock=some k→B≤k:=by
 obtain ⟨fl,h1,_⟩:=h
 exact fun k hk=>(h1.lt k hk).1
theorem own_apart {w:World} {b1 b2 s1 s2 n1 n2:Nat} {t1 t2:TypeId} {v1 v2:Value} {x1 x2:List Value} (h1:w.ownsRow b1 t1 s1 v1 n1 x1) (h2:w.ownsRow b2 t2 s2 v2 n2 x2) (ht:t1≠t2):v1.ownBlock=none∨v1.ownBlock≠v2.ownBlock:=by
 rcases h1.2 with ⟨hv,_⟩ | ⟨g,cap,cur,hv,_,hh,_⟩
 ·
  left;rw [hv];rfl
 ·
  right
  intro e
  rcases h2.2 with ⟨hv2,_⟩ | ⟨g2,cap2,cur2,hv2,_,hh2,_⟩
  ·
   rw [hv,hv2] at e;cases e
  ·
   rw [hv,hv2] at e
   simp only [Value.ownBlock,Option.some.injEq] at e
   subst e
   rw [hh] at hh2
   simp at hh2
   exact ht hh2.2
theorem ownL_apart {α β:Type} {B C:Nat} {t u:TypeId} {m n:Nat} {R:α→List Value→Prop} {Q:β→List Value→Prop} {W:World} {v x:Value} {l:List α} {k:List β} (h:OwnL B t m R W v l) (h2:OwnL C u n Q W x k) (ht:t≠u):∀j,v.ownBlock=some j→x.ownBlock≠some j:=by
 obtain ⟨f1,o1,_⟩:=h
 obtain ⟨f2,o2,_⟩:=h2
 intro j hj e
 rcases own_apart o1 o2 ht with h | h
 ·
  rw [h] at hj;cases hj
 ·
  exact h (hj.trans e.symm)
theorem ownL_grown {α:Type} {B:Nat} {t:TypeId} {n:Nat} {R:α→List Value→Prop} {W W':World} {v:Value} {l:List α} {row:Option Nat} (h:OwnL B t n R W v l) (hg:W.grownBy W' row) (hne:∀j,v.ownBlock=some j→row≠some j):OwnL B t n R W' v l:=by
 obtain ⟨fl,h1,h2⟩:=h
 refine ⟨fl,h1.kept hg ?_,h2⟩
 cases hv:v.ownBlock with
 | none=>exact Or.inl rfl
 | some j=>exact Or.inr (fun e=>hne j hv e.symm)
theorem Wk.reads {g:Nat} {vf vr vn v2:Value} {rs rs2:List (List UInt8)} {ns:List (Int × List UInt8)} {w w2:World} (h:Wk g vf vr vn rs ns w) (hg:w.grownBy w2 vr.ownBlock) (ho:OwnL (g+1) 9 1 RStr w2 v2 rs2) (hat:v2.ownBlock=vr.ownBlock∨v2.ownBlock=some (w.heap.size+1)) :
  Wk g vf v2 vn rs2 ns (w2.setCell ⟨g,1,none⟩ v2)∧Mv g vr vn v2 vn w (w2.setCell ⟨g,1,none⟩ v2):=by
 have hne:vr.ownBlock≠some g:=fun e=>by have:=ownL_ge h.r g e;omega
 have hap:=ownL_apart h.r h.n (by decide)
 have gs:=grown_set w2 g 1 v2
 refine ⟨⟨(h.t.grown hg hne).set1 v2,ownL_grown ho gs (fun j hj e=>by injection e with e;have:=ownL_ge ho j hj;omega),?_⟩,⟨hg.os,hg.tape,hg.output,by simpa using hg.size,fun k hk h1 h2 _=>(Below.heap_setCell _ _ _ _ h1).trans (hg.block k hk (fun e=>h2 e.symm)),hat.imp id (fun e=>⟨_,e,by omega⟩),.inl rfl⟩⟩
 have hn2:=ownL_grown h.n hg (fun j hj e=>hap j e hj)
 exact ownL_grown hn2 gs (fun j hj e=>by injection e with e;have:=ownL_ge hn2 j hj;omega)
theorem Wk.notes {g:Nat} {vf vr vn v2:Value} {rs:List (List UInt8)} {ns ns2:List (Int × List UInt8)} {w w2:World} (h:Wk g vf vr vn rs ns w) (hg:w.grownBy w2 vn.ownBlock) (ho:OwnL (g+1) 77 2 RNote w2 v2 ns2) (hat:v2.ownBlock=vn.ownBlock ∨ ∃j,v2.ownBlock=some j∧w.heap.size≤j) :
  Wk g vf vr v2 rs ns2 (w2.setCell ⟨g,2,none⟩ v2)∧Mv g vr vn vr v2 w (w2.setCell ⟨g,2,none⟩ v2):=by
 have hne:vn.ownBlock≠some g:=fun e=>by have:=ownL_ge h.n g e;omega
 have hap:=ownL_apart h.r h.n (by decide)
 have gs:=grown_set w2 g 2 v2
 refine ⟨⟨(h.t.grown hg hne).set2 v2,?_,ownL_grown ho gs (fun j hj e=>by injection e with e;have:=ownL_ge ho j hj;omega)⟩,⟨hg.os,hg.tape,hg.output,by simpa using hg.size,fun k hk h1 _ h3=>(Below.heap_setCell _ _ _ _ h1).trans (hg.block k hk (fun e=>h3 e.symm)),.inl rfl,hat⟩⟩
 have hr2:=ownL_grown h.r hg (fun j hj e=>hap j hj e)
 exact ownL_grown hr2 gs (fun j hj e=>by injection e with e;have:=ownL_ge hr2 j hj;omega)
end Go.Proofs.YtgnfmopcialllaaGreatDoor
set_option linter.unusedSimpArgs false
set_option linter.unusedVariables false
namespace Go.Proofs.YtgnfmopcialllaaGreatDoor
open Go.RowKit
theorem ixP_any (l:List (List UInt8)) (y:List UInt8):decide (0≤ixP (fun s=>s == y) l)=l.any (fun s=>s == y):=by
 unfold ixP
 cases h:l.any (fun s=>s == y)
 ·
  simp
 ·
  simp
set_option maxHeartbeats 400000 in
theorem std_holds (l:List (List UInt8)) (y:List UInt8) (b:Bool) (v:Value) (S:Nat→Prop) (w:World) (hS:SliceIn S 1 RStr w v l) (hb:l.any (fun s=>s == y)=b) :
  Calls Tryz.prog 59 #[v,.string ⟨y.toArray⟩] w fun e w'=>e = .returned (.bool b)∧w=w':=by
 have hb2:=(ixP_any l y).trans hb
 have HS:=η hS;clear hS hb
 go_enter Tryz.func59, Tryz.ntmps59
 go_wp2_with (go_at_call 110; refine (nm_Index l y v S _ HS.out).mono ?_;rintro e w1 ⟨rfl,rfl⟩)
 go_ret
 exact ⟨by simp [hb2],rfl⟩
theorem files_keep {g:Nat} {vf vr vn vr' vn':Value} {rs:List (List UInt8)} {ns:List (Int × List UInt8)} {l:List (List UInt8 × List UInt8)} {w w':World} (hS:SliceIn (fun j=>j<g) 2 RFl w vf l) (hW:Wk g vf vr vn rs ns w) (hM:Mv g vr vn vr' vn' w w'):SliceIn (fun j=>j<g) 2 RFl w' vf l :=
 hS.kept (fun _ h=>h) hM.size (fun b hb hlt=>hM.block b hlt (by omega) (fun e=>by have:=ownL_ge hW.r b e;omega) (fun e=>by have:=ownL_ge hW.n b e;omega)) (fun _ _ _ h=>h)
theorem strs_info:(Tryz.prog.info? 9).map (fun i=>(i.zero,i.size,i.bytes))=some (some (.string ⟨#[]⟩),1,16):=by kernel_rfl
set_option maxRecDepth 100000 in
set_option maxHeartbeats 1600000 in
theorem bb_read (g:Nat) (l:List (List UInt8 × List UInt8)) (name:List UInt8) (vf vr vn:Value) (rs:List (List UInt8)) (ns:List (Int × List UInt8)) (w:World) (hW:Wk g vf vr vn rs ns w) (hS:SliceIn (fun j=>j<g) 2 RFl w vf l) (hs:Ix.Sorted l) (hl:l.length≤1000000) (hrl:rs.length≤1000000) :
  Calls Tryz.prog 32 #[.pointer (some ⟨g,0,none⟩),.string ⟨name.toArray⟩] w fun e w'=>e = .returned (.tuple #[.string ⟨((Ix.get l name).getD []).toArray⟩,.bool (Ix.get l name).isSome])∧∃vr',Wk g vf vr' vn (Bb.see rs name) ns w'∧Mv g vr vn vr' vn w w':=by
 have hsl:=hW.r.slice RStr.size (fun _=>True) (fun _ _=>trivial)
 obtain ⟨G,hG⟩:∃G,Ix.get l name=G:=⟨_,rfl⟩
 have hget:=files_get l name vf (fun j=>j<g)
 rw [hG] at hget
 rw [hG]
 have Hget:=η (fun W h=>hget W h hs hl)
 have HS:=η hS;have HW:=η hW;have Hsl:=η hsl;have Hrl:=η hrl
 have c0:=hW.t.c0;have c1:=hW.t.c1;have f1:=hW.t.f 1
 have hlt:=hW.t.lt
 clear hG hget hs hl hS hW hsl hrl
 cases hb:rs.any (fun s=>s == name)
 ·
  have hsee:Bb.see rs name=rs++[name]:=by unfold Bb.see;rw [hb];rfl
  rw [hsee]
  have Hb:=η hb;clear hb hsee
  obtain ⟨fl,hown,hrep⟩:=HW.out.r
  obtain ⟨i0,hi,hz0,hz1,hz2⟩:=info_parts strs_info
  have Hrep:=η hrep;have Hown:=η hown;have Hi:=η hi;have Hz0:=η hz0;have Hz1:=η hz1;have Hz2:=η hz2
  have hne:vr.ownBlock≠some g:=fun e=>by have:=ownL_ge HW.out.r g e;omega
  have Hne:=η hne
  clear hrep hown hi hz0 hz1 hz2 hne
  go_enter Tryz.func32, Tryz.ntmps32
  go_wp2_with (first
   | (go_at_call 59; refine (std_holds rs name false vr _ _ Hsl.out Hb.out).mono ?_;rintro e w1 ⟨rfl,rfl⟩)
   | (at_builtin;go_loud (refine wpList_append1 rfl (.tmp 17) (.tmp 19) 24 rfl (g+1) 9 i0 (.string ⟨#[]⟩) 1 16 Tryz.underlying24 Hi.out Hz0.out Hz1.out Hz2.out (by rfl) (by decide) _ _ _ Hown.out rfl [.string ⟨name.toArray⟩] rfl (by simp) rfl (by simp [Value.oneCell']) (by have:=Hrl.out;unfold maxLen;omega) (by have:=Hrl.out;omega) hlt ?_);intro v2 w2 own2 g2 at2;obtain ⟨p2,cap2,rfl,hp2,hq2⟩:=own2.form (Nat.succ_pos _);clear hp2 hq2;obtain ⟨hW2,hM2⟩:=HW.out.reads g2 (OwnL.more Hrep.out rfl own2) at2;have hS2:=files_keep HS.out HW.out hM2;have e21:=(grown_cell g2 hlt Hne.out 1).trans c1;have f21:=(grown_frozen g2 hlt Hne.out 1).trans f1;have d0:=hW2.t.c0;have HW2:=η hW2;have HM2:=η hM2;have HS2:=η hS2;clear own2 at2 g2 hW2 hM2 hS2)
   | (go_at_call 60; refine (Hget.out _ HS2.out).mono ?_;rintro e w5 ⟨rfl,hb5⟩))
  go_ret2
  exact ⟨rfl,_,HW2.out.below hb5,HM2.out.trans (Mv.of_below hb5 _ _ _)⟩
 ·
  have hsee:Bb.see rs name=rs:=by unfold Bb.see;rw [hb];rfl
  rw [hsee]
  have Hb:=η hb;clear hb hsee
  go_enter Tryz.func32, Tryz.ntmps32
  go_wp2_with (first
   | (go_at_call 59; refine (std_holds rs name true vr _ _ Hsl.out Hb.out).mono ?_;rintro e w1 ⟨rfl,rfl⟩)
   | (go_at_call 60; refine (Hget.out _ HS.out).mono ?_;rintro e w5 ⟨rfl,hb5⟩))
  go_ret2
  exact ⟨rfl,vr,HW.out.below hb5,Mv.of_below hb5 _ _ _⟩
end Go.Proofs.YtgnfmopcialllaaGreatDoor
set_option linter.unusedSimpArgs false
set_option linter.unusedVariables false
namespace Go.Proofs.YtgnfmopcialllaaGreatDoor
open Go.RowKit
instance:DecidableEq Ent.Fld:=fun a b=>decidable_of_iff (a.name=b.name∧a.text=b.text) ⟨fun ⟨h1,h2⟩=>by cases a;cases b;simp_all,fun h=>by rw [h];exact ⟨rfl,rfl⟩⟩
instance:DecidableEq Ent.Ent:=fun a b=>decidable_of_iff (a.kind=b.kind∧a.key=b.key∧a.fields=b.fields) ⟨fun ⟨h1,h2,h3⟩=>by cases a;cases b;simp_all,fun h=>by rw [h];exact ⟨rfl,rfl,rfl⟩⟩
end Go.Proofs.YtgnfmopcialllaaGreatDoor
set_option linter.unusedSimpArgs false
set_option linter.unusedVariables false
namespace Go.Proofs.YtgnfmopcialllaaGreatDoor
open Go.RowKit
theorem wp_append1 {P:Program} {o:Oper} {a:Act} {w1:World} {K:Act→World→Prop} {Q:Exit→Act→World→Prop} (s x:Operand) (t:TypeId)
  (ho:o.op = .call { callee:=.builtin .append,args:=#[s,x],argTypes:=#[t,t] })
  (base:Nat) (e:TypeId) (i:TypeInfo) (z:Value) (size bytes:Nat) (ht:P.underlying t=some (.slice e)) (hi:P.info? e=some i) (hz:i.zero=some z)
  (hsize:i.size=size) (hby:i.bytes=bytes) (hzs:z.cells.size=size) (hsz:0<size)
  (v:Value) (n:Nat) (xs:List Value) (hown:w1.ownsRow base e size v n xs) (hs:a.eval s=v)
  (news:List Value) {g:Nat} (hx:a.eval x = .slice (some ⟨g,0,none⟩) 1 1) (hg:g=w1.heap.size) (hl:news.length=size) (h1:∀u ∈ news,u.oneCell'=true)
  (h63:n+1≤maxLen) (hbytes:(n+1)*bytes≤140737488355328) (hbase:base≤w1.heap.size)
  (h:∀v' w',w'.ownsRow base e size v' (n+1) (xs++news)→w1.grownBy w' v.ownBlock→(v'.ownBlock=v.ownBlock∨v'.ownBlock=some (w1.heap.size+1))→K (a.put o.dst v') w') :
  o.wp P a (w1.alloc (.cells news.toArray e)) K Q:=by
 subst hg
 obtain ⟨v',w',hr,h2,h3,_,h4⟩:=run_append_own_at (P:=P) (w1.alloc (.cells news.toArray e)) base t o.type e i z size bytes ht hi hz hsize hby hzs hsz v n xs (hown.alloc _) ⟨w1.heap.size,0,none⟩ 1 1 news
  (by rw [hl];simp) (fun j u hu=>by
   have hadd:(⟨w1.heap.size,0,none⟩:Addr).add j=⟨w1.heap.size,j,none⟩:=by unfold Addr.add;split <;> simp_all
   rw [hadd,cell_of_row _ _ j _ _ _ (heap_alloc_new w1 _)]
   simpa using hu) h1 h63 hbytes (by simp;omega)
 unfold Oper.wp execOp
 simp only [ho,resolve,invoke,builtin,Sem.run_bind,Sem.run_pure,Result.andThen_ok,List.map_toArray,List.map_cons,List.map_nil,hs,hx,hr]
 exact h v' w' h2 (grown_trans (World.grownBy_alloc w1 _ _) h3) (by simpa using h4)
end Go.Proofs.YtgnfmopcialllaaGreatDoor
set_option linter.unusedSimpArgs false
set_option linter.unusedVariables false
namespace Go.Proofs.YtgnfmopcialllaaGreatDoor
open Go.RowKit
theorem ownL_lt {α:Type} {B:Nat} {t:TypeId} {n:Nat} {R:α→List Value→Prop} {W:World} {v:Value} {l:List α} (h:OwnL B t n R W v l):∀k,v.ownBlock=some k→k<W.heap.size:=by
 obtain ⟨fl,h1,_⟩:=h
 exact fun k hk=>(h1.lt k hk).2
theorem Wk.grown {g k:Nat} {vf vr vn:Value} {rs:List (List UInt8)} {ns:List (Int × List UInt8)} {W W':World} (h:Wk g vf vr vn rs ns W) (hg:W.grownBy W' (some k)) (hk:k≠g) (hr:vr.ownBlock≠some k) (hn:vn.ownBlock≠some k):Wk g vf vr vn rs ns W' :=
 ⟨h.t.grown hg (fun e=>hk (Option.some.inj e)),ownL_grown h.r hg (fun j hj e=>hr (hj.trans e.symm)),ownL_grown h.n hg (fun j hj e=>hn (hj.trans e.symm))⟩
theorem bb_note_nil (g:Nat) (vf vr vn:Value) (rs:List (List UInt8)) (ns:List (Int × List UInt8)) (w:World) (hW:Wk g vf vr vn rs ns w) :
  Calls Tryz.prog 15 #[.pointer (some ⟨g,0,none⟩),.nilIface] w fun e w'=>e = .returned (.tuple #[])∧Below w.heap.size w w':=by
 have hb:=below_new w (.cells #[.string ⟨#[]⟩,.int .i64 0] 66)
 have Hb:=η hb;clear hb hW
 go_enter Tryz.func15, Tryz.ntmps15
 go_wp2_with (go_at_call 34; refine (std_asF_nil _ _).mono ?_;rintro e w1 ⟨rfl,rfl⟩)
 refine bodyPost_end (results_none rfl _ _ _) rfl ?_
 exact ⟨rfl,Hb.out⟩
set_option maxRecDepth 100000 in
set_option maxHeartbeats 1600000 in
theorem bb_note (g:Nat) (s:List UInt8) (n:Int) (vf vr vn:Value) (rs:List (List UInt8)) (ns:List (Int × List UInt8)) (w:World) (hT:w.cell? ⟨0, 0,none⟩=some (.iface 199 (.agg #[.pointer (some ⟨9, 48, none⟩)]))) (hT0 : 0 < w.heap.size) (hW:Wk g vf vr vn rs ns w) (hnl:ns.length≤1000000) :
  Calls Tryz.prog 15 #[.pointer (some ⟨g,0,none⟩),.iface 66 (.agg #[.string ⟨s.toArray⟩,.int .i64 n])] w fun e w'=>e = .returned (.tuple #[])∧∃vn',Wk g vf vr vn' rs (ns++[(n,s)]) w'∧Mv g vr vn vr vn' w w':=by
 obtain ⟨i0,hi,hz0,hz1,hz2⟩:=info_parts note_info
 have hb:=below_new w (.cells #[.string ⟨#[]⟩,.int .i64 0] 66)
 have hx:∀(i:Nat) (u:Value),#[(.string ⟨#[]⟩:Value),.int .i64 0][i]? = some u→(w.alloc (.cells #[.string ⟨#[]⟩,.int .i64 0] 66)).cell? ⟨w.heap.size,i,none⟩=some u:=by
  intro i u hu
  rw [cell_of_row _ _ _ _ _ _ (heap_alloc_new w _)]
  exact hu
 have hf:∀i,(w.alloc (.cells #[.string ⟨#[]⟩,.int .i64 0] 66)).frozen? ⟨w.heap.size,i,none⟩=false:=fun i=>new_frozen w _ _ i
 have has:=std_asF w.heap.size ⟨s.toArray⟩ n _ _ _ ((hb.cell (p:=⟨0, 0,none⟩) hT0).trans hT) (hx 0 _ rfl) (hx 1 _ rfl) (hf 0) (hf 1)
 have hWa:=hW.below hb
 have hlw:=lt_alloc w (.cells #[.string ⟨#[]⟩,.int .i64 0] 66)
 have Has:=η has;have Hx:=η hx;have HW:=η hW;have HWa:=η hWa;have Hb:=η hb;have Hnl:=η hnl;have Hlw:=η hlw
 have Hi:=η hi;have Hz0:=η hz0;have Hz1:=η hz1;have Hz2:=η hz2
 clear has hx hf hW hWa hb hnl hi hz0 hz1 hz2 hlw hT hT0
 go_enter Tryz.func15, Tryz.ntmps15
 go_wp2_with (go_at_call 34; refine Has.out.mono ?_;rintro e w1 ⟨rfl,W,rfl,hbW⟩)
 obtain ⟨W1,hW1⟩:∃W1,W1=w.alloc (.cells #[.string ⟨#[]⟩,.int .i64 0] 66):=⟨_,rfl⟩
 have hxx:=Hx.out;have hwa:=HWa.out;have hlw:=Hlw.out;have hb:=Hb.out;have hww:=HW.out
 rw [←hW1] at hxx hwa hlw hb hbW
 have hW2:Wk g vf vr vn rs ns W:=hwa.below hbW
 have q0:=(hbW.cell (p:=⟨w.heap.size,0,none⟩) hlw).trans (hxx 0 _ rfl)
 have q1:=(hbW.cell (p:=⟨w.heap.size,1,none⟩) hlw).trans (hxx 1 _ rfl)
 have hgne:g≠w.heap.size:=Nat.ne_of_lt hww.t.lt
 have gs1:=grown_set W w.heap.size 0 (.string ⟨s.toArray⟩)
 have gs2:=grown_set (W.setCell ⟨w.heap.size,0,none⟩ (.string ⟨s.toArray⟩)) w.heap.size 1 (.int .i64 n)
 have hr0:vr.ownBlock≠some w.heap.size:=fun e=>by have:=ownL_lt hww.r _ e;omega
 have hn0:vn.ownBlock≠some w.heap.size:=fun e=>by have:=ownL_lt hww.n _ e;omega
 have hWZ:=(hW2.grown gs1 (Ne.symm hgne) hr0 hn0).grown gs2 (Ne.symm hgne) hr0 hn0
 have z0:=(World.cell?_setCell_other (W.setCell ⟨w.heap.size,0,none⟩ (.string ⟨s.toArray⟩)) ⟨w.heap.size,1,none⟩ ⟨w.heap.size,0,none⟩ (.int .i64 n) (by simp)).trans (World.cell?_setCell_same _ _ (.string ⟨s.toArray⟩) q0)
 have z1:=World.cell?_setCell_same (W.setCell ⟨w.heap.size,0,none⟩ (.string ⟨s.toArray⟩)) ⟨w.heap.size,1,none⟩ (.int .i64 n) ((World.cell?_setCell_other W ⟨w.heap.size,0,none⟩ ⟨w.heap.size,1,none⟩ (.string ⟨s.toArray⟩) (by simp)).trans q1)
 have hbZ:Below w.heap.size w ((W.setCell ⟨w.heap.size,0,none⟩ (.string ⟨s.toArray⟩)).setCell ⟨w.heap.size,1,none⟩ (.int .i64 n)):=((hb.trans (hbW.mono hb.size)).setCell (p:=⟨w.heap.size,0,none⟩) (Nat.le_refl _) _).setCell (p:=⟨w.heap.size,1,none⟩) (Nat.le_refl _) _
 have hgt:w.heap.size<((W.setCell ⟨w.heap.size,0,none⟩ (.string ⟨s.toArray⟩)).setCell ⟨w.heap.size,1,none⟩ (.int .i64 n)).drew.heap.size:=by
  show w.heap.size<((W.setCell ⟨w.heap.size,0,none⟩ (.string ⟨s.toArray⟩)).setCell ⟨w.heap.size,1,none⟩ (.int .i64 n)).heap.size
  have h1:=hbW.size
  simp;omega
 have Hvn:=η hn0
 refine wp_region_any (by kernel_rfl) ?_
 change wpAny _ _ _ _ _ _ _ (World.drew _)
 generalize ((W.setCell ⟨w.heap.size,0,none⟩ (.string ⟨s.toArray⟩)).setCell ⟨w.heap.size,1,none⟩ (.int .i64 n))=Z at hWZ z0 z1 hbZ hgt ⊢
 replace hWZ:=hWZ.below (Below.refl _ _).drew
 replace hbZ:=hbZ.drew
 replace z0:Z.drew.cell? ⟨w.heap.size,0,none⟩=some (.string ⟨s.toArray⟩):=z0
 replace z1:Z.drew.cell? ⟨w.heap.size,1,none⟩=some (.int .i64 n):=z1
 generalize Z.drew=V at hWZ z0 z1 hbZ hgt ⊢
 have c2:=hWZ.t.c2
 have hlt:=hWZ.t.lt
 have f2:=hWZ.t.f 2
 obtain ⟨fl,hown,hrep⟩:=hWZ.n
 have Hown:=η hown;have Hrep:=η hrep;clear hown hrep
 have hvg:vn.ownBlock≠some g:=fun e=>by have:=ownL_ge hWZ.n g e;omega
 have Hvg:=η hvg;clear hvg
 have HWZ:=η hWZ;have HbZ:=η hbZ
 clear hWZ hbZ hW2 hww hwa hxx hb q0 q1 gs1 gs2 hr0 hn0 hbW hW1 hlw HWa Hb Has Hx
 have hS0:=And.intro z0 z1
 refine wpAny_of_held (S:=fun W=>W.cell? ⟨w.heap.size,0,none⟩=some (.string ⟨s.toArray⟩)∧W.cell? ⟨w.heap.size,1,none⟩=some (.int .i64 n)) _ _ _ _ ?_
 refine tk 0 (Value.pointer (some ⟨g,0,none⟩)) rfl (h:=?_)
 refine tk 1 (Value.pointer (some ⟨g,0,none⟩)) rfl (h:=?_)
 refine tk 2 (Value.pointer (some ⟨g,0,none⟩)) rfl (hy:=fun W hW=>by go_simp) (h:=?_)
 refine tk 3 (.pointer (some ⟨g,2,none⟩)) rfl (hy:=fun W hW=>by go_simp) (h:=?_)
 refine tk 5 (.pointer (some ⟨w.heap.size,1,none⟩)) rfl (hy:=fun W hW=>by go_simp) (h:=?_)
 refine tk 6 (.int .i64 n) rfl (hy:=fun W hW=>by obtain ⟨hW0,hW1⟩:=hW;go_simp) (h:=?_)
 refine tk 7 (.pointer (some ⟨w.heap.size,0,none⟩)) rfl (hy:=fun W hW=>by go_simp) (h:=?_)
 refine tk 8 (.string ⟨s.toArray⟩) rfl (hy:=fun W hW=>by obtain ⟨hW0,hW1⟩:=hW;go_simp) (h:=?_)
 refine tk 9 (.agg #[.int .i64 n,.string ⟨s.toArray⟩]) rfl (hy:=fun W hW=>by go_simp) (h:=?_)
 try simp only [Act.put,π1,π2,π3,π4,π5,π6]
 refine wpAnyH_ready (rs:=[4,10]) (by kernel_rfl) (by simp) ?_
 refine AllReadyH.cons rfl (fun K hK=>?_) (AllReadyH.cons rfl (fun K hK=>?_) AllReadyH.nil)
 ·
  go_simp
  refine hK.out _ _ hS0 (fun _=>?_)
  clear K hK
  try simp only [Act.put,π1,π2,π3,π4,π5,π6]
  refine tr 10 rfl (h:=fun K hK=>?_)
  go_simp
  have hnb:=below_new V (.cells #[.int .i64 n,.string ⟨s.toArray⟩] 77)
  refine hK.out _ _ ⟨(hnb.cell (p:=⟨w.heap.size,0,none⟩) hgt).trans z0,(hnb.cell (p:=⟨w.heap.size,1,none⟩) hgt).trans z1⟩ (fun _=>?_)
  clear K hK
  try simp only [Act.put,π1,π2,π3,π4,π5,π6]
  refine tr 11 rfl (h:=fun K hK=>?_)
  rw [if_pos (by kernel_rfl)]
  refine wp_append1 (.tmp 12) (.tmp 18) 40 rfl (g+1) 77 i0 (.agg #[.int .i64 0,.string ⟨#[]⟩]) 2 24 Tryz.underlying40 Hi.out Hz0.out Hz1.out Hz2.out (by rfl) (by decide) _ _ fl Hown.out rfl [.int .i64 n,.string ⟨s.toArray⟩] rfl rfl rfl (by simp [Value.oneCell']) (by have:=Hnl.out;unfold maxLen;omega) (by have:=Hnl.out;omega) hlt ?_
  intro v2 w12 own2 g2 at2
  obtain ⟨p2,cap2,rfl,_,_⟩:=own2.form (Nat.succ_pos _)
  have hput:=HWZ.out.notes g2 (OwnL.more (x:=(n,s)) Hrep.out rfl own2) (at2.imp (fun h=>h) (fun h=>⟨_,h,Nat.le_succ _⟩))
  have e0:=(grown_cell g2 hgt Hvn.out 0).trans z0
  have e1:=(grown_cell g2 hgt Hvn.out 1).trans z1
  have e2:=(grown_cell g2 hlt Hvg.out 2).trans c2
  have k2:=(grown_frozen g2 hlt Hvg.out 2).trans f2
  have Hput:=η hput
  clear hput own2 at2 c2 f2 g2
  refine hK.out _ _ ⟨e0,e1⟩ (fun _=>?_)
  clear K hK
  refine tk 12 (Value.pointer (some ⟨g,0,none⟩)) rfl (hy:=fun W hW=>by go_simp) (h:=?_)
  refine tk 13 (.pointer (some ⟨g,2,none⟩)) rfl (hy:=fun W hW=>by go_simp) (h:=?_)
  try simp only [Act.put,π1,π2,π3,π4,π5,π6]
  refine tr 14 rfl (h:=fun K hK=>?_)
  go_simp
  refine hK.out _ _ ⟨(World.cell?_setCell_other _ _ _ _ (by simp [hgne])).trans e0,(World.cell?_setCell_other _ _ _ _ (by simp [hgne])).trans e1⟩ (fun _=>?_)
  clear K hK
  try simp only [Act.put,π1,π2,π3,π4,π5,π6]
  refine wpAnyH_done (by kernel_rfl) ?_ _
  clear e0 e1 e2 k2
  go_wp2_with fail
  refine bodyPost_end (results_none rfl _ _ _) rfl ?_
  exact ⟨rfl,_,Hput.out.1,(Mv.of_below HbZ.out g vr vn).trans Hput.out.2⟩
 ·
  go_simp
  have hnb:=below_new V (.cells #[.int .i64 n,.string ⟨s.toArray⟩] 77)
  refine hK.out _ _ ⟨(hnb.cell (p:=⟨w.heap.size,0,none⟩) hgt).trans z0,(hnb.cell (p:=⟨w.heap.size,1,none⟩) hgt).trans z1⟩ (fun _=>?_)
  clear K hK
  try simp only [Act.put,π1,π2,π3,π4,π5,π6]
  have c2':=(hnb.cell (p:=⟨g,2,none⟩) hlt).trans c2
  refine tr 4 rfl (h:=fun K hK=>?_)
  go_simp
  refine hK.out _ _ ⟨(hnb.cell (p:=⟨w.heap.size,0,none⟩) hgt).trans z0,(hnb.cell (p:=⟨w.heap.size,1,none⟩) hgt).trans z1⟩ (fun _=>?_)
  clear K hK
  try simp only [Act.put,π1,π2,π3,π4,π5,π6]
  clear c2' hnb
  refine tr 11 rfl (h:=fun K hK=>?_)
  rw [if_pos (by kernel_rfl)]
  refine wp_append1 (.tmp 12) (.tmp 18) 40 rfl (g+1) 77 i0 (.agg #[.int .i64 0,.string ⟨#[]⟩]) 2 24 Tryz.underlying40 Hi.out Hz0.out Hz1.out Hz2.out (by rfl) (by decide) _ _ fl Hown.out rfl [.int .i64 n,.string ⟨s.toArray⟩] rfl rfl rfl (by simp [Value.oneCell']) (by have:=Hnl.out;unfold maxLen;omega) (by have:=Hnl.out;omega) hlt ?_
  intro v2 w12 own2 g2 at2
  obtain ⟨p2,cap2,rfl,_,_⟩:=own2.form (Nat.succ_pos _)
  have hput:=HWZ.out.notes g2 (OwnL.more (x:=(n,s)) Hrep.out rfl own2) (at2.imp (fun h=>h) (fun h=>⟨_,h,Nat.le_succ _⟩))
  have e0:=(grown_cell g2 hgt Hvn.out 0).trans z0
  have e1:=(grown_cell g2 hgt Hvn.out 1).trans z1
  have e2:=(grown_cell g2 hlt Hvg.out 2).trans c2
  have k2:=(grown_frozen g2 hlt Hvg.out 2).trans f2
  have Hput:=η hput
  clear hput own2 at2 c2 f2 g2
  refine hK.out _ _ ⟨e0,e1⟩ (fun _=>?_)
  clear K hK
  refine tk 12 (Value.pointer (some ⟨g,0,none⟩)) rfl (hy:=fun W hW=>by go_simp) (h:=?_)
  refine tk 13 (.pointer (some ⟨g,2,none⟩)) rfl (hy:=fun W hW=>by go_simp) (h:=?_)
  try simp only [Act.put,π1,π2,π3,π4,π5,π6]
  refine tr 14 rfl (h:=fun K hK=>?_)
  go_simp
  refine hK.out _ _ ⟨(World.cell?_setCell_other _ _ _ _ (by simp [hgne])).trans e0,(World.cell?_setCell_other _ _ _ _ (by simp [hgne])).trans e1⟩ (fun _=>?_)
  clear K hK
  try simp only [Act.put,π1,π2,π3,π4,π5,π6]
  refine wpAnyH_done (by kernel_rfl) ?_ _
  clear e0 e1 e2 k2
  go_wp2_with fail
  refine bodyPost_end (results_none rfl _ _ _) rfl ?_
  exact ⟨rfl,_,Hput.out.1,(Mv.of_below HbZ.out g vr vn).trans Hput.out.2⟩
end Go.Proofs.YtgnfmopcialllaaGreatDoor
