/- The walks of slices.Clone, label.own and label.Order. 'append(xs, ys...)': xs a row of the call's own, ys any slice. -/
import Derived.Test.YtgnfmopcialllaaGreatDoorTk
import Derived.Test.YtgnfmopcialllaaGreatDoorG16
import Derived.Test.YtgnfmopcialllaaGreatDoorG19
import Derived.Maps.AppendAt
import Derived.Lib.SliceRun
import Derived.Test.YtgnfmopcialllaaGreatDoorG06
set_option linter.unusedSimpArgs false
set_option linter.unusedVariables false
namespace Go.Proofs.YtgnfmopcialllaaGreatDoor
open Go.RowKit
def fcells (fs:List Ent.Fld):List Value:=fs.flatMap fun f=>[.string ⟨f.name.toArray⟩,.string ⟨f.text.toArray⟩]
theorem rep_fcells:∀fs:List Ent.Fld,RepRow RFld fs (fcells fs)
 | []=>rfl
 | f::fs=>⟨_,_,rfl,rfl,rep_fcells fs⟩
theorem fcells_length:∀fs:List Ent.Fld,(fcells fs).length=fs.length*2
 | []=>rfl
 | f::fs=>by have:=fcells_length fs;simp only [fcells,List.flatMap_cons,List.length_append,List.length_cons,List.length_nil] at this ⊢;omega
theorem fcells_get:∀(fs:List Ent.Fld) (j:Nat) (u:Value),(fcells fs)[j]? = some u → ∃(i r:Nat) (f:Ent.Fld),fs[i]? = some f∧j=i*2+r∧([.string ⟨f.name.toArray⟩,.string ⟨f.text.toArray⟩]:List Value)[r]? = some u
 | [],j,u,h=>by simp [fcells] at h
 | f::fs,j,u,h=>by
  have e:fcells (f::fs)=[.string ⟨f.name.toArray⟩,.string ⟨f.text.toArray⟩]++fcells fs:=rfl
  rw [e] at h
  by_cases hj:j<2
  ·
   rw [List.getElem?_append_left (by simpa using hj)] at h
   exact ⟨0,j,f,rfl,by omega,h⟩
  ·
   rw [List.getElem?_append_right (by simp;omega)] at h
   obtain ⟨i,r,g,h1,h2,h3⟩:=fcells_get fs _ u h
   simp only [List.length_cons,List.length_nil] at h2
   exact ⟨i+1,r,g,by simpa using h1,by omega,h3⟩
def ecells (l:List (Ent.Ent × Value)):List Value:=l.flatMap fun p=>[.string ⟨p.1.kind.toArray⟩,.string ⟨p.1.key.toArray⟩,p.2]
theorem ecells_length:∀l:List (Ent.Ent × Value),(ecells l).length=l.length*3
 | []=>rfl
 | f::fs=>by have:=ecells_length fs;simp only [ecells,List.flatMap_cons,List.length_append,List.length_cons,List.length_nil] at this ⊢;omega
theorem ecells_get:∀(fs:List (Ent.Ent × Value)) (j:Nat) (u:Value),(ecells fs)[j]? = some u → ∃(i r:Nat) (f:Ent.Ent × Value),fs[i]? = some f∧j=i*3+r∧([.string ⟨f.1.kind.toArray⟩,.string ⟨f.1.key.toArray⟩,f.2]:List Value)[r]? = some u
 | [],j,u,h=>by simp [ecells] at h
 | f::fs,j,u,h=>by
  have e:ecells (f::fs)=[.string ⟨f.1.kind.toArray⟩,.string ⟨f.1.key.toArray⟩,f.2]++ecells fs:=rfl
  rw [e] at h
  by_cases hj:j<3
  ·
   rw [List.getElem?_append_left (by simpa using hj)] at h
   exact ⟨0,j,f,rfl,by omega,h⟩
  ·
   rw [List.getElem?_append_right (by simp;omega)] at h
   obtain ⟨i,r,g,h1,h2,h3⟩:=ecells_get fs _ u h
   simp only [List.length_cons,List.length_nil] at h2
   exact ⟨i+1,r,g,by simpa using h1,by omega,h3⟩
theorem ecells_at:∀(es:List (Ent.Ent × Value)) (j:Nat) (p:Ent.Ent × Value),es[j]? = some p→(ecells es)[j*3]? = some (.string ⟨p.1.kind.toArray⟩)∧(ecells es)[j*3+1]? = some (.string ⟨p.1.key.toArray⟩)∧(ecells es)[j*3+2]? = some p.2
 | [],j,p,h=>by simp at h
 | f::fs,0,p,h=>by
  simp at h;subst h
  exact ⟨rfl,rfl,rfl⟩
 | f::fs,j+1,p,h=>by
  have h:=ecells_at fs j p (by simpa using h)
  have e:ecells (f::fs)=[.string ⟨f.1.kind.toArray⟩,.string ⟨f.1.key.toArray⟩,f.2]++ecells fs:=rfl
  rw [e]
  have sh:∀r,([.string ⟨f.1.kind.toArray⟩,.string ⟨f.1.key.toArray⟩,f.2]++ecells fs)[(j+1)*3+r]? = (ecells fs)[j*3+r]?:=fun r=>by
   rw [List.getElem?_append_right (by simp;omega)]
   congr 1
   simp;omega
  exact ⟨(sh 0).trans h.1,(sh 1).trans h.2.1,(sh 2).trans h.2.2⟩
theorem ents_pairs {S:Nat→Prop} {w:World} {a:Addr} {n cap:Nat} {l:List Ent.Ent} (h:Ents S w (.slice (some a) n cap) l) :
  ∀k,k≤l.length → ∃es:List (Ent.Ent × Value),es.map (·.1)=l.take k∧(∀p ∈ es,SliceIn S 2 RFld w p.2 p.1.fields)∧∀i p,es[i]? = some p → ∃b off,a=⟨b,off,none⟩∧b<w.heap.size∧w.cell? ⟨b,off+i*3,none⟩=some (.string ⟨p.1.kind.toArray⟩)∧w.cell? ⟨b,off+i*3+1,none⟩=some (.string ⟨p.1.key.toArray⟩)∧w.cell? ⟨b,off+i*3+2,none⟩=some p.2
 | 0,_=>⟨[],rfl,fun p hp=>by simp at hp,fun i p hp=>by simp at hp⟩
 | k+1,hk=>by
  obtain ⟨es,h1,h2,h3⟩:=ents_pairs h k (by omega)
  obtain ⟨x,hx⟩:∃x,l[k]? = some x:=⟨_,List.getElem?_eq_getElem (by omega)⟩
  obtain ⟨pa,ca,hv,_,_,hat⟩:=h
  obtain ⟨b',off',vs,hp,_,hlt,hR,hc⟩:=hat k x hx
  simp only [Value.slice.injEq] at hv
  rw [hp] at hv
  have hva:=Option.some.inj hv.1
  obtain ⟨vf,rfl,hF⟩:=hR
  have hel:es.length=k:=by rw [←List.length_map (f:=(·.1)),h1,List.length_take];omega
  refine ⟨es++[(x,vf)],?_,?_,?_⟩
  ·
   rw [List.map_append,h1,List.take_add_one,hx];rfl
  ·
   intro p hp
   rcases List.mem_append.1 hp with hp | hp
   ·
    exact h2 p hp
   ·
    simp only [List.mem_singleton] at hp;subst hp;exact hF
  ·
   intro i p hp
   by_cases hi:i<es.length
   ·
    rw [List.getElem?_append_left hi] at hp;exact h3 i p hp
   ·
    rw [List.getElem?_append_right (by omega)] at hp
    have hi0:i - es.length=0:=by have:=(List.getElem?_eq_some_iff.1 hp).1;simp at this;omega
    rw [hi0] at hp
    simp at hp;subst hp
    have hik:i=k:=by omega
    subst hik
    exact ⟨b',off',hva,hlt,hc 0 _ rfl,hc 1 _ rfl,hc 2 _ rfl⟩
theorem srow_of_own {W:World} {B g n cap:Nat} {t:TypeId} {es:List (Ent.Ent × Value)} (h:W.ownsRow B t 3 (.slice (some ⟨g,0,none⟩) n cap) n (ecells es)) (hn:es.length=n):SRow W g es:=by
 refine ⟨fun j p hp=>?_,fun i=>World.ownsRow.frozenAt h i,(World.ownsRow.lt h g rfl).2⟩
 have hj:j<es.length:=(List.getElem?_eq_some_iff.1 hp).1
 have ha:=ecells_at es j p hp
 exact ⟨(World.ownsRow.cellAt h _ (by omega)).trans ha.1,(World.ownsRow.cellAt h _ (by omega)).trans ha.2.1,(World.ownsRow.cellAt h _ (by omega)).trans ha.2.2⟩
theorem add_lit2 (b off j:Nat):(⟨b,off,none⟩:Addr).add j=⟨b,off+j,none⟩:=by unfold Addr.add;split <;> simp_all
set_option maxRecDepth 100000 in
theorem std_clone_flds (fs:List Ent.Fld) (v:Value) (S:Nat→Prop) (w:World) (hS:SliceIn S 2 RFld w v fs) (hl:fs.length≤1000000000) :
  Calls Tryz.prog 130 #[v] w fun e w'=>(∃v',e = .returned v'∧SliceIn (fun j=>w.heap.size≤j) 2 RFld w' v' fs)∧Below w.heap.size w w':=by
 obtain ⟨i0,hi,hz0,hz1,hz2⟩:=info_parts efield_info
 have Hi:=η hi;have Hz0:=η hz0;have Hz1:=η hz1;have Hz2:=η hz2;clear hi hz0 hz1 hz2
 obtain ⟨p,cap,rfl,hle,hm,hat⟩:=hS
 cases p with
 | none =>
  have h0:fs=[]:=by
   cases fs with
   | nil=>rfl
   | cons f r=>obtain ⟨b,off,vs,hp,_⟩:=hat 0 f rfl;cases hp
  subst h0
  clear hat
  have heq:=Lib.run_eql_slice_nil (P:=Tryz.prog) w 58 218 none 0 cap 0 0 Tryz.underlying58
  go_enter Tryz.func130, Tryz.ntmps130
  go_wp2_with fail
  go_ret
  exact ⟨⟨_,rfl,SliceIn.nil _ _ _ _⟩,Below.refl _ _⟩
 | some a =>
  have hown:=own_built w w.heap.size 218 2 0 [] (Nat.le_refl _) rfl (by unfold maxLen;omega)
  have hb:=below_new w (.cells #[] 218)
  have Hown:=η hown;have Hb:=η hb;have Hl:=η hl
  have hcell:∀j u,(fcells fs)[j]? = some u→(w.alloc (.cells #[] 218)).cell? (a.add j)=some u:=fun j u hj=>by
   obtain ⟨i,r,f,h1,h2,h3⟩:=fcells_get fs j u hj
   obtain ⟨b,off,vs,hp,_,hlt,hR,hc⟩:=hat i f h1
   have hR:vs=_:=hR
   subst hR
   obtain rfl:=Option.some.inj hp
   rw [add_lit2,h2]
   have hcc:w.cell? ⟨b,off+i*2+r,none⟩=some u:=by have:=hc r u h3;first | exact this | (rw [Nat.add_assoc];exact this)
   rw [Nat.add_assoc] at hcc
   exact (hb.cell (p:=⟨b,off+(i*2+r),none⟩) hlt).trans hcc
  have hone:∀u ∈ fcells fs,u.oneCell'=true:=fun u hu=>by
   obtain ⟨f,_,hf⟩:=List.mem_flatMap.1 hu
   simp only [List.mem_cons,List.not_mem_nil,or_false] at hf
   rcases hf with rfl | rfl <;> rfl
  have Hcell:=η hcell;have Hone:=η hone
  clear hown hb hat hcell hone hl
  have heq:=Lib.run_eql_slice_nil (P:=Tryz.prog) w 58 218 (some a) fs.length cap 0 0 Tryz.underlying58
  go_enter Tryz.func130, Tryz.ntmps130
  go_wp2_with (at_builtin;go_loud (refine wpList_append_own_at _ rfl (.tmp 5) (.tmp 6) 58 rfl w.heap.size 218 i0 (.agg #[.string ⟨#[]⟩,.string ⟨#[]⟩]) 2 32 Tryz.underlying58 Hi.out Hz0.out Hz1.out Hz2.out (by rfl) (by decide) _ 0 [] (by rfl) Hown.out a fs.length cap (fcells fs) (by rfl) (fcells_length fs) Hcell.out Hone.out (by have:=Hl.out;unfold maxLen;omega) (by have:=Hl.out;omega) Hb.out.size ?_);intro v2 w2 own2 g2 nil2 at2)
  go_ret
  refine ⟨⟨_,rfl,?_⟩,Hb.out.grown g2 Hb.out.size (fun q e=>(Hown.out.lt q e).1)⟩
  have hq:=own2
  rw [Nat.zero_add,List.nil_append] at hq
  exact SliceIn.own hq (rep_fcells fs) RFld.size rfl (fun b hb=>(hq.lt b hb).1)
set_option maxRecDepth 100000 in
theorem std_clone_ents_nil (cap:Nat) (w:World) :
  Calls Tryz.prog 129 #[.slice none 0 cap] w fun e w'=>e = .returned (.slice none 0 0)∧w=w':=by
 have heq:=Lib.run_eql_slice_nil (P:=Tryz.prog) w 52 60 none 0 cap 0 0 Tryz.underlying52
 go_enter Tryz.func129, Tryz.ntmps129
 go_wp2_with fail
 go_ret
 exact ⟨rfl,rfl⟩
set_option maxRecDepth 100000 in
theorem std_clone_ents (l:List Ent.Ent) (a:Addr) (n cap:Nat) (S:Nat→Prop) (w:World) (hS:Ents S w (.slice (some a) n cap) l) (hl:l.length≤100000) :
  Calls Tryz.prog 129 #[.slice (some a) n cap] w fun e w'=>(∃g c es,e = .returned (.slice (some ⟨g,0,none⟩) l.length c)∧w.heap.size≤g∧l.length≤c∧c≤maxLen∧SRow w' g es∧es.map (·.1)=l∧∀p ∈ es,SliceIn S 2 RFld w p.2 p.1.fields)∧Below w.heap.size w w':=by
 obtain ⟨i0,hi,hz0,hz1,hz2⟩:=info_parts eent_info
 have Hi:=η hi;have Hz0:=η hz0;have Hz1:=η hz1;have Hz2:=η hz2;clear hi hz0 hz1 hz2
 obtain ⟨es,hm,hfl,hcs⟩:=ents_pairs hS l.length (Nat.le_refl _)
 rw [List.take_length] at hm
 have hel:es.length=l.length:=by rw [←hm,List.length_map]
 have hn:n=l.length:=by obtain ⟨_,_,hv,_⟩:=hS;simp only [Value.slice.injEq] at hv;exact hv.2.1
 subst hn
 have hown:=own_built w w.heap.size 60 3 0 [] (Nat.le_refl _) rfl (by unfold maxLen;omega)
 have hb:=below_new w (.cells #[] 60)
 have hcell:∀j u,(ecells es)[j]? = some u→(w.alloc (.cells #[] 60)).cell? (a.add j)=some u:=fun j u hj=>by
  obtain ⟨i,r,f,h1,h2,h3⟩:=ecells_get es j u hj
  obtain ⟨b,off,rfl,hbl,q0,q1,q2⟩:=hcs i f h1
  rw [add_lit2,h2]
  rw [hb.cell (p:=⟨b,off+(i*3+r),none⟩) hbl]
  match r,h3 with
  | 0,h3=>rw [show off+(i*3+0)=off+i*3 by omega,q0];exact h3
  | 1,h3=>rw [show off+(i*3+1)=off+i*3+1 by omega,q1];exact h3
  | 2,h3=>rw [show off+(i*3+2)=off+i*3+2 by omega,q2];exact h3
  | r+3,h3=>simp at h3
 have hone:∀u ∈ ecells es,u.oneCell'=true:=fun u hu=>by
  obtain ⟨f,hf0,hf⟩:=List.mem_flatMap.1 hu
  obtain ⟨p1,n1,c1,hv⟩:=SliceIn.shape (hfl f hf0)
  simp only [List.mem_cons,List.not_mem_nil,or_false] at hf
  rcases hf with rfl | rfl | rfl
  ·
   rfl
  ·
   rfl
  ·
   rw [hv];rfl
 have hbeyond:(ecells es).length=l.length*3:=by rw [ecells_length,hel]
 have Hown:=η hown;have Hb:=η hb;have Hl:=η hl;have Hcell:=η hcell;have Hone:=η hone;have Hlen:=η hbeyond;have Hm:=η hm;have Hfl:=η hfl;have Hel:=η hel
 clear hown hb hl hcell hone hbeyond hm hfl hcs hS hel
 have heq:=Lib.run_eql_slice_nil (P:=Tryz.prog) w 52 60 (some a) l.length cap 0 0 Tryz.underlying52
 go_enter Tryz.func129, Tryz.ntmps129
 go_wp2_with (at_builtin;go_loud (refine wpList_append_own_at _ rfl (.tmp 5) (.tmp 6) 52 rfl w.heap.size 60 i0 (.agg #[.string ⟨#[]⟩,.string ⟨#[]⟩,.slice none 0 0]) 3 56 Tryz.underlying52 Hi.out Hz0.out Hz1.out Hz2.out (by rfl) (by decide) _ 0 [] (by rfl) Hown.out a l.length cap (ecells es) (by rfl) Hlen.out Hcell.out Hone.out (by have:=Hl.out;unfold maxLen;omega) (by have:=Hl.out;omega) Hb.out.size ?_);intro v2 w2 own2 g2 nil2 at2)
 go_ret
 have hb2:=Hb.out.grown g2 Hb.out.size (fun q e=>(Hown.out.lt q e).1)
 have hq:=own2
 rw [Nat.zero_add,List.nil_append] at hq
 refine ⟨?_,hb2⟩
 rcases hq.2 with ⟨hv,h0⟩ | ⟨g,c,cur,hv,hbg,hg,hlc,hcm,_⟩
 ·
  have:=nil2.1 hv
  exact absurd this.1 (by simp)
 ·
  subst hv
  first
   | exact ⟨g,c,es,rfl,hbg,hlc,hcm,srow_of_own hq Hel.out,Hm.out,Hfl.out⟩
   | exact ⟨g,c,rfl,hbg,hlc,hcm,es,srow_of_own hq Hel.out,Hm.out,Hfl.out⟩
theorem SRow.put1 {W:World} {g:Nat} {es:List (Ent.Ent × Value)} (h:SRow W g es) {k:Nat} {x:Ent.Ent} {v:Value} (hx:es[k]? = some (x,v)) (u:Value):SRow (W.setCell ⟨g,k*3+2,none⟩ u) g (es.set k (x,u)):=by
 have hk:k<es.length:=(List.getElem?_eq_some_iff.1 hx).1
 obtain ⟨q0,q1,q2⟩:=h.cell k _ hx
 have ne:∀i:Nat,i≠k*3+2→(⟨g,k*3+2,none⟩:Addr)≠⟨g,i,none⟩:=fun i hiq e=>hiq (by simp only [Addr.mk.injEq,and_true,true_and] at e;exact e.symm)
 have oth:∀i,i≠k*3+2→(W.setCell ⟨g,k*3+2,none⟩ u).cell? ⟨g,i,none⟩=W.cell? ⟨g,i,none⟩:=fun i h0=>World.cell?_setCell_other _ _ _ _ (ne i h0)
 refine ⟨fun j r hr=>?_,fun i=>by simpa using h.free i,by simpa using h.lt⟩
 by_cases hjk:j=k
 ·
  subst hjk
  rw [List.getElem?_set_self hk] at hr
  obtain rfl:=Option.some.inj hr
  exact ⟨(oth (j*3) (by omega)).trans q0,(oth (j*3+1) (by omega)).trans q1,World.cell?_setCell_same _ _ _ q2⟩
 ·
  rw [List.getElem?_set_ne (Ne.symm hjk)] at hr
  obtain ⟨r0,r1,r2⟩:=h.cell j r hr
  exact ⟨(oth (j*3) (by omega)).trans r0,(oth (j*3+1) (by omega)).trans r1,(oth (j*3+2) (by omega)).trans r2⟩
theorem bseqW {w a b:World} (h:Below w.heap.size w a) (k:Below a.heap.size a b):Below w.heap.size w b:=bseq h k
theorem map_set_fst:∀(es:List (Ent.Ent × Value)) (k:Nat) (x:Ent.Ent) (v v':Value),es[k]? = some (x,v)→(es.set k (x,v')).map (·.1)=es.map (·.1)
 | [],_,_,_,_,_=>rfl
 | p::es,0,x,v,v',h=>by simp at h;simp [h]
 | p::es,k+1,x,v,v',h=>by
  rw [List.set_cons_succ,List.map_cons,List.map_cons,map_set_fst es k x v v' (by simpa using h)]
set_option maxRecDepth 100000 in
set_option maxHeartbeats 1600000 in
theorem lb_own (l:List Ent.Ent) (a:Addr) (n cap:Nat) (S:Nat→Prop) (w:World) (hS:Ents S w (.slice (some a) n cap) l) (hl:l.length≤100000) (hfl:∀x ∈ l,x.fields.length≤1000000000) :
  Calls Tryz.prog 70 #[.slice (some a) n cap] w fun e w'=>(∃g c es,e = .returned (.slice (some ⟨g,0,none⟩) l.length c)∧w.heap.size≤g∧l.length≤c∧c≤maxLen∧SRow w' g es∧es.map (·.1)=l∧∀p ∈ es,SliceIn (fun j=>w.heap.size≤j∧j≠g) 2 RFld w' p.2 p.1.fields)∧Below w.heap.size w w':=by
 have HS:=η hS;have Hl:=η hl;have Hfl:=η hfl
 clear hS hl hfl
 go_enter Tryz.func70, Tryz.ntmps70
 go_wp2_with (go_at_call 129; refine (std_clone_ents l a n cap S _ HS.out Hl.out).mono ?_;rintro e w1 ⟨⟨g,c,es,rfl,hbg,hlc,hcm,hR1,hm1,hf1⟩,hb1⟩;have HR1:=η hR1;have Hm1:=η hm1;have Hf1:=η hf1;have Hbg:=η hbg;have Hlc:=η hlc;have Hcm:=η hcm;have Hb1:=η hb1;clear hR1 hm1 hf1 hbg hlc hcm hb1)
 go_loopw [9] (fun iv wr=>∃(k:Nat) (es':List (Ent.Ent × Value)),k≤l.length∧iv = .int .i64 (k:Int)∧SRow wr g es'∧es'.map (·.1)=l∧(∀i p,es'[i]? = some p→i<k→SliceIn (fun j=>w.heap.size≤j∧j≠g) 2 RFld wr p.2 p.1.fields)∧(∀i p,es'[i]? = some p→k≤i→SliceIn S 2 RFld w p.2 p.1.fields)∧Below w.heap.size w wr) (fun iv _=>l.length - (intOf iv).toNat)
 case atStart=>exact ⟨0,es,Nat.zero_le _,rfl,HR1.out,Hm1.out,fun i p _ hi=>absurd hi (Nat.not_lt_zero _),fun i p hp _=>Hf1.out p (List.mem_of_getElem? hp),Hb1.out⟩
 case round =>
  obtain ⟨k,es',hk,rfl,hR,hm,hlo,hhi,hb⟩:=hrel
  have HR:=η hR;have Hm:=η hm;have Hlo:=η hlo;have Hhi:=η hhi;have Hb:=η hb
  have hel:es'.length=l.length:=by rw [←hm,List.length_map]
  clear hR hm hlo hhi hb HR1 Hm1 Hf1
  by_cases hlt:k<l.length
  ·
   obtain ⟨⟨x,vx⟩,hx⟩:∃x,es'[k]? = some x:=⟨_,List.getElem?_eq_getElem (by omega)⟩
   obtain ⟨q0,q1,q2⟩:=HR.out.cell k _ hx
   have hF:=SliceIn.below' (Hhi.out k _ hx (Nat.le_refl _)) Hb.out
   have hxl:x ∈ l:=by rw [←Hm.out];exact List.mem_map.2 ⟨_,List.mem_of_getElem? hx,rfl⟩
   have hfx:=Hfl.out x hxl
   have hF:SliceIn S 2 RFld wr vx x.fields:=hF
   have q2:wr.cell? ⟨g,k*3+2,none⟩=some vx:=q2
   have hlt':(k:Int)<(l.length:Int):=by omega
   obtain ⟨k1,hk1⟩:∃k1,k1=k+1:=⟨_,rfl⟩
   have hwk:IntKind.i64.wrap ((k:Int)+1)=(k1:Int):=by rw [IntWalk.i64_in _ (by have:=Hl.out;omega)];omega
   have HF:=η hF;have Hx:=η hx;have Hlt:=η hlt;have Hk1:=η hk1;have Hfx:=η hfx;have Hel:=η hel
   clear hF hx hlt hk1 hfx hel hk hxl q0 q1
   go_wp2_with (go_at_call 130; refine (std_clone_flds x.fields vx S _ HF.out Hfx.out).mono ?_;rintro e w3 ⟨⟨v3,rfl,hF3⟩,hb3⟩;obtain ⟨p3,n3,c3,hv3⟩:=SliceIn.shape hF3;subst hv3;have HR3:=η (HR.out.below hb3);(have r2:=HR3.out.free (k*3+2));(have z2:=(HR3.out.cell k _ Hx.out).2.2);have HF3:=η hF3;have Hb3:=η hb3;clear hF3 hb3)
   go_roundw
   case rel =>
    have hput:=HR3.out.put1 (k:=k) (x:=x) (v:=vx) Hx.out (.slice p3 n3 c3)
    have hT:Turn g w3 (w3.setCell ⟨g,k*3+2,none⟩ (.slice p3 n3 c3)):=Turn.set ⟨rfl,rfl,rfl,Nat.le_refl _,fun _ _ _=>rfl⟩ _ _
    refine ⟨k1,es'.set k (x,.slice p3 n3 c3),by have:=Hlt.out;have:=Hk1.out;omega,rfl,hput,by rw [map_set_fst _ _ _ _ _ Hx.out];exact Hm.out,fun i p hp hi=>?_,fun i p hp hi=>?_,(bseqW Hb.out Hb3.out).setCell (p:=⟨g,k*3+2,none⟩) Hbg.out _⟩
    ·
     by_cases hik:i=k
     ·
      subst hik
      rw [List.getElem?_set_self (by rw [Hel.out];exact Hlt.out)] at hp
      obtain rfl:=Option.some.inj hp
      have hgw:=HR.out.lt
      exact Turn.slice (SliceIn.kept HF3.out (S':=fun j=>w.heap.size≤j∧j≠g) (fun j hj=>⟨Nat.le_trans Hb.out.size hj,by omega⟩) (Nat.le_refl _) (fun _ _ _=>rfl) (fun _ _ _ h=>h)) hT (fun j hj=>hj.2)
     ·
      rw [List.getElem?_set_ne (Ne.symm hik)] at hp
      exact Turn.slice (SliceIn.below' (Hlo.out i p hp (by have:=Hk1.out;omega)) Hb3.out) hT (fun j hj=>hj.2)
    ·
     have hik:i≠k:=by have:=Hk1.out;omega
     rw [List.getElem?_set_ne (Ne.symm hik)] at hp
     exact Hhi.out i p hp (by have:=Hk1.out;omega)
   case measure=>have:=Hlt.out;have:=Hk1.out;simp [intOf];omega
  ·
   have hlt':¬(k:Int)<(l.length:Int):=by omega
   have Hall:=η (show ∀p ∈ es',SliceIn (fun j=>w.heap.size≤j∧j≠g) 2 RFld wr p.2 p.1.fields from fun p hp=>by
    obtain ⟨i,hi⟩:=List.getElem?_of_mem hp
    exact Hlo.out i p hi (by have:=(List.getElem?_eq_some_iff.1 hi).1;omega))
   clear hlt hk hel
   go_wp2_with fail
   go_ret
   first
    | exact ⟨⟨g,c,es',rfl,Hbg.out,Hlc.out,Hcm.out,HR.out,Hm.out,Hall.out⟩,Hb.out⟩
    | exact ⟨⟨g,c,rfl,Hbg.out,Hlc.out,Hcm.out,es',HR.out,Hm.out,Hall.out⟩,Hb.out⟩
    | exact ⟨⟨g,c,rfl,Hbg.out,Hlc.out,Hcm.out,es',HR.out,Hm.out,fun a b hab=>Hall.out (a,b) hab⟩,Hb.out⟩
theorem lb_own_nil (cap:Nat) (w:World) :
  Calls Tryz.prog 70 #[.slice none 0 cap] w fun e w'=>e = .returned (.slice none 0 0)∧w=w':=by
 go_enter Tryz.func70, Tryz.ntmps70
 go_wp2_with (go_at_call 129; refine (std_clone_ents_nil cap _).mono ?_;rintro e w1 ⟨rfl,rfl⟩)
 go_loopw [9] (fun iv wr=>iv = .int .i64 0∧wr=w) (fun _ _=>0)
 case atStart=>exact ⟨rfl,rfl⟩
 case round =>
  obtain ⟨rfl,rfl⟩:=hrel
  go_wp2_with fail
  go_ret
  exact ⟨rfl,rfl⟩
theorem ents_of_srow {W:World} {B g n cap:Nat} {es:List (Ent.Ent × Value)} (h:SRow W g es) (hn:es.length=n) (hc:n≤cap) (hm:cap≤maxLen) (hg:B≤g) (hf:∀p ∈ es,SliceIn (fun j=>B≤j∧j≠g) 2 RFld W p.2 p.1.fields) :
  Ents (fun j=>B≤j) W (.slice (some ⟨g,0,none⟩) n cap) (es.map (·.1)):=by
 refine ⟨some ⟨g,0,none⟩,cap,by rw [List.length_map,hn],by rw [List.length_map,hn];exact hc,hm,fun i x hx=>?_⟩
 rw [List.getElem?_map] at hx
 cases he:es[i]? with
 | none=>rw [he] at hx;cases hx
 | some p =>
  rw [he] at hx
  obtain rfl:=Option.some.inj hx
  obtain ⟨q0,q1,q2⟩:=h.cell i p he
  refine ⟨g,0,[.string ⟨p.1.kind.toArray⟩,.string ⟨p.1.key.toArray⟩,p.2],rfl,hg,h.lt,⟨p.2,rfl,(hf p (List.mem_of_getElem? he)).kept (fun _ h=>h.1) (Nat.le_refl _) (fun _ _ _=>rfl) (fun _ _ _ h=>h)⟩,fun j u hj=>?_⟩
  match j,hj with
  | 0,hj=>obtain rfl:=Option.some.inj hj;rw [Nat.zero_add];exact q0
  | 1,hj=>obtain rfl:=Option.some.inj hj;rw [Nat.zero_add];exact q1
  | 2,hj=>obtain rfl:=Option.some.inj hj;rw [Nat.zero_add];exact q2
  | j+3,hj=>simp at hj
theorem Turn.belowOf {B g:Nat} {a w w':World} (h:Below B a w) (ht:Turn g w w') (hg:B≤g) (hB:B≤w.heap.size):Below B a w' :=
 h.trans ⟨ht.os,ht.tape,ht.output,ht.size,fun k hk=>ht.block k (Nat.lt_of_lt_of_le hk hB) (fun e=>by have:=Option.some.inj e;omega)⟩
set_option maxRecDepth 100000 in
theorem lb_sort_nil (w:World) :
  Calls Tryz.prog 71 #[.slice none 0 0,.func (.func 72) #[] #[]] w fun e w'=>e = .returned (.tuple #[])∧w=w':=by
 have hins:∀W:World,Calls Tryz.prog 177 #[.slice none 0 0,.int .i64 0,.int .i64 0,.func (.func 72) #[] #[]] W fun e w'=>e = .returned (.tuple #[])∧W=w':=fun W=>by
  go_enter Tryz.func177, Tryz.ntmps177
  go_wp2_with fail
  go_loopw [8] (fun iv wr=>iv = .int .i64 1∧wr=W) (fun _ _=>0)
  case atStart=>exact ⟨rfl,rfl⟩
  case round =>
   obtain ⟨rfl,rfl⟩:=hrel
   go_wp2_with fail
   first | refine bodyPost_ret (results_none rfl _ _ _) rfl ?_ | refine bodyPost_end (results_none rfl _ _ _) rfl ?_
   exact ⟨rfl,rfl⟩
 have hst:∀W:World,Calls Tryz.prog 131 #[.slice none 0 0,.int .i64 0,.func (.func 72) #[] #[]] W fun e w'=>e = .returned (.tuple #[])∧W=w':=fun W=>by
  have Hins:=η hins
  clear hins
  go_enter Tryz.func131, Tryz.ntmps131
  go_wp2_with fail
  go_loopw [7,8] (fun av bv wr=>av = .int .i64 0∧bv = .int .i64 20∧wr=W) (fun _ _ _=>0)
  case atStart=>exact ⟨rfl,rfl,rfl⟩
  case round =>
   obtain ⟨rfl,rfl,rfl⟩:=hrel
   go_wp2_with (go_at_call 177; refine (Hins.out _).mono ?_;rintro e w1 ⟨rfl,rfl⟩)
   go_loopw [6] (fun bv wq=>bv = .int .i64 20∧wq=wr) (fun _ _=>0)
   case atStart=>exact ⟨rfl,rfl⟩
   case round =>
    obtain ⟨rfl,rfl⟩:=hrel
    go_wp2_with fail
    first | refine bodyPost_ret (results_none rfl _ _ _) rfl ?_ | refine bodyPost_end (results_none rfl _ _ _) rfl ?_
    exact ⟨rfl,rfl⟩
 have Hst:=η hst
 clear hst hins
 go_enter Tryz.func71, Tryz.ntmps71
 go_wp2_with (go_at_call 131; refine (Hst.out _).mono ?_;rintro e w1 ⟨rfl,rfl⟩)
 first | refine bodyPost_ret (results_none rfl _ _ _) rfl ?_ | refine bodyPost_end (results_none rfl _ _ _) rfl ?_
 exact ⟨rfl,rfl⟩
set_option maxRecDepth 100000 in
set_option maxHeartbeats 800000 in
theorem lb_Order (l:List Ent.Ent) (v:Value) (m:Int) (S:Nat→Prop) (w:World) (hS:Ents S w v l) (hl:l.length≤39) (hnd:(l.map (·.key)).Nodup) (hB:∀x ∈ l,Lb.EntB x) (hm:w.cell? ⟨2, 0,none⟩=some (.int .i64 m)) (h0 : 2 < w.heap.size) :
  Calls Tryz.prog 37 #[v] w fun e w'=>(∃v',e = .returned v'∧Ents (fun j=>w.heap.size≤j) w' v' (Lb.order l))∧Below w.heap.size w w':=by
 have hS0:=hS
 obtain ⟨p,cap,rfl,hle,hmx,hat⟩:=hS
 cases hp:p with
 | none =>
  have hn:l=[]:=by
   cases l with
   | nil=>rfl
   | cons f r=>obtain ⟨b,off,vs,hq,_⟩:=hat 0 f rfl;rw [hp] at hq;cases hq
  subst hn
  clear hat hS0 hle hmx hp
  go_enter Tryz.func37, Tryz.ntmps37
  go_wp2_with (first
   | (go_at_call 70; refine (lb_own_nil cap _).mono ?_;rintro e w1 ⟨rfl,rfl⟩)
   | (go_at_call 71; refine (lb_sort_nil _).mono ?_;rintro e w1 ⟨rfl,rfl⟩))
  go_ret
  exact ⟨⟨_,rfl,SliceIn.nil _ _ _ _⟩,Below.refl _ _⟩
 | some a =>
  subst hp
  have HS:=η hS0;have Hl:=η hl;have Hnd:=η hnd;have HB:=η hB;have Hm:=η hm;have H0:=η h0
  clear hat hS0 hle hmx hl hB hm h0 hnd
  go_enter Tryz.func37, Tryz.ntmps37
  go_wp2_with (first
   | (go_at_call 70; refine (lb_own l a l.length cap S _ HS.out (Nat.le_trans Hl.out (by decide)) (fun x hx=>Nat.le_trans (HB.out x hx).many (by decide))).mono ?_;rintro e w1 ⟨⟨g,c,es,rfl,hbg,hlc,hcm,hR1,hm1,hf1⟩,hb1⟩;have HR1:=η hR1;have Hm1:=η hm1;have Hf1:=η hf1;have Hbg:=η hbg;have Hlc:=η hlc;have Hcm:=η hcm;have Hb1:=η hb1;(have Hel:=η (show es.length=l.length by rw [←hm1,List.length_map]));(have Hso:=η (show Sortable m g w1 es from ⟨fun p hp=>(hf1 p hp).kept (fun _ h=>h.2) (Nat.le_refl _) (fun _ _ _=>rfl) (fun _ _ _ h=>h),fun p hp=>HB.out p.1 (by rw [←hm1];exact List.mem_map.2 ⟨p,hp,rfl⟩),(keptM Hm.out H0.out hb1).1,(keptM Hm.out H0.out hb1).2,by have:=H0.out;omega⟩));clear hR1 hm1 hf1 hbg hlc hcm hb1)
   | (go_at_call 71; refine (lb_sort2 m g c l.length es _ HR1.out Hel.out Hso.out (by have h:=Hnd.out;rw [←Hm1.out,List.map_map] at h;exact h) Hl.out Hlc.out).mono ?_;rintro e w2 ⟨rfl,hR2,hT2⟩;have HR2:=η hR2;have HT2:=η hT2;clear hR2 hT2))
  go_ret
  have hop:=Lb.orderP_perm es
  have hfin:=ents_of_srow (B:=w.heap.size) HR2.out (n:=l.length) (by rw [hop.length_eq];exact Hel.out) Hlc.out Hcm.out Hbg.out (fun p hp=>Turn.slice (Hf1.out p (hop.mem_iff.1 hp)) HT2.out (fun _ h=>h.2))
  rw [Lb.orderP_fst,Hm1.out] at hfin
  exact ⟨⟨_,rfl,hfin⟩,Turn.belowOf Hb1.out HT2.out Hbg.out Hb1.out.size⟩
end Go.Proofs.YtgnfmopcialllaaGreatDoor
set_option linter.unusedSimpArgs false
set_option linter.unusedVariables false
namespace Go.Proofs.YtgnfmopcialllaaGreatDoor
open Go.RowKit
theorem flat_at {α:Type} (c:α→List Value) (n:Nat) (hn:∀x,(c x).length=n):∀(l:List α) (j:Nat) (u:Value),(l.flatMap c)[j]? = some u → ∃i r x,l[i]? = some x∧(c x)[r]? = some u∧j=i*n+r
 | [],j,u,h=>by simp at h
 | y::ys,j,u,h=>by
  rw [List.flatMap_cons] at h
  by_cases hj:j<n
  ·
   rw [List.getElem?_append_left (by rw [hn];exact hj)] at h
   exact ⟨0,j,y,rfl,h,by simp⟩
  ·
   rw [List.getElem?_append_right (by rw [hn];omega),hn] at h
   obtain ⟨i,r,x,h1,h2,h3⟩:=flat_at c n hn ys (j - n) u h
   exact ⟨i+1,r,x,by simpa using h1,h2,by rw [Nat.succ_mul];omega⟩
theorem run_append_none {P:Program} (w:World) (t ty e:TypeId) (i:TypeInfo) (ht:P.underlying t=some (.slice e)) (hi:P.info? e=some i) (p:Option Addr) (n cap c:Nat) (hle:n≤cap) :
  (Builtin.append_ #[t,t] ty #[.slice p n cap,.slice none 0 c]).run P w = .ok (.slice p n cap) w:=by
 have hf:=run_firstCells_none (P:=P) (w:=w) i.size 0 0 c
 cases p with
 | none=>simp [Builtin.append_,run_underlying ht,sizeOf,typeInfo,hi,Builtin.lenOf,hle,hf]
 | some a=>simp [Builtin.append_,run_underlying ht,sizeOf,typeInfo,hi,Builtin.lenOf,hle,hf,storeCells]
theorem run_append_slice {α:Type} {P:Program} (c:α→List Value) (R:α→List Value→Prop) (w:World) (B:Nat) (t ty e:TypeId) (i:TypeInfo) (z:Value) (size bytes:Nat) (ht:P.underlying t=some (.slice e)) (hi:P.info? e=some i) (hz:i.zero=some z)
  (hsize:i.size=size) (hby:i.bytes=bytes) (hzs:z.cells.size=size) (hsz:0<size) (v:Value) (n:Nat) (fl:List Value) (hown:w.ownsRow B e size v n fl) (x:Value) (xs:List α) (S:Nat→Prop) (hS:SliceIn S size R w x xs)
  (hR:∀y vs,R y vs→vs=c y) (hc:∀y,(c y).length=size) (h1:∀y,∀u ∈ c y,u.oneCell'=true) (h63:n+xs.length≤maxLen) (hbytes:(n+xs.length)*bytes≤140737488355328) (hbase:B≤w.heap.size) :
  ∃v' w',(Builtin.append_ #[t,t] ty #[v,x]).run P w = .ok v' w'∧w'.ownsRow B e size v' (n+xs.length) (fl++xs.flatMap c)∧w.grownBy w' v.ownBlock∧(v'.ownBlock=v.ownBlock∨v'.ownBlock=some w.heap.size):=by
 obtain ⟨p,cap,rfl,hle,hm,hat⟩:=hS
 cases p with
 | none =>
  have h0:xs=[]:=by
   cases xs with
   | nil=>rfl
   | cons y r=>obtain ⟨b,off,vs,hp,_⟩:=hat 0 y rfl;cases hp
  subst h0
  obtain ⟨q,k,hv,hk⟩:∃q k,v = .slice q n k∧n≤k:=by
   rcases hown.2 with ⟨hv,hn0⟩ | ⟨g,k,cur,hv,_,_,hk,_⟩
   ·
    exact ⟨none,0,by rw [hv,hn0],by omega⟩
   ·
    exact ⟨_,k,hv,hk⟩
  subst hv
  exact ⟨_,w,run_append_none w t ty e i ht hi q n k cap hk,by simpa using hown,grown_of_below (Below.refl _ _) _,.inl rfl⟩
 | some a =>
  obtain ⟨v',w',hr,h2,h3,_,h4⟩:=run_append_own_at (P:=P) w B t ty e i z size bytes ht hi hz hsize hby hzs hsz v n fl hown a xs.length cap (xs.flatMap c)
   (len_flat c size hc xs) (fun j u hj=>by
    obtain ⟨i2,r,y,h1,h2,h3⟩:=flat_at c size hc xs j u hj
    obtain ⟨b,off,vs,hp,_,_,hy,hcl⟩:=hat i2 y h1
    obtain rfl:=hR y vs hy
    obtain rfl:=Option.some.inj hp
    rw [add_lit2,h3]
    exact hcl r u h2) (fun u hu=>by
    obtain ⟨y,_,hy⟩:=List.mem_flatMap.1 hu
    exact h1 y u hy) h63 hbytes hbase
  exact ⟨v',w',hr,h2,h3,h4⟩
end Go.Proofs.YtgnfmopcialllaaGreatDoor
