/- Sorting entries that bear something with them: what is borne makes no difference. Plain Lean. The walks of slices.SortStableFunc at entries. Merging in place: what turning a row's elements leaves, and that two sorted parts of a row are merged by one turn and two smaller merges. Plain Lean. -/
import Derived.Test.YtgnfmopcialllaaGreatDoorG13
import Derived.Test.YtgnfmopcialllaaGreatDoorLbW7
set_option linter.unusedSimpArgs false
set_option linter.unusedVariables false
namespace Go.Proofs.YtgnfmopcialllaaGreatDoor.Lb
open Ent
section
variable {β:Type}
def insertP (x:Ent × β):List (Ent × β)→List (Ent × β)
 | []=>[x]
 | y::r=>if cmp x.1 y.1<0 then y::insertP x r else x::y::r
def sortP:List (Ent × β)→List (Ent × β)→List (Ent × β)
 | acc,[]=>acc
 | acc,x::r=>sortP (insertP x acc) r
theorem insertP_fst (x:Ent × β):∀r:List (Ent × β),(insertP x r).map (·.1)=insertR x.1 (r.map (·.1))
 | []=>rfl
 | y::r=>by
  unfold insertP insertR
  rw [List.map_cons]
  dsimp only
  split
  ·
   next h=>rw [List.map_cons,insertP_fst x r]
  ·
   next h=>rfl
theorem sortP_fst:∀(l acc:List (Ent × β)),(sortP acc l).map (·.1)=sortR (acc.map (·.1)) (l.map (·.1))
 | [],_=>rfl
 | x::l,acc=>by unfold sortP;rw [sortP_fst l,insertP_fst];rfl
theorem insertP_perm (x:Ent × β):∀r:List (Ent × β),(insertP x r).Perm (x::r)
 | []=>.refl _
 | y::r=>by
  unfold insertP
  split
  ·
   exact ((insertP_perm x r).cons y).trans (.swap x y r)
  ·
   exact .refl _
theorem sortP_perm:∀(l acc:List (Ent × β)),(sortP acc l).Perm (acc++l)
 | [],acc=>by rw [List.append_nil];exact .refl _
 | x::l,acc=>by
  unfold sortP
  exact (sortP_perm l _).trans (((insertP_perm x acc).append_right l).trans List.perm_middle.symm)
def orderP (l:List (Ent × β)):List (Ent × β):=(sortP [] l).reverse
theorem orderP_fst (l:List (Ent × β)):(orderP l).map (·.1)=order (l.map (·.1)):=by
 unfold orderP order
 rw [List.map_reverse,sortP_fst];rfl
theorem orderP_perm (l:List (Ent × β)):(orderP l).Perm l:=(List.reverse_perm _).trans (by have:=sortP_perm l [];rwa [List.nil_append] at this)
end
end Go.Proofs.YtgnfmopcialllaaGreatDoor.Lb
set_option linter.unusedSimpArgs false
set_option linter.unusedVariables false
namespace Go.Proofs.YtgnfmopcialllaaGreatDoor
open Go.RowKit
structure SRow (W:World) (g:Nat) (es:List (Ent.Ent × Value)):Prop where
 cell:∀(j:Nat) p,es[j]? = some p→W.cell? ⟨g,j*3,none⟩=some (.string ⟨p.1.kind.toArray⟩)∧W.cell? ⟨g,j*3+1,none⟩=some (.string ⟨p.1.key.toArray⟩)∧W.cell? ⟨g,j*3+2,none⟩=some p.2
 free:∀i,W.frozen? ⟨g,i,none⟩=false
 lt:g<W.heap.size
theorem SRow.below {W W':World} {g:Nat} {es:List (Ent.Ent × Value)} (h:SRow W g es) (hb:Below W.heap.size W W'):SRow W' g es :=
 ⟨fun j p hp=>⟨(hb.cell (p:=⟨g,j*3,none⟩) h.lt).trans (h.cell j p hp).1,(hb.cell (p:=⟨g,j*3+1,none⟩) h.lt).trans (h.cell j p hp).2.1,(hb.cell (p:=⟨g,j*3+2,none⟩) h.lt).trans (h.cell j p hp).2.2⟩,
  fun i=>(World.frozen?_of_block (hb.block g h.lt)).trans (h.free i),Nat.lt_of_lt_of_le h.lt hb.size⟩
theorem three_put (W:World) (a0 a1 a2:Addr) (h01:a0≠a1) (h02:a0≠a2) (h12:a1≠a2) (v0 v1 v2:Value) {u0 u1 u2:Value} (q0:W.cell? a0=some u0) (q1:W.cell? a1=some u1) (q2:W.cell? a2=some u2) :
  (((W.setCell a0 v0).setCell a1 v1).setCell a2 v2).cell? a0=some v0∧(((W.setCell a0 v0).setCell a1 v1).setCell a2 v2).cell? a1=some v1∧(((W.setCell a0 v0).setCell a1 v1).setCell a2 v2).cell? a2=some v2:=by
 have d0:(W.setCell a0 v0).cell? a0=some v0:=World.cell?_setCell_same _ _ _ q0
 have e1:(W.setCell a0 v0).cell? a1=some u1:=(World.cell?_setCell_other _ _ _ _ h01).trans q1
 have e2:(W.setCell a0 v0).cell? a2=some u2:=(World.cell?_setCell_other _ _ _ _ h02).trans q2
 generalize W.setCell a0 v0=W1 at *
 have f0:(W1.setCell a1 v1).cell? a0=some v0:=(World.cell?_setCell_other _ _ _ _ (Ne.symm h01)).trans d0
 have f1:(W1.setCell a1 v1).cell? a1=some v1:=World.cell?_setCell_same _ _ _ e1
 have f2:(W1.setCell a1 v1).cell? a2=some u2:=(World.cell?_setCell_other _ _ _ _ h12).trans e2
 generalize W1.setCell a1 v1=W2 at *
 exact ⟨(World.cell?_setCell_other _ _ _ _ (Ne.symm h02)).trans f0,(World.cell?_setCell_other _ _ _ _ (Ne.symm h12)).trans f1,World.cell?_setCell_same _ _ _ f2⟩
theorem SRow.put {W:World} {g:Nat} {es:List (Ent.Ent × Value)} (h:SRow W g es) {k:Nat} (hk:k<es.length) (e:Ent.Ent) (v:Value):SRow (((W.setCell ⟨g,k*3,none⟩ (.string ⟨e.kind.toArray⟩)).setCell ⟨g,k*3+1,none⟩ (.string ⟨e.key.toArray⟩)).setCell ⟨g,k*3+2,none⟩ v) g (es.set k (e,v)):=by
 obtain ⟨q,hq⟩:∃q,es[k]? = some q:=⟨_,List.getElem?_eq_getElem hk⟩
 obtain ⟨q0,q1,q2⟩:=h.cell k q hq
 refine ⟨fun j r hr=>?_,fun i=>by simpa using h.free i,by simpa using h.lt⟩
 by_cases hjk:j=k
 ·
  subst hjk
  rw [List.getElem?_set_self hk] at hr
  obtain rfl:=Option.some.inj hr
  exact three_put W _ _ _ (by simp) (by simp) (by simp) _ _ _ q0 q1 q2
 ·
  rw [List.getElem?_set_ne (Ne.symm hjk)] at hr
  obtain ⟨r0,r1,r2⟩:=h.cell j r hr
  have ne:∀i q:Nat,i≠q→(⟨g,i,none⟩:Addr)≠⟨g,q,none⟩:=fun i q hiq e=>hiq (by simp only [Addr.mk.injEq,and_true,true_and] at e;exact e)
  have oth:∀i,i≠k*3→i≠k*3+1→i≠k*3+2→(((W.setCell ⟨g,k*3,none⟩ (.string ⟨e.kind.toArray⟩)).setCell ⟨g,k*3+1,none⟩ (.string ⟨e.key.toArray⟩)).setCell ⟨g,k*3+2,none⟩ v).cell? ⟨g,i,none⟩=W.cell? ⟨g,i,none⟩:=fun i h0 h1 h2 =>
   (World.cell?_setCell_other _ _ _ _ (ne _ _ (Ne.symm h2))).trans ((World.cell?_setCell_other _ _ _ _ (ne _ _ (Ne.symm h1))).trans (World.cell?_setCell_other _ _ _ _ (ne _ _ (Ne.symm h0))))
  have t0:=oth (j*3) (by omega) (by omega) (by omega);have t1:=oth (j*3+1) (by omega) (by omega) (by omega);have t2:=oth (j*3+2) (by omega) (by omega) (by omega)
  exact ⟨t0.trans r0,t1.trans r1,t2.trans r2⟩
def Turn (g:Nat) (w w':World):Prop:=w.grownBy w' (some g)
theorem Turn.below {g:Nat} {w a b:World} (h:Turn g w a) (hb:Below a.heap.size a b):Turn g w b:=grown_trans h (grown_of_below hb _)
theorem Turn.set {g:Nat} {w a:World} (h:Turn g w a) (i:Nat) (v:Value):Turn g w (a.setCell ⟨g,i,none⟩ v):=by
 have hb:=(Below.refl 0 a).setCell (p:=⟨g,i,none⟩) (Nat.zero_le _) v
 exact grown_trans h ⟨hb.os,hb.tape,hb.output,hb.size,fun k _ hne=>Below.heap_setCell _ _ _ _ (fun e=>hne (by rw [show k=g from e]))⟩
theorem Turn.slice {α:Type} {S:Nat→Prop} {size:Nat} {R:α→List Value→Prop} {g:Nat} {w w':World} {v:Value} {xs:List α} (h:SliceIn S size R w v xs) (ht:Turn g w w') (hS:∀j,S j→j≠g):SliceIn S size R w' v xs :=
 h.kept (fun _ h=>h) ht.size (fun j hj hlt=>ht.block j hlt (fun e=>hS j hj (Option.some.inj e).symm.symm)) (fun _ _ _ h=>h)
structure Sortable (m:Int) (g:Nat) (w:World) (es:List (Ent.Ent × Value)):Prop where
 fld:∀p ∈ es,SliceIn (fun j=>j≠g) 2 RFld w p.2 p.1.fields
 ok:∀p ∈ es,Lb.EntB p.1
 m0:w.cell? ⟨2, 0,none⟩=some (.int .i64 m)
 h0 : 2 < w.heap.size
 g0:g ≠ 2
theorem Sortable.turn {m:Int} {g:Nat} {w w':World} {es:List (Ent.Ent × Value)} (h:Sortable m g w es) (ht:Turn g w w'):Sortable m g w' es:=by
 refine ⟨fun p hp=>Turn.slice (h.fld p hp) ht (fun _ h=>h),h.ok,?_,Nat.lt_of_lt_of_le h.h0 ht.size,h.g0⟩
 rw [←h.m0]
 have hbl:=ht.block 2 h.h0 (fun e=>h.g0 (Option.some.inj e).symm)
 show World.cell? w' ⟨2, 0,none⟩=World.cell? w ⟨2, 0,none⟩
 unfold World.cell?
 dsimp only
 rw [hbl]
end Go.Proofs.YtgnfmopcialllaaGreatDoor
set_option linter.unusedSimpArgs false
set_option linter.unusedVariables false
namespace Go.Proofs.YtgnfmopcialllaaGreatDoor.Mg
section
variable {α:Type}
structure Mv (a b:Nat) (L L':List α):Prop where
 perm:L'.Perm L
 out:∀j,j<a∨b≤j→L'[j]? = L[j]?
 inn:∀j,a≤j→j<b → ∃i,a≤i∧i<b∧L'[j]? = L[i]?
theorem Mv.refl (a b:Nat) (L:List α):Mv a b L L:=⟨.refl _,fun _ _=>rfl,fun j h1 h2=>⟨j,h1,h2,rfl⟩⟩
theorem Mv.trans {a b:Nat} {L L' L'':List α} (h:Mv a b L L') (k:Mv a b L' L''):Mv a b L L'' :=
 ⟨k.perm.trans h.perm,fun j hj=>(k.out j hj).trans (h.out j hj),fun j h1 h2=>by
  obtain ⟨i,hi1,hi2,e⟩:=k.inn j h1 h2
  obtain ⟨q,hq1,hq2,e2⟩:=h.inn i hi1 hi2
  exact ⟨q,hq1,hq2,e.trans e2⟩⟩
theorem Mv.wide {a b a' b':Nat} {L L':List α} (h:Mv a b L L') (ha:a' ≤ a) (hb:b≤b'):Mv a' b' L L' :=
 ⟨h.perm,fun j hj=>h.out j (by omega),fun j h1 h2=>by
  by_cases hj:a≤j∧j<b
  ·
   obtain ⟨i,h3,h4,e⟩:=h.inn j hj.1 hj.2;exact ⟨i,by omega,by omega,e⟩
  ·
   exact ⟨j,h1,h2,h.out j (by omega)⟩⟩
theorem Mv.len {a b:Nat} {L L':List α} (h:Mv a b L L'):L'.length=L.length:=h.perm.length_eq
structure Is (σ:Nat→Nat) (L L':List α):Prop where
 at':∀t,L'[t]? = L[σ t]?
theorem swap_get {L:List α} {i j:Nat} {x y:α} (hi:L[i]? = some x) (hj:L[j]? = some y) (t:Nat):((L.set i y).set j x)[t]? = if t=j then some x else if t=i then some y else L[t]?:=by
 have h1:=(List.getElem?_eq_some_iff.1 hi).1
 have h2:=(List.getElem?_eq_some_iff.1 hj).1
 by_cases e1:t=j
 ·
  rw [if_pos e1,e1,List.getElem?_set_self (by rw [List.length_set];exact h2)]
 ·
  rw [if_neg e1,List.getElem?_set_ne (fun e=>e1 e.symm)]
  by_cases e2:t=i
  ·
   rw [if_pos e2,e2,List.getElem?_set_self h1]
  ·
   rw [if_neg e2,List.getElem?_set_ne (fun e=>e2 e.symm)]
theorem swap_perm {L:List α} {i j:Nat} {x y:α} (hi:L[i]? = some x) (hj:L[j]? = some y):((L.set i y).set j x).Perm L:=by
 obtain ⟨h1,e1⟩:=List.getElem?_eq_some_iff.1 hi
 obtain ⟨h2,e2⟩:=List.getElem?_eq_some_iff.1 hj
 have:=List.set_set_perm h1 h2
 rwa [e1,e2] at this
theorem swap_is {σ τ:Nat→Nat} {L C:List α} {i j:Nat} {x y:α} (h:Is σ L C) (hi:C[i]? = some x) (hj:C[j]? = some y) (hτ:∀t,τ t=if t=j then σ i else if t=i then σ j else σ t):Is τ L ((C.set i y).set j x):=⟨fun t=>by
 rw [swap_get hi hj,hτ t]
 by_cases e1:t=j
 ·
  rw [if_pos e1,if_pos e1,←h.at',hi]
 ·
  rw [if_neg e1,if_neg e1]
  by_cases e2:t=i
  ·
   rw [if_pos e2,if_pos e2,←h.at',hj]
  ·
   rw [if_neg e2,if_neg e2,h.at']⟩
def swp (a b n t:Nat):Nat:=if a≤t∧t<a+n then t+(b - a) else if b≤t∧t<b+n then t - (b - a) else t
theorem swp_zero (a b:Nat) (L:List α):Is (swp a b 0) L L:=⟨fun t=>by unfold swp;rw [if_neg (by omega),if_neg (by omega)]⟩
theorem swp_step {a b n k:Nat} {L C:List α} {x y:α} (h:Is (swp a b k) L C) (hk:k<n) (hab:a+n≤b) (hi:C[a+k]? = some x) (hj:C[b+k]? = some y):Is (swp a b (k+1)) L ((C.set (a+k) y).set (b+k) x) :=
 swap_is h hi hj fun t=>by
  unfold swp
  repeat' split
  all_goals omega
def rot (a m b t:Nat):Nat:=if a≤t∧t<a+(b - m) then t+(m - a) else if a+(b - m)≤t∧t<b then t - (b - m) else t
def Left (a m b i j:Nat) (L C:List α):Prop:=∀t,C[rot (m - i) m (m+j) t]? = L[rot a m b t]?
theorem left_start {a m b:Nat} (L:List α) (h1:a≤m) (h2:m≤b):Left a m b (m - a) (b - m) L L:=fun t=>by
 rw [show m - (m - a)=a by omega,show m+(b - m)=b by omega]
theorem left_gt {a m b i j:Nat} {L C C':List α} (h:Left a m b i j L C) (hi:i≤m) (hij:j<i) (hj:0<j) (hs:Is (swp (m - i) m j) C C'):Left a m b (i - j) j L C':=fun t=>by
 rw [hs.at',←h t]
 congr 1
 unfold rot swp
 repeat' split
 all_goals omega
theorem left_lt {a m b i j:Nat} {L C C':List α} (h:Left a m b i j L C) (hi:i≤m) (hij:i<j) (hj:0<i) (hs:Is (swp (m - i) (m+j - i) i) C C'):Left a m b i (j - i) L C':=fun t=>by
 rw [hs.at',←h t]
 congr 1
 unfold rot swp
 repeat' split
 all_goals omega
theorem left_eq {a m b i:Nat} {L C C':List α} (h:Left a m b i i L C) (hi:i≤m) (hj:0<i) (hs:Is (swp (m - i) m i) C C'):Is (rot a m b) L C':=⟨fun t=>by
 rw [hs.at',←h t]
 congr 1
 unfold rot swp
 repeat' split
 all_goals omega⟩
theorem rot_mv {a m b:Nat} {L L':List α} (h:Is (rot a m b) L L') (hp:L'.Perm L) (h1:a≤m) (h2:m≤b):Mv a b L L' :=
 ⟨hp,fun j hj=>by rw [h.at'];unfold rot;rw [if_neg (by omega),if_neg (by omega)],fun j h3 h4=>⟨rot a m b j,by unfold rot;(repeat' split) <;> omega,by unfold rot;(repeat' split) <;> omega,h.at' j⟩⟩
theorem rot_none {a m b:Nat} (L:List α) (h1:a≤m) (h2:m≤b) (h:¬(a<m∧m<b)):Is (rot a m b) L L:=⟨fun t=>by
 congr 1
 unfold rot
 repeat' split
 all_goals omega⟩
variable (R:α→α→Prop)
def Le (L:List α) (i j:Nat):Prop:=∀x y,L[i]? = some x→L[j]? = some y→R x y
def Asc (L:List α) (a b:Nat):Prop:=∀i j,a≤i→i<j→j<b→Le R L i j
variable {R}
theorem Le.is {σ:Nat→Nat} {L L':List α} (h:Is σ L L') {i j:Nat} (k:Le R L (σ i) (σ j)):Le R L' i j:=fun x y hx hy=>k x y (by rw [←h.at'];exact hx) (by rw [←h.at'];exact hy)
theorem Le.trans {L:List α} (hR:∀x y z,R x y→R y z→R x z) {i j k:Nat} (h:Le R L i j) (h2:Le R L j k) (hj:j<L.length):Le R L i k:=fun x z hx hz=>hR x _ z (h x _ hx (List.getElem?_eq_getElem hj)) (h2 _ z (List.getElem?_eq_getElem hj) hz)
theorem Asc.mv {L L':List α} {a b c d:Nat} (h:Asc R L a b) (k:Mv c d L L') (hd:b≤c∨d≤a):Asc R L' a b:=fun i j h1 h2 h3 x y hx hy=>h i j h1 h2 h3 x y (by rw [←k.out i (by omega)];exact hx) (by rw [←k.out j (by omega)];exact hy)
theorem Asc.sub {L:List α} {a b c d:Nat} (h:Asc R L a b) (h1:a≤c) (h2:d≤b):Asc R L c d:=fun i j h3 h4 h5=>h i j (by omega) h4 (by omega)
def shl (a i t:Nat):Nat:=if a≤t∧t+1<i then t+1 else if t+1=i then a else t
theorem shl_start (a:Nat) (L:List α):Is (shl a (a+1)) L L:=⟨fun t=>by
 congr 1
 unfold shl
 repeat' split
 all_goals omega⟩
theorem shl_step {a k:Nat} {L C:List α} {x y:α} (h:Is (shl a (k+1)) L C) (hk:a≤k) (hi:C[k]? = some x) (hj:C[k+1]? = some y):Is (shl a (k+1+1)) L ((C.set k y).set (k+1) x) :=
 swap_is h hi hj fun t=>by
  unfold shl
  repeat' split
  all_goals omega
theorem shl_asc {a i b:Nat} {L L':List α} (h:Is (shl a i) L L') (hi:a<i) (hib:i≤b) (hB:Asc R L (a+1) b) (h1:∀t,a+1≤t→t<i→Le R L t a) (h2:∀t,i≤t→t<b→Le R L a t):Asc R L' a b:=fun p q hp hpq hq=>by
 refine Le.is h ?_
 unfold shl
 repeat' split
 all_goals first | (exfalso;omega) | exact hB _ _ (by omega) (by omega) (by omega) | exact h1 _ (by omega) (by omega) | exact h2 _ (by omega) (by omega)
def shr (m i t:Nat):Nat:=if i<t∧t≤m then t - 1 else if t=i then m else t
theorem shr_start (m:Nat) (L:List α):Is (shr m m) L L:=⟨fun t=>by
 congr 1
 unfold shr
 repeat' split
 all_goals omega⟩
theorem shr_step {m k:Nat} {L C:List α} {x y:α} (h:Is (shr m (k+1)) L C) (hk:k<m) (hi:C[k+1]? = some x) (hj:C[k]? = some y):Is (shr m k) L ((C.set (k+1) y).set k x) :=
 swap_is h hi hj fun t=>by
  unfold shr
  repeat' split
  all_goals omega
theorem shr_asc {a i m:Nat} {L L':List α} (h:Is (shr m i) L L') (hi:a≤i) (hib:i≤m) (hA:Asc R L a m) (h1:∀t,a≤t→t<i→Le R L t m) (h2:∀t,i≤t→t<m→Le R L m t):Asc R L' a (m+1):=fun p q hp hpq hq=>by
 refine Le.is h ?_
 unfold shr
 repeat' split
 all_goals first | (exfalso;omega) | exact hA _ _ (by omega) (by omega) (by omega) | exact h1 _ (by omega) (by omega) | exact h2 _ (by omega) (by omega)
theorem shl_mv {a i b:Nat} {L L':List α} (h:Is (shl a i) L L') (hp:L'.Perm L) (hi:a<i) (hib:i≤b):Mv a b L L' :=
 ⟨hp,fun j hj=>by rw [h.at'];congr 1;unfold shl;(repeat' split) <;> omega,fun j h3 h4=>⟨shl a i j,by unfold shl;(repeat' split) <;> omega,by unfold shl;(repeat' split) <;> omega,h.at' j⟩⟩
theorem shr_mv {a i m:Nat} {L L':List α} (h:Is (shr m i) L L') (hp:L'.Perm L) (hi:a≤i) (hib:i≤m):Mv a (m+1) L L' :=
 ⟨hp,fun j hj=>by rw [h.at'];congr 1;unfold shr;(repeat' split) <;> omega,fun j h3 h4=>⟨shr m i j,by unfold shr;(repeat' split) <;> omega,by unfold shr;(repeat' split) <;> omega,h.at' j⟩⟩
theorem parts {L L1:List α} (hR:∀x y z,R x y→R y z→R x z) {a m b s e mid:Nat} (h0:b≤L.length) (has:a≤s) (hsm:s≤m) (hme:m≤e) (heb:e≤b) (hmid:mid=s+(e - m))
  (hA:Asc R L a m) (hB:Asc R L m b) (h1:s<m→m<e→Le R L (e - 1) s) (h2:a<s→e<b→Le R L (s - 1) e) (h:Is (rot s m e) L L1) :
  Asc R L1 a s∧Asc R L1 s mid∧Asc R L1 mid e∧Asc R L1 e b∧∀i j,a≤i→i<mid→mid≤j→j<b→Le R L1 i j:=by
 have eqv:∀ {i j:Nat},i=j → ∀ {k:Nat},Le R L j k→Le R L i k:=fun e _ h=>e ▸ h
 have toS:∀v,s≤v→v<m→m<e→Le R L (e - 1) v:=fun v h3 h4 h5=>by
  by_cases hv:v=s
  ·
   rw [hv];exact h1 (by omega) h5
  ·
   exact Le.trans hR (h1 (by omega) h5) (hA s v has (by omega) h4) (by omega)
 have toE:∀v,e≤v→v<b→a<s→Le R L (s - 1) v:=fun v h3 h4 h5=>by
  by_cases hv:v=e
  ·
   rw [hv];exact h2 h5 (by omega)
  ·
   exact Le.trans hR (h2 h5 (by omega)) (hB e v hme (by omega) h4) (by omega)
 refine ⟨fun i j h3 h4 h5=>Le.is h ?_,fun i j h3 h4 h5=>Le.is h ?_,fun i j h3 h4 h5=>Le.is h ?_,fun i j h3 h4 h5=>Le.is h ?_,fun i j h3 h4 h5 h6=>Le.is h ?_⟩
 ·
  rw [show rot s m e i=i by unfold rot;(repeat' split) <;> omega,show rot s m e j=j by unfold rot;(repeat' split) <;> omega]
  exact hA i j h3 h4 (by omega)
 ·
  rw [show rot s m e i=i+(m - s) by unfold rot;(repeat' split) <;> omega,show rot s m e j=j+(m - s) by unfold rot;(repeat' split) <;> omega]
  exact hB _ _ (by omega) (by omega) (by omega)
 ·
  rw [show rot s m e i=i - (e - m) by unfold rot;(repeat' split) <;> omega,show rot s m e j=j - (e - m) by unfold rot;(repeat' split) <;> omega]
  exact hA _ _ (by omega) (by omega) (by omega)
 ·
  rw [show rot s m e i=i by unfold rot;(repeat' split) <;> omega,show rot s m e j=j by unfold rot;(repeat' split) <;> omega]
  exact hB i j (by omega) h4 (by omega)
 ·
  by_cases c1:i<s
  ·
   rw [show rot s m e i=i by unfold rot;(repeat' split) <;> omega]
   by_cases c2:j<e
   ·
    rw [show rot s m e j=j - (e - m) by unfold rot;(repeat' split) <;> omega]
    exact hA _ _ h3 (by omega) (by omega)
   ·
    rw [show rot s m e j=j by unfold rot;(repeat' split) <;> omega]
    by_cases c3:i=s - 1
    ·
     rw [c3];exact toE j (by omega) h6 (by omega)
    ·
     exact Le.trans hR (hA i (s - 1) h3 (by omega) (by omega)) (toE j (by omega) h6 (by omega)) (by omega)
  ·
   rw [show rot s m e i=i+(m - s) by unfold rot;(repeat' split) <;> omega]
   by_cases c2:j<e
   ·
    rw [show rot s m e j=j - (e - m) by unfold rot;(repeat' split) <;> omega]
    by_cases c3:i+(m - s)=e - 1
    ·
     rw [c3];exact toS _ (by omega) (by omega) (by omega)
    ·
     exact Le.trans hR (hB _ (e - 1) (by omega) (by omega) (by omega)) (toS _ (by omega) (by omega) (by omega)) (by omega)
   ·
    rw [show rot s m e j=j by unfold rot;(repeat' split) <;> omega]
    exact hB _ _ (by omega) (by omega) h6
theorem joined {L1 L2 L3:List α} {a mid b:Nat} (k2:Mv a mid L1 L2) (hA:Asc R L2 a mid) (k3:Mv mid b L2 L3) (hB:Asc R L3 mid b) (hc:∀i j,a≤i→i<mid→mid≤j→j<b→Le R L1 i j):Asc R L3 a b:=fun i j h1 h2 h3 x y hx hy=>by
 by_cases c1:j<mid
 ·
  exact hA i j h1 h2 c1 x y (by rw [←k3.out i (by omega)];exact hx) (by rw [←k3.out j (by omega)];exact hy)
 ·
  by_cases c2:i<mid
  ·
   obtain ⟨i',g1,g2,e1⟩:=k2.inn i h1 c2
   obtain ⟨j',g3,g4,e2⟩:=k3.inn j (by omega) h3
   refine hc i' j' g1 g2 g3 g4 x y ?_ ?_
   ·
    rw [←e1,←k3.out i (by omega)];exact hx
   ·
    rw [←k2.out j' (by omega),←e2];exact hy
  ·
   exact hB i j (by omega) h2 h3 x y hx hy
structure Seek (R:α→α→Prop) (L:List α) (p s0 r0 s r:Nat):Prop where
 l0:s0≤s
 l1:s≤r
 l2:r≤r0
 stay:∀c,s0≤c→c<s→Le R L c (p - c)
 go:∀c,r≤c→c<r0→Le R L (p - c) c
theorem seek_up {L:List α} (hR:∀x y z,R x y→R y z→R x z) {a m b p s0 r0 s r c:Nat} (h0:b≤L.length) (hmb:m≤b) (hA:Asc R L a m) (hB:Asc R L m b) (ha:a≤s0) (hr:r0≤m) (hp:∀c,s0≤c→c<r0→m≤p - c∧p - c<b∧c≤p) (h:Seek R L p s0 r0 s r) (h1:s≤c) (h2:c<r) (hc:Le R L c (p - c)):Seek R L p s0 r0 (c+1) r:=by
 have:=h.l0;have:=h.l2
 refine ⟨by omega,by omega,h.l2,fun c' g1 g2=>?_,h.go⟩
 have p1:=hp c (by omega) (by omega);have p2:=hp c' (by omega) (by omega)
 by_cases e:c'=c
 ·
  rw [e];exact hc
 ·
  exact Le.trans hR (hA c' c (by omega) (by omega) (by omega)) (Le.trans hR hc (hB _ _ (by omega) (by omega) (by omega)) (by omega)) (by omega)
theorem seek_down {L:List α} (hR:∀x y z,R x y→R y z→R x z) {a m b p s0 r0 s r c:Nat} (h0:b≤L.length) (hmb:m≤b) (hA:Asc R L a m) (hB:Asc R L m b) (ha:a≤s0) (hr:r0≤m) (hp:∀c,s0≤c→c<r0→m≤p - c∧p - c<b∧c≤p) (h:Seek R L p s0 r0 s r) (h1:s≤c) (h2:c<r) (hc:Le R L (p - c) c):Seek R L p s0 r0 s c:=by
 have:=h.l0;have:=h.l2
 refine ⟨h.l0,h1,by omega,h.stay,fun c' g1 g2=>?_⟩
 have p1:=hp c (by omega) (by omega);have p2:=hp c' (by omega) (by omega)
 by_cases e:c'=c
 ·
  rw [e];exact hc
 ·
  exact Le.trans hR (hB _ _ (by omega) (by omega) (by omega)) (Le.trans hR hc (hA c c' (by omega) (by omega) (by omega)) (by omega)) (by omega)
structure Ins (R:α→α→Prop) (L:List α) (a i j:Nat):Prop where
 rest:∀p q,a≤p→p<q→q≤i→p≠j→q≠j→Le R L p q
 aft:∀q,j<q→q≤i→Le R L j q
theorem ins_start {L:List α} {a i:Nat} (h:Asc R L a i):Ins R L a i i:=⟨fun p q h1 h2 h3 _ h5=>h p q h1 h2 (by omega),fun q h1 h2=>absurd h1 (by omega)⟩
theorem ins_end {L:List α} (hR:∀x y z,R x y→R y z→R x z) {a i j:Nat} (h:Ins R L a i j) (hl:i<L.length) (haj:a≤j) (hji:j≤i) (hj:a<j→Le R L (j - 1) j):Asc R L a (i+1):=fun p q h1 h2 h3=>by
 by_cases e1:p=j
 ·
  rw [e1];exact h.aft q (by omega) (by omega)
 ·
  by_cases e2:q=j
  ·
   rw [e2]
   by_cases e3:p=j - 1
   ·
    rw [e3];exact hj (by omega)
   ·
    exact Le.trans hR (h.rest p (j - 1) h1 (by omega) (by omega) e1 (by omega)) (hj (by omega)) (by omega)
  ·
   exact h.rest p q h1 h2 (by omega) e1 e2
theorem ins_step {L:List α} {a i j:Nat} {x y:α} (h:Ins R L a i (j+1)) (haj:a≤j) (hx:L[j+1]? = some x) (hy:L[j]? = some y) (hxy:R x y):Ins R ((L.set (j+1) y).set j x) a i j:=by
 refine ⟨fun p q h1 h2 h3 h4 h5=>?_,fun q h1 h2=>?_⟩
 ·
  intro u v hu hv
  rw [swap_get hx hy,if_neg h4] at hu
  rw [swap_get hx hy,if_neg h5] at hv
  by_cases e1:p=j+1
  ·
   rw [if_pos e1] at hu
   rw [if_neg (by omega)] at hv
   exact h.rest j q (by omega) (by omega) h3 (by omega) (by omega) u v (by rw [hy,←hu]) hv
  ·
   rw [if_neg e1] at hu
   by_cases e2:q=j+1
   ·
    rw [if_pos e2] at hv
    exact h.rest p j h1 (by omega) (by omega) e1 (by omega) u v hu (by rw [hy,←hv])
   ·
    rw [if_neg e2] at hv
    exact h.rest p q h1 h2 h3 e1 e2 u v hu hv
 ·
  intro u v hu hv
  rw [swap_get hx hy,if_pos rfl] at hu
  rw [swap_get hx hy,if_neg (by omega)] at hv
  obtain rfl:=Option.some.inj hu
  by_cases e2:q=j+1
  ·
   rw [if_pos e2] at hv
   obtain rfl:=Option.some.inj hv
   exact hxy
  ·
   rw [if_neg e2] at hv
   exact h.aft q (by omega) h2 _ v hx hv
theorem swap_mv {L:List α} {a b i j:Nat} {x y:α} (h1:a≤i) (h2:i<b) (h3:a≤j) (h4:j<b) (hx:L[i]? = some x) (hy:L[j]? = some y):Mv a b L ((L.set i y).set j x) :=
 ⟨swap_perm hx hy,fun t ht=>by rw [swap_get hx hy,if_neg (by omega),if_neg (by omega)],fun t g1 g2=>by
  rw [swap_get hx hy]
  by_cases e1:t=j
  ·
   rw [if_pos e1];exact ⟨i,h1,h2,hx.symm⟩
  ·
   rw [if_neg e1]
   by_cases e2:t=i
   ·
    rw [if_pos e2];exact ⟨j,h3,h4,hy.symm⟩
   ·
    rw [if_neg e2];exact ⟨t,g1,g2,rfl⟩⟩
end
def En {β:Type} (x y:Ent.Ent × β):Prop:=Lb.cmp x.1 y.1≤0
theorem En.tr {β:Type} (x y z:Ent.Ent × β) (h:En x y) (k:En y z):En x z:=Lb.cmp_trans _ _ _ h k
theorem en_lt {β:Type} {x y:Ent.Ent × β} (h:Lb.cmp x.1 y.1<0):En x y:=Int.le_of_lt h
theorem en_ge {β:Type} {x y:Ent.Ent × β} (h:¬Lb.cmp x.1 y.1<0):En y x:=by unfold En;have:=Lb.cmp_anti x.1 y.1;omega
theorem sorted_eq {β:Type} {L L':List (Ent.Ent × β)} (hp:L'.Perm L) (hs:Asc En L' 0 L'.length) (hn:(L.map (·.1.key)).Nodup):L'=Lb.orderP L:=by
 have hpw:L'.Pairwise En:=List.pairwise_iff_getElem.2 fun i j hi hj hij=>hs i j (Nat.zero_le _) hij hj _ _ (List.getElem?_eq_getElem hi) (List.getElem?_eq_getElem hj)
 have hpo:(Lb.orderP L).Pairwise En:=by
  have h:=Lb.order_asc (L.map (·.1))
  rw [←Lb.orderP_fst,List.pairwise_map] at h
  exact h
 refine List.Perm.eq_of_pairwise (le:=En) ?_ hpw hpo (hp.trans (Lb.orderP_perm L).symm)
 intro a b ha hb h1 h2
 have ha':=hp.mem_iff.1 ha
 have hb':=(Lb.orderP_perm L).mem_iff.1 hb
 have hk:=Lb.cmp_key a.1 b.1 (by have:=Lb.cmp_anti a.1 b.1;unfold En at h1 h2;omega)
 have inj:∀(l:List (Ent.Ent × β)),(l.map (·.1.key)).Nodup → ∀a ∈ l,∀b ∈ l,a.1.key=b.1.key→a=b:=by
  intro l
  induction l with
  | nil=>intro _ a ha;cases ha
  | cons y l ih =>
   intro h a ha b hb e
   rw [List.map_cons,List.nodup_cons] at h
   rcases List.mem_cons.1 ha with ea | ha2
   ·
    rcases List.mem_cons.1 hb with eb | hb2
    ·
     rw [ea,eb]
    ·
     exact absurd (List.mem_map.2 ⟨b,hb2,by rw [←e,ea]⟩) h.1
   ·
    rcases List.mem_cons.1 hb with eb | hb2
    ·
     exact absurd (List.mem_map.2 ⟨a,ha2,by rw [e,eb]⟩) h.1
    ·
     exact ih h.2 a ha2 b hb2 e
 exact inj L hn a ha' b hb' hk
end Go.Proofs.YtgnfmopcialllaaGreatDoor.Mg
