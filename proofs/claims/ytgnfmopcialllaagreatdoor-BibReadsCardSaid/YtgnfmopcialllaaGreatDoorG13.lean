/- The plain law of package label's order: sorting keeps the entries, is done at once, and hangs on no order where no key is there twice. Plain Lean. Lengths of what package name and package label make. Plain Lean. The walks of package name, last part (Short, Label), and label.authors. The walks of name.Label and label.letters. -/
import Derived.Test.YtgnfmopcialllaaGreatDoorG07
import Derived.Test.YtgnfmopcialllaaGreatDoorG06
import Derived.Test.YtgnfmopcialllaaGreatDoorG08
import Derived.Test.YtgnfmopcialllaaGreatDoorTk
import Derived.Test.YtgnfmopcialllaaGreatDoorG12
import Derived.StillTailTactics
set_option linter.unusedSimpArgs false
set_option linter.unusedVariables false
namespace Go.Proofs.YtgnfmopcialllaaGreatDoor.Lb
open Ent
theorem u8_lt_tr {a b c:UInt8} (h:a<b) (k:b<c):a<c:=UInt8.lt_trans h k
theorem cmpB_cons (x y:UInt8) (a b:List UInt8):cmpB (x::a) (y::b)=if x<y then -1 else if y<x then 1 else cmpB a b:=rfl
theorem cmpB_eq0:∀a b:List UInt8,cmpB a b=0→a=b
 | [],[],_=>rfl
 | [],_::_,h=>by simp [cmpB,Lib.compareBytes] at h
 | _::_,[],h=>by simp [cmpB,Lib.compareBytes] at h
 | x::a,y::b,h=>by
  rw [cmpB_cons] at h
  split at h
  ·
   omega
  ·
   next h1 =>
   split at h
   ·
    omega
   ·
    next h2 =>
    have:x=y:=by
     refine UInt8.le_antisymm (UInt8.not_lt.1 h2) (UInt8.not_lt.1 h1)
    rw [this,cmpB_eq0 a b h]
theorem cmpB_anti:∀a b:List UInt8,cmpB b a = - cmpB a b
 | [],[]=>rfl
 | [],_::_=>rfl
 | _::_,[]=>rfl
 | x::a,y::b=>by
  rw [cmpB_cons,cmpB_cons]
  by_cases h1:x<y
  ·
   have h2:¬y<x:=UInt8.not_lt.2 (UInt8.le_of_lt h1)
   rw [if_pos h1,if_neg h2,if_pos h1];rfl
  ·
   by_cases h2:y<x
   ·
    rw [if_pos h2,if_neg h1,if_pos h2]
   ·
    rw [if_neg h1,if_neg h2,if_neg h2,if_neg h1];exact cmpB_anti a b
theorem cmpB_trans:∀a b d:List UInt8,cmpB a b<0→cmpB b d<0→cmpB a d<0
 | [],[],_,h,_=>by simp [cmpB,Lib.compareBytes] at h
 | _::_,[],_,h,_=>by simp [cmpB,Lib.compareBytes] at h
 | _,_::_,[],_,k=>by simp [cmpB,Lib.compareBytes] at k
 | [],_::_,_::_,_,_=>by simp [cmpB,Lib.compareBytes]
 | x::a,y::b,z::d,h,k=>by
  rw [cmpB_cons] at h k ⊢
  have irr:=UInt8.lt_irrefl
  by_cases h1:x<y
  ·
   by_cases k1:y<z
   ·
    rw [if_pos (u8_lt_tr h1 k1)];omega
   ·
    rw [if_neg k1] at k
    by_cases k2:z<y
    ·
     rw [if_pos k2] at k;omega
    ·
     have:y=z:=UInt8.le_antisymm (UInt8.not_lt.1 k2) (UInt8.not_lt.1 k1)
     rw [←this,if_pos h1];omega
  ·
   rw [if_neg h1] at h
   by_cases h2:y<x
   ·
    rw [if_pos h2] at h;omega
   ·
    rw [if_neg h2] at h
    have e:x=y:=UInt8.le_antisymm (UInt8.not_lt.1 h2) (UInt8.not_lt.1 h1)
    rw [e]
    by_cases k1:y<z
    ·
     rw [if_pos k1];omega
    ·
     rw [if_neg k1] at k ⊢
     by_cases k2:z<y
     ·
      rw [if_pos k2] at k;omega
     ·
      rw [if_neg k2] at k ⊢;exact cmpB_trans a b d h k
theorem cmpL_cons (x y:List UInt8) (a b:List (List UInt8)):cmpL (x::a) (y::b)=if cmpB x y=0 then cmpL a b else cmpB x y:=rfl
theorem cmpL_eq0:∀a b:List (List UInt8),a.length=b.length→cmpL a b=0→a=b
 | [],[],_,_=>rfl
 | [],_::_,h,_=>by simp at h
 | _::_,[],h,_=>by simp at h
 | x::a,y::b,h,e=>by
  rw [cmpL_cons] at e
  split at e
  ·
   next h0=>rw [cmpB_eq0 _ _ h0,cmpL_eq0 a b (by simpa using h) e]
  ·
   next h0=>exact absurd e h0
theorem cmpL_anti:∀a b:List (List UInt8),a.length=b.length→cmpL b a = - cmpL a b
 | [],[],_=>rfl
 | [],_::_,h=>by simp at h
 | _::_,[],h=>by simp at h
 | x::a,y::b,h=>by
  have ha:=cmpB_anti x y
  rw [cmpL_cons,cmpL_cons]
  by_cases h0:cmpB x y=0
  ·
   rw [if_pos h0,if_pos (by omega)];exact cmpL_anti a b (by simpa using h)
  ·
   rw [if_neg h0,if_neg (by omega)];exact ha
theorem cmpL_trans:∀a b d:List (List UInt8),a.length=b.length→b.length=d.length→cmpL a b<0→cmpL b d<0→cmpL a d<0
 | [],[],[],_,_,h,_=>by simp [cmpL] at h
 | [],_::_,_,h,_,_,_=>by simp at h
 | _::_,[],_,h,_,_,_=>by simp at h
 | [],[],_::_,_,h,_,_=>by simp at h
 | _::_,_::_,[],_,h,_,_=>by simp at h
 | x::a,y::b,z::d,e1,e2,h,k=>by
  rw [cmpL_cons] at h k ⊢
  by_cases h0:cmpB x y=0
  ·
   have:=cmpB_eq0 _ _ h0
   subst this
   rw [if_pos h0] at h
   by_cases k0:cmpB x z=0
   ·
    rw [if_pos k0] at k ⊢
    exact cmpL_trans a b d (by simpa using e1) (by simpa using e2) h k
   ·
    rw [if_neg k0] at k ⊢;exact k
  ·
   rw [if_neg h0] at h
   by_cases k0:cmpB y z=0
   ·
    have:=cmpB_eq0 _ _ k0
    subst this
    rw [if_neg h0];exact h
   ·
    rw [if_neg k0] at k
    have:=cmpB_trans x y z h k
    rw [if_neg (by omega)];exact this
theorem ordK_len (x:Ent):(ordK x).length=4:=rfl
theorem cmp_key (x y:Ent) (h:cmp x y=0):x.key=y.key:=by
 have:=cmpL_eq0 _ _ (by rw [ordK_len,ordK_len]) h
 unfold ordK at this
 simp only [List.cons.injEq,and_true] at this
 exact this.2.2.2
theorem cmp_anti (x y:Ent):cmp y x = - cmp x y:=cmpL_anti _ _ (by rw [ordK_len,ordK_len])
theorem cmp_trans (x y z:Ent) (h:cmp x y≤0) (k:cmp y z≤0):cmp x z≤0:=by
 unfold cmp at h k ⊢
 by_cases h0:cmpL (ordK x) (ordK y)=0
 ·
  rw [cmpL_eq0 _ _ (by rw [ordK_len,ordK_len]) h0];exact k
 ·
  by_cases k0:cmpL (ordK y) (ordK z)=0
  ·
   rw [←cmpL_eq0 _ _ (by rw [ordK_len,ordK_len]) k0];exact h
  ·
   exact Int.le_of_lt (cmpL_trans (ordK x) (ordK y) (ordK z) rfl rfl (by omega) (by omega))
theorem insertR_perm (x:Ent):∀r:List Ent,(insertR x r).Perm (x::r)
 | []=>.refl _
 | y::r=>by
  unfold insertR
  split
  ·
   exact ((insertR_perm x r).cons y).trans (.swap x y r)
  ·
   exact .refl _
theorem sortR_perm:∀(l acc:List Ent),(sortR acc l).Perm (acc++l)
 | [],acc=>by rw [List.append_nil];exact .refl _
 | x::l,acc=>by
  unfold sortR
  refine (sortR_perm l _).trans ?_
  refine ((insertR_perm x acc).append_right l).trans ?_
  exact List.perm_middle.symm
theorem order_perm (l:List Ent):(order l).Perm l:=(List.reverse_perm _).trans (by have:=sortR_perm l [];rwa [List.nil_append] at this)
def Desc (r:List Ent):Prop:=r.Pairwise fun a b=>cmp b a≤0
theorem insertR_desc (x:Ent):∀r:List Ent,Desc r→Desc (insertR x r)
 | [],_=>by unfold insertR;exact List.pairwise_singleton _ _
 | y::r,h=>by
  unfold Desc at h ⊢
  rw [List.pairwise_cons] at h
  unfold insertR
  split
  ·
   next hlt =>
   rw [List.pairwise_cons]
   refine ⟨fun z hz=>?_,insertR_desc x r h.2⟩
   rcases List.mem_cons.1 ((insertR_perm x r).mem_iff.1 hz) with rfl | hz
   ·
    omega
   ·
    exact h.1 z hz
  ·
   next hlt =>
   have ha:=cmp_anti x y
   rw [List.pairwise_cons,List.pairwise_cons]
   refine ⟨fun z hz=>?_,h⟩
   rcases List.mem_cons.1 hz with rfl | hz
   ·
    omega
   ·
    exact cmp_trans z y x (h.1 z hz) (by omega)
theorem sortR_desc:∀(l acc:List Ent),Desc acc→Desc (sortR acc l)
 | [],_,h=>h
 | x::l,acc,h=>by unfold sortR;exact sortR_desc l _ (insertR_desc x acc h)
theorem order_asc (l:List Ent):(order l).Pairwise fun a b=>cmp a b≤0:=by
 unfold order
 rw [List.pairwise_reverse]
 exact sortR_desc l [] List.Pairwise.nil
def fresh:List (List UInt8)→List (List UInt8)→List (List UInt8)
 | _,[]=>[]
 | seen,k::r=>if seen.contains k then fresh (seen++[k]) r else k::fresh (seen++[k]) r
theorem pick_fresh (l:List Ent):∀(ks seen:List (List UInt8)),pickN l seen ks=((fresh seen ks).filterMap (fun k=>(wholeE l k).1),(fresh seen ks).filterMap fun k=>if (wholeE l k).1.isSome then none else some ((wholeE l k).2,k))
 | [],_=>rfl
 | k::r,seen=>by
  unfold pickN fresh
  split
  ·
   exact pick_fresh l r _
  ·
   rw [List.filterMap_cons,List.filterMap_cons,pick_fresh l r]
   generalize wholeE l k=o
   obtain ⟨o1,e⟩:=o
   cases o1 <;> rfl
theorem mem_fresh:∀(ks seen:List (List UInt8)) (k:List UInt8),k ∈ fresh seen ks ↔ k ∈ ks∧k ∉ seen
 | [],_,k=>by simp [fresh]
 | q::r,seen,k=>by
  unfold fresh
  by_cases h:seen.contains q
  ·
   rw [if_pos h,mem_fresh r]
   have h':q ∈ seen:=by simpa using h
   simp only [List.mem_append,List.mem_cons]
   constructor
   ·
    rintro ⟨h1,h2⟩;exact ⟨.inr h1,fun h3=>h2 (.inl h3)⟩
   ·
    rintro ⟨h1,h2⟩
    have:k≠q:=fun e=>h2 (e ▸ h')
    exact ⟨h1.resolve_left this,fun h3=>h3.elim h2 fun h4=>this (by simpa using h4)⟩
  ·
   rw [if_neg h,List.mem_cons,mem_fresh r]
   have h':q ∉ seen:=by simpa using h
   simp only [List.mem_append,List.mem_cons]
   constructor
   ·
    rintro (rfl | ⟨h1,h2⟩)
    ·
     exact ⟨.inl rfl,h'⟩
    ·
     exact ⟨.inr h1,fun h3=>h2 (.inl h3)⟩
   ·
    rintro ⟨h1,h2⟩
    by_cases e:k=q
    ·
     exact .inl e
    ·
     exact .inr ⟨h1.resolve_left e,fun h3=>h3.elim h2 fun h4=>e (by simpa using h4)⟩
theorem fresh_nodup:∀(ks seen:List (List UInt8)),(fresh seen ks).Nodup
 | [],_=>by unfold fresh;exact List.nodup_nil
 | q::r,seen=>by
  unfold fresh
  split
  ·
   exact fresh_nodup r _
  ·
   rw [List.nodup_cons]
   refine ⟨fun h=>?_,fresh_nodup r _⟩
   have:=((mem_fresh r _ q).1 h).2
   exact this (by simp)
theorem pick_count (l:List Ent) (ks:List (List UInt8)):(pick l ks).1.length+(pick l ks).2.length=(fresh [] ks).length:=by
 unfold pick
 rw [pick_fresh]
 dsimp only
 generalize fresh [] ks=f
 induction f with
 | nil=>rfl
 | cons k f ih =>
  rw [List.filterMap_cons,List.filterMap_cons,List.length_cons]
  cases h:(wholeE l k).1
  ·
   simp only [Option.isSome_none,Bool.false_eq_true,if_false,List.length_cons];omega
  ·
   simp only [Option.isSome_some,if_true,List.length_cons];omega
theorem find_key (l:List Ent) (k:List UInt8) (x:Ent) (h:findE l k=some x):x.key=k:=by
 have:=List.find?_some h
 simpa using this
theorem whole_key (l:List Ent) (k:List UInt8) (x:Ent) (h:(wholeE l k).1=some x):x.key=k:=by
 unfold wholeE at h
 split at h
 ·
  next fs e hw =>
  dsimp only at h
  cases hf:findE l k with
  | none=>rw [hf] at h;cases h
  | some y =>
   rw [hf] at h
   simp only [Option.map_some,Option.some.injEq] at h
   rw [←h];exact find_key l k y hf
 ·
  cases h
theorem pick_keys (l:List Ent) (ks:List (List UInt8)):((pick l ks).1.map (·.key)).Nodup:=by
 unfold pick
 rw [pick_fresh]
 dsimp only
 have h:=fresh_nodup ks []
 generalize fresh [] ks=f at h
 have hs:∀g:List (List UInt8),∀k ∈ (g.filterMap fun k=>(wholeE l k).1).map (·.key),k ∈ g:=by
  intro g k hk
  obtain ⟨x,hx,rfl⟩:=List.mem_map.1 hk
  obtain ⟨q,hq,hw⟩:=List.mem_filterMap.1 hx
  rw [whole_key l q x hw];exact hq
 induction f with
 | nil=>exact List.nodup_nil
 | cons k f ih =>
  rw [List.nodup_cons] at h
  rw [List.filterMap_cons]
  cases hw:(wholeE l k).1 with
  | none=>exact ih h.2
  | some x =>
   dsimp only
   rw [List.map_cons,List.nodup_cons]
   refine ⟨fun hm=>?_,ih h.2⟩
   rw [whole_key l k x hw] at hm
   exact h.1 (hs f k hm)
def tag (style:Int) (ls:List (List UInt8)) (i:Nat) (s:List UInt8):List UInt8 :=
 if style≠1 then Cnt.text ((i:Int)+1) 0 else if 1<ls.count s then s++Cnt.text ((ls.take (i+1)).count s:Nat) 3 else s
def tagged (style:Int) (o:List Ent):List Cited:=o.mapIdx fun i x=>⟨x,tag style (o.map letters) i (letters x),textOf x⟩
def all (l:List Ent) (ks:List (List UInt8)) (style:Int):List Cited × List (Int × List UInt8):=(tagged style (order (pick l ks).1),(pick l ks).2)
end Go.Proofs.YtgnfmopcialllaaGreatDoor.Lb
set_option linter.unusedSimpArgs false
set_option linter.unusedVariables false
namespace Go.Proofs.YtgnfmopcialllaaGreatDoor.Lb
open Ent
theorem join_one (l:List (List UInt8)) (h:l.isEmpty=false):(join l).length+1=tot l:=by
 unfold join
 cases l with
 | nil=>cases h
 | cons x r =>
  rw [Lib.join_length]
  have h:=lens_tot (x::r)
  rw [List.length_cons] at h
  simp;omega
theorem tot_splitN:∀(l cur:List (List UInt8)),tot (splitN cur l)≤tot cur+tot l
 | [],cur=>by
  unfold splitN
  split
  ·
   exact Nat.zero_le _
  ·
   next h=>rw [tot_cons,join_one cur (by simpa using h)];simp [tot_nil]
 | w::r,cur=>by
  unfold splitN
  rw [tot_cons]
  split
  ·
   split
   ·
    have:=tot_splitN r [];rw [tot_nil] at this;omega
   ·
    next h=>have:=tot_splitN r [];rw [tot_nil] at this;rw [tot_cons,join_one cur (by simpa using h)];omega
  ·
   have:=tot_splitN r (cur++[w]);rw [tot_append,tot_cons,tot_nil] at this;omega
theorem tot_split (s:List UInt8):tot (split s)≤s.length+1:=by
 have h1:=tot_splitN (words s) []
 have h2:=tot_words s
 rw [tot_nil] at h1
 unfold split;omega
theorem comma_le (s:List UInt8) (i:Nat):((commas s).getD i []).length≤s.length:=by
 rw [List.getD_eq_getElem?_getD]
 cases h:(commas s)[i]? with
 | none=>exact Nat.zero_le _
 | some p =>
  have h1:=mem_tot _ p (List.mem_of_getElem? h)
  have h2:=tot_pieces (fun c=>c == 44) s []
  unfold commas at h1
  simp only [Option.getD_some]
  simp at h2;omega
theorem jw_le (s:List UInt8):(join (words s)).length≤s.length+1:=Nat.le_trans (join_le _) (tot_words _)
structure PerLe (n:Nat) (p:Per):Prop where
 first:p.first.length≤n
 von:p.von.length≤n
 last:p.last.length≤n
 jr:p.jr.length≤n
theorem getD_le (l:List (List UInt8)) (i:Nat):(l.getD i []).length≤tot l:=by
 rw [List.getD_eq_getElem?_getD]
 cases h:l[i]? with
 | none=>exact Nat.zero_le _
 | some p=>have:=mem_tot _ p (List.mem_of_getElem? h);simp only [Option.getD_some];omega
theorem parse_len (s:List UInt8):PerLe (s.length+1) (parse s):=by
 have c0:=comma_le s 0;have c1:=comma_le s 1;have c2:=comma_le s 2
 have w0:=jw_le ((commas s).getD 0 []);have w1:=jw_le ((commas s).getD 1 []);have w2:=jw_le ((commas s).getD 2 [])
 have t0:=tot_words ((commas s).getD 0 [])
 have take:∀k,(join ((words ((commas s).getD 0 [])).take k)).length≤s.length+1:=fun k=>by
  have:=join_le ((words ((commas s).getD 0 [])).take k);have:=tot_take (words ((commas s).getD 0 [])) k;omega
 have drop:∀k,(join ((words ((commas s).getD 0 [])).drop k)).length≤s.length+1:=fun k=>by
  have:=join_le ((words ((commas s).getD 0 [])).drop k);have:=tot_drop (words ((commas s).getD 0 [])) k;omega
 have mid:∀k j,(join (((words ((commas s).getD 0 [])).take k).drop j)).length≤s.length+1:=fun k j=>by
  have:=join_le (((words ((commas s).getD 0 [])).take k).drop j);have:=tot_drop ((words ((commas s).getD 0 [])).take k) j;have:=tot_take (words ((commas s).getD 0 [])) k;omega
 have nil:([]:List UInt8).length≤s.length+1:=Nat.zero_le _
 unfold parse
 dsimp only
 split
 ·
  split
  ·
   exact ⟨by show (join _).length≤_;omega,take _,drop _,by show (join _).length≤_;omega⟩
  ·
   exact ⟨by show (join _).length≤_;omega,take _,drop _,nil⟩
 ·
  split
  ·
   exact ⟨nil,nil,nil,nil⟩
  ·
   split
   ·
    exact ⟨take _,nil,by have:=getD_le (words ((commas s).getD 0 [])) ((words ((commas s).getD 0 [])).length - 1);exact Nat.le_trans this (by omega),nil⟩
   ·
    exact ⟨take _,mid _ _,drop _,nil⟩
theorem tot_short (l:List (List UInt8)):tot (l.map fun w=>w.take 1++[46])≤3*l.length:=by
 induction l with
 | nil=>exact Nat.zero_le _
 | cons x l ih =>
  rw [List.map_cons,tot_cons,List.length_cons]
  simp only [List.length_append,List.length_take,List.length_singleton]
  omega
theorem short_len (n:Nat) (p:Per) (h:PerLe n p):(short p).length≤6*n+20:=by
 have h1:=tot_words p.first
 have h2:=len_tot (words p.first)
 have h3:=tot_short (words p.first)
 have h4:=join_le ((words p.first).map fun w=>w.take 1++[46])
 have:=h.first;have:=h.von;have:=h.last;have:=h.jr
 unfold short
 refine Nat.le_trans (wholeW_le _) ?_
 rw [tot_cons,tot_cons,tot_cons,tot_cons,tot_nil]
 omega
theorem get_len (N:Nat) (fs:List Fld) (n:List UInt8) (h:∀f ∈ fs,f.text.length≤N):(Ent.get fs n).1.length≤N:=by
 unfold Ent.get
 cases hf:fs.find? (fun f=>f.name == n) with
 | none=>exact Nat.zero_le _
 | some f=>exact h f (List.mem_of_find?_eq_some hf)
structure EntB (x:Ent):Prop where
 kind:x.kind.length≤1000
 key:x.key.length≤1000
 name:∀f ∈ x.fields,f.name.length≤1000
 text:∀f ∈ x.fields,f.text.length≤1000
 many:x.fields.length≤1000000000
theorem EntB.field {x:Ent} (h:EntB x) (n:List UInt8):(field x n).length≤1000:=get_len 1000 x.fields n h.text
theorem EntB.authors {x:Ent} (h:EntB x):(authors x).length≤1001∧∀p ∈ Lb.authors x,PerLe 1002 p:=by
 have h1:=h.field authorW
 have h2:=tot_split (Lb.field x authorW)
 have h3:=len_tot (split (Lb.field x authorW))
 refine ⟨by unfold Lb.authors;rw [List.length_map];omega,fun p hp=>?_⟩
 obtain ⟨s,hs,rfl⟩:=List.mem_map.1 hp
 have h4:=mem_tot _ s hs
 have h5:=parse_len s
 exact ⟨Nat.le_trans h5.first (by omega),Nat.le_trans h5.von (by omega),Nat.le_trans h5.last (by omega),Nat.le_trans h5.jr (by omega)⟩
theorem plabel_len (l:List Per):(plabel l).length≤6:=by
 unfold plabel
 have hm:∀q:List Per,((q.map fun p=>p.last.take 1).flatten).length≤q.length:=fun q=>by
  induction q with
  | nil=>exact Nat.zero_le _
  | cons x q ih=>rw [List.map_cons,List.flatten_cons,List.length_append,List.length_take,List.length_cons];omega
 split
 ·
  rw [List.length_take];omega
 ·
  split
  ·
   have:=hm (l.take 3);rw [List.length_append,List.length_singleton];rw [List.length_take] at this;omega
  ·
   have:=hm l;omega
theorem letters_len (x:Ent):(letters x).length≤8:=by
 unfold letters
 rw [List.length_append,List.length_drop]
 have:=plabel_len (authors x);omega
theorem joined_len (x:Ent) (h:EntB x):tot ((authors x).map short)≤7000000:=by
 have ⟨h1,h2⟩:=h.authors
 generalize authors x=l at h1 h2
 have:∀l:List Per,(∀p ∈ l,PerLe 1002 p)→tot (l.map short)≤6033*l.length:=fun l=>by
  induction l with
  | nil=>intro _;exact Nat.zero_le _
  | cons p l ih =>
   intro hp
   have a:=short_len 1002 p (hp p (by simp))
   have b:=ih (fun q hq=>hp q (List.mem_cons_of_mem _ hq))
   rw [List.map_cons,tot_cons,List.length_cons];omega
 have:=this l h2;omega
end Go.Proofs.YtgnfmopcialllaaGreatDoor.Lb
set_option linter.unusedSimpArgs false
set_option linter.unusedVariables false
namespace Go.Proofs.YtgnfmopcialllaaGreatDoor
open Go.RowKit
def RPer (p:Lb.Per) (vs:List Value):Prop:=vs=[.string ⟨p.first.toArray⟩,.string ⟨p.von.toArray⟩,.string ⟨p.last.toArray⟩,.string ⟨p.jr.toArray⟩]
theorem RPer.size (p:Lb.Per) (vs:List Value) (h:RPer p vs):vs.length=4:=by rw [h];rfl
theorem per_info:(Tryz.prog.info? 169).map (fun i=>(i.zero,i.size,i.bytes))=some (some (.agg #[.string ⟨#[]⟩,.string ⟨#[]⟩,.string ⟨#[]⟩,.string ⟨#[]⟩]),4,64):=by kernel_rfl
set_option maxRecDepth 100000 in
set_option maxHeartbeats 1600000 in
theorem lb_authors (x:Ent.Ent) (vf:Value) (m:Int) (S:Nat→Prop) (w:World) (hF:SliceIn S 2 RFld w vf x.fields) (hB:Lb.EntB x) (hm:w.cell? ⟨2, 0,none⟩=some (.int .i64 m)) (h0 : 2 < w.heap.size) :
  Calls Tryz.prog 78 #[.agg #[.string ⟨x.kind.toArray⟩,.string ⟨x.key.toArray⟩,vf]] w fun e w'=>(∃v,e = .returned v∧SliceIn (fun j=>w.heap.size≤j) 4 RPer w' v (Lb.authors x))∧Below w.heap.size w w':=by
 obtain ⟨i0,hi,hz0,hz1,hz2⟩:=info_parts per_info
 have Hi:=η hi;have Hz0:=η hz0;have Hz1:=η hz1;have Hz2:=η hz2;clear hi hz0 hz1 hz2
 have hb0:=below_new w (.cells #[.string ⟨x.kind.toArray⟩,.string ⟨x.key.toArray⟩,vf] 60)
 have hE:=E3.new w 60 (.string ⟨x.kind.toArray⟩) (.string ⟨x.key.toArray⟩) vf
 have c0:=hE.c0;have c1:=hE.c1;have c2:=hE.c2
 have HF:=η (SliceIn.below' hF hb0);have Hb0:=η hb0
 have hfl:=hB.field Lb.authorW
 obtain ⟨s,hs⟩:∃s,Lb.field x Lb.authorW=s:=⟨_,rfl⟩
 have ha:Lb.authors x=(Lb.split s).map Lb.parse:=by unfold Lb.authors;rw [hs]
 rw [hs] at hfl
 have ht:=Lb.tot_split s
 have hll:=Lb.len_tot (Lb.split s)
 obtain ⟨L,hL⟩:∃L,Lb.split s=L:=⟨_,rfl⟩
 have hmem:∀y ∈ L,y.length≤500000:=fun y hy=>by rw [←hL] at hy;have:=Lb.mem_tot _ y hy;omega
 rw [hL] at ht hll ha
 have hL401:L.length≤1001:=by omega
 have Hs:=η hs;have Ha:=η ha;have HL:=η hL;have Hmem:=η hmem;have Hfl:=η hfl;have Hm:=η hm;have H0:=η h0;have H401:=η hL401
 clear hF hE hb0 hs ha hL hmem ht hll hfl hm h0 hB
 go_enter Tryz.func78, Tryz.ntmps78
 go_wp2_with (first
  | (go_at_call 76; refine (lb_field x vf Lb.authorW S _ HF.out).mono ?_;rw [Hs.out];rintro e w1 ⟨rfl,hb1⟩;have Hb1:=η (bseq Hb0.out hb1);clear hb1)
  | (go_at_call 136; refine (nm_Split s _ (by have:=Hfl.out;omega)).mono ?_;rw [HL.out];rintro e w3 ⟨⟨v3,rfl,hS3⟩,hb3⟩;have HS3:=η hS3.strong;have Hb3:=η (bseq Hb1.out hb3);have HSZ3:=η (Nat.le_trans Hb1.out.size hb3.size);obtain ⟨q3,cp3,hv3,_⟩:=hS3;subst hv3;clear hb3))
 clear c0 c1 c2 hL401
 go_loopw [3,10] (fun ov iv wr=>∃(k:Nat),k≤L.length∧iv = .int .i64 (k:Int)∧OwnL w3.heap.size 169 4 RPer wr ov ((L.take k).map Lb.parse)∧Below w3.heap.size w3 wr) (fun _ iv _=>L.length - (intOf iv).toNat)
 case atStart=>exact ⟨0,Nat.zero_le _,rfl,OwnL.nil _ _ _ _ _,Below.refl _ _⟩
 case round =>
  obtain ⟨k,hk,rfl,hO,hb⟩:=hrel
  have Hb:=η hb
  by_cases hlt:k<L.length
  ·
   obtain ⟨y,hy⟩:∃y,L[k]? = some y:=⟨_,List.getElem?_eq_getElem hlt⟩
   have hS4:=SliceIn.below' HS3.out (Below.mono hb (Nat.le_refl _))
   obtain ⟨b,off,hq,e0⟩:∃b off,q3=some ⟨b,off,none⟩∧wr.cell? ⟨b,off+k,none⟩=some (.string ⟨y.toArray⟩):=by
    obtain ⟨pa,ca,hv,_,_,hat⟩:=hS4
    obtain ⟨b,off,vs,rfl,_,_,hR,hc⟩:=hat k y hy
    have hR:vs=_:=hR
    subst hR
    simp only [Value.slice.injEq] at hv
    have h0:=hc 0 _ rfl
    rw [Nat.mul_one,Nat.add_zero] at h0
    exact ⟨b,off,hv.1,h0⟩
   subst hq
   have hlt':(k:Int)<(L.length:Int):=by omega
   have hyl:=Hmem.out y (List.mem_of_getElem? hy)
   obtain ⟨k1,hk1⟩:∃k1,k1=k+1:=⟨_,rfl⟩
   have hwk:IntKind.i64.wrap ((k:Int)+1)=(k1:Int):=by rw [IntWalk.i64_in _ (by have:=H401.out;omega)];omega
   have hsn:(L.take k1).map Lb.parse=(L.take k).map Lb.parse++[Lb.parse y]:=by rw [hk1,List.take_add_one,hy];simp
   have hml:((L.take k).map Lb.parse).length=k:=by rw [List.length_map,List.length_take];omega
   obtain ⟨fl,hown,hrep⟩:=hO
   have Hsn:=η hsn;have Hlt:=η hlt;have Hk1:=η hk1;have Hyl:=η hyl;have Hown:=η hown;have Hrep:=η hrep;have Hml:=η hml
   have Hmr:=η (show wr.cell? ⟨2, 0,none⟩=some (.int .i64 m) by
    have h1 : 2 < w3.heap.size:=Nat.lt_of_lt_of_le H0.out Hb3.out.size
    rw [hb.cell (p:=⟨2, 0,none⟩) h1,Hb3.out.cell (p:=⟨2, 0,none⟩) H0.out];exact Hm.out)
   have H0r:=η (show 2 < wr.heap.size from Nat.lt_of_lt_of_le (Nat.lt_of_lt_of_le H0.out Hb3.out.size) hb.size)
   clear hown hrep hsn hlt hk1 hyl hml hS4 hy hb hk
   go_wp2_with (first
    | (go_at_call 137; refine (nm_Parse y m _ Hyl.out Hmr.out H0r.out).mono ?_;unfold perV;rintro e w5 ⟨rfl,hb5⟩;have Hown5:=η (own_below Hown.out hb5);have Hb5:=η (Hb.out.trans (hb5.mono Hb.out.size));have HSZ5:=η Hb5.out.size;have Hnm:=η (show ((L.take k).map Lb.parse).length+1≤9223372036854775807 by have:=Hml.out;have:=Hlt.out;have:=H401.out;omega);have Hn47:=η (show (((L.take k).map Lb.parse).length+1)*64≤140737488355328 by have:=Hml.out;have:=Hlt.out;have:=H401.out;omega);clear hb5)
    | (at_builtin;go_loud (refine wpList_append1 rfl (.tmp 14) (.tmp 17) 166 rfl w3.heap.size 169 i0 (.agg #[.string ⟨#[]⟩,.string ⟨#[]⟩,.string ⟨#[]⟩,.string ⟨#[]⟩]) 4 64 Tryz.underlying166 Hi.out Hz0.out Hz1.out Hz2.out (by rfl) (by decide) _ _ _ Hown5.out rfl [.string ⟨(Lb.parse y).first.toArray⟩,.string ⟨(Lb.parse y).von.toArray⟩,.string ⟨(Lb.parse y).last.toArray⟩,.string ⟨(Lb.parse y).jr.toArray⟩] rfl (by simp) rfl (by simp [Value.oneCell']) Hnm.out Hn47.out HSZ5.out ?_);intro v2 w2 own2 g2 at2))
   go_roundw
   case rel=>exact ⟨k1,by have:=Hlt.out;have:=Hk1.out;omega,rfl,by rw [Hsn.out];exact OwnL.more Hrep.out rfl own2,Hb5.out.grown g2 Hb5.out.size (fun q e=>(Hown5.out.lt q e).1)⟩
   case measure=>have:=Hlt.out;have:=Hk1.out;simp [intOf];omega
  ·
   have hlt':¬(k:Int)<(L.length:Int):=by omega
   have htk:L.take k=L:=List.take_of_length_le (by omega)
   rw [htk] at hO
   have HO:=η hO
   clear hlt hk hO htk hb
   go_wp2_with fail
   go_ret
   refine ⟨⟨_,rfl,?_⟩,Hb3.out.trans (Hb.out.mono Hb3.out.size)⟩
   rw [Ha.out]
   exact HO.out.slice RPer.size _ (fun b hb=>Nat.le_trans Hb3.out.size hb)
set_option maxRecDepth 100000 in
set_option maxHeartbeats 1600000 in
theorem nm_Short (p:Lb.Per) (w:World) (hp:Lb.PerLe 1002 p) :
  Calls Tryz.prog 79 #[.agg #[.string ⟨p.first.toArray⟩,.string ⟨p.von.toArray⟩,.string ⟨p.last.toArray⟩,.string ⟨p.jr.toArray⟩]] w fun e w'=>e = .returned (.string ⟨(Lb.short p).toArray⟩)∧Below w.heap.size w w':=by
 obtain ⟨i0,hi,hz0,hz1,hz2⟩:=info_parts str_info
 have Hi:=η hi;have Hz0:=η hz0;have Hz1:=η hz1;have Hz2:=η hz2;clear hi hz0 hz1 hz2
 obtain ⟨g0,hg0⟩:∃g0,w.heap.size=g0:=⟨_,rfl⟩
 have hP:=P4.new w 169 (.string ⟨p.first.toArray⟩) (.string ⟨p.von.toArray⟩) (.string ⟨p.last.toArray⟩) (.string ⟨p.jr.toArray⟩)
 have c0:=hP.c0
 have hb0:=below_new w (.cells #[.string ⟨p.first.toArray⟩,.string ⟨p.von.toArray⟩,.string ⟨p.last.toArray⟩,.string ⟨p.jr.toArray⟩] 169)
 have htw:=Lb.tot_words p.first
 have hlw:=Lb.len_tot (Lb.words p.first)
 have hne:=Lb.words_ne p.first
 have hf:=hp.first;have hv:=hp.von;have hla:=hp.last;have hj:=hp.jr
 have htm:Lb.tot ((Lb.words p.first).map fun w=>w.take 1++[46])≤8000000:=by have:=Lb.tot_short (Lb.words p.first);omega
 have htw4:Lb.tot [Lb.join ((Lb.words p.first).map fun w=>w.take 1++[46]),p.von,p.last,p.jr]≤8000000:=by
  have:=Lb.join_le ((Lb.words p.first).map fun w=>w.take 1++[46]);have:=Lb.tot_short (Lb.words p.first)
  rw [Lb.tot_cons,Lb.tot_cons,Lb.tot_cons,Lb.tot_cons,Lb.tot_nil];omega
 have hsh:Lb.short p=Lb.whole [Lb.join ((Lb.words p.first).map fun w=>w.take 1++[46]),p.von,p.last,p.jr]:=rfl
 obtain ⟨L,hL⟩:∃L,Lb.words p.first=L:=⟨_,rfl⟩
 rw [hL] at htw hlw hne htm htw4 hsh
 have hL402:L.length≤1003:=by omega
 have Htm:=η htm;have Htw4:=η htw4;have Hsh:=η hsh;have HL:=η hL;have Hne:=η hne;have HP:=η hP;have Hb0:=η hb0;have H402:=η hL402;have Hf:=η hf
 clear htm htw4 hsh hL hne hP hb0 hp htw hlw hf hv hla hj hL402
 go_enter Tryz.func79, Tryz.ntmps79
 go_wp2_with (go_at_call 138; refine (nm_Words p.first _ (by have:=Hf.out;omega)).mono ?_;rw [HL.out];rintro e w1 ⟨⟨g,cap,rfl,hcp,hS1⟩,hb1⟩;have HP1:=η (HP.out.below' hb1);have HS1:=η hS1.strong;have Hb1:=η (bseq Hb0.out hb1);clear hS1 hb1)
 clear c0 hcp
 rw [hg0] at HP1
 have Hg0:=η (show g0<w1.heap.size from HP1.out.lt)
 go_loopw [3,10] (fun ov iv wr=>∃(k:Nat),k≤L.length∧iv = .int .i64 (k:Int)∧OwnL w1.heap.size 9 1 RStr wr ov ((L.take k).map fun w=>w.take 1++[46])∧Below w1.heap.size w1 wr) (fun _ iv _=>L.length - (intOf iv).toNat)
 case atStart=>exact ⟨0,Nat.zero_le _,rfl,OwnL.nil _ _ _ _ _,Below.refl _ _⟩
 case round =>
  obtain ⟨k,hk,rfl,hO,hb⟩:=hrel
  have Hb:=η hb
  by_cases hlt:k<L.length
  ·
   obtain ⟨y,hy⟩:∃y,L[k]? = some y:=⟨_,List.getElem?_eq_getElem hlt⟩
   have e0:=(SliceIn.below' HS1.out hb).cellS hy
   rw [Nat.zero_add] at e0
   have hyp:0<y.length:=List.length_pos_iff.2 (Hne.out y (List.mem_of_getElem? hy))
   have hy1:(1:Int)≤(y.length:Int):=by omega
   have hex:(⟨y.toArray⟩:ByteArray).extract 0 1=⟨(y.take 1).toArray⟩:=extract_any y 0 1
   have hap:(⟨(y.take 1).toArray⟩:ByteArray)++⟨#[46]⟩=⟨(y.take 1++[46]).toArray⟩:=append_data (y.take 1) [46]
   have hlt':(k:Int)<(L.length:Int):=by omega
   obtain ⟨k1,hk1⟩:∃k1,k1=k+1:=⟨_,rfl⟩
   have hwk:IntKind.i64.wrap ((k:Int)+1)=(k1:Int):=by rw [IntWalk.i64_in _ (by have:=H402.out;omega)];omega
   have hsn:((L.take k1).map fun w=>w.take 1++[46])=((L.take k).map fun w=>w.take 1++[46])++[y.take 1++[46]]:=by rw [hk1,List.take_add_one,hy];simp
   have hml:((L.take k).map fun w=>w.take 1++[46]).length=k:=by rw [List.length_map,List.length_take];omega
   have hnm:((L.take k).map fun w=>w.take 1++[46]).length+1≤9223372036854775807:=by have:=H402.out;omega
   have hn47:(((L.take k).map fun w=>w.take 1++[46]).length+1)*16≤140737488355328:=by have:=H402.out;omega
   obtain ⟨d,hd⟩:∃d,y.take 1++[46]=d:=⟨_,rfl⟩
   obtain ⟨d1,hd1⟩:∃d1,y.take 1=d1:=⟨_,rfl⟩
   have hdl:d1.length≤1:=by rw [←hd1,List.length_take];omega
   rw [hd] at hsn hap
   rw [hd1] at hex hap
   obtain ⟨fl,hown,hrep⟩:=hO
   have Hsn:=η hsn;have Hlt:=η hlt;have Hk1:=η hk1;have Hown:=η hown;have Hrep:=η hrep;have Hnm:=η hnm;have Hn47:=η hn47;have HSZ:=η hb.size
   clear hown hrep hsn hlt hk1 hml hnm hn47 hy hb hk hd hd1 hyp
   go_wp2_with (at_builtin;go_loud (refine wpList_append1 rfl (.tmp 14) (.tmp 18) 24 rfl w1.heap.size 9 i0 (.string ⟨#[]⟩) 1 16 Tryz.underlying24 Hi.out Hz0.out Hz1.out Hz2.out (by rfl) (by decide) _ _ _ Hown.out rfl [.string ⟨d.toArray⟩] rfl (by simp) rfl (by simp [Value.oneCell']) Hnm.out Hn47.out HSZ.out ?_);intro v2 w2 own2 g2 at2)
   go_roundw
   case rel=>exact ⟨k1,by have:=Hlt.out;have:=Hk1.out;omega,rfl,by rw [Hsn.out];exact OwnL.more Hrep.out rfl own2,Hb.out.grown g2 Hb.out.size (fun q e=>(Hown.out.lt q e).1)⟩
   case measure=>have:=Hlt.out;have:=Hk1.out;simp [intOf];omega
  ·
   have hlt':¬(k:Int)<(L.length:Int):=by omega
   have htk:L.take k=L:=List.take_of_length_le (by omega)
   rw [htk] at hO
   have HSo:=η (hO.slice RStr.size (fun j=>w1.heap.size≤j) (fun _ h=>h))
   obtain ⟨po,co,hpo⟩:=hO.form
   subst hpo
   rw [List.length_map]
   rw [List.length_map] at HSo
   have HP9:=η (HP1.out.below hb Hg0.out)
   have HBr:=η (Hb1.out.trans (hb.mono Hb1.out.size))
   clear hlt hk hO htk hb Hb
   go_upto_region 7 with fail
   refine wp_region_any (by kernel_rfl) ?_
   change wpAny _ _ _ _ _ _ _ (World.drew _)
   have HPd:=η HP9.out.drew;have HSd:=η (HSo.out.below' (Below.refl _ _).drew);have HBd:=η HBr.out.drew
   clear HP9 HSo HBr
   generalize wr.drew=wd at *
   have hS0:=Below.refl wd.heap.size wd
   refine wpAny_of_held (S:=fun W=>Below wd.heap.size wd W) _ _ _ _ ?_
   refine tk 0 (.slice po L.length co) rfl (h:=?_)
   refine tk 2 (.pointer (some ⟨g0,1,none⟩)) rfl (h:=?_)
   refine tk 3 (.string ⟨p.von.toArray⟩) rfl (hy:=fun W hW=>by (have q:=HPd.out.below' hW;have c1:=q.c1;go_simp)) (h:=?_)
   refine tk 4 (.pointer (some ⟨g0,2,none⟩)) rfl (h:=?_)
   refine tk 5 (.string ⟨p.last.toArray⟩) rfl (hy:=fun W hW=>by (have q:=HPd.out.below' hW;have c2:=q.c2;go_simp)) (h:=?_)
   refine tk 6 (.pointer (some ⟨g0,3,none⟩)) rfl (h:=?_)
   refine tk 7 (.string ⟨p.jr.toArray⟩) rfl (hy:=fun W hW=>by (have q:=HPd.out.below' hW;have c3:=q.c3;go_simp)) (h:=?_)
   try simp only [Act.put,π1,π2,π3,π4,π5,π6]
   refine tr 1 rfl (h:=fun K hK=>?_)
   go_simp
   go_wp2_with (go_at_call 140; go_loud (refine (nm_join _ _ _ _ HSd.out Htm.out).mono ?_);rintro e w5 ⟨rfl,hb5⟩;have Hb5:=η hb5;clear hb5)
   refine hK.out _ _ (Hb5.out) (fun _=>?_)
   clear K hK
   try simp only [Act.put,π1,π2,π3,π4,π5,π6]
   refine tr 8 rfl (h:=fun K hK=>?_)
   go_simp
   obtain ⟨w6,hw6⟩:∃W,W=w5.alloc (.cells #[.string ⟨(Lb.join (L.map fun w=>w.take 1++[46])).toArray⟩,.string ⟨p.von.toArray⟩,.string ⟨p.last.toArray⟩,.string ⟨p.jr.toArray⟩] 9):=⟨_,rfl⟩
   rw [←hw6]
   have hO6:OwnL w5.heap.size 9 1 RStr w6 (.slice (some ⟨w5.heap.size,0,none⟩) 4 4) [Lb.join (L.map fun w=>w.take 1++[46]),p.von,p.last,p.jr]:=by
    rw [hw6]
    exact ⟨[.string ⟨(Lb.join (L.map fun w=>w.take 1++[46])).toArray⟩,.string ⟨p.von.toArray⟩,.string ⟨p.last.toArray⟩,.string ⟨p.jr.toArray⟩],own_built w5 w5.heap.size 9 1 4 [.string ⟨(Lb.join (L.map fun w=>w.take 1++[46])).toArray⟩,.string ⟨p.von.toArray⟩,.string ⟨p.last.toArray⟩,.string ⟨p.jr.toArray⟩] (Nat.le_refl _) rfl (by unfold maxLen;omega),strs_rep _⟩
   have Hb6:=η (show Below w5.heap.size w5 w6 by rw [hw6];exact below_new _ _)
   have HO6:=η hO6;clear hO6 hw6
   refine hK.out _ _ (bseq Hb5.out Hb6.out) (fun _=>?_)
   clear K hK
   try simp only [Act.put,π1,π2,π3,π4,π5,π6]
   refine tr 9 rfl (h:=fun K hK=>?_)
   go_simp
   go_wp2_with (go_at_call 139; refine (nm_whole _ _ _ _ _ _ HO6.out rfl Htw4.out).mono ?_;rintro e w7 ⟨rfl,hb7⟩;have Hb7:=η hb7;clear hb7)
   refine hK.out _ _ ((bseq Hb5.out Hb6.out).trans (Hb7.out.mono Hb5.out.size)) (fun _=>?_)
   clear K hK
   refine tk 10 (.string ⟨(Lb.short p).toArray⟩) rfl (hy:=fun W hW=>by (rw [Hsh.out];kernel_rfl)) (h:=?_)
   try simp only [Act.put,π1,π2,π3,π4,π5,π6]
   refine wpAnyH_done (by kernel_rfl) ?_ _
   go_wp2_with fail
   go_ret
   exact ⟨rfl,HBd.out.trans (((bseq Hb5.out Hb6.out).trans (Hb7.out.mono Hb5.out.size)).mono HBd.out.size)⟩
end Go.Proofs.YtgnfmopcialllaaGreatDoor
set_option linter.unusedSimpArgs false
set_option linter.unusedVariables false
namespace Go.Proofs.YtgnfmopcialllaaGreatDoor
open Go.RowKit
def hd1 (l:List Lb.Per):List UInt8:=(l.map fun p=>p.last.take 1).flatten
theorem hd1_len:∀l:List Lb.Per,(hd1 l).length≤l.length
 | []=>Nat.le_refl _
 | p::l=>by
  have:=hd1_len l
  unfold hd1 at this ⊢
  rw [List.map_cons,List.flatten_cons,List.length_append,List.length_take,List.length_cons];omega
theorem plabel_one (p:Lb.Per):Lb.plabel [p]=p.last.take 3:=rfl
theorem plabel_more (l:List Lb.Per) (h:4<l.length):Lb.plabel l=hd1 (l.take 3)++[43]:=by
 unfold Lb.plabel
 split
 ·
  simp at h
 ·
  rw [if_pos h];rfl
theorem plabel_few (l:List Lb.Per) (h:¬4<l.length) (h1:l.length≠1):Lb.plabel l=hd1 l:=by
 unfold Lb.plabel
 split
 ·
  simp at h1
 ·
  rw [if_neg h];rfl
set_option maxRecDepth 100000 in
set_option maxHeartbeats 1600000 in
theorem nm_PLabel (l:List Lb.Per) (v:Value) (S:Nat→Prop) (w:World) (hS:SliceIn S 4 RPer w v l) (hl:l.length≤2000) :
  Calls Tryz.prog 77 #[v] w fun e w'=>e = .returned (.string ⟨(Lb.plabel l).toArray⟩)∧Below w.heap.size w w':=by
 have hS0:=hS
 have hcap:∃p c,v = .slice p l.length c∧l.length≤c:=by obtain ⟨p,c,e,h,_⟩:=hS;exact ⟨p,c,e,h⟩
 obtain ⟨p,cap,rfl,hlc⟩:=hcap
 by_cases h1:l.length=1
 ·
  obtain ⟨y,rfl⟩:∃y,l=[y]:=List.length_eq_one_iff.1 h1
  obtain ⟨pa,ca,hv,_,_,hat⟩:=hS0
  obtain ⟨b',off',vs,rfl,_,_,hR,hc⟩:=hat 0 y rfl
  have hR:vs=_:=hR
  subst hR
  simp only [Value.slice.injEq] at hv
  obtain ⟨rfl,_,rfl⟩:=hv
  have e2:=hc 2 _ rfl
  rw [Nat.zero_mul,Nat.add_zero] at e2
  rw [plabel_one]
  clear hc hat hS h1 hlc hl
  go_enter Tryz.func77, Tryz.ntmps77
  go_wp2_with (go_at_call 135; refine (nm_head y.last 3 _ (by decide)).mono ?_;rintro e w9 ⟨rfl,hb9⟩;have Hb9:=η hb9;clear hb9)
  go_ret
  exact ⟨rfl,Hb9.out⟩
 ·
  have h1':((l.length:Int) == 1)=false:=by rw [beq_eq_false_iff_ne];omega
  by_cases h4:4<l.length
  ·
   have h4':(4:Int)<(l.length:Int):=by omega
   have hc3:(3:Int)≤(cap:Int):=by omega
   have hne:∃b off,p=some ⟨b,off,none⟩:=by
    obtain ⟨pa,ca,hv,_,_,hat⟩:=hS0
    obtain ⟨y,hy⟩:∃y,l[0]? = some y:=⟨_,List.getElem?_eq_getElem (by omega)⟩
    obtain ⟨b',off',vs,rfl,_⟩:=hat 0 y hy
    simp only [Value.slice.injEq] at hv
    exact ⟨b',off',hv.1⟩
   obtain ⟨b,off,rfl⟩:=hne
   have HS:=η (hS.pre 3 (by omega))
   have hres:=plabel_more l h4
   obtain ⟨Q,hQ⟩:∃Q,l.take 3=Q:=⟨_,rfl⟩
   have hQl:Q.length=3:=by rw [←hQ,List.length_take];omega
   rw [hQ] at HS hres
   have HQl:=η hQl;have Hres:=η hres;have Hn1000:=η (show 3≤2000 by decide)
   clear hQ hQl hres hS hS0 h1 h4 hlc
   go_enter Tryz.func77, Tryz.ntmps77
   go_wp2_with fail
   go_loopw [3,23] (fun sv iv wr=>∃(k:Nat),k≤3∧iv = .int .i64 (k:Int)∧sv = .string ⟨(hd1 (Q.take k)).toArray⟩∧Below w.heap.size w wr) (fun _ iv _=>3 - (intOf iv).toNat)
   case atStart=>exact ⟨0,Nat.zero_le _,rfl,rfl,Below.refl _ _⟩
   case round =>
    obtain ⟨k,hk,rfl,rfl,hb⟩:=hrel
    have Hb:=η hb
    by_cases hlt:k<3
    ·
     obtain ⟨y,hy⟩:∃y,Q[k]? = some y:=⟨_,List.getElem?_eq_getElem (by rw [HQl.out];exact hlt)⟩
     obtain ⟨pa,ca,hv,_,_,hat⟩:=SliceIn.below' HS.out hb
     obtain ⟨b',off',vs,rfl,_,_,hR,hc⟩:=hat k y hy
     have hR:vs=_:=hR
     subst hR
     simp only [Value.slice.injEq,Option.some.injEq,Addr.mk.injEq,and_true] at hv
     obtain ⟨⟨rfl,rfl⟩,hnn,rfl⟩:=hv
     clear hnn
     have e0:wr.cell? ⟨b,off+k*4,none⟩=some (.string ⟨y.first.toArray⟩):=hc 0 _ rfl;have e1:wr.cell? ⟨b,off+k*4+1,none⟩=some (.string ⟨y.von.toArray⟩):=hc 1 _ rfl;have e2:wr.cell? ⟨b,off+k*4+2,none⟩=some (.string ⟨y.last.toArray⟩):=hc 2 _ rfl;have e3:wr.cell? ⟨b,off+k*4+3,none⟩=some (.string ⟨y.jr.toArray⟩):=hc 3 _ rfl
     have hlt':(k:Int)<(3:Int):=by omega
     obtain ⟨k1,hk1⟩:∃k1,k1=k+1:=⟨_,rfl⟩
     have hwk:IntKind.i64.wrap ((k:Int)+1)=(k1:Int):=by rw [IntWalk.i64_in _ (by have:=Hn1000.out;omega)];omega
     have hst:hd1 (Q.take k1)=hd1 (Q.take k)++y.last.take 1:=by unfold hd1;rw [hk1,List.take_add_one,hy];simp
     have hl1:(hd1 (Q.take k)).length≤2000:=Nat.le_trans (hd1_len _) (by have:=Hn1000.out;rw [List.length_take];omega)
     have hl2:(y.last.take 1).length≤1:=by rw [List.length_take];omega
     obtain ⟨D,hD⟩:∃D,hd1 (Q.take k)=D:=⟨_,rfl⟩
     obtain ⟨d1,hd1'⟩:∃d1,y.last.take 1=d1:=⟨_,rfl⟩
     rw [hD,hd1'] at hst
     rw [hD] at hl1 ⊢
     rw [hd1'] at hl2
     have hap:=append_data D d1
     have Hst:=η hst;have Hlt:=η hlt;have Hk1:=η hk1;have Hd1:=η hd1'
     clear hst hlt hk1 hd1' hD hc hat hy hb hk
     go_wp2_with (go_at_call 135; refine (nm_head y.last 1 _ (by decide)).mono ?_;rw [Hd1.out];rintro e w9 ⟨rfl,hb9⟩;have Hb9:=η hb9;clear hb9)
     go_roundw
     case rel=>exact ⟨k1,by have:=Hlt.out;have:=Hk1.out;omega,rfl,by rw [Hst.out],bseq (Hb.out.alloc Hb.out.size _) (Hb9.out.mono (by simp))⟩
     case measure=>have:=Hlt.out;have:=Hk1.out;simp [intOf];omega
    ·
     have hlt':¬(k:Int)<(3:Int):=by omega
     have htk:Q.take k=Q:=List.take_of_length_le (by have:=HQl.out;omega)
     rw [htk]
     clear hlt hk htk hb
     obtain ⟨D,hD⟩:∃D,hd1 Q=D:=⟨_,rfl⟩
     have hl1:D.length≤2000:=by rw [←hD];exact Nat.le_trans (hd1_len _) (by have:=HQl.out;omega)
     have hap:(⟨D.toArray⟩:ByteArray)++⟨#[43]⟩=⟨(D++[43]).toArray⟩:=append_data D [43]
     rw [hD] at Hres ⊢
     clear hD
     go_wp2_with fail
     go_ret
     exact ⟨ret_str Hres.out.symm,Hb.out⟩
  ·
   have h4':¬(4:Int)<(l.length:Int):=by omega
   have HS:=η hS
   obtain ⟨N,hN⟩:∃N,l.length=N:=⟨_,rfl⟩
   obtain ⟨Q,hQ⟩:∃Q,l=Q:=⟨_,rfl⟩
   have hres:=plabel_few l h4 h1
   rw [hN] at h4' h1' HS hl ⊢
   rw [hQ] at hN HS hres ⊢
   have HQl:=η hN;have Hres:=η hres;have Hn1000:=η hl
   clear hS hS0 h1 h4 hlc hres hN hQ hl
   go_enter Tryz.func77, Tryz.ntmps77
   go_wp2_with fail
   go_loopw [3,23] (fun sv iv wr=>∃(k:Nat),k≤N∧iv = .int .i64 (k:Int)∧sv = .string ⟨(hd1 (Q.take k)).toArray⟩∧Below w.heap.size w wr) (fun _ iv _=>N - (intOf iv).toNat)
   case atStart=>exact ⟨0,Nat.zero_le _,rfl,rfl,Below.refl _ _⟩
   case round =>
    obtain ⟨k,hk,rfl,rfl,hb⟩:=hrel
    have Hb:=η hb
    by_cases hlt:k<N
    ·
     obtain ⟨y,hy⟩:∃y,Q[k]? = some y:=⟨_,List.getElem?_eq_getElem (by rw [HQl.out];exact hlt)⟩
     obtain ⟨pa,ca,hv,_,_,hat⟩:=SliceIn.below' HS.out hb
     obtain ⟨b',off',vs,rfl,_,_,hR,hc⟩:=hat k y hy
     have hR:vs=_:=hR
     subst hR
     simp only [Value.slice.injEq,Option.some.injEq,Addr.mk.injEq,and_true] at hv
     obtain ⟨rfl,hnn,rfl⟩:=hv
     clear hnn
     have e0:wr.cell? ⟨b',off' + k*4,none⟩=some (.string ⟨y.first.toArray⟩):=hc 0 _ rfl;have e1:wr.cell? ⟨b',off' + k*4+1,none⟩=some (.string ⟨y.von.toArray⟩):=hc 1 _ rfl;have e2:wr.cell? ⟨b',off' + k*4+2,none⟩=some (.string ⟨y.last.toArray⟩):=hc 2 _ rfl;have e3:wr.cell? ⟨b',off' + k*4+3,none⟩=some (.string ⟨y.jr.toArray⟩):=hc 3 _ rfl
     have hlt':(k:Int)<(N:Int):=by omega
     obtain ⟨k1,hk1⟩:∃k1,k1=k+1:=⟨_,rfl⟩
     have hwk:IntKind.i64.wrap ((k:Int)+1)=(k1:Int):=by rw [IntWalk.i64_in _ (by have:=Hn1000.out;omega)];omega
     have hst:hd1 (Q.take k1)=hd1 (Q.take k)++y.last.take 1:=by unfold hd1;rw [hk1,List.take_add_one,hy];simp
     have hl1:(hd1 (Q.take k)).length≤2000:=Nat.le_trans (hd1_len _) (by have:=Hn1000.out;rw [List.length_take];omega)
     have hl2:(y.last.take 1).length≤1:=by rw [List.length_take];omega
     obtain ⟨D,hD⟩:∃D,hd1 (Q.take k)=D:=⟨_,rfl⟩
     obtain ⟨d1,hd1'⟩:∃d1,y.last.take 1=d1:=⟨_,rfl⟩
     rw [hD,hd1'] at hst
     rw [hD] at hl1 ⊢
     rw [hd1'] at hl2
     have hap:=append_data D d1
     have Hst:=η hst;have Hlt:=η hlt;have Hk1:=η hk1;have Hd1:=η hd1'
     clear hst hlt hk1 hd1' hD hc hat hy hb hk
     go_wp2_with (go_at_call 135; refine (nm_head y.last 1 _ (by decide)).mono ?_;rw [Hd1.out];rintro e w9 ⟨rfl,hb9⟩;have Hb9:=η hb9;clear hb9)
     go_roundw
     case rel=>exact ⟨k1,by have:=Hlt.out;have:=Hk1.out;omega,rfl,by rw [Hst.out],bseq (Hb.out.alloc Hb.out.size _) (Hb9.out.mono (by simp))⟩
     case measure=>have:=Hlt.out;have:=Hk1.out;simp [intOf];omega
    ·
     have hlt':¬(k:Int)<(N:Int):=by omega
     have htk:Q.take k=Q:=List.take_of_length_le (by have:=HQl.out;omega)
     rw [htk]
     clear hlt hk htk hb
     go_wp2_with fail
     go_ret
     exact ⟨ret_str Hres.out.symm,Hb.out⟩
end Go.Proofs.YtgnfmopcialllaaGreatDoor
