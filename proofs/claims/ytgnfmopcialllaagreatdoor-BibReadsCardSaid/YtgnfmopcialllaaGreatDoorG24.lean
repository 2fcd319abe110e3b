/- Plain laws of layer 7: blanks, byte by byte. Plain Lean, no program in sight. The walks of package wire (layer 3). The walks of package side (layer 10), first part: numbers' texts, records. The walks of package side (layer 10), second part: keys. -/
import Derived.Test.YtgnfmopcialllaaGreatDoorG23
import Derived.Test.YtgnfmopcialllaaGreatDoorTk
import Derived.Test.YtgnfmopcialllaaGreatDoorG08
import Derived.Test.YtgnfmopcialllaaGreatDoorG09
import Derived.Test.YtgnfmopcialllaaGreatDoorG06
import Derived.OwnWalk
import Derived.Test.YtgnfmopcialllaaGreatDoorLbW7
import Derived.Test.YtgnfmopcialllaaGreatDoorG01
import Derived.Test.YtgnfmopcialllaaGreatDoorChecked
import Derived.Test.YtgnfmopcialllaaGreatDoorShelf
import Derived.Maps.OwnSet
import Derived.Maps.OwnOps
import Derived.Lib.Join
set_option linter.unusedSimpArgs false
set_option linter.unusedVariables false
namespace Go.Proofs.YtgnfmopcialllaaGreatDoor.Sd
def prev:Bool→List UInt8→Bool
 | p,[]=>p
 | _,c::r=>prev (c == 32) r
theorem prev_snoc:∀(l:List UInt8) (p:Bool) (c:UInt8),prev p (l++[c])=(c == 32)
 | [],_,_=>rfl
 | d::l,_,c=>prev_snoc l (d == 32) c
theorem sqGo_snoc:∀(l:List UInt8) (p:Bool) (c:UInt8),sqGo p (l++[c])=sqGo p l++(if c=32∧prev p l=true then [] else [c])
 | [],p,c=>by
  show sqGo p [c]=_
  by_cases hc:c=32
  ·
   subst hc
   cases p <;> rfl
  ·
   simp [sqGo,hc,prev]
 | d::l,p,c=>by
  rw [List.cons_append,sqGo,sqGo,prev]
  by_cases hd:d=32
  ·
   subst hd
   cases p
   ·
    simp only [if_true,Bool.false_eq_true,if_false,sqGo_snoc l true c,List.cons_append,beq_self_eq_true]
   ·
    simp only [if_true,sqGo_snoc l true c,beq_self_eq_true]
  ·
   have h2:(d == 32)=false:=by simpa using hd
   simp only [if_neg hd,sqGo_snoc l false c,List.cons_append,h2]
theorem prev_sqN:∀(n:Nat) (l:List UInt8),l.length=n→(prev true l=true ↔ (sqGo true l=[]∨(sqGo true l).getLast? = some 32)):=by
 intro n
 induction n with
 | zero =>
  intro l h
  obtain rfl:=List.length_eq_zero_iff.1 h
  simp [prev,sqGo]
 | succ n ih =>
  intro l h
  rcases List.eq_nil_or_concat l with rfl | ⟨k,c,rfl⟩
  ·
   simp at h
  rw [List.concat_eq_append] at h ⊢
  have ih:=ih k (by simpa using h)
  rw [prev_snoc,sqGo_snoc]
  by_cases hc:c=32
  ·
   subst hc
   by_cases hp:prev true k=true
   ·
    have:=ih.1 hp
    simpa [hp] using this
   ·
    simp [hp]
  ·
   simp [hc]
theorem prev_sq (l:List UInt8):prev true l=true ↔ (sqGo true l=[]∨(sqGo true l).getLast? = some 32):=prev_sqN _ l rfl
theorem sq_step (l:List UInt8) (k:Nat) (c:UInt8) (h:l[k]? = some c):sqGo true (l.take (k+1))=if c=32∧prev true (l.take k)=true then sqGo true (l.take k) else sqGo true (l.take k)++[c]:=by
 rw [List.take_add_one,h]
 show sqGo true (l.take k++[c])=_
 rw [sqGo_snoc]
 split <;> simp
theorem sqGo_len:∀(p:Bool) (l:List UInt8),(sqGo p l).length≤l.length
 | _,[]=>by simp [sqGo]
 | p,c::r=>by
  have h1:=sqGo_len true r
  have h2:=sqGo_len false r
  rw [sqGo]
  split
  ·
   split
   ·
    simp;omega
   ·
    simp;omega
  ·
   simp;omega
end Go.Proofs.YtgnfmopcialllaaGreatDoor.Sd
set_option linter.unusedSimpArgs false
set_option linter.unusedVariables false
namespace Go.Proofs.YtgnfmopcialllaaGreatDoor
open Go.RowKit
structure Laid10 (w:World):Prop where
 cnt:Laid01 w
 err:w.cell? ⟨0, 0,none⟩=some (.iface 199 (.agg #[asErr.hd 48]))
theorem Laid10.below {w w':World} (h:Laid10 w) (hb:Below w.heap.size w w'):Laid10 w' :=
 ⟨h.cnt.below hb,(hb.cell (World.block_lt_of_cell? w _ h.err)).trans h.err⟩
theorem itoa_len (n:Nat) (h:n≤999999):(Lib.itoa (n:Int)).length≤6:=by rw [Cnt.itoa_dec n h];exact Cnt.decF_length 6 n
set_option maxRecDepth 100000 in
set_option maxHeartbeats 800000 in
theorem wire_put (t:List UInt8) (w:World) (hL:Laid01 w) (ht:t.length≤999999) :
  Calls Tryz.prog 18 #[.string ⟨t.toArray⟩] w fun e w'=>e = .returned (.string ⟨(Sd.put t).toArray⟩)∧Below w.heap.size w w':=by
 have hit:=itoa_len t.length ht
 obtain ⟨d,hd⟩:∃d,Lib.itoa (t.length:Int)=d:=⟨_,rfl⟩
 have hp:Sd.put t=d++[58]++t++[44]:=by unfold Sd.put;rw [hd]
 rw [hd] at hit
 have Hd:=η hd;have Hp:=η hp
 clear hd hp
 have h1:¬9223372036854775807<d.length+1:=by omega
 have h2:¬9223372036854775807<d.length+1+t.length:=by omega
 have h3:¬9223372036854775807<d.length+1+t.length+1:=by omega
 go_enter Tryz.func18, Tryz.ntmps18
 go_wp2_with (go_at_call 41; refine (std_itoa _ _ hL (by omega) (by omega)).mono ?_;rw [Hd.out];rintro e w1 ⟨rfl,hb⟩;have Hb:=η hb;clear hb)
 go_ret
 refine ⟨?_,Hb.out⟩
 rw [Hp.out]
 have g1:∀l:List UInt8,(⟨l.toArray⟩:ByteArray)++⟨#[58]⟩=⟨(l++[58]).toArray⟩:=fun l=>append_data l [58]
 have g2:∀l:List UInt8,(⟨l.toArray⟩:ByteArray)++⟨#[44]⟩=⟨(l++[44]).toArray⟩:=fun l=>append_data l [44]
 rw [g1,append_data (d++[58]) t,g2]
 rfl
def WErr (v:Value) (w:World) (B:Nat):Prop:=∃(g:Nat) (e:Int),v = .iface 286 (.pointer (some ⟨g,0,none⟩))∧w.cell? ⟨g,1,none⟩=some (.int .i64 e)∧1≤e∧e≤100∧B≤g
theorem WErr.below {v:Value} {w w':World} {B:Nat} (h:WErr v w B) (hb:Below w.heap.size w w'):WErr v w' B:=by
 obtain ⟨g,e,h1,h2,h3⟩:=h
 exact ⟨g,e,h1,(hb.cell (World.block_lt_of_cell? w _ h2)).trans h2,h3⟩
theorem WErr.mono {v:Value} {w:World} {B B':Nat} (h:WErr v w B') (hb:B≤B'):WErr v w B:=by
 obtain ⟨g,e,h1,h2,h3,h4,h5⟩:=h
 exact ⟨g,e,h1,h2,h3,h4,Nat.le_trans hb h5⟩
theorem WErr.made (w:World) (a:Value) (e:Int) (h1:1≤e) (h2:e≤100):WErr (.iface 286 (.pointer (some ⟨w.heap.size,0,none⟩))) (w.alloc (.cells #[a,.int .i64 e] 288)) w.heap.size :=
 ⟨_,e,rfl,by rw [cell_of_row _ _ _ _ _ _ (heap_alloc_new w _)];rfl,h1,h2,Nat.le_refl _⟩
def LenPost (s:List UInt8) (at_:Nat) (w:World) (e:Ending) (w':World):Prop :=
 Below w.heap.size w w' ∧
 match Sd.lenGo true 0 (s.drop at_) with
 | some (n,r)=>∃k:Nat,at_<k∧k≤s.length∧r=s.drop k∧n≤999999∧e = .returned (.tuple #[.int .i64 (n:Int),.int .i64 (k:Int),.nilIface])
 | none=>∃v,e = .returned (.tuple #[.int .i64 0,.int .i64 0,v])∧WErr v w' w.heap.size
set_option maxRecDepth 100000 in
set_option maxHeartbeats 3200000 in
theorem wire_length (s:List UInt8) (a:Nat) (w:World) (hs:s.length≤1000000000) (ha:a≤s.length) :
  Calls Tryz.prog 208 #[.string ⟨s.toArray⟩,.int .i64 (a:Int)] w (LenPost s a w):=by
 obtain ⟨o,ho⟩:∃o,Sd.lenGo true 0 (s.drop a)=o:=⟨_,rfl⟩
 have Ho:=η ho
 clear ho
 go_enter Tryz.func208, Tryz.ntmps208
 go_wp2_with fail
 go_loopw [7,8] (fun nv iv wr=>∃(k n:Nat),a≤k∧k≤s.length∧n≤999999∧nv = .int .i64 (n:Int)∧iv = .int .i64 (k:Int)∧Sd.lenGo (decide (k=a)) n (s.drop k)=o∧(k=a→n=0)∧wr=w) (fun _ iv _=>s.length - (intOf iv).toNat)
 case atStart=>exact ⟨a,0,Nat.le_refl _,ha,by omega,rfl,rfl,by rw [decide_eq_true rfl];exact Ho.out,fun _=>rfl,rfl⟩
 case round =>
  obtain ⟨k,n,hak,hk,hn,rfl,rfl,hg,hkn,rfl⟩:=hrel
  have Hg:=η hg;have Hkn:=η hkn
  clear hg hkn
  by_cases hlt:k<s.length
  ·
   obtain ⟨x,hx⟩:∃x,s[k]? = some x:=⟨_,List.getElem?_eq_getElem hlt⟩
   have hby:=byte_at s k x hx
   have hdrop:s.drop k=x::s.drop (k+1):=by
    obtain ⟨h1,h2⟩:=List.getElem?_eq_some_iff.1 hx
    rw [List.drop_eq_getElem_cons h1,h2]
   have hgo:=Hg.out
   rw [hdrop,Sd.lenGo] at hgo
   have Hgo:=η hgo
   clear hgo hdrop hx
   have hlt':(k:Int)<(s.length:Int):=by omega
   have hkl:(k:Int)+1≤9223372036854775807:=by omega
   have hxl:=x.toNat_lt
   by_cases h1:x=58∧k≠a
   ·
    obtain ⟨rfl,hne⟩:=h1
    have hgt:(a:Int)<(k:Int):=by omega
    have hr:=Hgo.out
    rw [if_pos ⟨rfl,by simp [hne]⟩] at hr
    have Hr:=η hr
    clear hr Hgo
    go_wp2_with fail
    go_ret3
    refine ⟨Below.refl _ _,?_⟩
    rw [Ho.out,←Hr.out]
    exact ⟨k+1,by omega,by omega,rfl,hn,rfl⟩
   ·
    have hr:=Hgo.out
    have hc0:¬(x=58∧decide (k=a)=false):=by
     rintro ⟨h2,h3⟩
     exact h1 ⟨h2,by simpa using h3⟩
    rw [if_neg hc0] at hr
    clear Hgo hc0
    by_cases h2:x.toNat<48∨57<x.toNat∨(decide (k=a)=false∧n=0)
    ·
     rw [if_pos h2] at hr
     have Hr:=η hr
     clear hr
     obtain ⟨m,hm⟩:∃m,x.toNat=m:=⟨_,rfl⟩
     have hm58:m=58→k=a:=by
      intro h
      by_cases hka:k=a
      ·
       exact hka
      ·
       exact absurd ⟨UInt8.toNat_inj.1 (by rw [hm,h];rfl),hka⟩ h1
     rw [hm] at h2 hxl
     clear h1
     by_cases hm1:m=58
     ·
      have hka:=hm58 hm1
      subst hka
      subst hm1
      clear h2 hm58
      have hgt:¬(k:Int)<(k:Int):=by omega
      go_wp2_with fail
      go_ret3
      refine ⟨below_new _ _,?_⟩
      rw [Ho.out,←Hr.out]
      exact ⟨_,rfl,WErr.made _ _ 5 (by omega) (by omega)⟩
     ·
      have e58:((m:Int) == 58)=false:=by rw [beq_eq_false_iff_ne];omega
      clear hm58
      by_cases h48:m<48
      ·
       have g1:(m:Int)<48:=by omega
       clear h2
       go_wp2_with fail
       go_ret3
       refine ⟨below_new _ _,?_⟩
       rw [Ho.out,←Hr.out]
       exact ⟨_,rfl,WErr.made _ _ 5 (by omega) (by omega)⟩
      ·
       have g1:¬(m:Int)<48:=by omega
       by_cases h57:57<m
       ·
        have g2:(57:Int)<(m:Int):=by omega
        clear h2
        go_wp2_with fail
        go_ret3
        refine ⟨below_new _ _,?_⟩
        rw [Ho.out,←Hr.out]
        exact ⟨_,rfl,WErr.made _ _ 5 (by omega) (by omega)⟩
       ·
        have g2:¬(57:Int)<(m:Int):=by omega
        have h3:decide (k=a)=false∧n=0:=by
         rcases h2 with h | h | h
         ·
          omega
         ·
          omega
         ·
          exact h
        obtain ⟨h3,rfl⟩:=h3
        have h3':k≠a:=by simpa using h3
        have g3:(a:Int)<(k:Int):=by omega
        clear h2 h3
        go_wp2_with fail
        go_ret3
        refine ⟨below_new _ _,?_⟩
        rw [Ho.out,←Hr.out]
        exact ⟨_,rfl,WErr.made _ _ 5 (by omega) (by omega)⟩
    ·
     rw [if_neg h2] at hr
     obtain ⟨m,hm⟩:∃m,x.toNat=m:=⟨_,rfl⟩
     rw [hm] at h2 hxl hr
     have hm48:48≤m∧m≤57:=by omega
     have h0:decide (k=a)=false→n≠0:=fun h h'=>h2 (Or.inr (Or.inr ⟨h,h'⟩))
     have e58:((m:Int) == 58)=false:=by rw [beq_eq_false_iff_ne];omega
     have g1:¬(m:Int)<48:=by omega
     have g2:¬(57:Int)<(m:Int):=by omega
     have hw1:IntKind.i64.wrap ((n:Int)*10)=(n:Int)*10:=IntWalk.i64_in _ (by omega)
     have hw2:IntKind.u8.wrap ((m:Int) - 48)=(m:Int) - 48:=IntWalk.u8_in _ (by omega)
     have hw4:IntKind.i64.wrap ((m:Int) - 48)=(m:Int) - 48:=IntWalk.i64_in _ (by omega)
     clear h1 h2
     by_cases hka:k=a
     ·
      subst hka
      have g3:¬(k:Int)<(k:Int):=by omega
      clear h0
      have hw3:IntKind.i64.wrap ((n:Int)*10+((m:Int) - 48))=(n:Int)*10+((m:Int) - 48):=IntWalk.i64_in _ (by omega)
      by_cases hbig:999999<n*10+(m - 48)
      ·
       rw [if_pos hbig] at hr
       have Hr:=η hr
       clear hr
       have gb:(999999:Int)<(n:Int)*10+((m:Int) - 48):=by omega
       clear hbig
       go_wp2_with fail
       go_ret3
       refine ⟨below_new _ _,?_⟩
       rw [Ho.out,←Hr.out]
       exact ⟨_,rfl,WErr.made _ _ 3 (by omega) (by omega)⟩
      ·
       rw [if_neg hbig] at hr
       have Hr:=η hr
       clear hr
       have gb:¬(999999:Int)<(n:Int)*10+((m:Int) - 48):=by omega
       have Hbig:=η hbig
       clear hbig
       go_wp2_with fail
       go_roundw
       case rel=>exact ⟨k+1,n*10+(m - 48),by omega,by omega,by have:=Hbig.out;omega,by congr 1;omega,by go_num,by rw [decide_eq_false (by omega:¬k+1=k)];exact Hr.out,by omega,trivial⟩
       case measure=>simp [intOf];omega
     ·
      have g3:(a:Int)<(k:Int):=by omega
      have g4:((n:Int) == 0)=false:=by
       have:=h0 (by simp [hka])
       rw [beq_eq_false_iff_ne];omega
      clear h0
      have hw3:IntKind.i64.wrap ((n:Int)*10+((m:Int) - 48))=(n:Int)*10+((m:Int) - 48):=IntWalk.i64_in _ (by omega)
      by_cases hbig:999999<n*10+(m - 48)
      ·
       rw [if_pos hbig] at hr
       have Hr:=η hr
       clear hr
       have gb:(999999:Int)<(n:Int)*10+((m:Int) - 48):=by omega
       clear hbig
       go_wp2_with fail
       go_ret3
       refine ⟨below_new _ _,?_⟩
       rw [Ho.out,←Hr.out]
       exact ⟨_,rfl,WErr.made _ _ 3 (by omega) (by omega)⟩
      ·
       rw [if_neg hbig] at hr
       have Hr:=η hr
       clear hr
       have gb:¬(999999:Int)<(n:Int)*10+((m:Int) - 48):=by omega
       have Hbig:=η hbig
       clear hbig
       go_wp2_with fail
       go_roundw
       case rel=>exact ⟨k+1,n*10+(m - 48),by omega,by omega,by have:=Hbig.out;omega,by congr 1;omega,by go_num,by rw [decide_eq_false (by omega:¬k+1=a)];exact Hr.out,by omega,trivial⟩
       case measure=>simp [intOf];omega
  ·
   have hlt':¬(k:Int)<(s.length:Int):=by omega
   have hnil:s.drop k=[]:=List.drop_of_length_le (by omega)
   have hr:=Hg.out
   rw [hnil,Sd.lenGo] at hr
   have Hr:=η hr
   clear hr hnil
   go_wp2_with fail
   go_ret3
   refine ⟨below_new _ _,?_⟩
   rw [Ho.out,←Hr.out]
   exact ⟨_,rfl,WErr.made _ _ 6 (by omega) (by omega)⟩
def GetPost (s:List UInt8) (at_:Nat) (w:World) (e:Ending) (w':World):Prop :=
 Below w.heap.size w w' ∧
 match Sd.get (s.drop at_) with
 | some (t,r)=>∃k:Nat,at_<k∧k≤s.length∧r=s.drop k∧t.length≤s.length∧e = .returned (.tuple #[.string ⟨t.toArray⟩,.int .i64 (k:Int),.nilIface])
 | none=>∃v,e = .returned (.tuple #[.string ⟨#[]⟩,.int .i64 0,v])∧WErr v w' w.heap.size
set_option maxRecDepth 100000 in
set_option maxHeartbeats 3200000 in
theorem wire_get0 (s:List UInt8) (a:Nat) (w:World) (hs:s.length≤1000000000) (ha:a≤s.length) :
  Calls Tryz.prog 168 #[.string ⟨s.toArray⟩,.int .i64 (a:Int),.int .i64 999999] w (GetPost s a w):=by
 have hg:Sd.get (s.drop a)=match Sd.lenGo true 0 (s.drop a) with | none=>none | some (n,r)=>if r[n]? = some 44 then some (r.take n,r.drop (n+1)) else none:=rfl
 cases hlg:Sd.lenGo true 0 (s.drop a) with
 | none =>
  rw [hlg] at hg
  have Hg:=η hg;have Hlg:=η hlg
  clear hg hlg
  have h0:¬(a:Int)<0:=by omega
  have h1:¬(s.length:Int)<(a:Int):=by omega
  go_enter Tryz.func168, Tryz.ntmps168
  go_upto_region 4 with (go_at_call 208; refine (wire_length s a _ hs ha).mono ?_;rintro e w1 ⟨hb,hm⟩;rw [Hlg.out] at hm;obtain ⟨v,rfl,hE⟩:=hm;have Hb:=η hb;have HE:=η hE;obtain ⟨g,er,rfl,_⟩:=hE;clear hb)
  go_wp2_with fail
  go_ret3
  refine ⟨Hb.out,?_⟩
  rw [Hg.out]
  exact ⟨_,rfl,HE.out⟩
 | some o =>
  obtain ⟨n,r⟩:=o
  rw [hlg] at hg
  simp only at hg
  have Hg:=η hg;have Hlg:=η hlg
  clear hg hlg
  have h0:¬(a:Int)<0:=by omega
  have h1:¬(s.length:Int)<(a:Int):=by omega
  go_enter Tryz.func168, Tryz.ntmps168
  go_upto_region 4 with (go_at_call 208; refine (wire_length s a _ hs ha).mono ?_;rintro e w1 ⟨hb,hm⟩;rw [Hlg.out] at hm;obtain ⟨k,hak,hk,hr,hn,rfl⟩:=hm;have Hb:=η hb;clear hb)
  obtain ⟨q,hq⟩:∃q,q=k+n:=⟨_,rfl⟩
  have hw1:IntKind.i64.wrap ((k:Int)+(n:Int))=(q:Int):=by rw [IntWalk.i64_in _ (by omega)];omega
  have hw2:IntKind.i64.wrap ((q:Int)+1)=(q:Int)+1:=IntWalk.i64_in _ (by omega)
  have hmx:¬(999999:Int)<(n:Int):=by omega
  subst hr
  have hget:(s.drop k)[n]? = s[q]?:=by rw [List.getElem?_drop,hq]
  rw [hget] at Hg
  by_cases hsh:s.length<q+1
  ·
   have g1:(s.length:Int)<(q:Int)+1:=by omega
   have hnone:s[q]? = none:=List.getElem?_eq_none (by omega)
   rw [hnone,if_neg (by simp)] at Hg
   clear hnone hget hsh
   go_wp2_with fail
   go_ret3
   refine ⟨Hb.out.alloc Hb.out.size _,?_⟩
   rw [Hg.out]
   exact ⟨_,rfl,(WErr.made _ _ 6 (by omega) (by omega)).mono Hb.out.size⟩
  ·
   have g1:¬(s.length:Int)<(q:Int)+1:=by omega
   have g2:(q:Int)<(s.length:Int):=by omega
   obtain ⟨x,hx⟩:∃x,s[q]? = some x:=⟨_,List.getElem?_eq_getElem (by omega)⟩
   have hby:=byte_at s q x hx
   have Hq:=η hq
   rw [hx] at Hg
   clear hx hget hsh hq
   by_cases hc:x=44
   ·
    have e1:((x.toNat:Int) == 44)=true:=by rw [hc];rfl
    rw [hc,if_pos rfl] at Hg
    have hex:(⟨s.toArray⟩:ByteArray).extract k q=⟨((s.drop k).take n).toArray⟩:=by
     rw [extract_any,Hq.out,Nat.add_sub_cancel_left]
    have hkq:(k:Int)≤(q:Int):=by have:=Hq.out;omega
    have hqs:(q:Int)≤(s.length:Int):=by omega
    clear hc
    go_wp2_with fail
    go_ret3
    refine ⟨Hb.out,?_⟩
    rw [Hg.out]
    exact ⟨q+1,by have:=Hq.out;omega,by omega,by rw [List.drop_drop,Hq.out,Nat.add_assoc],by rw [List.length_take,List.length_drop];omega,rfl⟩
   ·
    have e1:((x.toNat:Int) == 44)=false:=by rw [beq_eq_false_iff_ne];intro h;exact hc (UInt8.toNat_inj.1 (by show x.toNat=44;omega))
    rw [if_neg (fun h=>hc (Option.some.inj h))] at Hg
    clear hc
    go_wp2_with fail
    go_ret3
    refine ⟨Hb.out.alloc Hb.out.size _,?_⟩
    rw [Hg.out]
    exact ⟨_,rfl,(WErr.made _ _ 5 (by omega) (by omega)).mono Hb.out.size⟩
set_option maxRecDepth 100000 in
set_option maxHeartbeats 1600000 in
theorem wire_number (v:Value) (B:Nat) (w:World) (hL:Laid10 w) (hv:WErr v w B) :
  Calls Tryz.prog 169 #[v] w fun ev w'=>(∃er:Int,ev = .returned (.int .i64 er)∧1≤er∧er≤100)∧Below w.heap.size w w':=by
 obtain ⟨g,e,rfl,hp,h1,h2,_⟩:=hv
 have hgl : 0 < w.heap.size:=World.block_lt_of_cell? w _ hL.err
 have hpl:g<w.heap.size:=World.block_lt_of_cell? w _ hp
 have hb1:=below_new w (.cells #[.int .i64 0] 25)
 have hgA:=(hb1.cell (p:=⟨0, 0,none⟩) hgl).trans hL.err
 have hpA:=(hb1.cell (p:=⟨g,1,none⟩) hpl).trans hp
 have htA:(w.alloc (.cells #[.int .i64 0] 25)).cell? ⟨w.heap.size,0,none⟩=some (.int .i64 0):=by rw [cell_of_row _ _ _ _ _ _ (heap_alloc_new w _)];rfl
 have hfA:(w.alloc (.cells #[.int .i64 0] 25)).frozen? ⟨w.heap.size,0,none⟩=false:=by simp
 have HgA:=η hgA;have HpA:=η hpA;have HtA:=η htA;have HfA:=η hfA;have Hb1:=η hb1;have H1:=η h1;have H2:=η h2
 clear hgA hpA htA hfA hb1 hp hL h1 h2
 go_enter Tryz.func169, Tryz.ntmps169
 go_upto_region 3 with (go_at_call 34; refine (std_as g e 0 ⟨w.heap.size,0,none⟩ _ HgA.out HpA.out HtA.out HfA.out).mono ?_;rintro ev w9 ⟨rfl,W9,hw9,hb9⟩;have Hw9:=η hw9;have Hb9:=η hb9;clear hw9 hb9)
 have hc9:w9.cell? ⟨w.heap.size,0,none⟩=some (.int .i64 e):=by
  rw [Hw9.out]
  have:=(Hb9.out.cell (p:=⟨w.heap.size,0,none⟩) (World.block_lt_of_cell? _ _ HtA.out)).trans HtA.out
  exact World.cell?_setCell_same _ _ _ this
 have hb9:Below w.heap.size w w9:=by
  rw [Hw9.out]
  exact (Hb1.out.trans (Hb9.out.mono Hb1.out.size)).setCell (p:=⟨w.heap.size,0,none⟩) (Nat.le_refl _) _
 have Hbb:=η hb9
 clear hb9
 go_wp2_with fail
 go_ret
 exact ⟨⟨e,rfl,H1.out,H2.out⟩,Hbb.out⟩
def GetPost2 (s:List UInt8) (at_:Nat) (w:World) (e:Ending) (w':World):Prop :=
 Below w.heap.size w w' ∧
 match Sd.get (s.drop at_) with
 | some (t,r)=>∃k:Nat,at_<k∧k≤s.length∧r=s.drop k∧t.length≤s.length∧e = .returned (.tuple #[.string ⟨t.toArray⟩,.int .i64 (k:Int),.int .i64 0])
 | none=>∃er:Int,1≤er∧er≤100∧e = .returned (.tuple #[.string ⟨#[]⟩,.int .i64 0,.int .i64 er])
set_option maxRecDepth 100000 in
set_option maxHeartbeats 1600000 in
theorem wire_get (s:List UInt8) (a:Nat) (w:World) (hL:Laid10 w) (hs:s.length≤1000000000) (ha:a≤s.length) :
  Calls Tryz.prog 112 #[.string ⟨s.toArray⟩,.int .i64 (a:Int),.int .i64 999999] w (GetPost2 s a w):=by
 have HL:=η hL;clear hL
 cases hg:Sd.get (s.drop a) with
 | none =>
  have Hg:=η hg;clear hg
  go_enter Tryz.func112, Tryz.ntmps112
  go_upto_region 2 with (go_at_call 168; refine (wire_get0 s a _ hs ha).mono ?_;rintro e w1 ⟨hb,hm⟩;rw [Hg.out] at hm;obtain ⟨v,rfl,hE⟩:=hm;have Hb:=η hb;have HE:=η hE;obtain ⟨g,er,rfl,_⟩:=hE;clear hb)
  go_wp2_with (go_at_call 169; refine (wire_number _ _ _ (HL.out.below Hb.out) HE.out).mono ?_;rintro e w2 ⟨⟨er2,rfl,h1,h2⟩,hb2⟩;have Hb2:=η (Hb.out.trans (hb2.mono Hb.out.size));clear hb2)
  go_ret3
  refine ⟨Hb2.out,?_⟩
  rw [Hg.out]
  exact ⟨er2,h1,h2,rfl⟩
 | some o =>
  obtain ⟨t,r⟩:=o
  have Hg:=η hg;clear hg
  go_enter Tryz.func112, Tryz.ntmps112
  go_upto_region 2 with (go_at_call 168; refine (wire_get0 s a _ hs ha).mono ?_;rintro e w1 ⟨hb,hm⟩;rw [Hg.out] at hm;obtain ⟨k,hak,hk,hr,ht,rfl⟩:=hm;have Hb:=η hb;clear hb)
  go_wp2_with fail
  go_ret3
  refine ⟨Hb.out,?_⟩
  rw [Hg.out]
  exact ⟨k,hak,hk,hr,ht,rfl⟩
def AllPost (s:List UInt8) (w:World) (e:Ending) (w':World):Prop :=
 Below w.heap.size w w' ∧
 match Sd.all s with
 | some ts=>∃v,OwnL w.heap.size 9 1 RStr w' v ts∧(∀t ∈ ts,t.length≤s.length)∧ts.length≤s.length∧e = .returned (.tuple #[v,.int .i64 0])
 | none=>∃er:Int,1≤er∧er≤100∧e = .returned (.tuple #[.slice none 0 0,.int .i64 er])
theorem allN_fuel:∀(f g:Nat) (l:List UInt8),l.length≤f→l.length≤g→(∀l t q,Sd.get l=some (t,q)→q.length<l.length)→Sd.allN f l=Sd.allN g l
 | f,g,[],_,_,_=>by rw [Sd.allN_nil,Sd.allN_nil]
 | 0,g,c::r,h,_,_=>by simp at h
 | f+1,0,c::r,_,h,_=>by simp at h
 | f+1,g+1,c::r,h1,h2,hq=>by
  rw [Sd.allN,Sd.allN]
  cases h:Sd.get (c::r) with
  | none=>rfl
  | some o =>
   obtain ⟨t,q⟩:=o
   have:=hq _ _ _ h
   simp only
   rw [allN_fuel f g q (by simp at this h1;omega) (by simp at this h2;omega) hq]
theorem lenGo_less:∀(l:List UInt8) (b:Bool) (n m:Nat) (r:List UInt8),Sd.lenGo b n l=some (m,r)→r.length<l.length
 | [],_,_,_,_,h=>by cases h
 | c::l,b,n,m,r,h=>by
  rw [Sd.lenGo] at h
  split at h
  ·
   injection h with h
   injection h with _ h
   rw [←h];simp
  ·
   split at h
   ·
    cases h
   ·
    split at h
    ·
     cases h
    ·
     have:=lenGo_less l _ _ _ _ h
     simp;omega
theorem get_less (l t q:List UInt8) (h:Sd.get l=some (t,q)):q.length<l.length:=by
 unfold Sd.get at h
 cases h1:Sd.lenGo true 0 l with
 | none=>rw [h1] at h;cases h
 | some o =>
  obtain ⟨n,r⟩:=o
  rw [h1] at h
  simp only at h
  split at h
  ·
   have:=lenGo_less _ _ _ _ _ h1
   injection h with h
   injection h with _ h
   rw [←h,List.length_drop];omega
  ·
   cases h
theorem all_eq (s t r:List UInt8) (h:Sd.get s=some (t,r)):Sd.all s=(Sd.all r).map (t :: ·):=by
 cases s with
 | nil=>cases h
 | cons c q =>
  have hl:=get_less _ _ _ h
  unfold Sd.all
  show Sd.allN (q.length+1) (c::q)=_
  rw [Sd.allN,h]
  simp only
  rw [allN_fuel q.length r.length r (by simp at hl;omega) (Nat.le_refl _) get_less]
theorem all_bad (s:List UInt8) (hne:s≠[]) (h:Sd.get s=none):Sd.all s=none:=by
 cases s with
 | nil=>exact absurd rfl hne
 | cons c q =>
  unfold Sd.all
  show Sd.allN (q.length+1) (c::q)=_
  rw [Sd.allN,h]
theorem all_nil:Sd.all []=some []:=rfl
set_option maxRecDepth 100000 in
set_option maxHeartbeats 3200000 in
theorem wire_all (s:List UInt8) (w:World) (hL:Laid10 w) (hs:s.length≤1000000) :
  Calls Tryz.prog 61 #[.string ⟨s.toArray⟩] w (AllPost s w):=by
 have HL:=η hL;clear hL
 obtain ⟨i0,hi,hz0,hz1,hz2⟩:=info_parts str_info
 have Hi:=η hi;have Hz0:=η hz0;have Hz1:=η hz1;have Hz2:=η hz2;clear hi hz0 hz1 hz2
 go_enter Tryz.func61, Tryz.ntmps61
 go_wp2_with fail
 go_loopw [4,5] (fun vo iv wr=>∃(k:Nat) (out:List (List UInt8)),k≤s.length∧iv = .int .i64 (k:Int)∧OwnL w.heap.size 9 1 RStr wr vo out∧Sd.all s=(Sd.all (s.drop k)).map (out ++ ·)∧(∀t ∈ out,t.length≤s.length)∧out.length≤k∧Below w.heap.size w wr) (fun _ iv _=>s.length - (intOf iv).toNat)
 case atStart=>exact ⟨0,[],Nat.zero_le _,rfl,OwnL.nil _ _ _ _ _,by simp,by simp,Nat.le_refl _,Below.refl _ _⟩
 case round =>
  obtain ⟨k,out,hk,rfl,hO,hall,hsm,hol,hb⟩:=hrel
  have HO:=η hO;have Hall:=η hall;have Hsm:=η hsm;have Hb:=η hb
  clear hO hall hsm hb
  by_cases hlt:k<s.length
  ·
   have hlt':(k:Int)<(s.length:Int):=by omega
   have hne:s.drop k≠[]:=by intro h;have:=congrArg List.length h;rw [List.length_drop] at this;simp at this;omega
   cases hg:Sd.get (s.drop k) with
   | none =>
    have ha:=all_bad _ hne hg
    have Hr:=η (show Sd.all s=none by rw [Hall.out,ha];rfl)
    have Hg:=η hg
    clear hg hne ha
    go_wp2_with (go_at_call 112; refine (wire_get s k _ (HL.out.below Hb.out) (by omega) hk).mono ?_;rintro e w1 ⟨hb,hm⟩;rw [Hg.out] at hm;obtain ⟨er,h1,h2,rfl⟩:=hm;have Hb1:=η (Hb.out.trans (hb.mono Hb.out.size));have her:(er != 0)=true:=(by simp;omega);clear hb)
    go_ret2
    refine ⟨Hb1.out,?_⟩
    rw [Hr.out]
    exact ⟨er,h1,h2,rfl⟩
   | some o =>
    obtain ⟨t,r⟩:=o
    have ha:=all_eq _ _ _ hg
    have Hr:=η (show Sd.all s=(Sd.all r).map ((out++[t]) ++ ·) by rw [Hall.out,ha,Option.map_map];congr 1;funext l;simp)
    have Hg:=η hg
    clear hg hne ha
    obtain ⟨fl,hown,hrep⟩:=HO.out
    have Hown:=η hown;have Hrep:=η hrep
    clear hown hrep
    have hout:out.length≤1000000:=by omega
    go_wp2_with (first
     | (go_at_call 112; refine (wire_get s k _ (HL.out.below Hb.out) (by omega) hk).mono ?_;rintro e w1 ⟨hb,hm⟩;rw [Hg.out] at hm;obtain ⟨k2,hak,hk2,hr,ht,rfl⟩:=hm;have Hb1:=η (Hb.out.trans (hb.mono Hb.out.size));have Ho1:=η (own_below Hown.out hb);clear hb)
     | (at_builtin;go_loud (refine wpList_append1 rfl (.tmp 23) (.tmp 25) 24 rfl w.heap.size 9 i0 (.string ⟨#[]⟩) 1 16 Tryz.underlying24 Hi.out Hz0.out Hz1.out Hz2.out rfl (by decide) _ _ _ Ho1.out rfl [.string ⟨t.toArray⟩] rfl (by simp) rfl (by simp [Value.oneCell']) (by unfold maxLen;omega) (by omega) Hb1.out.size ?_);intro v2 w2 own2 g2 at2))
    go_roundw
    case rel =>
     refine ⟨k2,out++[t],hk2,rfl,OwnL.more Hrep.out rfl own2,by rw [←hr];exact Hr.out,?_,by rw [List.length_append,List.length_singleton];omega,Hb1.out.grown g2 Hb1.out.size (fun q e=>(Ho1.out.lt q e).1)⟩
     intro u hu
     rcases List.mem_append.1 hu with h | h
     ·
      exact Hsm.out u h
     ·
      rw [List.mem_singleton] at h;rw [h];exact ht
    case measure=>simp [intOf];omega
  ·
   have hlt':¬(k:Int)<(s.length:Int):=by omega
   have hd:s.drop k=[]:=List.drop_of_length_le (by omega)
   have Hr:=η (show Sd.all s=some out by rw [Hall.out,hd,all_nil];simp)
   go_wp2_with fail
   go_ret2
   refine ⟨Hb.out,?_⟩
   rw [Hr.out]
   exact ⟨_,HO.out,Hsm.out,by omega,rfl⟩
end Go.Proofs.YtgnfmopcialllaaGreatDoor
set_option linter.unusedSimpArgs false
set_option linter.unusedVariables false
namespace Go.Proofs.YtgnfmopcialllaaGreatDoor
open Go.RowKit
set_option maxHeartbeats 400000 in
theorem side_digits (n:Int) (w:World) (hL:Laid10 w) :
  Calls Tryz.prog 57 #[.int .i64 n] w fun e w'=>e = .returned (.string ⟨(Sd.dig n).toArray⟩)∧Below w.heap.size w w':=by
 go_enter Tryz.func57, Tryz.ntmps57
 go_wp2_with (go_at_call 40; refine (count_text n 0 _ hL.cnt).mono ?_;rintro e w1 ⟨rfl,hb⟩;have Hb:=η hb;clear hb)
 go_ret
 exact ⟨rfl,Hb.out⟩
set_option maxHeartbeats 400000 in
theorem side_value (l:List UInt8) (w:World) (hL:Laid10 w) (hl:l.length≤1000000) :
  Calls Tryz.prog 114 #[.string ⟨l.toArray⟩] w fun e w'=>e = .returned (.int .i64 (Sd.val l))∧Below w.heap.size w w':=by
 go_enter Tryz.func114, Tryz.ntmps114
 go_wp2_with (go_at_call 170; refine (count_value l 0 _ hL.cnt hl).mono ?_;rintro e w1 ⟨rfl,hb⟩;have Hb:=η hb;clear hb)
 go_ret
 exact ⟨rfl,Hb.out⟩
theorem put_size (t:List UInt8) (h:t.length≤1000):(Sd.put t).length≤1008:=by have:=Sd.put_le t (by omega);omega
set_option maxRecDepth 100000 in
set_option maxHeartbeats 1600000 in
theorem side_record (ps:List (List UInt8)) (v:Value) (S:Nat→Prop) (w:World) (hL:Laid10 w) (hS:SliceIn S 1 RStr w v ps) (hl:ps.length≤10) (hp:∀t ∈ ps,t.length≤1000) :
  Calls Tryz.prog 56 #[v] w fun e w'=>e = .returned (.string ⟨(Sd.record ps).toArray⟩)∧Below w.heap.size w w':=by
 obtain ⟨p,cap,rfl,hle,hm,hat⟩:=hS
 have Hat:=η hat;have HL:=η hL;have Hp:=η hp
 have hrec:Sd.record ps=Sd.put (Sd.puts ps):=rfl
 have Hrec:=η hrec
 clear hat hm hle hL hp hrec
 go_enter Tryz.func56, Tryz.ntmps56
 go_wp2_with fail
 go_loopw [3,8] (fun sv iv wr=>∃k:Nat,k≤ps.length∧iv = .int .i64 (k:Int)∧sv = .string ⟨(Sd.puts (ps.take k)).toArray⟩∧(Sd.puts (ps.take k)).length≤k*1008∧Below w.heap.size w wr) (fun _ iv _=>ps.length - (intOf iv).toNat)
 case atStart=>exact ⟨0,Nat.zero_le _,rfl,rfl,by simp [Sd.puts],Below.refl _ _⟩
 case round =>
  obtain ⟨k,hk,rfl,rfl,hsz,hb⟩:=hrel
  have Hb:=η hb;clear hb
  by_cases hlt:k<ps.length
  ·
   obtain ⟨x,hx⟩:∃x,ps[k]? = some x:=⟨_,List.getElem?_eq_getElem hlt⟩
   obtain ⟨b,off,vs,rfl,_,hbw,hR,hc⟩:=Hat.out k x hx
   have hR:vs=_:=hR
   subst hR
   have e0:wr.cell? ⟨b,off+k,none⟩=some (.string ⟨x.toArray⟩):=by
    have:=(Hb.out.cell (p:=⟨b,off+(k*1+0),none⟩) hbw).trans (hc 0 _ rfl)
    rwa [Nat.mul_one,Nat.add_zero] at this
   have hxl:=Hp.out x (List.mem_of_getElem? hx)
   have hps:=put_size x hxl
   have htk:Sd.puts (ps.take (k+1))=Sd.puts (ps.take k)++Sd.put x:=by
    rw [List.take_add_one,hx,Sd.puts_append]
    unfold Sd.puts
    simp
   have Htk:=η htk
   obtain ⟨acc,hacc⟩:∃acc,Sd.puts (ps.take k)=acc:=⟨_,rfl⟩
   rw [hacc] at hsz Htk ⊢
   obtain ⟨px,hpx⟩:∃px,Sd.put x=px:=⟨_,rfl⟩
   rw [hpx] at hps Htk
   have Hpx:=η hpx
   have hk10:k*1008≤10*1008:=Nat.mul_le_mul_right _ (by omega)
   have hadd:¬9223372036854775807<acc.length+px.length:=by omega
   have hlt':(k:Int)<(ps.length:Int):=by omega
   have Hlt:=η hlt;have Hsz:=η hsz;have Hps:=η hps
   have hx6:x.length≤999999:=by omega
   clear hx hc htk hacc hpx hlt hk10 hsz hps hxl
   go_wp2_with (go_at_call 18; refine (wire_put x _ (HL.out.cnt.below Hb.out) hx6).mono ?_;rw [Hpx.out];rintro e w1 ⟨rfl,hb⟩;have Hb1:=η (Hb.out.trans (hb.mono Hb.out.size));clear hb)
   go_roundw
   case rel=>exact ⟨k+1,Hlt.out,by go_num,by rw [Htk.out];exact congrArg Value.string (append_data _ _),by rw [Htk.out,List.length_append];have:=Hsz.out;have:=Hps.out;omega,Hb1.out⟩
   case measure=>have:=Hlt.out;simp [intOf];omega
  ·
   have hlt':¬(k:Int)<(ps.length:Int):=by omega
   have htk:ps.take k=ps:=List.take_of_length_le (by omega)
   rw [htk] at hsz ⊢
   have hk10:k*1008≤10*1008:=Nat.mul_le_mul_right _ (by omega)
   have h6:(Sd.puts ps).length≤999999:=by omega
   clear hsz hk10 htk hlt
   go_wp2_with (go_at_call 18; refine (wire_put _ _ (HL.out.cnt.below Hb.out) h6).mono ?_;rintro e w1 ⟨rfl,hb⟩;have Hb1:=η (Hb.out.trans (hb.mono Hb.out.size));clear hb)
   go_ret
   exact ⟨by rw [Hrec.out];rfl,Hb1.out⟩
end Go.Proofs.YtgnfmopcialllaaGreatDoor
set_option linter.unusedSimpArgs false
set_option linter.unusedVariables false
namespace Go.Proofs.YtgnfmopcialllaaGreatDoor
open Go.RowKit
def RU8 (c:UInt8) (vs:List Value):Prop:=vs=[.int .u8 (c.toNat:Int)]
theorem RU8.size (c:UInt8) (vs:List Value) (h:RU8 c vs):vs.length=1:=by rw [h];rfl
theorem u8_info:(Tryz.prog.info? 5).map (fun i=>(i.zero,i.size,i.bytes))=some (some (.int .u8 0),1,1):=by kernel_rfl
def ixOf (ks:List Int) (n:Int):Int:=match ks.findIdx? (fun k=>n == k) with | some i=>(i:Int) | none=>-1
set_option maxRecDepth 100000 in
set_option maxHeartbeats 800000 in
theorem std_index (ks:List Int) (v:Value) (n:Int) (S:Nat→Prop) (w:World) (hS:SliceIn S 1 RInt w v ks) :
  Calls Tryz.prog 251 #[v,.int .i64 n] w fun e w'=>e = .returned (.int .i64 (ixOf ks n))∧w=w':=by
 have hlm:=hS.bound
 obtain ⟨p,cap,rfl,hle,hm,hat⟩:=hS
 have Hat:=η hat;clear hat hm hle
 go_enter Tryz.func251, Tryz.ntmps251
 go_wp2_with fail
 go_loop [8] (fun iv=>∃k:Nat,k≤ks.length∧iv = .int .i64 (k:Int)∧(ks.take k).findIdx? (fun k=>n == k)=none) (fun iv=>ks.length - (intOf iv).toNat)
 case atStart=>exact ⟨0,Nat.zero_le _,rfl,rfl⟩
 case round =>
  obtain ⟨k,hk,rfl,hno⟩:=hrel
  have Hno:=η hno;clear hno
  by_cases hlt:k<ks.length
  ·
   obtain ⟨x,hx⟩:∃x,ks[k]? = some x:=⟨_,List.getElem?_eq_getElem hlt⟩
   obtain ⟨b,off,vs,rfl,_,hbw,hR,hc⟩:=Hat.out k x hx
   have hR:vs=_:=hR
   subst hR
   have e0:w.cell? ⟨b,off+k,none⟩=some (.int .i64 x):=by have:=hc 0 _ rfl;rwa [Nat.mul_one,Nat.add_zero] at this
   have hlt':(k:Int)<(ks.length:Int):=by omega
   have hkl:(k:Int)+1≤9223372036854775807:=by omega
   have Hx:=η hx;clear hx hc
   cases hp:(n == x)
   ·
    have Hp:=η hp
    go_wp2_with fail
    go_round
    case rel=>exact ⟨k+1,by omega,by go_num,by rw [List.take_add_one,Hx.out,List.findIdx?_append,Hno.out];simp [Hp.out]⟩
    case measure=>simp [intOf];omega
   ·
    have Hp:=η hp
    go_wp2_with fail
    go_ret
    refine ⟨?_,rfl⟩
    have h:ks.findIdx? (fun k=>n == k)=some k:=by
     obtain ⟨h1,h2⟩:=List.getElem?_eq_some_iff.1 Hx.out
     rw [←List.take_append_drop k ks,List.findIdx?_append,Hno.out,List.drop_eq_getElem_cons h1,h2]
     have h3:=Hp.out
     simp [List.findIdx?_cons,h3,Nat.min_eq_left (Nat.le_of_lt hlt)]
    unfold ixOf
    rw [h]
    rfl
  ·
   have hlt':¬(k:Int)<(ks.length:Int):=by omega
   go_wp2_with fail
   go_ret
   refine ⟨?_,rfl⟩
   have h:=Hno.out
   rw [List.take_of_length_le (by omega)] at h
   unfold ixOf
   rw [h]
   rfl
set_option maxHeartbeats 400000 in
theorem std_contains (ks:List Int) (v:Value) (n:Int) (b:Bool) (S:Nat→Prop) (w:World) (hS:SliceIn S 1 RInt w v ks) (hb:decide (0≤ixOf ks n)=b) :
  Calls Tryz.prog 230 #[v,.int .i64 n] w fun e w'=>e = .returned (.bool b)∧w=w':=by
 go_enter Tryz.func230, Tryz.ntmps230
 go_wp2_with (go_at_call 251; refine (std_index ks v n S _ hS).mono ?_;rintro e w1 ⟨rfl,rfl⟩)
 go_ret
 exact ⟨rfl,rfl⟩
theorem macro_of (ks:List Int) (v:Value) (n:Int) (t:List UInt8) (b:Bool) (S:Nat→Prop) (w:World) (hS:SliceIn S 1 RInt w v ks) (hb:decide (0≤ixOf ks n)=b) :
  Calls Tryz.prog 206 #[.agg #[.int .i64 n,.string ⟨t.toArray⟩],v] w fun e w'=>e = .returned (.bool b)∧Below w.heap.size w w':=by
 have hb4:=below_new w (.cells #[.int .i64 n,.string ⟨t.toArray⟩] 253)
 have hS4:=hS.below' hb4
 have HS4:=η hS4;have Hb4:=η hb4
 clear hS hb4 hS4
 go_enter Tryz.func206, Tryz.ntmps206
 go_wp2_with (go_at_call 230; refine (std_contains ks v n b S _ HS4.out hb).mono ?_;rintro e w1 ⟨rfl,rfl⟩)
 go_ret
 exact ⟨rfl,Hb4.out⟩
theorem built1 {α:Type} (w:World) (t:TypeId) (R:α→List Value→Prop) (n:Nat) (xs:List α) (fl:List Value) (hr:RepRow R xs fl) (hsz:∀x vs,R x vs→vs.length=n) (hm:xs.length≤maxLen):SliceIn (fun _=>True) n R (w.alloc (.cells fl.toArray t)) (.slice (some ⟨w.heap.size,0,none⟩) xs.length xs.length) xs :=
 SliceIn.own (own_built w 0 t n xs.length fl (Nat.zero_le _) (hr.length hsz) hm) hr hsz rfl (fun _ _=>trivial)
theorem trimB_eq (l:List UInt8):Lib.trimSuffix l [32]=Sd.trimB l:=by
 unfold Lib.trimSuffix Sd.trimB Lib.hasSuffix
 rcases List.eq_nil_or_concat l with rfl | ⟨k,c,rfl⟩
 ·
  rfl
 ·
  rw [List.concat_eq_append]
  have h1:[(32:UInt8)].isSuffixOf (k++[c])=(c == 32):=by
   rw [Bool.eq_iff_iff,List.isSuffixOf_iff_suffix,beq_iff_eq]
   constructor
   ·
    intro h
    have:=List.suffix_iff_eq_drop.1 h
    simp at this
    exact this.symm
   ·
    rintro rfl
    exact ⟨k,rfl⟩
  rw [h1]
  by_cases hc:c=32
  ·
   subst hc;simp
  ·
   simp [hc]
set_option maxRecDepth 100000 in
set_option maxHeartbeats 3200000 in
theorem macro_squeezed (s:List UInt8) (w:World) (hs:s.length≤1000000) :
  Calls Tryz.prog 207 #[.string ⟨s.toArray⟩] w fun e w'=>e = .returned (.string ⟨(Sd.sq s).toArray⟩)∧Below w.heap.size w w':=by
 obtain ⟨i0,hi,hz0,hz1,hz2⟩:=info_parts u8_info
 have Hi:=η hi;have Hz0:=η hz0;have Hz1:=η hz1;have Hz2:=η hz2;clear hi hz0 hz1 hz2
 go_enter Tryz.func207, Tryz.ntmps207
 go_wp2_with fail
 go_loopw [3,7] (fun bv iv wr=>∃k:Nat,k≤s.length∧iv = .int .i64 (k:Int)∧OwnL w.heap.size 5 1 RU8 wr bv (Sd.sqGo true (s.take k))∧Below w.heap.size w wr) (fun _ iv _=>s.length - (intOf iv).toNat)
 case atStart=>exact ⟨0,Nat.zero_le _,rfl,OwnL.nil _ _ _ _ _,Below.refl _ _⟩
 case round =>
  obtain ⟨k,hk,rfl,hO,hb⟩:=hrel
  have HO:=η hO;have Hb:=η hb
  clear hO hb
  by_cases hlt:k<s.length
  ·
   obtain ⟨x,hx⟩:∃x,s[k]? = some x:=⟨_,List.getElem?_eq_getElem hlt⟩
   have hby:=byte_at s k x hx
   have hlt':(k:Int)<(s.length:Int):=by omega
   have hkl:(k:Int)+1≤9223372036854775807:=by omega
   have hstep:=Sd.sq_step s k x hx
   have hpv:=Sd.prev_sq (s.take k)
   have hol:=Sd.sqGo_len true (s.take k)
   rw [List.length_take] at hol
   obtain ⟨out,hout⟩:∃out,Sd.sqGo true (s.take k)=out:=⟨_,rfl⟩
   rw [hout] at hstep hpv HO hol
   have hol2:out.length≤1000000:=by omega
   have Hstep:=η hstep;have Hpv:=η hpv
   clear hx hout hstep hpv hol
   obtain ⟨fl,hown,hrep⟩:=HO.out
   have Hown:=η hown;have Hrep:=η hrep
   have HSl:=η (HO.out.slice RU8.size (fun _=>True) (fun _ _=>trivial))
   obtain ⟨p,cap,rfl⟩:=HO.out.form
   clear hown hrep
   have Hkl:=η hkl;have Hlt:=η hlt
   by_cases hc:x=32
   ·
    subst hc
    by_cases hnil:out=[]
    ·
     have e1:((out.length:Int) == 0)=true:=by rw [hnil];rfl
     have hn:Sd.sqGo true (s.take (k+1))=out:=by rw [Hstep.out,if_pos ⟨rfl,Hpv.out.2 (Or.inl hnil)⟩]
     have Hn:=η hn
     clear hn hnil
     go_wp2_with fail
     go_roundw
     case rel=>exact ⟨k+1,by omega,by go_num,by rw [Hn.out];exact HO.out,Hb.out⟩
     case measure=>simp [intOf];omega
    ·
     have hpos:0<out.length:=List.length_pos_iff.2 hnil
     have e1:((out.length:Int) == 0)=false:=by rw [beq_eq_false_iff_ne];omega
     obtain ⟨q,hq⟩:∃q,out.length=q+1:=⟨out.length - 1,by omega⟩
     obtain ⟨y,hy⟩:∃y,out[q]? = some y:=⟨_,List.getElem?_eq_getElem (by omega)⟩
     have hlast:out.getLast? = some y:=by rw [List.getLast?_eq_getElem?,hq];exact hy
     obtain ⟨p',cap',hv,_,_,hat⟩:=HSl.out
     obtain ⟨b,off,vs,hpb,_,hbw,hR,hcc⟩:=hat q y hy
     have hR:vs=_:=hR
     subst hR
     injection hv with hv _ hcap
     subst hv
     subst hpb
     have e0:wr.cell? ⟨b,off+q,none⟩=some (.int .u8 (y.toNat:Int)):=by have:=hcc 0 _ rfl;rwa [Nat.mul_one,Nat.add_zero] at this
     have hw1:IntKind.i64.wrap ((out.length:Int) - 1)=(q:Int):=by rw [IntWalk.i64_in _ (by omega)];omega
     have hql:(q:Int)<(out.length:Int):=by omega
     have hyl:=y.toNat_lt
     by_cases hy32:y=32
     ·
      have e2:((y.toNat:Int) == 32)=true:=by rw [hy32];rfl
      have hn:Sd.sqGo true (s.take (k+1))=out:=by rw [Hstep.out,if_pos ⟨rfl,Hpv.out.2 (Or.inr (by rw [hlast,hy32]))⟩]
      have Hn:=η hn
      clear hn hnil hpos hq hy hlast hcc hat hy32
      go_wp2_with fail
      go_roundw
      case rel=>exact ⟨k+1,by omega,by go_num,by rw [Hn.out];exact HO.out,Hb.out⟩
      case measure=>simp [intOf];omega
     ·
      have e2:((y.toNat:Int) == 32)=false:=by rw [beq_eq_false_iff_ne];intro h;exact hy32 (UInt8.toNat_inj.1 (by show y.toNat=32;omega))
      have hn:Sd.sqGo true (s.take (k+1))=out++[32]:=by
       rw [Hstep.out,if_neg]
       rintro ⟨_,h⟩
       rcases Hpv.out.1 h with h | h
       ·
        exact hnil h
       ·
        rw [hlast] at h;exact hy32 (Option.some.inj h)
      have Hn:=η hn
      clear hn hnil hpos hq hy hlast hcc hat hy32
      go_upto_region 6 with fail
      clear hw1 hql e0 e1 e2 hyl
      go_wp2_with (at_builtin;go_loud (refine wpList_append1 rfl (.tmp 28) (.tmp 32) 189 rfl w.heap.size 5 i0 (.int .u8 0) 1 1 Tryz.underlying189 Hi.out Hz0.out Hz1.out Hz2.out rfl (by decide) _ _ _ Hown.out rfl [.int .u8 ((32:UInt8).toNat:Int)] rfl (by simp) rfl (by simp [Value.oneCell']) (by unfold maxLen;omega) (by omega) Hb.out.size ?_);intro v2 w2 own2 g2 at2)
      go_roundw
      case rel=>exact ⟨k+1,by omega,by go_num,by rw [Hn.out];exact OwnL.more Hrep.out rfl own2,Hb.out.grown g2 Hb.out.size (fun q e=>(Hown.out.lt q e).1)⟩
      case measure=>simp [intOf];omega
   ·
    have e1:((x.toNat:Int) == 32)=false:=by rw [beq_eq_false_iff_ne];intro h;exact hc (UInt8.toNat_inj.1 (by show x.toNat=32;omega))
    have hn:Sd.sqGo true (s.take (k+1))=out++[x]:=by rw [Hstep.out,if_neg (fun h=>hc h.1)]
    have Hn:=η hn
    clear hn hc
    go_wp2_with (at_builtin;go_loud (refine wpList_append1 rfl (.tmp 28) (.tmp 32) 189 rfl w.heap.size 5 i0 (.int .u8 0) 1 1 Tryz.underlying189 Hi.out Hz0.out Hz1.out Hz2.out rfl (by decide) _ _ _ Hown.out rfl [.int .u8 ((x:UInt8).toNat:Int)] rfl (by simp) rfl (by simp [Value.oneCell']) (by unfold maxLen;omega) (by omega) Hb.out.size ?_);intro v2 w2 own2 g2 at2)
    go_roundw
    case rel=>exact ⟨k+1,by omega,by go_num,by rw [Hn.out];exact OwnL.more Hrep.out rfl own2,Hb.out.grown g2 Hb.out.size (fun q e=>(Hown.out.lt q e).1)⟩
    case measure=>simp [intOf];omega
  ·
   have hlt':¬(k:Int)<(s.length:Int):=by omega
   have htk:s.take k=s:=List.take_of_length_le (by omega)
   rw [htk] at HO
   have hol:=Sd.sqGo_len true s
   obtain ⟨out,hout⟩:∃out,Sd.sqGo true s=out:=⟨_,rfl⟩
   have hsq:Sd.sq s=Sd.trimB out:=by unfold Sd.sq;rw [hout]
   rw [hout] at HO hol
   have hol2:(⟨out.toArray⟩:ByteArray).size≤9223372036854775807:=by rw [size_mk];omega
   have Hsq:=η hsq
   have HSl:=HO.out.slice RU8.size (fun _=>True) (fun _ _=>trivial)
   obtain ⟨p,cap,rfl⟩:=HO.out.form
   obtain ⟨p',cap',hv,_,_,hat⟩:=HSl
   injection hv with hv _ hcap
   subst hv
   subst hcap
   have hcv:(convert 189 9 (.slice p out.length cap)).run Tryz.prog wr = .ok (.string ⟨out.toArray⟩) wr:=by
    cases p with
    | none =>
     have h0:out=[]:=by
      rcases List.eq_nil_or_concat out with h | ⟨l,c,h⟩
      ·
       exact h
      ·
       obtain ⟨b,off,vs,hpb,_⟩:=hat l.length c (by rw [h];simp)
       cases hpb
     rw [run_convert_bytes_nil wr 189 5 Tryz.underlying189 Tryz.underlying5 _ _ 9 Tryz.underlying9, h0]
     rfl
    | some a =>
     refine run_convert_bytes_back (P:=Tryz.prog) wr 189 9 5 a cap out Tryz.underlying189 Tryz.underlying5 Tryz.underlying9 (fun j hj=>?_)
     obtain ⟨b,off,vs,hpb,_,hbw,hR,hcc⟩:=hat j _ (List.getElem?_eq_getElem hj)
     have hR:vs=_:=hR
     subst hR
     injection hpb with hpb
     subst hpb
     have:=hcc 0 _ rfl
     rw [Nat.mul_one,Nat.add_zero] at this
     rw [Addr.add_lit]
     exact this
   clear hat hol hout htk hsq hlt
   go_wp2_with (go_at_call 231; refine (Tryz.strings_TrimSuffix _ _ _ hol2).mono ?_;rintro e w1 ⟨rfl,rfl⟩)
   go_ret
   refine ⟨?_,Hb.out⟩
   rw [Hsq.out,←trimB_eq]
   rfl
end Go.Proofs.YtgnfmopcialllaaGreatDoor
