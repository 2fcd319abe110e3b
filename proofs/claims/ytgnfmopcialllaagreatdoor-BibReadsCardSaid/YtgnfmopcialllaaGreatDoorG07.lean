/- The walks of a map of files: names, places, what a file holds. The plain model of packages name and label (layers 16 and 17). Plain Lean, no program in sight. -/
import Derived.Test.YtgnfmopcialllaaGreatDoorTk
import Derived.Test.YtgnfmopcialllaaGreatDoorG06
import Derived.BigQuiet
import Derived.OrdersHeld
import Derived.Deep.RegionHeld
import Derived.Lib.Join
import Derived.Test.YtgnfmopcialllaaGreatDoorG01
import Derived.Lib.SplitLaws
import Derived.Lib.CountLaws
set_option linter.unusedSimpArgs false
set_option linter.unusedVariables false
namespace Go.Proofs.YtgnfmopcialllaaGreatDoor
open Go.RowKit
def RFl (x:List UInt8 × List UInt8) (vs:List Value):Prop:=vs=[.string ⟨x.1.toArray⟩,.string ⟨x.2.toArray⟩]
theorem RFl.size (x:List UInt8 × List UInt8) (vs:List Value) (h:RFl x vs):vs.length=2:=by rw [h];rfl
namespace Ix
def alph:List UInt8:=[97,98,99,100,101,102,103,104,105,106,107,108,109,110,111,112,113,114,115,116,117,118,119,120,121,122,48,49,50,51,52,53,54,55,56,57,45,46]
def nameB (c:UInt8):Bool:=decide (¬Lib.indexByte alph c<0)
def nameOk (s:List UInt8):Bool:=s.all nameB&&(decide (1≤s.length)&&decide (s.length≤24))
def jobOk (s:List UInt8):Bool:=nameOk s&&decide (s.length≤20)
end Ix
theorem Ix.nameB_iff (c:UInt8):Ix.nameB c=decide (¬Lib.indexByte Ix.alph c<0):=rfl
theorem std_alph (c:UInt8) (w:World):Calls Tryz.prog 58 #[.string ⟨#[97,98,99,100,101,102,103,104,105,106,107,108,109,110,111,112,113,114,115,116,117,118,119,120,121,122,48,49,50,51,52,53,54,55,56,57,45,46]⟩,.int .u8 (c.toNat:Int)] w fun e w'=>e = .returned (.int .i64 (Lib.indexByte Ix.alph c))∧w'=w:=by
 refine (Tryz.strings_IndexByte _ _ _).mono ?_
 rintro e w' ⟨rfl,rfl⟩
 refine ⟨?_,rfl⟩
 have h:((c.toNat:Int)).toNat.toUInt8=c:=by simp
 rw [h]
 rfl
set_option maxRecDepth 100000 in
set_option maxHeartbeats 1600000 in
theorem files_name (s:List UInt8) (w:World) (hs:s.length≤9223372036854775807) :
  Calls Tryz.prog 29 #[.string ⟨s.toArray⟩] w fun e w'=>e = .returned (.bool (Ix.nameOk s))∧w'=w:=by
 have Hs:=η hs;clear hs
 go_enter Tryz.func29, Tryz.ntmps29
 go_wp2_with fail
 go_loopw [3,6] (fun _ iv wr=>∃k:Nat,k≤s.length∧iv = .int .i64 (k:Int)∧(s.take k).all Ix.nameB=true∧wr=w) (fun _ iv _=>s.length - (intOf iv).toNat)
 case atStart=>exact ⟨0,Nat.zero_le _,rfl,rfl,rfl⟩
 case round =>
  obtain ⟨k,hk,rfl,ht,hw⟩:=hrel
  subst hw
  have Ht:=η ht;clear ht
  by_cases hlt:k<s.length
  ·
   obtain ⟨c,hc⟩:∃c,s[k]? = some c:=⟨_,List.getElem?_eq_getElem hlt⟩
   have hlt':(k:Int)<(s.length:Int):=by omega
   have hby:=byte_at s k c hc
   obtain ⟨v,hv⟩:∃v,Lib.indexByte Ix.alph c=v:=⟨_,rfl⟩
   have Hv:=η hv;have Hc:=η hc
   clear hv hc
   by_cases hneg:v<0
   ·
    have hr:Ix.nameOk s=false:=by
     have h1:Ix.nameB c=false:=by rw [Ix.nameB_iff,Hv.out];simp [hneg]
     have h2:s.all Ix.nameB=false:=by
      rw [List.all_eq_false]
      exact ⟨c,List.mem_of_getElem? Hc.out,by rw [h1];simp⟩
     unfold Ix.nameOk
     rw [h2];rfl
    have Hr:=η hr;clear hr
    go_wp2_with (go_at_call 58; refine (std_alph c _).mono ?_;rw [Hv.out];rintro e w' ⟨rfl,hw'⟩;have hw':=hw'.symm;subst hw')
    go_ret
    exact ⟨ret_bool Hr.out.symm,rfl⟩
   ·
    have ht2:(s.take (k+1)).all Ix.nameB=true:=by
     rw [List.take_add_one,Hc.out,List.all_append,Ht.out]
     have h1:Ix.nameB c=true:=by rw [Ix.nameB_iff,Hv.out];simp [hneg]
     simp [h1]
    have hkl:(k:Int)+1≤9223372036854775807:=by have:=Hs.out;omega
    have Ht2:=η ht2;clear ht2
    have hge:decide (v<0)=false:=decide_eq_false hneg
    clear hneg
    go_wp2_with (go_at_call 58; refine (std_alph c _).mono ?_;rw [Hv.out];rintro e w' ⟨rfl,hw'⟩;have hw':=hw'.symm;subst hw')
    go_roundw
    case rel=>exact ⟨k+1,by omega,by go_num,Ht2.out,trivial⟩
    case measure=>simp [intOf];omega
  ·
   have hlt':¬(k:Int)<(s.length:Int):=by omega
   have ha:s.all Ix.nameB=true:=by
    have h:=Ht.out
    rwa [List.take_of_length_le (by omega)] at h
   have Ha:=η ha;clear ha
   by_cases h1:1≤s.length
   ·
    by_cases h2:s.length≤24
    ·
     have g1:(1:Int)≤(s.length:Int):=by omega
     have g2:(s.length:Int)≤24:=by omega
     have Hr:=η (show Ix.nameOk s=true by unfold Ix.nameOk;rw [Ha.out];simp [h1,h2])
     go_wp2_with fail
     go_ret
     exact ⟨ret_bool Hr.out.symm,rfl⟩
    ·
     have g1:(1:Int)≤(s.length:Int):=by omega
     have g2:¬(s.length:Int)≤24:=by omega
     have Hr:=η (show Ix.nameOk s=false by unfold Ix.nameOk;simp [h2])
     go_wp2_with fail
     go_ret
     exact ⟨ret_bool Hr.out.symm,rfl⟩
   ·
    have g1:¬(1:Int)≤(s.length:Int):=by omega
    have Hr:=η (show Ix.nameOk s=false by unfold Ix.nameOk;simp [h1])
    go_wp2_with fail
    go_ret
    exact ⟨ret_bool Hr.out.symm,rfl⟩
set_option maxRecDepth 100000 in
set_option maxHeartbeats 1600000 in
theorem markup_job (s:List UInt8) (w:World) (hs:s.length≤9223372036854775807) :
  Calls Tryz.prog 13 #[.string ⟨s.toArray⟩] w fun e w'=>e = .returned (.bool (Ix.jobOk s))∧w'=w:=by
 have Hs:=η hs;clear hs
 go_enter Tryz.func13, Tryz.ntmps13
 cases hn:Ix.nameOk s with
 | false =>
  have Hn:=η hn;clear hn
  go_wp2_with (go_at_call 29; refine (files_name s _ Hs.out).mono ?_;rw [Hn.out];rintro e w' ⟨rfl,hw'⟩;have hw':=hw'.symm;subst hw')
  go_ret
  exact ⟨ret_bool (by unfold Ix.jobOk;rw [Hn.out];rfl),rfl⟩
 | true =>
  have Hn:=η hn;clear hn
  by_cases h2:s.length≤20
  ·
   have g2:(s.length:Int)≤20:=by omega
   go_wp2_with (go_at_call 29; refine (files_name s _ Hs.out).mono ?_;rw [Hn.out];rintro e w' ⟨rfl,hw'⟩;have hw':=hw'.symm;subst hw')
   go_ret
   exact ⟨ret_bool (by unfold Ix.jobOk;rw [Hn.out];simp [h2]),rfl⟩
  ·
   have g2:¬(s.length:Int)≤20:=by omega
   go_wp2_with (go_at_call 29; refine (files_name s _ Hs.out).mono ?_;rw [Hn.out];rintro e w' ⟨rfl,hw'⟩;have hw':=hw'.symm;subst hw')
   go_ret
   exact ⟨ret_bool (by unfold Ix.jobOk;rw [Hn.out];simp [h2];omega),rfl⟩
def flV (x:List UInt8 × List UInt8):Value:=.agg #[.string ⟨x.1.toArray⟩,.string ⟨x.2.toArray⟩]
theorem files_cmp (x:List UInt8 × List UInt8) (t:List UInt8) (w:World) :
  Calls Tryz.prog 167 #[flV x,.string ⟨t.toArray⟩] w fun e w'=>e = .returned (.int .i64 (Ix.cmpB x.1 t))∧Below w.heap.size w w':=by
 unfold flV
 go_enter Tryz.func167, Tryz.ntmps167
 go_wp2_with (go_at_call 75; refine (ix_compare x.1 t _).mono ?_;rintro e w' ⟨rfl,hw'⟩;have hw':=hw'.symm;subst hw')
 go_ret
 exact ⟨rfl,below_new _ _⟩
def Ix.Sorted (l:List (List UInt8 × List UInt8)):Prop:=l.Pairwise fun a b=>Ix.cmpB a.1 b.1<0
structure Ix.Low (l:List (List UInt8 × List UInt8)) (t:List UInt8) (i j:Nat):Prop where
 lo:∀k x,k<i→l[k]? = some x→Ix.cmpB x.1 t<0
 hi:∀k x,j≤k→l[k]? = some x → ¬Ix.cmpB x.1 t<0
def Ix.there (l:List (List UInt8 × List UInt8)) (t:List UInt8) (i:Nat):Bool:=match l[i]? with | some x=>Ix.cmpB x.1 t == 0 | none=>false
set_option maxRecDepth 100000 in
set_option maxHeartbeats 1600000 in
theorem files_search (l:List (List UInt8 × List UInt8)) (t:List UInt8) (v:Value) (S:Nat→Prop) (w:World) (hS:SliceIn S 2 RFl w v l) (hs:Ix.Sorted l) (hl:l.length≤1000000) :
  Calls Tryz.prog 166 #[v,.string ⟨t.toArray⟩,.func (.func 167) #[] #[]] w fun e w'=>∃i:Nat,i≤l.length∧Ix.Low l t i i∧e = .returned (.tuple #[.int .i64 (i:Int),.bool (Ix.there l t i)])∧Below w.heap.size w w':=by
 obtain ⟨pa,cap,rfl,hle,hm,hat⟩:=hS
 have Hat:=η hat;have Hs:=η hs;have Hl:=η hl
 clear hat hs hl hle hm
 have at_:∀(k:Nat) x (wr:World),l[k]? = some x→Below w.heap.size w wr → ∃b off,pa=some ⟨b,off,none⟩∧wr.cell? ⟨b,off+k*2,none⟩=some (.string ⟨x.1.toArray⟩)∧wr.cell? ⟨b,off+k*2+1,none⟩=some (.string ⟨x.2.toArray⟩):=by
  intro k x wr hx hb
  obtain ⟨b,off,vs,rfl,_,hbw,hR,hc⟩:=Hat.out k x hx
  have hR:vs=_:=hR
  subst hR
  exact ⟨b,off,rfl,(hb.cell (p:=⟨b,off+k*2,none⟩) hbw).trans (hc 0 _ rfl),(hb.cell (p:=⟨b,off+k*2+1,none⟩) hbw).trans (hc 1 _ rfl)⟩
 have At:=η at_
 clear at_
 go_enter Tryz.func166, Tryz.ntmps166
 go_wp2_with fail
 go_loopw [9,10] (fun iv jv wr=>∃i j:Nat,i≤j∧j≤l.length∧iv = .int .i64 (i:Int)∧jv = .int .i64 (j:Int)∧Ix.Low l t i j∧Below w.heap.size w wr) (fun iv jv _=>(intOf jv).toNat - (intOf iv).toNat)
 case atStart=>exact ⟨0,l.length,Nat.zero_le _,Nat.le_refl _,rfl,rfl,⟨fun k x h=>absurd h (Nat.not_lt_zero _),fun k x h hx=>by rw [List.getElem?_eq_none h] at hx;cases hx⟩,Below.refl _ _⟩
 case round =>
  obtain ⟨i,j,hij,hj,rfl,rfl,hlo,hb⟩:=hrel
  have Hlo:=η hlo;have Hb:=η hb
  clear hlo hb
  by_cases hlt:i<j
  ·
   obtain ⟨h,hh⟩:∃h,h=(i+j) / 2:=⟨_,rfl⟩
   obtain ⟨x,hx⟩:∃x,l[h]? = some x:=⟨_,List.getElem?_eq_getElem (by omega)⟩
   obtain ⟨b,off,rfl,c0,c1⟩:=At.out h x wr hx Hb.out
   have hlt':(i:Int)<(j:Int):=by omega
   have Hh:=η hh;have Hx:=η hx
   clear hh hx
   have hc:=files_cmp x t wr
   unfold flV at hc
   have Hc:=η hc;clear hc
   obtain ⟨m,hm⟩:∃m,m=i+j:=⟨_,rfl⟩
   have hjl:=Hl.out
   have hw1:wrap64 ((i:Int)+(j:Int))=(m:Int):=by unfold wrap64;omega
   have hw2:IntKind.u64.wrap (m:Int)=(m:Int):=IntWalk.u64_in _ (by omega)
   have hw3:wrap64 ((m:Int) / 2)=(h:Int):=by have:=Hh.out;unfold wrap64;omega
   have hhl:(h:Int)<(l.length:Int):=by have:=Hh.out;omega
   have hkl:(h:Int)+1≤9223372036854775807:=by have:=Hh.out;omega
   have Hm:=η hm
   clear hm hjl
   by_cases hneg:Ix.cmpB x.1 t<0
   ·
    have hlo2:∀k y,k<h+1→l[k]? = some y→Ix.cmpB y.1 t<0:=by
     intro k y hk hy
     rcases Nat.lt_or_ge k h with h1 | h1
     ·
      have h2:Ix.cmpB y.1 x.1<0:=by
       have hp:=Hs.out
       unfold Ix.Sorted at hp
       obtain ⟨hk1,hk2⟩:=List.getElem?_eq_some_iff.1 hy
       obtain ⟨hx1,hx2⟩:=List.getElem?_eq_some_iff.1 Hx.out
       have:=List.pairwise_iff_getElem.1 hp k h hk1 hx1 h1
       rwa [hk2,hx2] at this
      exact Ix.cmpB_trans _ _ _ h2 hneg
     ·
      have hkh:k=h:=by omega
      subst hkh
      rw [Hx.out] at hy
      cases hy
      exact hneg
    have Hlo2:=η hlo2;clear hlo2
    go_wp2_with fail
    refine Hc.out.mono ?_
    rintro e w' ⟨rfl,hb'⟩
    have Hb':=η hb';clear hb'
    go_wp2_with fail
    go_roundw
    case rel=>exact ⟨h+1,j,by have:=Hh.out;omega,hj,by go_num,rfl,⟨Hlo2.out,Hlo.out.hi⟩,Hb.out.trans (Hb'.out.mono Hb.out.size)⟩
    case measure=>have:=Hh.out;simp [intOf];omega
   ·
    have hge:decide (Ix.cmpB x.1 t<0)=false:=decide_eq_false hneg
    have Hneg:=η hneg
    clear hneg
    have hhi2:∀k y,h≤k→l[k]? = some y → ¬Ix.cmpB y.1 t<0:=by
     intro k y hk hy hlt3
     rcases Nat.lt_or_ge h k with h1 | h1
     ·
      have h2:Ix.cmpB x.1 y.1<0:=by
       have hp:=Hs.out
       unfold Ix.Sorted at hp
       obtain ⟨hk1,hk2⟩:=List.getElem?_eq_some_iff.1 hy
       obtain ⟨hx1,hx2⟩:=List.getElem?_eq_some_iff.1 Hx.out
       have:=List.pairwise_iff_getElem.1 hp h k hx1 hk1 h1
       rwa [hk2,hx2] at this
      exact Hneg.out (Ix.cmpB_trans _ _ _ h2 hlt3)
     ·
      have hkh:k=h:=by omega
      subst hkh
      rw [Hx.out] at hy
      cases hy
      exact Hneg.out hlt3
    have Hhi2:=η hhi2;clear hhi2
    go_wp2_with fail
    refine Hc.out.mono ?_
    rintro e w' ⟨rfl,hb'⟩
    have Hb':=η hb';clear hb'
    go_wp2_with fail
    go_roundw
    case rel=>exact ⟨i,h,by have:=Hh.out;omega,by have:=Hh.out;omega,rfl,rfl,⟨Hlo.out.lo,fun k x h1 h2=>by have:=Hhi2.out k x h1 h2;omega⟩,Hb.out.trans (Hb'.out.mono Hb.out.size)⟩
    case measure=>have:=Hh.out;simp [intOf];omega
  ·
   have hij':i=j:=by omega
   subst hij'
   have hlt':¬(i:Int)<(i:Int):=by omega
   rcases Nat.lt_or_ge i l.length with hil | hil
   ·
    obtain ⟨x,hx⟩:∃x,l[i]? = some x:=⟨_,List.getElem?_eq_getElem hil⟩
    obtain ⟨b,off,rfl,c0,c1⟩:=At.out i x wr hx Hb.out
    have hil':(i:Int)<(l.length:Int):=by omega
    have hc:=files_cmp x t wr
    unfold flV at hc
    have Hc:=η hc;clear hc
    have Hx:=η hx;clear hx
    go_wp2_with fail
    refine Hc.out.mono ?_
    rintro e w' ⟨rfl,hb'⟩
    have Hb':=η hb';clear hb'
    go_wp2_with fail
    go_ret2
    refine ⟨i,by omega,Hlo.out,?_,Hb.out.trans (Hb'.out.mono Hb.out.size)⟩
    unfold Ix.there
    rw [Hx.out]
    simp
   ·
    have hil':¬(i:Int)<(l.length:Int):=by omega
    go_wp2_with fail
    go_ret2
    refine ⟨i,by omega,Hlo.out,?_,Hb.out⟩
    unfold Ix.there
    rw [List.getElem?_eq_none hil]
    simp
theorem files_place (l:List (List UInt8 × List UInt8)) (t:List UInt8) (v:Value) (S:Nat→Prop) (w:World) (hS:SliceIn S 2 RFl w v l) (hs:Ix.Sorted l) (hl:l.length≤1000000) :
  Calls Tryz.prog 111 #[v,.string ⟨t.toArray⟩] w fun e w'=>∃i:Nat,i≤l.length∧Ix.Low l t i i∧e = .returned (.tuple #[.int .i64 (i:Int),.bool (Ix.there l t i)])∧Below w.heap.size w w':=by
 have Hc:=η (files_search l t v S w hS hs hl)
 clear hS
 go_enter Tryz.func111, Tryz.ntmps111
 go_wp2_with fail
 refine Hc.out.mono ?_
 rintro e w' ⟨i,hi,hlo,rfl,hb⟩
 have Hlo:=η hlo;have Hb:=η hb
 clear hlo hb
 go_wp2_with fail
 go_ret2
 exact ⟨i,hi,Hlo.out,by simp,Hb.out⟩
def Ix.get (l:List (List UInt8 × List UInt8)) (t:List UInt8):Option (List UInt8):=(l.find? fun x=>x.1 == t).map (·.2)
theorem Ix.get_of {l:List (List UInt8 × List UInt8)} (hs:Ix.Sorted l) {x:List UInt8 × List UInt8} (hx:x ∈ l):Ix.get l x.1=some x.2:=by
 unfold Ix.get
 cases hf:l.find? (fun y=>y.1 == x.1) with
 | none =>
  have:=List.find?_eq_none.1 hf x hx
  simp at this
 | some y =>
  have h1:=List.find?_some hf
  have h2:=List.mem_of_find?_eq_some hf
  have h1:y.1=x.1:=by simpa using h1
  obtain ⟨i,hi,hxi⟩:=List.getElem_of_mem hx
  obtain ⟨j,hj,hyj⟩:=List.getElem_of_mem h2
  have hp:=List.pairwise_iff_getElem.1 hs
  rcases Nat.lt_trichotomy i j with h | h | h
  ·
   have:=hp i j hi hj h
   rw [hxi,hyj,h1,Ix.cmpB_refl] at this
   omega
  ·
   subst h
   rw [hxi] at hyj
   rw [hyj];rfl
  ·
   have:=hp j i hj hi h
   rw [hxi,hyj,h1,Ix.cmpB_refl] at this
   omega
theorem Ix.get_there {l:List (List UInt8 × List UInt8)} {t:List UInt8} {i:Nat} (hs:Ix.Sorted l) (hl:Ix.Low l t i i):(Ix.there l t i=true → ∃x,l[i]? = some x∧Ix.get l t=some x.2)∧(Ix.there l t i=false→Ix.get l t=none):=by
 constructor
 ·
  intro h
  unfold Ix.there at h
  cases hx:l[i]? with
  | none=>rw [hx] at h;cases h
  | some x =>
   rw [hx] at h
   have h:Ix.cmpB x.1 t=0:=by simpa using h
   have h:=Ix.cmpB_eq0 _ _ h
   exact ⟨x,rfl,by rw [←h];exact Ix.get_of hs (List.mem_of_getElem? hx)⟩
 ·
  intro h
  unfold Ix.get
  cases hf:l.find? (fun y=>y.1 == t) with
  | none=>rfl
  | some y =>
   exfalso
   have h1:=List.find?_some hf
   have h1:y.1=t:=by simpa using h1
   obtain ⟨j,hj,hyj⟩:=List.getElem_of_mem (List.mem_of_find?_eq_some hf)
   have hyj':l[j]? = some y:=by rw [List.getElem?_eq_getElem hj,hyj]
   rcases Nat.lt_or_ge j i with hji | hji
   ·
    have:=hl.lo j y hji hyj'
    rw [h1,Ix.cmpB_refl] at this
    omega
   ·
    rcases Nat.eq_or_lt_of_le hji with he | hlt
    ·
     subst he
     unfold Ix.there at h
     rw [hyj'] at h
     simp only [h1,Ix.cmpB_refl] at h
     simp at h
    ·
     have hx:∃x,l[i]? = some x:=⟨_,List.getElem?_eq_getElem (by omega)⟩
     obtain ⟨x,hx⟩:=hx
     have h2:=hl.hi i x (Nat.le_refl _) hx
     obtain ⟨hi1,hi2⟩:=List.getElem?_eq_some_iff.1 hx
     have:=List.pairwise_iff_getElem.1 hs i j hi1 hj hlt
     rw [hi2,hyj,h1] at this
     exact h2 this
set_option maxRecDepth 100000 in
set_option maxHeartbeats 1600000 in
theorem files_get (l:List (List UInt8 × List UInt8)) (t:List UInt8) (v:Value) (S:Nat→Prop) (w:World) (hS:SliceIn S 2 RFl w v l) (hs:Ix.Sorted l) (hl:l.length≤1000000) :
  Calls Tryz.prog 60 #[v,.string ⟨t.toArray⟩] w fun e w'=>e = .returned (.tuple #[.string ⟨((Ix.get l t).getD []).toArray⟩,.bool (Ix.get l t).isSome])∧Below w.heap.size w w':=by
 have Hc:=η (files_place l t v S w hS hs hl)
 have Hs:=η hs
 obtain ⟨pa,cap,rfl,hle,hm,hat⟩:=hS
 have Hat:=η hat
 clear hat hle hm hs
 go_enter Tryz.func60, Tryz.ntmps60
 go_wp2_with fail
 refine Hc.out.mono ?_
 rintro e w' ⟨i,hi,hlo,rfl,hb⟩
 have hg:=Ix.get_there Hs.out hlo
 have Hb:=η hb
 clear hlo hb
 cases ht:Ix.there l t i with
 | false =>
  have Hg:=η (hg.2 ht);clear hg ht
  go_wp2_with fail
  go_ret2
  exact ⟨by rw [Hg.out];simp,Hb.out⟩
 | true =>
  obtain ⟨x,hx,hg⟩:=hg.1 ht
  have Hg:=η hg;clear hg ht
  obtain ⟨b,off,vs,rfl,_,hbw,hR,hc⟩:=Hat.out i x hx
  have hR:vs=_:=hR
  subst hR
  have c1:w'.cell? ⟨b,off+i*2+1,none⟩=some (.string ⟨x.2.toArray⟩):=(Hb.out.cell (p:=⟨b,off+i*2+1,none⟩) hbw).trans (hc 1 _ rfl)
  have hil:(i:Int)<(l.length:Int):=by
   obtain ⟨h1,_⟩:=List.getElem?_eq_some_iff.1 hx
   omega
  clear hc hx
  go_wp2_with fail
  go_ret2
  exact ⟨by rw [Hg.out];simp,Hb.out⟩
end Go.Proofs.YtgnfmopcialllaaGreatDoor
set_option linter.unusedSimpArgs false
set_option linter.unusedVariables false
namespace Go.Proofs.YtgnfmopcialllaaGreatDoor.Lb
open Ent
def blank (c:UInt8):Bool:=c == 32 || c == 9 || c == 10
def pieces (p:UInt8→Bool):List UInt8→List UInt8→List (List UInt8)
 | cur,[]=>[cur]
 | cur,c::r=>if p c then cur::pieces p [] r else pieces p (cur++[c]) r
def full (l:List (List UInt8)):List (List UInt8):=l.filter fun w=>!w.isEmpty
def words (s:List UInt8):List (List UInt8):=full (pieces blank [] s)
def join (l:List (List UInt8)):List UInt8:=Lib.join l [32]
def andW:List UInt8:=[97,110,100]
def splitN:List (List UInt8)→List (List UInt8)→List (List UInt8)
 | cur,[]=>if cur.isEmpty then [] else [join cur]
 | cur,w::r=>if w == andW then (if cur.isEmpty then splitN [] r else join cur::splitN [] r) else splitN (cur++[w]) r
def split (s:List UInt8):List (List UInt8):=splitN [] (words s)
structure Per where
 first:List UInt8
 von:List UInt8
 last:List UInt8
 jr:List UInt8
def smallW (w:List UInt8):Bool:=match w with | []=>false | c::_=>decide (97≤c.toNat)&&decide (c.toNat≤122)
def lastGo (l:List (List UInt8)):Nat→Nat
 | 0=>0
 | k+1=>if smallW (l.getD k []) then k+1 else lastGo l k
def lastN (l:List (List UInt8)):Nat:=lastGo l (l.length - 1)
def commas (s:List UInt8):List (List UInt8):=pieces (fun c=>c == 44) [] s
def parse (s:List UInt8):Per :=
 let l:=words ((commas s).getD 0 [])
 if 1<(commas s).length then
  if 2<(commas s).length then ⟨join (words ((commas s).getD 2 [])),join (l.take (lastN l)),join (l.drop (lastN l)),join (words ((commas s).getD 1 []))⟩
  else ⟨join (words ((commas s).getD 1 [])),join (l.take (lastN l)),join (l.drop (lastN l)),[]⟩
 else if l.isEmpty then ⟨[],[],[],[]⟩
 else if lastN l=0 then ⟨join (l.take (l.length - 1)),[],l.getD (l.length - 1) [],[]⟩
 else ⟨join (l.take (l.findIdx smallW)),join ((l.take (lastN l)).drop (l.findIdx smallW)),join (l.drop (lastN l)),[]⟩
def whole (l:List (List UInt8)):List UInt8:=join (full l)
def short (p:Per):List UInt8:=whole [join ((words p.first).map fun w=>w.take 1++[46]),p.von,p.last,p.jr]
def pkey (p:Per):List UInt8:=small (join (words (p.last++[32]++p.first++[32]++p.von++[32]++p.jr)))
def plabel (l:List Per):List UInt8 :=
 match l with
 | [p]=>p.last.take 3
 | _=>if 4<l.length then ((l.take 3).map fun p=>p.last.take 1).flatten++[43] else (l.map fun p=>p.last.take 1).flatten
def authorW:List UInt8:=[97,117,116,104,111,114]
def yearW:List UInt8:=[121,101,97,114]
def titleW:List UInt8:=[116,105,116,108,101]
def crossW:List UInt8:=[99,114,111,115,115,114,101,102]
def field (x:Ent) (n:List UInt8):List UInt8:=(get x.fields n).1
def authors (x:Ent):List Per:=(split (field x authorW)).map parse
def ordK (x:Ent):List (List UInt8):=[((authors x).map pkey).headD [],field x yearW,small (field x titleW),x.key]
def cmpB (a b:List UInt8):Int:=Lib.compareBytes a b
def cmpL:List (List UInt8)→List (List UInt8)→Int
 | a::r,b::q=>if cmpB a b=0 then cmpL r q else cmpB a b
 | _,_=>0
def cmp (x y:Ent):Int:=cmpL (ordK x) (ordK y)
def insertR (x:Ent):List Ent→List Ent
 | []=>[x]
 | y::r=>if cmp x y<0 then y::insertR x r else x::y::r
def sortR:List Ent→List Ent→List Ent
 | acc,[]=>acc
 | acc,x::r=>sortR (insertR x acc) r
def order (l:List Ent):List Ent:=(sortR [] l).reverse
def findE (l:List Ent) (key:List UInt8):Option Ent:=l.find? fun x=>x.key == key
def addF (own:List Fld):List Fld→List Fld→List Fld
 | acc,[]=>acc
 | acc,f::r=>addF own (if (get own f.name).2 then acc else acc++[f]) r
def wholeN (l:List Ent):Nat→List UInt8→List (List UInt8)→List Fld→Option (List Fld) × Int
 | 0,_,_,_=>(none,15)
 | n+1,key,seen,fs =>
  match findE l key with
  | none=>(none,14)
  | some x =>
   let fs:=addF fs fs x.fields
   if (get x.fields crossW).2=false then (some fs,0)
   else if (seen++[key]).contains (get x.fields crossW).1 then (none,15)
   else wholeN l n (get x.fields crossW).1 (seen++[key]) fs
def wholeE (l:List Ent) (key:List UInt8):Option Ent × Int :=
 match wholeN l (l.length+1) key [] [] with
 | (some fs,e)=>((findE l key).map fun x=>⟨x.kind,x.key,fs⟩,e)
 | (none,e)=>(none,e)
def pickN (l:List Ent):List (List UInt8)→List (List UInt8)→List Ent × List (Int × List UInt8)
 | _,[]=>([],[])
 | seen,k::r =>
  if seen.contains k then pickN l (seen++[k]) r
  else match wholeE l k with
   | (some x,_)=>let o:=pickN l (seen++[k]) r;(x::o.1,o.2)
   | (none,e)=>let o:=pickN l (seen++[k]) r;(o.1,(e,k)::o.2)
def pick (l:List Ent) (ks:List (List UInt8)):List Ent × List (Int × List UInt8):=pickN l [] ks
def dots (l:List (List UInt8)):List UInt8:=join ((full l).map fun w=>w++[46])
def textOf (x:Ent):List UInt8:=dots [Lib.join ((authors x).map short) [44,32],field x titleW,field x yearW]
def letters (x:Ent):List UInt8:=plabel (authors x)++(field x yearW).drop ((field x yearW).length - 2)
structure Cited where
 ent:Ent
 label:List UInt8
 text:List UInt8
end Go.Proofs.YtgnfmopcialllaaGreatDoor.Lb
