/- The walks of package side (layer 10), third part: keys. The walks of package side (layer 10), fourth part: keys, none twice. -/
import Derived.Test.YtgnfmopcialllaaGreatDoorTk
import Derived.Test.YtgnfmopcialllaaGreatDoorG24
import Derived.Test.YtgnfmopcialllaaGreatDoorG05
set_option linter.unusedSimpArgs false
set_option linter.unusedVariables false
namespace Go.Proofs.YtgnfmopcialllaaGreatDoor
open Go.RowKit
theorem ints1 (w:World) (a:Int):SliceIn (fun _=>True) 1 RInt (w.alloc (.cells #[.int .i64 a] 3)) (.slice (some ⟨w.heap.size,0,none⟩) 1 1) [a] :=
 built1 w 3 RInt 1 [a] [.int .i64 a] ⟨[.int .i64 a],[],rfl,rfl,rfl⟩ RInt.size (by unfold maxLen;simp)
theorem ints2 (w:World) (a b:Int):SliceIn (fun _=>True) 1 RInt (w.alloc (.cells #[.int .i64 a,.int .i64 b] 3)) (.slice (some ⟨w.heap.size,0,none⟩) 2 2) [a,b] :=
 built1 w 3 RInt 1 [a,b] [.int .i64 a,.int .i64 b] ⟨[.int .i64 a],[.int .i64 b],rfl,rfl,[.int .i64 b],[],rfl,rfl,rfl⟩ RInt.size (by unfold maxLen;simp)
theorem std_join1 (s:List UInt8) (b o c:Nat) (w:World) (h:w.cell? ⟨b,o,none⟩=some (.string ⟨s.toArray⟩)) (hb:b<w.heap.size) (hc:1≤c) (hs:s.length≤1000000) :
  Calls Tryz.prog 80 #[.slice (some ⟨b,o,none⟩) 1 c,.string ⟨#[32]⟩] w fun e w'=>e = .returned (.string ⟨s.toArray⟩)∧Below w.heap.size w w':=by
 have hj:Lib.join ([(⟨s.toArray⟩:ByteArray)].map (·.data.toList)) (⟨#[32]⟩:ByteArray).data.toList=s:=Lib.join_one s _
 have h1:=Tryz.strings_Join b o c [(⟨s.toArray⟩:ByteArray)] ⟨#[32]⟩ w (fun j x hx=>by
  cases j with
  | zero=>simp at hx;subst hx;exact h
  | succ j=>simp at hx) hb (by simp) (by simpa using hc) (by rw [hj];omega)
 rw [hj] at h1
 exact h1
set_option maxRecDepth 100000 in
set_option maxHeartbeats 3200000 in
theorem macro_flat1 (s:List UInt8) (w:World) (b:Nat) (c0:w.cell? ⟨b,0,none⟩=some (.int .i64 1)) (c1:w.cell? ⟨b,1,none⟩=some (.string ⟨s.toArray⟩)) (hs:s.length≤1000000) :
  Calls Tryz.prog 164 #[.slice (some ⟨b,0,none⟩) 1 1] w fun e w'=>e = .returned (.string ⟨(Sd.sq s).toArray⟩)∧Below w.heap.size w w':=by
 obtain ⟨i0,hi,hz0,hz1,hz2⟩:=info_parts str_info
 have Hi:=η hi;have Hz0:=η hz0;have Hz1:=η hz1;have Hz2:=η hz2;clear hi hz0 hz1 hz2
 go_enter Tryz.func164, Tryz.ntmps164
 go_upto_region 4 with fail
 refine wp_loop_rounds 2 ?_
 rw [rounds_succ]
 go_upto_region 6 with fail
 have he6:∀(i:Nat) (u:Value),#[Value.int .i64 1,.string ⟨s.toArray⟩][i]? = some u→(w.alloc (.cells #[.int .i64 1,.string ⟨s.toArray⟩] 253)).cell? ⟨w.heap.size,i,none⟩=some u:=by
  intro i u hu
  rw [cell_of_row _ _ _ _ _ _ (heap_alloc_new w _)]
  exact hu
 have hb4:=below_new w (.cells #[.int .i64 1,.string ⟨s.toArray⟩] 253)
 have hz4:=lt_alloc w (.cells #[.int .i64 1,.string ⟨s.toArray⟩] 253)
 generalize w.alloc (.cells #[.int .i64 1,.string ⟨s.toArray⟩] 253)=w4 at he6 hb4 hz4 ⊢
 have e60:=he6 0 _ rfl;have e61:=he6 1 _ rfl
 have Hb4:=η hb4
 clear he6 hb4 c0 c1
 go_upto_region 8 with (go_at_call 206; refine (macro_of [2,3] _ 1 s false (fun _=>True) _ (ints2 w4 2 3) (by decide)).mono ?_;rintro e w5 ⟨rfl,hb5⟩)
 have hb45:Below w4.heap.size w4 w5:=(below_new w4 _).trans (hb5.mono (Nat.le_of_lt (lt_alloc w4 _)))
 have e60:=(hb45.cell (p:=⟨w.heap.size,0,none⟩) hz4).trans e60
 have e61:=(hb45.cell (p:=⟨w.heap.size,1,none⟩) hz4).trans e61
 have hz5:w.heap.size<w5.heap.size:=Nat.lt_of_lt_of_le hz4 hb45.size
 have Hb5:=η (Hb4.out.trans (hb45.mono Hb4.out.size))
 clear hb45 hb5 hz4 Hb4
 go_upto_region 10 with (go_at_call 206; refine (macro_of [1] _ 1 s true (fun _=>True) _ (ints1 w5 1) (by decide)).mono ?_;rintro e w6 ⟨rfl,hb6⟩)
 have hb56:Below w5.heap.size w5 w6:=(below_new w5 _).trans (hb6.mono (Nat.le_of_lt (lt_alloc w5 _)))
 have e60:=(hb56.cell (p:=⟨w.heap.size,0,none⟩) hz5).trans e60
 have e61:=(hb56.cell (p:=⟨w.heap.size,1,none⟩) hz5).trans e61
 have hz6:w.heap.size<w6.heap.size:=Nat.lt_of_lt_of_le hz5 hb56.size
 have Hb6:=η (Hb5.out.trans (hb56.mono Hb5.out.size))
 clear hb56 hb6 hz5 Hb5
 go_upto_region 11 with (go_at_call 206; refine (macro_of [1] _ 1 s true (fun _=>True) _ (ints1 w6 1) (by decide)).mono ?_;rintro e w7 ⟨rfl,hb7⟩)
 have hb67:Below w6.heap.size w6 w7:=(below_new w6 _).trans (hb7.mono (Nat.le_of_lt (lt_alloc w6 _)))
 have e60:=(hb67.cell (p:=⟨w.heap.size,0,none⟩) hz6).trans e60
 have e61:=(hb67.cell (p:=⟨w.heap.size,1,none⟩) hz6).trans e61
 have hz7:w.heap.size<w7.heap.size:=Nat.lt_of_lt_of_le hz6 hb67.size
 have Hb7:=η (Hb6.out.trans (hb67.mono Hb6.out.size))
 clear hb67 hb7 hz6 Hb6
 have hown:w7.ownsRow w.heap.size 9 1 (.slice none 0 0) 0 []:=⟨by simp,.inl ⟨rfl,rfl⟩⟩
 have Hown:=η hown
 clear hown
 go_upto_region 12 with (at_builtin;go_loud (refine wpList_append1 rfl (.tmp 38) (.tmp 41) 24 rfl w.heap.size 9 i0 (.string ⟨#[]⟩) 1 16 Tryz.underlying24 Hi.out Hz0.out Hz1.out Hz2.out rfl (by decide) _ _ _ Hown.out rfl [.string ⟨s.toArray⟩] rfl (by simp) rfl (by simp [Value.oneCell']) (by unfold maxLen;omega) (by omega) Hb7.out.size ?_);intro v2 w2 own2 g2 at2)
 have hb2:=η (Hb7.out.grown g2 Hb7.out.size (fun q e=>(Hown.out.lt q e).1))
 have hO:OwnL w.heap.size 9 1 RStr w2 v2 [s]:=⟨_,own2,[.string ⟨s.toArray⟩],[],rfl,rfl,rfl⟩
 obtain ⟨p,cap,hv,hle,hm,hat⟩:=hO.slice RStr.size (fun _=>True) (fun _ _=>trivial)
 obtain ⟨b3,off3,vs,rfl,_,hbw,hR,hcc⟩:=hat 0 s rfl
 have hR:vs=_:=hR
 subst hR
 subst hv
 have e3:w2.cell? ⟨b3,off3,none⟩=some (.string ⟨s.toArray⟩):=by have:=hcc 0 _ rfl;simpa using this
 have E3:=η e3;have Hle:=η hle;have Hbw:=η hbw
 clear e60 e61 hz7 Hown hO own2 g2 at2 hat hcc e3 hle hm hbw
 go_upto_region 4 with fail
 rw [rounds_succ]
 go_wp2_with (first
  | (go_at_call 80; refine (std_join1 s b3 off3 cap _ E3.out Hbw.out Hle.out hs).mono ?_;rintro e w8 ⟨rfl,hb8⟩;have Hb8:=η (hb2.out.trans (hb8.mono hb2.out.size));clear hb8)
  | (go_at_call 207; refine (macro_squeezed s _ hs).mono ?_;rintro e w9 ⟨rfl,hb9⟩;have Hb9:=η (Hb8.out.trans (hb9.mono Hb8.out.size));clear hb9))
 go_ret
 exact ⟨rfl,Hb9.out⟩
set_option maxRecDepth 100000 in
set_option maxHeartbeats 1600000 in
theorem side_key (s:List UInt8) (w:World) (hs:s.length≤1000000) :
  Calls Tryz.prog 108 #[.string ⟨s.toArray⟩] w fun e w'=>e = .returned (.bool (Sd.key s))∧Below w.heap.size w w':=by
 have hk:Sd.key s=(s != []&&decide (s.length≤60)&&Sd.sq s == s):=rfl
 by_cases h0:s=[]
 ·
  subst h0
  go_enter Tryz.func108, Tryz.ntmps108
  go_wp2_with fail
  go_ret
  exact ⟨rfl,Below.refl _ _⟩
 ·
  have hne:(s != [])=true:=by simpa using h0
  rw [hne] at hk
  by_cases h60:s.length≤60
  ·
   rw [decide_eq_true h60] at hk
   have h60':(s.length:Int)≤60:=by omega
   have Hk:=η hk
   clear hk
   have hb4:=below_new w (.cells #[.int .i64 1,.string ⟨s.toArray⟩] 253)
   have c0:(w.alloc (.cells #[.int .i64 1,.string ⟨s.toArray⟩] 253)).cell? ⟨w.heap.size,0,none⟩=some (.int .i64 1):=by rw [cell_of_row _ _ _ _ _ _ (heap_alloc_new w _)];rfl
   have c1:(w.alloc (.cells #[.int .i64 1,.string ⟨s.toArray⟩] 253)).cell? ⟨w.heap.size,1,none⟩=some (.string ⟨s.toArray⟩):=by rw [cell_of_row _ _ _ _ _ _ (heap_alloc_new w _)];rfl
   have Hb4:=η hb4;have C0:=η c0;have C1:=η c1
   obtain ⟨u,hu⟩:∃u,Sd.sq s=u:=⟨_,rfl⟩
   rw [hu] at Hk
   have Hu:=η hu
   clear hb4 c0 c1 hu
   cases hq:(u == s)
   ·
    rw [hq] at Hk
    have hqn:u≠s:=fun h=>by rw [h] at hq;simp at hq
    go_enter Tryz.func108, Tryz.ntmps108
    go_wp2_with (go_at_call 164; refine (macro_flat1 s _ w.heap.size C0.out C1.out hs).mono ?_;rw [Hu.out];rintro e w1 ⟨rfl,hb⟩;have Hb1:=η (Hb4.out.trans (hb.mono Hb4.out.size));clear hb)
    go_ret
    exact ⟨ret_bool (by rw [Hk.out];rfl),Hb1.out⟩
   ·
    rw [hq] at Hk
    obtain rfl:=(eq_of_beq hq)
    clear hq
    go_enter Tryz.func108, Tryz.ntmps108
    go_wp2_with (go_at_call 164; refine (macro_flat1 u _ w.heap.size C0.out C1.out hs).mono ?_;rw [Hu.out];rintro e w1 ⟨rfl,hb⟩;have Hb1:=η (Hb4.out.trans (hb.mono Hb4.out.size));clear hb)
    go_ret
    refine ⟨ret_bool ?_,Hb1.out⟩
    rw [Hk.out]
    cases u with
    | nil=>exact absurd rfl h0
    | cons c r=>rfl
  ·
   rw [decide_eq_false h60] at hk
   have h60':¬(s.length:Int)≤60:=by omega
   have Hk:=η hk
   clear hk
   go_enter Tryz.func108, Tryz.ntmps108
   go_wp2_with fail
   go_ret
   exact ⟨ret_bool (by rw [Hk.out];rfl),Below.refl _ _⟩
end Go.Proofs.YtgnfmopcialllaaGreatDoor
set_option linter.unusedSimpArgs false
set_option linter.unusedVariables false
namespace Go.Proofs.YtgnfmopcialllaaGreatDoor
open Go.RowKit
set_option maxRecDepth 100000 in
set_option maxHeartbeats 3200000 in
theorem side_keys (l:List (List UInt8)) (v:Value) (S:Nat→Prop) (w:World) (hS:SliceIn S 1 RStr w v l) (hl:l.length≤1000000) (hs:∀s ∈ l,s.length≤1000000) :
  Calls Tryz.prog 107 #[v] w fun e w'=>e = .returned (.bool (Sd.keys l))∧Below w.heap.size w w':=by
 have hmm:=@run_makeMap Tryz.prog
 obtain ⟨p,cap,rfl,hle,hm,hat⟩:=hS
 have Hat:=η hat;have Hs:=η hs;clear hat hm hle hs
 have hi0:=IMap.made w
 have Hi0:=η hi0;clear hi0
 go_enter Tryz.func107, Tryz.ntmps107
 go_wp2_with fail
 clear hmm
 go_loopw [9] (fun i wr=>∃(k:Nat) (f:List UInt8→Int),k≤l.length∧i = .int .i64 (k:Int)∧Sd.keys l=Sd.keysN (l.take k) (l.drop k)∧Below w.heap.size w wr∧IMap wr w.heap.size k f∧w.heap.size<wr.heap.size∧(∀key,0≤f key∧f key≤k∧(((l.take k).any fun g=>g == key)=true ↔ 0<f key))) (fun i _=>l.length - (intOf i).toNat)
 case atStart=>exact ⟨0,fun _=>0,Nat.zero_le _,rfl,rfl,below_new w _,Hi0.out,lt_alloc _ _,fun key=>⟨by simp,by simp,by simp⟩⟩
 case round =>
  clear Hi0
  obtain ⟨k,f,hk,rfl,hr,hb,hi,hsz,hf⟩:=hrel
  have Hr:=η hr;have Hb:=η hb;have Hi:=η hi;have Hf:=η hf
  clear hr hb hi hf
  by_cases hlt:k<l.length
  ·
   obtain ⟨x,hx⟩:∃x,l[k]? = some x:=⟨_,List.getElem?_eq_getElem hlt⟩
   obtain ⟨b,off,vs,rfl,_,hbw,hR,hc⟩:=Hat.out k x hx
   have hR:vs=_:=hR
   subst hR
   have e0:wr.cell? ⟨b,off+k,none⟩=some (.string ⟨x.toArray⟩):=by
    have:=(Hb.out.cell (p:=⟨b,off+(k*1+0),none⟩) hbw).trans (hc 0 _ rfl)
    rwa [Nat.mul_one,Nat.add_zero] at this
   have hlt':(k:Int)<(l.length:Int):=by omega
   have hxl:=Hs.out x (List.mem_of_getElem? hx)
   have hxk:x.length≤maxLen:=by unfold maxLen;omega
   have hfk:=Hf.out x
   have hw1:IntKind.i64.wrap (f x+1)=f x+1:=IntWalk.i64_in _ (by omega)
   have hkm:k<maxLen:=by unfold maxLen;omega
   have hfb:-9223372036854775808≤f x+1∧f x+1≤9223372036854775807:=by omega
   have hdrop:l.drop k=x::l.drop (k+1):=by
    obtain ⟨h1,h2⟩:=List.getElem?_eq_some_iff.1 hx
    rw [List.drop_eq_getElem_cons h1,h2]
   have hr2:Sd.keys l=(Sd.key x && !((l.take k).any fun g=>g == x)&&Sd.keysN (l.take (k+1)) (l.drop (k+1))):=by
    rw [Hr.out,hdrop,Sd.keysN,List.take_add_one,hx];rfl
   have hany:∀key,((l.take (k+1)).any fun g=>g == key)=(((l.take k).any fun g=>g == key) || x == key):=by
    intro key
    rw [List.take_add_one,hx];simp
   have Hr2:=η hr2;have Hany:=η hany;have Hxk:=η hxk;have Hfk:=η hfk;have Hkm:=η hkm;have Hfb:=η hfb;have Hlt:=η hlt;have Hxl:=η hxl
   clear hc hx hxk hfk hkm hfb hdrop hr2 hany Hr hxl
   go_upto_region 6 with (first
    | (at_lookup;go_loud (refine wpList_imap_look rfl (.tmp 13) (.tmp 14) rfl w.heap.size k f rfl Hi.out x rfl Hxk.out ?_))
    | (at_mapUpdate;go_loud (refine wpList_imap_store rfl (.tmp 13) (.tmp 14) (.tmp 16) rfl w.heap.size k f rfl Hi.out x rfl Hxk.out Hkm.out (f x+1) rfl Hfb.out ?_);intro w6 hm6 hg6;have Hm6:=η hm6;have Hg6:=η hg6;clear hm6 hg6))
   obtain ⟨c,hc⟩:∃c,c=f x+1:=⟨_,rfl⟩
   have Hc:=η hc
   have Hb6:=η (Hb.out.grown Hg6.out (by omega) (fun j e=>by injection e with e;omega))
   have hz6:w.heap.size<w6.heap.size:=Nat.lt_of_lt_of_le hsz Hg6.out.size
   have hd:decide ((1:Int)<c)=((l.take k).any fun g=>g == x):=by
    have h1:=Hfk.out
    rw [hc]
    cases h2:((l.take k).any fun g=>g == x)
    ·
     have:¬0<f x:=fun h=>by have:=h1.2.2.2 h;rw [h2] at this;cases this
     simp;omega
    ·
     have:0<f x:=h1.2.2.1 h2
     simp;omega
   obtain ⟨dup,hdup⟩:∃dup,((l.take k).any fun g=>g == x)=dup:=⟨_,rfl⟩
   rw [hdup] at hd Hr2
   have Hdup:=η hdup;have Hd:=η hd
   obtain ⟨ky,hky⟩:∃ky,Sd.key x=ky:=⟨_,rfl⟩
   rw [hky] at Hr2
   have Hky:=η hky
   clear hc hd hdup hky e0 hw1 Hb Hi Hg6
   simp only [Act.put]
   cases ky
   ·
    have Hr3:=η (show Sd.keys l=false by rw [Hr2.out];rfl)
    go_wp2_with (go_at_call 108; refine (side_key x _ Hxl.out).mono ?_;rw [Hky.out];rintro e w7 ⟨rfl,hb7⟩;have Hb7:=η (Hb6.out.trans (hb7.mono Hb6.out.size));clear hb7)
    go_ret
    exact ⟨ret_bool Hr3.out.symm,Hb7.out⟩
   ·
    have hrun:∀w7,Below w6.heap.size w6 w7→(Instr.lookup 102 (.map (some w.heap.size)) (.string ⟨x.toArray⟩) false).run Tryz.prog w7 = .ok (.int .i64 c) w7:=fun w7 h7=>(Hm6.out.below h7).run x Hxk.out c (by rw [if_pos rfl,Hc.out])
    have Hrun:=η hrun
    clear hrun
    cases dup
    ·
     have hdc:decide ((1:Int)<c)=false:=Hd.out
     have Hr3:=η (show Sd.keys l=Sd.keysN (l.take (k+1)) (l.drop (k+1)) by rw [Hr2.out];rfl)
     have hkl:(k:Int)+1≤9223372036854775807:=by omega
     have Hkl:=η hkl;have Hz6:=η hz6
     clear hkl hlt' hz6 hsz
     go_upto_region 8 with (go_at_call 108; refine (side_key x _ Hxl.out).mono ?_;rw [Hky.out];rintro e w7 ⟨rfl,hb7⟩;have Hb7:=η (Hb6.out.trans (hb7.mono Hb6.out.size));have hr7:=Hrun.out _ hb7;have Hm7:=η (Hm6.out.below hb7);have Hz7:=η (Nat.lt_of_lt_of_le Hz6.out hb7.size);clear hb7)
     have hkl:=Hkl.out;have hz7:=Hz7.out;have hlt:=Hlt.out
     clear hr7
     go_wp2_with fail
     go_roundw
     case rel =>
      refine ⟨k+1,_,by omega,by go_num,Hr3.out,Hb7.out,Hm7.out,by omega,fun key=>?_⟩
      have hg0:=Hf.out key
      have hfn:f x=0:=by
       have h1:=Hfk.out
       have h2:=Hdup.out
       have:¬0<f x:=fun h=>by have:=h1.2.2.2 h;rw [h2] at this;cases this
       omega
      rw [Hany.out]
      by_cases hk:key=x
      ·
       subst hk
       simp [hfn];omega
      ·
       have hne:(x == key)=false:=by simp;exact fun e=>hk e.symm
       rw [hne,Bool.or_false,if_neg hk]
       exact ⟨hg0.1,by have:=hg0.2.1;omega,hg0.2.2⟩
     case measure=>simp [intOf];omega
    ·
     have hdc:(1:Int)<c:=of_decide_eq_true Hd.out
     have Hr3:=η (show Sd.keys l=false by rw [Hr2.out];rfl)
     go_wp2_with (go_at_call 108; refine (side_key x _ Hxl.out).mono ?_;rw [Hky.out];rintro e w7 ⟨rfl,hb7⟩;have Hb7:=η (Hb6.out.trans (hb7.mono Hb6.out.size));have hr7:=Hrun.out _ hb7;clear hb7)
     go_ret
     exact ⟨ret_bool Hr3.out.symm,Hb7.out⟩
  ·
   have hlt':¬(k:Int)<(l.length:Int):=by omega
   go_wp2_with fail
   go_ret
   refine ⟨ret_bool ?_,Hb.out⟩
   have h:=Hr.out
   rw [List.drop_of_length_le (by omega)] at h
   rw [h];rfl
end Go.Proofs.YtgnfmopcialllaaGreatDoor
