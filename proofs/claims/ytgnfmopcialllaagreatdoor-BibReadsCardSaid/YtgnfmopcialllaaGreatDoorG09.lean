/- name.Words: what stands between blanks. The walks of package name, third part: join, the last small word, Split. errors.As at the target *api.Errno over a *wire.wrong: the first link is another type, the second one hits. After the kit's worked example. -/
import Derived.Test.YtgnfmopcialllaaGreatDoorTk
import Derived.Test.YtgnfmopcialllaaGreatDoorG08
import Derived.Lib.OthersKept
import Derived.Test.YtgnfmopcialllaaGreatDoorChecked
import Derived.Test.YtgnfmopcialllaaGreatDoorShelf
import Derived.Test.YtgnfmopcialllaaGreatDoorG06
import Derived.WalkKit
import Derived.LaidEql
import Derived.Stop.Asserts
import Derived.RowKitTokens
set_option linter.unusedSimpArgs false
set_option linter.unusedVariables false
namespace Go.Proofs.YtgnfmopcialllaaGreatDoor
open Go.RowKit Go.Lib
theorem pieces_adv (p:UInt8→Bool) (cur s:List UInt8) (i:Nat) (x:UInt8) (hx:s[i]? = some x) (hp:p x=false):Lb.pieces p cur (s.drop i)=Lb.pieces p (cur++[x]) (s.drop (i+1)):=by
 obtain ⟨h1,h2⟩:=List.getElem?_eq_some_iff.1 hx
 rw [List.drop_eq_getElem_cons h1,h2]
 simp [Lb.pieces,hp]
theorem pieces_hit (p:UInt8→Bool) (cur s:List UInt8) (i:Nat) (x:UInt8) (hx:s[i]? = some x) (hp:p x=true):Lb.pieces p cur (s.drop i)=cur::Lb.pieces p [] (s.drop (i+1)):=by
 obtain ⟨h1,h2⟩:=List.getElem?_eq_some_iff.1 hx
 rw [List.drop_eq_getElem_cons h1,h2]
 simp [Lb.pieces,hp]
theorem cur_succ (s:List UInt8) (a i:Nat) (x:UInt8) (h:a≤i) (hx:s[i]? = some x):(s.drop a).take (i+1 - a)=(s.drop a).take (i - a)++[x]:=by
 rw [Nat.succ_sub h,List.take_add_one,List.getElem?_drop,show a+(i - a)=i by omega,hx]
 rfl
theorem pieces_advs (p:UInt8→Bool) (s:List UInt8) (a i:Nat) (h:a≤i):∀n,i+n≤s.length→(∀j y,i≤j→j<i+n→s[j]? = some y→p y=false) →
  Lb.pieces p ((s.drop a).take (i - a)) (s.drop i)=Lb.pieces p ((s.drop a).take (i+n - a)) (s.drop (i+n))
 | 0,_,_=>rfl
 | n+1,hl,hn=>by
  rw [pieces_advs p s a i h n (by omega) (fun j y h1 h2=>hn j y h1 (by omega))]
  have hx:s[i+n]? = some (s[i+n]'(by omega)):=List.getElem?_eq_getElem (by omega)
  rw [pieces_adv p _ s (i+n) _ hx (hn _ _ (by omega) (by omega) hx),←cur_succ s a (i+n) _ (by omega) hx]
  rfl
theorem own_iter {base e size n k pos:Nat} {W:World} {v:Value} {xs:List Value} (h:W.ownsRow base e size v n xs) (hk:k<base) (s:ByteArray):(W.iterAt k s pos).ownsRow base e size v n xs:=by
 refine ⟨h.1,?_⟩
 rcases h.2 with h2 | ⟨g,cap,cur,h2,h3,h4,h5⟩
 ·
  exact .inl h2
 ·
  exact .inr ⟨g,cap,cur,h2,h3,by rw [iterAt_other W k g s pos (by omega)];exact h4,h5⟩
theorem blank_wide (y:UInt8) (h:128≤y.toNat):Lb.blank y=false:=by
 unfold Lb.blank
 have h1:(y == 32)=false:=by rw [beq_eq_false_iff_ne];rintro rfl;simp at h
 have h2:(y == 9)=false:=by rw [beq_eq_false_iff_ne];rintro rfl;simp at h
 have h3:(y == 10)=false:=by rw [beq_eq_false_iff_ne];rintro rfl;simp at h
 rw [h1,h2,h3];rfl
theorem blank_cases (x:UInt8):(Lb.blank x=true∧(x=32∨x=9∨x=10))∨(Lb.blank x=false∧((x.toNat:Int) == 32)=false∧((x.toNat:Int) == 9)=false∧((x.toNat:Int) == 10)=false):=by
 by_cases h1:x=32
 ·
  exact .inl ⟨by rw [h1];rfl,.inl h1⟩
 ·
  by_cases h2:x=9
  ·
   exact .inl ⟨by rw [h2];rfl,.inr (.inl h2)⟩
  ·
   by_cases h3:x=10
   ·
    exact .inl ⟨by rw [h3];rfl,.inr (.inr h3)⟩
   ·
    right
    have g:∀c:UInt8,x≠c→((x.toNat:Int) == (c.toNat:Int))=false:=fun c hc=>by rw [u8_beq,beq_eq_false_iff_ne];exact hc
    refine ⟨?_,g 32 h1,g 9 h2,g 10 h3⟩
    unfold Lb.blank
    rw [beq_eq_false_iff_ne.2 h1,beq_eq_false_iff_ne.2 h2,beq_eq_false_iff_ne.2 h3];rfl
set_option maxRecDepth 100000 in
set_option maxHeartbeats 3200000 in
theorem nm_Words (s:List UInt8) (w:World) (hs:s.length≤1000000) :
  Calls Tryz.prog 138 #[.string ⟨s.toArray⟩] w fun e w'=>(∃g cap,e = .returned (.slice (some ⟨g,0,none⟩) (Lb.words s).length cap)∧0<cap∧SliceIn (fun j=>w.heap.size≤j) 1 RStr w' (.slice (some ⟨g,0,none⟩) (Lb.words s).length cap) (Lb.words s))∧Below w.heap.size w w':=by
 obtain ⟨i0,hi,hz0,hz1,hz2⟩:=info_parts str_info
 have Hi:=η hi;have Hz0:=η hz0;have Hz1:=η hz1;have Hz2:=η hz2;clear hi hz0 hz1 hz2
 have hsz:(⟨s.toArray⟩:ByteArray).size=s.length:=by show s.toArray.size=_;simp
 have HszS:=η hsz
 clear hsz
 go_enter Tryz.func138, Tryz.ntmps138
 go_wp2_with fail
 go_loopw [3,4] (fun ov fv wr=>∃(i a:Nat) (out:List (List UInt8)),a≤i∧i≤s.length∧fv = .int .i64 (a:Int)∧OwnL (w.heap.size+1) 9 1 RStr wr ov out∧wr.heap[w.heap.size]? = some (.stringIter ⟨s.toArray⟩ i)∧Below w.heap.size w wr∧out.length≤a∧out++Lb.pieces Lb.blank ((s.drop a).take (i - a)) (s.drop i)=Lb.pieces Lb.blank [] s) (fun _ _ wr=>s.length - wr.iterPos w.heap.size)
 case atStart=>exact ⟨0,0,[],Nat.le_refl _,Nat.zero_le _,rfl,OwnL.nil _ _ _ _ _,World.iter_heap w _ _,below_new w _,Nat.le_refl _,rfl⟩
 case round =>
  obtain ⟨i,a,out,hai,hi,rfl,hO,hk,hb,hol,hP⟩:=hrel
  have hlt:w.heap.size<wr.heap.size:=by
   rcases Nat.lt_or_ge w.heap.size wr.heap.size with h | h
   ·
    exact h
   ·
    rw [Array.getElem?_eq_none h] at hk;cases hk
  have hpos:wr.iterPos w.heap.size=i:=by unfold World.iterPos;rw [hk]
  have HP:=η hP;have Hb:=η hb;have Hk:=η hk;have Hpos:=η hpos;have HO:=η hO
  clear hP hb hk hpos hO
  have hai':(a:Int)≤(i:Int):=by omega
  have hil':(i:Int)≤(s.length:Int):=by omega
  have hex:(⟨s.toArray⟩:ByteArray).extract a i=⟨((s.drop a).take (i - a)).toArray⟩:=extract_any s a i
  by_cases hil:i<s.length
  ·
   obtain ⟨x,hx⟩:∃x,s[i]? = some x:=⟨_,List.getElem?_eq_getElem hil⟩
   by_cases ha:x.toNat<128
   ·
    have he:(⟨s.toArray⟩:ByteArray)[i]'(by rw [HszS.out];exact hil)=x:=by
     obtain ⟨_,e⟩:=List.getElem?_eq_some_iff.1 hx
     exact e
    have hnx:=fun ty=>run_next_ascii_at (P:=Tryz.prog) wr w.heap.size ⟨s.toArray⟩ i ty Hk.out (by rw [HszS.out];exact hil) (by rw [he];exact ha)
    rw [he] at hnx
    have hb2:=below_iterAt Hb.out (k:=w.heap.size) (Nat.le_refl _) ⟨s.toArray⟩ (i+1)
    have hk2:=iterAt_heap wr w.heap.size ⟨s.toArray⟩ i (i+1) Hk.out
    have hz2:=iterAt_size wr w.heap.size ⟨s.toArray⟩ (i+1)
    obtain ⟨fl,hown,hrep⟩:=HO.out
    have hown2:=own_iter (pos:=i+1) hown (Nat.lt_succ_self _) ⟨s.toArray⟩
    have Hb2:=η hb2;have Hk2:=η hk2;have Hx:=η hx;have Hz:=η hz2;have Hown:=η hown2;have Hrep:=η hrep
    clear hb2 hk2 hx he hown hown2 hrep hz2
    obtain ⟨i1,hi1⟩:∃i1,i1=i+1:=⟨_,rfl⟩
    have hwi:IntKind.i64.wrap ((i:Int)+1)=(i1:Int):=by rw [IntWalk.i64_in _ (by omega)];omega
    rw [←hi1] at Hb2 Hk2 Hz Hown hnx
    have Hi1:=η hi1
    clear hi1
    rcases blank_cases x with ⟨hbl,hx3⟩ | ⟨hbl,q1,q2,q3⟩
    ·
     have hst:=pieces_hit Lb.blank ((s.drop a).take (i - a)) s i x Hx.out hbl
     have Hst:=η hst;have Hbl:=η hbl
     clear hst hbl
     have Hlt:=η hlt;have Hai:=η hai;have Hil:=η hil;have Hol:=η hol;have Hii:=η hi
     have hn47:(out.length+1)*16≤140737488355328:=by omega
     have hnm:out.length+1≤9223372036854775807:=by omega
     have Hsz:w.heap.size+1≤(wr.iterAt w.heap.size ⟨s.toArray⟩ i1).heap.size:=by rw [Hz.out];exact hlt
     generalize wr.iterAt w.heap.size ⟨s.toArray⟩ i1=wq at *
     have HSZ:=η Hsz;have Hn47:=η hn47;have Hnm:=η hnm
     clear hlt hai hil hol hi Hsz hn47 hnm
     rcases hx3 with rfl | rfl | rfl
     ·
      have HK9:w.heap.size<wq.heap.size:=HSZ.out
      have HK9:=η HK9
      go_wp2_with (at_builtin;go_loud (refine wpList_append1 rfl (.tmp 23) (.tmp 28) 24 rfl (w.heap.size+1) 9 i0 (.string ⟨#[]⟩) 1 16 Tryz.underlying24 Hi.out Hz0.out Hz1.out Hz2.out rfl (by decide) _ _ _ Hown.out rfl [.string ⟨((s.drop a).take (i - a)).toArray⟩] rfl (by simp) rfl (by simp [Value.oneCell']) Hnm.out Hn47.out HSZ.out ?_);intro v2 w2 own2 g2 at2)
      go_roundw
      case rel=>exact ⟨i1,i1,out++[(s.drop a).take (i - a)],Nat.le_refl _,by have:=Hil.out;have:=Hi1.out;omega,by go_num,OwnL.more Hrep.out rfl own2,((g2.block _ HK9.out (fun e=>by have:=(Hown.out.lt _ e.symm).1;omega)).trans Hk2.out),Hb2.out.grown g2 Hb2.out.size (fun q e=>Nat.le_of_succ_le (Hown.out.lt q e).1),by have:=Hol.out;have:=Hai.out;have:=Hi1.out;simp;omega,by rw [Nat.sub_self,List.take_zero,List.append_assoc,List.singleton_append,←HP.out,Hst.out,Hi1.out]⟩
      case measure =>
       have h3:w2.iterPos w.heap.size=i1:=by unfold World.iterPos;rw [(g2.block _ HK9.out (fun e=>by have:=(Hown.out.lt _ e.symm).1;omega)).trans Hk2.out]
       have:=Hi1.out;have:=Hil.out
       rw [h3,Hpos.out];omega
     ·
      have HK9:w.heap.size<wq.heap.size:=HSZ.out
      have HK9:=η HK9
      go_wp2_with (at_builtin;go_loud (refine wpList_append1 rfl (.tmp 23) (.tmp 28) 24 rfl (w.heap.size+1) 9 i0 (.string ⟨#[]⟩) 1 16 Tryz.underlying24 Hi.out Hz0.out Hz1.out Hz2.out rfl (by decide) _ _ _ Hown.out rfl [.string ⟨((s.drop a).take (i - a)).toArray⟩] rfl (by simp) rfl (by simp [Value.oneCell']) Hnm.out Hn47.out HSZ.out ?_);intro v2 w2 own2 g2 at2)
      go_roundw
      case rel=>exact ⟨i1,i1,out++[(s.drop a).take (i - a)],Nat.le_refl _,by have:=Hil.out;have:=Hi1.out;omega,by go_num,OwnL.more Hrep.out rfl own2,((g2.block _ HK9.out (fun e=>by have:=(Hown.out.lt _ e.symm).1;omega)).trans Hk2.out),Hb2.out.grown g2 Hb2.out.size (fun q e=>Nat.le_of_succ_le (Hown.out.lt q e).1),by have:=Hol.out;have:=Hai.out;have:=Hi1.out;simp;omega,by rw [Nat.sub_self,List.take_zero,List.append_assoc,List.singleton_append,←HP.out,Hst.out,Hi1.out]⟩
      case measure =>
       have h3:w2.iterPos w.heap.size=i1:=by unfold World.iterPos;rw [(g2.block _ HK9.out (fun e=>by have:=(Hown.out.lt _ e.symm).1;omega)).trans Hk2.out]
       have:=Hi1.out;have:=Hil.out
       rw [h3,Hpos.out];omega
     ·
      have HK9:w.heap.size<wq.heap.size:=HSZ.out
      have HK9:=η HK9
      go_wp2_with (at_builtin;go_loud (refine wpList_append1 rfl (.tmp 23) (.tmp 28) 24 rfl (w.heap.size+1) 9 i0 (.string ⟨#[]⟩) 1 16 Tryz.underlying24 Hi.out Hz0.out Hz1.out Hz2.out rfl (by decide) _ _ _ Hown.out rfl [.string ⟨((s.drop a).take (i - a)).toArray⟩] rfl (by simp) rfl (by simp [Value.oneCell']) Hnm.out Hn47.out HSZ.out ?_);intro v2 w2 own2 g2 at2)
      go_roundw
      case rel=>exact ⟨i1,i1,out++[(s.drop a).take (i - a)],Nat.le_refl _,by have:=Hil.out;have:=Hi1.out;omega,by go_num,OwnL.more Hrep.out rfl own2,((g2.block _ HK9.out (fun e=>by have:=(Hown.out.lt _ e.symm).1;omega)).trans Hk2.out),Hb2.out.grown g2 Hb2.out.size (fun q e=>Nat.le_of_succ_le (Hown.out.lt q e).1),by have:=Hol.out;have:=Hai.out;have:=Hi1.out;simp;omega,by rw [Nat.sub_self,List.take_zero,List.append_assoc,List.singleton_append,←HP.out,Hst.out,Hi1.out]⟩
      case measure =>
       have h3:w2.iterPos w.heap.size=i1:=by unfold World.iterPos;rw [(g2.block _ HK9.out (fun e=>by have:=(Hown.out.lt _ e.symm).1;omega)).trans Hk2.out]
       have:=Hi1.out;have:=Hil.out
       rw [h3,Hpos.out];omega
    ·
     have hst:Lb.pieces Lb.blank ((s.drop a).take (i - a)) (s.drop i)=Lb.pieces Lb.blank ((s.drop a).take (i1 - a)) (s.drop i1):=by
      rw [pieces_adv Lb.blank _ s i x Hx.out hbl,Hi1.out,cur_succ s a i x hai Hx.out]
     have Hst:=η hst
     clear hst hbl
     have Hlt:=η hlt;have Hai:=η hai;have Hil:=η hil;have Hol:=η hol;have Hii:=η hi
     clear hlt hai hil hol hi
     go_wp2_with fail
     go_roundw
     case rel=>exact ⟨i1,a,out,by have:=Hai.out;have:=Hi1.out;omega,by have:=Hil.out;have:=Hi1.out;omega,rfl,⟨fl,Hown.out,Hrep.out⟩,Hk2.out,Hb2.out,Hol.out,by rw [←Hst.out];exact HP.out⟩
     case measure =>
      have h3:(wr.iterAt w.heap.size ⟨s.toArray⟩ i1).iterPos w.heap.size=i1:=by unfold World.iterPos;rw [Hk2.out]
      have:=Hi1.out;have:=Hil.out
      rw [h3,Hpos.out];omega
   ·
    obtain ⟨r,n,hd,r1,r2,r3,n1,n2,n3⟩:=decode_wide s i x hx (by omega)
    have hnx:=fun ty=>run_next_any_at (P:=Tryz.prog) wr w.heap.size ⟨s.toArray⟩ i ty Hk.out (by rw [HszS.out];exact hil)
    rw [hd] at hnx
    dsimp only at hnx
    have hb2:=below_iterAt Hb.out (k:=w.heap.size) (Nat.le_refl _) ⟨s.toArray⟩ (i+n)
    have hk2:=iterAt_heap wr w.heap.size ⟨s.toArray⟩ i (i+n) Hk.out
    obtain ⟨fl,hown,hrep⟩:=HO.out
    have hown2:=own_iter (pos:=i+n) hown (Nat.lt_succ_self _) ⟨s.toArray⟩
    have hst:=pieces_advs Lb.blank s a i hai n n2 (fun j y h1 h2 h3=>blank_wide y (n3 j y h1 h2 h3))
    have q1:((r:Int) == 32)=false:=by rw [beq_eq_false_iff_ne];omega
    have q2:((r:Int) == 9)=false:=by rw [beq_eq_false_iff_ne];omega
    have q3:((r:Int) == 10)=false:=by rw [beq_eq_false_iff_ne];omega
    have Hb2:=η hb2;have Hk2:=η hk2;have Hown:=η hown2;have Hrep:=η hrep;have Hst:=η hst
    have Hai:=η hai;have Hn1:=η n1;have Hn2:=η n2;have Hol:=η hol;have Hii:=η hi
    clear hb2 hk2 hx hown hown2 hrep hst n1 n2 n3 r1 r2 r3 hd hlt hai hil hol hi ha
    go_wp2_with fail
    go_roundw
    case rel=>exact ⟨i+n,a,out,by have:=Hai.out;omega,Hn2.out,rfl,⟨fl,Hown.out,Hrep.out⟩,Hk2.out,Hb2.out,Hol.out,by rw [←Hst.out];exact HP.out⟩
    case measure =>
     have h3:(wr.iterAt w.heap.size ⟨s.toArray⟩ (i+n)).iterPos w.heap.size=i+n:=by unfold World.iterPos;rw [Hk2.out]
     have:=Hn1.out;have:=Hn2.out
     rw [h3,Hpos.out];omega
  ·
   have hnx:=fun ty=>run_next_end_at (P:=Tryz.prog) wr w.heap.size ⟨s.toArray⟩ i ty Hk.out (by rw [HszS.out];exact hil)
   obtain rfl:i=s.length:=by omega
   obtain ⟨fl,hown,hrep⟩:=HO.out
   have Hown:=η hown
   have hfin:out++[s.drop a]=Lb.pieces Lb.blank [] s:=by
    have h:=HP.out
    rw [List.drop_length,List.take_of_length_le (by rw [List.length_drop];exact Nat.le_refl _)] at h
    exact h
   have hex2:=extract_end s a
   have Hsz:w.heap.size+1≤wr.heap.size:=hlt
   have HSZ:=η Hsz;have Hfin:=η hfin;have Hrep:=η hrep
   have hn47:(out.length+1)*16≤140737488355328:=by omega
   have hnm:out.length+1≤9223372036854775807:=by omega
   have Hn47:=η hn47;have Hnm:=η hnm
   clear hex hown hfin hrep Hsz hn47 hnm hlt hol hi hai
   go_upto_region 10 with (at_builtin;go_loud (refine wpList_append1 rfl (.tmp 32) (.tmp 36) 24 rfl (w.heap.size+1) 9 i0 (.string ⟨#[]⟩) 1 16 Tryz.underlying24 Hi.out Hz0.out Hz1.out Hz2.out rfl (by decide) _ _ _ Hown.out rfl [.string ⟨(s.drop a).toArray⟩] rfl (by simp) rfl (by simp [Value.oneCell']) Hnm.out Hn47.out HSZ.out ?_);intro v2 w2 own2 g2 at2)
   have HO2:OwnL (w.heap.size+1) 9 1 RStr w2 v2 (out++[s.drop a]):=OwnL.more Hrep.out rfl own2
   rw [Hfin.out] at HO2
   obtain ⟨p2,cap2,hv2,hp2,hq2⟩:=own2.form (Nat.succ_pos _)
   subst hv2
   have hb3:=Hb.out.grown g2 Hb.out.size (fun q e=>Nat.le_of_succ_le (Hown.out.lt q e).1)
   have HB3:=η hb3;have HO3:=η HO2
   have hlen3:out.length+1=(Lb.pieces Lb.blank [] s).length:=by rw [←Hfin.out];simp
   have Hlen3:=η hlen3
   clear HO2 hb3 own2 g2 at2 hp2 hq2 hlen3
   go_wp2_with (go_at_call 185; refine (nm_del_words1 _ _ _ _ _ _ HO3.out Hlen3.out).mono ?_;rintro e w9 ⟨⟨v9,rfl,hv9,hS9⟩,hb9⟩;have Hv9:=η hv9;clear hv9;have HS9:=η hS9;have Hb9:=η hb9;clear hS9 hb9)
   go_ret
   have hv9:=Hv9.out
   subst hv9
   have hcp:0<cap2:=by
    obtain ⟨p3,c3,e3,h3,_⟩:=HO3.out.slice RStr.size (fun _=>True) (fun _ _=>trivial)
    simp only [Value.slice.injEq] at e3
    have:=Lb.pieces_pos Lb.blank s []
    omega
   exact ⟨⟨_,_,rfl,hcp,HS9.out.kept (fun _ h=>by omega) (Nat.le_refl _) (fun _ _ _=>rfl) (fun _ _ _ h=>h)⟩,HB3.out.trans (Hb9.out.mono (Nat.le_succ _))⟩
end Go.Proofs.YtgnfmopcialllaaGreatDoor
set_option linter.unusedSimpArgs false
set_option linter.unusedVariables false
namespace Go.Proofs.YtgnfmopcialllaaGreatDoor
open Go.RowKit
theorem nm_Join (sep:List UInt8) (l:List (List UInt8)) (v:Value) (S:Nat→Prop) (w:World) (hS:SliceIn S 1 RStr w v l) (hl:Lb.tot l≤8000000) (hsp:sep.length≤2) :
  Calls Tryz.prog 80 #[v,.string ⟨sep.toArray⟩] w fun e w'=>e = .returned (.string ⟨(Lib.join l sep).toArray⟩)∧Below w.heap.size w w':=by
 have hjl:=Lb.joinS_le l sep
 have hln:=Lb.len_tot l
 obtain ⟨p,cap,rfl,hle,hm,hat⟩:=hS
 cases l with
 | nil =>
  refine (Tryz.strings_Join_none p cap _ _).mono ?_
  rintro e w1 ⟨rfl,hw⟩
  exact ⟨rfl,by rw [hw];exact Below.refl _ _⟩
 | cons x0 r =>
  obtain ⟨b,off,vs0,rfl,_,hbw,_,_⟩:=hat 0 x0 rfl
  have hmap:((x0::r).map fun s=>(⟨s.toArray⟩:ByteArray)).map (·.data.toList)=x0::r:=by
   rw [List.map_map]
   conv=>rhs;rw [←List.map_id (x0::r)]
   exact List.map_congr_left (fun _ _=>by simp)
  have hsd:(⟨sep.toArray⟩:ByteArray).data.toList=sep:=by simp
  have hsq:Lb.tot (x0::r)*(sep.length+1)≤8000000*3:=Nat.mul_le_mul hl (by omega)
  have h1:=Tryz.strings_Join b off cap ((x0::r).map fun s=>(⟨s.toArray⟩:ByteArray)) ⟨sep.toArray⟩ w (fun j x hx=>by
   rw [List.getElem?_map] at hx
   cases hs:(x0::r)[j]? with
   | none=>rw [hs] at hx;cases hx
   | some s =>
    rw [hs] at hx
    obtain rfl:=Option.some.inj hx
    obtain ⟨b',off',vs,he,_,_,hR,hc⟩:=hat j s hs
    simp only [Option.some.injEq,Addr.mk.injEq,and_true] at he
    obtain ⟨rfl,rfl⟩:=he
    have hR:vs=_:=hR
    subst hR
    have:=hc 0 _ rfl
    rwa [Nat.mul_one,Nat.add_zero] at this) hbw (by rw [List.length_map];omega) (by rw [List.length_map];exact hle) (by rw [hmap,hsd];omega)
  rw [hmap,hsd] at h1
  simp only [List.length_map] at h1
  exact h1
theorem nm_join (l:List (List UInt8)) (v:Value) (S:Nat→Prop) (w:World) (hS:SliceIn S 1 RStr w v l) (hl:Lb.tot l≤8000000) :
  Calls Tryz.prog 140 #[v] w fun e w'=>e = .returned (.string ⟨(Lb.join l).toArray⟩)∧Below w.heap.size w w':=by
 have HS:=η hS
 clear hS
 go_enter Tryz.func140, Tryz.ntmps140
 go_wp2_with (go_at_call 80; refine (nm_Join [32] l v S _ HS.out hl (by decide)).mono ?_;rintro e w1 ⟨rfl,hb⟩;have Hb:=η hb;clear hb)
 go_ret
 exact ⟨rfl,Hb.out⟩
set_option maxRecDepth 100000 in
set_option maxHeartbeats 1600000 in
theorem nm_Index (l:List (List UInt8)) (y:List UInt8) (v:Value) (S:Nat→Prop) (w:World) (hS:SliceIn S 1 RStr w v l) :
  Calls Tryz.prog 110 #[v,.string ⟨y.toArray⟩] w fun e w'=>e = .returned (.int .i64 (ixP (fun s=>s == y) l))∧w=w':=by
 have hlm:=hS.bound
 obtain ⟨pa,cap,rfl,hle,hm,hat⟩:=hS
 have Hat:=η hat
 clear hat hm hle
 go_enter Tryz.func110, Tryz.ntmps110
 go_wp2_with fail
 go_loopw [8] (fun iv wr=>∃k:Nat,k≤l.length∧iv = .int .i64 (k:Int)∧(l.take k).any (fun s=>s == y)=false∧wr=w) (fun iv _=>l.length - (intOf iv).toNat)
 case atStart=>exact ⟨0,Nat.zero_le _,rfl,rfl,rfl⟩
 case round =>
  obtain ⟨k,hk,rfl,hany,rfl⟩:=hrel
  have Hany:=η hany;clear hany
  by_cases hlt:k<l.length
  ·
   obtain ⟨x,hx⟩:∃x,l[k]? = some x:=⟨_,List.getElem?_eq_getElem hlt⟩
   obtain ⟨b,off,vs,rfl,_,hbw,hR,hc⟩:=Hat.out k x hx
   have hR:vs=_:=hR
   subst hR
   have e0:wr.cell? ⟨b,off+k,none⟩=some (.string ⟨x.toArray⟩):=by
    have:=hc 0 _ rfl
    rwa [Nat.mul_one,Nat.add_zero] at this
   have hlt':(k:Int)<(l.length:Int):=by omega
   obtain ⟨k1,hk1⟩:∃k1,k1=k+1:=⟨_,rfl⟩
   have hwk:IntKind.i64.wrap ((k:Int)+1)=(k1:Int):=by rw [IntWalk.i64_in _ (by omega)];omega
   have Hx:=η hx;have Hlt:=η hlt;have Hk1:=η hk1
   clear hc hx hlt hk hk1
   by_cases hxy:x=y
   ·
    have Hxy:=η hxy
    have Hr:=η (ixP_hit (fun s=>s == y) l k x Hx.out Hany.out (by simp [hxy]))
    have hyx:y=x:=hxy.symm
    clear hxy
    subst hyx
    go_wp2_with fail
    go_ret
    exact ⟨ret_int Hr.out.symm,rfl⟩
   ·
    have hyx:(y == x)=false:=beq_eq_false_iff_ne.2 fun e=>hxy e.symm
    have Hxy:=η hxy
    clear hxy
    go_wp2_with fail
    go_roundw
    case rel=>exact ⟨k1,by have:=Hlt.out;have:=Hk1.out;omega,rfl,by rw [Hk1.out];exact any_take _ _ _ _ Hx.out Hany.out (by simpa using Hxy.out),trivial⟩
    case measure=>have:=Hlt.out;have:=Hk1.out;simp [intOf];omega
  ·
   have hlt':¬(k:Int)<(l.length:Int):=by omega
   have Hr:=η (ixP_miss (fun s=>s == y) l (by have:=Hany.out;rwa [List.take_of_length_le (by omega)] at this))
   clear hlt hk
   go_wp2_with fail
   go_ret
   exact ⟨ret_int Hr.out.symm,rfl⟩
set_option maxRecDepth 100000 in
set_option maxHeartbeats 1600000 in
theorem nm_last (l:List (List UInt8)) (v:Value) (S:Nat→Prop) (w:World) (hS:SliceIn S 1 RStr w v l) (hne:∀x ∈ l,x≠[]) :
  Calls Tryz.prog 182 #[v] w fun e w'=>e = .returned (.int .i64 (Lb.lastN l:Int))∧w=w':=by
 have hlm:=hS.bound
 obtain ⟨pa,cap,rfl,hle,hm,hat⟩:=hS
 have Hat:=η hat;have Hne:=η hne
 clear hat hm hle hne
 obtain ⟨z,hz⟩:∃z:Int,z=(l.length:Int) - 2:=⟨_,rfl⟩
 have hw1:IntKind.i64.wrap ((l.length:Int) - 2)=z:=by rw [IntWalk.i64_in _ (by omega)];omega
 have Hz:=η hz
 clear hz
 go_enter Tryz.func182, Tryz.ntmps182
 go_wp2_with fail
 clear hw1
 go_loopw [3] (fun iv wr=>∃k:Nat,k≤l.length - 1∧(iv = .int .i64 ((k:Int) - 1)∨(k=0∧iv = .int .i64 (-2)))∧Lb.lastN l=Lb.lastGo l k∧wr=w) (fun iv _=>(intOf iv+2).toNat)
 case atStart =>
  cases l with
  | nil=>exact ⟨0,Nat.le_refl _,.inr ⟨rfl,by rw [Hz.out];rfl⟩,rfl,rfl⟩
  | cons x r=>exact ⟨r.length,by simp,.inl (by rw [Hz.out];congr 1;simp;omega),rfl,rfl⟩
 case round =>
  obtain ⟨k,hk,hiv,hlast,rfl⟩:=hrel
  have Hlast:=η hlast;clear hlast
  cases k with
  | zero =>
   obtain ⟨q,hq,hq0⟩:∃q:Int,u3 = .int .i64 q∧¬(q ≥ 0):=by
    rcases hiv with rfl | ⟨_,rfl⟩
    ·
     exact ⟨_,rfl,by omega⟩
    ·
     exact ⟨_,rfl,by omega⟩
   subst hq
   clear hiv hk
   have hq1:¬(0:Int)≤q:=by omega
   go_wp2_with fail
   go_ret
   exact ⟨ret_int (by rw [Hlast.out];rfl),rfl⟩
  | succ k =>
   obtain rfl:u3 = .int .i64 (k:Int):=by
    rcases hiv with rfl | ⟨h,_⟩
    ·
     congr 1;omega
    ·
     cases h
   have hlt:k<l.length:=by omega
   obtain ⟨x,hx⟩:∃x,l[k]? = some x:=⟨_,List.getElem?_eq_getElem hlt⟩
   have hgd:l.getD k []=x:=by rw [List.getD_eq_getElem?_getD,hx];rfl
   obtain ⟨b,off,vs,rfl,_,hbw,hR,hc⟩:=Hat.out k x hx
   have hR:vs=_:=hR
   subst hR
   have e0:wr.cell? ⟨b,off+k,none⟩=some (.string ⟨x.toArray⟩):=by
    have:=hc 0 _ rfl
    rwa [Nat.mul_one,Nat.add_zero] at this
   have hlt':(k:Int)<(l.length:Int):=by omega
   have hge:(0:Int)≤(k:Int):=by omega
   have hxn:=η (Hne.out x (List.mem_of_getElem? hx))
   obtain ⟨k1,hk1⟩:∃k1,k1=k+1:=⟨_,rfl⟩
   have hwk:IntKind.i64.wrap ((k:Int)+1)=(k1:Int):=by rw [IntWalk.i64_in _ (by omega)];omega
   obtain ⟨z1,hz1⟩:∃z1:Int,z1=(k:Int) - 1:=⟨_,rfl⟩
   have hwz:IntKind.i64.wrap ((k:Int) - 1)=z1:=by rw [IntWalk.i64_in _ (by omega)];omega
   have hlg:Lb.lastGo l (k+1)=if Lb.smallW x then k+1 else Lb.lastGo l k:=by rw [←hgd];rfl
   have Hlg:=η hlg;have Hk1:=η hk1;have Hz1:=η hz1;have Hk:=η hk
   clear hc hx hlt hk hk1 hz1 hlg hgd hiv
   obtain ⟨t,ht⟩:∃t,Lb.smallW x=t:=⟨_,rfl⟩
   rw [ht] at Hlg
   have Ht:=η ht
   clear ht
   cases t
   ·
    go_wp2_with (go_at_call 184; refine (nm_small x _ hxn.out).mono ?_;rw [Ht.out];rintro e w9 ⟨rfl,rfl⟩)
    go_roundw
    case rel=>exact ⟨k,by have:=Hk.out;omega,.inl (by rw [Hz1.out]),by rw [Hlast.out,Hlg.out];rfl,trivial⟩
    case measure=>have:=Hz1.out;simp [intOf];omega
   ·
    go_wp2_with (go_at_call 184; refine (nm_small x _ hxn.out).mono ?_;rw [Ht.out];rintro e w9 ⟨rfl,rfl⟩)
    go_ret
    exact ⟨ret_int (by rw [Hlast.out,Hlg.out,Hk1.out];rfl),rfl⟩
theorem SliceIn.suf {α:Type} {S:Nat→Prop} {size:Nat} {R:α→List Value→Prop} {w:World} {b o n cap:Nat} {xs:List α} (h:SliceIn S size R w (.slice (some ⟨b,o,none⟩) n cap) xs) (k:Nat) (hk:k≤xs.length):SliceIn S size R w (.slice (some ⟨b,o+k*size,none⟩) (n - k) (cap - k)) (xs.drop k):=by
 obtain ⟨p1,cap1,hv,h1,h2,h3⟩:=h
 simp only [Value.slice.injEq] at hv
 obtain ⟨rfl,rfl,rfl⟩:=hv
 refine ⟨_,cap - k,by rw [List.length_drop],by rw [List.length_drop];omega,by omega,fun i x hi=>?_⟩
 rw [List.getElem?_drop] at hi
 obtain ⟨b',off,vs,hp,hS,hlt,hR,hc⟩:=h3 (k+i) x hi
 simp only [Option.some.injEq,Addr.mk.injEq,and_true] at hp
 obtain ⟨rfl,rfl⟩:=hp
 refine ⟨_,_,vs,rfl,hS,hlt,hR,fun j u hj=>?_⟩
 have:=hc j u hj
 rw [show o+k*size+(i*size+j)=o+((k+i)*size+j) by rw [Nat.add_mul];omega]
 exact this
end Go.Proofs.YtgnfmopcialllaaGreatDoor
set_option linter.unusedSimpArgs false
set_option linter.unusedVariables false
namespace Go.Proofs.YtgnfmopcialllaaGreatDoor
open Go.RowKit Go.Extern.Stop Go.Stop Go.Extern
namespace asErr
abbrev hd (t:Nat):Value:=.pointer (some ⟨9,t,none⟩)
theorem valueOfP (t:Addr) (w:World):(ReflectliteValue.unpack (.iface 291 (.pointer (some t)))).run Tryz.prog w
  = .ok (.agg #[.pointer (some ⟨9, 291, none⟩),.pointer (some ⟨w.heap.size,0,none⟩),.int .u64 150]) (w.alloc (.cells #[.pointer (some t)] 291)):=by kernel_rfl
theorem typeP (a:Addr) (w:World):(ReflectliteValue.methodAny (ReflectliteValue.valueError "reflectlite.Value.Type" 0) (fun t _ _ _=>ReflectliteType.toType t) #[.agg #[.pointer (some ⟨9, 291, none⟩),.pointer (some a),.int .u64 150]]).run Tryz.prog w
  = .ok (.iface 199 (.agg #[.pointer (some ⟨9, 291, none⟩)])) w:=by kernel_rfl
theorem methodKind (h:Value) (w:World):(Go.method 463 199 (.agg #[h]) "Kind").run Tryz.prog w = .ok (282, h) w:=by kernel_rfl
theorem kindP (w:World):((ReflectliteType.abiMethod fun t=>(fun a:Nat=>Value.int IntKind.u8 (a:Int)) <$> Rtype.kind t) #[.pointer (some ⟨9, 291, none⟩)]).run Tryz.prog w = .ok (.int .u8 22) w:=by kernel_rfl
theorem kindE (w:World):((ReflectliteType.abiMethod fun t=>(fun a:Nat=>Value.int IntKind.u8 (a:Int)) <$> Rtype.kind t) #[.pointer (some ⟨9, 25, none⟩)]).run Tryz.prog w = .ok (.int .u8 2) w:=by kernel_rfl
theorem rlm (z:Sem Value) (f:TypeId→Addr→Nat→Nat→Sem Value) (v:Value) :
  ReflectliteValue.method z f #[v]=(do match ←ReflectliteValue.parts v with | none=>z | some (t,a,fl)=>f t a fl (fl % 32)):=rfl
theorem partsP (a:Addr) (w:World):(ReflectliteValue.parts (.agg #[.pointer (some ⟨9, 291, none⟩),.pointer (some a),.int .u64 150])).run Tryz.prog w = .ok (some (291, a,150)) w:=by kernel_rfl
theorem isNilP (a p:Addr) (W:World) (ha:W.cell? a=some (.pointer (some p))) :
  (ReflectliteValue.method (ReflectliteValue.valueError "reflectlite.Value.IsNil" 0) ReflectliteValue.isNil #[.agg #[.pointer (some ⟨9, 291, none⟩),.pointer (some a),.int .u64 150]]).run Tryz.prog W = .ok (.bool false) W:=by
 rw [rlm]
 simp only [Sem.run_bind,partsP,Result.andThen]
 simp [ReflectliteValue.isNil,loadVar,isAgg,underlying,Tryz.underlying291, ha,Result.andThen]
theorem methodElem (h:Value) (w:World):(Go.method 463 199 (.agg #[h]) "Elem").run Tryz.prog w = .ok (294, .agg #[h]) w:=by kernel_rfl
theorem methodImplements (h:Value) (w:World):(Go.method 463 199 (.agg #[h]) "Implements").run Tryz.prog w = .ok (295, .agg #[h]) w:=by kernel_rfl
theorem methodAssignableTo (h:Value) (w:World):(Go.method 463 199 (.agg #[h]) "AssignableTo").run Tryz.prog w = .ok (292, .agg #[h]) w:=by kernel_rfl
theorem methodUnwrap (p:Addr) (w:World):(Go.method 463 286 (.pointer (some p)) "Unwrap").run Tryz.prog w = .ok (305, .pointer (some p)) w:=by kernel_rfl
theorem elemP (w:World):(ReflectliteType.method ReflectliteType.elem #[.agg #[.pointer (some ⟨9, 291, none⟩)]]).run Tryz.prog w = .ok (.iface 199 (.agg #[.pointer (some ⟨9, 25, none⟩)])) w:=by kernel_rfl
theorem implementsE (w:World):(ReflectliteType.relation "Implements" ReflectliteType.implements_ #[.agg #[.pointer (some ⟨9, 25, none⟩)],.iface 199 (.agg #[.pointer (some ⟨9, 48, none⟩)])]).run Tryz.prog w = .ok (.bool true) w:=by kernel_rfl
theorem typeOfE (v:Value) (w:World):(ReflectliteType.typeOf #[.iface 25 v]).run Tryz.prog w = .ok (.iface 199 (.agg #[.pointer (some ⟨9, 25, none⟩)])) w:=by kernel_rfl
theorem typeOfW (v:Value) (w:World):(ReflectliteType.typeOf #[.iface 286 v]).run Tryz.prog w = .ok (.iface 199 (.agg #[.pointer (some ⟨9, 286, none⟩)])) w:=by kernel_rfl
theorem assignE (w:World):(ReflectliteType.relation "AssignableTo" ReflectliteType.assignableTo #[.agg #[.pointer (some ⟨9, 25, none⟩)],.iface 199 (.agg #[.pointer (some ⟨9, 25, none⟩)])]).run Tryz.prog w = .ok (.bool true) w:=by kernel_rfl
theorem assignW (w:World):(ReflectliteType.relation "AssignableTo" ReflectliteType.assignableTo #[.agg #[.pointer (some ⟨9, 286, none⟩)],.iface 199 (.agg #[.pointer (some ⟨9, 25, none⟩)])]).run Tryz.prog w = .ok (.bool false) w:=by kernel_rfl
theorem valueOfE (n:Int) (w:World):(ReflectliteValue.unpack (.iface 25 (.int .i64 n))).run Tryz.prog w
  = .ok (.agg #[.pointer (some ⟨9, 25, none⟩),.pointer (some ⟨w.heap.size,0,none⟩),.int .u64 130]) (w.alloc (.cells #[.int .i64 n] 25)):=by kernel_rfl
theorem elemOfP (w:World):(Rtype.elem? 291).run Tryz.prog w = .ok (some 25) w:=by kernel_rfl
theorem mkE (p:Addr) (w:World):(ReflectliteValue.mk 25 p ReflectliteValue.flagAddr).run Tryz.prog w = .ok (.agg #[.pointer (some ⟨9, 25, none⟩),.pointer (some p),.int .u64 386]) w:=by kernel_rfl
theorem elemVP (a p:Addr) (W:World) (ha:W.cell? a=some (.pointer (some p))) :
  (ReflectliteValue.method (ReflectliteValue.valueError "reflectlite.Value.Elem" 0) ReflectliteValue.elem #[.agg #[.pointer (some ⟨9, 291, none⟩),.pointer (some a),.int .u64 150]]).run Tryz.prog W
   = .ok (.agg #[.pointer (some ⟨9, 25, none⟩),.pointer (some p),.int .u64 386]) W:=by
 rw [rlm]
 simp only [Sem.run_bind,partsP,Result.andThen]
 simp [ReflectliteValue.elem,loadVar,isAgg,underlying,Tryz.underlying291, ha,Result.andThen,elemOfP,mkE]
theorem rls (v x:Value):ReflectliteValue.set #[v,x]=(do
  let (some (dst,a,fl),some (src,b,_)):=(←ReflectliteValue.parts v,←ReflectliteValue.parts x)
   | unsupported (.noEntry "extern/(internal/reflectlite.Value).Set.zeroValue")
  if fl / ReflectliteValue.flagAddr % 2 == 0 then unsupported (.noEntry "extern/(internal/reflectlite.Value).Set.unaddressable")
  let val ←loadVar src b
  if ←Rtype.directlyAssignable dst src then storeVar dst a val
  else if ←Rtype.implements dst src then
   if (←Rtype.kind src) == 20 then
    match val with
    | .nilIface=>unsupported (.noEntry "extern/reflectlite: a nil value of one interface type handed on as a value of another")
    | _=>storeVar dst a val
   else storeVar dst a (.iface src val)
  else panicString ("reflectlite.Set: value of type " ++ (←Rtype.spelt src) ++ " is not assignable to type " ++ (←Rtype.spelt dst))
  pure (.tuple #[])):=rfl
theorem partsEa (a:Addr) (w:World):(ReflectliteValue.parts (.agg #[.pointer (some ⟨9, 25, none⟩),.pointer (some a),.int .u64 386])).run Tryz.prog w = .ok (some (25, a,386)) w:=by kernel_rfl
theorem partsE (a:Addr) (w:World):(ReflectliteValue.parts (.agg #[.pointer (some ⟨9, 25, none⟩),.pointer (some a),.int .u64 130])).run Tryz.prog w = .ok (some (25, a,130)) w:=by kernel_rfl
theorem directE (w:World):(Rtype.directlyAssignable 25 25).run Tryz.prog w = .ok true w:=by kernel_rfl
theorem setE (ta b:Addr) (n:Int) (old:Value) (W:World) (hb:W.cell? b=some (.int .i64 n)) (ht:W.cell? ta=some old) (hf:W.frozen? ta=false) :
  (ReflectliteValue.set #[.agg #[.pointer (some ⟨9, 25, none⟩),.pointer (some ta),.int .u64 386],.agg #[.pointer (some ⟨9, 25, none⟩),.pointer (some b),.int .u64 130]]).run Tryz.prog W
   = .ok (.tuple #[]) (W.setCell ta (.int .i64 n)):=by
 rw [rls]
 simp only [Sem.run_bind,partsEa,partsE,Result.andThen]
 simp [ReflectliteValue.flagAddr,loadVar,isAgg,underlying,Tryz.underlying25, hb,Result.andThen,directE,storeVar,Value.cells,storeCells,Addr.add]
 rw [run_store Tryz.prog W ta _ _ (by rfl)]
 simp [ht,hf]
theorem noAs (v:Value) (w:World):(Instr.typeAssert (.iface 286 v) 48 204 true).run Tryz.prog w = .ok (.tuple #[.nilIface,.bool false]) w:=run_typeAssert_lacksB Tryz.underlying204 (by kernel_rfl) (by kernel_rfl) v 48 w
theorem hasUn (v:Value) (w:World):(Instr.typeAssert (.iface 286 v) 48 207 true).run Tryz.prog w = .ok (.tuple #[.iface 286 v,.bool true]) w:=run_typeAssert_hasB Tryz.underlying207 (by kernel_rfl) v 48 w
end asErr
theorem wire_unwrap (g:Nat) (e:Int) (w:World) (h:w.cell? ⟨g,1,none⟩=some (.int .i64 e)) :
  Calls Tryz.prog 305 #[.pointer (some ⟨g,0,none⟩)] w fun ev w'=>ev = .returned (.iface 25 (.int .i64 e))∧w=w':=by
 go_enter Tryz.func305, Tryz.ntmps305
 go_wp2_with fail
 go_ret
 exact ⟨rfl,rfl⟩
set_option maxRecDepth 100000 in
set_option maxHeartbeats 4000000 in
theorem std_as_loop (g:Nat) (e n0:Int) (t a:Addr) (w:World) (hp:w.cell? ⟨g,1,none⟩=some (.int .i64 e)) (ha:w.cell? a=some (.pointer (some t))) (ht0:w.cell? t=some (.int .i64 n0)) (hf0:w.frozen? t=false) :
  Calls Tryz.prog 66 #[.iface 286 (.pointer (some ⟨g,0,none⟩)),.iface 291 (.pointer (some t)),.agg #[.pointer (some ⟨9, 291, none⟩),.pointer (some a),.int .u64 150],.iface 199 (.agg #[.pointer (some ⟨9, 25, none⟩)])] w
   fun ev w'=>ev = .returned (.bool true)∧∃W,w'=W.setCell t (.int .i64 e)∧Below w.heap.size w W:=by
 have h10:=@run_callFunc_extern Tryz.prog 118 _ ReflectliteType.typeOf Tryz.func118 (by kernel_rfl) (by kernel_rfl) (by kernel_rfl) (by kernel_rfl)
 have h35:=@run_callFunc_extern Tryz.prog 292 _ (ReflectliteType.relation "AssignableTo" ReflectliteType.assignableTo) Tryz.func292 (by kernel_rfl) (by kernel_rfl) (by kernel_rfl) (by kernel_rfl)
 have h6:=@run_callFunc_extern Tryz.prog 63 _ (fun args=>ReflectliteValue.unpack (args.getD 0 (.tuple #[]))) Tryz.func63 (by kernel_rfl) (by kernel_rfl) (by kernel_rfl) (by kernel_rfl)
 have h11:=@run_callFunc_extern Tryz.prog 119 _ (ReflectliteValue.method (ReflectliteValue.valueError "reflectlite.Value.Elem" 0) ReflectliteValue.elem) Tryz.func119 (by kernel_rfl) (by kernel_rfl) (by kernel_rfl) (by kernel_rfl)
 have h12:=@run_callFunc_extern Tryz.prog 120 _ ReflectliteValue.set Tryz.func120 (by kernel_rfl) (by kernel_rfl) (by kernel_rfl) (by kernel_rfl)
 have tE:=asErr.typeOfE
 have tW:=asErr.typeOfW
 have mA:=asErr.methodAssignableTo
 have aE:=asErr.assignE
 have aW:=asErr.assignW
 have vE:=asErr.valueOfE
 have na:=asErr.noAs
 have hu:=asErr.hasUn
 have mU:=asErr.methodUnwrap
 obtain ⟨W1,hW1⟩:∃W1,W1=w.alloc (.cells #[.pointer (some ⟨9, 291, none⟩),.pointer (some a),.int .u64 150] 141):=⟨_,rfl⟩
 have hb1:Below w.heap.size w W1:=by rw [hW1];exact below_new w _
 have hal:a.block<w.heap.size:=World.block_lt_of_cell? w _ ha
 have htl:t.block<w.heap.size:=World.block_lt_of_cell? w _ ht0
 have hpl:g<w.heap.size:=World.block_lt_of_cell? w _ hp
 have ha1:W1.cell? a=some (.pointer (some t)):=(hb1.cell hal).trans ha
 have hp1:W1.cell? ⟨g,1,none⟩=some (.int .i64 e):=(hb1.cell (p:=⟨g,1,none⟩) hpl).trans hp
 have hx1:∀(i:Nat) (u:Value),#[Value.pointer (some ⟨9, 291, none⟩),.pointer (some a),.int .u64 150][i]? = some u→W1.cell? ⟨w.heap.size,i,none⟩=some u:=by
  intro i u hu
  rw [hW1,cell_of_row _ _ _ _ _ _ (heap_alloc_new w _)]
  exact hu
 have el:=asErr.elemVP a t W1 ha1
 obtain ⟨W2,hW2⟩:∃W2,W2=W1.alloc (.cells #[.int .i64 e] 25):=⟨_,rfl⟩
 have st:=asErr.setE t ⟨W1.heap.size,0,none⟩ e (.int .i64 n0) W2 (by rw [hW2,cell_of_row _ _ _ _ _ _ (heap_alloc_new W1 _)];rfl)
  (by rw [hW2,World.cell?_alloc_lt _ _ t (Nat.lt_of_lt_of_le htl hb1.size),hW1,World.cell?_alloc_lt _ _ t htl];exact ht0)
  (by rw [hW2,World.frozen?_alloc_old _ _ t (Nat.ne_of_lt (Nat.lt_of_lt_of_le htl hb1.size)),hW1,World.frozen?_alloc_old _ _ t (Nat.ne_of_lt htl)];exact hf0)
 go_enter Tryz.func66, Tryz.ntmps66
 go_upto_region 1 with fail
 rw [←hW1]
 have hx0:=hx1 0 _ rfl;have hx2:=hx1 1 _ rfl;have hx3:=hx1 2 _ rfl
 have hb2:Below w.heap.size w (W1.alloc (.cells #[.int .i64 e] 25)):=hb1.alloc hb1.size _
 subst hW2
 clear hx1 ha ht0 hp hf0 hW1
 refine wp_loop_rounds 2 ?_
 rw [rounds_succ]
 go_upto_region 13 with (go_at_call 305; refine (wire_unwrap g e _ hp1).mono ?_;rintro ev wu ⟨rfl,rfl⟩)
 go_upto_region 1 with fail
 rw [rounds_succ]
 go_wp2_with fail
 go_ret
 exact ⟨rfl,_,rfl,hb2⟩
set_option maxRecDepth 100000 in
set_option maxHeartbeats 4000000 in
theorem std_as (g:Nat) (e n0:Int) (t:Addr) (w:World) (hg:w.cell? ⟨0, 0,none⟩=some (.iface 199 (.agg #[.pointer (some ⟨9, 48, none⟩)]))) (hp:w.cell? ⟨g,1,none⟩=some (.int .i64 e)) (ht0:w.cell? t=some (.int .i64 n0)) (hf0:w.frozen? t=false) :
  Calls Tryz.prog 34 #[.iface 286 (.pointer (some ⟨g,0,none⟩)),.iface 291 (.pointer (some t))] w fun ev w'=>ev = .returned (.bool true)∧∃W,w'=W.setCell t (.int .i64 e)∧Below w.heap.size w W:=by
 have h6:=@run_callFunc_extern Tryz.prog 63 _ (fun args=>ReflectliteValue.unpack (args.getD 0 (.tuple #[]))) Tryz.func63 (by kernel_rfl) (by kernel_rfl) (by kernel_rfl) (by kernel_rfl)
 have h7:=@run_callFunc_extern Tryz.prog 64 _ (ReflectliteValue.methodAny (ReflectliteValue.valueError "reflectlite.Value.Type" 0) (fun t _ _ _=>ReflectliteType.toType t)) Tryz.func64 (by kernel_rfl) (by kernel_rfl) (by kernel_rfl) (by kernel_rfl)
 have h8:=@run_callFunc_extern Tryz.prog 65 _ (ReflectliteValue.method (ReflectliteValue.valueError "reflectlite.Value.IsNil" 0) ReflectliteValue.isNil) Tryz.func65 (by kernel_rfl) (by kernel_rfl) (by kernel_rfl) (by kernel_rfl)
 have h27:=@run_callFunc_extern Tryz.prog 282 _ (ReflectliteType.abiMethod fun t=>do pure (.int .u8 (←Rtype.kind t))) Tryz.func282 (by kernel_rfl) (by kernel_rfl) (by kernel_rfl) (by kernel_rfl)
 have h37:=@run_callFunc_extern Tryz.prog 294 _ (ReflectliteType.method ReflectliteType.elem) Tryz.func294 (by kernel_rfl) (by kernel_rfl) (by kernel_rfl) (by kernel_rfl)
 have h38:=@run_callFunc_extern Tryz.prog 295 _ (ReflectliteType.relation "Implements" ReflectliteType.implements_) Tryz.func295 (by kernel_rfl) (by kernel_rfl) (by kernel_rfl) (by kernel_rfl)
 have f6:=asErr.valueOfP
 have f7:=asErr.typeP
 have mK:=asErr.methodKind
 have mE:=asErr.methodElem
 have mI:=asErr.methodImplements
 have kP:=asErr.kindP
 have kE:=asErr.kindE
 have eP:=asErr.elemP
 have iE:=asErr.implementsE
 have hgl : 0 < w.heap.size:=World.block_lt_of_cell? w _ hg
 have htl:t.block<w.heap.size:=World.block_lt_of_cell? w _ ht0
 have hpl:g<w.heap.size:=World.block_lt_of_cell? w _ hp
 go_enter Tryz.func34, Tryz.ntmps34
 go_upto_region 6 with fail
 obtain ⟨W1,hW1⟩:∃W1,W1=w.alloc (.cells #[.pointer (some t)] 291):=⟨_,rfl⟩
 have hs1:W1.heap.size=w.heap.size+1:=by rw [hW1];simp
 obtain ⟨W2,hW2⟩:∃W2,W2=W1.alloc (.cells #[.pointer (some ⟨9, 291, none⟩),.pointer (some ⟨w.heap.size,0,none⟩),.int .u64 150] 141):=⟨_,rfl⟩
 have hb1:Below w.heap.size w W1:=by rw [hW1];exact below_new w _
 have hb2:Below w.heap.size w W2:=by rw [hW2];exact hb1.alloc hb1.size _
 have hx1:∀(i:Nat) (u:Value),#[Value.pointer (some ⟨9, 291, none⟩),.pointer (some ⟨w.heap.size,0,none⟩),.int .u64 150][i]? = some u→W2.cell? ⟨w.heap.size+1,i,none⟩=some u:=by
  intro i u hu
  rw [←hs1,hW2,cell_of_row _ _ _ _ _ _ (heap_alloc_new W1 _)]
  exact hu
 have ha2:W2.cell? ⟨w.heap.size,0,none⟩=some (.pointer (some t)):=by
  rw [hW2,World.cell?_alloc_lt _ _ ⟨w.heap.size,0,none⟩ (by rw [hs1];show w.heap.size<_;omega),hW1,cell_of_row _ _ _ _ _ _ (heap_alloc_new w _)];rfl
 have hp2:W2.cell? ⟨g,1,none⟩=some (.int .i64 e):=(hb2.cell (p:=⟨g,1,none⟩) hpl).trans hp
 have hg2:W2.cell? ⟨0, 0,none⟩=some (.iface 199 (.agg #[.pointer (some ⟨9, 48, none⟩)])):=(hb2.cell (p:=⟨0, 0,none⟩) hgl).trans hg
 have ht2:W2.cell? t=some (.int .i64 n0):=(hb2.cell htl).trans ht0
 have hf2:W2.frozen? t=false:=by
  rw [hW2,World.frozen?_alloc_old _ _ t (by rw [hs1];omega),hW1,World.frozen?_alloc_old _ _ t (Nat.ne_of_lt htl)];exact hf0
 have n8:=asErr.isNilP ⟨w.heap.size,0,none⟩ t W2 ha2
 first
  | rw [←hW1,←hW2]
  | (rw [←hW1,hs1] at *;rw [←hW2])
 have hx0:=hx1 0 _ rfl;have hx2:=hx1 1 _ rfl;have hx3:=hx1 2 _ rfl
 clear hx1 hW1 hW2 hb1 hg ht0 hf0 hp hgl htl hpl f6 h6
 go_wp2_with (go_at_call 66; refine (std_as_loop g e n0 t ⟨w.heap.size,0,none⟩ _ hp2 ha2 ht2 hf2).mono ?_;rintro ev w9 ⟨rfl,W9,rfl,hb9⟩)
 go_ret
 exact ⟨rfl,W9,rfl,hb2.trans (hb9.mono hb2.size)⟩
end Go.Proofs.YtgnfmopcialllaaGreatDoor
