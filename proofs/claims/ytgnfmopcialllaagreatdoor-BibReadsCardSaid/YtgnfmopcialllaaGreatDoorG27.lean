/- The walks of package side (layer 10), sixth part: a side's bytes. The walks of package side (layer 10), seventh part: labels by their keys. The walks of package side (layer 10), eighth part: what one record's parts are taken as. -/
import Derived.Test.YtgnfmopcialllaaGreatDoorTk
import Derived.Test.YtgnfmopcialllaaGreatDoorSidW5
import Derived.Test.YtgnfmopcialllaaGreatDoorG23
import Derived.Test.YtgnfmopcialllaaGreatDoorG12
import Derived.Test.YtgnfmopcialllaaGreatDoorG02
import Derived.Laws.ResultCell
set_option linter.unusedSimpArgs false
set_option linter.unusedVariables false
namespace Go.Proofs.YtgnfmopcialllaaGreatDoor
open Go.RowKit
theorem flat_snoc {α:Type} (f:α→List UInt8) (l:List α) (k:Nat) (x:α) (h:l[k]? = some x):((l.take (k+1)).map f).flatten=((l.take k).map f).flatten++f x:=by
 rw [List.take_add_one,h];simp
theorem rec_len (ps:List (List UInt8)) (hl:ps.length≤5) (h:∀t ∈ ps,t.length≤1000):(Sd.record ps).length≤6000:=by
 have h1:=Sd.puts_le ps 1000 (by omega) h
 have h2:ps.length*(1000+8)≤5*1008:=Nat.mul_le_mul_right _ hl
 have h3:=Sd.put_le (Sd.puts ps) (by omega)
 have h4:Sd.record ps=Sd.put (Sd.puts ps):=rfl
 rw [h4];omega
theorem strsN (w:World) (fl:List Value) (ps:List (List UInt8)) (hr:RepRow RStr ps fl) (hl:ps.length≤1000):SliceIn (fun _=>True) 1 RStr (w.alloc (.cells fl.toArray 9)) (.slice (some ⟨w.heap.size,0,none⟩) ps.length ps.length) ps :=
 built1 w 9 RStr 1 ps fl hr RStr.size (by unfold maxLen;omega)
theorem strs2 (w:World) (a b:List UInt8):SliceIn (fun _=>True) 1 RStr (w.alloc (.cells #[.string ⟨a.toArray⟩,.string ⟨b.toArray⟩] 9)) (.slice (some ⟨w.heap.size,0,none⟩) 2 2) [a,b] :=
 strsN w [.string ⟨a.toArray⟩,.string ⟨b.toArray⟩] [a,b] ⟨_,_,rfl,rfl,[.string ⟨b.toArray⟩],[],rfl,rfl,rfl⟩ (by simp)
theorem strs4 (w:World) (a b c d:List UInt8):SliceIn (fun _=>True) 1 RStr (w.alloc (.cells #[.string ⟨a.toArray⟩,.string ⟨b.toArray⟩,.string ⟨c.toArray⟩,.string ⟨d.toArray⟩] 9)) (.slice (some ⟨w.heap.size,0,none⟩) 4 4) [a,b,c,d] :=
 strsN w [.string ⟨a.toArray⟩,.string ⟨b.toArray⟩,.string ⟨c.toArray⟩,.string ⟨d.toArray⟩] [a,b,c,d] ⟨[_],_,rfl,rfl,[_],_,rfl,rfl,[_],_,rfl,rfl,[_],_,rfl,rfl,rfl⟩ (by simp)
theorem strs5 (w:World) (a b c d e:List UInt8):SliceIn (fun _=>True) 1 RStr (w.alloc (.cells #[.string ⟨a.toArray⟩,.string ⟨b.toArray⟩,.string ⟨c.toArray⟩,.string ⟨d.toArray⟩,.string ⟨e.toArray⟩] 9)) (.slice (some ⟨w.heap.size,0,none⟩) 5 5) [a,b,c,d,e] :=
 strsN w [.string ⟨a.toArray⟩,.string ⟨b.toArray⟩,.string ⟨c.toArray⟩,.string ⟨d.toArray⟩,.string ⟨e.toArray⟩] [a,b,c,d,e] ⟨[_],_,rfl,rfl,[_],_,rfl,rfl,[_],_,rfl,rfl,[_],_,rfl,rfl,[_],_,rfl,rfl,rfl⟩ (by simp)
set_option maxRecDepth 100000 in
set_option maxHeartbeats 6400000 in
theorem side_encode (x:Sd.Side) (v:Value) (S:Nat→Prop) (w:World) (hL:Laid10 w) (hX:SideIn S w v x) (hsm:SideSm x) :
  Calls Tryz.prog 28 #[v] w fun e w'=>e = .returned (.tuple #[.string ⟨(Sd.enc x).1.toArray⟩,.int .i64 (Sd.enc x).2])∧Below w.heap.size w w':=by
 have HX:=η hX;have Hsm:=η hsm;have HL:=η hL
 obtain ⟨vl,vh,vc,vb,rfl,hLb,hHd,hCt,hBb⟩:=hX
 have hsl:=hsm.labs;have hsh:=hsm.heads;have hsc:=hsm.cites;have hsb:=hsm.bibs
 clear hsm hL
 obtain ⟨pc,cc,rfl,hc1,hc2,hcat⟩:=hCt
 obtain ⟨pb,cb,rfl,hb1,hb2,hbat⟩:=hBb
 obtain ⟨pl,cl,rfl,hll,hlm,hlat⟩:=hLb
 obtain ⟨ph,ch,rfl,hhl,hhm,hhat⟩:=hHd
 have Hlat:=η hlat;have Hhat:=η hhat;have Hcat:=η hcat;have Hbat:=η hbat
 clear hlat hhat hll hlm hhl hhm hc1 hc2 hcat hb1 hb2 hbat
 have henc:Sd.enc x=if Sd.right x then (Sd.encN x,0) else ([],5):=rfl
 have Henc:=η henc
 clear henc
 go_enter Tryz.func28, Tryz.ntmps28
 go_upto_region 1 with fail
 have he6:∀(i:Nat) (u:Value),#[Value.slice pl x.labs.length cl,.slice ph x.heads.length ch,.slice pc x.cites.length cc,.slice pb x.bibs.length cb][i]? = some u→(w.alloc (.cells #[.slice pl x.labs.length cl,.slice ph x.heads.length ch,.slice pc x.cites.length cc,.slice pb x.bibs.length cb] 46)).cell? ⟨w.heap.size,i,none⟩=some u:=by
  intro i u hu
  rw [cell_of_row _ _ _ _ _ _ (heap_alloc_new w _)]
  exact hu
 have hb4:=below_new w (.cells #[.slice pl x.labs.length cl,.slice ph x.heads.length ch,.slice pc x.cites.length cc,.slice pb x.bibs.length cb] 46)
 have hz4:=lt_alloc w (.cells #[.slice pl x.labs.length cl,.slice ph x.heads.length ch,.slice pc x.cites.length cc,.slice pb x.bibs.length cb] 46)
 generalize w.alloc (.cells #[.slice pl x.labs.length cl,.slice ph x.heads.length ch,.slice pc x.cites.length cc,.slice pb x.bibs.length cb] 46)=w4 at he6 hb4 hz4 ⊢
 have e60:=he6 0 _ rfl;have e61:=he6 1 _ rfl;have e62:=he6 2 _ rfl;have e63:=he6 3 _ rfl
 have Hb4:=η hb4
 clear he6 hb4
 cases hr:Sd.right x
 ·
  rw [hr] at Henc
  have Hr:=η hr
  clear hr
  go_wp2_with (go_at_call 55; refine (side_right x _ S _ (HX.out.below Hb4.out) Hsm.out).mono ?_;rw [Hr.out];rintro e w5 ⟨rfl,hb⟩;have Hb5:=η (Hb4.out.trans (hb.mono Hb4.out.size));clear hb)
  go_ret2
  rw [Henc.out]
  exact ⟨rfl,Hb5.out⟩
 ·
  rw [hr] at Henc
  have hss:=Sd.right_small x hr
  have Hss:=η hss;have Hr:=η hr
  clear hr hss
  go_upto_region 4 with (go_at_call 55; refine (side_right x _ S _ (HX.out.below Hb4.out) Hsm.out).mono ?_;rw [Hr.out];rintro e w5 ⟨rfl,hb⟩;have Hb5:=η (Hb4.out.trans (hb.mono Hb4.out.size));have e60:=(hb.cell (p:=⟨w.heap.size,0,none⟩) hz4).trans e60;have e61:=(hb.cell (p:=⟨w.heap.size,1,none⟩) hz4).trans e61;have e62:=(hb.cell (p:=⟨w.heap.size,2,none⟩) hz4).trans e62;have e63:=(hb.cell (p:=⟨w.heap.size,3,none⟩) hz4).trans e63;have hz5:=Nat.lt_of_lt_of_le hz4 hb.size;clear hb)
  have E61:=η e61;have E62:=η e62;have E63:=η e63
  clear e61 e62 e63 hz4
  go_wp2_with fail
  go_loopw [4,19] (fun sv iv wr=>∃k:Nat,k≤x.labs.length∧iv = .int .i64 (k:Int)∧sv = .string ⟨(((x.labs.take k).map Sd.encL).flatten).toArray⟩∧(((x.labs.take k).map Sd.encL).flatten).length≤0+k*6000∧Below w5.heap.size w5 wr) (fun _ iv _=>x.labs.length - (intOf iv).toNat)
  case atStart=>exact ⟨0,Nat.zero_le _,rfl,by simp,by simp,Below.refl _ _⟩
  case round =>
   obtain ⟨k,hk,rfl,rfl,hal,hb⟩:=hrel
   have Hbk:=η hb;have HB:=η (Hb5.out.trans (hb.mono Hb5.out.size))
   clear hb
   by_cases hlt:k<x.labs.length
   ·
    obtain ⟨y,hy⟩:∃y,x.labs[k]? = some y:=⟨_,List.getElem?_eq_getElem hlt⟩
    obtain ⟨b,off,vs,rfl,_,hbw,hR,hcc⟩:=Hlat.out k y hy
    have hR:vs=_:=hR
    subst hR
    have hfs:=flat_snoc Sd.encL x.labs k y hy
    obtain ⟨acc,hacc⟩:∃acc,((x.labs.take k).map Sd.encL).flatten=acc:=⟨_,rfl⟩
    have hfs2:((x.labs.take (k+1)).map Sd.encL).flatten=acc++Sd.encL y:=by rw [hfs,←hacc]
    rw [hacc] at hal ⊢
    have Hfs:=η hfs2
    have hlt':(k:Int)<(x.labs.length:Int):=by omega
    have hkl:(k:Int)+1≤9223372036854775807:=by omega
    have Hkl:=η hkl;have Hlt:=η hlt;have Hal:=η hal
    have hk6:k*6000≤1000000*6000:=Nat.mul_le_mul_right _ (by omega)
    have hsy:=Hss.out.lab y (List.mem_of_getElem? hy)
    have hps:=Sd.labL y hsy
    have hrl:=rec_len _ (by simp) hps
    obtain ⟨rc,hrc⟩:∃rc,Sd.record [Sd.labW,y.key,y.num,Sd.dig y.page]=rc:=⟨_,rfl⟩
    have hrc2:Sd.encL y=rc:=hrc
    rw [hrc] at hrl
    have hadd:¬9223372036854775807<acc.length+rc.length:=by omega
    have Hrc:=η hrc;have Hrc2:=η hrc2;have Hps:=η hps;have Hrl:=η hrl;have Hadd:=η hadd
    have a0:wr.cell? ⟨b,off+k*3,none⟩=some (.string ⟨y.key.toArray⟩):=(HB.out.cell (p:=⟨b,off+k*3,none⟩) hbw).trans (hcc 0 _ rfl)
    have a1:wr.cell? ⟨b,off+k*3+1,none⟩=some (.string ⟨y.num.toArray⟩):=(HB.out.cell (p:=⟨b,off+k*3+1,none⟩) hbw).trans (hcc 1 _ rfl)
    have a2:wr.cell? ⟨b,off+k*3+2,none⟩=some (.int .i64 y.page):=(HB.out.cell (p:=⟨b,off+k*3+2,none⟩) hbw).trans (hcc 2 _ rfl)
    clear hcc hy hfs hacc hfs2 hk6 hal hps hrl hrc hrc2 hkl hadd
    go_upto_region 7 with fail
    have he6:∀(i:Nat) (u:Value),#[Value.string ⟨y.key.toArray⟩,.string ⟨y.num.toArray⟩,.int .i64 y.page][i]? = some u→(wr.alloc (.cells #[.string ⟨y.key.toArray⟩,.string ⟨y.num.toArray⟩,.int .i64 y.page] 127)).cell? ⟨wr.heap.size,i,none⟩=some u:=by
     intro i u hu
     rw [cell_of_row _ _ _ _ _ _ (heap_alloc_new wr _)]
     exact hu
    have hb7:=below_new wr (.cells #[.string ⟨y.key.toArray⟩,.string ⟨y.num.toArray⟩,.int .i64 y.page] 127)
    have hz7:=lt_alloc wr (.cells #[.string ⟨y.key.toArray⟩,.string ⟨y.num.toArray⟩,.int .i64 y.page] 127)
    generalize wr.alloc (.cells #[.string ⟨y.key.toArray⟩,.string ⟨y.num.toArray⟩,.int .i64 y.page] 127)=w2 at he6 hb7 hz7 ⊢
    obtain ⟨gl,hgl⟩:∃gl,gl=wr.heap.size:=⟨_,rfl⟩
    rw [←hgl] at he6 hz7 ⊢
    have c0:=he6 0 _ rfl
    have c1:=he6 1 _ rfl
    have c2:=he6 2 _ rfl
    have HB2:=η (Hbk.out.trans (hb7.mono Hbk.out.size))
    have HL2:=η (HL.out.below (HB.out.trans (hb7.mono HB.out.size)))
    obtain ⟨pg,hpg⟩:∃pg,y.page=pg:=⟨_,rfl⟩
    rw [hpg] at c2 Hrc Hps
    clear he6 hb7 hgl a0 a1 a2 hlt' hpg
    refine wp_region_any (by kernel_rfl) ?_
    change wpAny _ _ _ _ _ _ _ (World.drew _)
    have hS:(fun W=>Below w2.heap.size w2 W) w2.drew:=(Below.refl _ _).drew
    generalize w2.drew=w8 at hS ⊢
    refine wpAny_of_held (S:=fun W=>Below w2.heap.size w2 W) _ _ _ _ ?_
    refine tk 0 (.string ⟨acc.toArray⟩) rfl (h:=?_)
    refine tk 1 (.pointer (some ⟨gl,0,none⟩)) rfl (h:=?_)
    refine tk 2 (.string ⟨y.key.toArray⟩) rfl (hy:=fun W hW=>by have q1:=(Below.cell hW (p:=⟨gl,0,none⟩) hz7).trans c0;go_simp) (h:=?_)
    refine tk 3 (.pointer (some ⟨gl,1,none⟩)) rfl (h:=?_)
    refine tk 4 (.string ⟨y.num.toArray⟩) rfl (hy:=fun W hW=>by have q1:=(Below.cell hW (p:=⟨gl,1,none⟩) hz7).trans c1;go_simp) (h:=?_)
    refine tk 5 (.pointer (some ⟨gl,2,none⟩)) rfl (h:=?_)
    refine tk 6 (.int .i64 pg) rfl (hy:=fun W hW=>by have q1:=(Below.cell hW (p:=⟨gl,2,none⟩) hz7).trans c2;go_simp) (h:=?_)
    try simp only [Act.put,π1,π2,π3,π4,π5,π6]
    refine tr 7 rfl (h:=fun K hK=>?_)
    go_simp
    go_wp2_with (go_at_call 57; refine (side_digits pg _ (HL2.out.below hS)).mono ?_;rintro e w9 ⟨rfl,hb9⟩;replace hS:=Below.trans hS (hb9.mono (Below.size hS));clear hb9)
    refine hK.out _ _ (hS) (fun _=>?_)
    clear K hK
    try simp only [Act.put,π1,π2,π3,π4,π5,π6]
    refine tr 8 rfl (h:=fun K hK=>?_)
    go_simp
    go_wp2_with fail
    refine hK.out _ _ (Below.alloc hS (Below.size hS) _) (fun _=>?_)
    clear K hK
    try simp only [Act.put,π1,π2,π3,π4,π5,π6]
    replace hS:=Below.alloc hS (Below.size hS) (.cells #[.string ⟨Sd.labW.toArray⟩,.string ⟨y.key.toArray⟩,.string ⟨y.num.toArray⟩,.string ⟨(Sd.dig pg).toArray⟩] 9)
    refine tr 9 rfl (h:=fun K hK=>?_)
    go_simp
    go_wp2_with (go_at_call 56; refine (side_record [Sd.labW,y.key,y.num,Sd.dig pg] _ _ _ (HL2.out.below hS) (strs4 _ Sd.labW y.key y.num (Sd.dig pg)) (by simp) Hps.out).mono ?_;rw [Hrc.out];rintro e w10 ⟨rfl,hb10⟩;replace hS:=Below.trans hS (hb10.mono (Below.size hS));clear hb10)
    refine hK.out _ _ (hS) (fun _=>?_)
    clear K hK
    try simp only [Act.put,π1,π2,π3,π4,π5,π6]
    have hadd:=Hadd.out
    refine tk 10 (.string (⟨acc.toArray⟩++⟨rc.toArray⟩)) rfl (hy:=fun W hW=>by go_simp) (h:=?_)
    refine tk 11 (.string (⟨acc.toArray⟩++⟨rc.toArray⟩)) rfl (h:=?_)
    try simp only [Act.put,π1,π2,π3,π4,π5,π6]
    refine wpAnyH_done (by kernel_rfl) ?_ _
    have HB9:=η (HB2.out.trans (Below.mono hS HB2.out.size))
    clear hS c0 c1 c2 hz7 hadd
    go_upto_region 8 with fail
    have hkl:=Hkl.out
    go_wp2_with fail
    go_roundw
    case rel=>exact ⟨k+1,by have:=Hlt.out;omega,by go_num,by rw [Hfs.out,Hrc2.out];exact congrArg Value.string (append_data _ _),by rw [Hfs.out,Hrc2.out,List.length_append];have:=Hal.out;have:=Hrl.out;omega,HB9.out⟩
    case measure=>have:=Hlt.out;simp [intOf];omega
   ·
    have hlt':¬(k:Int)<(x.labs.length:Int):=by omega
    have htk:x.labs.take k=x.labs:=List.take_of_length_le (by omega)
    rw [htk] at hal ⊢
    have hk6:k*6000≤1000000*6000:=Nat.mul_le_mul_right _ (by omega)
    obtain ⟨A0,hA0⟩:∃A,(x.labs.map Sd.encL).flatten=A:=⟨_,rfl⟩
    rw [hA0] at hal ⊢
    have hAl0:A0.length≤6000000000:=by omega
    have HA0:=η hA0
    obtain ⟨wm0,hwm⟩:∃W,W=wr:=⟨_,rfl⟩
    subst hwm
    have HBwm0:=η HB.out
    have e61:=(Hbk.out.cell (p:=⟨w.heap.size,1,none⟩) hz5).trans E61.out
    replace E62:=η ((Hbk.out.cell (p:=⟨w.heap.size,2,none⟩) hz5).trans E62.out)
    replace E63:=η ((Hbk.out.cell (p:=⟨w.heap.size,3,none⟩) hz5).trans E63.out)
    have hz6:w.heap.size<wm0.heap.size:=Nat.lt_of_lt_of_le hz5 Hbk.out.size
    clear hal htk hk6 hA0 hlt hk HB Hbk
    go_wp2_with fail
    go_loopw [4,38] (fun sv iv wr=>∃k:Nat,k≤x.heads.length∧iv = .int .i64 (k:Int)∧sv = .string ⟨(A0++((x.heads.take k).map Sd.encH).flatten).toArray⟩∧(A0++((x.heads.take k).map Sd.encH).flatten).length≤6000000000+k*6000∧Below wm0.heap.size wm0 wr) (fun _ iv _=>x.heads.length - (intOf iv).toNat)
    case atStart=>exact ⟨0,Nat.zero_le _,rfl,by simp,by simp only [List.take_zero,List.map_nil,List.flatten_nil,List.append_nil];omega,Below.refl _ _⟩
    case round =>
     obtain ⟨k,hk,rfl,rfl,hal,hb⟩:=hrel
     have Hbk:=η hb;have HB:=η (HBwm0.out.trans (hb.mono HBwm0.out.size))
     clear hb
     by_cases hlt:k<x.heads.length
     ·
      obtain ⟨y,hy⟩:∃y,x.heads[k]? = some y:=⟨_,List.getElem?_eq_getElem hlt⟩
      obtain ⟨b,off,vs,rfl,_,hbw,hR,hcc⟩:=Hhat.out k y hy
      have hR:vs=_:=hR
      subst hR
      have hfs:=flat_snoc Sd.encH x.heads k y hy
      obtain ⟨acc,hacc⟩:∃acc,A0++((x.heads.take k).map Sd.encH).flatten=acc:=⟨_,rfl⟩
      have hfs2:A0++((x.heads.take (k+1)).map Sd.encH).flatten=acc++Sd.encH y:=by rw [hfs,←hacc];simp
      rw [hacc] at hal ⊢
      have Hfs:=η hfs2
      have hlt':(k:Int)<(x.heads.length:Int):=by omega
      have hkl:(k:Int)+1≤9223372036854775807:=by omega
      have Hkl:=η hkl;have Hlt:=η hlt;have Hal:=η hal
      have hk6:k*6000≤1000000*6000:=Nat.mul_le_mul_right _ (by omega)
      have hsy:=Hss.out.head y (List.mem_of_getElem? hy)
      have hps:=Sd.headL y hsy
      have hrl:=rec_len _ (by simp) hps
      obtain ⟨rc,hrc⟩:∃rc,Sd.record [Sd.headW,Sd.dig y.level,y.num,y.title,Sd.dig y.page]=rc:=⟨_,rfl⟩
      have hrc2:Sd.encH y=rc:=hrc
      rw [hrc] at hrl
      have hadd:¬9223372036854775807<acc.length+rc.length:=by omega
      have Hrc:=η hrc;have Hrc2:=η hrc2;have Hps:=η hps;have Hrl:=η hrl;have Hadd:=η hadd
      have a0:wr.cell? ⟨b,off+k*4,none⟩=some (.int .i64 y.level):=(HB.out.cell (p:=⟨b,off+k*4,none⟩) hbw).trans (hcc 0 _ rfl)
      have a1:wr.cell? ⟨b,off+k*4+1,none⟩=some (.string ⟨y.num.toArray⟩):=(HB.out.cell (p:=⟨b,off+k*4+1,none⟩) hbw).trans (hcc 1 _ rfl)
      have a2:wr.cell? ⟨b,off+k*4+2,none⟩=some (.string ⟨y.title.toArray⟩):=(HB.out.cell (p:=⟨b,off+k*4+2,none⟩) hbw).trans (hcc 2 _ rfl)
      have a3:wr.cell? ⟨b,off+k*4+3,none⟩=some (.int .i64 y.page):=(HB.out.cell (p:=⟨b,off+k*4+3,none⟩) hbw).trans (hcc 3 _ rfl)
      clear hcc hy hfs hacc hfs2 hk6 hal hps hrl hrc hrc2 hkl hadd
      go_upto_region 12 with fail
      have he6:∀(i:Nat) (u:Value),#[Value.int .i64 y.level,.string ⟨y.num.toArray⟩,.string ⟨y.title.toArray⟩,.int .i64 y.page][i]? = some u→(wr.alloc (.cells #[.int .i64 y.level,.string ⟨y.num.toArray⟩,.string ⟨y.title.toArray⟩,.int .i64 y.page] 129)).cell? ⟨wr.heap.size,i,none⟩=some u:=by
       intro i u hu
       rw [cell_of_row _ _ _ _ _ _ (heap_alloc_new wr _)]
       exact hu
      have hb7:=below_new wr (.cells #[.int .i64 y.level,.string ⟨y.num.toArray⟩,.string ⟨y.title.toArray⟩,.int .i64 y.page] 129)
      have hz7:=lt_alloc wr (.cells #[.int .i64 y.level,.string ⟨y.num.toArray⟩,.string ⟨y.title.toArray⟩,.int .i64 y.page] 129)
      generalize wr.alloc (.cells #[.int .i64 y.level,.string ⟨y.num.toArray⟩,.string ⟨y.title.toArray⟩,.int .i64 y.page] 129)=w2 at he6 hb7 hz7 ⊢
      obtain ⟨gl,hgl⟩:∃gl,gl=wr.heap.size:=⟨_,rfl⟩
      rw [←hgl] at he6 hz7 ⊢
      have c0:=he6 0 _ rfl
      have c1:=he6 1 _ rfl
      have c2:=he6 2 _ rfl
      have c3:=he6 3 _ rfl
      have HB2:=η (Hbk.out.trans (hb7.mono Hbk.out.size))
      have HL2:=η (HL.out.below (HB.out.trans (hb7.mono HB.out.size)))
      obtain ⟨pg,hpg⟩:∃pg,y.page=pg:=⟨_,rfl⟩
      obtain ⟨lv,hlv⟩:∃lv,y.level=lv:=⟨_,rfl⟩
      rw [hpg] at c3 Hrc Hps
      rw [hlv] at c0 Hrc Hps
      clear he6 hb7 hgl a0 a1 a2 a3 hlt' hpg hlv
      refine wp_region_any (by kernel_rfl) ?_
      change wpAny _ _ _ _ _ _ _ (World.drew _)
      have hS:(fun W=>Below w2.heap.size w2 W) w2.drew:=(Below.refl _ _).drew
      generalize w2.drew=w8 at hS ⊢
      refine wpAny_of_held (S:=fun W=>Below w2.heap.size w2 W) _ _ _ _ ?_
      refine tk 0 (.string ⟨acc.toArray⟩) rfl (h:=?_)
      refine tk 1 (.pointer (some ⟨gl,0,none⟩)) rfl (h:=?_)
      refine tk 2 (.int .i64 lv) rfl (hy:=fun W hW=>by have q1:=(Below.cell hW (p:=⟨gl,0,none⟩) hz7).trans c0;go_simp) (h:=?_)
      refine tk 4 (.pointer (some ⟨gl,1,none⟩)) rfl (h:=?_)
      refine tk 5 (.string ⟨y.num.toArray⟩) rfl (hy:=fun W hW=>by have q1:=(Below.cell hW (p:=⟨gl,1,none⟩) hz7).trans c1;go_simp) (h:=?_)
      refine tk 6 (.pointer (some ⟨gl,2,none⟩)) rfl (h:=?_)
      refine tk 7 (.string ⟨y.title.toArray⟩) rfl (hy:=fun W hW=>by have q1:=(Below.cell hW (p:=⟨gl,2,none⟩) hz7).trans c2;go_simp) (h:=?_)
      refine tk 8 (.pointer (some ⟨gl,3,none⟩)) rfl (h:=?_)
      refine tk 9 (.int .i64 pg) rfl (hy:=fun W hW=>by have q1:=(Below.cell hW (p:=⟨gl,3,none⟩) hz7).trans c3;go_simp) (h:=?_)
      try simp only [Act.put,π1,π2,π3,π4,π5,π6]
      refine tr 3 rfl (h:=fun K hK=>?_)
      go_simp
      go_wp2_with (go_at_call 57; refine (side_digits lv _ (HL2.out.below hS)).mono ?_;rintro e w9 ⟨rfl,hb9⟩;replace hS:=Below.trans hS (hb9.mono (Below.size hS));clear hb9)
      refine hK.out _ _ (hS) (fun _=>?_)
      clear K hK
      try simp only [Act.put,π1,π2,π3,π4,π5,π6]
      refine tr 10 rfl (h:=fun K hK=>?_)
      go_simp
      go_wp2_with (go_at_call 57; refine (side_digits pg _ (HL2.out.below hS)).mono ?_;rintro e w9 ⟨rfl,hb9⟩;replace hS:=Below.trans hS (hb9.mono (Below.size hS));clear hb9)
      refine hK.out _ _ (hS) (fun _=>?_)
      clear K hK
      try simp only [Act.put,π1,π2,π3,π4,π5,π6]
      refine tr 11 rfl (h:=fun K hK=>?_)
      go_simp
      go_wp2_with fail
      refine hK.out _ _ (Below.alloc hS (Below.size hS) _) (fun _=>?_)
      clear K hK
      try simp only [Act.put,π1,π2,π3,π4,π5,π6]
      replace hS:=Below.alloc hS (Below.size hS) (.cells #[.string ⟨Sd.headW.toArray⟩,.string ⟨(Sd.dig lv).toArray⟩,.string ⟨y.num.toArray⟩,.string ⟨y.title.toArray⟩,.string ⟨(Sd.dig pg).toArray⟩] 9)
      refine tr 12 rfl (h:=fun K hK=>?_)
      go_simp
      go_wp2_with (go_at_call 56; refine (side_record [Sd.headW,Sd.dig lv,y.num,y.title,Sd.dig pg] _ _ _ (HL2.out.below hS) (strs5 _ Sd.headW (Sd.dig lv) y.num y.title (Sd.dig pg)) (by simp) Hps.out).mono ?_;rw [Hrc.out];rintro e w10 ⟨rfl,hb10⟩;replace hS:=Below.trans hS (hb10.mono (Below.size hS));clear hb10)
      refine hK.out _ _ (hS) (fun _=>?_)
      clear K hK
      try simp only [Act.put,π1,π2,π3,π4,π5,π6]
      have hadd:=Hadd.out
      refine tk 13 (.string (⟨acc.toArray⟩++⟨rc.toArray⟩)) rfl (hy:=fun W hW=>by go_simp) (h:=?_)
      refine tk 14 (.string (⟨acc.toArray⟩++⟨rc.toArray⟩)) rfl (h:=?_)
      try simp only [Act.put,π1,π2,π3,π4,π5,π6]
      refine wpAnyH_done (by kernel_rfl) ?_ _
      have HB9:=η (HB2.out.trans (Below.mono hS HB2.out.size))
      clear hS c0 c1 c2 c3 hz7 hadd
      go_upto_region 13 with fail
      have hkl:=Hkl.out
      go_wp2_with fail
      go_roundw
      case rel=>exact ⟨k+1,by have:=Hlt.out;omega,by go_num,by rw [Hfs.out,Hrc2.out];exact congrArg Value.string (append_data _ _),by rw [Hfs.out,Hrc2.out,List.length_append];have:=Hal.out;have:=Hrl.out;omega,HB9.out⟩
      case measure=>have:=Hlt.out;simp [intOf];omega
     ·
      have hlt':¬(k:Int)<(x.heads.length:Int):=by omega
      have htk:x.heads.take k=x.heads:=List.take_of_length_le (by omega)
      rw [htk] at hal ⊢
      have hk6:k*6000≤1000000*6000:=Nat.mul_le_mul_right _ (by omega)
      obtain ⟨A1,hA1⟩:∃A,A0++(x.heads.map Sd.encH).flatten=A:=⟨_,rfl⟩
      rw [hA1] at hal ⊢
      have hAl1:A1.length≤12000000000:=by omega
      have HA1:=η hA1
      obtain ⟨wm1,hwm⟩:∃W,W=wr:=⟨_,rfl⟩
      subst hwm
      have HBwm1:=η HB.out
      have e62:=(Hbk.out.cell (p:=⟨w.heap.size,2,none⟩) hz6).trans E62.out
      replace E63:=η ((Hbk.out.cell (p:=⟨w.heap.size,3,none⟩) hz6).trans E63.out)
      have hz7a:w.heap.size<wm1.heap.size:=Nat.lt_of_lt_of_le hz6 Hbk.out.size
      clear hal htk hk6 hA1 hlt hk HB Hbk
      go_wp2_with fail
      go_loopw [4,60] (fun sv iv wr=>∃k:Nat,k≤x.cites.length∧iv = .int .i64 (k:Int)∧sv = .string ⟨(A1++((x.cites.take k).map Sd.encC).flatten).toArray⟩∧(A1++((x.cites.take k).map Sd.encC).flatten).length≤12000000000+k*6000∧Below wm1.heap.size wm1 wr) (fun _ iv _=>x.cites.length - (intOf iv).toNat)
      case atStart=>exact ⟨0,Nat.zero_le _,rfl,by simp,by simp only [List.take_zero,List.map_nil,List.flatten_nil,List.append_nil];omega,Below.refl _ _⟩
      case round =>
       obtain ⟨k,hk,rfl,rfl,hal,hb⟩:=hrel
       have Hbk:=η hb;have HB:=η (HBwm1.out.trans (hb.mono HBwm1.out.size))
       clear hb
       by_cases hlt:k<x.cites.length
       ·
        obtain ⟨y,hy⟩:∃y,x.cites[k]? = some y:=⟨_,List.getElem?_eq_getElem hlt⟩
        obtain ⟨b,off,vs,rfl,_,hbw,hR,hcc⟩:=Hcat.out k y hy
        have hR:vs=_:=hR
        subst hR
        have hfs:=flat_snoc Sd.encC x.cites k y hy
        obtain ⟨acc,hacc⟩:∃acc,A1++((x.cites.take k).map Sd.encC).flatten=acc:=⟨_,rfl⟩
        have hfs2:A1++((x.cites.take (k+1)).map Sd.encC).flatten=acc++Sd.encC y:=by rw [hfs,←hacc];simp
        rw [hacc] at hal ⊢
        have Hfs:=η hfs2
        have hlt':(k:Int)<(x.cites.length:Int):=by omega
        have hkl:(k:Int)+1≤9223372036854775807:=by omega
        have Hkl:=η hkl;have Hlt:=η hlt;have Hal:=η hal
        have hk6:k*6000≤1000000*6000:=Nat.mul_le_mul_right _ (by omega)
        have hps:=Sd.citeL Sd.citeW y (by decide) (Hss.out.cite y (List.mem_of_getElem? hy))
        have hrl:=rec_len _ (by simp) hps
        obtain ⟨rc,hrc⟩:∃rc,Sd.record [Sd.citeW,y]=rc:=⟨_,rfl⟩
        have hrc2:Sd.encC y=rc:=hrc
        rw [hrc] at hrl
        have hadd:¬9223372036854775807<acc.length+rc.length:=by omega
        have Hrc:=η hrc;have Hrc2:=η hrc2;have Hps:=η hps;have Hrl:=η hrl;have Hadd:=η hadd
        have a0:wr.cell? ⟨b,off+k,none⟩=some (.string ⟨y.toArray⟩):=by
         have:=(HB.out.cell (p:=⟨b,off+(k*1+0),none⟩) hbw).trans (hcc 0 _ rfl)
         rwa [Nat.mul_one,Nat.add_zero] at this
        clear hcc hy hfs hacc hfs2 hk6 hal hps hrl hrc hrc2 hkl hadd
        go_upto_region 17 with fail
        have hadd:=Hadd.out
        clear a0 hlt'
        go_upto_region 18 with (go_at_call 56; refine (side_record [Sd.citeW,y] _ _ _ (HL.out.below ((HB.out.trans ((below_new wr _).mono HB.out.size)))) (strs2 wr Sd.citeW y) (by simp) Hps.out).mono ?_;rw [Hrc.out];rintro e w9 ⟨rfl,hb9⟩;have HB9:=η (Hbk.out.trans (((below_new wr _).trans (hb9.mono (Nat.le_of_lt (lt_alloc wr _)))).mono Hbk.out.size));clear hb9)
        have hkl:=Hkl.out
        clear hadd
        go_wp2_with fail
        go_roundw
        case rel=>exact ⟨k+1,by have:=Hlt.out;omega,by go_num,by rw [Hfs.out,Hrc2.out];exact congrArg Value.string (append_data _ _),by rw [Hfs.out,Hrc2.out,List.length_append];have:=Hal.out;have:=Hrl.out;omega,HB9.out⟩
        case measure=>have:=Hlt.out;simp [intOf];omega
       ·
        have hlt':¬(k:Int)<(x.cites.length:Int):=by omega
        have htk:x.cites.take k=x.cites:=List.take_of_length_le (by omega)
        rw [htk] at hal ⊢
        have hk6:k*6000≤1000000*6000:=Nat.mul_le_mul_right _ (by omega)
        obtain ⟨A2,hA2⟩:∃A,A1++(x.cites.map Sd.encC).flatten=A:=⟨_,rfl⟩
        rw [hA2] at hal ⊢
        have hAl2:A2.length≤18000000000:=by omega
        have HA2:=η hA2
        obtain ⟨wm2,hwm⟩:∃W,W=wr:=⟨_,rfl⟩
        subst hwm
        have HBwm2:=η HB.out
        have e63:=(Hbk.out.cell (p:=⟨w.heap.size,3,none⟩) hz7a).trans E63.out
        have hz8:w.heap.size<wm2.heap.size:=Nat.lt_of_lt_of_le hz7a Hbk.out.size
        clear hal htk hk6 hA2 hlt hk HB Hbk
        go_wp2_with fail
        go_loopw [4,73] (fun sv iv wr=>∃k:Nat,k≤x.bibs.length∧iv = .int .i64 (k:Int)∧sv = .string ⟨(A2++((x.bibs.take k).map Sd.encB).flatten).toArray⟩∧(A2++((x.bibs.take k).map Sd.encB).flatten).length≤18000000000+k*6000∧Below wm2.heap.size wm2 wr) (fun _ iv _=>x.bibs.length - (intOf iv).toNat)
        case atStart=>exact ⟨0,Nat.zero_le _,rfl,by simp,by simp only [List.take_zero,List.map_nil,List.flatten_nil,List.append_nil];omega,Below.refl _ _⟩
        case round =>
         obtain ⟨k,hk,rfl,rfl,hal,hb⟩:=hrel
         have Hbk:=η hb;have HB:=η (HBwm2.out.trans (hb.mono HBwm2.out.size))
         clear hb
         by_cases hlt:k<x.bibs.length
         ·
          obtain ⟨y,hy⟩:∃y,x.bibs[k]? = some y:=⟨_,List.getElem?_eq_getElem hlt⟩
          obtain ⟨b,off,vs,rfl,_,hbw,hR,hcc⟩:=Hbat.out k y hy
          have hR:vs=_:=hR
          subst hR
          have hfs:=flat_snoc Sd.encB x.bibs k y hy
          obtain ⟨acc,hacc⟩:∃acc,A2++((x.bibs.take k).map Sd.encB).flatten=acc:=⟨_,rfl⟩
          have hfs2:A2++((x.bibs.take (k+1)).map Sd.encB).flatten=acc++Sd.encB y:=by rw [hfs,←hacc];simp
          rw [hacc] at hal ⊢
          have Hfs:=η hfs2
          have hlt':(k:Int)<(x.bibs.length:Int):=by omega
          have hkl:(k:Int)+1≤9223372036854775807:=by omega
          have Hkl:=η hkl;have Hlt:=η hlt;have Hal:=η hal
          have hk6:k*6000≤1000000*6000:=Nat.mul_le_mul_right _ (by omega)
          have hps:=Sd.citeL Sd.bibW y (by decide) (Hss.out.bib y (List.mem_of_getElem? hy))
          have hrl:=rec_len _ (by simp) hps
          obtain ⟨rc,hrc⟩:∃rc,Sd.record [Sd.bibW,y]=rc:=⟨_,rfl⟩
          have hrc2:Sd.encB y=rc:=hrc
          rw [hrc] at hrl
          have hadd:¬9223372036854775807<acc.length+rc.length:=by omega
          have Hrc:=η hrc;have Hrc2:=η hrc2;have Hps:=η hps;have Hrl:=η hrl;have Hadd:=η hadd
          have a0:wr.cell? ⟨b,off+k,none⟩=some (.string ⟨y.toArray⟩):=by
           have:=(HB.out.cell (p:=⟨b,off+(k*1+0),none⟩) hbw).trans (hcc 0 _ rfl)
           rwa [Nat.mul_one,Nat.add_zero] at this
          clear hcc hy hfs hacc hfs2 hk6 hal hps hrl hrc hrc2 hkl hadd
          go_upto_region 22 with fail
          have hadd:=Hadd.out
          clear a0 hlt'
          go_upto_region 23 with (go_at_call 56; refine (side_record [Sd.bibW,y] _ _ _ (HL.out.below ((HB.out.trans ((below_new wr _).mono HB.out.size)))) (strs2 wr Sd.bibW y) (by simp) Hps.out).mono ?_;rw [Hrc.out];rintro e w9 ⟨rfl,hb9⟩;have HB9:=η (Hbk.out.trans (((below_new wr _).trans (hb9.mono (Nat.le_of_lt (lt_alloc wr _)))).mono Hbk.out.size));clear hb9)
          have hkl:=Hkl.out
          clear hadd
          go_wp2_with fail
          go_roundw
          case rel=>exact ⟨k+1,by have:=Hlt.out;omega,by go_num,by rw [Hfs.out,Hrc2.out];exact congrArg Value.string (append_data _ _),by rw [Hfs.out,Hrc2.out,List.length_append];have:=Hal.out;have:=Hrl.out;omega,HB9.out⟩
          case measure=>have:=Hlt.out;simp [intOf];omega
         ·
          have hlt':¬(k:Int)<(x.bibs.length:Int):=by omega
          have htk:x.bibs.take k=x.bibs:=List.take_of_length_le (by omega)
          rw [htk] at hal ⊢
          have hk6:k*6000≤1000000*6000:=Nat.mul_le_mul_right _ (by omega)
          go_wp2_with fail
          go_ret2
          rw [Henc.out]
          refine ⟨?_,HB.out⟩
          have h:Sd.encN x=A2++(x.bibs.map Sd.encB).flatten:=by unfold Sd.encN;rw [HA0.out,HA1.out,HA2.out]
          simp only [if_true]
          rw [h]
          rfl
end Go.Proofs.YtgnfmopcialllaaGreatDoor
set_option linter.unusedSimpArgs false
set_option linter.unusedVariables false
namespace Go.Proofs.YtgnfmopcialllaaGreatDoor
open Go.RowKit
theorem ret_cell {P:Program} {fn:Func} {R:Ending→World→Prop} {a:Act} {w:World} {v:Value} {p u:Tmp} {ty:TypeId} {ad:Addr} (h:fn.results = #[.cell p ty,.tmp u]) (hp:a.tmps.getD p undef = .pointer (some ad))
  (hl:(loadVar ty ad).run P w = .ok v w) (hd:a.defers=[]) (hR:R (.returned (.tuple #[v,a.tmps.getD u undef])) w):bodyPost P fn R .ret a w:=by
 refine bodyPost_ret (v:=.tuple #[v,a.tmps.getD u undef]) ?_ hd hR
 rw [results_cell_tmp h,hp]
 simp [asAddr,hl,Result.andThen]
theorem set3 (g:Nat) (w:World) {o0 o1 o2:Value} (a b c:Value) (d0:w.cell? ⟨g,0,none⟩=some o0) (d1:w.cell? ⟨g,1,none⟩=some o1) (d2:w.cell? ⟨g,2,none⟩=some o2) :
  (((w.setCell ⟨g,0,none⟩ a).setCell ⟨g,1,none⟩ b).setCell ⟨g,2,none⟩ c).cell? ⟨g,0,none⟩=some a∧(((w.setCell ⟨g,0,none⟩ a).setCell ⟨g,1,none⟩ b).setCell ⟨g,2,none⟩ c).cell? ⟨g,1,none⟩=some b ∧
  (((w.setCell ⟨g,0,none⟩ a).setCell ⟨g,1,none⟩ b).setCell ⟨g,2,none⟩ c).cell? ⟨g,2,none⟩=some c:=by
 refine ⟨?_,?_,?_⟩
 ·
  rw [World.cell?_setCell_other _ _ _ _ (by simp),World.cell?_setCell_other _ _ _ _ (by simp)]
  exact World.cell?_setCell_same _ _ _ d0
 ·
  rw [World.cell?_setCell_other _ _ _ _ (by simp)]
  exact World.cell?_setCell_same _ _ _ (by rw [World.cell?_setCell_other _ _ _ _ (by simp)];exact d1)
 ·
  exact World.cell?_setCell_same _ _ _ (by rw [World.cell?_setCell_other _ _ _ _ (by simp),World.cell?_setCell_other _ _ _ _ (by simp)];exact d2)
theorem set3_below {B g:Nat} {a0 w:World} (h:Below B a0 w) (hg:B≤g) (a b c:Value):Below B a0 (((w.setCell ⟨g,0,none⟩ a).setCell ⟨g,1,none⟩ b).setCell ⟨g,2,none⟩ c) :=
 ((h.setCell (p:=⟨g,0,none⟩) hg a).setCell (p:=⟨g,1,none⟩) hg b).setCell (p:=⟨g,2,none⟩) hg c
theorem frozen_below {w w':World} {B g i:Nat} (hb:Below B w w') (hg:g<B):w'.frozen? ⟨g,i,none⟩=w.frozen? ⟨g,i,none⟩:=World.frozen?_of_block (hb.block g hg)
end Go.Proofs.YtgnfmopcialllaaGreatDoor
set_option linter.unusedSimpArgs false
set_option linter.unusedVariables false
namespace Go.Proofs.YtgnfmopcialllaaGreatDoor
open Go.RowKit
def Dis (a b:Value):Prop:=∀j,a.ownBlock=some j→b.ownBlock≠some j
theorem Dis.symm {a b:Value} (h:Dis a b):Dis b a:=fun j hb ha=>h j ha hb
structure SX (g B:Nat) (W:World) (x:Sd.Side) (vl vh vc vb:Value):Prop where
 c0:W.cell? ⟨g,0,none⟩=some vl
 f0:W.frozen? ⟨g,0,none⟩=false
 c1:W.cell? ⟨g,1,none⟩=some vh
 f1:W.frozen? ⟨g,1,none⟩=false
 c2:W.cell? ⟨g,2,none⟩=some vc
 f2:W.frozen? ⟨g,2,none⟩=false
 c3:W.cell? ⟨g,3,none⟩=some vb
 f3:W.frozen? ⟨g,3,none⟩=false
 lt:g<B
 sz:B≤W.heap.size
 l:OwnL B 127 3 RLab W vl x.labs
 h:OwnL B 129 4 RHd W vh x.heads
 c:OwnL B 9 1 RStr W vc x.cites
 b:OwnL B 9 1 RStr W vb x.bibs
 d01:Dis vl vh
 d02:Dis vl vc
 d03:Dis vl vb
 d12:Dis vh vc
 d13:Dis vh vb
 d23:Dis vc vb
theorem OwnL.grown {α:Type} {B:Nat} {t:TypeId} {n:Nat} {R:α→List Value→Prop} {W W':World} {v:Value} {l:List α} {row:Option Nat} (h:OwnL B t n R W v l) (hg:W.grownBy W' row) (hne:∀j,v.ownBlock=some j→row≠some j):OwnL B t n R W' v l:=by
 obtain ⟨fl,h1,h2⟩:=h
 refine ⟨fl,h1.kept hg ?_,h2⟩
 cases hv:v.ownBlock with
 | none=>exact Or.inl rfl
 | some j=>exact Or.inr (fun e=>hne j hv e.symm)
theorem OwnL.ge {α:Type} {B:Nat} {t:TypeId} {n:Nat} {R:α→List Value→Prop} {W:World} {v:Value} {l:List α} (h:OwnL B t n R W v l) (j:Nat) (hj:v.ownBlock=some j):B≤j∧j<W.heap.size:=by
 obtain ⟨fl,h1,_⟩:=h
 exact h1.lt j hj
theorem SX.below {g B:Nat} {W W':World} {x:Sd.Side} {vl vh vc vb:Value} (h:SX g B W x vl vh vc vb) (hb:Below W.heap.size W W'):SX g B W' x vl vh vc vb:=by
 have hg:g<W.heap.size:=Nat.lt_of_lt_of_le h.lt h.sz
 exact ⟨(hb.cell (p:=⟨g,0,none⟩) hg).trans h.c0,(frozen_below hb hg).trans h.f0,(hb.cell (p:=⟨g,1,none⟩) hg).trans h.c1,(frozen_below hb hg).trans h.f1,(hb.cell (p:=⟨g,2,none⟩) hg).trans h.c2,(frozen_below hb hg).trans h.f2,(hb.cell (p:=⟨g,3,none⟩) hg).trans h.c3,(frozen_below hb hg).trans h.f3,
  h.lt,Nat.le_trans h.sz hb.size,h.l.below hb,h.h.below hb,h.c.below hb,h.b.below hb,h.d01,h.d02,h.d03,h.d12,h.d13,h.d23⟩
theorem SX.drew {g B:Nat} {W:World} {x:Sd.Side} {vl vh vc vb:Value} (h:SX g B W x vl vh vc vb):SX g B W.drew x vl vh vc vb:=h.below ((Below.refl _ _).drew)
def Kept (g B:Nat) (a w:World):Prop:=Below g a w∧∀k,k<B→k≠g→w.heap[k]? = a.heap[k]?
theorem Kept.trans {g B:Nat} {a b c:World} (h:Kept g B a b) (k:Kept g B b c):Kept g B a c:=⟨h.1.trans k.1,fun i hi hne=>(k.2 i hi hne).trans (h.2 i hi hne)⟩
theorem Kept.below {g B:Nat} {a b:World} (h:Below a.heap.size a b) (hg:g≤B) (hB:B≤a.heap.size):Kept g B a b:=⟨h.mono (by omega),fun i hi _=>h.block i (by omega)⟩
theorem own_one {a b:Value} {n:Nat} (h:b.ownBlock=a.ownBlock ∨ ∃j,b.ownBlock=some j∧n≤j) {c:Value} (hc:∀j,c.ownBlock=some j→j<n) (hd:Dis a c):Dis b c:=by
 intro j hj hcj
 rcases h with h | ⟨i,h,hi⟩
 ·
  exact hd j (h ▸ hj) hcj
 ·
  rw [h] at hj
  have h1:=hc j hcj
  have h2:i=j:=Option.some.inj hj
  omega
theorem SX.put0 {g B:Nat} {W w2:World} {x:Sd.Side} {vl vh vc vb v2:Value} {fl vs:List Value} {y:Sd.Lab} (h:SX g B W x vl vh vc vb) (hrep:RepRow RLab x.labs fl) (hy:RLab y vs) (own2:w2.ownsRow B 127 3 v2 (x.labs.length+1) (fl++vs)) (hg:W.grownBy w2 vl.ownBlock)
  (at2:v2.ownBlock=vl.ownBlock ∨ ∃j,v2.ownBlock=some j∧W.heap.size≤j):SX g B (w2.setCell ⟨g,0,none⟩ v2) { x with labs:=x.labs++[y] } v2 vh vc vb∧Kept g B W (w2.setCell ⟨g,0,none⟩ v2):=by
 have hgW:g<W.heap.size:=Nat.lt_of_lt_of_le h.lt h.sz
 have hne:vl.ownBlock≠some g:=fun e=>by have:=(h.l.ge g e).1;have:=h.lt;omega
 have q0:=(grown_cell hg hgW hne 0).trans h.c0
 have r0:=(grown_frozen hg hgW hne 0).trans h.f0
 have q1:=(grown_cell hg hgW hne 1).trans h.c1
 have r1:=(grown_frozen hg hgW hne 1).trans h.f1
 have q2:=(grown_cell hg hgW hne 2).trans h.c2
 have r2:=(grown_frozen hg hgW hne 2).trans h.f2
 have q3:=(grown_cell hg hgW hne 3).trans h.c3
 have r3:=(grown_frozen hg hgW hne 3).trans h.f3
 have hz2:B≤w2.heap.size:=Nat.le_trans h.sz hg.size
 have hset:w2.grownBy (w2.setCell ⟨g,0,none⟩ v2) (some g):=grown_set w2 g 0 v2
 have hlt:=h.lt
 have o1:OwnL B 129 4 RHd (w2.setCell ⟨g,0,none⟩ v2) vh x.heads:=(h.h.grown hg (fun k hk e=>h.d01.symm k hk e)).grown hset (fun k hk e=>by have:=(h.h.ge k hk).1;have:=Option.some.inj e;omega)
 have o2:OwnL B 9 1 RStr (w2.setCell ⟨g,0,none⟩ v2) vc x.cites:=(h.c.grown hg (fun k hk e=>h.d02.symm k hk e)).grown hset (fun k hk e=>by have:=(h.c.ge k hk).1;have:=Option.some.inj e;omega)
 have o3:OwnL B 9 1 RStr (w2.setCell ⟨g,0,none⟩ v2) vb x.bibs:=(h.b.grown hg (fun k hk e=>h.d03.symm k hk e)).grown hset (fun k hk e=>by have:=(h.b.ge k hk).1;have:=Option.some.inj e;omega)
 have o0:OwnL B 127 3 RLab (w2.setCell ⟨g,0,none⟩ v2) v2 (x.labs++[y]):=OwnL.grown (OwnL.more hrep hy own2) hset (fun k hk e=>by have:=(own2.lt k hk).1;have:=Option.some.inj e;omega)
 have x1:Dis v2 vh:=own_one at2 (fun k hk=>(h.h.ge k hk).2) h.d01
 have x2:Dis v2 vc:=own_one at2 (fun k hk=>(h.c.ge k hk).2) h.d02
 have x3:Dis v2 vb:=own_one at2 (fun k hk=>(h.b.ge k hk).2) h.d03
 refine ⟨⟨World.cell?_setCell_same _ _ _ q0,(World.frozen?_setCell _ _ _ _).trans r0,(World.cell?_setCell_other _ _ _ _ (fun e=>by injection e with _ e;omega)).trans q1,(World.frozen?_setCell _ _ _ _).trans r1,(World.cell?_setCell_other _ _ _ _ (fun e=>by injection e with _ e;omega)).trans q2,(World.frozen?_setCell _ _ _ _).trans r2,(World.cell?_setCell_other _ _ _ _ (fun e=>by injection e with _ e;omega)).trans q3,(World.frozen?_setCell _ _ _ _).trans r3,h.lt,by simpa [World.setCell] using hz2,o0,o1,o2,o3,x1,x2,x3,h.d12,h.d13,h.d23⟩,?_⟩
 refine ⟨((Below.refl g W).grown hg (Nat.le_of_lt hgW) (fun k hk=>by have:=(h.l.ge k hk).1;omega)).setCell (p:=⟨g,0,none⟩) (Nat.le_refl _) v2,fun k hk hkg=>?_⟩
 rw [Below.heap_setCell _ _ _ _ hkg]
 exact hg.block k (Nat.lt_of_lt_of_le hk h.sz) (fun e=>by have:=(h.l.ge k e.symm).1;omega)
theorem SX.put1 {g B:Nat} {W w2:World} {x:Sd.Side} {vl vh vc vb v2:Value} {fl vs:List Value} {y:Sd.Hd} (h:SX g B W x vl vh vc vb) (hrep:RepRow RHd x.heads fl) (hy:RHd y vs) (own2:w2.ownsRow B 129 4 v2 (x.heads.length+1) (fl++vs)) (hg:W.grownBy w2 vh.ownBlock)
  (at2:v2.ownBlock=vh.ownBlock ∨ ∃j,v2.ownBlock=some j∧W.heap.size≤j):SX g B (w2.setCell ⟨g,1,none⟩ v2) { x with heads:=x.heads++[y] } vl v2 vc vb∧Kept g B W (w2.setCell ⟨g,1,none⟩ v2):=by
 have hgW:g<W.heap.size:=Nat.lt_of_lt_of_le h.lt h.sz
 have hne:vh.ownBlock≠some g:=fun e=>by have:=(h.h.ge g e).1;have:=h.lt;omega
 have q0:=(grown_cell hg hgW hne 0).trans h.c0
 have r0:=(grown_frozen hg hgW hne 0).trans h.f0
 have q1:=(grown_cell hg hgW hne 1).trans h.c1
 have r1:=(grown_frozen hg hgW hne 1).trans h.f1
 have q2:=(grown_cell hg hgW hne 2).trans h.c2
 have r2:=(grown_frozen hg hgW hne 2).trans h.f2
 have q3:=(grown_cell hg hgW hne 3).trans h.c3
 have r3:=(grown_frozen hg hgW hne 3).trans h.f3
 have hz2:B≤w2.heap.size:=Nat.le_trans h.sz hg.size
 have hset:w2.grownBy (w2.setCell ⟨g,1,none⟩ v2) (some g):=grown_set w2 g 1 v2
 have hlt:=h.lt
 have o0:OwnL B 127 3 RLab (w2.setCell ⟨g,1,none⟩ v2) vl x.labs:=(h.l.grown hg (fun k hk e=>h.d01 k hk e)).grown hset (fun k hk e=>by have:=(h.l.ge k hk).1;have:=Option.some.inj e;omega)
 have o2:OwnL B 9 1 RStr (w2.setCell ⟨g,1,none⟩ v2) vc x.cites:=(h.c.grown hg (fun k hk e=>h.d12.symm k hk e)).grown hset (fun k hk e=>by have:=(h.c.ge k hk).1;have:=Option.some.inj e;omega)
 have o3:OwnL B 9 1 RStr (w2.setCell ⟨g,1,none⟩ v2) vb x.bibs:=(h.b.grown hg (fun k hk e=>h.d13.symm k hk e)).grown hset (fun k hk e=>by have:=(h.b.ge k hk).1;have:=Option.some.inj e;omega)
 have o1:OwnL B 129 4 RHd (w2.setCell ⟨g,1,none⟩ v2) v2 (x.heads++[y]):=OwnL.grown (OwnL.more hrep hy own2) hset (fun k hk e=>by have:=(own2.lt k hk).1;have:=Option.some.inj e;omega)
 have x0:Dis v2 vl:=own_one at2 (fun k hk=>(h.l.ge k hk).2) h.d01.symm
 have x2:Dis v2 vc:=own_one at2 (fun k hk=>(h.c.ge k hk).2) h.d12
 have x3:Dis v2 vb:=own_one at2 (fun k hk=>(h.b.ge k hk).2) h.d13
 refine ⟨⟨(World.cell?_setCell_other _ _ _ _ (fun e=>by injection e with _ e;omega)).trans q0,(World.frozen?_setCell _ _ _ _).trans r0,World.cell?_setCell_same _ _ _ q1,(World.frozen?_setCell _ _ _ _).trans r1,(World.cell?_setCell_other _ _ _ _ (fun e=>by injection e with _ e;omega)).trans q2,(World.frozen?_setCell _ _ _ _).trans r2,(World.cell?_setCell_other _ _ _ _ (fun e=>by injection e with _ e;omega)).trans q3,(World.frozen?_setCell _ _ _ _).trans r3,h.lt,by simpa [World.setCell] using hz2,o0,o1,o2,o3,x0.symm,h.d02,h.d03,x2,x3,h.d23⟩,?_⟩
 refine ⟨((Below.refl g W).grown hg (Nat.le_of_lt hgW) (fun k hk=>by have:=(h.h.ge k hk).1;omega)).setCell (p:=⟨g,1,none⟩) (Nat.le_refl _) v2,fun k hk hkg=>?_⟩
 rw [Below.heap_setCell _ _ _ _ hkg]
 exact hg.block k (Nat.lt_of_lt_of_le hk h.sz) (fun e=>by have:=(h.h.ge k e.symm).1;omega)
theorem SX.put2 {g B:Nat} {W w2:World} {x:Sd.Side} {vl vh vc vb v2:Value} {fl vs:List Value} {y:List UInt8} (h:SX g B W x vl vh vc vb) (hrep:RepRow RStr x.cites fl) (hy:RStr y vs) (own2:w2.ownsRow B 9 1 v2 (x.cites.length+1) (fl++vs)) (hg:W.grownBy w2 vc.ownBlock)
  (at2:v2.ownBlock=vc.ownBlock ∨ ∃j,v2.ownBlock=some j∧W.heap.size≤j):SX g B (w2.setCell ⟨g,2,none⟩ v2) { x with cites:=x.cites++[y] } vl vh v2 vb∧Kept g B W (w2.setCell ⟨g,2,none⟩ v2):=by
 have hgW:g<W.heap.size:=Nat.lt_of_lt_of_le h.lt h.sz
 have hne:vc.ownBlock≠some g:=fun e=>by have:=(h.c.ge g e).1;have:=h.lt;omega
 have q0:=(grown_cell hg hgW hne 0).trans h.c0
 have r0:=(grown_frozen hg hgW hne 0).trans h.f0
 have q1:=(grown_cell hg hgW hne 1).trans h.c1
 have r1:=(grown_frozen hg hgW hne 1).trans h.f1
 have q2:=(grown_cell hg hgW hne 2).trans h.c2
 have r2:=(grown_frozen hg hgW hne 2).trans h.f2
 have q3:=(grown_cell hg hgW hne 3).trans h.c3
 have r3:=(grown_frozen hg hgW hne 3).trans h.f3
 have hz2:B≤w2.heap.size:=Nat.le_trans h.sz hg.size
 have hset:w2.grownBy (w2.setCell ⟨g,2,none⟩ v2) (some g):=grown_set w2 g 2 v2
 have hlt:=h.lt
 have o0:OwnL B 127 3 RLab (w2.setCell ⟨g,2,none⟩ v2) vl x.labs:=(h.l.grown hg (fun k hk e=>h.d02 k hk e)).grown hset (fun k hk e=>by have:=(h.l.ge k hk).1;have:=Option.some.inj e;omega)
 have o1:OwnL B 129 4 RHd (w2.setCell ⟨g,2,none⟩ v2) vh x.heads:=(h.h.grown hg (fun k hk e=>h.d12 k hk e)).grown hset (fun k hk e=>by have:=(h.h.ge k hk).1;have:=Option.some.inj e;omega)
 have o3:OwnL B 9 1 RStr (w2.setCell ⟨g,2,none⟩ v2) vb x.bibs:=(h.b.grown hg (fun k hk e=>h.d23.symm k hk e)).grown hset (fun k hk e=>by have:=(h.b.ge k hk).1;have:=Option.some.inj e;omega)
 have o2:OwnL B 9 1 RStr (w2.setCell ⟨g,2,none⟩ v2) v2 (x.cites++[y]):=OwnL.grown (OwnL.more hrep hy own2) hset (fun k hk e=>by have:=(own2.lt k hk).1;have:=Option.some.inj e;omega)
 have x0:Dis v2 vl:=own_one at2 (fun k hk=>(h.l.ge k hk).2) h.d02.symm
 have x1:Dis v2 vh:=own_one at2 (fun k hk=>(h.h.ge k hk).2) h.d12.symm
 have x3:Dis v2 vb:=own_one at2 (fun k hk=>(h.b.ge k hk).2) h.d23
 refine ⟨⟨(World.cell?_setCell_other _ _ _ _ (fun e=>by injection e with _ e;omega)).trans q0,(World.frozen?_setCell _ _ _ _).trans r0,(World.cell?_setCell_other _ _ _ _ (fun e=>by injection e with _ e;omega)).trans q1,(World.frozen?_setCell _ _ _ _).trans r1,World.cell?_setCell_same _ _ _ q2,(World.frozen?_setCell _ _ _ _).trans r2,(World.cell?_setCell_other _ _ _ _ (fun e=>by injection e with _ e;omega)).trans q3,(World.frozen?_setCell _ _ _ _).trans r3,h.lt,by simpa [World.setCell] using hz2,o0,o1,o2,o3,h.d01,x0.symm,h.d03,x1.symm,h.d13,x3⟩,?_⟩
 refine ⟨((Below.refl g W).grown hg (Nat.le_of_lt hgW) (fun k hk=>by have:=(h.c.ge k hk).1;omega)).setCell (p:=⟨g,2,none⟩) (Nat.le_refl _) v2,fun k hk hkg=>?_⟩
 rw [Below.heap_setCell _ _ _ _ hkg]
 exact hg.block k (Nat.lt_of_lt_of_le hk h.sz) (fun e=>by have:=(h.c.ge k e.symm).1;omega)
theorem SX.put3 {g B:Nat} {W w2:World} {x:Sd.Side} {vl vh vc vb v2:Value} {fl vs:List Value} {y:List UInt8} (h:SX g B W x vl vh vc vb) (hrep:RepRow RStr x.bibs fl) (hy:RStr y vs) (own2:w2.ownsRow B 9 1 v2 (x.bibs.length+1) (fl++vs)) (hg:W.grownBy w2 vb.ownBlock)
  (at2:v2.ownBlock=vb.ownBlock ∨ ∃j,v2.ownBlock=some j∧W.heap.size≤j):SX g B (w2.setCell ⟨g,3,none⟩ v2) { x with bibs:=x.bibs++[y] } vl vh vc v2∧Kept g B W (w2.setCell ⟨g,3,none⟩ v2):=by
 have hgW:g<W.heap.size:=Nat.lt_of_lt_of_le h.lt h.sz
 have hne:vb.ownBlock≠some g:=fun e=>by have:=(h.b.ge g e).1;have:=h.lt;omega
 have q0:=(grown_cell hg hgW hne 0).trans h.c0
 have r0:=(grown_frozen hg hgW hne 0).trans h.f0
 have q1:=(grown_cell hg hgW hne 1).trans h.c1
 have r1:=(grown_frozen hg hgW hne 1).trans h.f1
 have q2:=(grown_cell hg hgW hne 2).trans h.c2
 have r2:=(grown_frozen hg hgW hne 2).trans h.f2
 have q3:=(grown_cell hg hgW hne 3).trans h.c3
 have r3:=(grown_frozen hg hgW hne 3).trans h.f3
 have hz2:B≤w2.heap.size:=Nat.le_trans h.sz hg.size
 have hset:w2.grownBy (w2.setCell ⟨g,3,none⟩ v2) (some g):=grown_set w2 g 3 v2
 have hlt:=h.lt
 have o0:OwnL B 127 3 RLab (w2.setCell ⟨g,3,none⟩ v2) vl x.labs:=(h.l.grown hg (fun k hk e=>h.d03 k hk e)).grown hset (fun k hk e=>by have:=(h.l.ge k hk).1;have:=Option.some.inj e;omega)
 have o1:OwnL B 129 4 RHd (w2.setCell ⟨g,3,none⟩ v2) vh x.heads:=(h.h.grown hg (fun k hk e=>h.d13 k hk e)).grown hset (fun k hk e=>by have:=(h.h.ge k hk).1;have:=Option.some.inj e;omega)
 have o2:OwnL B 9 1 RStr (w2.setCell ⟨g,3,none⟩ v2) vc x.cites:=(h.c.grown hg (fun k hk e=>h.d23 k hk e)).grown hset (fun k hk e=>by have:=(h.c.ge k hk).1;have:=Option.some.inj e;omega)
 have o3:OwnL B 9 1 RStr (w2.setCell ⟨g,3,none⟩ v2) v2 (x.bibs++[y]):=OwnL.grown (OwnL.more hrep hy own2) hset (fun k hk e=>by have:=(own2.lt k hk).1;have:=Option.some.inj e;omega)
 have x0:Dis v2 vl:=own_one at2 (fun k hk=>(h.l.ge k hk).2) h.d03.symm
 have x1:Dis v2 vh:=own_one at2 (fun k hk=>(h.h.ge k hk).2) h.d13.symm
 have x2:Dis v2 vc:=own_one at2 (fun k hk=>(h.c.ge k hk).2) h.d23.symm
 refine ⟨⟨(World.cell?_setCell_other _ _ _ _ (fun e=>by injection e with _ e;omega)).trans q0,(World.frozen?_setCell _ _ _ _).trans r0,(World.cell?_setCell_other _ _ _ _ (fun e=>by injection e with _ e;omega)).trans q1,(World.frozen?_setCell _ _ _ _).trans r1,(World.cell?_setCell_other _ _ _ _ (fun e=>by injection e with _ e;omega)).trans q2,(World.frozen?_setCell _ _ _ _).trans r2,World.cell?_setCell_same _ _ _ q3,(World.frozen?_setCell _ _ _ _).trans r3,h.lt,by simpa [World.setCell] using hz2,o0,o1,o2,o3,h.d01,h.d02,x0.symm,h.d12,x1.symm,x2.symm⟩,?_⟩
 refine ⟨((Below.refl g W).grown hg (Nat.le_of_lt hgW) (fun k hk=>by have:=(h.b.ge k hk).1;omega)).setCell (p:=⟨g,3,none⟩) (Nat.le_refl _) v2,fun k hk hkg=>?_⟩
 rw [Below.heap_setCell _ _ _ _ hkg]
 exact hg.block k (Nat.lt_of_lt_of_le hk h.sz) (fun e=>by have:=(h.b.ge k e.symm).1;omega)
end Go.Proofs.YtgnfmopcialllaaGreatDoor
